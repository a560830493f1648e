/- Part M04. Conditions: each statement's. -/
import Derived.Test.YtacemdoejblgaaaGreatDoorM03
namespace Go.Proofs.YtacemdoejblgaaaGreatDoor
open List
set_option maxRecDepth 100000
set_option maxHeartbeats 6400000
section
section
variable {C:Pen}{α β:Type}
theorem qbl(t:TypeId):qd C (typeInfo t) (λi=>C.P.info? t=some i):=by
 unfold typeInfo;refine qab qbe (λp hp=>?_);subst hp;split
 . rename_i h;exact qac h
 . exact qae
theorem qak(t:TypeId):qd C (underlying t) (λd=>C.P.underlying t=some d):=by
 unfold underlying;refine qab qbe (λp hp=>?_);subst hp;split
 . rename_i h;exact qac h
 . exact qae
def qpj(C:Pen)(t:TypeId):Prop:=∀i v,C.P.info? t=some i->i.zero=some v->Ok C.A C.F v
theorem qc8{t:TypeId}(h:qpj C t):qd C (zeroValue t) (Ok C.A C.F):=by
 unfold zeroValue;refine qab (qbl t) (λi hi=>?_);split
 . rename_i v hv;exact qac (h i v hi hv)
 . exact qag (by simp)
theorem qbq(t:TypeId):qd C (sizeOf t) (λ_=>True):=by
 unfold sizeOf;exact qab (qbl t) (λi hi=>qac trivial)
theorem qva(t:TypeId):qd C (isAgg t) (λ_=>True):=by
 unfold isAgg;refine qab (qak t) (λd hd=>?_);split<;>exact qac trivial
def qq(C:Pen)(vs:Array Value):Prop:=∀v,v∈vs->Ok C.A C.F v
theorem qq.push{vs:Array Value}{v:Value}(h:qq C vs)(hv:Ok C.A C.F v):qq C (vs.push v):=λu hu=>by
 rcases Array.mem_push.1 hu with h1|h1
 . exact h u h1
 . rw[h1];exact hv
theorem qq.app{vs us:Array Value}(h:qq C vs)(k:qq C us):qq C (vs++us):=λu hu=>by
 rcases Array.mem_append.1 hu with h1|h1
 . exact h u h1
 . exact k u h1
theorem qq.nil:qq C #[]:=λu hu=>by simp at hu
theorem qq.one{v:Value}(h:Ok C.A C.F v):qq C #[v]:=λu hu=>by rw[Array.mem_singleton]at hu;rw[hu];exact h
theorem qq.set{vs:Array Value}{v:Value}(h:qq C vs)(hv:Ok C.A C.F v)(i:Nat):qq C (vs.setIfInBounds i v):=λu hu=>by
 rcases Array.mem_iff_getElem?.1 hu with ⟨j,hj⟩;rw[Array.getElem?_setIfInBounds]at hj;split at hj
 . split at hj
   . cases hj;exact hv
   . cases hj
 . exact h u (Array.mem_of_getElem? hj)
theorem qq.get{vs:Array Value}(h:qq C vs){i:Nat}{v:Value}(hv:vs[i]?=some v):Ok C.A C.F v:=h v (Array.mem_of_getElem? hv)
theorem qq.extract{vs:Array Value}(h:qq C vs)(i j:Nat):qq C (vs.extract i j):=λu hu=>by
 obtain⟨k,hk⟩:=Array.mem_iff_getElem?.1 hu;rw[Array.getElem?_extract]at hk;split at hk
 . exact h.get hk
 . cases hk
theorem q6q(a:Addr)(n:Nat):(a.add n).block=a.block:=by unfold Addr.add;split<;>rfl
theorem qsi{a:Addr}(h:C.A a)(n:Nat):C.A (a.add n):=C.up a _ h (q6q a n) (by unfold Addr.add;split<;>simp)
theorem qn1{a:Addr}(ha:C.A a):∀(n i:Nat) (acc:Array Value),qq C acc->qd C (loadCellsFrom a i n acc) (qq C):=by
 intro n
 induction n with
 |zero=>intro i acc h;exact qac h
 |succ n ih=>
  intro i acc h;unfold loadCellsFrom;exact qab (qxy (qsi ha _)) (λv hv=>ih _ _ (h.push hv))
theorem qlk{a:Addr}(ha:C.A a)(n:Nat):qd C (loadCells a n) (qq C):=qn1 ha n 0 #[] .nil
theorem qg0{a:Addr}(ha:C.A a):∀(vs:List Value) (i:Nat),(∀v,v∈vs->Ok C.A C.F v)->qd C (storeCells a vs i) (λ_=>True):=by
 intro vs
 induction vs with
 |nil=>intro i h;unfold storeCells;exact qac trivial
 |cons v vs ih=>
  intro i h;unfold storeCells;exact qab (q3e (qsi ha _) (h v (by simp))) (λ_ _=>ih _ (λu hu=>h u (by simp[hu])))
theorem qf3{t:TypeId}{a:Addr}(ha:C.A a):qd C (loadVar t a) (Ok C.A C.F):=by
 unfold loadVar;refine qab (qva t) (λb _=>?_);refine qaj (λ_=>?_) (λ_=>qxy ha);exact qab (qbq t) (λn _=>qab (qlk ha n) (λcs hcs=>qac (.agg hcs)))
theorem qw1{t:TypeId}{a:Addr}{v:Value}(ha:C.A a)(hv:Ok C.A C.F v):qd C (storeVar t a v) (λ_=>True):=by
 unfold storeVar;refine qab (qbq t) (λn _=>?_);have hs:qd C (storeCells a v.cells.toList) (λ_=>True):=qg0 ha _ _ (λu hu=>hv.cells u (by simpa using hu));dsimp only;exact qaj (λ_=>qab (Q:=λ_=>True) qae (λ_ _=>hs)) (λ_=>hs)
theorem zq{t:TypeId}{cs:Array Value}(h:qq C cs):qd C (newRow t cs) (λa=>C.A a):=by
 unfold newRow;exact qab (qlj (o:=.cells cs t) ⟨rfl,h⟩) (λr hr=>qac hr)
theorem qih{t:TypeId}{v:Value}(h:Ok C.A C.F v):qd C (newVar t v) (λa=>C.A a):=zq h.cells
theorem qsj(t:TypeId):qd C (elemOf t) (λ_=>True):=by
 unfold elemOf;refine qab (qak t) (λd hd=>?_);split
 . exact qac trivial
 . exact qae
theorem qdt{t:TypeId}{cs:Array Value}(h:qq C cs)(off:Nat):qd C (part t cs off) (Ok C.A C.F):=by
 unfold part;refine qab (qva t) (λb _=>?_);refine qaj (λ_=>?_) (λ_=>?_)
 . exact qab (qbq t) (λn _=>qac (.agg (h.extract _ _)))
 . split
   . rename_i v hv;exact qac (h.get hv)
   . exact qae
theorem qhf(v:Value):qd C (asIntOf v) (λ_=>True):=by
 unfold asIntOf;split
 . exact qac trivial
 . exact qag (by simp)
 . exact qae
theorem qgc(v:Value):qd C (asInt v) (λ_=>True):=by
 unfold asInt;exact qab (qhf v) (λ_ _=>qac trivial)
theorem qsk(v:Value):qd C (asBool v) (λ_=>True):=by
 unfold asBool;split
 . exact qac trivial
 . exact qae
theorem q3f{v:Value}(h:Ok C.A C.F v):qd C (asAgg v) (qq C):=by
 unfold asAgg;split
 . exact qac h.zn
 . exact qae
def qca(C:Pen):Prop:=C.A ⟨C.P.globals.size,0,none⟩
theorem qhg(h:qca C)(t:TypeId):Ok C.A C.F (typeHandle C.P t):=.ptr (C.up _ _ h rfl (Nat.zero_le _))
theorem qam(hH:qca C)(e:RuntimeError){Q:α->Prop}:qd C (runtimePanic e) Q:=by
 unfold runtimePanic;refine qab qbe (λp hp=>?_);subst hp
 have hh:∀t:Option TypeId,Ok C.A C.F (match t with|some t=>typeHandle C.P t|none=>.pointer none):=λt=>by
  cases t with
  |none=>exact .nilPtr
  |some t=>exact qhg hH t
 split
 . exact qdp (.iface _ (.agg (fun v hv=>by
    simp only[List.mem_toArray,mem_cons,not_mem_nil,or_false]at hv;rcases hv with rfl|rfl|rfl|rfl<;>constructor)))
 . exact qdp (.iface _ (.string _))
 . exact qdp (.iface _ (.string _))
 . exact qdp (.iface _ (.string _))
 . refine qab (qsj _) (λe _=>qab (qih (.agg (λv hv=>?_))) (λr hr=>qdp (.iface _ (.ptr hr))));simp only[List.mem_toArray,mem_cons,not_mem_nil,or_false]at hv;rcases hv with rfl|rfl|rfl|rfl
   . exact hh _
   . exact hh _
   . exact qhg hH _
   . exact .string _
 . exact qab (qsj _) (λe _=>qab (qih (.agg (λv hv=>by simp at hv))) (λr hr=>qdp (.iface _ (.ptr hr))))
 . exact qdp (.iface _ (.agg (fun v hv=>by
    simp only[List.mem_toArray,mem_cons,not_mem_nil,or_false]at hv;rw[hv];exact qhg hH _)))
theorem qee(hH:qca C)(k:IntKind)(x y:Int)(c:BoundsCode){Q:α->Prop}:qd C (boundsPanic k x y c) Q:=by
 unfold boundsPanic;dsimp only;refine qaj (λ_=>?_) (λ_=>?_)
 . exact qab (Q:=λ_=>True) (qu8 (qd5 _) (λ_ _=>trivial)) (λ_ _=>qam hH _)
 . exact qab (Q:=λ_=>True) (qac trivial) (λ_ _=>qam hH _)
theorem qpk(n:Nat):qd C (askRoom n) (λ_=>True):=by
 unfold askRoom;exact qaj (λ_=>q02) (λ_=>qac trivial)
theorem qgs(hH:qca C){v:Value}(h:Ok C.A C.F v):qd C (asAddr v) (λa=>C.A a):=by
 unfold asAddr;split
 . exact qac h.jX
 . exact qam hH _
 . exact qae
theorem qnh{s:Sem α}{Q:α->Prop}(h:∀w u,Rel C w u->∀es,∃a new,s.run C.P u=.ok a u/\s.runT C.P w es=(.ok a w,es++new)/\(∀e,e∈new->yR C w.heap.size e)/\Q a):qd C s Q:=λw u es hr al=>by
 obtain⟨a,new,h1,h2,h3,h4⟩:=h w u hr es;rw[h1];exact⟨w,new,h2,hr,⟨λ_ _=>rfl,Nat.le_refl _,rfl,rfl,rfl,Nat.le_refl _,h3,.of rfl⟩,h4⟩
theorem Rel.vQ{w u:World}(h:Rel C w u){r:Nat}(hA:C.B r):(w.shape? r).isSome=(u.shape? r).isSome:=by
 rcases h.shapes hA with ⟨h1,h2⟩|⟨t,n,m,h1,h2,_⟩
 . rw[h1,h2]
 . rw[h1,h2];rfl
theorem qpl{r:Nat}(hA:C.B r){f:Bool->Sem α}{Q:α->Prop}(h:∀b,qd C (f b) Q):qd C (shape r>>=λx=>f x.isSome) Q:=by
 intro w u es hr al;have e1:(shape r>>=λx=>f x.isSome).run C.P u=(f (u.shape? r).isSome).run C.P u:=by rw[Sem.run_bind,run_shape];rfl
 have e2:(shape r>>=λx=>f x.isSome).runT C.P w es=(f (w.shape? r).isSome).runT C.P w es:=by
  have:=Sem.runT_bind' C.P (shape r) (λx=>f x.isSome) w es;exact this
 have:=h (u.shape? r).isSome w u es hr al;rw[e1];unfold Out at *;rw[e2,hr.vQ hA];exact this
theorem qsl{r:Nat}(hA:C.B r):qd C (viewAt r) (λx=>x=none):=by
 unfold viewAt;refine qpl hA (f:=λb=>if b=true then pure none else do match <-getObj r with | .view a t=>pure (some (a,t))|_=>pure none) (λb=>?_);refine qaj (λ_=>qac rfl) (λ_=>qab (qe5 hA) (λo ho=>?_));split
 . exact ho.1.elim
 . exact qac rfl
theorem qll{a:Addr}(hA:C.B a.block):qd C (noView a) (λ_=>True):=by
 unfold noView;refine qab (qsl hA) (λx hx=>?_);subst hx;exact qac trivial
end
section
variable {C:Pen}{α β γ:Type}
theorem qkb{I:β->Prop}(f:γ->β->Sem (ForInStep β)):∀(xs:List γ) (b:β),I b ->
   (∀x,x∈xs->∀b,I b->qd C (f x b) (λr=>match r with | .done b=>I b | .yield b=>I b))->qd C (forIn xs b f) I:=by
 intro xs
 induction xs with
 |nil=>intro b hb _;rw[forIn_nil];exact qac hb
 |cons x xs ih=>
  intro b hb hf;rw[forIn_cons];refine qab (hf x (by simp) b hb) (λr hr=>?_);cases r with
  |done b=>exact qac hr
  |yield b=>exact ih b hr (λy hy=>hf y (by simp[hy]))
theorem qn2{I:β->Prop}(f:γ->β->Sem (ForInStep β))(xs:Array γ)(b:β)(hb:I b)
   (hf:∀x,x∈xs->∀b,I b->qd C (f x b) (λr=>match r with | .done b=>I b | .yield b=>I b)):qd C (forIn xs b f) I:=by
 rw[<-Array.forIn_toList];exact qkb f _ b hb (λx hx=>hf x (by simpa using hx))
theorem qip{I:β->Prop}(f:Nat->β->Sem (ForInStep β))(r:Std.Legacy.Range)(b:β)(hb:I b)
   (hf:∀x b,I b->qd C (f x b) (λr=>match r with | .done b=>I b | .yield b=>I b)):qd C (forIn r b f) I:=by
 rw[Std.Legacy.Range.forIn_eq_forIn_range'];exact qkb f _ b hb (λx _=>hf x)
theorem Rel.xZ{w u:World}(h:Rel C w u){r:Nat}(hA:C.B r):(w.shape? r).map (·.1)=(u.shape? r).map (·.1):=by
 rcases h.shapes hA with ⟨h1,h2⟩|⟨t,n,m,h1,h2,_⟩
 . rw[h1,h2]
 . rw[h1,h2];rfl
theorem qsm{r:Nat}(hA:C.B r){g:Option (TypeId×Nat)->Sem α}{Q:α->Prop}(hg:∀t n m,g (some (t,n))=g (some (t,m)))(h:∀x,qd C (g x) Q):qd C (shape r>>=g) Q:=by
 intro w u es hr al;have e1:(shape r>>=g).run C.P u=(g (u.shape? r)).run C.P u:=by rw[Sem.run_bind,run_shape];rfl
 have e2:(shape r>>=g).runT C.P w es=(g (w.shape? r)).runT C.P w es:=Sem.runT_bind' C.P (shape r) g w es
 have e3:g (w.shape? r)=g (u.shape? r):=by
  have:=hr.xZ hA;cases h1:w.shape? r with
  |none=>cases h2:u.shape? r with
   |none=>rfl
   |some y=>rw[h1,h2]at this;cases this
  |some x=>cases h2:u.shape? r with
   |none=>rw[h1,h2]at this;cases this
   |some y=>
    rw[h1,h2]at this;obtain⟨t,n⟩:=x;obtain⟨t',m⟩:=y;simp only[Option.map_some,Option.some.injEq]at this;subst this;exact hg _ _ _
 have:=h (u.shape? r) w u es hr al;rw[e1];unfold Out at *;rw[e2,e3];exact this
theorem qw2{r:Nat}(hA:C.B r):qd C (numberAt r) (λx=>∀y,x=some y->C.B y.1.block):=by
 unfold numberAt;refine qpl hA (f:=λb=>if b=true then pure none else do match <-getObj r with | .number a lost=>pure (some (a,lost))|_=>pure none) (λb=>?_);refine qaj (λ_=>qac (by simp)) (λ_=>qab (qe5 hA) (λo ho=>?_));split
 . exact qac (λy e=>by cases e;exact ho.1)
 . exact qac (by simp)
theorem qcd{n:Addr}(hA:C.A n):qd C (behindNumber n) (λx=>C.B x.1.block):=by
 unfold behindNumber;refine qab (qw2 (.of hA)) (λx hx=>qac ?_);cases x with
 |none=>exact .of hA
 |some y=>exact hx y rfl
theorem qw3{a:Addr}(hA:C.B a.block)(lost:Bool):qd C (asNumber a lost) (Ok C.A C.F):=by
 unfold asNumber;exact qab (qlj (o:=.number a lost) hA) (λr hr=>qac (.ptr hr))
theorem qe6{a:Addr}(hA:C.B a.block):qd C (byteOf a) (λ_=>True):=by
 unfold byteOf;dsimp only;split
 . exact qac trivial
 . refine qab qbe (λp hp=>?_);subst hp;refine qab (qll hA) (λ_ _=>?_);refine qsm hA (λt n m=>rfl) (λx=>?_);split
   . refine qaj (λ_=>qac trivial) (λ_=>?_);split
     . exact qac trivial
     . exact qae
   . exact qae
def strs(w:World)(a:Addr):Bool:=w.frozen? a||(match w.shape? a.block with
 |some (_,n)=>w.frozen? ⟨a.block,n,none⟩
 |none=>false)
def qw4(w:World)(a:Addr):Bool:=(w.shape? a.block) matches some (_,0)
theorem qsn{w:World}(a:Addr)(es:Array Event):(stringish a).runT C.P w es=(.ok (strs w a) w,es):=by
 unfold strs;cases h1:w.frozen? a with
 |true=>simp[stringish,h1]
 |false=>
  cases hs:w.shape? a.block with
  |none=>simp[stringish,h1,hs]
  |some x=>obtain⟨t,n⟩:=x;simp[stringish,h1,hs]
theorem qvb{w:World}(a b:Addr)(es:Array Event):(mayBeOne a b).runT C.P w es=(.ok ((strs w a&&strs w b)||(strs w a&&qw4 w a)||(strs w b&&qw4 w b)) w,es):=by
 have ha:=qsn (C:=C) (w:=w) a es;have hb:=qsn (C:=C) (w:=w) b es;simp only[Sem.runT_eq,Prod.mk.injEq]at ha hb;unfold mayBeOne qw4;simp[ha.1,ha.2,hb.1,hb.2];generalize w.shape? a.block=x;generalize w.shape? b.block=y;rcases x with _|⟨t,_|n⟩<;>rcases y with _|⟨t',_|n'⟩<;>rfl
theorem qii{w:World}{a:Addr}(h:∀off s,w.frozen? ⟨a.block,off,s⟩=false):strs w a=false:=by
 unfold strs;have h1:w.frozen? a=false:=h a.off a.spot;rw[h1];split
 . simp[h]
 . rfl
theorem q8w{w:World}{a:Addr}(h:∃t n,w.shape? a.block=some (t,n)/\0<n):qw4 w a=false:=by
 obtain⟨t,n,h1,h2⟩:=h;unfold qw4;rw[h1];cases n with
 |zero=>omega
 |succ n=>rfl
theorem q03{w u:World}{a:Addr}(h:w.heap[a.block]?=u.heap[a.block]?):strs w a=strs u a/\qw4 w a=qw4 u a:=by
 have h1:∀off s,w.frozen? ⟨a.block,off,s⟩=u.frozen? ⟨a.block,off,s⟩:=λoff s=>by
  unfold World.frozen?;rw[h]
 have h2:w.shape? a.block=u.shape? a.block:=by
  unfold World.shape?;rw[h]
 have h3:w.frozen? a=u.frozen? a:=h1 a.off a.spot;refine⟨?_,by unfold qw4;rw[h2]⟩;unfold strs;rw[h3,h2];cases u.shape? a.block with
 |none=>rfl
 |some x=>obtain⟨t,n⟩:=x;simp only[h1]
theorem Rel.qbB{w u:World}(h:Rel C w u){a:Addr}(ha:C.A a):(strs w a&&qw4 w a)=(strs u a&&qw4 u a):=by
 by_cases hG:a.block=C.G
 . have hB:C.B C.G:=hG▸Pen.B.of ha;rcases h.kG hB with ⟨h1,h2⟩|h1
   . rw[<-hG]at h1 h2;rw[qii h1];rcases h2 with h2|h2
     . rw[qii h2];rfl
     . rw[q8w h2];simp
   . rw[<-hG]at h1;rw[(q03 h1).1,(q03 h1).2]
 . rw[qii (h.zu (.of ha) hG),qii (h.vl (.of ha) hG)];rfl
theorem Rel.qeD{w u:World}(h:Rel C w u){a b:Addr}(ha:C.A a)(hb:C.A b)(hne:a.block≠b.block):(strs w a&&strs w b)=false/\(strs u a&&strs u b)=false:=by
 by_cases hG:a.block=C.G
 . have hG':b.block≠C.G:=λe=>hne (hG.trans e.symm);rw[qii (h.zu (.of hb) hG'),qii (h.vl (.of hb) hG')];simp
 . rw[qii (h.zu (.of ha) hG),qii (h.vl (.of ha) hG)];simp
theorem qw5{a b:Addr}(ha:C.A a)(hb:C.A b)(hne:a.block≠b.block):qd C (mayBeOne a b) (λ_=>True):=
 qnh (λw u hr es=>by
  have h1:=qvb (C:=C) (w:=w) a b es;have h2:=qvb (C:=C) (w:=u) a b es;have k:=hr.qeD ha hb hne;rw[k.1,hr.qbB ha,hr.qbB hb]at h1;rw[k.2]at h2;rw[Sem.runT_eq,Prod.mk.injEq]at h2;exact⟨_,#[],h2.1,by rw[h1];simp,λe he=>by simp at he,trivial⟩)
theorem qs6{a b:Addr}(ha:C.A a)(hb:C.A b)(hne:a.block≠b.block):qd C (do let x <-frozen a;let y <-frozen b;pure (x&&y):Sem Bool) (λx=>x=false):=
 qnh (λw u hr es=>by
  have h2:(u.frozen? a&&u.frozen? b)=false/\(w.frozen? a&&w.frozen? b)=false:=by
   by_cases hG:a.block=C.G
   . have hG':b.block≠C.G:=λe=>hne (hG.trans e.symm);have k1:w.frozen? b=false:=hr.zu (.of hb) hG' b.off b.spot;have k2:u.frozen? b=false:=hr.vl (.of hb) hG' b.off b.spot;rw[k1,k2];simp
   . have k1:w.frozen? a=false:=hr.zu (.of ha) hG a.off a.spot;have k2:u.frozen? a=false:=hr.vl (.of ha) hG a.off a.spot;rw[k1,k2];simp
  exact⟨false,#[],by simpa using h2.1,by simpa using h2.2,λe he=>by simp at he,rfl⟩)
theorem qni{a b:Addr}(ha:C.A a)(hb:C.A b):qd C (sameAddr a b) (λ_=>True):=by
 unfold sameAddr;dsimp only;refine qaj (λ_=>qac trivial) (λhne=>?_);have hne:a.block≠b.block:=by simpa using hne
 have e:∀f:Bool->Sem Bool,(frozen a>>=λx=>frozen b>>=λy=>f (x&&y))=((do let x <-frozen a;let y <-frozen b;pure (x&&y):Sem Bool)>>=f):=λf=>by simp
 have key:qd C ((do let x <-frozen a;let y <-frozen b;pure (x&&y):Sem Bool)>>=λx=>if x=true then (do let _ <-(unsupported .addressObserved:Sem Unit);noView a;noView b;if (<-mayBeOne a b)=true then (do let y <-choose (.extern "sameAddr.stringBytes" 2);pure (y==1))else pure false)else (do noView a;noView b;if (<-mayBeOne a b)=true then (do let y <-choose (.extern "sameAddr.stringBytes" 2);pure (y==1))else pure false)) (λ_=>True):=by
  refine qab (qs6 ha hb hne) (λx hx=>?_);subst hx;simp only[Bool.false_eq_true,if_false];refine qab (qll (.of ha)) (λ_ _=>qab (qll (.of hb)) (λ_ _=>qab (qw5 ha hb hne) (λx _=>qaj (λ_=>qab (qd5 _) (λ_ _=>qac trivial)) (λ_=>qac trivial))))
 rw[<-e]at key;exact key
theorem qrj{a b:Option Addr}(ha:∀x,a=some x->C.A x)(hb:∀x,b=some x->C.A x):qd C (samePointer a b) (λ_=>True):=by
 unfold samePointer;split
 . exact qni (ha _ rfl) (hb _ rfl)
 . exact qac trivial
theorem qhh(t:TypeId):qd C (typeStr t) (λ_=>True):=by
 unfold typeStr;refine qab (qbl t) (λi _=>?_);dsimp only;exact qaj (λ_=>qag (by simp)) (λ_=>qac trivial)
theorem qjn(hH:qca C):∀(d:Nat) (t:TypeId) (x y:Value),Ok C.A C.F x->Ok C.A C.F y->qd C (Op.equalIn d t x y) (λ_=>True):=by
 intro d
 induction d with
 |zero=>intro t x y _ _;unfold Op.equalIn;exact qag (by simp)
 |succ d ih=>
  intro t x y hx hy;unfold Op.equalIn;refine qab (qak t) (λud _=>?_);split
  . exact qac trivial
  . exact qaj (λ_=>qac trivial) (λ_=>qae)
  . exact qac trivial
  . exact qac trivial
  . refine qab (qcd hx.jX) (λa ha=>qab (qcd hy.jX) (λb hb=>qab qbe (λp hp=>?_)));refine qaj (λ_=>?_) (λ_=>?_)
    . exact qab (qe6 ha) (λ_ _=>qab (qe6 hb) (λ_ _=>qac trivial))
    . refine qab (qbl t) (λi _=>?_);split
      . exact qaj (λ_=>qac trivial) (λ_=>qag (by simp))
      . exact qag (by simp)
  . exact qag (by simp)
  . exact qag (by simp)
  . exact qaj (λ_=>qac trivial) (λ_=>qae)
  . exact qaj (λ_=>qac trivial) (λ_=>qae)
  . exact qac trivial
  . exact qac trivial
  . exact qac trivial
  . refine qab (qbq _) (λn _=>?_);refine qaj (λ_=>qni hx.jX hy.jX) (λ_=>qaj (λ_=>qac trivial) (λ_=>qab (qd5 _) (λ_ _=>qac trivial)))
  . exact qrj (λa e=>by subst e;exact hx.jX) (λa e=>by subst e;exact hy.jX)
  . exact qac trivial
  . exact qac trivial
  . exact qac trivial
  . exact qac trivial
  . refine qaj (λ_=>qac trivial) (λ_=>qab (qbl _) (λi _=>?_));dsimp only;refine qaj (λ_=>?_) (λ_=>ih _ _ _ hx.zo hy.zo);refine qab qbe (λp _=>qab qbe (λp _=>?_));refine qaj (λ_=>qab (Q:=λ_=>True) (qag (by simp)) (λ_ _=>?_)) (λ_=>?_)
    . exact qab (qhh _) (λs _=>qam hH _)
    . exact qab (qhh _) (λs _=>qam hH _)
  . refine qab qbe (λp _=>?_);dsimp only;refine qaj (λ_=>qab (Q:=λ_=>True) (qag (by simp)) (λ_ _=>?_)) (λ_=>?_)
    all_goals
     refine qab (Q:=λ_=>True) (qn2 (I:=λ_=>True) _ _ _ trivial (λf _ b _=>?_)) (λr _=>?_)
     . refine qaj (λ_=>?_) (λ_=>qac trivial);refine qab (qdt hx.zn _) (λv hv=>qab (qdt hy.zn _) (λv' hv'=>qab (ih _ _ _ hv hv') (λb _=>?_)));exact qaj (λ_=>qac trivial) (λ_=>qac trivial)
     . split<;>exact qac trivial
  . refine qab (qbq _) (λn _=>?_);refine qab (Q:=λ_=>True) (qip (I:=λ_=>True) _ _ _ trivial (λf b _=>?_)) (λr _=>?_)
    . refine qab (qdt hx.zn _) (λv hv=>qab (qdt hy.zn _) (λv' hv'=>qab (ih _ _ _ hv hv') (λb _=>?_)));exact qaj (λ_=>qac trivial) (λ_=>qac trivial)
    . dsimp only;split<;>exact qac trivial
  all_goals first|exact qac trivial|exact qae
end
section
variable {C:Pen}{α β γ:Type}
theorem qlm:∀(d:Nat) (t:TypeId) (x y:Value),Ok C.A C.F x->Ok C.A C.F y->qd C (Op.eqGuardIn d t x y) (λ_=>True):=by
 intro d
 induction d with
 |zero=>intro t x y _ _;unfold Op.eqGuardIn;exact qag (by simp)
 |succ d ih=>
  intro t x y hx hy;unfold Op.eqGuardIn;refine qab (qak t) (λud _=>?_);split
  . exact qac trivial
  . refine qab (Q:=λ_=>True) (qn2 (I:=λ_=>True) _ _ _ trivial (λf _ b _=>?_)) (λr _=>?_)
    . refine qaj (λ_=>?_) (λ_=>qac trivial);refine qab (qdt hx.zn _) (λv hv=>qab (qdt hy.zn _) (λv' hv'=>qab (ih _ _ _ hv hv') (λb _=>?_)));exact qaj (λ_=>qac trivial) (λ_=>qac trivial)
    . dsimp only;split<;>exact qac trivial
  . refine qab (qbq _) (λn _=>?_);refine qab (Q:=λ_=>True) (qip (I:=λ_=>True) _ _ _ trivial (λf b _=>?_)) (λr _=>?_)
    . refine qab (qdt hx.zn _) (λv hv=>qab (qdt hy.zn _) (λv' hv'=>qab (ih _ _ _ hv hv') (λb _=>?_)));exact qaj (λ_=>qac trivial) (λ_=>qac trivial)
    . dsimp only;split<;>exact qac trivial
  . exact qac trivial
theorem qyx{op:BinOp}{t:TypeId}{x y:Operand}{a b:Value}(ha:Ok C.A C.F a)(hb:Ok C.A C.F b):qd C (eqGuard op t x y a b) (λ_=>True):=by
 unfold eqGuard;refine qaj (λ_=>qac trivial) (λ_=>?_);split
 . refine qaj (λ_=>qac trivial) (λ_=>qab (qlm _ _ _ _ ha hb) (λr _=>?_));exact qaj (λ_=>qag (by simp)) (λ_=>qac trivial)
 . refine qab qbe (λp _=>qab qbe (λp _=>?_));refine qaj (λ_=>qac trivial) (λ_=>qab (qlm _ _ _ _ ha hb) (λr _=>?_));exact qaj (λ_=>qag (by simp)) (λ_=>qac trivial)
 . exact qac trivial
theorem qnj(op:BinOp)(k:IntKind)(x y:Int):qd C (Op.intArith op k x y) (Ok C.A C.F):=by
 unfold Op.intArith;split<;>first|exact qac (.int _ _)|exact qae
theorem q04(hH:qca C)(op:BinOp)(k:IntKind)(x y:Int):qd C (Op.intDiv op k x y) (Ok C.A C.F):=by
 unfold Op.intDiv;refine qaj (λ_=>qam hH _) (λ_=>?_);split<;>first|exact qac (.int _ _)|exact qae
theorem qpm(op:BinOp)(k:IntKind)(x y:Int):qd C (Op.intBits op k x y) (Ok C.A C.F):=by
 unfold Op.intBits;dsimp only;split<;>first|exact qac (.int _ _)|exact qae
theorem qvc(hH:qca C)(op:BinOp)(k j:IntKind)(x y:Int):qd C (Op.shift op k x j y) (Ok C.A C.F):=by
 unfold Op.shift;refine qaj (λ_=>qam hH _) (λ_=>?_);dsimp only;split<;>first|exact qac (.int _ _)|exact qae
theorem q05(op:BinOp)(x y:Int):qd C (Op.intCmp op x y) (Ok C.A C.F):=by
 unfold Op.intCmp;split<;>first|exact qac (.bool _)|exact qae
theorem qnk(op:BinOp)(x y:ByteArray):qd C (Op.stringOp op x y) (Ok C.A C.F):=by
 unfold Op.stringOp;dsimp only;split
 . exact qaj (λ_=>qag (by simp)) (λ_=>qac (.string _))
 all_goals first|exact qac (.bool _)|exact qae
theorem qyy{r:Nat}(hA:C.B r){g:Option (TypeId×Nat)->Sem α}{Q:α->Prop}
   (hg:∀t n m es w u,n<=m->Rel C w u->Out C Q w es (g (some (t,m))) ((g (some (t,n))).run C.P u)) (h:qd C (g none) Q):qd C (shape r>>=g) Q:=by
 intro w u es hr al;have e1:(shape r>>=g).run C.P u=(g (u.shape? r)).run C.P u:=by rw[Sem.run_bind,run_shape];rfl
 have e2:(shape r>>=g).runT C.P w es=(g (w.shape? r)).runT C.P w es:=Sem.runT_bind' C.P (shape r) g w es;have key:=hr.shapes hA;rw[e1];rcases key with ⟨h1,h2⟩|⟨t,n,m,h1,h2,h3⟩
 . have:=h w u es hr (λk q k1 k2=>al k q k1 (by rw[e1,h2];exact k2));rw[h2];unfold Out at *;rw[e2,h1];exact this
 . have:=hg t n m es w u h3 hr;rw[h1];unfold Out at *;rw[e2,h2];exact this
theorem qs7{p:Program}{d e n m off:Nat}{b:Int}{x:Nat}(hnm:n<=m)(h:cellAtBytes p d e n off b=some x):cellAtBytes p d e m off b=some x:=by
 unfold cellAtBytes at *;dsimp only at *;split at h
 . cases h
 . rename_i h0;rw[if_neg h0];cases hb:byteOfCell p d e (off%p.cellsOf e)with
   |none=>rw[hb]at h;cases h
   |some here=>
    rw[hb]at h;simp only[Option.bind_eq_bind,Option.bind_some]at h |-;split at h
    . cases h
    . rename_i h1;rw[if_neg]
      . exact h
      . intro h2;apply h1;simp only[Bool.or_eq_true,decide_eq_true_eq]at h2 |-;rcases h2 with h2|h2
        . exact .inl h2
        . right;refine Int.le_trans ?_ h2;exact Int.ofNat_le.2 (Nat.mul_le_mul_right _ hnm)
theorem qvd{ats:Array TypeId}{t:TypeId}{x y:Value}(hx:∀a,x=.pointer (some a)->C.B a.block):qd C (Builtin.unsafeAdd_ ats t #[x,y]) (λv=>∃b:Addr,v=.pointer (some b)/\C.B b.block):=by
 unfold Builtin.unsafeAdd_;cases x with
 |pointer ptr=>
  dsimp only;refine qab (qgc _) (λn _=>?_);cases ptr with
  |some a=>
   have key : qd C (do
         let __x <-shape a.block
         match __x with
          |some (e,cells)=>do
           let p <-program
           match cellAtBytes p p.depth e (cells/p.cellsOf e) a.off n with
            |some off=>pure (Value.pointer (some {block:=a.block,off:=off,spot:=a.spot}))
            |none=>unsupported (Unsupported.unsafePointer "Add")
          |x=>unsupported (Unsupported.unsafePointer "Add"):Sem Value) (λv=>∃b:Addr,v=.pointer (some b)/\C.B b.block):=by
    refine qyy (hx a rfl) (λe n' m es w u hle hr=>?_) (qag (by simp));cases hc:cellAtBytes C.P C.P.depth e (n'/C.P.cellsOf e) a.off n with
    |none=>simp[program,Sem.run,bind,Sem.bind,hc,unsupported];trivial
    |some off=>
     have h2:=qs7 (Nat.div_le_div_right (c:=C.P.cellsOf e) hle) hc
     have e1 : (do let p <- program
                   match cellAtBytes p p.depth e (n'/p.cellsOf e) a.off n with
                   |some off=>pure (Value.pointer (some {block:=a.block,off:=off,spot:=a.spot}))
                   |none=>unsupported (Unsupported.unsafePointer "Add"):Sem Value).run C.P u=.ok (.pointer (some {block:=a.block,off:=off,spot:=a.spot})) u:=by simp[hc]
     show Out C _ w es _ ((do let p <- program
                              match cellAtBytes p p.depth e (n'/p.cellsOf e) a.off n with
                              |some off=>pure (Value.pointer (some {block:=a.block,off:=off,spot:=a.spot}))
                              |none=>unsupported (Unsupported.unsafePointer "Add"):Sem Value).run C.P u)
     rw[e1];exact⟨w,#[],by simp[program,Sem.runT,bind,Sem.bind,h2,-Sem.runT_eq];rfl,hr,Kept.refl C w,_,rfl,hx a rfl⟩
   refine qaj (λ_=>?_) (λ_=>?_)
   . dsimp only;refine qab (qsl (hx a rfl)) (λv hv=>?_);subst hv;exact qac ⟨a,rfl,hx a rfl⟩
   . exact qaj (λ_=>qab (Q:=λ_=>True) (qag (by simp)) (λ_ _=>key)) (λ_=>key)
  |none=>
   have key:qd C (unsupported (Unsupported.unsafePointer "Add"):Sem Value) (λv=>∃b:Addr,v=.pointer (some b)/\C.B b.block):=qag (by simp);refine qaj (λ_=>?_) (λ_=>?_)
   . exact qab (Q:=λ_=>True) (qag (by simp)) (λ_ _=>qaj (λ_=>qab (Q:=λ_=>True) (qag (by simp)) (λ_ _=>key)) (λ_=>key))
   . exact qaj (λ_=>qab (Q:=λ_=>True) (qag (by simp)) (λ_ _=>key)) (λ_=>key)
 |_=>exact qae
theorem qgd{t:TypeId}{x y:Value}(hx:Ok C.A C.F x):qd C (movedNumber t x y) (Ok C.A C.F):=by
 unfold movedNumber;refine qab (qak t) (λd _=>?_)
 have key:qd C (do
     let .pointer (some n):=x|Builtin.unsafeAdd_ #[] t #[x,y]
     let (a,lost) <-behindNumber n
     match <-Builtin.unsafeAdd_ #[] t #[.pointer (some a),y]with
     | .pointer (some b)=>asNumber b lost
     |v=>pure v:Sem Value) (Ok C.A C.F):=by
  split
  . refine qab (qcd hx.jX) (λp hp=>qab (qvd (λa e=>by cases e;exact hp)) (λv hv=>?_));obtain⟨b,rfl,hb⟩:=hv;exact qw3 hb _
  . rename_i hno;unfold Builtin.unsafeAdd_;cases x with
    |pointer ptr=>
     cases ptr with
     |some a=>exact absurd rfl (hno a)
     |none=>
      have key:qd C (unsupported (Unsupported.unsafePointer "Add"):Sem Value) (Ok C.A C.F):=qag (by simp);dsimp only;refine qab (qgc _) (λn _=>?_);refine qaj (λ_=>?_) (λ_=>?_)
      . exact qab (Q:=λ_=>True) (qag (by simp)) (λ_ _=>qaj (λ_=>qab (Q:=λ_=>True) (qag (by simp)) (λ_ _=>key)) (λ_=>key))
      . exact qaj (λ_=>qab (Q:=λ_=>True) (qag (by simp)) (λ_ _=>key)) (λ_=>key)
    |_=>exact qae
 dsimp only;split
 . exact qab (Q:=λ_=>True) (qag (by simp)) (λ_ _=>key)
 . exact key
theorem qln{a b:Addr}(ha:C.B a.block)(hb:C.B b.block):qd C (Op.twoPlaces a b) (λ_=>True):=by
 unfold Op.twoPlaces;refine qab qbe (λp _=>?_);have key:qd C (do pure (<-byteOf a,<-byteOf b):Sem (Nat×Nat)) (λ_=>True):=qab (qe6 ha) (λ_ _=>qab (qe6 hb) (λ_ _=>qac trivial));dsimp only;exact qaj (λ_=>qab (Q:=λ_=>True) (qag (by simp)) (λ_ _=>key)) (λ_=>key)
theorem qpn{k:IntKind}{a:Addr}{n:Int}(ha:C.B a.block):qd C (Op.addrMod k a n) (Ok C.A C.F):=by
 unfold Op.addrMod;refine qsm ha (λt n m=>rfl) (λx=>?_);split
 . refine qab (qbl _) (λi _=>?_);have key:qd C (do pure (.int k ((<-byteOf a)%n.toNat:Nat)):Sem Value) (Ok C.A C.F):=qab (qe6 ha) (λ_ _=>qac (.int _ _));dsimp only;exact qaj (λ_=>qab (Q:=λ_=>True) (qag (by simp)) (λ_ _=>key)) (λ_=>key)
 . exact qag (by simp)
theorem q3g(hH:qca C){op:BinOp}{t:TypeId}(ht:C.P.underlying t≠some .unsafePointer){x y:Value}(hx:Ok C.A C.F x)(hy:Ok C.A C.F y):qd C (binOp op t x y) (Ok C.A C.F):=by
 unfold binOp;split
 . exact qvc hH _ _ _ _ _
 . exact qvc hH _ _ _ _ _
 . refine qaj (λ_=>qae) (λ_=>?_);split
   all_goals first|exact qnj _ _ _ _|exact q04 hH _ _ _ _|exact qpm _ _ _ _|exact q05 _ _ _
 . cases hx
 . cases hx
 . exact qnk _ _ _
 . exact qab (qjn hH _ _ _ _ hx hy) (λ_ _=>qac (.bool _))
 . exact qab (qjn hH _ _ _ _ hx hy) (λ_ _=>qac (.bool _))
 . refine qab (qak t) (λd hd=>?_);split
   . exact absurd hd ht
   . exact qgd hx
 . exact qgd hy
 . exact qgd hx
 . exact qab (qcd hx.jX) (λa ha=>qab (qcd hy.jX) (λb hb=>qab (qln ha hb) (λ_ _=>qac (.int _ _))))
 all_goals first
  | exact qab (qcd hx.jX) (fun a ha=>qab (qcd hy.jX) (fun b hb=>by
      unfold Op.addrCmp;refine qab (qln ha hb) (λ_ _=>?_);split
      all_goals first|exact qac (.bool _)|exact qag (by simp)))
  |exact qab (qcd hx.jX) (λa ha=>qpn ha)
  |exact qab (qcd hy.jX) (λa ha=>qpn ha)
  |exact qag (by simp)
  |exact qae
theorem q3h{op:UnOp}{x:Value}(hx:Ok C.A C.F x):qd C (Op.unary op x) (Ok C.A C.F):=by
 unfold Op.unary;split
 . exact qnj _ _ _ _
 . exact qpm _ _ _ _
 . cases hx
 . cases hx
 . exact qac (.bool _)
 all_goals first|exact qag (by simp)|exact qae
end
section
variable {C:Pen}{α β γ:Type}
theorem qfm{v:Value}(h:Ok C.A C.F v):qd C (Instr.sureAddr v) (λa=>C.A a):=by
 unfold Instr.sureAddr;split
 . exact qac h.jX
 . exact qae
theorem q06{t:TypeId}{v:Value}(h:Ok C.A C.F v):qd C (Instr.loadAt t v) (Ok C.A C.F):=by
 unfold Instr.loadAt;exact qab (qfm h) (λa ha=>qf3 ha)
theorem qyz{t:TypeId}{v x:Value}(h:Ok C.A C.F v)(hx:Ok C.A C.F x):qd C (Instr.storeAt t v x) (λ_=>True):=by
 unfold Instr.storeAt;exact qab (qfm h) (λa ha=>qw1 ha hx)
theorem q07{a:Addr}(ha:C.A a)(i j:Nat):qd C (partAt a i j) (λb=>C.A b):=by
 unfold partAt;refine qab (qe6 (.of ha)) (λb _=>qab (qe6 (a:={block:=a.block,off:=a.off+i}) ⟨a,ha,rfl⟩) (λb' _=>qac ?_));split<;>exact C.up _ _ ha rfl (Nat.le_add_right _ _)
theorem qg1{a:Addr}(ha:C.A a)(f:Field):qd C (fieldPlace a f) (λb=>C.A b):=by
 unfold fieldPlace;refine qab (qbq _) (λn _=>qaj (λ_=>q07 ha _ _) (λ_=>qac ?_));exact qsi ha _
theorem qy0{s:TypeId}{v:Value}(h:Ok C.A C.F v)(f:Nat):qd C (Instr.fieldAt s v f) (Ok C.A C.F):=by
 unfold Instr.fieldAt;refine qab (qak s) (λd _=>?_);split
 . split
   . exact qab (qfm h) (λa ha=>qab (qg1 ha _) (λb hb=>qac (.ptr hb)))
   . exact qae
 . exact qae
theorem qy1(hH:qca C){t:TypeId}{x ix:Value}(hx:Ok C.A C.F x):qd C (Instr.indexAt t x ix) (Ok C.A C.F):=by
 unfold Instr.indexAt;refine qab (qhf _) (λp _=>?_);refine qab (qak t) (λd _=>?_)
 have tail:∀ r:Option Addr × Nat × TypeId,(∀ a,r.1=some a->C.A a)->qd C (do
     let tiny:=r.2.1<=1&&(match <-underlying t with | .array ..=>true|_=>false)
     match r.1 with
     |some a=>
      if 0<=p.2/\p.2<r.2.1 then pure (.pointer (some (a.add (p.2.toNat*(<-sizeOf r.2.2)))))
      else if tiny then unsupported (.noEntry "op/indexAddr.an index out of range at an array of length 0 or 1 (ledger 616)")
      else boundsPanic p.1 p.2 r.2.1 .index
     |none=>boundsPanic p.1 p.2 0 .index:Sem Value) (Ok C.A C.F):=by
  intro r hr;refine qab (qak t) (λd _=>?_);dsimp only;split
  . rename_i a ha;refine qaj (λ_=>qab (qbq _) (λn _=>qac (.ptr ?_))) (λ_=>qaj (λ_=>qag (by simp)) (λ_=>qee hH _ _ _ _));exact qsi (hr a ha) _
  . exact qee hH _ _ _ _
 split
 . exact qab (qfm hx) (λa ha=>qab (Q:=λr:Option Addr×Nat×TypeId=>∀a,r.1=some a->C.A a) (qac (λb e=>by cases e;exact ha)) tail)
 . exact qab (Q:=λr:Option Addr×Nat×TypeId=>∀a,r.1=some a->C.A a) (qac (λb e=>by dsimp only at e;subst e;exact hx.of_slice)) tail
 . exact qab (Q:=λ_=>False) qae (λ_ h=>h.elim)
theorem qfp(hH:qca C)(x:Value)(y:Nat)(c:BoundsCode):qd C (Instr.sliceBound x y c) (λ_=>True):=by
 unfold Instr.sliceBound;exact qab (qhf x) (λp _=>qaj (λ_=>qac trivial) (λ_=>qee hH _ _ _ _))
theorem qef(hH:qca C)(b:Bool)(l c:Nat)(lo hi mx:Option Value):qd C (Instr.sliceBounds b l c lo hi mx) (λ_=>True):=by
 unfold Instr.sliceBounds
 have t3:∀ m h:Nat,qd C (do
     let l <-match lo with
      |some v=>Instr.sliceBound v h (if mx.isSome then .slice3C else .sliceB)
      |none=>pure 0
     pure (l,h,m):Sem (Nat×Nat×Nat)) (λ_=>True):=by
  intro m h;cases lo with
  |some v=>exact qab (qfp hH _ _ _) (λ_ _=>qac trivial)
  |none=>exact qac trivial
 have t2:∀ m:Nat,qd C (do
     let h <-match hi,mx with
      |some v,some _=>Instr.sliceBound v m .slice3B
      |some v,none=>Instr.sliceBound v m (if b then .sliceAcap else .sliceAlen)
      |none,none=>pure l
      |none,some _=>stuck "Slice: max without high"
     let l <-match lo with
      |some v=>Instr.sliceBound v h (if mx.isSome then .slice3C else .sliceB)
      |none=>pure 0
     pure (l,h,m):Sem (Nat×Nat×Nat)) (λ_=>True):=by
  intro m;have:=t3 m;cases hi<;>cases mx<;>dsimp only at this |-
  . exact this l
  . exact qab (Q:=λ_=>True) qae (λh _=>this h)
  . exact qab (qfp hH _ _ _) (λh _=>this h)
  . exact qab (qfp hH _ _ _) (λh _=>this h)
 cases mx with
 |none=>exact t2 c
 |some v=>exact qab (qfp hH _ _ _) (λm _=>t2 m)
theorem q08{a:Option Addr}{n:Nat}(h:∀x,a=some x->C.A x):∀x,a.map (·.add n)=some x->C.A x:=by
 intro x e;cases a with
 |none=>cases e
 |some a=>cases e;exact qsi (h a rfl) _
theorem q3i(hH:qca C){t:TypeId}{x:Value}{lo hi mx:Option Value}(hx:Ok C.A C.F x):qd C (Instr.slice t x lo hi mx) (Ok C.A C.F):=by
 unfold Instr.slice;refine qab (qak t) (λd _=>?_);split
 . dsimp only;refine qaj (λ_=>qab (Q:=λ_=>True) qae (λ_ _=>qab (qef hH _ _ _ _ _ _) (λ_ _=>qac (.string _)))) (λ_=>qab (qef hH _ _ _ _ _ _) (λ_ _=>qac (.string _)))
 . rename_i a len cap _;refine qab (qef hH _ _ _ _ _ _) (λr _=>qab (qbq _) (λn _=>qac (.slice _ _ ?_)));have h0:∀x,a=some x->C.A x:=λy e=>by subst e;exact hx.of_slice
   split
   . exact h0
   . exact q08 h0
 . refine qab (qgs hH hx) (λa ha=>qab (qak _) (λd _=>?_));split
   . refine qab (qef hH _ _ _ _ _ _) (λr _=>qab (qbq _) (λn _=>qac (.slice _ _ (λy e=>?_))));cases e;split
     . exact ha
     . exact qsi ha _
   . exact qae
 . exact qae
theorem qy2(hH:qca C){t:TypeId}{x:Value}{lo hi mx:Option Value}(hx:Ok C.A C.F x):qd C (Instr.sliceAt t x lo hi mx) (Ok C.A C.F):=by
 unfold Instr.sliceAt;refine qab (qak t) (λd _=>?_);split
 . refine qab (qfm hx) (λa ha=>qab (qef hH _ _ _ _ _ _) (λr _=>qab (qbq _) (λn _=>qac (.slice _ _ (λy e=>?_)))));cases e;split
   . exact ha
   . exact qsi ha _
 . exact q3i hH hx
theorem q8x{t:TypeId}{v:Value}(h:Ok C.A C.F v):qd C (Instr.box t v) (Ok C.A C.F):=by
 unfold Instr.box;exact qab (qih h) (λa ha=>qac (.ptr ha))
theorem q3j{t:TypeId}(hz:qpj C t):qd C (Instr.alloc t true (.tuple #[])) (Ok C.A C.F):=by
 unfold Instr.alloc;refine qab (qc8 hz) (λz hz=>?_);exact qab (qih hz) (λa ha=>qac (.ptr ha))
theorem q3k{l:List (Value×Nat)}{off:Nat}:∀{cs:Array Value},qq C cs->(∀p,p∈l->Ok C.A C.F p.1)->qq C (l.foldl (λcs (p:Value×Nat)=>cs.setIfInBounds (off+p.2) p.1) cs):=by
 induction l with
 |nil=>intro cs h _;exact h
 |cons p l ih=>
  intro cs h hl;exact ih (h.set (hl p (by simp)) _) (λq hq=>hl q (by simp[hq]))
theorem q3l{place:Nat->Option (Nat×Nat)}:∀(l:List (Nat×Value)) (cells out:Array Value),qq C cells->(∀p,p∈l->Ok C.A C.F p.2)->Instr.fill place cells l=some out->qq C out:=by
 intro l
 induction l with
 |nil=>intro cells out h _ e;cases e;exact h
 |cons p l ih=>
  intro cells out h hl e;obtain⟨i,v⟩:=p;unfold Instr.fill at e;split at e
  . cases e
  . split at e
    . cases e
    . refine ih _ out ?_ (λq hq=>hl q (by simp[hq])) e;rw[<-Array.foldl_toList];refine q3k h (λq hq=>?_);have hv:=(hl (i,v) (by simp)).cells;have hq':q∈v.cells.zipIdx:=Array.mem_toList_iff.1 hq;obtain⟨j,hj⟩:=Array.mem_iff_getElem?.1 hq';rw[Array.getElem?_zipIdx]at hj;cases hg:v.cells[j]? with
      |none=>rw[hg]at hj;cases hj
      |some y=>rw[hg]at hj;cases hj;exact hv y (Array.mem_of_getElem? hg)
theorem qve{f:α->Sem β}(h:∀x,qd C (f x) (λ_=>True))(xs:Array α):qd C (xs.mapM f) (λ_=>True):=by
 rw[Array.mapM_eq_mapM_toList];refine qu8 (Q:=λ_=>True) ?_ (λ_ _=>trivial);generalize xs.toList=l
 induction l with
 |nil=>rw[mapM_nil];exact qac trivial
 |cons x l ih=>rw[mapM_cons];exact qab (h x) (λ_ _=>qab ih (λ_ _=>qac trivial))
theorem q3m{t:TypeId}{parts:Array (Nat×Value)}(hz:qpj C t)(hp:∀p,p∈parts->Ok C.A C.F p.2):qd C (Instr.build t parts) (Ok C.A C.F):=by
 unfold Instr.build;refine qab (qc8 hz) (λz hz=>qab (qak t) (λd _=>?_));split
 . refine qab (qve (λf=>qab (qbq _) (λ_ _=>qac trivial)) _) (λplaces _=>?_);split
   . rename_i cells hc;exact qac (.agg (q3l _ _ _ hz.cells (λp hp'=>hp p (by simpa using hp')) hc))
   . exact qae
 . refine qab (qbq _) (λn _=>?_);split
   . rename_i cells hc;exact qac (.agg (q3l _ _ _ hz.cells (λp hp'=>hp p (by simpa using hp')) hc))
   . exact qae
 . exact qae
def qhn(C:Pen)(t:TypeId):Prop:=∀e,C.P.underlying t=some (.slice e)->qpj C e
theorem qvf{zero:Array Value}(h:qq C zero)(hd:Ok C.A C.F default)(n:Nat):qq C ((Array.range n).map (λi=>zero[i%zero.size]!)):=by
 intro v hv;obtain⟨i,_,rfl⟩:=Array.mem_map.1 hv;by_cases hi:i%zero.size<zero.size
 . rw[getElem!_pos zero _ hi];exact h _ (Array.getElem_mem hi)
 . rw[getElem!_neg zero _ hi];exact hd
theorem qrk{A:Addr->Prop}{F:FuncId->Prop}:Ok A F (default:Value):=.bool _
theorem qs8{t:TypeId}{len:Nat}{parts:Array (Nat×Value)}(hz:qhn C t)(hp:∀p,p∈parts->Ok C.A C.F p.2):qd C (Instr.buildSlice t len parts) (Ok C.A C.F):=by
 unfold Instr.buildSlice;refine qab (qak t) (λd hd=>?_);split
 . rename_i elem;refine qab (qbq _) (λsize _=>?_)
   have tail:∀ zero:Array Value,qq C zero->qd C (do
       let some cells:=Instr.fill (λi=>some (i*size,size)) ((Array.range (len*size)).map (zero[· % zero.size]!)) parts.toList
        |stuck "buildSlice: a part of the wrong size"
       pure (.slice (some (<-newRow elem cells)) len len):Sem Value) (Ok C.A C.F):=by
    intro zero h;split
    . rename_i cells hc;refine qab (zq (q3l _ _ _ (qvf h qrk _) (λp hp'=>hp p (by simpa using hp')) hc)) (λa ha=>qac (.slice _ _ (λx e=>by cases e;exact ha)))
    . exact qae
   dsimp only;refine qaj (λ_=>qab (Q:=λ_=>True) (qag (by simp)) (λ_ _=>?_)) (λ_=>?_)
   all_goals exact qaj (λ_=>qab (Q:=qq C) (qac .nil) (λz hz=>tail z hz)) (λ_=>qab (qc8 (hz _ hd)) (λz hz=>qab (Q:=qq C) (qac hz.cells) (λz hz=>tail z hz)))
 . exact qae
end
section
variable {C:Pen}{α β γ:Type}
theorem qvg(hH:qca C){t:TypeId}{l c:Value}(hz:qhn C t):qd C (Instr.makeSlice t l c) (Ok C.A C.F):=by
 unfold Instr.makeSlice;refine qab (qak t) (λd hd=>?_);split
 . rename_i elem;refine qab (qgc _) (λlen _=>qab (qgc _) (λcap _=>qab (qbl _) (λi _=>?_)))
   have tail:∀ (zero:Array Value) (n l c:Nat),qq C zero->qd C (do
       let a <-newRow elem ((Array.range n).map (zero[· % zero.size]!))
       pure (.slice (some a) l c):Sem Value) (Ok C.A C.F):=λzero n l c h=>
    qab (zq (qvf h qrk _)) (λa ha=>qac (.slice _ _ (λx e=>by cases e;exact ha)))
   dsimp only
   have rest:∀n l c:Nat,qd C (if n=0 then (do let z <-pure #[];let a <-newRow elem ((Array.range n).map (z[· % z.size]!));pure (.slice (some a) l c))else (do let v <-zeroValue elem;let z <-pure v.cells;let a <-newRow elem ((Array.range n).map (z[· % z.size]!));pure (.slice (some a) l c)):Sem Value) (Ok C.A C.F):=λn l c=>
    qaj (λ_=>qab (Q:=qq C) (qac .nil) (λz hz=>tail z n l c hz)) (λ_=>qab (qc8 (hz _ hd)) (λz hz=>qab (Q:=qq C) (qac hz.cells) (λz hz=>tail z n l c hz)))
   have qib:∀ b l c:Nat,qd C (do
       askRoom b
       let s <-sizeOf elem
       if c*s=0 then (do let z <-pure #[];let a <-newRow elem ((Array.range (c*s)).map (z[· % z.size]!));pure (.slice (some a) l c))else (do let v <-zeroValue elem;let z <-pure v.cells;let a <-newRow elem ((Array.range (c*s)).map (z[· % z.size]!));pure (.slice (some a) l c)):Sem Value) (Ok C.A C.F):=λb l c=>
    qab (qpk _) (λ_ _=>qab (qbq _) (λs _=>rest _ _ _))
   refine qaj (λ_=>?_) (λ_=>qib _ _ _);refine qaj (λ_=>qab (Q:=λ_=>True) (qam hH _) (λ_ _=>qib _ _ _)) (λ_=>?_);refine qaj (λ_=>qab (Q:=λ_=>True) (qam hH _) (λ_ _=>qib _ _ _)) (λ_=>?_);exact qab (qd5 _) (λ_ _=>qab (Q:=λ_=>True) (qam hH _) (λ_ _=>qib _ _ _))
 . exact qae
theorem qy3{t:TypeId}{r:Option Value}:qd C (Instr.makeMap t r) (Ok C.A C.F):=by
 unfold Instr.makeMap;have tail:qd C (do pure (.map (some (<-newObj (.map #[] 0)))):Sem Value) (Ok C.A C.F):=qab (qlj (o:=.map #[] 0) (λe he=>by simp at he)) (λr hr=>qac (.map (λx e=>by cases e;exact hr)));dsimp only;split
 . refine qab (qak t) (λd _=>?_);split
   . exact qab (qgc _) (λ_ _=>tail)
   . exact qab (Q:=λ_=>True) qae (λ_ _=>tail)
 . exact tail
theorem q3n{t:TypeId}{x:Value}{f:Nat}(hx:Ok C.A C.F x):qd C (Instr.field t x f) (Ok C.A C.F):=by
 unfold Instr.field;refine qab (qak t) (λd _=>?_);split
 . split
   . exact qab (q3f hx) (λcs hcs=>qdt hcs _)
   . exact qae
 . exact qae
theorem q3o(hH:qca C){t:TypeId}{x ix:Value}(hx:Ok C.A C.F x):qd C (Instr.index t x ix) (Ok C.A C.F):=by
 unfold Instr.index;refine qab (qhf _) (λp _=>qab (qak t) (λd _=>?_));split
 . exact qaj (λ_=>qab (qbq _) (λn _=>qdt hx.zn _)) (λ_=>qee hH _ _ _ _)
 . split
   . exact qac (.int _ _)
   . exact qee hH _ _ _ _
 . exact qae
theorem qy4{x:Value}{i:Nat}(hx:Ok C.A C.F x):qd C (Instr.extract x i) (Ok C.A C.F):=by
 unfold Instr.extract;split
 . split
   . rename_i v hv;exact qac (qq.get (C:=C) hx.zR hv)
   . exact qae
 . exact qae
theorem qn3{t:TypeId}{x:Value}(hx:Ok C.A C.F x):qd C (Instr.makeInterface t x) (Ok C.A C.F):=by
 unfold Instr.makeInterface;refine qab (qak t) (λd _=>?_);split
 . exact qae
 . exact qac (.iface _ hx)
theorem qs9(hH:qca C){x:Value}{t a:TypeId}{b:Bool}(hx:Ok C.A C.F x)(hz:qpj C a):qd C (Instr.typeAssert x t a b) (Ok C.A C.F):=by
 unfold Instr.typeAssert
 have holds:∀v,Ok C.A C.F v->qd C (pure (if b then .tuple #[v,.bool true]else v):Sem Value) (Ok C.A C.F):=λv hv=>qac (by
  split
  . exact .tuple (fun u hu=>by
     simp only[List.mem_toArray,mem_cons,not_mem_nil,or_false]at hu;rcases hu with rfl|rfl
     . exact hv
     . exact .bool _)
  . exact hv)
 have fails:∀e,qd C (if b then (do pure (.tuple #[<-zeroValue a,.bool false]))else runtimePanic e:Sem Value) (Ok C.A C.F):=λe=>
  qaj (λ_=>qab (qc8 hz) (λz hz=>qac (.tuple (λu hu=>by
   simp only[List.mem_toArray,mem_cons,not_mem_nil,or_false]at hu;rcases hu with rfl|rfl
   . exact hz
   . exact .bool _)))) (λ_=>qam hH _)
 dsimp only;refine qab (qak a) (λd _=>?_);split
 . exact fails _
 . refine qab (qbl _) (λi _=>?_);split
   . exact holds _ hx
   . exact fails _
 . exact fails _
 . exact qaj (λ_=>holds _ hx.zo) (λ_=>fails _)
 . exact qae
theorem qnl(hH:qca C)(b:Bool):∀(n:Nat) (t:TypeId) (v:Value),Ok C.A C.F v->qd C (Instr.checkKey b n t v) (λ_=>True):=by
 intro n
 induction n with
 |zero=>intro t v _;unfold Instr.checkKey;exact qag (by simp)
 |succ n ih=>
  intro t v hv;unfold Instr.checkKey;refine qab (qak t) (λd _=>?_);split
  . refine qab (qbl _) (λi _=>?_);dsimp only;refine qaj (λ_=>?_) (λ_=>ih _ _ hv.zo);refine qaj (λ_=>qab (Q:=λ_=>True) (qam hH _) (λ_ _=>?_)) (λ_=>?_)
    . exact qab (qhh _) (λs _=>qab (Q:=λ_=>True) (qam hH _) (λ_ _=>ih _ _ hv.zo))
    . exact qab (qhh _) (λs _=>qab (Q:=λ_=>True) (qam hH _) (λ_ _=>ih _ _ hv.zo))
  . refine qab (Q:=λ_=>True) (qip (I:=λ_=>True) _ _ _ trivial (λf b _=>?_)) (λr _=>qac trivial);exact qab (qbq _) (λ_ _=>qab (qdt hv.zn _) (λu hu=>qab (ih _ _ hu) (λ_ _=>qac trivial)))
  . refine qab (Q:=λ_=>True) (qn2 (I:=λ_=>True) _ _ _ trivial (λf _ b _=>?_)) (λr _=>qac trivial);refine qaj (λ_=>qab (qdt hv.zn _) (λu hu=>qab (ih _ _ hu) (λ_ _=>qac trivial))) (λ_=>qac trivial)
  . exact qac trivial
  all_goals first|exact qae|exact qac trivial
theorem qta(hH:qca C){t:TypeId}{k:Value}(hk:Ok C.A C.F k):∀(es:List MapEntry) (i:Nat),(∀e,e∈es->Ok C.A C.F e.key/\Ok C.A C.F e.val) ->
   qd C (Instr.findAsking t k es i) (λr=>∀x,r=some x->Ok C.A C.F x.2):=by
 intro es
 induction es with
 |nil=>intro i _;unfold Instr.findAsking;exact qac (by simp)
 |cons e es ih=>
  intro i h;unfold Instr.findAsking;refine qab (qjn hH _ _ _ _ hk (h e (by simp)).1) (λb _=>qaj (λ_=>qac (λx hx=>by cases hx;exact(h e (by simp)).2)) (λ_=>ih _ (λe' h'=>h e' (by simp[h']))))
theorem q6r{kind:TypeDesc}{k:Value}:∀(es:List MapEntry) (i:Nat),(∀e,e∈es->Ok C.A C.F e.key/\Ok C.A C.F e.val)->∀r,Instr.findNow kind k es i=some r->∀x,r=some x->Ok C.A C.F x.2:=by
 intro es
 induction es with
 |nil=>intro i _ r h x hx;unfold Instr.findNow at h;cases h;cases hx
 |cons e es ih=>
  intro i he r h x hx;unfold Instr.findNow at h;split at h
  . cases h;cases hx;exact(he e (by simp)).2
  . exact ih _ (λe' h'=>he e' (by simp[h'])) r h x hx
  . cases h
theorem qpo(hH:qca C){t:TypeId}{k:Value}(hk:Ok C.A C.F k){es:List MapEntry}(h:∀e,e∈es->Ok C.A C.F e.key/\Ok C.A C.F e.val) :
   qd C (Instr.findKey t k es) (λr=>∀x,r=some x->Ok C.A C.F x.2):=by
 unfold Instr.findKey;refine qab (qak t) (λd _=>?_);split
 . rename_i r hr;exact qac (q6r es 0 h r hr)
 . exact qta hH hk es 0 h
def qvh(C:Pen)(t:TypeId):Prop:=∀k e,C.P.underlying t=some (.map k e)->qpj C e
theorem q09(hH:qca C){t:TypeId}{x ix:Value}{b:Bool}(hz:qvh C t)(hx:Ok C.A C.F x)(hi:Ok C.A C.F ix):qd C (Instr.lookup t x ix b) (Ok C.A C.F):=by
 unfold Instr.lookup;refine qab (qak t) (λd hd=>?_);split
 . rename_i key elem
   have two:∀(v:Value) (ok:Bool),Ok C.A C.F v->Ok C.A C.F (if b then .tuple #[v,.bool ok]else v):=λv ok hv=>by
    split
    . exact .tuple (fun u hu=>by
       simp only[List.mem_toArray,mem_cons,not_mem_nil,or_false]at hu;rcases hu with rfl|rfl
       . exact hv
       . exact .bool _)
    . exact hv
   have tail:∀ es:Array MapEntry,(∀ e,e∈es->Ok C.A C.F e.key/\Ok C.A C.F e.val)->qd C (do
       Instr.checkKey es.isEmpty 10000 key ix
       let r <-Instr.findKey key ix es.toList
       match r with
       |some (_,v)=>do let p <-pure (v,true);match p with|(v,ok)=>pure (if b then .tuple #[v,.bool ok]else v)
       |none=>do let z <-zeroValue elem;let p <-pure (z,false);match p with|(v,ok)=>pure (if b then .tuple #[v,.bool ok]else v):Sem Value) (Ok C.A C.F):=by
    intro es hes;refine qab (qnl hH _ _ _ _ hi) (λ_ _=>qab (qpo hH hi (λe he=>hes e (by simpa using he))) (λr hr=>?_));split
    . exact qab (Q:=λp:Value×Bool=>Ok C.A C.F p.1) (qac (hr _ rfl)) (λp hp=>qac (two _ _ hp))
    . exact qab (qc8 (hz _ _ hd)) (λz hz=>qab (Q:=λp:Value×Bool=>Ok C.A C.F p.1) (qac hz) (λp hp=>qac (two _ _ hp)))
   dsimp only;split
   . exact qab (Q:=λes:Array MapEntry=>∀e,e∈es->Ok C.A C.F e.key/\Ok C.A C.F e.val) (qac (λe he=>by simp at he)) (λes hes=>tail es hes)
   . refine qab (qe5 (.obj hx.of_map)) (λo ho=>?_);split
     . exact qab (Q:=λes:Array MapEntry=>∀e,e∈es->Ok C.A C.F e.key/\Ok C.A C.F e.val) (qac ho.1) (λes hes=>tail es hes)
     . exact qab (Q:=λ_=>False) qae (λ_ h=>h.elim)
   . exact qab (Q:=λ_=>False) qae (λ_ h=>h.elim)
 . exact qae
theorem qpp{a b:Value}(ha:Ok C.A C.F a)(hb:Ok C.A C.F b):qd C (Instr.keyThatStays a b) (Ok C.A C.F):=by
 unfold Instr.keyThatStays;refine qaj (λ_=>qac hb) (λ_=>qab (qd5 _) (λn _=>qac ?_));split
 . exact hb
 . exact ha
theorem mem_modify{es:Array MapEntry}{i:Nat}{f:MapEntry->MapEntry}{Q:MapEntry->Prop}(h:∀e,e∈es->Q e)(hf:∀e,Q e->Q (f e)):∀e,e∈es.modify i f->Q e:=by
 intro e he;obtain⟨j,hj⟩:=Array.mem_iff_getElem?.1 he;rw[Array.getElem?_modify]at hj;split at hj
 . obtain⟨y,hy,rfl⟩:=Option.map_eq_some_iff.1 hj;exact hf _ (h _ (Array.mem_of_getElem? hy))
 . exact h _ (Array.mem_of_getElem? hj)
theorem qlo(hH:qca C){t:TypeId}{m k v:Value}(hm:Ok C.A C.F m)(hk:Ok C.A C.F k)(hv:Ok C.A C.F v):qd C (Instr.mapUpdate t m k v) (λ_=>True):=by
 unfold Instr.mapUpdate;refine qab (qak t) (λd _=>?_);split
 . split
   . exact qam hH _
   . refine qab (qe5 (.obj hm.of_map)) (λo ho=>?_);split
     . rename_i es clock;have hes:∀e,e∈es->Ok C.A C.F e.key/\Ok C.A C.F e.val:=ho.1;refine qab (qnl hH _ _ _ _ hk) (λ_ _=>qab (qpo hH hk (λe he=>hes e (by simpa using he))) (λr _=>?_));split
       . rename_i i _ _
         have hold:Ok C.A C.F (((es[i]?).map (·.key)).getD k):=by
          cases hg:es[i]? with
          |none=>exact hk
          |some e=>exact(hes e (Array.mem_of_getElem? hg)).1
         exact qab (qpp hold hk) (λk' hk'=>qsh (.obj hm.of_map) (o:=.map _ _) (mem_modify hes (λe _=>⟨hk',hv⟩)) (ho.2.2.2 _ _ rfl) rfl)
       . refine qsh (.obj hm.of_map) (o:=.map _ _) (λe he=>?_) (ho.2.2.2 _ _ rfl) rfl;rcases Array.mem_push.1 he with h1|h1
         . exact hes e h1
         . rw[h1];exact⟨hk,hv⟩
     . exact qae
   . exact qae
 . exact qae
end
section
variable {C:Pen}{α β γ:Type}
theorem qvi(v:Value):qd C (Builtin.lenOf v) (λ_=>True):=by
 unfold Builtin.lenOf;split<;>first|exact qac trivial|exact qae
theorem qg2{s n:Nat}{v:Value}(hv:Ok C.A C.F v):qd C (Builtin.firstCells s n v) (qq C):=by
 unfold Builtin.firstCells;split
 . exact qlk hv.of_slice _
 . exact qac .nil
 . refine qac (λu hu=>?_);obtain⟨b,_,rfl⟩:=Array.mem_map.1 hu;exact .int _ _
 . exact qae
theorem qso{zero:Array Value}(h:qq C zero)(n:Nat):qq C (Builtin.zeroCells zero n):=qvf h qrk _
theorem q6s{s:Sem α}{Q:α->Prop}(h:∀u,∃x v,s.run C.P u=.halt x v/\Fatal x):qd C s Q:=λw u es _ _=>by
 obtain⟨x,u',h1,h2⟩:=h u;rw[h1];exact qu9 h2
def Looks(C:Pen)(s:Sem α):Prop:=∀u,∃b,s.run C.P u=.ok b u
theorem qfd(a:α):Looks C (pure a):=λ_=>⟨a,rfl⟩
theorem qge{s:Sem α}{f:α->Sem β}(h:Looks C s)(k:∀a,Looks C (f a)):Looks C (s>>=f):=λu=>by
 obtain⟨a,ha⟩:=h u;obtain⟨b,hb⟩:=k a u;exact⟨b,by rw[Sem.run_bind,ha];exact hb⟩
theorem q1a{c:Prop}[Decidable c]{s t:Sem α}(h:Looks C s)(k:Looks C t):Looks C (if c then s else t):=by
 split
 . exact h
 . exact k
theorem q3p(r:Nat):Looks C (shape r):=λu=>⟨_,run_shape C.P u r⟩
theorem q1b(a:Addr):Looks C (frozen a):=λu=>⟨_,run_frozen C.P u a⟩
theorem qg3(a:Addr)(k:Nat):Looks C (Builtin.holdsCells a k):=by
 unfold Builtin.holdsCells;refine qge (q3p _) (λx=>?_);split<;>exact qfd _
theorem qw6{size sLen n:Nat}{base:Option Addr}{x:Value}:Looks C (Builtin.mayShare size sLen n base x):=by
 unfold Builtin.mayShare;dsimp only;split
 . refine qge (qfd true) (λthere=>q1a (qfd _) ?_);split
   . exact qge (qg3 _ _) (λ_=>qfd _)
   . exact qfd _
 . refine qge (qg3 _ _) (λb=>qge (q1b _) (λb'=>qge (qfd _) (λthere=>q1a (qfd _) ?_)));split
   . exact qge (qg3 _ _) (λ_=>qfd _)
   . exact qfd _
theorem qy5{size sLen n:Nat}{base:Option Addr}{x:Value}{w:String}{Q:Unit->Prop}:qd C (do
   let there <-Builtin.mayShare size sLen n base x
   if (!there)=true then do
    let r <-mark .noRoom
    (λ_=>unsupported (.resourceLimit w)) r
   else (λ_=>unsupported (.resourceLimit w)) ():Sem Unit) Q:=q6s (λu=>by
 obtain⟨b,hb⟩:=qw6 (C:=C) (size:=size) (sLen:=sLen) (n:=n) (base:=base) (x:=x) u;cases b
 . exact⟨.unsupported (.resourceLimit w),u,by simp only[Sem.run_bind,hb,Result.andThen_ok,Bool.not_false,if_true,run_mark,run_unsupported],trivial⟩
 . exact⟨.unsupported (.resourceLimit w),u,by simp only[Sem.run_bind,hb,Result.andThen_ok,Bool.not_true,Bool.false_eq_true,if_false,run_unsupported],trivial⟩)
theorem q1c(hH:qca C){ats:Array TypeId}(t:TypeId){args:Array Value}(hz:∀s,ats[0]?=some s->qhn C s)(ha:qq C args):qd C (Builtin.append_ ats t args) (Ok C.A C.F):=by
 unfold Builtin.append_;split
 . rename_i sType s x heq;simp only[Prod.mk.injEq]at heq;obtain⟨h1,h2,h3⟩:=heq;have hs:=ha.get h2;have hx:=ha.get h3;have hz:=hz _ h1;refine qab (qak _) (λd hd=>?_);split
   . rename_i elem;split
     . rename_i base sLen sCap;refine qab (qbq _) (λsize _=>?_)
       have qkB:∀ (zeros:Bool) (n:Nat),qd C (if !zeros then Builtin.firstCells size n x
           else if n*size=0 then pure #[]
           else do pure (Builtin.zeroCells (<-zeroValue elem).cells n):Sem (Array Value)) (qq C):=λzeros n=>
        qaj (λ_=>qg2 hx) (λ_=>qaj (λ_=>qac .nil) (λ_=>qab (qc8 (hz _ hd)) (λz hz=>qac (qso hz.cells _))))
       extract_lets (underBinder:=false) jp1
       have h1:∀zeros,qd C (jp1 zeros) (Ok C.A C.F):=by
        intro zeros
        dsimp (zeta:=false) only[jp1]
        extract_lets (underBinder:=false) jp2
        have h2:∀n,qd C (jp2 n) (Ok C.A C.F):=by
         intro n;have qeE:=qkB zeros n
         dsimp (zeta:=false) only[jp2]
         extract_lets (underBinder:=false) appended need
         have qbC:qd C appended (qq C):=qeE;refine qaj (λ_=>qab qbC (λnew hn=>?_)) (λ_=>qab (qbl _) (λi _=>?_))
         . extract_lets (underBinder:=false) jp
           have hj:∀r,qd C (jp r) (Ok C.A C.F):=λr=>qac (.slice _ _ (λy e=>by subst e;exact hs.of_slice));split
           . exact qab (qg0 (qsi hs.of_slice _) _ _ (λv hv=>hn v (by simpa using hv))) (λr _=>hj r)
           . exact hj ()
         . extract_lets (underBinder:=false) jp
           have hj:∀r,qd C (jp r) (Ok C.A C.F):=by
            intro r
            dsimp (zeta:=false) only[jp]
            refine qab (qbl _) (λi _=>?_)
            extract_lets (underBinder:=false) jp
            have hj:∀r,qd C (jp r) (Ok C.A C.F):=λr=>
             qab (qd5 _) (λc _=>qab (qbl _) (λi _=>qab (qpk _) (λ_ _=>qab (qg2 hs) (λold ho=>qab qbC (λnew hn=>
              qab (qc8 (hz _ hd)) (λz hz=>qab (zq ((ho.app hn).app (qso hz.cells _))) (λa ha=>qac (.slice _ _ (λy e=>by cases e;exact ha)))))))))
            refine qaj (λ_=>qab (Q:=λ_=>True) ?_ (λr _=>hj r)) (λ_=>hj ());exact qaj (λ_=>qam hH _) (λ_=>qy5)
           exact qaj (λ_=>qab (Q:=λ_=>True) (qam hH _) (λr _=>hj r)) (λ_=>hj ())
        refine qaj (λ_=>qab (qgc _) (λm _=>?_)) (λ_=>qab (qvi _) (λn _=>h2 n))
        extract_lets (underBinder:=false) l jp
        have hj:∀r,qd C (jp r) (Ok C.A C.F):=by
         intro r
         dsimp (zeta:=false) only[jp]
         refine qab (qbl _) (λi _=>?_)
         extract_lets (underBinder:=false) jp
         have hj:∀r,qd C (jp r) (Ok C.A C.F):=λr=>qab (Q:=λ_=>True) (qac trivial) (λn _=>h2 n);exact qaj (λ_=>qab (qd5 _) (λ_ _=>qab (Q:=λ_=>True) (qam hH _) (λr _=>hj r))) (λ_=>hj ())
        exact qaj (λ_=>qab (Q:=λ_=>True) (qam hH _) (λr _=>hj r)) (λ_=>hj ())
       split
       . exact qab (qak _) (λd _=>qab (Q:=λ_=>True) (qac trivial) (λz _=>h1 z))
       . exact qab (Q:=λ_=>True) (qac trivial) (λz _=>h1 z)
     . exact qae
   . exact qae
 . exact qae
theorem q6t{ats:Array TypeId}{t:TypeId}{args:Array Value}(ha:qq C args):qd C (Builtin.copy_ ats t args) (Ok C.A C.F):=by
 unfold Builtin.copy_;split
 . rename_i dType dst src heq;simp only[Prod.mk.injEq]at heq;obtain⟨h1,h2,h3⟩:=heq;have hd:=ha.get h2;have hs:=ha.get h3;refine qab (qak _) (λd _=>?_);split
   . split
     . refine qab (qvi _) (λn _=>qab (qbq _) (λsz _=>qab (qg2 hs) (λcells hc=>?_)));dsimp only;split
       . exact qab (qg0 hd.of_slice _ _ (λv hv=>hc v (by simpa using hv))) (λ_ _=>qac (.goInt _))
       . exact qac (.goInt _)
     . exact qae
   . exact qae
 . exact qae
theorem q8y{ats:Array TypeId}{t:TypeId}{args:Array Value}(ha:qq C args):qd C (Builtin.len_ ats t args) (Ok C.A C.F):=by
 unfold Builtin.len_;split
 . rename_i ty x heq;simp only[Prod.mk.injEq]at heq;have hx:=ha.get heq.2;refine qab (qak _) (λd _=>?_);split
   . exact qac (.goInt _)
   . exact qac (.goInt _)
   . refine qab (qak _) (λd _=>?_);split
     . exact qac (.goInt _)
     . exact qae
   . exact qac (.goInt _)
   . exact qac (.goInt _)
   . exact qac (.goInt _)
   . refine qab (qe5 (.obj hx.of_map)) (λo ho=>?_);split
     . exact qac (.goInt _)
     . exact qae
   . refine qab (qe5 (.obj (by cases hx with|chan h=>exact h _ rfl))) (λo ho=>?_);split
     . exact qac (.goInt _)
     . exact qae
   . exact qae
 . exact qae
theorem q8z{ats:Array TypeId}{t:TypeId}{args:Array Value}(ha:qq C args):qd C (Builtin.cap_ ats t args) (Ok C.A C.F):=by
 unfold Builtin.cap_;split
 . rename_i ty x heq;simp only[Prod.mk.injEq]at heq;have hx:=ha.get heq.2;refine qab (qak _) (λd _=>?_);split
   . exact qac (.goInt _)
   . refine qab (qak _) (λd _=>?_);split
     . exact qac (.goInt _)
     . exact qae
   . exact qac (.goInt _)
   . exact qac (.goInt _)
   . refine qab (qe5 (.obj (by cases hx with|chan h=>exact h _ rfl))) (λo ho=>?_);split
     . exact qac (.goInt _)
     . exact qae
   . exact qae
 . exact qae
theorem q6u{x y:Value}(hx:Ok C.A C.F x):qd C (Builtin.min2 x y) (Ok C.A C.F):=by
 unfold Builtin.min2;split
 . exact qac (.int _ _)
 . cases hx
 . exact qab (qnk _ _ _) (λv _=>qab (qsk v) (λb _=>qac (.string _)))
 . exact qag (by simp)
 . exact qag (by simp)
 . exact qae
theorem q80{ats:Array TypeId}{t:TypeId}{args:Array Value}(ha:qq C args):qd C (Builtin.min_ ats t args) (Ok C.A C.F):=by
 unfold Builtin.min_
 have key:∀(l:List Value) (x:Value),Ok C.A C.F x->(∀v,v∈l->Ok C.A C.F v)->qd C (l.foldlM Builtin.min2 x) (Ok C.A C.F):=by
  intro l
  induction l with
  |nil=>intro x hx _;exact qac hx
  |cons y l ih=>
   intro x hx h;rw[foldlM_cons];exact qab (q6u hx) (λv hv=>ih v hv (λu hu=>h u (by simp[hu])))
 obtain⟨l⟩:=args;cases l with
 |nil=>exact qae
 |cons x l=>exact key l x (ha x (by simp)) (λv hv=>ha v (by simp[hv]))
theorem qtb{s d:TypeId}{x:Value}{j k:IntKind}(hs:C.P.underlying s=some (.int j))(hd:C.P.underlying d=some (.int k))(hx:Ok C.A C.F x):qd C (convert s d x) (Ok C.A C.F):=by
 unfold convert;refine qab (qak s) (λa ha=>qab (qak d) (λb hb=>?_));rw[hs]at ha;rw[hd]at hb;cases ha;cases hb;cases hx with
 |int k n=>exact qac (.int _ _)
 |@pointer a h=>cases a<;>first|exact qag (by simp)|exact qae
 |_=>first|exact qag (by simp)|exact qae
theorem q81(w:World):w.sys .env=(.strings w.os.env,w):=rfl
theorem q1d:qd C (sys .env) (λ_=>True):=λw u es hr al=>by
 have h1:(sys .env).run C.P u=.ok (.strings u.os.env) u:=by simp[sys,Sem.run,q81]
 rw[h1];refine⟨w,#[⟨.output,true,false⟩],?_,hr,⟨λ_ _=>rfl,Nat.le_refl _,rfl,rfl,rfl,Nat.le_refl _,λe he=>?_,.of rfl⟩,trivial⟩
 . simp only[sys,Sem.runT,q81,hr.os,Array.push_eq_append]
 . rw[Array.mem_singleton]at he;subst he;trivial
theorem q3q(hH:qca C){x:Value}(hx:Ok C.A C.F x){Q:Value->Prop}:qd C (Instr.panic x) Q:=by
 unfold Instr.panic;split
 . exact qdp hx
 . refine qab (Q:=λ_=>True) ?_ (λn _=>qaj (λ_=>qdp .nilIface) (λ_=>qam hH _));unfold Instr.panicnil;refine qab q1d (λr _=>?_);split
   . exact qab qbe (λp _=>qac trivial)
   . exact qae
 . exact qae
end
structure qaQ(C:Pen)(S:List String):Prop where
 handle:qca C
 func:∀f,C.F f->∃fn,C.P.funcs[f]?=some fn/\(fn.name == "runtime.NumGoroutine")=false /\
  (fn.body.isNone=false∨(fn.body.isNone=true/\Extern.findNext fn=none/\∃e,Extern.find fn=some e/\∀args,qq C args->qd C (e args) (Ok C.A C.F)))
 qkC:∀t i m f b,C.P.info? t=some i->m∈i.methods->m.name∈S->m.func=some (f,b)->C.F f
def qsp(C:Pen):Next->Prop
 | .value v=>Ok C.A C.F v
 | .skip=>True
 | .enter f args=>C.F f/\qq C args/\∃fn c,C.P.funcs[f]?=some fn/\fn.body=some c
 |_=>False
section
variable {C:Pen}{S:List String}
theorem qnm(H:qaQ C S){f:FuncId}{args:Array Value}(hf:C.F f)(ha:qq C args):qd C (callFunc f args) (qsp C):=by
 obtain⟨fn,h1,h2,h3⟩:=H.func f hf;unfold callFunc;refine qab qbe (λp hp=>?_);subst hp;rw[h1];dsimp only;rw[if_neg (by simpa using h2)];rcases h3 with h3|⟨h3,h4,e,h5,h6⟩
 . rw[if_neg (by simp[h3])]
   have:∃c,fn.body=some c:=by
    cases hb:fn.body with
    |none=>rw[hb]at h3;cases h3
    |some c=>exact⟨c,rfl⟩
   obtain⟨c,hc⟩:=this;exact qac ⟨hf,ha,fn,c,h1,hc⟩
 . rw[if_pos h3];refine qab (qs5 f) (λ_ _=>?_);rw[h4,h5];exact qab (h6 args ha) (λv hv=>qac hv)
def qy6(C:Pen):Place->Prop
 | .val v=>Ok C.A C.F v
 | .var a=>C.A a
theorem qfn{t:TypeId}{x:Place}(h:qy6 C x):qd C (x.get t) (Ok C.A C.F):=by
 unfold Place.get;cases x with
 |val v=>exact qac h
 |var a=>exact qf3 h
theorem q1e(hH:qca C):∀(l:List FieldStep) (t:TypeId) (x:Place),qy6 C x->qd C (follow l t x) (λr=>qy6 C r.2):=by
 intro l
 induction l with
 |nil=>intro t x h;unfold follow;exact qac h
 |cons s l ih=>
  intro t x h;unfold follow;refine qab (qak _) (λd _=>?_);split
  . split
    . refine qaj (λ_=>?_) (λ_=>?_)
      . exact qab (qfn h) (λv hv=>qab (qgs hH hv) (λa ha=>qab (qg1 ha _) (λb hb=>ih _ _ hb)))
      . split
        . exact qab (qg1 h _) (λb hb=>ih _ _ hb)
        . exact qab (qdt (Ok.zn h) _) (λv hv=>ih _ _ hv)
        . exact qae
    . exact qae
  . exact qae
theorem qy7(hH:qca C){ats:Array TypeId}{t:TypeId}{p:Value}{a b:String}(hp:Ok C.A C.F p):qd C (Builtin.ssaWrapNilChk_ ats t #[p,strVal a,strVal b]) (Ok C.A C.F):=by
 unfold Builtin.ssaWrapNilChk_ strVal;cases p with
 |pointer a=>
  cases a with
  |some a=>exact qac hp
  |none=>
   refine qab (qd5 _) (λn _=>?_)
   extract_lets (underBinder:=false) jp
   have hj:∀r,qd C (jp r) (Ok C.A C.F):=by
    intro r
    dsimp (zeta:=false) only[jp]
    split
    . refine qab (qak _) (λd _=>?_);split
      . refine qab (qbl _) (λi _=>?_);split
        . split
          . dsimp only;split
            . exact qam hH _
            . exact qag (by simp)
          . exact qae
        . exact qae
      . exact qae
    . exact qae
   exact qaj (λ_=>qab (Q:=λ_=>True) (qam hH _) (λr _=>hj r)) (λ_=>hj ())
 |_=>exact qae
theorem qtc(hH:qca C){t:TypeId}{x:Place}{b:Bool}{w:Option String}(h:qy6 C x):qd C (receiverAt t x b w) (Ok C.A C.F):=by
 unfold receiverAt;refine qab (qak _) (λd _=>?_);split
 . exact qfn h
 . refine qab (qfn h) (λv hv=>?_);cases w with
   |some nm=>exact qab (qy7 hH hv) (λp hp=>qab (qgs hH hp) (λa ha=>qf3 ha))
   |none=>exact qab (Q:=Ok C.A C.F) (qac hv) (λp hp=>qab (qgs hH hp) (λa ha=>qf3 ha))
 all_goals first|exact qac (.ptr h)|exact qae|exact qfn h
theorem q1f(H:qaQ C S){name:String}(hn:name∈S):∀(n:Nat) (t:TypeId) (v:Value),Ok C.A C.F v->qd C (method n t v name) (λr=>C.F r.1/\Ok C.A C.F r.2):=by
 intro n
 induction n with
 |zero=>intro t v _;unfold method;exact qag (by simp)
 |succ n ih=>
  intro t v hv;unfold method;refine qab (qbl t) (λi hi=>?_);split
  . rename_i m hm;have hmem:m∈i.methods:=Array.mem_of_find?_eq_some hm;have hname:m.name=name:=by simpa using Array.find?_some hm
    refine qab (q1e H.handle _ _ (.val v) hv) (λp hp=>?_);dsimp only;split
    . refine qab (qfn hp) (λu hu=>?_);split
      . exact ih _ _ hu.zo
      . exact qam H.handle _
      . exact qae
    . rename_i f b hf;have hF:=H.qkC t i m f b hi hmem (by rw[hname];exact hn) hf;exact qab (qtc H.handle hp) (λr hr=>qac ⟨hF,hr⟩)
  . exact qae
theorem qtd(H:qaQ C S){name:String}(hn:name∈S){recv:Value}{args:Array Value}(hr:Ok C.A C.F recv)(ha:qq C args):qd C (callMethod recv name args) (qsp C):=by
 unfold callMethod;split
 . refine qab qbe (λp _=>qab (q1f H hn _ _ _ hr.zo) (λr hr=>?_));exact qnm H hr.1 ((qq.one hr.2).app ha)
 . exact qam H.handle _
 . exact qae
def q1g(C:Pen)(S:List String)(c:Call):Prop:=
 match c.callee with
 | .builtin .append=>∀s,c.argTypes[0]?=some s->qhn C s
 | .builtin .cap | .builtin .copy | .builtin .len | .builtin .min=>True
 | .builtin _=>False
 | .invoke _ name=>name∈S
 | .value _=>True
def qeF(C:Pen)(S:List String):Op->Prop
 | .move _ | .assign _ | .pick _ _ _ | .box _ _ | .load _ _ | .store _ _ _ | .nilCheck _ | .unOp _ _ _ | .makeInterface _ _ | .makeMap _ _ | .slice _ _ _ _ _ | .fieldAddr _ _ _
 | .field _ _ _ | .indexAddr _ _ _ | .index _ _ _ | .mapUpdate _ _ _ _ | .insert _ _ _ _ | .extract _ _ | .panic _=>True
 | .binOp _ t _ _ _=>C.P.underlying t≠some .unsafePointer
 | .alloc t | .build t _=>qpj C t
 | .buildSlice t _ _ | .makeSlice t _ _=>qhn C t
 | .typeAssert _ _ a _=>qpj C a
 | .lookup t _ _ _=>qvh C t
 | .convert s d _=>(∃j,C.P.underlying s=some (.int j))/\∃k,C.P.underlying d=some (.int k)
 | .makeFunc fn _ _=>∃f,fn=.func f/\C.F f
 | .call c=>q1g C S c
 |_=>False
theorem qc9{s:Sem Value}(h:qd C s (Ok C.A C.F)):qd C (do pure (.value (<-s)):Sem Next) (qsp C):=qab h (λ_ hv=>qac hv)
theorem q3r{s:Sem Unit}(h:qd C s (λ_=>True)):qd C (do s;pure .skip:Sem Next) (qsp C):=qab h (λ_ _=>qac trivial)
theorem qsq(H:qaQ C S){ρ:Operand->Value}{o:Oper}(hρ:∀x,x∈o.op.operands->Ok C.A C.F (ρ x))(ho:qeF C S o.op):qd C (execOp ρ o) (qsp C):=by
 have hH:=H.handle;unfold execOp;cases hop:o.op with
 |move x=>rw[hop]at hρ;exact qac (hρ x (by simp[Op.operands]))
 |assign x=>rw[hop]at hρ;exact qac (hρ x (by simp[Op.operands]))
 |pick c a b=>
  rw[hop]at hρ;refine qab (qsk _) (λt _=>qac ?_);cases t
  . exact hρ b (by simp[Op.operands])
  . exact hρ a (by simp[Op.operands])
 |alloc t=>rw[hop]at ho;exact qc9 (q3j ho)
 |box t x=>rw[hop]at hρ;exact qc9 (q8x (hρ x (by simp[Op.operands])))
 |build t parts=>
  rw[hop]at hρ ho;refine qc9 (q3m ho (λp hp=>?_));obtain⟨q,hq,rfl⟩:=Array.mem_map.1 hp
  exact hρ q.2 (by
   simp only[Op.operands,List.mem_toArray,mem_map];exact⟨q,by simpa using hq,rfl⟩)
 |buildSlice t n parts=>
  rw[hop]at hρ ho;refine qc9 (qs8 ho (λp hp=>?_));obtain⟨q,hq,rfl⟩:=Array.mem_map.1 hp
  exact hρ q.2 (by
   simp only[Op.operands,List.mem_toArray,mem_map];exact⟨q,by simpa using hq,rfl⟩)
 |insert t m k x=>rw[hop]at hρ;exact q3r (qlo hH (hρ m (by simp[Op.operands])) (hρ k (by simp[Op.operands])) (hρ x (by simp[Op.operands])))
 |load t a=>rw[hop]at hρ;exact qc9 (q06 (hρ a (by simp[Op.operands])))
 |store t a x=>rw[hop]at hρ;exact q3r (qyz (hρ a (by simp[Op.operands])) (hρ x (by simp[Op.operands])))
 |nilCheck x=>
  rw[hop]at hρ;have hx:=hρ x (by simp[Op.operands]);dsimp only;generalize ρ x=v at hx;cases hx with
  |@pointer a h=>cases a with
   |none=>exact qam hH _
   |some a=>exact qac (.pointer h)
  |nilIface=>exact qam hH _
  |nilFunc=>exact qam hH _
  |bool b=>exact qac (.bool b)
  |int k n=>exact qac (.int k n)
  |string s=>exact qac (.string s)
  |slice n c h=>exact qac (.slice n c h)
  |map h=>exact qac (.map h)
  |chan h=>exact qac (.chan h)
  |func h1 h2 h3=>exact qac (.func h1 h2 h3)
  |iface t h=>exact qac (.iface t h)
  |agg h=>exact qac (.agg h)
  |tuple h=>exact qac (.tuple h)
 |binOp op t x y u=>
  rw[hop]at hρ ho;have hx:=hρ x (by simp[Op.operands]);have hy:=hρ y (by simp[Op.operands]);exact qc9 (qab (qyx hx hy) (λ_ _=>q3g hH ho hx hy))
 |unOp op t x=>rw[hop]at hρ;exact qc9 (q3h (hρ x (by simp[Op.operands])))
 |convert s d x=>
  rw[hop]at hρ ho;obtain⟨⟨j,h1⟩,k,h2⟩:=ho;exact qc9 (qtb h1 h2 (hρ x (by simp[Op.operands])))
 |makeInterface t x=>rw[hop]at hρ;exact qc9 (qn3 (hρ x (by simp[Op.operands])))
 |makeFunc fn first captured=>
  rw[hop]at hρ ho;obtain⟨f,rfl,hf⟩:=ho;refine qc9 (qac (.func hf (λv hv=>?_) (λv hv=>?_)))
  . obtain⟨x,hx,rfl⟩:=Array.mem_map.1 hv;exact hρ x (by simp[Op.operands,hx])
  . obtain⟨x,hx,rfl⟩:=Array.mem_map.1 hv;exact hρ x (by simp[Op.operands,hx])
 |makeMap t r=>exact qc9 qy3
 |makeSlice t l c=>rw[hop]at ho;exact qc9 (qvg hH ho)
 |slice t x lo hi mx=>rw[hop]at hρ;exact qc9 (qy2 hH (hρ x (by simp[Op.operands])))
 |fieldAddr s x f=>rw[hop]at hρ;exact qc9 (qy0 (hρ x (by simp[Op.operands])) f)
 |field t x f=>rw[hop]at hρ;exact qc9 (q3n (hρ x (by simp[Op.operands])))
 |indexAddr t x i=>rw[hop]at hρ;exact qc9 (qy1 hH (hρ x (by simp[Op.operands])))
 |index t x i=>rw[hop]at hρ;exact qc9 (q3o hH (hρ x (by simp[Op.operands])))
 |lookup t x i b=>rw[hop]at hρ ho;exact qc9 (q09 hH ho (hρ x (by simp[Op.operands])) (hρ i (by simp[Op.operands])))
 |mapUpdate t m k x=>rw[hop]at hρ;exact q3r (qlo hH (hρ m (by simp[Op.operands])) (hρ k (by simp[Op.operands])) (hρ x (by simp[Op.operands])))
 |typeAssert x t a b=>rw[hop]at hρ ho;exact qc9 (qs9 hH (hρ x (by simp[Op.operands])) ho)
 |extract t i=>rw[hop]at hρ;exact qc9 (qy4 (hρ t (by simp[Op.operands])))
 |panic x=>rw[hop]at hρ;exact qc9 (q3q hH (hρ x (by simp[Op.operands])))
 |call c=>
  rw[hop]at hρ ho
  have hargs:qq C (c.args.map ρ):=λv hv=>by
   obtain⟨x,hx,rfl⟩:=Array.mem_map.1 hv;exact hρ x (by simp[Op.operands,Call.operands,hx])
  unfold resolve;have ho:q1g C S c:=ho;unfold q1g at ho;dsimp only;cases hc:c.callee with
  |builtin b=>
   rw[hc]at ho;dsimp only;refine qab (Q:=λd=>d={target:=.builtin b c.argTypes o.type (c.args.map fun | .const _=>true|_=>false),args:=c.args.map ρ}) (qac rfl) (λd hd=>?_);subst hd;unfold invoke;cases b<;>first|exact ho.elim|skip
   . exact qc9 (q1c hH _ ho hargs)
   . exact qc9 (q8z hargs)
   . exact qc9 (q6t hargs)
   . exact qc9 (q8y hargs)
   . exact qc9 (q80 hargs)
  |invoke recv name=>
   rw[hc]at ho;dsimp only at ho |-;have hr:Ok C.A C.F (ρ recv):=hρ recv (by simp[Op.operands,Call.operands,hc]);refine qab (Q:=λd=>d={target:=.fn (.method name) #[],args:=#[ρ recv]++c.args.map ρ}) (qac rfl) (λd hd=>?_);subst hd;unfold invoke;dsimp only;split
   . rename_i rv hrv;rw[Array.getElem?_append_left (by simp)]at hrv;have h0:rv=ρ recv:=by simpa using hrv.symm
     rw[h0];refine qtd H ho hr (qq.extract (C:=C) ((qq.one hr).app hargs) _ _)
   . exact qae
  |value f=>
   have hf:Ok C.A C.F (ρ f):=hρ f (by simp[Op.operands,Call.operands,hc]);dsimp only;unfold Deferred.ofValue;generalize ρ f=v at hf;cases hf with
   |@func g first captured h1 h2 h3=>
    dsimp only;refine qab (Q:=λd=>d={target:=.fn (.func g) captured,args:=first++c.args.map ρ}) (qac rfl) (λd hd=>?_);subst hd;unfold invoke;exact qnm H h1 ((qq.app (C:=C) h2 hargs).app h3)
   |nilFunc=>
    dsimp only;refine qab (Q:=λd=>d={target:=.nil,args:=c.args.map ρ}) (qac rfl) (λd hd=>?_);subst hd;unfold invoke;exact qam hH _
   |_=>exact qab (Q:=λ_=>False) qae (λ_ h=>h.elim)
 |_=>rw[hop]at ho;exact ho.elim
end
end
end Go.Proofs.YtacemdoejblgaaaGreatDoor

/- Part 7. Conditions: each statement's. -/
import Derived.Test.YtacemdoejblgaaaGreatDoorM06
import Derived.Conc.Own
namespace Go.Proofs.YtacemdoejblgaaaGreatDoor
set_option maxHeartbeats 6400000
set_option maxRecDepth 100000
section
section
variable {C:Pen}{α β γ:Type}
theorem qqj(hH:qbq C){t:TypeId}{l c:Value}(hz:qgc C t):qc C (Instr.makeSlice t l c) (Ok C.A C.F):=by
 unfold Instr.makeSlice;refine qaa (qai t) (fun d hd=>?_);split
 . rename_i elem;refine qaa (qe5 _) (fun len _=>qaa (qe5 _) (fun cap _=>qaa (qa5 _) (fun i _=>?_)))
   have tail:∀ (zero:Array Value) (n l c:Nat),qm C zero->qc C (do
       let a <-newRow elem ((Array.range n).map (zero[· % zero.size]!))
       pure (.slice (some a) l c):Sem Value) (Ok C.A C.F):=fun zero n l c h=>
     qaa (jk (qqi h qmx _)) (fun a ha=>qab (.slice _ _ (fun x e=>by cases e;exact ha)))
   dsimp only
   have rest:∀ n l c:Nat,qc C (if n=0 then (do let z <-pure #[];let a <-newRow elem ((Array.range n).map (z[· % z.size]!));pure (.slice (some a) l c)) else (do let v <-zeroValue elem;let z <-pure v.cells;let a <-newRow elem ((Array.range n).map (z[· % z.size]!));pure (.slice (some a) l c)):Sem Value) (Ok C.A C.F):=fun n l c=>
     qah (fun _=>qaa (Q:=qm C) (qab .nil) (fun z hz=>tail z n l c hz)) (fun _=>qaa (qcl (hz _ hd)) (fun z hz=>qaa (Q:=qm C) (qab hz.cells) (fun z hz=>tail z n l c hz)))
   have qgq:∀ b l c:Nat,qc C (do
       askRoom b
       let s <-sizeOf elem
       if c * s=0 then (do let z <-pure #[];let a <-newRow elem ((Array.range (c * s)).map (z[· % z.size]!));pure (.slice (some a) l c)) else (do let v <-zeroValue elem;let z <-pure v.cells;let a <-newRow elem ((Array.range (c * s)).map (z[· % z.size]!));pure (.slice (some a) l c)):Sem Value) (Ok C.A C.F):=fun b l c=>
     qaa (qll _) (fun _ _=>qaa (qa7 _) (fun s _=>rest _ _ _))
   refine qah (fun _=>?_) (fun _=>qgq _ _ _);refine qah (fun _=>qaa (Q:=fun _=>True) (qak hH _) (fun _ _=>qgq _ _ _)) (fun _=>?_);refine qah (fun _=>qaa (Q:=fun _=>True) (qak hH _) (fun _ _=>qgq _ _ _)) (fun _=>?_);exact qaa (qdd _) (fun _ _=>qaa (Q:=fun _=>True) (qak hH _) (fun _ _=>qgq _ _ _))
 . exact qad
theorem qt7{t:TypeId}{r:Option Value}:qc C (Instr.makeMap t r) (Ok C.A C.F):=by
 unfold Instr.makeMap;have tail:qc C (do pure (.map (some (<-newObj (.map #[] 0)))):Sem Value) (Ok C.A C.F):=qaa (qir (o:=.map #[] 0) (fun e he=>by simp at he)) (fun r hr=>qab (.map (fun x e=>by cases e;exact hr)));dsimp only;split
 . refine qaa (qai t) (fun d _=>?_);split
   . exact qaa (qe5 _) (fun _ _=>tail)
   . exact qaa (Q:=fun _=>True) qad (fun _ _=>tail)
 . exact tail
theorem qyq{t:TypeId}{x:Value}{f:Nat}(hx:Ok C.A C.F x):qc C (Instr.field t x f) (Ok C.A C.F):=by
 unfold Instr.field;refine qaa (qai t) (fun d _=>?_);split
 . split
   . exact qaa (qyi hx) (fun cs hcs=>qc4 hcs _)
   . exact qad
 . exact qad
theorem qyr(hH:qbq C){t:TypeId}{x ix:Value}(hx:Ok C.A C.F x):qc C (Instr.index t x ix) (Ok C.A C.F):=by
 unfold Instr.index;refine qaa (qf4 _) (fun p _=>qaa (qai t) (fun d _=>?_));split
 . exact qah (fun _=>qaa (qa7 _) (fun n _=>qc4 hx.ji _)) (fun _=>qdm hH _ _ _ _)
 . split
   . exact qab (.int _ _)
   . exact qdm hH _ _ _ _
 . exact qad
theorem qt8{x:Value}{i:Nat}(hx:Ok C.A C.F x):qc C (Instr.extract x i) (Ok C.A C.F):=by
 unfold Instr.extract;split
 . split
   . rename_i v hv;exact qab (qm.get (C:=C) hx.zm hv)
   . exact qad
 . exact qad
theorem qka{t:TypeId}{x:Value}(hx:Ok C.A C.F x):qc C (Instr.makeInterface t x) (Ok C.A C.F):=by
 unfold Instr.makeInterface;refine qaa (qai t) (fun d _=>?_);split
 . exact qad
 . exact qab (.iface _ hx)
theorem qog(hH:qbq C){x:Value}{t a:TypeId}{b:Bool}(hx:Ok C.A C.F x)(hz:qlk C a):qc C (Instr.typeAssert x t a b) (Ok C.A C.F):=by
 unfold Instr.typeAssert
 have holds:∀ v,Ok C.A C.F v->qc C (pure (if b then .tuple #[v,.bool true] else v):Sem Value) (Ok C.A C.F):=fun v hv=>qab (by
   split
   . exact .tuple (fun u hu=>by
       simp only [List.mem_toArray,List.mem_cons,List.not_mem_nil,or_false] at hu;rcases hu with rfl | rfl
       . exact hv
       . exact .bool _)
   . exact hv)
 have fails:∀ e,qc C (if b then (do pure (.tuple #[<-zeroValue a,.bool false])) else runtimePanic e:Sem Value) (Ok C.A C.F):=fun e=>
   qah (fun _=>qaa (qcl hz) (fun z hz=>qab (.tuple (fun u hu=>by
     simp only [List.mem_toArray,List.mem_cons,List.not_mem_nil,or_false] at hu;rcases hu with rfl | rfl
     . exact hz
     . exact .bool _)))) (fun _=>qak hH _)
 dsimp only;refine qaa (qai a) (fun d _=>?_);split
 . exact fails _
 . refine qaa (qa5 _) (fun i _=>?_);split
   . exact holds _ hx
   . exact fails _
 . exact fails _
 . exact qah (fun _=>holds _ hx.jj) (fun _=>fails _)
 . exact qad
theorem qju(hH:qbq C)(b:Bool):∀ (n:Nat) (t:TypeId) (v:Value),Ok C.A C.F v->qc C (Instr.checkKey b n t v) (fun _=>True):=by
 intro n
 induction n with
 | zero=>intro t v _;unfold Instr.checkKey;exact qaf (by simp)
 | succ n ih=>
   intro t v hv;unfold Instr.checkKey;refine qaa (qai t) (fun d _=>?_);split
   . refine qaa (qa5 _) (fun i _=>?_);dsimp only;refine qah (fun _=>?_) (fun _=>ih _ _ hv.jj);refine qah (fun _=>qaa (Q:=fun _=>True) (qak hH _) (fun _ _=>?_)) (fun _=>?_)
     . exact qaa (qf6 _) (fun s _=>qaa (Q:=fun _=>True) (qak hH _) (fun _ _=>ih _ _ hv.jj))
     . exact qaa (qf6 _) (fun s _=>qaa (Q:=fun _=>True) (qak hH _) (fun _ _=>ih _ _ hv.jj))
   . refine qaa (Q:=fun _=>True) (qg6 (I:=fun _=>True) _ _ _ trivial (fun f b _=>?_)) (fun r _=>qab trivial);exact qaa (qa7 _) (fun _ _=>qaa (qc4 hv.ji _) (fun u hu=>qaa (ih _ _ hu) (fun _ _=>qab trivial)))
   . refine qaa (Q:=fun _=>True) (qj9 (I:=fun _=>True) _ _ _ trivial (fun f _ b _=>?_)) (fun r _=>qab trivial);refine qah (fun _=>qaa (qc4 hv.ji _) (fun u hu=>qaa (ih _ _ hu) (fun _ _=>qab trivial))) (fun _=>qab trivial)
   . exact qab trivial
   all_goals first | exact qad | exact qab trivial
theorem qoh(hH:qbq C){t:TypeId}{k:Value}(hk:Ok C.A C.F k):∀ (es:List MapEntry) (i:Nat),(∀ e,e∈es->Ok C.A C.F e.key/\Ok C.A C.F e.val) ->
   qc C (Instr.findAsking t k es i) (fun r=>∀ x,r=some x->Ok C.A C.F x.2):=by
 intro es
 induction es with
 | nil=>intro i _;unfold Instr.findAsking;exact qab (by simp)
 | cons e es ih=>
   intro i h;unfold Instr.findAsking;refine qaa (qhr hH _ _ _ _ hk (h e (by simp)).1) (fun b _=>qah (fun _=>qab (fun x hx=>by cases hx;exact(h e (by simp)).2)) (fun _=>ih _ (fun e' h'=>h e' (by simp [h']))))
theorem q1w{kind:TypeDesc}{k:Value}:∀ (es:List MapEntry) (i:Nat),(∀ e,e∈es->Ok C.A C.F e.key/\Ok C.A C.F e.val)->∀ r,Instr.findNow kind k es i=some r->∀ x,r=some x->Ok C.A C.F x.2:=by
 intro es
 induction es with
 | nil=>intro i _ r h x hx;unfold Instr.findNow at h;cases h;cases hx
 | cons e es ih=>
   intro i he r h x hx;unfold Instr.findNow at h;split at h
   . cases h;cases hx;exact(he e (by simp)).2
   . exact ih _ (fun e' h'=>he e' (by simp [h'])) r h x hx
   . cases h
theorem qlp(hH:qbq C){t:TypeId}{k:Value}(hk:Ok C.A C.F k){es:List MapEntry}(h:∀ e,e∈es->Ok C.A C.F e.key/\Ok C.A C.F e.val) :
   qc C (Instr.findKey t k es) (fun r=>∀ x,r=some x->Ok C.A C.F x.2):=by
 unfold Instr.findKey;refine qaa (qai t) (fun d _=>?_);split
 . rename_i r hr;exact qab (q1w es 0 h r hr)
 . exact qoh hH hk es 0 h
def qqk(C:Pen)(t:TypeId):Prop:=∀ k e,C.P.underlying t=some (.map k e)->qlk C e
theorem qwd(hH:qbq C){t:TypeId}{x ix:Value}{b:Bool}(hz:qqk C t)(hx:Ok C.A C.F x)(hi:Ok C.A C.F ix):qc C (Instr.lookup t x ix b) (Ok C.A C.F):=by
 unfold Instr.lookup;refine qaa (qai t) (fun d hd=>?_);split
 . rename_i key elem
   have two:∀ (v:Value) (ok:Bool),Ok C.A C.F v->Ok C.A C.F (if b then .tuple #[v,.bool ok] else v):=fun v ok hv=>by
     split
     . exact .tuple (fun u hu=>by
         simp only [List.mem_toArray,List.mem_cons,List.not_mem_nil,or_false] at hu;rcases hu with rfl | rfl
         . exact hv
         . exact .bool _)
     . exact hv
   have tail:∀ es:Array MapEntry,(∀ e,e∈es->Ok C.A C.F e.key/\Ok C.A C.F e.val)->qc C (do
       Instr.checkKey es.isEmpty 10000 key ix
       let r <-Instr.findKey key ix es.toList
       match r with
       | some (_,v)=>do let p <-pure (v,true);match p with | (v,ok)=>pure (if b then .tuple #[v,.bool ok] else v)
       | none=>do let z <-zeroValue elem;let p <-pure (z,false);match p with | (v,ok)=>pure (if b then .tuple #[v,.bool ok] else v):Sem Value) (Ok C.A C.F):=by
     intro es hes;refine qaa (qju hH _ _ _ _ hi) (fun _ _=>qaa (qlp hH hi (fun e he=>hes e (by simpa using he))) (fun r hr=>?_));split
     . exact qaa (Q:=fun p:Value × Bool=>Ok C.A C.F p.1) (qab (hr _ rfl)) (fun p hp=>qab (two _ _ hp))
     . exact qaa (qcl (hz _ _ hd)) (fun z hz=>qaa (Q:=fun p:Value × Bool=>Ok C.A C.F p.1) (qab hz) (fun p hp=>qab (two _ _ hp)))
   dsimp only;split
   . exact qaa (Q:=fun es:Array MapEntry=>∀ e,e∈es->Ok C.A C.F e.key/\Ok C.A C.F e.val) (qab (fun e he=>by simp at he)) (fun es hes=>tail es hes)
   . refine qaa (qd4 (.obj hx.of_map)) (fun o ho=>?_);split
     . exact qaa (Q:=fun es:Array MapEntry=>∀ e,e∈es->Ok C.A C.F e.key/\Ok C.A C.F e.val) (qab ho.1) (fun es hes=>tail es hes)
     . exact qaa (Q:=fun _=>False) qad (fun _ h=>h.elim)
   . exact qaa (Q:=fun _=>False) qad (fun _ h=>h.elim)
 . exact qad
theorem qlq{a b:Value}(ha:Ok C.A C.F a)(hb:Ok C.A C.F b):qc C (Instr.keyThatStays a b) (Ok C.A C.F):=by
 unfold Instr.keyThatStays;refine qah (fun _=>qab hb) (fun _=>qaa (qdd _) (fun n _=>qab ?_));split
 . exact hb
 . exact ha
theorem mem_modify{es:Array MapEntry}{i:Nat}{f:MapEntry->MapEntry}{Q:MapEntry->Prop}(h:∀ e,e∈es->Q e)(hf:∀ e,Q e->Q (f e)):∀ e,e∈es.modify i f->Q e:=by
 intro e he;obtain⟨j,hj⟩:=Array.mem_iff_getElem?.1 he;rw [Array.getElem?_modify] at hj;split at hj
 . obtain⟨y,hy,rfl⟩:=Option.map_eq_some_iff.1 hj;exact hf _ (h _ (Array.mem_of_getElem? hy))
 . exact h _ (Array.mem_of_getElem? hj)
theorem qiw(hH:qbq C){t:TypeId}{m k v:Value}(hm:Ok C.A C.F m)(hk:Ok C.A C.F k)(hv:Ok C.A C.F v):qc C (Instr.mapUpdate t m k v) (fun _=>True):=by
 unfold Instr.mapUpdate;refine qaa (qai t) (fun d _=>?_);split
 . split
   . exact qak hH _
   . refine qaa (qd4 (.obj hm.of_map)) (fun o ho=>?_);split
     . rename_i es clock;have hes:∀ e,e∈es->Ok C.A C.F e.key/\Ok C.A C.F e.val:=ho.1;refine qaa (qju hH _ _ _ _ hk) (fun _ _=>qaa (qlp hH hk (fun e he=>hes e (by simpa using he))) (fun r _=>?_));split
       . rename_i i _ _
         have hold:Ok C.A C.F (((es[i]?).map (·.key)).getD k):=by
           cases hg:es[i]? with
           | none=>exact hk
           | some e=>exact(hes e (Array.mem_of_getElem? hg)).1
         exact qaa (qlq hold hk) (fun k' hk'=>qnn (.obj hm.of_map) (o:=.map _ _) (mem_modify hes (fun e _=>⟨hk',hv⟩)) (ho.2.2.2 _ _ rfl) rfl)
       . refine qnn (.obj hm.of_map) (o:=.map _ _) (fun e he=>?_) (ho.2.2.2 _ _ rfl) rfl;rcases Array.mem_push.1 he with h1 | h1
         . exact hes e h1
         . rw [h1];exact⟨hk,hv⟩
     . exact qad
   . exact qad
 . exact qad
end
section
variable {C:Pen}{α β γ:Type}
theorem qql(v:Value):qc C (Builtin.lenOf v) (fun _=>True):=by
 unfold Builtin.lenOf;split <;> first | exact qab trivial | exact qad
theorem qfr{s n:Nat}{v:Value}(hv:Ok C.A C.F v):qc C (Builtin.firstCells s n v) (qm C):=by
 unfold Builtin.firstCells;split
 . exact qis hv.of_slice _
 . exact qab .nil
 . refine qab (fun u hu=>?_);obtain⟨b,_,rfl⟩:=Array.mem_map.1 hu;exact .int _ _
 . exact qad
theorem qnu{zero:Array Value}(h:qm C zero)(n:Nat):qm C (Builtin.zeroCells zero n):=qqi h qmx _
theorem q1x{s:Sem α}{Q:α->Prop}(h:∀ u,∃ x v,s.run C.P u=.halt x v/\Fatal x):qc C s Q:=fun w u es _ _=>by
 obtain⟨x,u',h1,h2⟩:=h u;rw [h1];exact qqc h2
def Looks(C:Pen)(s:Sem α):Prop:=∀ u,∃ b,s.run C.P u=.ok b u
theorem qeb(a:α):Looks C (pure a):=fun _=>⟨a,rfl⟩
theorem qe7{s:Sem α}{f:α->Sem β}(h:Looks C s)(k:∀ a,Looks C (f a)):Looks C (s >>= f):=fun u=>by
 obtain⟨a,ha⟩:=h u;obtain⟨b,hb⟩:=k a u;exact⟨b,by rw [Sem.run_bind,ha];exact hb⟩
theorem qwe{c:Prop}[Decidable c]{s t:Sem α}(h:Looks C s)(k:Looks C t):Looks C (if c then s else t):=by
 split
 . exact h
 . exact k
theorem qys(r:Nat):Looks C (shape r):=fun u=>⟨_,run_shape C.P u r⟩
theorem qwf(a:Addr):Looks C (frozen a):=fun u=>⟨_,run_frozen C.P u a⟩
theorem qfs(a:Addr)(k:Nat):Looks C (Builtin.holdsCells a k):=by
 unfold Builtin.holdsCells;refine qe7 (qys _) (fun x=>?_);split <;> exact qeb _
theorem qr6{size sLen n:Nat}{base:Option Addr}{x:Value}:Looks C (Builtin.mayShare size sLen n base x):=by
 unfold Builtin.mayShare;dsimp only;split
 . refine qe7 (qeb true) (fun there=>qwe (qeb _) ?_);split
   . exact qe7 (qfs _ _) (fun _=>qeb _)
   . exact qeb _
 . refine qe7 (qfs _ _) (fun b=>qe7 (qwf _) (fun b'=>qe7 (qeb _) (fun there=>qwe (qeb _) ?_)));split
   . exact qe7 (qfs _ _) (fun _=>qeb _)
   . exact qeb _
theorem qt9{size sLen n:Nat}{base:Option Addr}{x:Value}{w:String}{Q:Unit->Prop}:qc C (do
   let there <-Builtin.mayShare size sLen n base x
   if (!there)=true then do
     let r <-mark .noRoom
     (fun _=>unsupported (.resourceLimit w)) r
   else (fun _=>unsupported (.resourceLimit w)) ():Sem Unit) Q:=q1x (fun u=>by
 obtain⟨b,hb⟩:=qr6 (C:=C) (size:=size) (sLen:=sLen) (n:=n) (base:=base) (x:=x) u;cases b
 . exact⟨.unsupported (.resourceLimit w),u,by simp only [Sem.run_bind,hb,Result.andThen_ok,Bool.not_false,if_true,run_mark,run_unsupported],trivial⟩
 . exact⟨.unsupported (.resourceLimit w),u,by simp only [Sem.run_bind,hb,Result.andThen_ok,Bool.not_true,Bool.false_eq_true,if_false,run_unsupported],trivial⟩)
theorem qwg(hH:qbq C){ats:Array TypeId}(t:TypeId){args:Array Value}(hz:∀ s,ats[0]?=some s->qgc C s)(ha:qm C args):qc C (Builtin.append_ ats t args) (Ok C.A C.F):=by
 unfold Builtin.append_;split
 . rename_i sType s x heq;simp only [Prod.mk.injEq] at heq;obtain⟨h1,h2,h3⟩:=heq;have hs:=ha.get h2;have hx:=ha.get h3;have hz:=hz _ h1;refine qaa (qai _) (fun d hd=>?_);split
   . rename_i elem;split
     . rename_i base sLen sCap;refine qaa (qa7 _) (fun size _=>?_)
       have qeM:∀ (zeros:Bool) (n:Nat),qc C (if !zeros then Builtin.firstCells size n x
           else if n * size=0 then pure #[]
           else do pure (Builtin.zeroCells (<-zeroValue elem).cells n):Sem (Array Value)) (qm C):=fun zeros n=>
         qah (fun _=>qfr hx) (fun _=>qah (fun _=>qab .nil) (fun _=>qaa (qcl (hz _ hd)) (fun z hz=>qab (qnu hz.cells _))))
       extract_lets (underBinder:=false) jp1
       have h1:∀ zeros,qc C (jp1 zeros) (Ok C.A C.F):=by
         intro zeros
         dsimp (zeta:=false) only [jp1]
         extract_lets (underBinder:=false) jp2
         have h2:∀ n,qc C (jp2 n) (Ok C.A C.F):=by
           intro n;have qaH:=qeM zeros n
           dsimp (zeta:=false) only [jp2]
           extract_lets (underBinder:=false) appended need
           have yt:qc C appended (qm C):=qaH;refine qah (fun _=>qaa yt (fun new hn=>?_)) (fun _=>qaa (qa5 _) (fun i _=>?_))
           . extract_lets (underBinder:=false) jp
             have hj:∀ r,qc C (jp r) (Ok C.A C.F):=fun r=>qab (.slice _ _ (fun y e=>by subst e;exact hs.of_slice));split
             . exact qaa (qfp (qno hs.of_slice _) _ _ (fun v hv=>hn v (by simpa using hv))) (fun r _=>hj r)
             . exact hj ()
           . extract_lets (underBinder:=false) jp
             have hj:∀ r,qc C (jp r) (Ok C.A C.F):=by
               intro r
               dsimp (zeta:=false) only [jp]
               refine qaa (qa5 _) (fun i _=>?_)
               extract_lets (underBinder:=false) jp
               have hj:∀ r,qc C (jp r) (Ok C.A C.F):=fun r=>
                 qaa (qdd _) (fun c _=>qaa (qa5 _) (fun i _=>qaa (qll _) (fun _ _=>qaa (qfr hs) (fun old ho=>qaa yt (fun new hn=>
                   qaa (qcl (hz _ hd)) (fun z hz=>qaa (jk ((ho.app hn).app (qnu hz.cells _))) (fun a ha=>qab (.slice _ _ (fun y e=>by cases e;exact ha)))))))))
               refine qah (fun _=>qaa (Q:=fun _=>True) ?_ (fun r _=>hj r)) (fun _=>hj ());exact qah (fun _=>qak hH _) (fun _=>qt9)
             exact qah (fun _=>qaa (Q:=fun _=>True) (qak hH _) (fun r _=>hj r)) (fun _=>hj ())
         refine qah (fun _=>qaa (qe5 _) (fun m _=>?_)) (fun _=>qaa (qql _) (fun n _=>h2 n))
         extract_lets (underBinder:=false) l jp
         have hj:∀ r,qc C (jp r) (Ok C.A C.F):=by
           intro r
           dsimp (zeta:=false) only [jp]
           refine qaa (qa5 _) (fun i _=>?_)
           extract_lets (underBinder:=false) jp
           have hj:∀ r,qc C (jp r) (Ok C.A C.F):=fun r=>qaa (Q:=fun _=>True) (qab trivial) (fun n _=>h2 n);exact qah (fun _=>qaa (qdd _) (fun _ _=>qaa (Q:=fun _=>True) (qak hH _) (fun r _=>hj r))) (fun _=>hj ())
         exact qah (fun _=>qaa (Q:=fun _=>True) (qak hH _) (fun r _=>hj r)) (fun _=>hj ())
       split
       . exact qaa (qai _) (fun d _=>qaa (Q:=fun _=>True) (qab trivial) (fun z _=>h1 z))
       . exact qaa (Q:=fun _=>True) (qab trivial) (fun z _=>h1 z)
     . exact qad
   . exact qad
 . exact qad
theorem q1y{ats:Array TypeId}{t:TypeId}{args:Array Value}(ha:qm C args):qc C (Builtin.copy_ ats t args) (Ok C.A C.F):=by
 unfold Builtin.copy_;split
 . rename_i dType dst src heq;simp only [Prod.mk.injEq] at heq;obtain⟨h1,h2,h3⟩:=heq;have hd:=ha.get h2;have hs:=ha.get h3;refine qaa (qai _) (fun d _=>?_);split
   . split
     . refine qaa (qql _) (fun n _=>qaa (qa7 _) (fun sz _=>qaa (qfr hs) (fun cells hc=>?_)));dsimp only;split
       . exact qaa (qfp hd.of_slice _ _ (fun v hv=>hc v (by simpa using hv))) (fun _ _=>qab (.goInt _))
       . exact qab (.goInt _)
     . exact qad
   . exact qad
 . exact qad
theorem q34{ats:Array TypeId}{t:TypeId}{args:Array Value}(ha:qm C args):qc C (Builtin.len_ ats t args) (Ok C.A C.F):=by
 unfold Builtin.len_;split
 . rename_i ty x heq;simp only [Prod.mk.injEq] at heq;have hx:=ha.get heq.2;refine qaa (qai _) (fun d _=>?_);split
   . exact qab (.goInt _)
   . exact qab (.goInt _)
   . refine qaa (qai _) (fun d _=>?_);split
     . exact qab (.goInt _)
     . exact qad
   . exact qab (.goInt _)
   . exact qab (.goInt _)
   . exact qab (.goInt _)
   . refine qaa (qd4 (.obj hx.of_map)) (fun o ho=>?_);split
     . exact qab (.goInt _)
     . exact qad
   . refine qaa (qd4 (.obj (by cases hx with | chan h=>exact h _ rfl))) (fun o ho=>?_);split
     . exact qab (.goInt _)
     . exact qad
   . exact qad
 . exact qad
theorem q35{ats:Array TypeId}{t:TypeId}{args:Array Value}(ha:qm C args):qc C (Builtin.cap_ ats t args) (Ok C.A C.F):=by
 unfold Builtin.cap_;split
 . rename_i ty x heq;simp only [Prod.mk.injEq] at heq;have hx:=ha.get heq.2;refine qaa (qai _) (fun d _=>?_);split
   . exact qab (.goInt _)
   . refine qaa (qai _) (fun d _=>?_);split
     . exact qab (.goInt _)
     . exact qad
   . exact qab (.goInt _)
   . exact qab (.goInt _)
   . refine qaa (qd4 (.obj (by cases hx with | chan h=>exact h _ rfl))) (fun o ho=>?_);split
     . exact qab (.goInt _)
     . exact qad
   . exact qad
 . exact qad
theorem q1z{x y:Value}(hx:Ok C.A C.F x):qc C (Builtin.min2 x y) (Ok C.A C.F):=by
 unfold Builtin.min2;split
 . exact qab (.int _ _)
 . cases hx
 . exact qaa (qjt _ _ _) (fun v _=>qaa (qnq v) (fun b _=>qab (.string _)))
 . exact qaf (by simp)
 . exact qaf (by simp)
 . exact qad
theorem q36{ats:Array TypeId}{t:TypeId}{args:Array Value}(ha:qm C args):qc C (Builtin.min_ ats t args) (Ok C.A C.F):=by
 unfold Builtin.min_
 have key:∀ (l:List Value) (x:Value),Ok C.A C.F x->(∀ v,v∈l->Ok C.A C.F v)->qc C (l.foldlM Builtin.min2 x) (Ok C.A C.F):=by
   intro l
   induction l with
   | nil=>intro x hx _;exact qab hx
   | cons y l ih=>
     intro x hx h;rw [List.foldlM_cons];exact qaa (q1z hx) (fun v hv=>ih v hv (fun u hu=>h u (by simp [hu])))
 obtain⟨l⟩:=args;cases l with
 | nil=>exact qad
 | cons x l=>exact key l x (ha x (by simp)) (fun v hv=>ha v (by simp [hv]))
theorem qoi{s d:TypeId}{x:Value}{j k:IntKind}(hs:C.P.underlying s=some (.int j))(hd:C.P.underlying d=some (.int k))(hx:Ok C.A C.F x):qc C (convert s d x) (Ok C.A C.F):=by
 unfold convert;refine qaa (qai s) (fun a ha=>qaa (qai d) (fun b hb=>?_));rw [hs] at ha;rw [hd] at hb;cases ha;cases hb;cases hx with
 | int k n=>exact qab (.int _ _)
 | @pointer a h=>cases a <;> first | exact qaf (by simp) | exact qad
 | _=>first | exact qaf (by simp) | exact qad
theorem q37(w:World):w.sys .env=(.strings w.os.env,w):=rfl
theorem qwh:qc C (sys .env) (fun _=>True):=fun w u es hr al=>by
 have h1:(sys .env).run C.P u=.ok (.strings u.os.env) u:=by simp [sys,Sem.run,q37]
 rw [h1];refine⟨w,#[⟨.output,true,false⟩],?_,hr,⟨fun _ _=>rfl,Nat.le_refl _,rfl,rfl,rfl,Nat.le_refl _,fun e he=>?_,.of rfl⟩,trivial⟩
 . simp only [sys,Sem.runT,q37,hr.os,Array.push_eq_append]
 . rw [Array.mem_singleton] at he;subst he;trivial
theorem qyt(hH:qbq C){x:Value}(hx:Ok C.A C.F x){Q:Value->Prop}:qc C (Instr.panic x) Q:=by
 unfold Instr.panic;split
 . exact qc0 hx
 . refine qaa (Q:=fun _=>True) ?_ (fun n _=>qah (fun _=>qc0 .nilIface) (fun _=>qak hH _));unfold Instr.panicnil;refine qaa qwh (fun r _=>?_);split
   . exact qaa qa0 (fun p _=>qab trivial)
   . exact qad
 . exact qad
end
structure yd(C:Pen)(S:List String):Prop where
 handle:qbq C
 func:∀ f,C.F f->∃ fn,C.P.funcs[f]?=some fn/\(fn.name == "runtime.NumGoroutine")=false /\
   (fn.body.isNone=false∨(fn.body.isNone=true/\Extern.findNext fn=none/\∃ e,Extern.find fn=some e/\∀ args,qm C args->qc C (e args) (Ok C.A C.F)))
 qeN:∀ t i m f b,C.P.info? t=some i->m∈i.methods->m.name∈S->m.func=some (f,b)->C.F f
def qnv(C:Pen):Next->Prop
 | .value v=>Ok C.A C.F v
 | .skip=>True
 | .enter f args=>C.F f/\qm C args/\∃ fn c,C.P.funcs[f]?=some fn/\fn.body=some c
 | _=>False
section
variable {C:Pen}{S:List String}
theorem qjv(H:yd C S){f:FuncId}{args:Array Value}(hf:C.F f)(ha:qm C args):qc C (callFunc f args) (qnv C):=by
 obtain⟨fn,h1,h2,h3⟩:=H.func f hf;unfold callFunc;refine qaa qa0 (fun p hp=>?_);subst hp;rw [h1];dsimp only;rw [if_neg (by simpa using h2)];rcases h3 with h3 | ⟨h3,h4,e,h5,h6⟩
 . rw [if_neg (by simp [h3])]
   have:∃ c,fn.body=some c:=by
     cases hb:fn.body with
     | none=>rw [hb] at h3;cases h3
     | some c=>exact⟨c,rfl⟩
   obtain⟨c,hc⟩:=this;exact qab ⟨hf,ha,fn,c,h1,hc⟩
 . rw [if_pos h3];refine qaa (qoc f) (fun _ _=>?_);rw [h4,h5];exact qaa (h6 args ha) (fun v hv=>qab hv)
def qua(C:Pen):Place->Prop
 | .val v=>Ok C.A C.F v
 | .var a=>C.A a
theorem qek{t:TypeId}{x:Place}(h:qua C x):qc C (x.get t) (Ok C.A C.F):=by
 unfold Place.get;cases x with
 | val v=>exact qab h
 | var a=>exact qez h
theorem qwi(hH:qbq C):∀ (l:List FieldStep) (t:TypeId) (x:Place),qua C x->qc C (follow l t x) (fun r=>qua C r.2):=by
 intro l
 induction l with
 | nil=>intro t x h;unfold follow;exact qab h
 | cons s l ih=>
   intro t x h;unfold follow;refine qaa (qai _) (fun d _=>?_);split
   . split
     . refine qah (fun _=>?_) (fun _=>?_)
       . exact qaa (qek h) (fun v hv=>qaa (qfi hH hv) (fun a ha=>qaa (qfq ha _) (fun b hb=>ih _ _ hb)))
       . split
         . exact qaa (qfq h _) (fun b hb=>ih _ _ hb)
         . exact qaa (qc4 (Ok.ji h) _) (fun v hv=>ih _ _ hv)
         . exact qad
     . exact qad
   . exact qad
theorem qub(hH:qbq C){ats:Array TypeId}{t:TypeId}{p:Value}{a b:String}(hp:Ok C.A C.F p):qc C (Builtin.ssaWrapNilChk_ ats t #[p,strVal a,strVal b]) (Ok C.A C.F):=by
 unfold Builtin.ssaWrapNilChk_ strVal;cases p with
 | pointer a=>
   cases a with
   | some a=>exact qab hp
   | none=>
     refine qaa (qdd _) (fun n _=>?_)
     extract_lets (underBinder:=false) jp
     have hj:∀ r,qc C (jp r) (Ok C.A C.F):=by
       intro r
       dsimp (zeta:=false) only [jp]
       split
       . refine qaa (qai _) (fun d _=>?_);split
         . refine qaa (qa5 _) (fun i _=>?_);split
           . split
             . dsimp only;split
               . exact qak hH _
               . exact qaf (by simp)
             . exact qad
           . exact qad
         . exact qad
       . exact qad
     exact qah (fun _=>qaa (Q:=fun _=>True) (qak hH _) (fun r _=>hj r)) (fun _=>hj ())
 | _=>exact qad
theorem qoj(hH:qbq C){t:TypeId}{x:Place}{b:Bool}{w:Option String}(h:qua C x):qc C (receiverAt t x b w) (Ok C.A C.F):=by
 unfold receiverAt;refine qaa (qai _) (fun d _=>?_);split
 . exact qek h
 . refine qaa (qek h) (fun v hv=>?_);cases w with
   | some nm=>exact qaa (qub hH hv) (fun p hp=>qaa (qfi hH hp) (fun a ha=>qez ha))
   | none=>exact qaa (Q:=Ok C.A C.F) (qab hv) (fun p hp=>qaa (qfi hH hp) (fun a ha=>qez ha))
 all_goals first | exact qab (.ptr h) | exact qad | exact qek h
theorem qwj(H:yd C S){name:String}(hn:name∈S):∀ (n:Nat) (t:TypeId) (v:Value),Ok C.A C.F v->qc C (method n t v name) (fun r=>C.F r.1/\Ok C.A C.F r.2):=by
 intro n
 induction n with
 | zero=>intro t v _;unfold method;exact qaf (by simp)
 | succ n ih=>
   intro t v hv;unfold method;refine qaa (qa5 t) (fun i hi=>?_);split
   . rename_i m hm;have hmem:m∈i.methods:=Array.mem_of_find?_eq_some hm;have hname:m.name=name:=by simpa using Array.find?_some hm
     refine qaa (qwi H.handle _ _ (.val v) hv) (fun p hp=>?_);dsimp only;split
     . refine qaa (qek hp) (fun u hu=>?_);split
       . exact ih _ _ hu.jj
       . exact qak H.handle _
       . exact qad
     . rename_i f b hf;have hF:=H.qeN t i m f b hi hmem (by rw [hname];exact hn) hf;exact qaa (qoj H.handle hp) (fun r hr=>qab ⟨hF,hr⟩)
   . exact qad
theorem qok(H:yd C S){name:String}(hn:name∈S){recv:Value}{args:Array Value}(hr:Ok C.A C.F recv)(ha:qm C args):qc C (callMethod recv name args) (qnv C):=by
 unfold callMethod;split
 . refine qaa qa0 (fun p _=>qaa (qwj H hn _ _ _ hr.jj) (fun r hr=>?_));exact qjv H hr.1 ((qm.one hr.2).app ha)
 . exact qak H.handle _
 . exact qad
def qwk(C:Pen)(S:List String)(c:Call):Prop:=
 match c.callee with
 | .builtin .append=>∀ s,c.argTypes[0]?=some s->qgc C s
 | .builtin .cap | .builtin .copy | .builtin .len | .builtin .min=>True
 | .builtin _=>False
 | .invoke _ name=>name∈S
 | .value _=>True
def qaI(C:Pen)(S:List String):Op->Prop
 | .move _ | .assign _ | .pick _ _ _ | .box _ _ | .load _ _ | .store _ _ _ | .nilCheck _ | .unOp _ _ _ | .makeInterface _ _ | .makeMap _ _ | .slice _ _ _ _ _ | .fieldAddr _ _ _
 | .field _ _ _ | .indexAddr _ _ _ | .index _ _ _ | .mapUpdate _ _ _ _ | .insert _ _ _ _ | .extract _ _ | .panic _=>True
 | .binOp _ t _ _ _=>C.P.underlying t≠some .unsafePointer
 | .alloc t | .build t _=>qlk C t
 | .buildSlice t _ _ | .makeSlice t _ _=>qgc C t
 | .typeAssert _ _ a _=>qlk C a
 | .lookup t _ _ _=>qqk C t
 | .convert s d _=>(∃ j,C.P.underlying s=some (.int j))/\∃ k,C.P.underlying d=some (.int k)
 | .makeFunc fn _ _=>∃ f,fn=.func f/\C.F f
 | .call c=>qwk C S c
 | _=>False
theorem qcm{s:Sem Value}(h:qc C s (Ok C.A C.F)):qc C (do pure (.value (<-s)):Sem Next) (qnv C):=qaa h (fun _ hv=>qab hv)
theorem qyu{s:Sem Unit}(h:qc C s (fun _=>True)):qc C (do s;pure .skip:Sem Next) (qnv C):=qaa h (fun _ _=>qab trivial)
theorem qnw(H:yd C S){ρ:Operand->Value}{o:Oper}(hρ:∀ x,x∈o.op.operands->Ok C.A C.F (ρ x))(ho:qaI C S o.op):qc C (execOp ρ o) (qnv C):=by
 have hH:=H.handle;unfold execOp;cases hop:o.op with
 | move x=>rw [hop] at hρ;exact qab (hρ x (by simp [Op.operands]))
 | assign x=>rw [hop] at hρ;exact qab (hρ x (by simp [Op.operands]))
 | pick c a b=>
   rw [hop] at hρ;refine qaa (qnq _) (fun t _=>qab ?_);cases t
   . exact hρ b (by simp [Op.operands])
   . exact hρ a (by simp [Op.operands])
 | alloc t=>rw [hop] at ho;exact qcm (qym ho)
 | box t x=>rw [hop] at hρ;exact qcm (q33 (hρ x (by simp [Op.operands])))
 | build t parts=>
   rw [hop] at hρ ho;refine qcm (qyp ho (fun p hp=>?_));obtain⟨q,hq,rfl⟩:=Array.mem_map.1 hp
   exact hρ q.2 (by
     simp only [Op.operands,List.mem_toArray,List.mem_map];exact⟨q,by simpa using hq,rfl⟩)
 | buildSlice t n parts=>
   rw [hop] at hρ ho;refine qcm (qof ho (fun p hp=>?_));obtain⟨q,hq,rfl⟩:=Array.mem_map.1 hp
   exact hρ q.2 (by
     simp only [Op.operands,List.mem_toArray,List.mem_map];exact⟨q,by simpa using hq,rfl⟩)
 | insert t m k x=>rw [hop] at hρ;exact qyu (qiw hH (hρ m (by simp [Op.operands])) (hρ k (by simp [Op.operands])) (hρ x (by simp [Op.operands])))
 | load t a=>rw [hop] at hρ;exact qcm (qwa (hρ a (by simp [Op.operands])))
 | store t a x=>rw [hop] at hρ;exact qyu (qt3 (hρ a (by simp [Op.operands])) (hρ x (by simp [Op.operands])))
 | nilCheck x=>
   rw [hop] at hρ;have hx:=hρ x (by simp [Op.operands]);dsimp only;generalize ρ x=v at hx;cases hx with
   | @pointer a h=>cases a with
     | none=>exact qak hH _
     | some a=>exact qab (.pointer h)
   | nilIface=>exact qak hH _
   | nilFunc=>exact qak hH _
   | bool b=>exact qab (.bool b)
   | int k n=>exact qab (.int k n)
   | string s=>exact qab (.string s)
   | slice n c h=>exact qab (.slice n c h)
   | map h=>exact qab (.map h)
   | chan h=>exact qab (.chan h)
   | func h1 h2 h3=>exact qab (.func h1 h2 h3)
   | iface t h=>exact qab (.iface t h)
   | agg h=>exact qab (.agg h)
   | tuple h=>exact qab (.tuple h)
 | binOp op t x y u=>
   rw [hop] at hρ ho;have hx:=hρ x (by simp [Op.operands]);have hy:=hρ y (by simp [Op.operands]);exact qcm (qaa (qt1 hx hy) (fun _ _=>qyj hH ho hx hy))
 | unOp op t x=>rw [hop] at hρ;exact qcm (qyk (hρ x (by simp [Op.operands])))
 | convert s d x=>
   rw [hop] at hρ ho;obtain⟨⟨j,h1⟩,k,h2⟩:=ho;exact qcm (qoi h1 h2 (hρ x (by simp [Op.operands])))
 | makeInterface t x=>rw [hop] at hρ;exact qcm (qka (hρ x (by simp [Op.operands])))
 | makeFunc fn first captured=>
   rw [hop] at hρ ho;obtain⟨f,rfl,hf⟩:=ho;refine qcm (qab (.func hf (fun v hv=>?_) (fun v hv=>?_)))
   . obtain⟨x,hx,rfl⟩:=Array.mem_map.1 hv;exact hρ x (by simp [Op.operands,hx])
   . obtain⟨x,hx,rfl⟩:=Array.mem_map.1 hv;exact hρ x (by simp [Op.operands,hx])
 | makeMap t r=>exact qcm qt7
 | makeSlice t l c=>rw [hop] at ho;exact qcm (qqj hH ho)
 | slice t x lo hi mx=>rw [hop] at hρ;exact qcm (qt6 hH (hρ x (by simp [Op.operands])))
 | fieldAddr s x f=>rw [hop] at hρ;exact qcm (qt4 (hρ x (by simp [Op.operands])) f)
 | field t x f=>rw [hop] at hρ;exact qcm (qyq (hρ x (by simp [Op.operands])))
 | indexAddr t x i=>rw [hop] at hρ;exact qcm (qt5 hH (hρ x (by simp [Op.operands])))
 | index t x i=>rw [hop] at hρ;exact qcm (qyr hH (hρ x (by simp [Op.operands])))
 | lookup t x i b=>rw [hop] at hρ ho;exact qcm (qwd hH ho (hρ x (by simp [Op.operands])) (hρ i (by simp [Op.operands])))
 | mapUpdate t m k x=>rw [hop] at hρ;exact qyu (qiw hH (hρ m (by simp [Op.operands])) (hρ k (by simp [Op.operands])) (hρ x (by simp [Op.operands])))
 | typeAssert x t a b=>rw [hop] at hρ ho;exact qcm (qog hH (hρ x (by simp [Op.operands])) ho)
 | extract t i=>rw [hop] at hρ;exact qcm (qt8 (hρ t (by simp [Op.operands])))
 | panic x=>rw [hop] at hρ;exact qcm (qyt hH (hρ x (by simp [Op.operands])))
 | call c=>
   rw [hop] at hρ ho
   have hargs:qm C (c.args.map ρ):=fun v hv=>by
     obtain⟨x,hx,rfl⟩:=Array.mem_map.1 hv;exact hρ x (by simp [Op.operands,Call.operands,hx])
   unfold resolve;have ho:qwk C S c:=ho;unfold qwk at ho;dsimp only;cases hc:c.callee with
   | builtin b=>
     rw [hc] at ho;dsimp only;refine qaa (Q:=fun d=>d={ target:=.builtin b c.argTypes o.type (c.args.map fun | .const _=>true | _=>false),args:=c.args.map ρ }) (qab rfl) (fun d hd=>?_);subst hd;unfold invoke;cases b <;> first | exact ho.elim | skip
     . exact qcm (qwg hH _ ho hargs)
     . exact qcm (q35 hargs)
     . exact qcm (q1y hargs)
     . exact qcm (q34 hargs)
     . exact qcm (q36 hargs)
   | invoke recv name=>
     rw [hc] at ho;dsimp only at ho |-;have hr:Ok C.A C.F (ρ recv):=hρ recv (by simp [Op.operands,Call.operands,hc]);refine qaa (Q:=fun d=>d={ target:=.fn (.method name) #[],args:=#[ρ recv]++c.args.map ρ }) (qab rfl) (fun d hd=>?_);subst hd;unfold invoke;dsimp only;split
     . rename_i rv hrv;rw [Array.getElem?_append_left (by simp)] at hrv;have h0:rv=ρ recv:=by simpa using hrv.symm
       rw [h0];refine qok H ho hr (qm.extract (C:=C) ((qm.one hr).app hargs) _ _)
     . exact qad
   | value f=>
     have hf:Ok C.A C.F (ρ f):=hρ f (by simp [Op.operands,Call.operands,hc]);dsimp only;unfold Deferred.ofValue;generalize ρ f=v at hf;cases hf with
     | @func g first captured h1 h2 h3=>
       dsimp only;refine qaa (Q:=fun d=>d={ target:=.fn (.func g) captured,args:=first++c.args.map ρ }) (qab rfl) (fun d hd=>?_);subst hd;unfold invoke;exact qjv H h1 ((qm.app (C:=C) h2 hargs).app h3)
     | nilFunc=>
       dsimp only;refine qaa (Q:=fun d=>d={ target:=.nil,args:=c.args.map ρ }) (qab rfl) (fun d hd=>?_);subst hd;unfold invoke;exact qak hH _
     | _=>exact qaa (Q:=fun _=>False) qad (fun _ h=>h.elim)
 | _=>rw [hop] at ho;exact ho.elim
end
end
section
open Go.Conc
def qqm(C:Pen)(X:Nat->Prop):Operand->Prop
 | .tmp t=>¬ X t
 | .const v=>Ok C.A C.F v
 | .global g=>C.A ⟨g,0,none⟩
 | .func f=>C.F f
def q38(C:Pen)(S:List String)(X:Nat->Prop)(o:Oper):Prop:=qaI C S o.op/\∀ x,x∈o.op.operands->qqm C X x
def qe0(C:Pen)(S:List String)(X:Nat->Prop):Code->Prop
 | .region _ ops _=>∀ o,o∈ops->q38 C S X o
 | .seq a b=>qe0 C S X a/\qe0 C S X b
 | .cond _ a b=>qe0 C S X a/\qe0 C S X b
 | .block _ c | .loop c | .scope c=>qe0 C S X c
 | .rangeFunc _ _ _ _=>False
 | _=>True
def qjw(C:Pen)(S:List String)(X:Nat->Prop):Item->Prop
 | .code c | .inLoop c | .inScope c=>qe0 C S X c
 | .inBlock _=>True
 | .inRegion ops _=>∀ o,o∈ops->q38 C S X o
 | _=>False
def quc(X:Nat->Prop):ResultVar->Prop
 | .tmp t=>¬ X t
 | .cell a _=>¬ X a
structure jJ(C:Pen)(S:List String)(X:Nat->Prop)(fr:Frame):Prop where
 tm:∀ t v,¬ X t->fr.tmps[t]?=some v->Ok C.A C.F v
 todo:∀ it,it∈fr.todo->qjw C S X it
 defers:fr.defers=[]
 kind:fr.kind=.normal
 round:fr.roundOf=none
 mode:∀ ch,fr.mode=.panicking ch->∀ e,e∈ch->Ok C.A C.F e.v
 fn:∃ fn,C.P.funcs[fr.fn]?=some fn/\∀ r,r∈fn.results->quc X r
def FrE(C:Pen)(S:List String)(fr:Frame):Prop:=jJ C S (C.X fr.fn) fr
structure jo(C:Pen)(S:List String):Prop where
 yu:yd C S
 body:∀ f fn c,C.F f->C.P.funcs[f]?=some fn->fn.body=some c->qe0 C S (C.X f) c/\∀ r,r∈fn.results->quc (C.X f) r
section
variable {C:Pen}{S:List String}{X:Nat->Prop}
theorem q39{id:Nat}:∀ (k k':List Item),(∀ it,it∈k->qjw C S X it)->exitTo id k=some k'->∀ it,it∈k'->qjw C S X it:=by
 intro k
 induction k with
 | nil=>intro k' _ e;simp [exitTo] at e
 | cons x k ih=>
   intro k' h e;have ht:∀ it,it∈k->qjw C S X it:=fun it hi=>h it (by simp [hi]);cases x with
   | inBlock id'=>
     simp only [exitTo] at e;split at e
     . cases e;exact ht
     . exact ih k' ht e
   | _=>simp only [exitTo] at e;exact ih k' ht e
theorem qwl{l:Nat}:∀ (c r:Code),qe0 C S X c->findLabel c l=some r->qe0 C S X r:=by
 intro c
 induction c with
 | seq a b iha ihb=>
   intro r h e;simp only [findLabel] at e;split at e
   . rename_i x hx;cases e;exact⟨iha x h.1 hx,h.2⟩
   . exact ihb r h.2 e
 | label l'=>
   intro r h e;simp only [findLabel] at e;split at e
   . cases e;trivial
   . cases e
 | _=>intro r h e;simp [findLabel] at e
theorem q4a{l:Nat}:∀ (k k':List Item),(∀ it,it∈k->qjw C S X it)->gotoIn l k=some k'->∀ it,it∈k'->qjw C S X it:=by
 intro k
 induction k with
 | nil=>intro k' _ e;simp [gotoIn] at e
 | cons x k ih=>
   intro k' h e;have ht:∀ it,it∈k->qjw C S X it:=fun it hi=>h it (by simp [hi]);cases x with
   | inScope body=>
     simp only [gotoIn] at e;split at e
     . rename_i rest hr;cases e;intro it hi;rcases List.mem_cons.1 hi with h1 | h1
       . subst h1;exact qwl body rest (h (.inScope body) (by simp)) hr
       . rcases List.mem_cons.1 h1 with h2 | h2
         . subst h2;exact h (.inScope body) (by simp)
         . exact ht it h2
     . exact ih k' ht e
   | _=>simp only [gotoIn] at e;exact ih k' ht e
theorem q4b{fr:Frame}(h:jJ C S X fr){x:Operand}(hx:qqm C X x):Ok C.A C.F (fr.eval x):=by
 cases x with
 | tmp t=>
   show Ok C.A C.F (fr.tmps.getD t undef);rw [Array.getD_eq_getD_getElem?];cases hv:fr.tmps[t]? with
   | none=>exact .undef
   | some v=>exact h.tm t v hx hv
 | const v=>exact hx
 | global g=>exact .ptr hx
 | func f=>exact .func hx (fun v hv=>by simp at hv) (fun v hv=>by simp at hv)
theorem jJ.vp{fr:Frame}(h:jJ C S X fr){k:List Item}(hk:∀ it,it∈k->qjw C S X it):jJ C S X { fr with todo:=k }:=⟨h.tm,hk,h.defers,h.kind,h.round,h.mode,h.fn⟩
theorem jJ.jP{fr:Frame}(h:jJ C S X fr){m:FrameMode}(hm:∀ ch,m=.panicking ch->∀ e,e∈ch->Ok C.A C.F e.v):jJ C S X { fr with mode:=m }:=⟨h.tm,h.todo,h.defers,h.kind,h.round,hm,h.fn⟩
theorem jJ.finish{fr:Frame}(h:jJ C S X fr){v:Value}(hv:Ok C.A C.F v):jJ C S X (fr.finish v):=by
 unfold Frame.finish;split
 . rename_i ops i rest k hk;have ht:=h.todo;rw [hk] at ht;refine⟨?_,?_,h.defers,h.kind,h.round,h.mode,h.fn⟩
   . intro t y hX hy;dsimp only at hy;split at hy
     . rw [Array.getElem?_setIfInBounds] at hy;split at hy
       . split at hy
         . cases hy;exact hv
         . cases hy
       . exact h.tm t y hX hy
     . exact h.tm t y hX hy
   . intro it hi;rcases List.mem_cons.1 hi with h1 | h1
     . subst h1;exact ht (.inRegion ops (i::rest)) (by simp)
     . exact ht it (by simp [h1])
 . rename_i hk;have ht:=h.todo;rw [hk] at ht;exact False.elim (ht _ (List.mem_cons_self ..))
 . rename_i hk;have ht:=h.todo;rw [hk] at ht;exact False.elim (ht _ (List.mem_cons_self ..))
 . rename_i hk;have ht:=h.todo;rw [hk] at ht;exact False.elim (ht _ (List.mem_cons_self ..))
 . rename_i hk;have ht:=h.todo;rw [hk] at ht;exact False.elim (ht _ (List.mem_cons_self ..))
 . exact h
theorem jJ.raise{fr:Frame}(h:jJ C S X fr){vs:List PanicEntry}(hv:∀ e,e∈vs->Ok C.A C.F e.v):jJ C S X (fr.raise vs):=by
 unfold Frame.raise;split
 . rename_i ch hm;refine h.jP (fun ch' e=>?_);cases e;intro e he;rcases List.mem_append.1 he with h1 | h1
   . exact hv e h1
   . exact h.mode _ hm e h1
 . refine h.jP (fun ch' e=>?_);cases e;exact hv
theorem q4c(fr:Frame)(v:Value):(fr.finish v).fn=fr.fn:=by unfold Frame.finish;split <;> rfl
theorem q6b(fr:Frame)(vs:List PanicEntry):(fr.raise vs).fn=fr.fn:=by unfold Frame.raise;split <;> rfl
theorem FrE.finish{fr:Frame}(h:FrE C S fr){v:Value}(hv:Ok C.A C.F v):FrE C S (fr.finish v):=by
 unfold FrE;rw [q4c];exact jJ.finish h hv
theorem FrE.raise{fr:Frame}(h:FrE C S fr){vs:List PanicEntry}(hv:∀ e,e∈vs->Ok C.A C.F e.v):FrE C S (fr.raise vs):=by
 unfold FrE;rw [q6b];exact jJ.raise h hv
theorem q6c(H:jo C S){f:FuncId}{args:Array Value}(hf:C.F f)(ha:qm C args){fn:Func}{c:Code}(h1:C.P.funcs[f]?=some fn)(h2:fn.body=some c):FrE C S (Frame.enter C.P f args .normal):=by
 refine⟨?_,?_,rfl,rfl,rfl,(fun ch e=>by cases e),fn,h1,(H.body f fn c hf h1 h2).2⟩
 . intro t v _ hv;simp only [Frame.enter] at hv
   have:qm C (args++Array.replicate ((((C.P.funcs[f]?).map (·.ntmps)).getD 0) - args.size) undef):=ha.app (fun v hv=>by
     rw [(Array.mem_replicate.1 hv).2];exact .undef)
   exact this.get hv
 . intro it hi;simp only [Frame.enter,h1,Option.bind_some,h2,Option.getD_some,List.mem_singleton] at hi;subst hi;exact(H.body f fn c hf h1 h2).1
end
end
end Go.Proofs.YtacemdoejblgaaaGreatDoor

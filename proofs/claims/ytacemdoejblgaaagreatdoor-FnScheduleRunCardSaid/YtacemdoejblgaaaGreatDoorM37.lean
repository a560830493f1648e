/- Part 37. Conditions: each statement's. -/
import Derived.Test.YtacemdoejblgaaaGreatDoorM36
namespace Go.Proofs.YtacemdoejblgaaaGreatDoor
set_option maxHeartbeats 6400000
set_option maxRecDepth 100000
section
open Go.Conc
theorem qsg{info:TypeId->Option TypeInfo}{d:TypeDesc}{i:TypeInfo}(h:Made.reckon info d=some i):i.methods=#[]:=by
 unfold Made.reckon at h;split at h
 all_goals try simp only [bind,Option.bind_eq_some_iff,pure] at h
 all_goals repeat' first
   | (obtain⟨_,_,h⟩:=h)
   | (split at h)
 all_goals first
   | (cases h;rfl)
   | (cases h)
   | skip
 all_goals first
   | rfl
   | (simp only [Option.bind_eq_some_iff] at h;obtain⟨_,_,h⟩:=h;cases h;rfl)
   | skip
 unfold Made.reckonStruct at h;simp only [bind,Option.bind_eq_some_iff,pure] at h;obtain⟨a,_,h⟩:=h;split at h <;> (cases h;rfl)
theorem qsh{T:Tables}{t:TypeId}{i:TypeInfo}(ht:¬ t < T.types.size)(h:T.info? t=some i):i.methods=#[]:=by
 unfold Tables.info? at h;rw [if_neg ht] at h;unfold Made.depth at h;unfold Made.infoAt at h;rw [if_neg ht] at h;simp only [Option.bind_eq_some_iff] at h;obtain⟨d,_,h⟩:=h;exact qsg h
section
variable {C:Pen}
theorem quu(name:String):qc C (cutType name) (fun _=>True):=by
 unfold cutType;refine qaa qa0 (fun p _=>?_);split
 . exact qab trivial
 . exact qad
theorem qxi(H:qbq C){args:Array Value}(h:qm C args):qc C (Extern.ReflectliteType.typeOf args) (Ok C.A C.F):=by
 have hT:∀ t,qc C (Extern.ReflectliteType.toType t) (Ok C.A C.F):=fun t=>by
   unfold Extern.ReflectliteType.toType;refine qaa (quu _) (fun n _=>?_);unfold Extern.Rtype.handle;refine qaa (Q:=Ok C.A C.F) (qaa qa0 (fun p hp=>?_)) (fun v hv=>?_)
   . subst hp;exact qab (qf5 H _)
   . refine qab (.iface _ (.agg (fun u hu=>?_)));simp only [List.mem_toArray,List.mem_cons,List.not_mem_nil,or_false] at hu;subst hu;exact hv
 obtain⟨l⟩:=args;rcases l with _ | ⟨a,_ | ⟨b,l⟩⟩
 . exact qad
 . cases a <;> first | exact qab .nilIface | exact hT _ | exact qad
 . exact qad
theorem qm4(f:TypeId->Sem Value)(hf:∀ t,qc C (f t) (Ok C.A C.F))(args:Array Value):qc C (Extern.ReflectliteType.method f args) (Ok C.A C.F):=by
 have hR:∀ r,qc C (Extern.ReflectliteType.ofRtype r) (fun _=>True):=fun r=>by
   have k:∀ h,qc C (do let t <-Extern.Rtype.ofHandle h;Extern.Rtype.noPack "a Type asked or handed on" t;pure t) (fun _=>True):=fun h=>by
     refine qaa (Q:=fun _=>True) ?_ (fun t _=>qaa (Q:=fun _=>True) ?_ (fun _ _=>qab trivial))
     . unfold Extern.Rtype.ofHandle;refine qaa qa0 (fun p _=>?_);split
       . exact qab trivial
       . exact qad
     . unfold Extern.Rtype.noPack;refine qaa qa0 (fun p _=>?_);exact qah (fun _=>qaf (by simp)) (fun _=>qab trivial)
   cases r with
   | agg cs=>
     obtain⟨l⟩:=cs;rcases l with _ | ⟨a,_ | ⟨b,l⟩⟩
     . exact qad
     . exact k _
     . exact qad
   | _=>exact qad
 obtain⟨l⟩:=args;rcases l with _ | ⟨a,_ | ⟨b,l⟩⟩
 . exact qad
 . exact qaa (hR a) (fun t _=>hf t)
 . exact qad
theorem qo0(args:Array Value):qc C (Extern.ReflectliteType.method (fun t=>do Extern.Rtype.noPackHeld "Comparable" t;pure (.bool (<-typeInfo t).comparable)) args) (Ok C.A C.F):=by
 refine qm4 _ (fun t=>?_) args;refine qaa (Q:=fun _=>True) ?_ (fun _ _=>qaa (qa5 t) (fun i _=>qab (.bool _)));unfold Extern.Rtype.noPackHeld;refine qaa qa0 (fun p _=>?_);refine qaa qa0 (fun p _=>?_);exact qah (fun _=>qaf (by simp)) (fun _=>qab trivial)
end
def Fs(f:Nat):Bool:=Nat.testBit 494717392981601621360436002341386437694368325660548181167137909069361696768 f
def Gs(g:Nat):Bool:=g == 0
def SN:List String:=["Comparable","Is","Unwrap","loop.example/workplans/impl.needs"]
set_option exponentiation.threshold 300 in
theorem q9l{f:Nat}(h:Fs f=true):f < 265:=by
 unfold Fs at h;rcases Nat.lt_or_ge f 265 with h1 | h1
 . exact h1
 . rw [Nat.testBit_lt_two_pow (Nat.lt_of_lt_of_le (by decide) (Nat.pow_le_pow_right (by decide) h1))] at h;cases h
theorem q5e:(List.range 265).all (fun f=>!(Fs f) || zK Tryz.prog Fs Gs SN [139,248] f)=true:=by kernel_rfl
theorem q5f:(List.range Tryz.prog.types.size).all (fun t=>q85 Tryz.prog Fs SN t)=true:=by kernel_rfl
theorem qzq:∃ fn,Tryz.prog.funcs[139]?=some fn/\fn.body.isNone=true/\Extern.findNext fn=none/\Extern.find fn=some Extern.ReflectliteType.typeOf:=⟨_,Tryz.func139,rfl,by kernel_rfl,by kernel_rfl⟩
theorem qrn:∃ fn,Tryz.prog.funcs[248]?=some fn/\fn.body.isNone=true/\Extern.findNext fn=none/\Extern.find fn=some (Extern.ReflectliteType.method (fun t=>do Extern.Rtype.noPackHeld "Comparable" t;pure (.bool (<-typeInfo t).comparable))):=⟨_,Tryz.func248,rfl,by kernel_rfl,by kernel_rfl⟩
structure jY(C:Pen):Prop where
 P:C.P=Tryz.prog
 F:∀ f,C.F f↔Fs f=true
 X:∀ f t,¬ C.X f t
 H:C.A ⟨Tryz.prog.globals.size,0,none⟩
 g:C.A ⟨0,0,none⟩
section
variable {C:Pen}(O:jY C)
include O
theorem jY.qhE:∀ g,Gs g=true->C.A ⟨g,0,none⟩:=fun g h=>by
 have:g=0:=by simpa [Gs] using h
 subst this;exact O.g
theorem jY.x{f:Nat}:C.X f=fun _=>False:=funext (fun t=>eq_false (O.X f t))
theorem jY.code{c:Code}(h:qev Tryz.prog Fs Gs SN c=true)(f:Nat):qe0 C SN (C.X f) c:=by
 rw [O.x];refine q61 (Fs:=Fs) (Gs:=Gs) (fun f hf=>(O.F f).2 hf) O.qhE ?_;rw [O.P];exact h
theorem jY.zK{f:Nat}(h:C.F f):zK Tryz.prog Fs Gs SN [139,248] f=true:=by
 have h1:=(O.F f).1 h;have:=List.all_eq_true.1 q5e f (List.mem_range.2 (q9l h1));simpa [h1] using this
theorem jY.yu:yd C SN:=by
 have hH:qbq C:=by unfold qbq;rw [O.P];exact O.H
 refine⟨hH,fun f hf=>?_,fun t i m f b hi hm hn hf=>?_⟩
 . have h:=O.zK hf;unfold Go.Proofs.YtacemdoejblgaaaGreatDoor.zK at h;rw [O.P];split at h
   . cases h
   . rename_i fn hfn;simp only [Bool.and_eq_true,Bool.not_eq_true'] at h;refine⟨fn,hfn,h.1,?_⟩;cases hb:fn.body with
     | some c=>exact .inl rfl
     | none=>
       rw [hb] at h;have h2:=h.2;simp only [List.contains_cons,List.contains_nil,Bool.or_false,Bool.or_eq_true,beq_iff_eq] at h2;rcases h2 with rfl | rfl
       . obtain⟨fn2,e1,e2,e3,e4⟩:=qzq;rw [hfn] at e1;cases e1;exact .inr ⟨rfl,e3,_,e4,fun args ha=>qxi hH ha⟩
       . obtain⟨fn2,e1,e2,e3,e4⟩:=qrn;rw [hfn] at e1;cases e1;exact .inr ⟨rfl,e3,_,e4,fun args _=>qo0 args⟩
 . rw [O.P] at hi;refine(O.F f).2 ?_;rcases Nat.lt_or_ge t Tryz.prog.types.size with ht | ht
   . have h:=List.all_eq_true.1 q5f t (List.mem_range.2 ht);unfold q85 at h;rw [hi] at h;have h2:=Array.all_eq_true_iff_forall_mem.1 h m hm;rw [hf,List.contains_iff_mem.2 hn] at h2;simpa using h2
   . rw [qsh (Nat.not_lt.2 ht) hi] at hm;simp at hm
theorem jY.vH:jo C SN:=by
 refine⟨O.yu,fun f fn c hf hfn hb=>⟨?_,fun r _=>?_⟩⟩
 . refine O.code ?_ f;have h:=O.zK hf;rw [O.P] at hfn;unfold Go.Proofs.YtacemdoejblgaaaGreatDoor.zK at h;rw [hfn] at h;simp only [hb,Bool.and_eq_true] at h;exact h.2
 . cases r <;> exact O.X f _
end
end
section
open Go.RowKit
def qdr(qa:List Node)(n:Int)(c:qj)(l:List Int):qj:=l.foldl (fun c x=>(qba qa c (x.tmod n)).getD c) c
def qbg(qa:List Node)(n:Int)(l:List Int):Option qj:=match qbm qa n with
 | some c=>if qb9 l=true then some (qdr qa n c l) else none
 | none=>none
theorem qwy{qa:List Node}{n:Int}{c:qj}{l:List Int}{k:Nat}{x:Int}(hx:l[k]?=some x):qdr qa n c (l.take (k+1))=(qba qa (qdr qa n c (l.take k)) (x.tmod n)).getD (qdr qa n c (l.take k)):=by
 obtain⟨hk,rfl⟩:=List.getElem?_eq_some_iff.1 hx;unfold qdr;rw [List.take_succ_eq_append_getElem hk,List.foldl_append];rfl
theorem qq9{qa:List Node}{c:qj}(h:qo qa c)(y:Int):qo qa ((qba qa c y).getD c)/\((qba qa c y).getD c).qb.length=c.qb.length:=by
 cases hR:qba qa c y with
 | none=>exact⟨h,rfl⟩
 | some c'=>exact⟨(qew hR).2.1,(qew hR).2.2.1⟩
theorem qm0{qa:List Node}{n:Int}:∀ (l:List Int) {c:qj},qo qa c->qo qa (qdr qa n c l)/\(qdr qa n c l).qb.length=c.qb.length
 | [],_,h=>⟨h,rfl⟩
 | x::l,c,h=>by
   obtain⟨h1,h2⟩:=qq9 h (x.tmod n);obtain⟨h3,h4⟩:=qm0 l h1;exact⟨h3,h4.trans h2⟩
theorem qf8{qa:List Node}{n:Int}{l:List Int}(h:qbm qa n=none∨qb9 l=false):qbg qa n l=none:=by
 unfold qbg;cases hc:qbm qa n with
 | none=>rfl
 | some c=>
   rcases h with h | h
   . rw [hc] at h;cases h
   . simp [h]
theorem ql3{qa:List Node}{n:Int}{l:List Int}{c:qj}(h:qbm qa n=some c)(hl:qb9 l=true):qbg qa n l=some (qdr qa n c l):=by
 unfold qbg;rw [h,hl];rfl
theorem qy4{qa:List Node}{n:Int}{l:List Int}{c:qj}(h:qbg qa n l=some c):qo qa c/\(c.qb.length:Int)=n:=by
 unfold qbg at h;split at h
 . rename_i c0 hc;split at h
   . injection h with h;subst h;obtain⟨h1,h2⟩:=qgr hc;obtain⟨h3,h4⟩:=qm0 (n:=n) l h1;exact⟨h3,by rw [h4];exact h2⟩
   . cases h
 . cases h
theorem q6m{w:World}{X:Nat}{cs:Array Value}(hb:Blk w X 29 cs):qg w 3 (some X)/\qg w 24 (some X)/\qg w 81 (some X):=⟨qg.blk hb (by decide),qg.blk hb (by decide),qg.blk hb (by decide)⟩
theorem qkg(pv cv:Value)(qa:List Node)(n:Int)(l:List Int)(w:World)(hp:RN w pv qa)(hl:RI w cv l)(hpl:qa.length<=1000000000)(hll:l.length<=1000000000) :
   Calls Tryz.prog 14 #[pv,.int .i64 n,cv] w (qU w (qbg qa n l)):=by
 obtain⟨A,np,cp,rfl,-,-,-⟩:=hp.form';obtain⟨Ac,m,cc,rfl,-,hm⟩:=hl.form';have Hm:=Lib.hid hm;have hmb:m<=1000000000:=by omega
 have hR0:=Blk.new w 29 #[.slice none 0 0,.slice none 0 0,.slice none 0 0,.slice none 0 0];have hgR:=World.grownBy_alloc w (.cells #[.slice none 0 0,.slice none 0 0,.slice none 0 0,.slice none 0 0] 29) none;clear hm;go_enter Tryz.func14,Tryz.ntmps14;go_upto_region 1 with fail;have hpW:=hp.new hgR;have hlW:=hl.new hgR;generalize w.alloc (.cells #[.slice none 0 0,.slice none 0 0,.slice none 0 0,.slice none 0 0] 29)=W at hR0 hgR hpW hlW |-;go_wp2_with fail;refine(qq7 _ qa n W hpW hpl).mono ?_;rintro e w1 hT;obtain⟨v1,rfl,hcv,hg1⟩:=hT.open_;obtain⟨A1,n1,c1,A2,n2,c2,A3,n3,c3,A4,n4,c4,rfl,-⟩:=hcv.form;have g1:=qac hgR hg1;have hR1:=hR0.grown hg1 (by simp);have hgX:=World.grownBy_alloc w1 (.cells #[.slice A1 n1 c1,.slice A2 n2 c2,.slice A3 n3 c3,.slice A4 n4 c4] 29) none;have hX:=hcv.box;have g2:=qac g1 hgX;have hR2:=hR1.grown hgX (by simp);have hp2:=hp.new g2;have hl2:=hl.new g2;have hRX:w.heap.size < w1.heap.size:=hR1.lt;clear hT hgR hR0 hg1 hR1 hpW hlW g1 hgX hcv hp hl;go_upto_region 2 with fail;generalize w1.alloc (.cells #[.slice A1 n1 c1,.slice A2 n2 c2,.slice A3 n3 c3,.slice A4 n4 c4] 29)=w2 at hX g2 hR2 hp2 hl2 |-;generalize w1.heap.size=X at hX hRX |-;cases hc:qbm qa n with
 | none=>
   have Hr:Hid (qbg qa n l=none):=qf8 (.inl hc);have y0:=hR2.cell 0;have y1:=hR2.cell 1;have y2:=hR2.cell 2;have y3:=hR2.cell 3;have f0:=hR2.frozen 0;have f1:=hR2.frozen 1;have f2:=hR2.frozen 2;have f3:=hR2.frozen 3;have hfin:=Lib.hid (qq6 g2);clear hc hX g2 hR2 hp2 hl2;simp only [Option.isSome];go_wp2_with fail;refine bodyPost_ret (v:=.tuple #[.agg #[.slice none 0 0,.slice none 0 0,.slice none 0 0,.slice none 0 0],.bool false]) (by simp [results,Tryz.results14,go_sem,y0,y1,y2,y3]) rfl ?_;rw [Hr.out];exact hfin.out
 | some c0=>
   have Hc:=Lib.hid hc;obtain⟨hok,hlen⟩:=qgr hc;have hn1:1<=n:=by have:=hok.d1;omega
   have hn4:n<=4:=by have:=hok.d4;omega
   have hn0:¬ (n=0):=by omega
   have Hok:=Lib.hid hok;rw [hc] at hX;clear hc hok hlen;simp only [Option.isSome];by_cases qhF:20 < m
   . have Hr:Hid (qbg qa n l=none):=qf8 (.inr (qjp (by have:=Hm.out;omega)));have y0:=hR2.cell 0;have y1:=hR2.cell 1;have y2:=hR2.cell 2;have y3:=hR2.cell 3;have f0:=hR2.frozen 0;have f1:=hR2.frozen 1;have f2:=hR2.frozen 2;have f3:=hR2.frozen 3;have hfin:=Lib.hid (qq6 g2);clear hX g2 hR2 hp2 hl2;have hmi:(20:Int) < (m:Int):=by omega
     go_wp2_with fail;refine bodyPost_ret (v:=.tuple #[.agg #[.slice none 0 0,.slice none 0 0,.slice none 0 0,.slice none 0 0],.bool false]) (by simp [results,Tryz.results14,go_sem,y0,y1,y2,y3]) rfl ?_;rw [Hr.out];exact hfin.out
   . have hmi:¬ ((20:Int) < (m:Int)):=by omega
     obtain⟨hni,hnl,hnn⟩:=q6m hX.b;have yj:=hX.b.lt;have qhG:Hid (l.length<=20):=by show _<=_;have:=Hm.out;omega
     have Hpl:=Lib.hid hpl;clear hpl hll;go_wp2_with fail
     go_loopg [10] (m+1) (fun mm i wr=>∃ (k:Nat) (d q o r:Value),k<=m/\mm=m+1 - k/\i=.int .i64 k/\jy wr X d q o r (qdr qa n c0 (l.take k))/\w2.grownBy wr (some X)/\Hid ((l.take k).all (fun x=>decide (0<=x))=true))
     case atStart=>exact⟨0,_,_,_,_,Nat.zero_le _,rfl,rfl,hX,qag _ _,Lib.hid (by simp)⟩
     case round=>
       clear hX;obtain⟨k,d,q,o,r,hk,rfl,rfl,hB,hg,Ha⟩:=hrel;have hR:=hR2.grown hg (fun e=>by injection e with e;omega);by_cases hlt:k < m
       . have hlr:=hl2.grown hg hni;obtain⟨ga,oa,x,rfl,hx,x0⟩:=hlr.at_ hlt;have Hx:=Lib.hid hx;have hki:(k:Int) < (m:Int):=by omega
         clear hx;by_cases hneg:x < 0
         . have Hr:Hid (qbg qa n l=none):=qf8 (.inr (qlc Hx.out hneg));have y0:=hR.cell 0;have y1:=hR.cell 1;have y2:=hR.cell 2;have y3:=hR.cell 3;have f0:=hR.frozen 0;have f1:=hR.frozen 1;have f2:=hR.frozen 2;have f3:=hR.frozen 3;have hfin:=Lib.hid (qq6 (qa1 g2 hg (fun g e=>by cases e;exact .inl (by omega))));clear hB hg hR hlr;go_wp2_with fail;refine bodyPost_ret (v:=.tuple #[.agg #[.slice none 0 0,.slice none 0 0,.slice none 0 0,.slice none 0 0],.bool false]) (by simp [results,Tryz.results14,go_sem,y0,y1,y2,y3]) rfl ?_;rw [Hr.out];exact hfin.out
         . have Ha2:=Lib.hid (qle Hx.out hneg Ha.out);obtain⟨qeB,-⟩:=qm0 (n:=n) (l.take k) Hok.out;have qD:=Lib.hid (qz7 (.inl qeB));have Hst:=Lib.hid (qwy (qa:=qa) (n:=n) (c:=c0) Hx.out);obtain⟨cz,hcz⟩:∃ cz,cz=qdr qa n c0 (l.take k):=⟨_,rfl⟩;obtain⟨R,hRR⟩:∃ R,R=qba qa cz (x.tmod n):=⟨_,rfl⟩;rw [<-hcz] at hB qD Hst;rw [<-hRR] at Hst;have HR:=Lib.hid hRR;obtain⟨Ad,nd,cd,Aq,nq,cq,Ao,no,co,Ar,nr,cr,e,-⟩:=hB.cv.form;injection e with e;injection e with e;injection e with e1 e;injection e with e2 e;injection e with e3 e;injection e with e4 e;subst e1 e2 e3 e4;clear qeB hcz hRR e;have hp:=hp2.grown hg hni hnn;have hc:=hB.cv;have d0:=hB.d0;have d1:=hB.d1;have d2:=hB.d2;have d3:=hB.d3;have hXb:=hB.b;have gW:=qag wr none;have qeC:X < wr.heap.size:=hXb.lt;go_upto_region 9 with fail
           go_cut [11,12] (fun t4 t5 wx=>∃ b V1 Vn1 Vc1 V2 Vn2 Vc2 V3 Vn3 Vc3 V4 Vn4 Vc4,t4=.pointer (some ⟨b,0,none⟩)/\t5=.bool R.isSome/\wr.heap.size<=b/\jy wx b (.slice V1 Vn1 Vc1) (.slice V2 Vn2 Vc2) (.slice V3 Vn3 Vc3) (.slice V4 Vn4 Vc4) (R.getD qf7)/\wr.grownBy wx none)
           case first=>
             go_region_held3 (fun w'=>w'.cell? ⟨X,0,none⟩=some (.slice Ad nd cd)/\w'.cell? ⟨X,1,none⟩=some (.slice Aq nq cq)/\w'.cell? ⟨X,2,none⟩=some (.slice Ao no co)/\w'.cell? ⟨X,3,none⟩=some (.slice Ar nr cr)/\w'.cell? ⟨ga,oa+k,none⟩=some (.int .i64 x)) (go_keep) (first
               | (go_at_call 45;have hz:=hc;refine(qot _ _ qa cz (x.tmod n) _ (by first | exact hp | exact hp.new (qax gW) | exact hp.new (qap gW _) | exact hp.new (qax (qap gW _))) (by first | exact hc | exact hc.new (qax gW) | exact hc.new (qap gW _) | exact hc.new (qax (qap gW _))) Hpl.out qD.out).mono ?_;rw [<-HR.out];intro e w5 hT;obtain⟨v5,rfl,zf,hg5⟩:=hT.open_;obtain⟨U1,Un1,Uc1,U2,Un2,Uc2,U3,Un3,Uc3,U4,Un4,Uc4,rfl,-⟩:=zf.form;have g5:wr.grownBy w5 none:=(by first | exact hg5 | exact qac (qax gW) hg5 | exact qac (qap gW _) hg5 | exact qac (qax (qap gW _)) hg5);have hB5:=hXb.grown g5 (by simp);have x05:=hB5.cell 0;have x15:=hB5.cell 1;have x25:=hB5.cell 2;have x35:=hB5.cell 3;have c5:w5.cell? ⟨ga,oa+k,none⟩=some (.int .i64 x):=qdi x0 g5;have xn:X≠wr.heap.size:=Nat.ne_of_lt qeC;have qhD:=xn.symm;have qcB:X≠w5.heap.size:=Nat.ne_of_lt (Nat.lt_of_lt_of_le qeC g5.size);have kY:=qcB.symm;have qhH:ga≠wr.heap.size:=Nat.ne_of_lt (qgo x0);have qjM:=qhH.symm;have qhI:ga≠w5.heap.size:=Nat.ne_of_lt (Nat.lt_of_lt_of_le (qgo x0) g5.size);have qjN:=qhI.symm;clear hT;try (have jL:Blk w5 wr.heap.size 29 #[.slice none 0 0,.slice none 0 0,.slice none 0 0,.slice none 0 0]:=(Blk.new wr 29 #[.slice none 0 0,.slice none 0 0,.slice none 0 0,.slice none 0 0]).drew.grown hg5 (by simp));try (have yy0:=jL.cell 0;have ff0:=jL.frozen 0;have yy1:=jL.cell 1;have ff1:=jL.frozen 1;have yy2:=jL.cell 2;have ff2:=jL.frozen 2;have yy3:=jL.cell 3;have ff3:=jL.frozen 3)))
             all_goals
               go_wp2_with fail;go_meet
               first
                 | exact⟨_,_,_,_,_,_,_,_,_,_,_,_,_,rfl,rfl,Nat.le_refl _,(qhe jL zf).1,qa1 g5 (qhe jL zf).2 (fun g e=>by cases e;exact .inl (Nat.le_refl _))⟩
                 | exact⟨_,_,_,_,_,_,_,_,_,_,_,_,_,rfl,rfl,g5.size,zf.box,qap g5 _⟩
           case rest=>
             obtain⟨b,V1,Vn1,Vc1,V2,Vn2,Vc2,V3,Vn3,Vc3,V4,Vn4,Vc4,rfl,rfl,hb,hV,gV⟩:=hcut;have gz:=q20 hg gV;have hBz:=hB.new gV;clear d0 d1 d2 d3 hXb hp hc gW hR hlr hB x0 hg;cases R with
             | none=>
               have qcE:Hid (qdr qa n c0 (l.take (k+1))=cz):=Hst.out;rw [<-qcE.out] at hBz;clear hV gV;go_wp2_with fail;go_roundg (m+1 - (k+1))
               case measure=>omega
               case rel=>exact⟨k+1,_,_,_,_,by omega,rfl,by go_num,hBz,gz,Ha2⟩
             | some c'=>
               have qcE:Hid (qdr qa n c0 (l.take (k+1))=c'):=Hst.out;have v0:=hV.d0;have v1:=hV.d1;have v2:=hV.d2;have v3:=hV.d3;have y0:=hBz.d0;have y1:=hBz.d1;have y2:=hBz.d2;have y3:=hBz.d3;have f0:=hBz.b.frozen 0;have f1:=hBz.b.frozen 1;have f2:=hBz.b.frozen 2;have f3:=hBz.b.frozen 3;have hbX:b≠X:=by omega
               have hXb:X≠b:=hbX.symm;have hP2:=hBz.put (c':=c') hV.cv;rw [<-qcE.out] at hP2;have gP:=qac gz (qdz wc X (.slice V1 Vn1 Vc1) (.slice V2 Vn2 Vc2) (.slice V3 Vn3 Vc3) (.slice V4 Vn4 Vc4));clear hV gV hBz gz;go_wp2_with fail;go_roundg (m+1 - (k+1))
               case measure=>omega
               case rel=>exact⟨k+1,_,_,_,_,by omega,rfl,by go_num,hP2,gP,Ha2⟩
       . obtain rfl:m=k:=by omega
         have hall:l.take m=l:=List.take_of_length_le (by rw [Hm.out];exact Nat.le_refl _);have Hr:Hid (qbg qa n l=some (qdr qa n c0 l)):=ql3 Hc.out (qld qhG.out (by rw [<-Hm.out];exact Ha.out));rw [hall] at hB;obtain⟨Ad,nd,cd,Aq,nq,cq,Ao,no,co,Ar,nr,cr,e,-⟩:=hB.cv.form;injection e with e;injection e with e;injection e with e1 e;injection e with e2 e;injection e with e3 e;injection e with e4 e;subst e1 e2 e3 e4;have d0:=hB.d0;have d1:=hB.d1;have d2:=hB.d2;have d3:=hB.d3;have y0:=hR.cell 0;have y1:=hR.cell 1;have y2:=hR.cell 2;have y3:=hR.cell 3;have f0:=hR.frozen 0;have f1:=hR.frozen 1;have f2:=hR.frozen 2;have f3:=hR.frozen 3;have hfin:=Lib.hid (q4r (qa1 g2 hg (fun g e=>by cases e;exact .inl (by omega))) hR hB.cv);have qjO:w.heap.size≠X:=by omega
         clear hB hg hR e hall;go_wp2_with fail;refine bodyPost_ret (v:=.tuple #[.agg #[.slice Ad nd cd,.slice Aq nq cq,.slice Ao no co,.slice Ar nr cr],.bool true]) (by simp [results,Tryz.results14,go_sem,y0,y1,y2,y3]) rfl ?_;rw [Hr.out];exact hfin.out
end
end Go.Proofs.YtacemdoejblgaaaGreatDoor

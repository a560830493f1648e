/- Part 30. Conditions: each statement's. -/
import Derived.Test.YtacemdoejblgaaaGreatDoorM29
namespace Go.Proofs.YtacemdoejblgaaaGreatDoor
set_option maxHeartbeats 6400000
set_option maxRecDepth 100000
section
open Go.RowKit
theorem qq3{ops:Array Oper}{o:Oper}{a:Act}{K:Act->World->Prop}{Q:Exit->Act->World->Prop}{E:Prop}{w:World}{u:Int}
   (s x:Operand) (hgd:o.guard=none) (ho:o.op=.call { callee:=.builtin .append,args:=#[s,x],argTypes:=#[24,24] })
   {base:Nat} {v:Value} {l:List Int} (hown:qf w base v l) (hn:l.length<=1000000000) (hbase:base<=w.heap.size)
   (hs:a.eval s=v) {N:Nat} (hx:a.eval x=.slice (some ⟨N,0,none⟩) 1 1) (hN:N=w.heap.size)
   (h:∀ v' w',qf w' base v' (l++[u])->w.grownBy w' v.ownBlock->(v'.ownBlock=v.ownBlock∨∃ b,v'.ownBlock=some b/\w.heap.size<=b)->K (a.put o.dst v') w') :
   if Region.wanted o (yielded ops a.tmps)=true then Oper.wp Tryz.prog o a (w.alloc (.cells #[.int .i64 u] 3)) K Q else E:=by
 subst hN;have hw:Region.wanted o (yielded ops a.tmps)=true:=by simp [Region.wanted,hgd]
 rw [if_pos hw]
 have hnews:∀ j y,[Value.int .i64 u][j]?=some y->(w.alloc (.cells #[.int .i64 u] 3)).cell? ((⟨w.heap.size,0,none⟩:Addr).add j)=some y:=by
   intro j y hj;have hadd:(⟨w.heap.size,0,none⟩:Addr).add j=⟨w.heap.size,j,none⟩:=by unfold Addr.add;split <;> simp_all
   rw [hadd,World.cell?_alloc_new];simpa using hj
 obtain⟨v',w',hr,h2,h3,h4⟩:=qh1 (P:=Tryz.prog) (t:=24) (ty:=o.type) (c:=1) Tryz.underlying24 qkm rfl (by decide) (World.ownsRow.alloc hown (.cells #[.int .i64 u] 3)) (news:=[.int .i64 u]) rfl hnews (by intro y hy;simp at hy;subst hy;rfl) (by unfold maxLen;omega) (by omega) (by simp;omega);unfold Oper.wp execOp;simp only [ho,resolve,invoke,builtin,Sem.run_bind,Sem.run_pure,Result.andThen_ok,List.map_toArray,List.map_cons,List.map_nil,hs,hx,hr];refine h v' w' (by unfold qf;simpa using h2) ⟨h3.os,h3.tape,h3.output,Nat.le_trans (by simp) h3.size,fun k hk hne=>(h3.block k (by simp;omega) hne).trans (Below.heap_alloc w _ k hk)⟩ (h4.imp id fun e=>⟨_,e,by simp⟩)
theorem qou{ops:Array Oper}{o:Oper}{a:Act}{K:Act->World->Prop}{Q:Exit->Act->World->Prop}{E:Prop}{w:World}{u:Int}
   (s x:Operand) (hgd:o.guard=none) (ho:o.op=.call { callee:=.builtin .append,args:=#[s,x],argTypes:=#[24,24] })
   {base:Nat} {v:Value} {l:List Int} (hown:qf w.drew base v l) (hn:l.length<=1000000000) (hbase:base<=w.heap.size)
   (hs:a.eval s=v) {N:Nat} (hx:a.eval x=.slice (some ⟨N,0,none⟩) 1 1) (hN:N=w.heap.size)
   (h:∀ v' w',qf w' base v' (l++[u])->w.drew.grownBy w' v.ownBlock->(v'.ownBlock=v.ownBlock∨∃ b,v'.ownBlock=some b/\w.drew.heap.size<=b)->K (a.put o.dst v') w') :
   if Region.wanted o (yielded ops a.tmps)=true then Oper.wp Tryz.prog o a (w.alloc (.cells #[.int .i64 u] 3)).drew K Q else E:=
 qq3 (w:=w.drew) s x hgd ho hown hn hbase hs hx hN h
theorem qs6{qa:List Node}{n k:Nat}{x:Int}(hx:(qao qa [])[k]?=some x):dealt qa n (k+1)=(dealt qa n k).set (k % n) ((dealt qa n k).getD (k % n) []++[x]):=by
 obtain⟨hk,rfl⟩:=List.getElem?_eq_some_iff.1 hx;unfold dealt;have hl:((qao qa []).take k).length=k:=by rw [List.length_take];omega
 rw [List.take_succ_eq_append_getElem hk,List.zipIdx_append,List.foldl_append,hl];simp only [List.zipIdx_cons,List.zipIdx_nil,List.foldl_cons,List.foldl_nil,Nat.zero_add]
theorem qwv{qa:List Node}{n k:Nat}(hn:0 < n)(hk:k<=(qao qa []).length):(dealt qa n k).length=n:=(qpa n hn (qao qa []) k hk).1
theorem qww{qa:List Node}{n k:Nat}(hn:0 < n)(hk:k<=(qao qa []).length)(qbH:k<=10):∀ l∈dealt qa n k,l.length<=10:=by
 intro l hl;have h1:=(qpa n hn (qao qa []) k hk).2.length_eq;have h2:l.length<=(dealt qa n k).flatten.length:=(List.sublist_flatten_of_mem hl).length_le;have h3:((qao qa []).take k).length<=10:=by rw [List.length_take];omega
 unfold dealt at h2;omega
theorem qq4{qa:List Node}{n:Int}(h:qae qa=false):qbm qa n=none:=by unfold qbm;rw [h];rfl
theorem qq5{qa:List Node}{n:Int}(h:¬ (1<=n/\n<=4)):qbm qa n=none:=by
 unfold qbm;split
 . rename_i hc;simp only [Bool.and_eq_true,decide_eq_true_eq] at hc;exact absurd hc.2 h
 . rfl
theorem qs7{qa:List Node}{n:Nat}(hv:qae qa=true)(h1:1<=n)(h4:n<=4):qbm qa (n:Int)=some { qb:=dealt qa n (qao qa []).length,counts:=qa6 qa,done:=[],rows:=List.replicate qa.length [] }:=by
 unfold qbm;rw [hv,decide_eq_true (show (1:Int)<=n by omega),decide_eq_true (show (n:Int)<=4 by omega),Int.toNat_natCast];rfl
theorem qq6{w wx:World}(hg:w.grownBy wx none):qU w none (.returned (.tuple #[.agg #[.slice none 0 0,.slice none 0 0,.slice none 0 0,.slice none 0 0],.bool false])) ((((wx.setCell ⟨w.heap.size,0,none⟩ (.slice none 0 0)).setCell ⟨w.heap.size,1,none⟩ (.slice none 0 0)).setCell ⟨w.heap.size,2,none⟩ (.slice none 0 0)).setCell ⟨w.heap.size,3,none⟩ (.slice none 0 0)):=
 ⟨_,rfl,CV.zero _,qa1 hg (qdz wx w.heap.size (.slice none 0 0) (.slice none 0 0) (.slice none 0 0) (.slice none 0 0)) (fun g e=>by cases e;exact .inl (Nat.le_refl _))⟩
theorem q4r{w wx:World}{c:qj}{d k o r:Value}(hg:w.grownBy wx none)(hR:Blk wx w.heap.size 29 #[.slice none 0 0,.slice none 0 0,.slice none 0 0,.slice none 0 0])(hc:CV wx (.agg #[d,k,o,r]) c):qU w (some c) (.returned (.tuple #[.agg #[d,k,o,r],.bool true])) ((((wx.setCell ⟨w.heap.size,0,none⟩ d).setCell ⟨w.heap.size,1,none⟩ k).setCell ⟨w.heap.size,2,none⟩ o).setCell ⟨w.heap.size,3,none⟩ r):=
 have hst:=qdz wx w.heap.size d k o r
 ⟨_,rfl,hc.grown hst (qg.blk hR (by decide)) (qg.blk hR (by decide)),qa1 hg hst (fun g e=>by cases e;exact .inl (Nat.le_refl _))⟩
theorem qq7(pv:Value)(qa:List Node)(n:Int)(w:World)(hp:RN w pv qa)(hpl:qa.length<=1000000000):Calls Tryz.prog 44 #[pv,.int .i64 n] w (qU w (qbm qa n)):=by
 obtain⟨A,np,cp,rfl,-,hnp,-⟩:=hp.form';have Hnp:=Lib.hid hnp;have hR0:=Blk.new w 29 #[.slice none 0 0,.slice none 0 0,.slice none 0 0,.slice none 0 0];have hgR:=World.grownBy_alloc w (.cells #[.slice none 0 0,.slice none 0 0,.slice none 0 0,.slice none 0 0] 29) none;clear hnp;by_cases hv:qae qa=true
 . have Hv:=Lib.hid hv;have qbP:np<=10:=by have:=qal hv;have:=Hnp.out;omega
   by_cases hin:1<=n/\n<=4
   . have Hin:Hid ((decide (1<=n) && decide (n<=4))=true):=by show _=_;simp [hin.1,hin.2]
     obtain⟨n,rfl⟩:=Int.eq_ofNat_of_zero_le (show (0:Int)<=n by omega);have h1n:1<=n:=by omega
     have hn4:n<=4:=by omega
     have Hr:Hid (qbm qa (n:Int)=some { qb:=dealt qa n (qao qa []).length,counts:=qa6 qa,done:=[],rows:=List.replicate qa.length [] }):=qs7 hv h1n hn4;clear hv hin;go_enter Tryz.func44,Tryz.ntmps44;go_upto_region 1 with fail;generalize w.alloc (.cells #[.slice none 0 0,.slice none 0 0,.slice none 0 0,.slice none 0 0] 29)=W at hR0 hgR |-;go_wp2_with fail;refine(qbo _ qa W (hp.new hgR) hpl Hv.out).mono ?_;rintro e w1 ⟨rfl,hg1⟩;have g1:=qac hgR hg1;have hR1:=hR0.grown hg1 (by simp);clear hgR hR0 hg1;go_wp2_with fail;refine(qdl _ _ _ _ Hin.out).mono ?_;rintro e w2 ⟨rfl,rfl⟩;go_wp2_with fail;refine(ql4 _ qa w1 (hp.new g1) Hv.out).mono ?_;rintro e w2 ⟨kv,rfl,hkv,hg2⟩;obtain⟨Ak,nk,ck,rfl⟩:=hkv.ri.val;have g2:=qac g1 hg2;have hR2:=hR1.grown hg2 (by simp);have hkw:=hkv.low g1.size;have xJ:=hR2.lt;clear g1 hR1 hg2 hkv;go_upto_region 4 with fail;have hE0:qf (w2.alloc (.cells #[] 3)) w2.heap.size (.slice (some ⟨w2.heap.size,0,none⟩) 0 0) []:=qf.empty w2 (Nat.le_refl _);have hgE:=World.grownBy_alloc w2 (.cells #[] 3) none;have hBX:=Blk.new (w2.alloc (.cells #[] 3)) 29 #[.slice none 0 0,.slice Ak nk ck,.slice (some ⟨w2.heap.size,0,none⟩) 0 0,.slice none 0 0];have hgX:=World.grownBy_alloc (w2.alloc (.cells #[] 3)) (.cells #[.slice none 0 0,.slice Ak nk ck,.slice (some ⟨w2.heap.size,0,none⟩) 0 0,.slice none 0 0] 29) none;have hg3:=qac hgE hgX
     have M0:qP w ((w2.alloc (.cells #[] 3)).alloc (.cells #[.slice none 0 0,.slice Ak nk ck,.slice (some ⟨w2.heap.size,0,none⟩) 0 0,.slice none 0 0] 29)) (w2.alloc (.cells #[] 3)).heap.size w2.heap.size w2.heap.size (.slice none 0 0) (.slice Ak nk ck) (.slice (some ⟨w2.heap.size,0,none⟩) 0 0) (.slice none 0 0) (qa6 qa) [] 0 []:=
       ⟨hBX,LX.nil _ _,.nil,hkw.new hg3,fun g hg=>(hkw.lt g hg).2,fun w'=>hE0.ri.empty w',qM.nil _ _,.inl rfl,⟨Nat.le_refl _,g2.size⟩,hg3.size,hR2.grown hg3 (by simp),Nat.lt_of_lt_of_le xJ hgE.size,qac g2 hg3⟩
     rw [World.size_alloc] at M0;have hs0:w2.heap.size<=((w2.alloc (.cells #[] 3)).alloc (.cells #[.slice none 0 0,.slice Ak nk ck,.slice (some ⟨w2.heap.size,0,none⟩) 0 0,.slice none 0 0] 29)).heap.size:=hg3.size;generalize ((w2.alloc (.cells #[] 3)).alloc (.cells #[.slice none 0 0,.slice Ak nk ck,.slice (some ⟨w2.heap.size,0,none⟩) 0 0,.slice none 0 0] 29))=w3 at M0 hs0 |-;clear hE0 hgE hBX hgX hg3 hkw hR2 xJ g2;generalize w2.heap.size+1=X at M0 |-;generalize w2.heap.size=s0 at M0 hs0 |-;go_wp2_with fail
     go_loopg [7] (n+1) (fun mm i wr=>∃ (k:Nat) (d:Value) (xs:List Value),k<=n/\mm=n+1 - k/\i=.int .i64 k/\qP w wr X s0 s0 d (.slice Ak nk ck) (.slice (some ⟨s0,0,none⟩) 0 0) (.slice none 0 0) (qa6 qa) (List.replicate k []) 0 xs)
     case atStart=>exact⟨0,_,_,Nat.zero_le _,rfl,rfl,M0⟩
     case round=>
       clear M0 hs0;obtain⟨k,d,xs,hk,rfl,rfl,M⟩:=hrel;by_cases hlt:k < n
       . obtain⟨Ad,nd,cd,rfl⟩:=M.dq.rl.val;have x0:=M.x.cell 0;have hXl:X < wr.heap.size:=M.x.lt;have hE:qf (wr.alloc (.cells #[] 3)) wr.heap.size (.slice (some ⟨wr.heap.size,0,none⟩) 0 0) []:=qf.empty wr (Nat.le_refl _);have hgE:=World.grownBy_alloc wr (.cells #[] 3) none;have ME:=M.new hgE;have hbE:s0<=wr.heap.size:=M.hbx;have hlen:(List.replicate k ([]:List Int)).length<=1000000000:=by rw [List.length_replicate];omega
         go_wp2_with (at_builtin;go_must (refine q2a (.tmp 30) (.tmp 32) rfl rfl ME.dq (hE.low hbE) hlen ME.hbx rfl rfl (by simp) ?_));intro v5 w5 qA hg5
         obtain⟨z1,z2,M5⟩:=ME.xH hg5 qA (fun g hg u hu g' hg'=>by
           have h1:=(hE.lt g hg).1;have h2:=(M.dq.lts u hu g' hg').2;omega)
         have er:List.replicate k ([]:List Int)++[[]]=List.replicate (k+1) []:=by rw [List.replicate_succ']
         rw [er] at M5;obtain⟨A5,n5,c5,rfl⟩:=qA.rl.val;clear qA hg5 ME hE hgE x0;go_wp2_with fail;go_roundg (n+1 - (k+1))
         case measure=>omega
         case rel=>exact⟨k+1,_,_,by omega,rfl,by go_num,M5⟩
       . obtain rfl:n=k:=by omega
         obtain⟨w4,rfl⟩:∃ w4:World,w4=wr:=⟨_,rfl⟩;have M0:qP w w4 X s0 w4.heap.size d (.slice Ak nk ck) (.slice (some ⟨s0,0,none⟩) 0 0) (.slice none 0 0) (qa6 qa) (List.replicate n []) 0 xs:={ M with ro:=qM.nil _ _,dr:=.inl rfl,hb:=⟨M.hbx,M.hb.2⟩,hbx:=Nat.le_refl _ };have Hlt:Hid (∀ g,d.ownBlock=some g->g < w4.heap.size):=fun g hg=>(M.dq.lt g hg).2;clear M;go_wp2_with fail;generalize w4.heap.size=b2 at M0 Hlt
         go_loopg [8] (np+1) (fun mm i wr=>∃ (k:Nat) (r:Value),k<=np/\mm=np+1 - k/\i=.int .i64 k/\qP w wr X s0 b2 d (.slice Ak nk ck) (.slice (some ⟨s0,0,none⟩) 0 0) r (qa6 qa) (List.replicate n []) k xs)
         case atStart=>exact⟨0,_,Nat.zero_le _,rfl,rfl,M0⟩
         case round=>
           clear M0;obtain⟨k,r,hk,rfl,rfl,M⟩:=hrel;by_cases hlt:k < np
           . obtain⟨Ar,nr,cr,rfl⟩:=M.ro.rl.val;have x0:=M.x.cell 3;have hXl:X < wr.heap.size:=M.x.lt;have hE:qf (wr.alloc (.cells #[] 3)) wr.heap.size (.slice (some ⟨wr.heap.size,0,none⟩) 0 0) []:=qf.empty wr (Nat.le_refl _);have hgE:=World.grownBy_alloc wr (.cells #[] 3) none;have ME:=M.new hgE;have hlen:(List.replicate k ([]:List Int)).length<=1000000000:=by rw [List.length_replicate];omega
             go_wp2_with (at_builtin;go_must (refine qsb (.tmp 42) (.tmp 44) rfl rfl ME.ro hE.ri hlen ME.hbx rfl rfl (by simp) ?_));intro v5 w5 qA hg5;obtain⟨z1,z2,M5⟩:=ME.xI Hlt.out hg5 qA;obtain⟨A5,n5,c5,rfl⟩:=qA.rl.val;clear qA hg5 ME hE hgE x0;go_wp2_with fail;go_roundg (np+1 - (k+1))
             case measure=>omega
             case rel=>exact⟨k+1,_,by omega,rfl,by go_num,M5⟩
           . obtain rfl:np=k:=by omega
             obtain⟨gd,j5,rfl,hcd,hbd⟩:=M.dq.form (n:=n) (by rw [List.length_replicate]) (by omega);obtain⟨Ar,nr,cr,rfl⟩:=M.ro.rl.val;have x1:=M.x.cell 1;obtain⟨w5,rfl⟩:∃ w5:World,w5=wr:=⟨_,rfl⟩;have hcl:(qa6 qa).length<=1000000:=by unfold qa6;rw [List.length_map,List.length_range];have:=Hnp.out;omega
             go_wp2_with fail;refine(qke _ (qa6 qa) w5 M.kt.ri hcl).mono ?_;rintro e w6 ⟨rv,rfl,hrv,hg6⟩;rw [qn1 Hv.out] at hrv;have M6:=M.new hg6;have hr6:=hrv.ri;obtain⟨Av,nv,cv,rfl⟩:=hr6.val;have hnv:=hr6.len;have Hnv:=Lib.hid hnv;have qbQ:nv<=10:=by rw [hnv];have:=qgf qa [];have:=Hnp.out;omega
             have hrb:Hid (∀ g,(Value.slice Av nv cv).ownBlock=some g->w5.heap.size<=g):=fun g hg=>(hrv.lt g hg).1
             have MD:qP w w6 X s0 b2 (.slice (some ⟨gd,0,none⟩) n j5) (.slice Ak nk ck) (.slice (some ⟨s0,0,none⟩) 0 0) (.slice Ar nr cr) (qa6 qa) (dealt qa n 0) np xs:=by
               have e:dealt qa n 0=List.replicate n []:=by unfold dealt;simp
               rw [e];exact M6
             have hxb:Hid (∀ u∈xs,∀ g,u.ownBlock=some g->g < w5.heap.size):=fun u hu g hg=>(M.dq.lts u hu g hg).2;clear x1 M M6 hg6 hnv hr6
             have qdS:∀ u∈xs,∀ g,u.ownBlock=some g->(Value.slice Av nv cv).ownBlock≠some g:=fun u hu g hg e=>by
               have h1:=hxb.out u hu g hg;have h2:=hrb.out g e;omega
             generalize w5.heap.size=s1 at hrv hrb hxb;clear hrb hxb;have hn0:¬ ((n:Int)=0):=by omega
             have qgM:¬ (n=0):=by omega
             go_wp2_with fail
             go_loopg [10] (nv+1) (fun mm i wr=>∃ (k:Nat) (xs:List Value),k<=nv/\mm=nv+1 - k/\i=.int .i64 k/\qP w wr X s0 b2 (.slice (some ⟨gd,0,none⟩) n j5) (.slice Ak nk ck) (.slice (some ⟨s0,0,none⟩) 0 0) (.slice Ar nr cr) (qa6 qa) (dealt qa n k) np xs/\qf wr s1 (.slice Av nv cv) (qao qa [])/\Hid (∀ u∈xs,∀ g,u.ownBlock=some g->(Value.slice Av nv cv).ownBlock≠some g))
             case atStart=>exact⟨0,_,Nat.zero_le _,rfl,rfl,MD,hrv,qdS⟩
             case round=>
               clear MD hrv qdS;obtain⟨k,xs,hk,rfl,rfl,M,hrv,hap⟩:=hrel;by_cases hlt:k < nv
               . obtain⟨g,o,x,rfl,hx,c0⟩:=hrv.ri.at_ hlt;obtain⟨j,hj⟩:∃ j,j=k % n:=⟨_,rfl⟩;have hjn:j < n:=by rw [hj];exact Nat.mod_lt _ (by omega)
                 have hmod:(k:Int).tmod (n:Int)=(j:Int):=by rw [hj];rfl
                 have hkr:k<=(qao qa []).length:=by rw [<-Hnv.out];exact hk
                 have hdl:=qwv (qa:=qa) (n:=n) (k:=k) (by omega) hkr;have hjD:j < (dealt qa n k).length:=by rw [hdl];exact hjn
                 obtain⟨l0,u,hl0,hu,cu,hou⟩:=M.dq.at_ hjD;have jF:l0.length<=10:=qww (by omega) hkr (by omega) l0 (List.mem_of_getElem? hl0)
                 have Hs:Hid (dealt qa n (k+1)=(dealt qa n k).set j (l0++[x])):=by
                   show _=_;rw [qs6 hx,<-hj,List.getD_eq_getElem?_getD,hl0];rfl
                 obtain⟨Ae,ne,ce,rfl⟩:=hou.ri.val;have x0:=M.x.cell 0;have hji:(j:Int) < (n:Int):=by omega
                 have hki:(k:Int) < (nv:Int):=by omega
                 have hXl:X < wr.heap.size:=M.x.lt;have hgl:g < wr.heap.size:=by simpa using qgo c0
                 have qjB:gd < wr.heap.size:=(M.dq.lt gd rfl).2;have hDr:wr.grownBy wr.drew none:=qax (qag _ none);have vl:=hou.new hDr;have MDr:=M.new hDr;have hbs:s0<=wr.heap.size:=Nat.le_trans M.hb.1 M.hbx;have hum:=List.mem_of_getElem? hu;have Hj:=Lib.hid hj;clear hx hj hl0 hdl;go_wp2_with fail
                 go_region_law (refine qou (w:=wr) (u:=x) (base:=s0) (v:=.slice Ae ne ce) (l:=l0) (.tmp 67) (.tmp 72) rfl rfl vl (by omega) hbs rfl rfl rfl ?_;intro v' w4 qn hg4 hb4;have hEu:qg wr.drew 29 (Value.ownBlock (.slice Ae ne ce)):=vl.qV (by decide);have x04:=(MDr.x.past hg4 hEu).cell 0;obtain⟨⟨u0,cR,fR⟩,M5⟩:=MDr.qgL hjD hu vl hg4 qn hb4;obtain⟨A4,n4',c4,rfl⟩:=qn.ri.val)
                 all_goals
                   have hst:w4.grownBy (w4.setCell ⟨gd,j,none⟩ (.slice A4 n4' c4)) (some gd):=qa2 (p:=⟨gd,j,none⟩) (qag w4 (some gd)) (.inr rfl) _;have hI4:qg w4 3 (some gd):=(qch MDr.dq.1 hg4 (vl.qV (by decide))) |> fun h=>qg.own h (by decide);rw [<-Hs.out] at M5;have qgN:=((hrv.new hDr).zk hg4 (fun b hb e=>hap.out _ hum b e hb)).grown hst hI4
                   have qgO:Hid (∀ y∈xs.set j (.slice A4 n4' c4),∀ b,y.ownBlock=some b->(Value.slice (some ⟨g,o,none⟩) nv cv).ownBlock≠some b):=by
                     show ∀ y∈_,_;intro y hy b hyb e;rcases List.mem_or_eq_of_mem_set hy with hy | rfl
                     . exact hap.out y hy b hyb e
                     . rcases hb4 with e2 | ⟨b2,e2,hge⟩
                       . exact hap.out _ hum b (e2 ▸ hyb) e
                       . rw [e2] at hyb;injection hyb with hyb;have h1:=(hrv.lt b e).2;have h2:wr.drew.heap.size=wr.heap.size:=rfl;omega
                   clear M MDr hrv hap hou vl qn hg4 hb4 hEu x04 hst hI4 x0 cu c0;go_wp2_with fail;go_roundg (nv+1 - (k+1))
                   case measure=>omega
                   case rel=>exact⟨k+1,_,by omega,rfl,by go_num,M5,qgN,qgO⟩
               . obtain rfl:nv=k:=by omega
                 have hcv:CV wr (.agg #[.slice (some ⟨gd,0,none⟩) n j5,.slice Ak nk ck,.slice (some ⟨s0,0,none⟩) 0 0,.slice Ar nr cr]) { qb:=dealt qa n (qao qa []).length,counts:=qa6 qa,done:=[],rows:=List.replicate qa.length [] }:=by
                   refine⟨_,_,_,_,rfl,?_,M.kt.ri,M.od wr,?_⟩
                   . rw [<-Hnv.out];exact M.dq.rl
                   . rw [<-Hnp.out];exact M.ro.rl
                 have x0:=M.x.cell 0;have x1:=M.x.cell 1;have x2:=M.x.cell 2;have x3:=M.x.cell 3;have y0:=M.res.cell 0;have y1:=M.res.cell 1;have y2:=M.res.cell 2;have y3:=M.res.cell 3;have f0:=M.res.frozen 0;have f1:=M.res.frozen 1;have f2:=M.res.frozen 2;have f3:=M.res.frozen 3;have hfin:=Lib.hid (q4r M.g M.res hcv);clear M hcv hrv hap;go_wp2_with fail;refine bodyPost_ret (v:=.tuple #[.agg #[.slice (some ⟨gd,0,none⟩) n j5,.slice Ak nk ck,.slice (some ⟨s0,0,none⟩) 0 0,.slice Ar nr cr],.bool true]) (by simp [results,Tryz.results44,go_sem,y0,y1,y2,y3]) rfl ?_;rw [Hr.out];exact hfin.out
   . have Hin:Hid ((decide (1<=n) && decide (n<=4))=false):=by
       show _=_;rw [Bool.and_eq_false_iff,decide_eq_false_iff_not,decide_eq_false_iff_not];omega
     have Hr:Hid (qbm qa n=none):=qq5 hin;clear hv hin;go_enter Tryz.func44,Tryz.ntmps44;go_upto_region 1 with fail;generalize w.alloc (.cells #[.slice none 0 0,.slice none 0 0,.slice none 0 0,.slice none 0 0] 29)=W at hR0 hgR |-;go_wp2_with fail;refine(qbo _ qa W (hp.new hgR) hpl Hv.out).mono ?_;rintro e w1 ⟨rfl,hg1⟩;have g1:=qac hgR hg1;have hR1:=hR0.grown hg1 (by simp);have y0:=hR1.cell 0;have y1:=hR1.cell 1;have y2:=hR1.cell 2;have y3:=hR1.cell 3;have f0:=hR1.frozen 0;have f1:=hR1.frozen 1;have f2:=hR1.frozen 2;have f3:=hR1.frozen 3;have hfin:=Lib.hid (qq6 g1);clear hgR hR0 hg1 hR1 g1;go_wp2_with fail;refine(qdl _ _ _ _ Hin.out).mono ?_;rintro e w2 ⟨rfl,rfl⟩;go_wp2_with fail;refine bodyPost_ret (v:=.tuple #[.agg #[.slice none 0 0,.slice none 0 0,.slice none 0 0,.slice none 0 0],.bool false]) (by simp [results,Tryz.results44,go_sem,y0,y1,y2,y3]) rfl ?_;rw [Hr.out];exact hfin.out
 . have hv':qae qa=false:=by simpa using hv
   have Hv:=Lib.hid hv';have Hr:Hid (qbm qa n=none):=qq4 hv';clear hv hv';go_enter Tryz.func44,Tryz.ntmps44;go_upto_region 1 with fail;generalize w.alloc (.cells #[.slice none 0 0,.slice none 0 0,.slice none 0 0,.slice none 0 0] 29)=W at hR0 hgR |-;go_wp2_with fail;refine(qbo _ qa W (hp.new hgR) hpl Hv.out).mono ?_;rintro e w1 ⟨rfl,hg1⟩;have g1:=qac hgR hg1;have hR1:=hR0.grown hg1 (by simp);have y0:=hR1.cell 0;have y1:=hR1.cell 1;have y2:=hR1.cell 2;have y3:=hR1.cell 3;have f0:=hR1.frozen 0;have f1:=hR1.frozen 1;have f2:=hR1.frozen 2;have f3:=hR1.frozen 3;have hfin:=Lib.hid (qq6 g1);clear hgR hR0 hg1 hR1 g1;go_wp2_with fail;refine bodyPost_ret (v:=.tuple #[.agg #[.slice none 0 0,.slice none 0 0,.slice none 0 0,.slice none 0 0],.bool false]) (by simp [results,Tryz.results44,go_sem,y0,y1,y2,y3]) rfl ?_;rw [Hr.out];exact hfin.out
end
end Go.Proofs.YtacemdoejblgaaaGreatDoor

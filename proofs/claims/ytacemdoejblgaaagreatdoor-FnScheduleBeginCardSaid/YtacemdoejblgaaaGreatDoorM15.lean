/- Part M15. Conditions: each statement's. -/
import Derived.Test.YtacemdoejblgaaaGreatDoorM14
import Derived.Laws.EntriesVeiled
namespace Go.Proofs.YtacemdoejblgaaaGreatDoor
open List Tryz
set_option maxRecDepth 100000
set_option maxHeartbeats 6400000
section
open Go.RowKit
theorem qjt{k:Int}{ll:List (List Int)}(h:k=0∨qav k≠(ll.length:Int)):qe1 k ll=none:=by
 match ll,h with
 |[],h=>rfl
 |[a],h=>
  show (if k=3 then qfq a else if k=4 then qfr a else if k=5 then qfs a else none)=none;unfold qav at h;simp only[length_cons,length_nil]at h
  repeat rw[if_neg (by intro e;subst e;simp at h)]
 |[a,b],h=>
  show (if k=1 then qov a b else if k=2 then qhc a b else none)=none;unfold qav at h;simp only[length_cons,length_nil]at h
  repeat rw[if_neg (by intro e;subst e;simp at h)]
 |a::b::c::d,h=>rfl
theorem qzd{k:Int}{ll:List (List Int)}(h:¬(k=0∨qav k≠(ll.length:Int))) :
   (∃a b,ll=[a,b]/\(k=1∨k=2))∨(∃a,ll=[a]/\(k=3∨k=4∨k=5)):=by
 unfold qav at h
 match ll with
 |[]=>
  exfalso;simp only[length_nil]at h;split at h
  . simp at h
  . split at h
    . omega
    . split at h<;>simp at h
 |[a]=>
  refine .inr ⟨a,rfl,?_⟩;simp only[length_cons,length_nil]at h;split at h
  . simp at h
  . split at h
    . omega
    . split at h
      . simp at h
      . omega
 |[a,b]=>
  refine .inl ⟨a,b,rfl,?_⟩;simp only[length_cons,length_nil]at h;split at h
  . simp at h
  . split at h
    . omega
    . split at h
      . omega
      . simp at h
 |a::b::c::d=>
  exfalso;simp only[length_cons]at h;split at h
  . omega
  . split at h
    . omega
    . split at h<;>omega
theorem qvt(k:Int)(v:Value)(ll:List (List Int))(w:World)(h:RL w v ll):Calls prog 202 #[.int .i64 k,v] w (qg6 w (qe1 k ll)):=by
 obtain⟨A,n,c,rfl,hc,hn,hn2⟩:=h.form';by_cases kg:k=0∨qav k≠(ll.length:Int)
 . have Hr:=Lib.hid (qjt kg);rw[<-hn]at kg;by_cases h0:k=0
   . subst h0;clear hn kg;go_enter func202,ntmps202;go_wp2_with fail
     go_ret2
     exact⟨_,by rw[Hr.out];rfl,by rw[Hr.out];exact qg.empty w (Nat.le_refl _),World.grownBy_alloc w _ none⟩
   . have hne:qav k≠(n:Int):=kg.resolve_left h0;have hb1:(qav k != (n:Int))=true:=by simpa using hne
     have hb2:(k==0)=false:=by simpa using h0
     clear hn kg;go_enter func202,ntmps202;go_wp2_with fail;refine(qbw _ _).mono ?_;rintro e w2 ⟨rfl,rfl⟩;go_wp2_with fail
     go_ret2
     exact⟨_,by rw[Hr.out];rfl,by rw[Hr.out];exact qg.empty w (Nat.le_refl _),World.grownBy_alloc w _ none⟩
 . rcases qzd kg with ⟨a,b,rfl,hk⟩|⟨a,rfl,hk⟩
   . simp only[length_cons,length_nil,Nat.zero_add]at hn;subst hn;clear kg;obtain⟨g,o,l,B,m,e,hA,hl,c0,ha,hm,hme,hmx⟩:=h.at_ (k:=0) (by omega);obtain⟨g',o',l',B',m',e',hA',hl',c1,hb,hm',qmS,qmT⟩:=h.at_ (k:=1) (by omega);rw[hA]at hA';injection hA' with hA';injection hA' with e1 e2 e3;subst hA e1 e2;clear e3;simp only[getElem?_cons_zero,getElem?_cons_succ,Option.some.injEq]at hl hl';subst hl hl';clear hm hm';have c0:w.cell? ⟨g,o,none⟩=some (.slice B m e):=c0;rcases hk with rfl|rfl
     . have Hn:Hid (qav 1=2):=by show _=_;decide
       go_enter func202,ntmps202;go_wp2_with fail;refine(qbw _ _).mono ?_;rw[Hn.out];rintro e w2 ⟨rfl,rfl⟩;go_wp2_with fail
       go_region_law (go_simp;go_at_call 219;refine(qxa _ _ a b _ (by exact ha) (by exact hb)).mono ?_;rintro e w3 ⟨v3,rfl,ho,hg⟩;obtain⟨A',n',c',rfl⟩:=ho.ri.val;have k0:=hg.cell (by exact c0) (by simp);have k1:=hg.cell (by exact c1) (by simp))
       all_goals
        go_wp2_with fail
        go_ret2
        exact⟨_,rfl,ho,qad (qay (qah _ _)) hg⟩
     . have Hn:Hid (qav 2=2):=by show _=_;decide
       go_enter func202,ntmps202;go_wp2_with fail;refine(qbw _ _).mono ?_;rw[Hn.out];rintro e w2 ⟨rfl,rfl⟩;go_wp2_with fail
       go_region_law (go_simp;go_at_call 220;refine(qto _ _ a b _ (by exact ha) (by exact hb)).mono ?_;rintro e w3 ⟨v3,rfl,ho,hg⟩;obtain⟨A',n',c',rfl⟩:=ho.ri.val;have k0:=hg.cell (by exact c0) (by simp);have k1:=hg.cell (by exact c1) (by simp))
       all_goals
        go_wp2_with fail
        go_ret2
        exact⟨_,rfl,ho,qad (qay (qah _ _)) hg⟩
   . simp only[length_cons,length_nil,Nat.zero_add]at hn;subst hn;clear kg;obtain⟨g,o,l,B,m,e,rfl,hl,c0,ha,hm,hme,hmx⟩:=h.at_ (k:=0) (by omega);simp only[getElem?_cons_zero,Option.some.injEq]at hl;subst hl;clear hm;have c0:w.cell? ⟨g,o,none⟩=some (.slice B m e):=c0;rcases hk with rfl|rfl|rfl
     . have Hn:Hid (qav 3=1):=by show _=_;decide
       go_enter func202,ntmps202;go_wp2_with fail;refine(qbw _ _).mono ?_;rw[Hn.out];rintro e w2 ⟨rfl,rfl⟩;go_wp2_with fail;refine(qvq _ a _ ha).mono ?_;rintro e w3 ⟨v3,rfl,ho,hg⟩;obtain⟨A',n',c',rfl⟩:=ho.ri.val;go_wp2_with fail
       go_ret2
       exact⟨_,rfl,ho,hg⟩
     . have Hn:Hid (qav 4=1):=by show _=_;decide
       go_enter func202,ntmps202;go_wp2_with fail;refine(qbw _ _).mono ?_;rw[Hn.out];rintro e w2 ⟨rfl,rfl⟩;go_wp2_with fail;refine(qvr _ a _ ha).mono ?_;rintro e w3 ⟨v3,rfl,ho,hg⟩;obtain⟨A',n',c',rfl⟩:=ho.ri.val;go_wp2_with fail
       go_ret2
       exact⟨_,rfl,ho,hg⟩
     . have Hn:Hid (qav 5=1):=by show _=_;decide
       go_enter func202,ntmps202;go_wp2_with fail;refine(qbw _ _).mono ?_;rw[Hn.out];rintro e w2 ⟨rfl,rfl⟩;go_wp2_with fail;refine(qvs _ a _ ha).mono ?_;rintro e w3 ⟨v3,rfl,ho,hg⟩;obtain⟨A',n',c',rfl⟩:=ho.ri.val;go_wp2_with fail
       go_ret2
       exact⟨_,rfl,ho,hg⟩
theorem qmU(v:Value)(w:World):(Instr.typeAssert (.iface 132 v) 128 132 true).run prog w=.ok (.tuple #[v,.bool true]) w:=by kernel_rfl
theorem qmV(v:Value)(w:World):(Instr.typeAssert (.iface 136 v) 128 136 true).run prog w=.ok (.tuple #[v,.bool true]) w:=by kernel_rfl
theorem qmW(v:Value)(w:World):(Instr.typeAssert (.iface 136 v) 128 132 true).run prog w=.ok (.tuple #[.agg #[.nilFunc],.bool false]) w:=by kernel_rfl
theorem qmX(v:Value)(w:World):(Instr.typeAssert (.iface 132 v) 128 136 true).run prog w=.ok (.tuple #[.agg #[.nilFunc],.bool false]) w:=by kernel_rfl
theorem qmY(v:Value)(w:World):(Instr.typeAssert (.iface 181 v) 128 132 true).run prog w=.ok (.tuple #[.agg #[.nilFunc],.bool false]) w:=by kernel_rfl
theorem qmZ(v:Value)(w:World):(Instr.typeAssert (.iface 181 v) 128 136 true).run prog w=.ok (.tuple #[.agg #[.nilFunc],.bool false]) w:=by kernel_rfl
theorem qnA(w:World):(Instr.typeAssert .nilIface 128 132 true).run prog w=.ok (.tuple #[.agg #[.nilFunc],.bool false]) w:=by kernel_rfl
theorem qnB(w:World):(Instr.typeAssert .nilIface 128 136 true).run prog w=.ok (.tuple #[.agg #[.nilFunc],.bool false]) w:=by kernel_rfl
attribute [go_sem] qmU qmV qmW qmX qmY qmZ qnA qnB
theorem qvu(k:Int)(v:Value)(ll:List (List Int))(w:World)(h:RL w v ll)(hk:k<0∨5<k∨k=0):Calls prog 58 #[.int .i64 k,v] w (qg6 w (qe1 k ll)):=by
 obtain⟨A,n,c,rfl,hc,hn,hn2⟩:=h.form'
 have Hr:Hid (qe1 k ll=none):=by
  refine qjt ?_;rcases hk with hk|hk|hk
  . refine .inr ?_;unfold qav;rw[if_pos (.inl hk)];omega
  . refine .inr ?_;unfold qav;rw[if_pos (.inr hk)];omega
  . exact .inl hk
 clear hn;rcases (show (k<0∨5<k)∨k=0 by omega)with hk|rfl
 . have H:Hid (work k=.nilIface):=by
    show work k=.nilIface;unfold work
    repeat rw[if_neg (by omega)]
   go_enter func58,ntmps58;go_wp2_with fail;refine(qds _ _).mono ?_;rw[H.out];rintro e w' ⟨rfl,rfl⟩;go_wp2_with fail
   go_ret2
   exact⟨_,by rw[Hr.out];rfl,by rw[Hr.out];exact qg.nil _ _,qah _ _⟩
 . go_enter func58,ntmps58;go_wp2_with fail;refine(qds _ _).mono ?_;simp only[work,if_true];rintro e w' ⟨rfl,rfl⟩;go_wp2_with fail
   go_ret2
   exact⟨_,by rw[Hr.out];rfl,by rw[Hr.out];exact qg.nil _ _,qah _ _⟩
theorem qtp(k:Int)(v:Value)(ll:List (List Int))(w:World)(h:RL w v ll)(hk:k=3∨k=4∨k=5):Calls prog 58 #[.int .i64 k,v] w (qg6 w (qe1 k ll)):=by
 obtain⟨A,n,c,rfl,hc,hn,hn2⟩:=h.form';by_cases h1:n=1
 . subst h1
   obtain⟨a,rfl⟩:∃a,ll=[a]:=by
    match ll,hn with
    |[a],_=>exact⟨a,rfl⟩
   clear hn;obtain⟨g,o,l,B,m,e,rfl,hl,c0,ha,hm,hme,hmx⟩:=h.at_ (k:=0) (by omega);simp only[getElem?_cons_zero,Option.some.injEq]at hl;subst hl;clear hm;have c0:w.cell? ⟨g,o,none⟩=some (.slice B m e):=c0;rcases hk with rfl|rfl|rfl
   . go_enter func58,ntmps58;go_wp2_with fail;refine(qds _ _).mono ?_;simp only[work,if_true];rintro e w' ⟨rfl,rfl⟩;go_wp2_with fail;refine(qf2 _ _).mono ?_;rintro e w2 ⟨rfl,hg⟩;have hg0:=qad (World.grownBy_alloc w _ none) hg;have kA:=hg.cell (a:=⟨w.heap.size,0,none⟩) (v:=.func (.func 146) #[] #[]) (by simp) (by simp);have kB:=hg0.cell c0 (by simp);have ha2:=ha.new hg0;clear c0;clear hg;go_wp2_with fail
     go_region_law (go_simp;go_at_call 146;refine(qvn _ a _ (by exact ha2)).mono ?_;rintro e w3 ⟨v3,rfl,ho,hg⟩;obtain⟨A',n',c',rfl⟩:=ho.ri.val;have k0:=hg.cell (by exact kB) (by simp);have k2:=hg.cell (by exact kA) (by simp))
     all_goals
      go_wp2_with fail
      go_ret2
      exact⟨_,rfl,ho.low hg0.size,qad (qay hg0) hg⟩
   . go_enter func58,ntmps58;go_wp2_with fail;refine(qds _ _).mono ?_;simp only[work,if_true];rintro e w' ⟨rfl,rfl⟩;go_wp2_with fail;refine(qf2 _ _).mono ?_;rintro e w2 ⟨rfl,hg⟩;have hg0:=qad (World.grownBy_alloc w _ none) hg;have kA:=hg.cell (a:=⟨w.heap.size,0,none⟩) (v:=.func (.func 147) #[] #[]) (by simp) (by simp);have kB:=hg0.cell c0 (by simp);have ha2:=ha.new hg0;clear c0;clear hg;go_wp2_with fail
     go_region_law (go_simp;go_at_call 147;refine(qvo _ a _ (by exact ha2)).mono ?_;rintro e w3 ⟨v3,rfl,ho,hg⟩;obtain⟨A',n',c',rfl⟩:=ho.ri.val;have k0:=hg.cell (by exact kB) (by simp);have k2:=hg.cell (by exact kA) (by simp))
     all_goals
      go_wp2_with fail
      go_ret2
      exact⟨_,rfl,ho.low hg0.size,qad (qay hg0) hg⟩
   . go_enter func58,ntmps58;go_wp2_with fail;refine(qds _ _).mono ?_;simp only[work,if_true];rintro e w' ⟨rfl,rfl⟩;go_wp2_with fail;refine(qf2 _ _).mono ?_;rintro e w2 ⟨rfl,hg⟩;have hg0:=qad (World.grownBy_alloc w _ none) hg;have kA:=hg.cell (a:=⟨w.heap.size,0,none⟩) (v:=.func (.func 148) #[] #[]) (by simp) (by simp);have kB:=hg0.cell c0 (by simp);have ha2:=ha.new hg0;clear c0;clear hg;go_wp2_with fail
     go_region_law (go_simp;go_at_call 148;refine(qvp _ a _ (by exact ha2)).mono ?_;rintro e w3 ⟨v3,rfl,ho,hg⟩;obtain⟨A',n',c',rfl⟩:=ho.ri.val;have k0:=hg.cell (by exact kB) (by simp);have k2:=hg.cell (by exact kA) (by simp))
     all_goals
      go_wp2_with fail
      go_ret2
      exact⟨_,rfl,ho.low hg0.size,qad (qay hg0) hg⟩
 . have Hr:Hid (qe1 k ll=none):=by
    refine qjt (.inr ?_);rw[<-hn];rcases hk with rfl|rfl|rfl
    . show (1:Int)≠_;omega
    . show (1:Int)≠_;omega
    . show (1:Int)≠_;omega
   have hne:((n:Int)==1)=false:=by simp;omega
   clear hn;rcases hk with rfl|rfl|rfl
   all_goals
    go_enter func58,ntmps58;go_wp2_with fail;refine(qds _ _).mono ?_;simp only[work,if_true];rintro e w' ⟨rfl,rfl⟩;go_wp2_with fail;refine(qf2 _ _).mono ?_;rintro e w2 ⟨rfl,hg⟩;go_wp2_with fail
    go_ret2
    exact⟨_,by rw[Hr.out];rfl,by rw[Hr.out];exact qg.nil _ _,qad (World.grownBy_alloc w _ none) hg⟩
theorem qtq(k:Int)(v:Value)(ll:List (List Int))(w:World)(h:RL w v ll)(hk:k=1∨k=2):Calls prog 58 #[.int .i64 k,v] w (qg6 w (qe1 k ll)):=by
 obtain⟨A,n,c,rfl,hc,hn,hn2⟩:=h.form';by_cases h1:n=2
 . subst h1
   obtain⟨a,b,rfl⟩:∃a b,ll=[a,b]:=by
    match ll,hn with
    |[a,b],_=>exact⟨a,b,rfl⟩
   clear hn;obtain⟨g,o,l,B,m,e,hA,hl,c0,ha,hm,hme,hmx⟩:=h.at_ (k:=0) (by omega);obtain⟨g',o',l',B',m',e',hA',hl',c1,hb,hm',qmS,qmT⟩:=h.at_ (k:=1) (by omega);rw[hA]at hA';injection hA' with hA';injection hA' with e1 e2 e3;subst hA e1 e2;clear e3;simp only[getElem?_cons_zero,getElem?_cons_succ,Option.some.injEq]at hl hl';subst hl hl';clear hm hm';have c0:w.cell? ⟨g,o,none⟩=some (.slice B m e):=c0;rcases hk with rfl|rfl
   . go_enter func58,ntmps58;go_wp2_with fail;refine(qds _ _).mono ?_;simp only[work,if_true];rintro e w' ⟨rfl,rfl⟩;go_wp2_with fail;refine(qhd _ _).mono ?_;rintro e w2 ⟨rfl,hg⟩;have hg0:=qad (World.grownBy_alloc w _ none) hg;have kA:=hg.cell (a:=⟨w.heap.size,0,none⟩) (v:=.func (.func 144) #[] #[]) (by simp) (by simp);have kB:=hg0.cell c0 (by simp);have kC:=hg0.cell c1 (by simp);have ha2:=ha.new hg0;have hb2:=hb.new hg0;clear c1;clear c0;clear hg;go_wp2_with fail
     go_region_law (go_simp;go_at_call 144;refine(qw8 _ _ a b _ (by exact ha2) (by exact hb2)).mono ?_;rintro e w3 ⟨v3,rfl,ho,hg⟩;obtain⟨A',n',c',rfl⟩:=ho.ri.val;have k0:=hg.cell (by exact kB) (by simp);have k1:=hg.cell (by exact kC) (by simp);have k2:=hg.cell (by exact kA) (by simp))
     all_goals
      go_wp2_with fail
      go_ret2
      exact⟨_,rfl,ho.low hg0.size,qad (qay hg0) hg⟩
   . go_enter func58,ntmps58;go_wp2_with fail;refine(qds _ _).mono ?_;simp only[work,if_true];rintro e w' ⟨rfl,rfl⟩;go_wp2_with fail;refine(qhd _ _).mono ?_;rintro e w2 ⟨rfl,hg⟩;have hg0:=qad (World.grownBy_alloc w _ none) hg;have kA:=hg.cell (a:=⟨w.heap.size,0,none⟩) (v:=.func (.func 145) #[] #[]) (by simp) (by simp);have kB:=hg0.cell c0 (by simp);have kC:=hg0.cell c1 (by simp);have ha2:=ha.new hg0;have hb2:=hb.new hg0;clear c1;clear c0;clear hg;go_wp2_with fail
     go_region_law (go_simp;go_at_call 145;refine(qtn _ _ a b _ (by exact ha2) (by exact hb2)).mono ?_;rintro e w3 ⟨v3,rfl,ho,hg⟩;obtain⟨A',n',c',rfl⟩:=ho.ri.val;have k0:=hg.cell (by exact kB) (by simp);have k1:=hg.cell (by exact kC) (by simp);have k2:=hg.cell (by exact kA) (by simp))
     all_goals
      go_wp2_with fail
      go_ret2
      exact⟨_,rfl,ho.low hg0.size,qad (qay hg0) hg⟩
 . have Hr:Hid (qe1 k ll=none):=by
    refine qjt (.inr ?_);rw[<-hn];rcases hk with rfl|rfl
    . show (2:Int)≠_;omega
    . show (2:Int)≠_;omega
   have hne:((n:Int)==2)=false:=by simp;omega
   clear hn;rcases hk with rfl|rfl
   all_goals
    go_enter func58,ntmps58;go_wp2_with fail;refine(qds _ _).mono ?_;simp only[work,if_true];rintro e w' ⟨rfl,rfl⟩;go_wp2_with fail;refine(qhd _ _).mono ?_;rintro e w2 ⟨rfl,hg⟩;go_wp2_with fail
    go_ret2
    exact⟨_,by rw[Hr.out];rfl,by rw[Hr.out];exact qg.nil _ _,qad (World.grownBy_alloc w _ none) hg⟩
theorem qvv(k:Int)(v:Value)(ll:List (List Int))(w:World)(h:RL w v ll):Calls prog 58 #[.int .i64 k,v] w (qg6 w (qe1 k ll)):=by
 rcases (show (k<0∨5<k∨k=0)∨(k=1∨k=2)∨(k=3∨k=4∨k=5) by omega)with hk|hk|hk
 . exact qvu k v ll w h hk
 . exact qtq k v ll w h hk
 . exact qtp k v ll w h hk
end
section
open Go.RowKit
end
section
open Go.RowKit
theorem qno{ops:Array Oper}{rest:List Oper}{o:Oper}{a:Act}{Q:Exit->Act->World->Prop}{w:World}
   (s x:Operand) (t:TypeId) (ht:Tryz.prog.underlying t=some (.slice 3)) (hgd:o.guard=none) (ho:o.op=.call {callee:=.builtin .append,args:=#[s,x],argTypes:=#[t,t]})
   {base:Nat} {v xv:Value} {l0 l:List Int} (hown:qg w base v l0) (hxv:RI w xv l) (hn:l0.length+l.length<=1000000000) (hbase:base<=w.heap.size)
   (hs:a.eval s=v) (hx:a.eval x=xv)
   (h:∀v' w',qg w' base v' (l0++l)->w.grownBy w' v.ownBlock->wpList prog ops Q rest (a.put o.dst v') w') :
   wpList prog ops Q (o::rest) a w:=by
 obtain⟨i,hi,hz0,hz1,hz2⟩:=info_parts qok;obtain⟨A,c,e,hc,hcm,hcn⟩:=TS.form hxv;subst e
 match A,hcn with
 |none,hcn=>
  obtain rfl:=hcn rfl;have hl0:l=[]:=eq_nil_of_length_eq_zero (by omega);subst hl0;refine wpList_append_own_none hgd s x t ho base 3 i 1 ht hi v _ _ hs hown hx ?_;rw[append_nil]at h;exact h _ _ hown (qah _ _)
 |some ad,hcn=>
  refine wpList_append_own _ hgd s x t ho base 3 i _ 1 8 ht hi hz0 hz1 hz2 rfl (by decide) v _ _ hs hown ad l.length c (l.map (.int .i64)) hx (by rw[length_map,Nat.mul_one]) ?_ (qjh l) ?_ ?_ hbase ?_
  . intro j u hj;have hjl:=(List.getElem?_eq_some_iff.1 hj).1;rw[length_map]at hjl;obtain⟨g,o',cur,e,_,hcell⟩:=TS.at_ hxv (by omega);have e2:ad=⟨g,o',none⟩:=Option.some.inj e;rw[e2,Addr.add_lit];exact hcell j u hj
  . unfold maxLen;omega
  . omega
  . intro v' w' h1 h2 _;refine h v' w' ?_ h2;unfold qg;simpa using h1
end
section
open Go.RowKit
def qnC(w:World)(cs rd:List Int)(e:Ending)(w':World):Prop:=∃v u,e=.returned (.tuple #[v,u])/\qg w' w.heap.size v cs/\qg w' w.heap.size u rd/\w.grownBy w' none
structure ko(w0 wr:World)(g n c b2:Nat)(cs:List Int)(u:Value)(rd:List Int):Prop where
 o:qg wr w0.heap.size (.slice (some ⟨g,0,none⟩) n c) cs
 r:qg wr b2 u rd
 gl:g<b2
 lo:w0.heap.size<=b2
 hi:b2<=wr.heap.size
 g:w0.grownBy wr none
theorem ko.jr{w0 wr:World}{g n c b2 k:Nat}{cs:List Int}{u:Value}{rd:List Int}{x:Int}(h:ko w0 wr g n c b2 cs u rd)(hn:n=cs.length)(_hk:k<n):ko w0 (wr.setCell ⟨g,k,none⟩ (.int .i64 x)) g n c b2 (cs.set k x) u rd:=by
 have hst:wr.grownBy (wr.setCell ⟨g,k,none⟩ (.int .i64 x)) (some g):=qbf (p:=⟨g,k,none⟩) (qah wr _) (.inr rfl) _;have hb:w0.heap.size<=g:=(h.o.lt g rfl).1;refine⟨h.o.jr hn k x,h.r.jN hst ?_,h.gl,h.lo,Nat.le_trans h.hi hst.size,qbd h.g hst (λg' e=>by cases e;exact .inl hb)⟩;by_cases e:u.ownBlock=some g
 . have:=(h.r.lt g e).1;have:=h.gl;omega
 . exact .inr e
theorem ko.push{w0 wr w2:World}{g n c b2:Nat}{cs:List Int}{u u':Value}{rd rd':List Int}(h:ko w0 wr g n c b2 cs u rd)(hr:qg w2 b2 u' rd')(hg:wr.grownBy w2 u.ownBlock):ko w0 w2 g n c b2 cs u' rd':=by
 refine⟨h.o.jN hg (.inr ?_),hr,h.gl,h.lo,Nat.le_trans h.hi hg.size,h.r.gb h.g hg h.lo⟩;intro e;have:=(h.r.lt g e.symm).1;have:=h.gl;omega
theorem qv9(v v':Value)(qa:List Node)(cs:List Int)(x:Int)(w:World)(h:RN w v qa)(h':RI w v' cs)(hv:qaf qa=true)(hcl:cs.length=qa.length)(hcs:∀y∈cs,-1000<=y/\y<=1000) :
   Calls prog 166 #[v,v',.int .i64 x] w (qnC w (qb2 qa cs x) (qb4 qa cs x)):=by
 obtain⟨A,n,c,rfl,hnc,hn,-⟩:=h.form';obtain⟨B,m,c',rfl,hmc,hm⟩:=h'.form';have zY:=qap hv;have vV:n<=10:=by omega
 obtain rfl:m=n:=by omega
 have Hn:=Lib.hid hn;have Hm:=Lib.hid hm;have Hv:=Lib.hid hv;have Hcs:=Lib.hid hcs;have hE:qg (w.alloc (.cells #[] 3)) w.heap.size (.slice (some ⟨w.heap.size,0,none⟩) 0 0) []:=qg.empty w (Nat.le_refl _);have hgE:=World.grownBy_alloc w (.cells #[] 3) none;have hoE:=h'.new hgE;have hlen:([]:List Int).length+cs.length<=1000000000:=by simp only[length_nil];omega
 clear hn hm hv hcs zY hcl;go_enter func166,ntmps166;go_wp2_with (at_builtin;go_must (refine qno _ _ 24 underlying24 rfl rfl hE hoE hlen hgE.size rfl rfl ?_));intro v4 w4 qx hg4;have hg5:=hE.gb hgE hg4 (Nat.le_refl _);by_cases h0:m=0
 . subst h0;have hnil:cs=[]:=eq_nil_of_length_eq_zero Hm.out.symm;have hpn:qa.length=0:=Hn.out.symm;have ht:Hid (qb2 qa cs x=cs):=by show _=_;rw[hnil];rfl
   have hr:Hid (qb4 qa cs x=[]):=by show _=_;unfold qb4;rw[hpn];rfl
   obtain⟨A4,n4,c4,rfl⟩:=qx.ri.val;have hR0:qg (w4.alloc (.cells #[] 3)) w4.heap.size (.slice (some ⟨w4.heap.size,0,none⟩) 0 0) []:=qg.empty w4 (Nat.le_refl _);have ho4:=qx.alloc (.cells #[] 3);have hg6:=qar hg5 (.cells #[] 3);have hb4:=hg5.size;clear hnil hpn;go_wp2_with fail
   go_loopg [9,10] 1 (λmm rd i wr=>mm=1/\i=.int .i64 (0:Nat)/\rd=.slice (some ⟨w4.heap.size,0,none⟩) 0 0/\wr=w4.alloc (.cells #[] 3))
   case atStart=>exact⟨rfl,rfl,rfl,rfl⟩
   case round=>
    obtain⟨rfl,rfl,rfl,rfl⟩:=hrel;go_wp2_with fail
    go_ret2
    exact⟨_,_,rfl,by rw[ht.out];exact ho4,by rw[hr.out];exact hR0.low hb4,hg6⟩
 . obtain⟨g,cap,cur,rfl,-,-,hB,-⟩:=qx.form (by rw[<-Hm.out];omega);have e:cs.length=m:=Hm.out.symm;rw[e]at qx;have hR0:qg (w4.alloc (.cells #[] 3)) w4.heap.size (.slice (some ⟨w4.heap.size,0,none⟩) 0 0) []:=qg.empty w4 (Nat.le_refl _)
   have M0:ko w (w4.alloc (.cells #[] 3)) g m cap w4.heap.size (qgp qa cs x 0) (.slice (some ⟨w4.heap.size,0,none⟩) 0 0) (qdd qa cs x 0):=by
    rw[q2n];exact⟨qx.alloc _,hR0,hB.lt,hg5.size,(World.grownBy_alloc w4 _ none).size,qar hg5 _⟩
   have hb4:=hg5.size;rw[e];go_wp2_with fail
   go_loopg [9,10] (m+1) (λmm rd i wr=>∃k:Nat,k<=m/\mm=m+1-k/\i=.int .i64 k/\ko w wr g m cap w4.heap.size (qgp qa cs x k) rd (qdd qa cs x k))
   case atStart=>exact⟨0,Nat.zero_le _,rfl,rfl,M0⟩
   case round=>
    clear M0;obtain⟨k,hk,rfl,rfl,M⟩:=hrel;by_cases hlt:k<m
    . obtain⟨g2,o2,nd,f,r,rfl,hx,c0,c1,c2,hf,-⟩:=(h.new M.g).at_ hlt;obtain⟨Af,nf,cf,rfl⟩:=hf.val;have hfr:=qec hx;have hkc:k<cs.length:=by rw[<-Hm.out];exact hlt
      have hy:cs[k]?=some cs[k]:=getElem?_eq_getElem hkc;have hyb:=Hcs.out cs[k] (getElem_mem hkc);have hyd:cs.getD k 0=cs[k]:=by rw[getD_eq_getElem?_getD,hy];rfl
      have hty:(qgp qa cs x k)[k]?=some cs[k]:=by rw[qhl hy];simp
      generalize cs[k]=y at hy hyb hyd hty;obtain⟨d0,f0,-,-⟩:=M.o.cell hty;have htl:m=(qgp qa cs x k).length:=by rw[qhk];exact Hm.out
      clear hx c0 c2 hkc;by_cases hh:x∈nd.frm
      . have Hh:Hid (decide (x∈nd.frm)=true):=decide_eq_true hh;have hhas:has qa k x=true:=by unfold has;rw[hfr];exact decide_eq_true hh
        have M2:=M.jr (x:=y-1) htl hlt;rw[<-q2o hy hhas]at M2;have hnr:=qk6 qa cs x k;rw[hhas,hyd]at hnr;by_cases h1:y=1
        . have hq:(y-1==0)=true:=by rw[h1];rfl
          have Hnr:Hid (qdd qa cs x (k+1)=qdd qa cs x k++[(k:Int)]):=by show _=_;rw[hnr,h1];rfl
          have hrl:(qdd qa cs x k).length<=1000000000:=by
           have:=length_filter_le (λi=>has qa i x&&decide (cs.getD i 0=1)) (range k);unfold qdd;rw[length_map];rw[length_range]at this;omega
          have hb2:=M2.hi;clear hh hhas hnr h1 hfr hty htl hyd hy;go_wp2_with fail;refine(qen _ _ _ _ hf Hh.out).mono ?_;rintro e' w' ⟨rfl,rfl⟩;go_wp2_with (at_builtin;go_must (refine qek (.tmp 41) (.tmp 43) rfl rfl M2.r hrl hb2 rfl rfl (by simp[World.setCell]) ?_));intro v6 w6 vp hg6;rw[<-Hnr.out]at vp;have M3:=M2.push vp hg6;obtain⟨A6,n6,c6,rfl⟩:=vp.ri.val;go_wp2;go_roundg (m+1-(k+1))
          case measure=>omega
          case rel=>exact⟨k+1,by omega,rfl,by go_num,M3⟩
        . have hq:(y-1==0)=false:=by simp;omega
          have Hnr:Hid (qdd qa cs x (k+1)=qdd qa cs x k):=by show _=_;rw[hnr];simp[h1]
          rw[<-Hnr.out]at M2;clear hh hhas hnr h1 hfr hty htl hyd hy;go_wp2_with fail;refine(qen _ _ _ _ hf Hh.out).mono ?_;rintro e' w' ⟨rfl,rfl⟩;go_wp2;go_roundg (m+1-(k+1))
          case measure=>omega
          case rel=>exact⟨k+1,by omega,rfl,by go_num,M2⟩
      . have Hh:Hid (decide (x∈nd.frm)=false):=decide_eq_false hh;have hhas:has qa k x=false:=by unfold has;rw[hfr];exact decide_eq_false hh
        have Hnr:Hid (qdd qa cs x (k+1)=qdd qa cs x k):=by show _=_;rw[qk6,hhas];simp
        rw[<-q2p hhas,<-Hnr.out]at M;clear hh hhas hfr hty htl hyd hy d0 f0;go_wp2_with fail;refine(qen _ _ _ _ hf Hh.out).mono ?_;rintro e' w' ⟨rfl,rfl⟩;go_wp2;go_roundg (m+1-(k+1))
        case measure=>omega
        case rel=>exact⟨k+1,by omega,rfl,by go_num,M⟩
    . obtain rfl:k=m:=by omega
      have e1:qgp qa cs x k=qb2 qa cs x:=q5s x (by rw[<-Hm.out];exact Nat.le_refl _);have e2:qdd qa cs x k=qb4 qa cs x:=by rw[Hn.out];rfl
      rw[e1,e2]at M;obtain⟨A6,n6,c6,rfl⟩:=M.r.ri.val;clear e1 e2;go_wp2_with fail
      go_ret2
      exact⟨_,_,rfl,M.o,M.r.low M.lo,M.g⟩
theorem qxc{d:List Int}{k:Nat}{x:Int}(hx:d[k]?=some x)(h:¬(0<=x/\x<=9)):qbj d=false:=by
 rcases Bool.eq_false_or_eq_true (qbj d)with e|e
 . exact absurd ((qcm.1 e).2.1 x (mem_of_getElem? hx)) h
 . exact e
theorem qtt{d:List Int}{k:Nat}{x:Int}(hx:d[k]?=some x)(h:x∈d.take k):qbj d=false:=by
 rcases Bool.eq_false_or_eq_true (qbj d)with e|e
 . exfalso;have hn:=(qcm.1 e).2.2;obtain⟨hk,rfl⟩:=List.getElem?_eq_some_iff.1 hx;have h2:=hn.sublist (take_sublist (k+1) d);rw[take_succ_eq_append_getElem hk,nodup_append]at h2;exact h2.2.2 _ h _ (by simp) rfl
 . exact e
def yH(d:List Int)(k:Nat):Prop:=(∀x∈d.take k,0<=x/\x<=9)/\(d.take k).Nodup
theorem q9o(d:List Int):yH d 0:=by unfold yH;simp
theorem q9p{d:List Int}{k:Nat}{x:Int}(h:yH d k)(hx:d[k]?=some x)(hr:0<=x/\x<=9)(hn:x∉d.take k):yH d (k+1):=by
 obtain⟨hk,rfl⟩:=List.getElem?_eq_some_iff.1 hx;unfold yH at h |-;rw[take_succ_eq_append_getElem hk];refine⟨λy hy=>?_,?_⟩
 . rcases mem_append.1 hy with hy|hy
   . exact h.1 y hy
   . obtain rfl:y=d[k]:=by simpa using hy
     exact hr
 . rw[nodup_append];refine⟨h.2,by simp,λa ha b hb e=>?_⟩;obtain rfl:b=d[k]:=by simpa using hb
   exact hn (e▸ha)
theorem qnD{d:List Int}{k:Nat}(h:yH d k)(hk:d.length<=k):qbj d=decide (d.length<=10):=by
 unfold yH at h;rw[take_of_length_le hk]at h;rw[Bool.eq_iff_iff,qcm,decide_eq_true_eq];exact⟨λe=>e.1,λe=>⟨e,h.1,h.2⟩⟩
theorem qd3(v:Value)(d:List Int)(w:World)(h:RI w v d){b:Bool}(hb:qbj d=b) :
   Calls prog 164 #[v] w λe w'=>e=.returned (.bool b)/\w.grownBy w' none:=by
 obtain⟨A,n,c,rfl,hnc,hn⟩:=h.form';have hle:=h.le;rw[<-hn]at hle;have Hn:=Lib.hid hn;have Hb:=Lib.hid hb;clear hn hb;go_enter func164,ntmps164;go_wp2_with fail
 go_loopg [3] (n+1) (λmm i wr=>∃k:Nat,k<=n/\mm=n+1-k/\i=.int .i64 k/\Hid (yH d k)/\w.grownBy wr none)
 case atStart=>exact⟨0,Nat.zero_le _,rfl,rfl,q9o d,qah _ _⟩
 case round=>
  obtain⟨k,hk,rfl,rfl,Hk,hg⟩:=hrel;by_cases hlt:k<n
  . obtain⟨g,o,x,rfl,hx,c0⟩:=(h.new hg).at_ hlt;have Hx:=Lib.hid hx;have ht:=(h.new hg).take (k:=k) (by omega);have hkc:k<=c:=by omega
    clear hx;by_cases hin:0<=x/\x<=9
    . have Hin:Hid ((decide (0<=x)&&decide (x<=9))=true):=by show _=_;simp[hin.1,hin.2]
      by_cases hD:x∈d.take k
      . have HD:Hid (decide (x∈d.take k)=true):=decide_eq_true hD
        have Hr:Hid (b=false):=by
         show _=_;rw[<-Hb.out];exact qtt Hx.out hD
        clear hD Hk hin;go_wp2_with fail
        go_quiet ((first
         |(go_at_call 74;exact qdh (qed _ _ _ _ Hin.out))
         |(go_at_call 123;exact qdh (qen _ _ _ _ (by exact ht) HD.out))))
        go_wp2;go_ret;exact⟨by rw[Hr.out];rfl,qcn hg _⟩
      . have HD:Hid (decide (x∈d.take k)=false):=decide_eq_false hD;have Hs:Hid (yH d (k+1)):=q9p Hk.out Hx.out hin hD;clear hD Hk hin;go_wp2_with fail
        go_quiet ((first
         |(go_at_call 74;exact qdh (qed _ _ _ _ Hin.out))
         |(go_at_call 123;exact qdh (qen _ _ _ _ (by exact ht) HD.out))))
        go_wp2;go_roundg (n+1-(k+1))
        case measure=>omega
        case rel=>exact⟨k+1,by omega,rfl,by go_num,Hs,qcn hg _⟩
    . have Hin:Hid ((decide (0<=x) && decide (x<=9))=false):=by
       show _=_;rw[Bool.and_eq_false_iff,decide_eq_false_iff_not,decide_eq_false_iff_not];omega
      have Hr:Hid (b=false):=by
       show _=_;rw[<-Hb.out];exact qxc Hx.out hin
      clear hin Hk;go_wp2_with fail
      go_quiet ((first
       |(go_at_call 74;exact qdh (qed _ _ _ _ Hin.out))))
      go_wp2;go_ret;exact⟨by rw[Hr.out];rfl,qcn hg _⟩
  . obtain rfl:k=n:=by omega
    have Hr:Hid (b=decide ((k:Int)<=10)):=by
     show _=_;rw[<-Hb.out,qnD Hk.out (by rw[<-Hn.out];exact Nat.le_refl _),<-Hn.out,decide_eq_decide];omega
    clear Hk;go_wp2;go_ret;exact⟨by rw[Hr.out];rfl,hg⟩
def q5a(w:World)(r:Option (List Int×Int))(e:Ending)(w':World):Prop:=match r with
 |some (l,x)=>∃v,e=.returned (.tuple #[v,.int .i64 x,.bool true])/\qg w' w.heap.size v l/\w.grownBy w' none
 |none=>∃v y,e=.returned (.tuple #[v,.int .i64 y,.bool false])/\RI w' v []/\w.grownBy w' none
def qdq(d:List Int):Option (List Int×Int):=if qbj d then d.getLast?.map λx=>(d.dropLast,x)else none
def qb3(d:List Int):Option (List Int×Int):=if qbj d then d.head?.map λx=>(d.drop 1,x)else none
theorem qsv{d:List Int}(h:qbj d=false):qdq d=none:=by unfold qdq;rw[h];rfl
theorem qsw:qdq []=none:=by unfold qdq;simp
theorem qqn{d:List Int}(h:qbj d=true)(hl:0<d.length):qdq d=some (d.take (d.length-1),d.getD (d.length-1) 0):=by
 unfold qdq;rw[h,if_pos rfl,getLast?_eq_getElem?,getElem?_eq_getElem (by omega),getD_eq_getElem?_getD,getElem?_eq_getElem (by omega),dropLast_eq_take];rfl
theorem qxd{d:List Int}(h:qbj d=false):qb3 d=none:=by unfold qb3;rw[h];rfl
theorem qwa{d:List Int}(h:qbj d=true)(hl:0<d.length):qb3 d=some (d.drop 1,d.getD 0 0):=by
 unfold qb3;rw[h,if_pos rfl];cases d with
 |nil=>simp at hl
 |cons x r=>rfl
theorem qtu(v:Value)(d:List Int)(w:World)(h:RI w v d):Calls prog 125 #[v] w (q5a w (qdq d)):=by
 obtain⟨A,n,c,rfl,hnc,hn⟩:=h.form';have hle:=h.le;rw[<-hn]at hle;have Hn:=Lib.hid hn;by_cases hv:qbj d=true
 . have Hv:=Lib.hid hv;have vV:n<=10:=by rw[hn];exact(qcm.1 hv).1
   by_cases h0:n=0
   . have hd:d=[]:=eq_nil_of_length_eq_zero (by omega);have hlt:(n:Int)-1<0:=by omega
     have Hr:Hid (qdq d=none):=by show _=_;rw[hd];exact qsw
     clear hv hn hd h0;go_enter func125,ntmps125;go_wp2_with fail;refine(qd3 _ d _ h Hv.out).mono ?_;rintro e w1 ⟨rfl,hg1⟩;go_wp2_with fail;refine bodyPost_ret (v:=.tuple #[.slice (some ⟨w1.heap.size,0,none⟩) 0 0,.int .i64 0,.bool false]) (by simp[results,results125,go_sem]) rfl ?_;rw[Hr.out];exact⟨_,0,rfl,(qg.empty w1 (Nat.le_refl _)).ri,qar hg1 _⟩
   . have Hr:Hid (qdq d=some (d.take (n-1),d.getD (n-1) 0)):=by show _=_;rw[hn];exact qqn hv (by omega)
     have hge:¬((n:Int)-1<0):=by omega
     obtain⟨m,rfl⟩:∃m,n=m+1:=⟨n-1,by omega⟩;rw[Nat.add_sub_cancel]at Hr;clear hv hn h0;go_enter func125,ntmps125;go_wp2_with fail;refine(qd3 _ d _ h Hv.out).mono ?_;rintro e w1 ⟨rfl,hg1⟩;have h1:=h.new hg1;obtain⟨g,o,x,rfl,hx,c0⟩:=h1.at_ (k:=m) (by omega);have Hx:Hid (d.getD m 0=x):=by show _=_;rw[getD_eq_getElem?_getD,hx];rfl
     have hE:qg (w1.alloc (.cells #[] 3)).drew w1.heap.size (.slice (some ⟨w1.heap.size,0,none⟩) 0 0) []:=qg.empty w1 (Nat.le_refl _);have hgE:w1.grownBy (w1.alloc (.cells #[] 3)).drew none:=qay (World.grownBy_alloc w1 _ none);have hrE:RI (w1.alloc (.cells #[] 3)).drew (.slice (some ⟨g,o,none⟩) m c) (d.take m):=(h1.take (k:=m) (by omega)).new hgE;have hlen:([]:List Int).length+(d.take m).length<=1000000000:=by simp only[length_nil,length_take];omega
     have c0A:=qc1 c0 (World.grownBy_alloc w1 (.cells #[] 3) none);have hmc:m<=c:=by omega
     have qnE:(m:Int)<(m:Int)+1:=by omega
     have hn1:(((m+1:Nat):Int)-1)=(m:Int):=by omega
     clear hx;go_wp2_with fail
     go_region_law (refine qer (w:=(w1.alloc (.cells #[] 3)).drew) (base:=w1.heap.size) (v:=.slice (some ⟨w1.heap.size,0,none⟩) 0 0) (xv:=.slice (some ⟨g,o,none⟩) m c) (l0:=[]) (l:=d.take m) (.tmp 17) (.tmp 20) rfl rfl hE hrE hlen hgE.size rfl rfl ?_;intro v' w4 qx hg4;have hg5:=hE.gb hgE hg4 (Nat.le_refl _);have c4:=qc1 c0 hg5;obtain⟨A4,n4,c4',rfl⟩:=qx.ri.val)
     all_goals
      go_wp2_with fail;refine bodyPost_ret (v:=.tuple #[.slice A4 n4 c4',.int .i64 x,.bool true]) (by simp[results,results125,go_sem]) rfl ?_;rw[Hr.out,Hx.out];exact⟨_,rfl,(by simpa using qx.low hg1.size),qad hg1 hg5⟩
 . have hv':qbj d=false:=by simpa using hv
   have Hv:=Lib.hid hv';have Hr:=Lib.hid (qsv hv');clear hv hv' hn;go_enter func125,ntmps125;go_wp2_with fail;refine(qd3 _ d _ h Hv.out).mono ?_;rintro e w1 ⟨rfl,hg1⟩;go_wp2_with fail;refine bodyPost_ret (v:=.tuple #[.slice (some ⟨w1.heap.size,0,none⟩) 0 0,.int .i64 0,.bool false]) (by simp[results,results125,go_sem]) rfl ?_;rw[Hr.out];exact⟨_,0,rfl,(qg.empty w1 (Nat.le_refl _)).ri,qar hg1 _⟩
theorem RI.tail{w:World}{g o n c:Nat}{l:List Int}(h:RI w (.slice (some ⟨g,o,none⟩) n c) l)(h1:1<=n):∃ox,(if c=1 then some (⟨g,o,none⟩:Addr)else some ⟨g,o+1,none⟩)=some ⟨g,ox,none⟩/\RI w (.slice (some ⟨g,ox,none⟩) (n-1) (c-1)) (l.drop 1):=by
 obtain⟨h0,A',c'',e,h2,h3,h4,h5⟩:=h;injection e with e1 e2 e3;subst e1 e3;have hl:l.length=n:=e2.symm;by_cases hc1:c=1
 . refine⟨o,by rw[if_pos hc1],by simp,_,c-1,by rw[length_drop,hl],by rw[length_drop,hl];omega,by omega,by simp,.inl (by rw[length_drop];omega)⟩
 . refine⟨o+1,by rw[if_neg hc1],by simp,_,c-1,by rw[length_drop,hl],by rw[length_drop,hl];omega,by omega,by simp,?_⟩;rcases h5 with h5|⟨g',o',cur,hA',hb,hc⟩
   . omega
   . injection hA' with hA';injection hA' with q1 q2;subst q1 q2;refine .inr ⟨g,o+1,cur,rfl,hb,λj u hu=>?_⟩;rw[map_drop,getElem?_drop]at hu;have:=hc (1+j) u hu;rw[show o+1+j=o+(1+j) by omega];exact this
theorem qqo(v:Value)(d:List Int)(w:World)(h:RI w v d):Calls prog 128 #[v] w (q5a w (qb3 d)):=by
 obtain⟨A,n,c,rfl,hnc,hn⟩:=h.form';have hle:=h.le;rw[<-hn]at hle;have Hn:=Lib.hid hn;by_cases hv:qbj d=true
 . have Hv:=Lib.hid hv;have vV:n<=10:=by rw[hn];exact(qcm.1 hv).1
   by_cases h0:n=0
   . have hd:d=[]:=eq_nil_of_length_eq_zero (by omega);have hlt:((n:Int)==0)=true:=by simp[h0]
     have Hr:Hid (qb3 d=none):=by show _=_;rw[hd];unfold qb3;simp
     clear hv hn hd h0;go_enter func128,ntmps128;go_wp2_with fail;refine(qd3 _ d _ h Hv.out).mono ?_;rintro e w1 ⟨rfl,hg1⟩;go_wp2_with fail;refine bodyPost_ret (v:=.tuple #[.slice (some ⟨w1.heap.size,0,none⟩) 0 0,.int .i64 0,.bool false]) (by simp[results,results128,go_sem]) rfl ?_;rw[Hr.out];exact⟨_,0,rfl,(qg.empty w1 (Nat.le_refl _)).ri,qar hg1 _⟩
   . have Hr:Hid (qb3 d=some (d.drop 1,d.getD 0 0)):=by show _=_;exact qwa hv (by omega)
     have hge:((n:Int)==0)=false:=by simp[h0]
     have hn1:1<=n:=by omega
     clear hv hn h0;go_enter func128,ntmps128;go_wp2_with fail;refine(qd3 _ d _ h Hv.out).mono ?_;rintro e w1 ⟨rfl,hg1⟩;have h1:=h.new hg1;obtain⟨g,o,x,rfl,hx,c0⟩:=h1.at_ (k:=0) (by omega);have Hx:Hid (d.getD 0 0=x):=by show _=_;rw[getD_eq_getElem?_getD,hx];rfl
     have hE:qg (w1.alloc (.cells #[] 3)).drew w1.heap.size (.slice (some ⟨w1.heap.size,0,none⟩) 0 0) []:=qg.empty w1 (Nat.le_refl _);have hgE:w1.grownBy (w1.alloc (.cells #[] 3)).drew none:=qay (World.grownBy_alloc w1 _ none);have hlen:([]:List Int).length+(d.drop 1).length<=1000000000:=by simp only[length_nil,length_drop];have:=Hn.out;omega
     have hmc:(1:Int)<=(n:Int):=by omega
     have qnE:(0:Int)<(n:Int):=by omega
     have qnF:0<n:=by omega
     rw[Nat.add_zero]at c0;have qtI:(n:Int)<=(c:Int):=by omega
     obtain⟨ox,hox,hD⟩:=h1.tail hn1;have c0A:=qc1 c0 (World.grownBy_alloc w1 (.cells #[] 3) none);have hDE:=hD.new hgE;clear hx;go_wp2_with fail
     go_region_law (refine qer (w:=(w1.alloc (.cells #[] 3)).drew) (base:=w1.heap.size) (v:=.slice (some ⟨w1.heap.size,0,none⟩) 0 0) (xv:=.slice (some ⟨g,ox,none⟩) (n-1) (c-1)) (l0:=[]) (l:=d.drop 1) (.tmp 14) (.tmp 16) rfl rfl hE hDE hlen hgE.size rfl rfl ?_;intro v' w4 qx hg4;have hg5:=hE.gb hgE hg4 (Nat.le_refl _);have c4:=qc1 c0 hg5;obtain⟨A4,n4,c4',rfl⟩:=qx.ri.val)
     all_goals
      go_wp2_with fail;refine bodyPost_ret (v:=.tuple #[.slice A4 n4 c4',.int .i64 x,.bool true]) (by simp[results,results128,go_sem]) rfl ?_;rw[Hr.out,Hx.out];exact⟨_,rfl,(by simpa using qx.low hg1.size),qad hg1 hg5⟩
 . have hv':qbj d=false:=by simpa using hv
   have Hv:=Lib.hid hv';have Hr:=Lib.hid (qxd hv');clear hv hv' hn;go_enter func128,ntmps128;go_wp2_with fail;refine(qd3 _ d _ h Hv.out).mono ?_;rintro e w1 ⟨rfl,hg1⟩;go_wp2_with fail;refine bodyPost_ret (v:=.tuple #[.slice (some ⟨w1.heap.size,0,none⟩) 0 0,.int .i64 0,.bool false]) (by simp[results,results128,go_sem]) rfl ?_;rw[Hr.out];exact⟨_,0,rfl,(qg.empty w1 (Nat.le_refl _)).ri,qar hg1 _⟩
theorem q1y{L:List (List Int)}{k:Nat}{d:List Int}(h:L[k]?=some d):(L.take (k+1)).flatten=(L.take k).flatten++d:=by
 obtain⟨hk,rfl⟩:=List.getElem?_eq_some_iff.1 h;rw[take_succ_eq_append_getElem hk,flatten_append];simp
theorem q7b{d:List Int}{j:Nat}{y:Int}(x:Int)(h:d[j]?=some y):(d.take (j+1)).count x=(d.take j).count x+if y=x then 1 else 0:=by
 obtain⟨hk,rfl⟩:=List.getElem?_eq_some_iff.1 h;rw[take_succ_eq_append_getElem hk,count_append,count_singleton];by_cases e:d[j]=x
 . simp[e]
 . simp[e]
theorem q5b{L:List (List Int)}{b:Nat}(h:∀d∈L,d.length<=b):L.flatten.length<=L.length*b:=by
 induction L with
 |nil=>simp
 |cons d L ih=>
  have h1:=h d (by simp);have h2:=ih (λx hx=>h x (by simp[hx]));rw[flatten_cons,length_append,length_cons,Nat.add_mul];omega
def qhR(w:World)(n:Nat)(e:Ending)(w':World):Prop:=∃z:Int,e=.returned (.tuple #[.int .i64 (n:Nat),.int .i64 z])/\w.grownBy w' none
theorem q1z(v:Value)(c:qj)(x:Int)(w:World)(h:CV w v c)(hb:c.qb.length<=100)(hb2:∀d∈c.qb,d.length<=1048576) :
   Calls prog 161 #[v,.int .i64 x] w (qhR w (c.qb.flatten.count x)):=by
 obtain⟨A1,n1,c1,A2,n2,c2,A3,n3,c3,A4,n4,c4,rfl,h1,-,-,-⟩:=h.form;have hX:=h.box;have hgW:=World.grownBy_alloc w (.cells #[.slice A1 n1 c1,.slice A2 n2 c2,.slice A3 n3 c3,.slice A4 n4 c4] 29) none;have hn:=h1.len;have qnG:n1<=100:=by omega
 have Hn:=Lib.hid hn;have Hb2:=Lib.hid hb2;clear hn hb hb2 h1 h;go_enter func161,ntmps161;go_wp2_with fail
 go_loopg [6,7,8] (n1+1) (λmm m wk i wr=>∃(k:Nat) (z:Int),k<=n1/\mm=n1+1-k/\i=.int .i64 k/\m=.int .i64 ((c.qb.take k).flatten.count x:Nat)/\wk=.int .i64 z/\jU wr w.heap.size (.slice A1 n1 c1) (.slice A2 n2 c2) (.slice A3 n3 c3) (.slice A4 n4 c4) c/\w.grownBy wr none)
 case atStart=>exact⟨0,-1,Nat.zero_le _,rfl,rfl,rfl,rfl,hX,hgW⟩
 case round=>
  clear hX hgW;obtain⟨k,z,hk,rfl,rfl,rfl,rfl,hX,hg⟩:=hrel;have d0:=hX.d0;by_cases hlt:k<n1
  . obtain⟨g,o,d,B,m,e,rfl,hx,c0,hd,hm,-,-⟩:=hX.dq.at_ hlt;have hdl:=Hb2.out d (mem_of_getElem? hx)
    have hfl:((c.qb.take k).flatten.count x)<=104857600:=by
     refine Nat.le_trans count_le_length (Nat.le_trans (q5b (b:=1048576) (λy hy=>Hb2.out y (mem_of_mem_take hy))) ?_);have:(c.qb.take k).length<=100:=by rw[length_take];omega
     calc (c.qb.take k).length*1048576<=100*1048576:=Nat.mul_le_mul_right _ this
      _<=104857600:=by omega
    have Hf:Hid ((c.qb.take (k+1)).flatten.count x=(c.qb.take k).flatten.count x+d.count x):=by
     show _=_;rw[q1y hx,count_append]
    have Hm:=Lib.hid hm;have hml:m<=1048576:=by omega
    generalize (c.qb.take k).flatten.count x=q at hfl Hf |-;clear hx hm hdl;go_wp2_with fail
    go_loopg [6,7,9] (m+1) (λmm mq wk i wq=>∃(j:Nat) (z:Int),j<=m/\mm=m+1-j/\i=.int .i64 j/\mq=.int .i64 ((q+(d.take j).count x:Nat):Int)/\wk=.int .i64 z/\wq=wr)
    case atStart=>exact⟨0,z,Nat.zero_le _,rfl,rfl,by simp,rfl,rfl⟩
    case round=>
     obtain⟨j,z2,hj,rfl,rfl,rfl,rfl,rfl⟩:=hrel;by_cases hlj:j<m
     . obtain⟨g2,o2,y,rfl,hy,e0⟩:=hd.at_ hlj;have hct:=q7b x hy;have hcl:(d.take j).count x<=1048576:=Nat.le_trans count_le_length (by rw[length_take];omega);clear hy;by_cases hyx:y=x
       . have hq:(y==x)=true:=by simpa using hyx
         rw[if_pos hyx]at hct;have Hct:=Lib.hid hct;clear hyx hct;go_wp2;go_roundg (m+1-(j+1))
         case measure=>omega
         case rel=>exact⟨j+1,k,by omega,rfl,by go_num,by rw[Hct.out];go_num,rfl,rfl⟩
       . have hq:(y==x)=false:=by simpa using hyx
         rw[if_neg hyx]at hct;have Hct:=Lib.hid hct;clear hyx hct;go_wp2;go_roundg (m+1-(j+1))
         case measure=>omega
         case rel=>exact⟨j+1,z2,by omega,rfl,by go_num,by rw[Hct.out];go_num,rfl,rfl⟩
     . obtain rfl:j=m:=by omega
       have Hd:Hid ((d.take j).count x=d.count x):=by
        show _=_;rw[take_of_length_le (by rw[<-Hm.out];exact Nat.le_refl _)]
       go_wp2;go_roundg (n1+1-(k+1))
       case measure=>omega
       case rel=>exact⟨k+1,z2,by omega,rfl,by go_num,by rw[Hf.out,Hd.out],rfl,hX,hg⟩
  . obtain rfl:k=n1:=by omega
    have Hr:Hid ((c.qb.take k).flatten.count x=c.qb.flatten.count x):=by
     show _=_;rw[take_of_length_le (by rw[<-Hn.out];exact Nat.le_refl _)]
    go_wp2_with fail
    go_ret2
    exact⟨z,by rw[Hr.out];rfl,hg⟩
theorem qtv{qa:List Node}{D:List Int}{k:Nat}{x:Int}(h:D[k]?=some x):qbr qa (D.take (k+1))=qb2 qa (qbr qa (D.take k)) x:=by
 obtain⟨hk,rfl⟩:=List.getElem?_eq_some_iff.1 h;unfold qbr;rw[take_succ_eq_append_getElem hk,foldl_append];rfl
theorem qwb(qa:List Node)(D:List Int):(qbr qa D).length=qa.length:=by
 unfold qbr
 have:∀(D:List Int) (cs:List Int),cs.length=qa.length->(D.foldl (qb2 qa) cs).length=qa.length:=by
  intro D
  induction D with
  |nil=>intro cs h;exact h
  |cons x D ih=>intro cs h;exact ih _ (by rw[qin];exact h)
 exact this D _ (by unfold qbm;rw[length_map,length_range])
theorem q5c{qa:List Node}(hv:qaf qa=true)(D:List Int):∀y∈lefts qa D,-1000<=y/\y<=1000:=by
 intro y hy;unfold lefts at hy;obtain⟨i,hi,rfl⟩:=mem_map.1 hy;have hi:=mem_range.1 hi;have h1:=q7y qa D i
 have h2:(qcp qa i).length<=2:=by
  rw[qhr];refine Nat.le_trans (quh _) ?_;rw[qec (getElem?_eq_getElem hi)];exact(qbk hv (getElem?_eq_getElem hi)).2.1
 omega
theorem qoe(pv v:Value)(qa:List Node)(c:qj)(w:World)(hp:RN w pv qa)(h:CV w v c)(hv:qaf qa=true)(ho:qb6 qa c.done=true){b:Bool}(hb:decide (c.counts=qbr qa c.done)=b) :
   Calls prog 159 #[pv,v] w λe w'=>e=.returned (.bool b)/\w.grownBy w' none:=by
 obtain⟨A,n,cp,rfl,-,-,-⟩:=hp.form';obtain⟨A1,n1,c1,A2,n2,c2,A3,n3,c3,A4,n4,c4,rfl,-,h2,h3,-⟩:=h.form;have hX:=h.box;have hgW:=World.grownBy_alloc w (.cells #[.slice A1 n1 c1,.slice A2 n2 c2,.slice A3 n3 c3,.slice A4 n4 c4] 29) none;have hpW:=hp.new hgW;have hn:=h3.len;have hnb:n3<=9223372036854775807:=by have:=h3.le;omega
 have Hn:=Lib.hid hn;have Hv:=Lib.hid hv;have Ho:=Lib.hid ho;have Hb:=Lib.hid hb;clear hn hb hv ho h2 h3 h hp;go_enter func159,ntmps159;go_wp2_with fail;refine(qqm _ qa _ hpW Hv.out).mono ?_;rintro e w1 ⟨v1,rfl,hown1,hg1⟩;have hX1:=hX.new hg1;have hp1:=hpW.new hg1;have hg:=qad hgW hg1;have hc0:RI w1 v1 (qbr qa (c.done.take 0)):=hown1.ri;obtain⟨A5,n5,c5,rfl⟩:=hc0.val;clear hown1 hg1;go_wp2_with fail
 go_loopg [5,6] (n3+1) (λmm cv i wr=>∃k:Nat,k<=n3/\mm=n3+1-k/\i=.int .i64 k/\RI wr cv (qbr qa (c.done.take k))/\w1.grownBy wr none)
 case atStart=>exact⟨0,Nat.zero_le _,rfl,rfl,hc0,qah _ _⟩
 case round=>
  clear hc0;obtain⟨k,hk,rfl,rfl,hcv,hgk⟩:=hrel;have hXk:=hX1.new hgk;have d2:=hXk.d2;have d1:=hXk.d1;by_cases hlt:k<n3
  . obtain⟨g,o,y,rfl,hy,c0⟩:=hXk.dn.at_ hlt;have kp:qbr qa (c.done.take k)=lefts qa (c.done.take k):=qr1 Hv.out Ho.out k (by rw[<-Hn.out];omega);have Hs:Hid (qbr qa (c.done.take (k+1))=qb2 qa (qbr qa (c.done.take k)) y):=qtv hy;have Hin:Hid (∀y∈qbr qa (c.done.take k),-1000<=y/\y<=1000):=by rw[kp];exact q5c Hv.out _
    clear hy kp;go_wp2_with fail;refine(qv9 _ _ qa _ y _ (hp1.new hgk) hcv Hv.out (qwb _ _) Hin.out).mono ?_;rintro e w2 ⟨v2,u2,rfl,hc2,hr2,hg2⟩;rw[<-Hs.out]at hc2;have hg3:=qad hgk hg2;have hc3:=hc2.ri;obtain⟨A6,n6,c6,rfl⟩:=hc3.val;obtain⟨A7,n7,c7,rfl⟩:=hr2.ri.val;clear hc2 hr2;go_wp2;go_roundg (n3+1-(k+1))
    case measure=>omega
    case rel=>exact⟨k+1,by omega,rfl,by go_num,hc3,hg3⟩
  . obtain rfl:k=n3:=by omega
    have Hr:Hid (decide (qbr qa (c.done.take k)=c.counts)=b):=by
     show _=_;rw[<-Hb.out,take_of_length_le (by rw[<-Hn.out];exact Nat.le_refl _),decide_eq_decide];exact eq_comm
    obtain⟨A6,n6,c6,rfl⟩:=hcv.val;have h2k:=hXk.ct;go_wp2_with fail;refine(ql5 _ _ _ _ _ hcv h2k Hr.out).mono ?_;rintro e w2 ⟨rfl,hg2⟩;go_wp2;go_ret;exact⟨rfl,qad (qad hg hgk) hg2⟩
def q9f(w:World)(ll:List (List Int))(e:Ending)(w':World):Prop:=∃v',e=.returned v'/\zi w' w.heap.size v' ll/\w.grownBy w' none
theorem qqf(v:Value)(ll:List (List Int))(w:World)(h:RL w v ll)(hl:ll.length<=1000)(hll:∀l∈ll,l.length<=1000):Calls prog 182 #[v] w (q9f w ll):=by
 obtain⟨A,n,c,rfl,hc,hn,hnx⟩:=h.form';have qtJ:n<=1000:=by omega
 have Hn:=Lib.hid hn;have Hll:=Lib.hid hll;clear hn hll;obtain⟨i0,hi,hz0,hz1,hz2⟩:=info_parts qox;go_enter func182,ntmps182;go_wp2_with (at_make;go_must (refine wpList_make_full _ rfl _ _ 27 rfl w.heap.size 24 i0 _ 1 underlying27 hi hz0 hz1 _ _ _ _ n rfl rfl rfl rfl (by rw[hz2];omega) (by unfold maxLen;omega) (Nat.le_refl _) ?_));intro w0 hown0 hg0
 have hO0:zi w0 w.heap.size (.slice (some ⟨w.heap.size,0,none⟩) n n) (replicate n []):=by
  refine zi.made ?_;have e:n*1=n:=Nat.mul_one n
  first|exact hown0|(rw[e]at hown0;exact hown0)|(simp at hown0;exact hown0)
 clear hown0;go_wp2_with fail
 go_loopg [11] (n+1) (λmm i wr=>∃k:Nat,k<=n/\mm=n+1-k/\i=.int .i64 k/\Hid (zi wr w.heap.size (.slice (some ⟨w.heap.size,0,none⟩) n n) (ll.take k++replicate (n-k) []))/\w.grownBy wr none)
 case atStart=>exact⟨0,Nat.zero_le _,rfl,rfl,hO0,hg0⟩
 case round=>
  clear hO0 hg0;obtain⟨k,hk,rfl,rfl,HO,hg⟩:=hrel;by_cases hlt:k<n
  . obtain⟨g,o,l,B,m,e,rfl,hx,c0,hrl,-,-,-⟩:=(h.new hg).at_ hlt;have hl2:l.length<=1000000000:=by have:=Hll.out l (mem_of_getElem? hx);omega
    have hset:Hid ((ll.take k++replicate (n-k) ([]:List Int)).set k l=ll.take (k+1)++replicate (n-(k+1)) []):=by
     show _=_;obtain⟨hk',hx'⟩:=List.getElem?_eq_some_iff.1 hx;have hsl:(ll.take k).length=k:=by rw[length_take];omega
     rw[set_append_right _ _ (by omega),hsl,Nat.sub_self,show n-k=n-(k+1)+1 by omega,replicate_succ,set_cons_zero,take_succ_eq_append_getElem hk',hx',append_assoc];rfl
    have kK:Hid (k<(ll.take k++replicate (n-k) ([]:List Int)).length):=by
     show _<_;rw[length_append,length_replicate,length_take,<-Hn.out];omega
    clear hx;go_wp2_with fail;refine(qik _ l _ hrl hl2).mono ?_;rintro e' w4 ⟨u,rfl,ho,hg4⟩;have hO4:=HO.out.new hg4;obtain⟨u0,c4,f4⟩:=hO4.cell kK.out;have hO5:=HO.out.jr hg4 hg.size kK.out ho;rw[hset.out]at hO5;have HO5:=Lib.hid hO5;have hg5:w.grownBy (w4.setCell ⟨w.heap.size,k,none⟩ u) none:=qbf (p:=⟨w.heap.size,k,none⟩) (qad hg hg4) (.inl (Nat.le_refl _)) _;obtain⟨A',n',c',rfl⟩:=ho.ri.val;clear hO4 hO5 HO ho;go_wp2;go_roundg (n+1-(k+1))
    case measure=>omega
    case rel=>exact⟨k+1,by omega,rfl,by go_num,HO5,hg5⟩
  . obtain rfl:k=n:=by omega
    have hO2:zi wr w.heap.size (.slice (some ⟨w.heap.size,0,none⟩) k k) ll:=by
     have:=HO.out;rw[Nat.sub_self,replicate_zero,append_nil,take_of_length_le (by rw[<-Hn.out];exact Nat.le_refl _)]at this;exact this
    clear HO;go_wp2;go_ret;exact⟨_,rfl,hO2,hg⟩
end
end Go.Proofs.YtacemdoejblgaaaGreatDoor

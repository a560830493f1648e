/- Part 2. Conditions: each statement's. -/
import Derived.Test.YtacemdoejblgaaaGreatDoorM01
namespace Go.Proofs.YtacemdoejblgaaaGreatDoor
set_option maxHeartbeats 6400000
set_option maxRecDepth 100000
section
theorem qj4{qa:List Node}{D:List Int}{k:Nat}(hk:k<=qa.length){x:Int}:x∈qce qa D k↔∃ i:Nat,i < k/\x=i/\x∉D/\∀ f∈qfd qa i,f∈D:=by
 induction k with
 | zero=>simp [qce]
 | succ k ih=>
   have hx:qa[k]?=some qa[k]:=List.getElem?_eq_getElem (by omega)
   have hr:qdj D (qa[k],k)=true↔(k:Int)∉D/\∀ f∈qfd qa k,f∈D:=by
     rw [qdk hx];unfold qdj;simp only [Bool.and_eq_true,Bool.not_eq_true',decide_eq_false_iff_not,List.all_eq_true,decide_eq_true_eq]
   rw [qet D hx];have ih:=ih (by omega);constructor
   . intro h;by_cases hc:qdj D (qa[k],k)=true
     . rw [if_pos hc] at h;rcases List.mem_append.1 h with h | h
       . obtain⟨i,h1,h2⟩:=ih.1 h;exact⟨i,by omega,h2⟩
       . obtain rfl:x=(k:Int):=by simpa using h
         exact⟨k,by omega,rfl,(hr.1 hc).1,(hr.1 hc).2⟩
     . rw [if_neg hc] at h;obtain⟨i,h1,h2⟩:=ih.1 h;exact⟨i,by omega,h2⟩
   . rintro⟨i,h1,rfl,h3,h4⟩;by_cases hik:i=k
     . subst hik;rw [if_pos (hr.2 ⟨h3,h4⟩)];simp
     . have:=ih.2 ⟨i,by omega,rfl,h3,h4⟩;split
       . exact List.mem_append_left _ this
       . exact this
theorem qti(qa:List Node)(D:List Int):∀ k,k<=qa.length->(qce qa D k).Nodup:=by
 intro k
 induction k with
 | zero=>intro _;simp [qce]
 | succ k ih=>
   intro hk;have hx:qa[k]?=some qa[k]:=List.getElem?_eq_getElem (by omega);rw [qet D hx];split
   . rw [List.nodup_append];refine⟨ih (by omega),by simp,fun a ha b hb e=>?_⟩;obtain rfl:b=(k:Int):=by simpa using hb
     obtain⟨i,h1,h2,_⟩:=(qj4 (by omega)).1 ha;omega
   . exact ih (by omega)
theorem qfy(qa:List Node)(D:List Int):(qao qa D).Nodup:=by
 unfold qao;split
 . exact qti qa D _ (Nat.le_refl _)
 . exact List.nodup_nil
theorem qc5{qa:List Node}(hv:qae qa=true){D:List Int}{x:Int}:x∈qao qa D↔∃ i:Nat,i < qa.length/\x=i/\x∉D/\∀ f∈qfd qa i,f∈D:=by
 unfold qao;rw [if_pos hv];exact qj4 (Nat.le_refl _)
def qen(qa:List Node)(D:List Int)(i:Nat):List Int:=if (i:Int)∈D then qcu qa i else []
def qm7(qa:List Node)(c:qj):Bool:=(List.range qa.length).all fun i=>decide (c.rows.getD i []=qen qa c.done i)
def qfz(qa:List Node)(c:qj):Bool:=decide (c.qb.flatten.length=(qao qa c.done).length) && (qao qa c.done).all fun x=>decide (c.qb.flatten.count x=1)
def qaw(qa:List Node)(c:qj):Bool:=
 qae qa && (decide (1<=c.qb.length) && decide (c.qb.length<=4)) && qbu qa c.done && decide (c.counts=qa8 qa c.done) && decide (c.rows.length=qa.length) && qfz qa c && qm7 qa c
theorem qrq{R:List Int}(hn:R.Nodup):∀ {F:List Int},F.length=R.length->(∀ x∈R,F.count x=1)->F.Perm R:=by
 induction R with
 | nil=>
   intro F hl _;obtain rfl:F=[]:=List.eq_nil_of_length_eq_zero (by simpa using hl);exact List.Perm.refl _
 | cons x R ih=>
   intro F hl hc;obtain⟨h1,h2⟩:=List.nodup_cons.1 hn;have hx:x∈F:=List.count_pos_iff.1 (by rw [hc x (by simp)];omega);have hp:=List.perm_cons_erase hx;refine hp.trans (List.Perm.cons x (ih h2 ?_ fun y hy=>?_))
   . rw [List.length_erase_of_mem hx,hl];simp
   . have hne:y≠x:=fun e=>h1 (e ▸ hy);rw [List.count_erase_of_ne hne];exact hc y (by simp [hy])
theorem qu2{qa:List Node}{c:qj}:qfz qa c=true↔c.qb.flatten.Perm (qao qa c.done):=by
 have hn:=qfy qa c.done;unfold qfz;simp only [Bool.and_eq_true,decide_eq_true_eq,List.all_eq_true];constructor
 . rintro⟨h1,h2⟩;exact qrq hn h1 h2
 . intro h;refine⟨h.length_eq,fun x hx=>?_⟩;rw [List.perm_iff_count.1 h x,hn.count,if_pos hx]
structure qo(qa:List Node)(c:qj):Prop where
 pv:qae qa=true
 d1:1<=c.qb.length
 d4:c.qb.length<=4
 order:qbu qa c.done=true
 counts:c.counts=lefts qa c.done
 rl:c.rows.length=qa.length
 dq:c.qb.flatten.Perm (qao qa c.done)
 rows:∀ i,i < qa.length->c.rows[i]?=some (qen qa c.done i)
theorem qbk{qa:List Node}{c:qj}:qaw qa c=true↔qo qa c:=by
 unfold qaw;simp only [Bool.and_eq_true,decide_eq_true_eq,qu2];constructor
 . rintro⟨⟨⟨⟨⟨⟨h1,h2,h3⟩,h4⟩,h5⟩,h6⟩,h7⟩,h8⟩;refine⟨h1,h2,h3,h4,by rw [h5,qg4 h1 h4],h6,h7,fun i hi=>?_⟩;unfold qm7 at h8;have:=List.all_eq_true.1 h8 i (List.mem_range.2 hi);rw [decide_eq_true_eq,List.getD_eq_getElem?_getD,List.getElem?_eq_getElem (by omega)] at this;rw [List.getElem?_eq_getElem (by omega)];exact congrArg some this
 . intro h;refine⟨⟨⟨⟨⟨⟨h.pv,h.d1,h.d4⟩,h.order⟩,by rw [qg4 h.pv h.order];exact h.counts⟩,h.rl⟩,h.dq⟩,?_⟩;unfold qm7;rw [List.all_eq_true];intro i hi;rw [decide_eq_true_eq,List.getD_eq_getElem?_getD,h.rows i (List.mem_range.1 hi)];rfl
def qbl(qa:List Node)(cs:List Int)(x:Int):List Int:=((List.range qa.length).filter fun i=>has qa i x && decide (cs.getD i 0=1)).map (fun i:Nat=>(i:Int))
theorem qm8{qa:List Node}{cs:List Int}{x y:Int}:y∈qbl qa cs x↔∃ i:Nat,i < qa.length/\y=i/\x∈qfd qa i/\cs.getD i 0=1:=by
 unfold qbl has;simp only [List.mem_map,List.mem_filter,List.mem_range,Bool.and_eq_true,decide_eq_true_eq];constructor
 . rintro⟨i,⟨h1,h2,h3⟩,rfl⟩;exact⟨i,h1,rfl,h2,h3⟩
 . rintro⟨i,h1,rfl,h2,h3⟩;exact⟨i,⟨h1,h2,h3⟩,rfl⟩
theorem qrr(qa:List Node)(cs:List Int)(x:Int):(qbl qa cs x).Nodup:=by
 unfold qbl;have h:=(List.nodup_range (n:=qa.length)).filter (fun i=>has qa i x && decide (cs.getD i 0=1));exact List.Pairwise.map _ (fun a b hab e=>hab (by omega)) h
theorem q0u{qa:List Node}(hv:qae qa=true){D:List Int}(ho:qbu qa D=true){x:Int}(hx:x∈qao qa D) :
   (qao qa (D++[x])).Perm ((qao qa D).erase x++qbl qa (lefts qa D) x):=by
 obtain⟨m,hm,rfl,hxD,hxf⟩:=(qc5 hv).1 hx;have hn:=qfy qa D
 have key:∀ i:Nat,i < qa.length->((m:Int)∈qfd qa i/\(lefts qa D).getD i 0=1↔(m:Int)∈qfd qa i/\∀ f∈qfd qa i,f∈D++[(m:Int)]):=by
   intro i hi;have e:(lefts qa D).getD i 0=(left qa D i:Int):=by rw [List.getD_eq_getElem?_getD,qkq D hi];rfl
   have h1:=qo7 hv hxD (Int.natCast_nonneg m) i;rw [e,<-q24 hv];constructor
   . rintro⟨h2,h3⟩;rw [if_pos (by unfold has;exact decide_eq_true h2)] at h1;exact⟨h2,by omega⟩
   . rintro⟨h2,h3⟩;rw [if_pos (by unfold has;exact decide_eq_true h2)] at h1;exact⟨h2,by omega⟩
 refine(List.perm_ext_iff_of_nodup (qfy _ _) ?_).2 fun y=>?_
 . rw [List.nodup_append];refine⟨hn.erase _,qrr _ _ _,fun a ha b hb e=>?_⟩;subst e;obtain⟨i,hi,rfl,h2,h3⟩:=qm8.1 hb;obtain⟨j,_,hj,h4,h5⟩:=(qc5 hv).1 (List.mem_of_mem_erase ha);obtain rfl:i=j:=by omega
   exact hxD (h5 _ h2)
 . rw [List.mem_append,hn.mem_erase_iff,qc5 hv,qc5 hv,qm8];constructor
   . rintro⟨i,hi,rfl,h1,h2⟩;have hne:(i:Int)≠m:=fun e=>h1 (by simp [e]);have hD:(i:Int)∉D:=fun e=>h1 (by simp [e]);by_cases hmf:(m:Int)∈qfd qa i
     . exact .inr ⟨i,hi,rfl,(key i hi).2 ⟨hmf,h2⟩⟩
     . refine .inl ⟨hne,i,hi,rfl,hD,fun f hf=>?_⟩;rcases List.mem_append.1 (h2 f hf) with h | h
       . exact h
       . obtain rfl:f=(m:Int):=by simpa using h
         exact absurd hf hmf
   . rintro(⟨hne,i,hi,rfl,h1,h2⟩ | ⟨i,hi,rfl,h⟩)
     . exact⟨i,hi,rfl,by simp [h1,hne],fun f hf=>by simp [h2 f hf]⟩
     . obtain⟨h1,h2⟩:=(key i hi).1 h;refine⟨i,hi,rfl,fun e=>?_,h2⟩;rcases List.mem_append.1 e with e | e
       ·
         exact hxD ((qic ho e).2.2 _ (by simpa using h1))
       . obtain rfl : i = m := by have e : (i : Int) = m := by simpa using e
                                  omega
         have:=qeh hv h1;omega
theorem qkr{L:List (List Int)}{w:Nat}(h:w < L.length)(d:List Int):(L.set w d).flatten.Perm (d++(L.eraseIdx w).flatten):=by
 induction L generalizing w with
 | nil=>simp at h
 | cons a L ih=>
   cases w with
   | zero=>simp
   | succ w=>
     simp only [List.set_cons_succ,List.flatten_cons,List.eraseIdx_cons_succ];have:=ih (w:=w) (by simpa using h);refine(List.Perm.append_left a this).trans ?_;rw [<-List.append_assoc,<-List.append_assoc];exact List.Perm.append_right _ List.perm_append_comm
theorem qks{L:List (List Int)}{w:Nat}{d:List Int}(h:L[w]?=some d):L.flatten.Perm (d++(L.eraseIdx w).flatten):=by
 obtain⟨hw,rfl⟩:=List.getElem?_eq_some_iff.1 h;have:=qkr hw L[w]
 rwa [List.set_getElem_self] at this
def qft(qa:List Node)(c:qj)(w:Nat)(x:Int):qj:=
 { qb:=c.qb.set w (c.qb.getD w []++qbl qa c.counts x),counts:=qbi qa c.counts x,done:=c.done++[x],rows:=c.rows.set x.toNat (qcu qa x.toNat) }
theorem qu3{qa:List Node}{c:qj}(hc:qo qa c){L:List (List Int)}{w:Nat}{x:Int}(hx:x∈qao qa c.done)(hl:L.length=c.qb.length)(hw:w < c.qb.length)(hp:(x::L.flatten).Perm c.qb.flatten) :
   qo qa (qft qa { c with qb:=L } w x):=by
 obtain⟨m,hm,rfl,hxD,hxf⟩:=(qc5 hc.pv).1 hx;have hwL:w < L.length:=by omega
 have hstep:qe3 qa c.done (m:Int)=true:=qd8.2 ⟨Int.natCast_nonneg m,by omega,hxD,by simpa using hxf⟩;refine⟨hc.pv,?_,?_,?_,?_,?_,?_,?_⟩
 . show 1<=(L.set w _).length;rw [List.length_set,hl];exact hc.d1
 . show (L.set w _).length<=4;rw [List.length_set,hl];exact hc.d4
 . show qbu qa (c.done++[(m:Int)])=true;rw [qm5,hc.order,hstep];rfl
 . show qbi qa c.counts (m:Int)=lefts qa (c.done++[(m:Int)]);rw [hc.counts];exact qi6 hc.pv hxD (Int.natCast_nonneg m)
 . show (c.rows.set _ _).length=qa.length;rw [List.length_set];exact hc.rl
 . show (L.set w (L.getD w []++qbl qa c.counts (m:Int))).flatten.Perm (qao qa (c.done++[(m:Int)]));have h1:=q0u hc.pv hc.order hx;rw [<-hc.counts] at h1;refine List.Perm.trans ?_ h1.symm
   have hR:(L.flatten).Perm ((qao qa c.done).erase (m:Int)):=by
     have h2:=(hp.trans hc.dq);have h3:=List.perm_cons_erase hx;exact List.Perm.cons_inv (h2.trans h3)
   have hg:L[w]?=some (L.getD w []):=by rw [List.getD_eq_getElem?_getD,List.getElem?_eq_getElem hwL];rfl
   have h4:=qkr hwL (L.getD w []++qbl qa c.counts (m:Int));have h5:=qks hg;refine h4.trans ?_;rw [List.append_assoc];refine(List.Perm.append_left _ List.perm_append_comm).trans ?_;rw [<-List.append_assoc];exact List.Perm.append_right _ (h5.symm.trans hR)
 . intro i hi;show (c.rows.set (m:Int).toNat (qcu qa (m:Int).toNat))[i]?=some (qen qa (c.done++[(m:Int)]) i);rw [Int.toNat_natCast];by_cases him:i=m
   . subst him;rw [List.getElem?_set_self (by rw [hc.rl];exact hi)];unfold qen;rw [if_pos (by simp)]
   . rw [List.getElem?_set_ne (fun e=>him e.symm),hc.rows i hi];unfold qen;have:(i:Int)≠m:=by omega
     by_cases hD:(i:Int)∈c.done
     . rw [if_pos hD,if_pos (by simp [hD])]
     . rw [if_neg hD,if_neg (by simp [hD,this])]
def qa9(c:qj)(w:Int):Bool:=decide (0<=w) && decide (w < c.qb.length)
def qci(qa:List Node)(c:qj)(w:Int):Option qj:=
 if qaw qa c && qa9 c w then
   (match (c.qb.getD w.toNat []).getLast? with
   | none=>none
   | some x=>some (qft qa { c with qb:=c.qb.set w.toNat (c.qb.getD w.toNat []).dropLast } w.toNat x))
 else none
def qay(qa:List Node)(c:qj)(w f:Int):Option qj:=
 if qaw qa c && qa9 c w && qa9 c f && !decide (w=f) && decide (c.qb.getD w.toNat []=[]) then
   (match c.qb.getD f.toNat [] with
   | []=>none
   | x::r=>some (qft qa { c with qb:=c.qb.set f.toNat r } w.toNat x))
 else none
def qbw(qa:List Node)(c:qj)(w:Int):Int:=
 if qaw qa c && qa9 c w then
   (match ((List.range c.qb.length).map (fun s=>(w.toNat+s) % c.qb.length)).find? (fun i=>!decide (c.qb.getD i []=[])) with
   | some i=>(i:Int)
   | none=>-1)
 else -1
def qba(qa:List Node)(c:qj)(w:Int):Option qj:=
 if qbw qa c w=-1 then none else if qbw qa c w=w then qci qa c w else qay qa c w (qbw qa c w)
theorem qbh{c:qj}{w:Int}:qa9 c w=true↔0<=w/\w < c.qb.length:=by
 unfold qa9;simp
theorem getD_some{L:List (List Int)}{w:Nat}(h:w < L.length):L[w]?=some (L.getD w []):=by rw [List.getD_eq_getElem?_getD,List.getElem?_eq_getElem h];rfl
theorem qu4{qa:List Node}{c c':qj}{w:Int}(h:qci qa c w=some c') :
   qo qa c/\∃ (k:Nat) (r:List Int) (x:Int),w=k/\k < c.qb.length/\c.qb[k]?=some (r++[x])/\x∈qao qa c.done/\c'=qft qa { c with qb:=c.qb.set k r } k x/\qo qa c':=by
 unfold qci at h;split at h
 . rename_i hc;rw [Bool.and_eq_true] at hc;obtain⟨hc,hw⟩:=hc;obtain⟨h0,h1⟩:=qbh.1 hw;obtain⟨k,rfl⟩:=Int.eq_ofNat_of_zero_le h0;have hk:k < c.qb.length:=by omega
   have H:=qbk.1 hc;simp only [Int.toNat_natCast] at h;have hg:=getD_some hk;generalize c.qb.getD k []=d at h hg;split at h
   . cases h
   . rename_i x hx;obtain⟨r,rfl⟩:=List.getLast?_eq_some_iff.1 hx;injection h with h;rw [List.dropLast_concat] at h;have hf:=qks hg;have hxr:x∈qao qa c.done:=(H.dq.mem_iff).1 (hf.mem_iff.2 (by simp))
     have hp:(x::(c.qb.set k r).flatten).Perm c.qb.flatten:=by
       refine List.Perm.trans ?_ hf.symm;refine(List.Perm.cons x (qkr hk r)).trans ?_;rw [List.append_assoc];exact(List.perm_middle (a:=x)).symm
     have hok:=qu3 H (L:=c.qb.set k r) hxr (by rw [List.length_set]) hk hp;exact⟨H,k,r,x,rfl,hk,hg,hxr,h.symm,h ▸ hok⟩
 . cases h
theorem qrs{qa:List Node}{c c':qj}{w f:Int}(h:qay qa c w f=some c') :
   qo qa c/\∃ (k m:Nat) (r:List Int) (x:Int),w=k/\f=m/\k < c.qb.length/\m < c.qb.length/\k≠m/\c.qb[k]?=some []/\c.qb[m]?=some (x::r)/\x∈qao qa c.done/\c'=qft qa { c with qb:=c.qb.set m r } k x/\qo qa c':=by
 unfold qay at h;split at h
 . rename_i hc;simp only [Bool.and_eq_true,Bool.not_eq_true',decide_eq_false_iff_not,decide_eq_true_eq] at hc;obtain⟨⟨⟨⟨hc,hw⟩,hf⟩,hne⟩,he⟩:=hc;obtain⟨h0,h1⟩:=qbh.1 hw;obtain⟨h2,h3⟩:=qbh.1 hf;obtain⟨k,rfl⟩:=Int.eq_ofNat_of_zero_le h0;obtain⟨m,rfl⟩:=Int.eq_ofNat_of_zero_le h2;have hk:k < c.qb.length:=by omega
   have hm:m < c.qb.length:=by omega
   have H:=qbk.1 hc;simp only [Int.toNat_natCast] at h he;have hg:=getD_some hm;have hgk:=getD_some hk;rw [he] at hgk;generalize c.qb.getD m []=d at h hg;split at h
   . cases h
   . rename_i x r;injection h with h;have hfl:=qks hg;have hxr:x∈qao qa c.done:=(H.dq.mem_iff).1 (hfl.mem_iff.2 (by simp))
     have hp:(x::(c.qb.set m r).flatten).Perm c.qb.flatten:=by
       refine List.Perm.trans ?_ hfl.symm;exact List.Perm.cons x (qkr hm r)
     have hok:=qu3 H (L:=c.qb.set m r) hxr (by rw [List.length_set]) hk hp;exact⟨H,k,m,r,x,rfl,rfl,hk,hm,by omega,hgk,hg,hxr,h.symm,h ▸ hok⟩
 . cases h
theorem q0v{qa:List Node}(hv:qae qa=true){D:List Int}{i:Nat}(hi:i < qa.length)(hD:(i:Int)∉D):∃ x,x∈qao qa D:=by
 induction i using Nat.strongRecOn with
 | ind i ih=>
   by_cases h:∀ f∈qfd qa i,f∈D
   . exact⟨(i:Int),(qc5 hv).2 ⟨i,hi,rfl,hD,h⟩⟩
   . obtain⟨f,hf⟩:=Classical.not_forall.1 h;obtain⟨hf1,hf2⟩:=Classical.not_imp.1 hf;obtain⟨h0,h1,_⟩:=qeh hv hf1;obtain⟨j,rfl⟩:=Int.eq_ofNat_of_zero_le h0;exact ih j (by omega) (by omega) hf2
theorem qtj:∀ {l m:List Int},l.Nodup->(∀ y∈l,y∈m)->l.length<=m.length:=by
 intro l
 induction l with
 | nil=>intro m _ _;simp
 | cons a l ih=>
   intro m hl hm;obtain⟨h1,h2⟩:=List.nodup_cons.1 hl;have ha:=hm a (by simp)
   have:=ih (m:=m.erase a) h2 (fun y hy=>by
     have hne:y≠a:=fun e=>h1 (e ▸ hy);exact(List.mem_erase_of_ne hne).2 (hm y (by simp [hy])))
   rw [List.length_erase_of_mem ha] at this;have hp:0 < m.length:=List.length_pos_of_mem ha;simp only [List.length_cons];omega
theorem qg5{qa:List Node}{c:qj}(h:qo qa c):c.done.length<=qa.length:=by
 have hn:=qo8 h.order
 have hs:∀ y∈c.done,y∈(List.range qa.length).map (fun i:Nat=>(i:Int)):=fun y hy=>by
   obtain⟨h0,h1,_⟩:=qic h.order hy;obtain⟨j,rfl⟩:=Int.eq_ofNat_of_zero_le h0;exact List.mem_map.2 ⟨j,List.mem_range.2 (by omega),rfl⟩
 have:=qtj hn hs;simpa using this
theorem qrt(qa:List Node)(D:List Int):∀ k,k<=qa.length->(qce qa D k).Pairwise (·<=·):=by
 intro k
 induction k with
 | zero=>intro _;simp [qce]
 | succ k ih=>
   intro hk;have hx:qa[k]?=some qa[k]:=List.getElem?_eq_getElem (by omega);rw [qet D hx];split
   . rw [List.pairwise_append];refine⟨ih (by omega),by simp,fun a ha b hb=>?_⟩;obtain rfl:b=(k:Int):=by simpa using hb
     obtain⟨i,h1,h2,_⟩:=(qj4 (by omega)).1 ha;omega
   . exact ih (by omega)
theorem qru(qa:List Node)(D:List Int):(qao qa D).Pairwise (·<=·):=by
 unfold qao;split
 . exact qrt qa D _ (Nat.le_refl _)
 . exact List.Pairwise.nil
theorem qsl{qa:List Node}{D F:List Int}:qh F=qao qa D↔F.Perm (qao qa D):=by
 constructor
 . intro h;rw [<-h];exact(qgs F).symm
 . intro h;exact(q05 h.symm (qru qa D)).symm
theorem qgf(qa:List Node)(D:List Int):(qao qa D).length<=qa.length:=by
 unfold qao;split
 . exact qj3 qa D _
 . simp
def qei(qa:List Node)(cs:List Int)(x:Int):Bool:=(List.range qa.length).all fun i=>decide (0<=cs.getD i 0) && decide (cs.getD i 0<=((qb2 qa i).length:Int)) && !(has qa i x && decide (cs.getD i 0=0))
def qb1(qa:List Node)(cs:List Int)(x:Int):Option (List Int × List Int):=
 if qae qa && (decide (0<=x) && decide (x < qa.length)) && decide (cs.length=qa.length) && qei qa cs x then some (qbi qa cs x,qbl qa cs x) else none
theorem qkt{qa:List Node}(hv:qae qa=true){D:List Int}{x:Int}(h0:0<=x)(h1:x < qa.length)(hx:x∉D):qb1 qa (lefts qa D) x=some (lefts qa (D++[x]),qbl qa (lefts qa D) x):=by
 unfold qb1;rw [if_pos,qi6 hv hx h0];simp only [Bool.and_eq_true,decide_eq_true_eq];refine⟨⟨⟨hv,h0,h1⟩,qfe qa D⟩,?_⟩;unfold qei;rw [List.all_eq_true];intro i hi;have hi:=List.mem_range.1 hi;have e:(lefts qa D).getD i 0=(left qa D i:Int):=by rw [List.getD_eq_getElem?_getD,qkq D hi];rfl
 have h2:=q23 qa D i;have h3:=qo7 hv hx h0 i;rw [e];simp only [Bool.and_eq_true,decide_eq_true_eq,Bool.not_eq_true',Bool.and_eq_false_iff,decide_eq_false_iff_not];refine⟨⟨by omega,by omega⟩,?_⟩;by_cases hh:has qa i x=true
 . rw [if_pos hh] at h3;exact .inr (by omega)
 . exact .inl (by simpa using hh)
theorem qo.done{qa:List Node}{c:qj}(h:qo qa c){x:Int}(hx:x∈qao qa c.done):qb1 qa c.counts x=some (qbi qa c.counts x,qbl qa c.counts x):=by
 obtain⟨m,hm,rfl,hxD,hxf⟩:=(qc5 h.pv).1 hx;rw [h.counts,qkt h.pv (Int.natCast_nonneg m) (by omega) hxD,qi6 h.pv hxD (Int.natCast_nonneg m)]
theorem qxp{qa:List Node}{c:qj}(h:qo qa c){k:Nat}(hk:k < c.qb.length):qbw qa c (k:Int)=-1/\(∀ i,i < c.qb.length->c.qb.getD i []=[]) ∨
   ∃ f:Nat,qbw qa c (k:Int)=f/\f < c.qb.length/\c.qb.getD f []≠[]/\(f≠k->c.qb.getD k []=[]):=by
 have hn:0 < c.qb.length:=by omega
 unfold qbw;rw [qbk.2 h,qbh.2 ⟨Int.natCast_nonneg k,by omega⟩];simp only [Bool.and_self,if_true,Int.toNat_natCast];generalize hl:(List.range c.qb.length).map (fun s=>(k+s) % c.qb.length)=l
 have hmem:∀ i,i∈l->i < c.qb.length:=by
   intro i hi;rw [<-hl] at hi;obtain⟨s,_,rfl⟩:=List.mem_map.1 hi;exact Nat.mod_lt _ hn
 have hall:∀ i,i < c.qb.length->i∈l:=by
   intro i hi;rw [<-hl];refine List.mem_map.2 ⟨(i+(c.qb.length - k)) % c.qb.length,List.mem_range.2 (Nat.mod_lt _ hn),?_⟩;rw [Nat.add_mod,Nat.mod_mod,<-Nat.add_mod];have:k+(i+(c.qb.length - k))=i+c.qb.length:=by omega
   rw [this,Nat.add_mod_right,Nat.mod_eq_of_lt hi]
 have qaD:∃ t,l=k::t:=by
   obtain⟨m,hm⟩:∃ m,c.qb.length=m+1:=⟨c.qb.length - 1,by omega⟩;rw [<-hl,hm,List.range_succ_eq_map];exact⟨_,by simp only [List.map_cons,Nat.add_zero];rw [Nat.mod_eq_of_lt (by omega)]⟩
 cases hf:l.find? (fun i=>!decide (c.qb.getD i []=[])) with
 | none=>
   refine .inl ⟨rfl,fun i hi=>?_⟩;have:=List.find?_eq_none.1 hf i (hall i hi);simpa using this
 | some f=>
   refine .inr ⟨f,rfl,hmem f (List.mem_of_find?_eq_some hf),?_,fun hne=>?_⟩
   . have:=List.find?_some hf;simpa using this
   . obtain⟨t,rfl⟩:=qaD;by_cases he:c.qb.getD k []=[]
     . exact he
     . rw [List.find?_cons_of_pos (by simpa using he)] at hf;injection hf with hf;exact absurd hf.symm hne
theorem q25{qa:List Node}{c:qj}(_h:qo qa c)(hl:c.done.length < qa.length):∃ i:Nat,i < qa.length/\(i:Int)∉c.done:=by
 by_cases hc:∃ i:Nat,i < qa.length/\(i:Int)∉c.done
 . exact hc
 . exfalso
   have hs:∀ y∈(List.range qa.length).map (fun i:Nat=>(i:Int)),y∈c.done:=fun y hy=>by
     obtain⟨i,hi,rfl⟩:=List.mem_map.1 hy;by_cases hd:(i:Int)∈c.done
     . exact hd
     . exact absurd ⟨i,List.mem_range.1 hi,hd⟩ hc
   have hn:((List.range qa.length).map (fun i:Nat=>(i:Int))).Nodup:=List.Pairwise.map _ (fun a b hab e=>hab (by omega)) (List.nodup_range (n:=qa.length));have:=qtj hn hs;simp at this;omega
theorem qtk{qa:List Node}{c:qj}(h:qo qa c)(hl:c.done.length < qa.length){k:Nat}(hk:k < c.qb.length):∃ c',qba qa c (k:Int)=some c':=by
 obtain⟨i,hi,hd⟩:=q25 h hl;obtain⟨x,hx⟩:=q0v h.pv hi hd;have hxf:x∈c.qb.flatten:=h.dq.mem_iff.2 hx;obtain⟨d,hd1,hd2⟩:=List.mem_flatten.1 hxf;obtain⟨j,hj,rfl⟩:=List.mem_iff_getElem.1 hd1
 have hjd:c.qb.getD j []≠[]:=by
   rw [List.getD_eq_getElem?_getD,List.getElem?_eq_getElem hj];intro e;simp only [Option.getD_some] at e;rw [e] at hd2;cases hd2
 have hv:=qbk.2 h;unfold qba;rcases qxp h hk with ⟨_,h2⟩ | ⟨f,h1,h2,h3,h4⟩
 . exact absurd (h2 j hj) hjd
 . rw [h1,if_neg (by omega)];by_cases hfk:f=k
   . subst hfk;rw [if_pos rfl];unfold qci;rw [hv,qbh.2 ⟨Int.natCast_nonneg f,by omega⟩];simp only [Bool.and_self,if_true,Int.toNat_natCast];cases hg:(c.qb.getD f []).getLast? with
     | none=>exact absurd (List.getLast?_eq_none_iff.1 hg) h3
     | some y=>exact⟨_,rfl⟩
   . rw [if_neg (by omega)];unfold qay;rw [hv,qbh.2 ⟨Int.natCast_nonneg k,by omega⟩,qbh.2 ⟨Int.natCast_nonneg f,by omega⟩];have hne:¬ (k:Int)=(f:Int):=by omega
     simp only [Int.toNat_natCast,Bool.and_self,h4 hfk,decide_true,hne,decide_false,Bool.not_false,if_true];cases hg:c.qb.getD f [] with
     | nil=>exact absurd hg h3
     | cons y r=>exact⟨_,rfl⟩
theorem qew{qa:List Node}{c c':qj}{w:Int}(h:qba qa c w=some c'):qo qa c/\qo qa c'/\c'.qb.length=c.qb.length/\∃ x,x∈qao qa c.done/\c'.done=c.done++[x]/\c'.rows=c.rows.set x.toNat (qcu qa x.toNat):=by
 unfold qba at h;split at h
 . cases h
 split at h
 . obtain⟨h1,k,r,x,rfl,hk,hd,hx,rfl,h2⟩:=qu4 h;exact⟨h1,h2,by show (List.set _ _ _).length=_;rw [List.length_set];show (List.set _ _ _).length=_;rw [List.length_set],x,hx,rfl,rfl⟩
 . obtain⟨h1,k,m,r,x,rfl,-,hk,hm,hkm,hd,hd2,hx,rfl,h2⟩:=qrs h;exact⟨h1,h2,by show (List.set _ _ _).length=_;rw [List.length_set];show (List.set _ _ _).length=_;rw [List.length_set],x,hx,rfl,rfl⟩
def dealt(qa:List Node)(n k:Nat):List (List Int):=((qao qa []).take k).zipIdx.foldl (fun L x=>L.set (x.2 % n) (L.getD (x.2 % n) []++[x.1])) (List.replicate n [])
def qbm(qa:List Node)(workers:Int):Option qj:=
 if qae qa && (decide (1<=workers) && decide (workers<=4)) then
   some { qb:=dealt qa workers.toNat (qao qa []).length,counts:=qa6 qa,done:=[],rows:=List.replicate qa.length [] }
 else none
theorem qpa(n:Nat)(hn:0 < n)(R:List Int):∀ k,k<=R.length->((R.take k).zipIdx.foldl (fun L x=>L.set (x.2 % n) (L.getD (x.2 % n) []++[x.1])) (List.replicate n [])).length=n /\
   ((R.take k).zipIdx.foldl (fun L x=>L.set (x.2 % n) (L.getD (x.2 % n) []++[x.1])) (List.replicate n [])).flatten.Perm (R.take k):=by
 intro k
 induction k with
 | zero=>
   intro _;refine⟨by simp,?_⟩;have:(List.replicate n ([]:List Int)).flatten=[]:=by simp
   simp [this]
 | succ k ih=>
   intro hk;obtain⟨h1,h2⟩:=ih (by omega);rw [List.take_succ_eq_append_getElem (by omega),List.zipIdx_append,List.foldl_append];have hl:(R.take k).length=k:=by rw [List.length_take];omega
   generalize (R.take k).zipIdx.foldl (fun L x=>L.set (x.2 % n) (L.getD (x.2 % n) []++[x.1])) (List.replicate n [])=L at h1 h2 |-;rw [hl];simp only [List.zipIdx_cons,List.zipIdx_nil,List.foldl_cons,List.foldl_nil,Nat.zero_add];refine⟨by rw [List.length_set];exact h1,?_⟩;have hm:k % n < L.length:=by rw [h1];exact Nat.mod_lt _ hn
   have p1:=qkr hm (L.getD (k % n) []++[R[k]]);have p2:=qks (getD_some hm);refine p1.trans ?_;rw [List.append_assoc];refine(List.Perm.append_left _ List.perm_append_comm).trans ?_;rw [<-List.append_assoc];exact List.Perm.append_right _ (p2.symm.trans h2)
theorem qgr{qa:List Node}{n:Int}{c:qj}(h:qbm qa n=some c):qo qa c/\(c.qb.length:Int)=n:=by
 unfold qbm at h;split at h
 . rename_i hc;simp only [Bool.and_eq_true,decide_eq_true_eq] at hc;obtain⟨hv,h1,h4⟩:=hc;injection h with h;obtain⟨m,rfl⟩:=Int.eq_ofNat_of_zero_le (show 0<=n by omega);obtain⟨g1,g2⟩:=qpa m (by omega) (qao qa []) _ (Nat.le_refl _);rw [List.take_length] at g2;have e:dealt qa m (qao qa []).length=((qao qa []).take (qao qa []).length).zipIdx.foldl (fun L x=>L.set (x.2 % m) (L.getD (x.2 % m) []++[x.1])) (List.replicate m []):=rfl;rw [<-List.take_length (l:=qao qa [])] at g2;rw [List.take_length] at g2;subst h;refine⟨⟨hv,?_,?_,rfl,(qo9 qa).symm,by simp,?_,fun i hi=>?_⟩,?_⟩
   . show 1<=(dealt qa _ _).length;rw [Int.toNat_natCast,e,g1];omega
   . show (dealt qa _ _).length<=4;rw [Int.toNat_natCast,e,g1];omega
   . show (dealt qa _ _).flatten.Perm _;rw [Int.toNat_natCast,e,List.take_length];exact g2
   . show (List.replicate qa.length [])[i]?=_;rw [List.getElem?_replicate,if_pos hi];rfl
   . show ((dealt qa _ _).length:Int)=_;rw [Int.toNat_natCast,e,g1]
 . cases h
theorem q0w{qa:List Node}{c:qj}(h:qo qa c){m:Nat}{nd:Node}(hx:qa[m]?=some nd)(hr:(m:Int)∈qao qa c.done):qy nd c.rows=qcu qa m:=by
 obtain⟨m',hm,e,hxD,hxf⟩:=(qc5 h.pv).1 hr;obtain rfl:m=m':=by omega
 rw [qmd hx];unfold qy;by_cases hk:nd.kind=0
 . rw [if_pos hk,if_pos hk]
 . rw [if_neg hk,if_neg hk]
   have e:nd.frm.map (fun i=>c.rows.getD i.toNat [])=nd.frm.map (fun i=>(qbp qa m).getD i.toNat []):=by
     refine List.map_congr_left fun f hf=>?_;rw [<-qdk hx] at hf;have hfD:=hxf f hf;obtain⟨h0,h1,_⟩:=qeh h.pv hf;obtain⟨j,rfl⟩:=Int.eq_ofNat_of_zero_le h0;rw [Int.toNat_natCast];have h2:=h.rows j (by omega);unfold qen at h2;rw [if_pos hfD] at h2;rw [List.getD_eq_getElem?_getD,h2];show qcu qa j=_;unfold qcu values;exact qhj qa (by omega) (by omega)
   rw [e]
def qa3(d:List Int):Bool:=decide (d.length<=10) && d.all (fun x=>decide (0<=x) && decide (x<=9)) && decide d.Nodup
theorem qb0{d:List Int}:qa3 d=true↔d.length<=10/\(∀ x∈d,0<=x/\x<=9)/\d.Nodup:=by
 unfold qa3;simp only [Bool.and_eq_true,decide_eq_true_eq,List.all_eq_true,and_assoc]
theorem qo.xu{qa:List Node}{c:qj}(h:qo qa c){k:Nat}{d:List Int}(hd:c.qb[k]?=some d):qa3 d=true:=by
 have hf:=(qks hd).symm.trans h.dq;have zC:=qal h.pv;have hlen:=hf.length_eq;rw [List.length_append] at hlen;have hrl:=qgf qa c.done;refine qb0.2 ⟨by omega,fun x hx=>?_,?_⟩
 . obtain⟨i,hi,rfl,_⟩:=(qc5 h.pv).1 (hf.mem_iff.1 (List.mem_append_left _ hx));omega
 . have:=(hf.nodup_iff).2 (qfy qa c.done);exact(List.nodup_append.1 this).1
def qff(qa:List Node)(cs:List Int)(x:Int)(k:Nat):List Int:=cs.zipIdx.map fun y:Int × Nat=>if has qa y.2 x && decide (y.2 < k) then y.1 - 1 else y.1
def qcp(qa:List Node)(cs:List Int)(x:Int)(k:Nat):List Int:=((List.range k).filter fun i=>has qa i x && decide (cs.getD i 0=1)).map (fun i:Nat=>(i:Int))
theorem qxq(qa:List Node)(cs:List Int)(x:Int):qff qa cs x 0=cs:=by
 apply List.ext_getElem?;intro i;unfold qff;rw [List.getElem?_map,List.getElem?_zipIdx];cases cs[i]? <;> simp
theorem q0x{qa:List Node}{cs:List Int}(x:Int){k:Nat}(h:cs.length<=k):qff qa cs x k=qbi qa cs x:=by
 apply List.ext_getElem?;intro i;unfold qff qbi;rw [List.getElem?_map,List.getElem?_map,List.getElem?_zipIdx];by_cases hi:i < cs.length
 . rw [List.getElem?_eq_getElem hi];have:i < k:=by omega
   simp [this]
 . rw [List.getElem?_eq_none (by omega)];rfl
theorem qf9(qa:List Node)(cs:List Int)(x:Int)(k:Nat):(qff qa cs x k).length=cs.length:=by unfold qff;rw [List.length_map,List.length_zipIdx]
theorem qga{qa:List Node}{cs:List Int}{x:Int}{i k:Nat}{c:Int}(h:cs[i]?=some c):(qff qa cs x k)[i]?=some (if has qa i x && decide (i < k) then c - 1 else c):=by
 unfold qff;rw [List.getElem?_map,List.getElem?_zipIdx,h];simp
theorem qxr{qa:List Node}{cs:List Int}{x:Int}{k:Nat}{c:Int}(h:cs[k]?=some c)(hh:has qa k x=true):qff qa cs x (k+1)=(qff qa cs x k).set k (c - 1):=by
 have hk:=(List.getElem?_eq_some_iff.1 h).1;apply List.ext_getElem?;intro i;by_cases hi:i < cs.length
 . have hc:cs[i]?=some cs[i]:=List.getElem?_eq_getElem hi;by_cases hik:i=k
   . subst hik;obtain rfl:c=cs[i]:=by rw [hc] at h;exact(Option.some.inj h).symm
     rw [qga hc,List.getElem?_set_self (by rw [qf9];exact hi),hh];simp
   . rw [qga hc,List.getElem?_set_ne (fun e=>hik e.symm),qga hc];have:(i < k+1)↔(i < k):=by omega
     simp only [this]
 . rw [List.getElem?_eq_none (by rw [qf9];omega),List.getElem?_eq_none (by rw [List.length_set,qf9];omega)]
theorem qxs{qa:List Node}{cs:List Int}{x:Int}{k:Nat}(hh:has qa k x=false):qff qa cs x (k+1)=qff qa cs x k:=by
 apply List.ext_getElem?;intro i;by_cases hi:i < cs.length
 . have hc:cs[i]?=some cs[i]:=List.getElem?_eq_getElem hi;rw [qga hc,qga hc];by_cases hik:i=k
   . subst hik;simp [hh]
   . have:(i < k+1)↔(i < k):=by omega
     simp only [this]
 . rw [List.getElem?_eq_none (by rw [qf9];omega),List.getElem?_eq_none (by rw [qf9];omega)]
theorem qid(qa:List Node)(cs:List Int)(x:Int)(k:Nat):qcp qa cs x (k+1)=qcp qa cs x k++(if has qa k x && decide (cs.getD k 0=1) then [(k:Int)] else []):=by
 unfold qcp;rw [List.range_succ,List.filter_append,List.map_append];congr 1;by_cases h:(has qa k x && decide (cs.getD k 0=1))=true
 . rw [if_pos h,List.filter_cons,if_pos h];rfl
 . rw [if_neg h,List.filter_cons,if_neg h];rfl
def qf0(qa:List Node)(k:Nat)(i:Nat):Int:=((qb2 qa i).countP (fun f:Nat=>decide (f < k)):Nat)
def qgg(qa:List Node)(k t:Nat)(i:Nat):Int:=qf0 qa k i+if i∈(qb3 qa k).take t then 1 else 0
def xw(f:Nat->Int)(u:Nat)(x:Int):Nat->Int:=fun i=>if i=u then x else f i
theorem q00(qa:List Node):qf0 qa 0=fun _=>0:=by
 funext i;unfold qf0;rw [List.countP_eq_zero.2 (by simp)];rfl
theorem qpb(qa:List Node)(k:Nat):qgg qa k 0=qf0 qa k:=by
 funext i;unfold qgg;simp
theorem qpc{l:List Nat}(hn:l.Nodup)(k:Nat):l.countP (fun f=>decide (f < k+1))=l.countP (fun f=>decide (f < k))+if k∈l then 1 else 0:=by
 induction l with
 | nil=>simp
 | cons a r ih=>
   obtain⟨h1,h2⟩:=List.nodup_cons.1 hn;have ih:=ih h2;rw [List.countP_cons,List.countP_cons,ih];by_cases e:a=k
   . subst e;rw [if_neg h1];simp
   . have hm:(k∈a::r)↔k∈r:=⟨fun h=>by rcases List.mem_cons.1 h with h | h;exact absurd h.symm e;exact h,List.mem_cons_of_mem _⟩;have hd:decide (a < k+1)=decide (a < k):=by rw [decide_eq_decide];omega
     simp only [hm,hd];omega
theorem q01{qa:List Node}{k t:Nat}(hv:qae qa=true)(ht:(qb3 qa k).length<=t):qgg qa k t=qf0 qa (k+1):=by
 funext i;unfold qgg qf0;rw [List.take_of_length_le ht,qpc (qk0 qa i)];by_cases h:k∈qb2 qa i
 . have hi:i < qa.length:=by
     have:=qeh hv ((qge hv).1 h);exact this.2.2
   rw [if_pos (qgi.2 ⟨hi,h⟩),if_pos h];omega
 . rw [if_neg (fun e=>h (qgi.1 e).2),if_neg h];omega
theorem qxt{qa:List Node}{k t u:Nat}(hu:(qb3 qa k)[t]?=some u):qgg qa k (t+1)=xw (qgg qa k t) u (qgg qa k t u+1):=by
 obtain⟨ht,rfl⟩:=List.getElem?_eq_some_iff.1 hu;funext i
 have hno:(qb3 qa k)[t]∉(qb3 qa k).take t:=by
   intro h;obtain⟨j,hj,e⟩:=List.mem_take_iff_getElem.1 h;have:=(List.getElem_inj (qk1 qa k)).1 e;omega
 unfold xw qgg;rw [List.take_succ_eq_append_getElem ht];by_cases e:i=(qb3 qa k)[t]
 . rw [if_pos e,if_pos (by rw [e];exact List.mem_append_right _ (List.mem_singleton.2 rfl)),if_neg hno,e];omega
 . rw [if_neg e];have:(i∈(qb3 qa k).take t++[(qb3 qa k)[t]])↔i∈(qb3 qa k).take t:=by rw [List.mem_append,List.mem_singleton,or_iff_left e]
   simp only [this]
theorem qu7{qa:List Node}(hv:qae qa=true)(k t i:Nat):0<=qgg qa k t i/\qgg qa k t i<=3:=by
 have h2:(qb2 qa i).length<=2:=by
   rw [qgd];refine Nat.le_trans (qpj _) ?_;by_cases hi:i < qa.length
   . rw [qdk (List.getElem?_eq_getElem hi)];exact(qa4 hv (List.getElem?_eq_getElem hi)).2.1
   . rw [qu1 (by omega)];simp
 have h3:(qb2 qa i).countP (fun f:Nat=>decide (f < k))<=(qb2 qa i).length:=List.countP_le_length;unfold qgg qf0;split <;> omega
theorem qpd{qa:List Node}(hv:qae qa=true)(i:Nat):qf0 qa qa.length i=((qb2 qa i).length:Int):=by
 unfold qf0;rw [List.countP_eq_length.2];intro f hf;have:=qeh hv ((qge hv).1 hf);simp only [decide_eq_true_eq];omega
theorem q02{qa:List Node}(hv:qae qa=true):(List.range qa.length).map (qf0 qa qa.length)=qa6 qa:=by
 unfold qa6;apply List.map_congr_left;intro i _;exact qpd hv i
def qjf(f:Nat->Int)(cs:List Int):Nat->Int:=fun i=>cs.getD i (f i)
theorem qkw{f:Nat->Int}{cs:List Int}{i:Nat}{c:Int}(h:cs[i]?=some c):qjf f cs i=c:=by
 unfold qjf;rw [List.getD_eq_getElem?_getD,h];rfl
def qeg(f:Nat->Int)(us:List Nat)(t:Nat):Nat->Int:=fun i=>f i - if i∈us.take t then 1 else 0
def qW(f:Nat->Int)(us:List Nat)(t:Nat):List Int:=((us.take t).filter (fun u=>decide (f u=1))).map (fun u:Nat=>(u:Int))
theorem qu8(f:Nat->Int)(us:List Nat):qeg f us 0=f:=by
 funext i;unfold qeg;simp
theorem qnb{us:List Nat}(hn:us.Nodup){t u:Nat}(hu:us[t]?=some u):u∉us.take t:=by
 obtain⟨ht,rfl⟩:=List.getElem?_eq_some_iff.1 hu;intro h;obtain⟨j,hj,e⟩:=List.mem_take_iff_getElem.1 h;have:=(List.getElem_inj hn).1 e;omega
theorem q03{f:Nat->Int}{us:List Nat}(hn:us.Nodup){t u:Nat}(hu:us[t]?=some u):qeg f us t u=f u:=by
 unfold qeg;rw [if_neg (qnb hn hu)];omega
theorem qnc{f:Nat->Int}{us:List Nat}(hn:us.Nodup){t u:Nat}(hu:us[t]?=some u):qeg f us (t+1)=xw (qeg f us t) u (f u - 1):=by
 have hno:=qnb hn hu;obtain⟨ht,rfl⟩:=List.getElem?_eq_some_iff.1 hu;funext i;unfold xw qeg;rw [List.take_succ_eq_append_getElem ht];by_cases e:i=us[t]
 . rw [if_pos e,if_pos (by rw [e];exact List.mem_append_right _ (List.mem_singleton.2 rfl)),e]
 . rw [if_neg e];have:(i∈us.take t++[us[t]])↔i∈us.take t:=by rw [List.mem_append,List.mem_singleton,or_iff_left e]
   simp only [this]
theorem qxu{f:Nat->Int}{us:List Nat}{t u:Nat}(hu:us[t]?=some u):qW f us (t+1)=qW f us t++(if f u=1 then [(u:Int)] else []):=by
 obtain⟨ht,rfl⟩:=List.getElem?_eq_some_iff.1 hu;unfold qW;rw [List.take_succ_eq_append_getElem ht,List.filter_append,List.map_append];by_cases h:f us[t]=1
 . simp [h]
 . simp [h]
theorem q04(f:Nat->Int)(us:List Nat)(t:Nat):(qW f us t).length<=t:=by
 unfold qW;rw [List.length_map];refine Nat.le_trans (List.length_filter_le _ _) ?_;rw [List.length_take];exact Nat.min_le_left _ _
theorem qgh{qa:List Node}(hv:qae qa=true){i x:Nat}:i∈qb3 qa x↔i < qa.length/\has qa i (x:Int)=true:=by
 rw [qgi];unfold has;rw [decide_eq_true_eq,qge hv]
theorem qu9{qa:List Node}(hv:qae qa=true){cs:List Int}(hl:cs.length=qa.length)(f:Nat->Int)(x t:Nat)(ht:(qb3 qa x).length<=t) :
   (List.range qa.length).map (qeg (qjf f cs) (qb3 qa x) t)=qbi qa cs (x:Int):=by
 apply List.ext_getElem?;intro i;by_cases hi:i < qa.length
 . have hg:cs[i]?=some cs[i]:=List.getElem?_eq_getElem (by omega);rw [qjm hg,List.getElem?_map,List.getElem?_range hi];show some _=_;congr 1;unfold qeg;rw [List.take_of_length_le ht,qkw hg];by_cases h:has qa i (x:Int)=true
   . rw [if_pos ((qgh hv).2 ⟨hi,h⟩),if_pos h]
   . rw [if_neg (fun e=>h ((qgh hv).1 e).2),if_neg h];omega
 . rw [List.getElem?_eq_none (by simp;omega),List.getElem?_eq_none (by rw [qg3];omega)]
theorem qva{qa:List Node}(hv:qae qa=true){cs:List Int}(hl:cs.length=qa.length)(f:Nat->Int)(x t:Nat)(ht:(qb3 qa x).length<=t) :
   qW (qjf f cs) (qb3 qa x) t=qbl qa cs (x:Int):=by
 unfold qW qbl qb3;rw [List.take_of_length_le (by unfold qb3 at ht;exact ht),List.filter_filter];congr 1;apply List.filter_congr;intro i hi;have hi:=List.mem_range.1 hi;have hg:cs[i]?=some cs[i]:=List.getElem?_eq_getElem (by omega);have e1:qjf f cs i=cs.getD i 0:=by rw [qkw hg,List.getD_eq_getElem?_getD,hg];rfl
 have e2:decide (x∈qb2 qa i)=has qa i (x:Int):=by
   unfold has;rw [decide_eq_decide];exact qge hv
 rw [e1,e2,Bool.and_comm]
theorem qrv{qa:List Node}(hv:qae qa=true){cs:List Int}{x t u:Nat}(hu:(qb3 qa x)[t]?=some u)(hz:cs.getD u 0=0):qei qa cs (x:Int)=false:=by
 have hm:=(qgh hv).1 (List.mem_of_getElem? hu);unfold qei;rw [List.all_eq_false];refine⟨u,List.mem_range.2 hm.1,?_⟩;rw [hm.2,hz];simp
theorem qpe{qa:List Node}{cs:List Int}{x:Int}{i:Nat}{c:Int}(hi:i < qa.length)(hc:cs[i]?=some c)(h:¬ (0<=c/\c<=((qb2 qa i).length:Int))):qei qa cs x=false:=by
 unfold qei;rw [List.all_eq_false];refine⟨i,List.mem_range.2 hi,?_⟩;rw [List.getD_eq_getElem?_getD,hc];simp only [Option.getD_some,Bool.and_eq_true,decide_eq_true_eq];exact fun e=>h e.1
theorem qtn{qa:List Node}(hv:qae qa=true){cs:List Int}(hl:cs.length=qa.length){x:Nat}(h1:∀ i c,cs[i]?=some c->0<=c/\c<=((qb2 qa i).length:Int))(h2:∀ u∈qb3 qa x,cs.getD u 0≠0):qei qa cs (x:Int)=true:=by
 unfold qei;rw [List.all_eq_true];intro i hi;have hi:=List.mem_range.1 hi;have hg:cs[i]?=some cs[i]:=List.getElem?_eq_getElem (by omega);have hd:cs.getD i 0=cs[i]:=by rw [List.getD_eq_getElem?_getD,hg];rfl
 have h3:=h1 i _ hg;rw [hd,decide_eq_true h3.1,decide_eq_true h3.2];by_cases h:has qa i (x:Int)=true
 . have:=h2 i ((qgh hv).2 ⟨hi,h⟩);rw [hd] at this;simp [this]
 . simp [h]
end
end Go.Proofs.YtacemdoejblgaaaGreatDoor

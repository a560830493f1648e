/- Walks: impl.CacheRun (it receives what sendEntries sent). -/
import Derived.Test.YtjlnhijabdkagaaS11Send
import Derived.Test.YtjlnhijabdkagaaS9Run
namespace Go.Proofs.Ytjlnhijabdkagaa
open Go.RowKit Go.Conc
/-- 'append(out, x)' of one entry, all of whose parts are the call's own. -/
theorem wp_push_entX {ops : Array Oper} {rest : List Oper} {o : Oper} {a : Act} {Q : Exit → Act → World → Prop} {w : World} {e : Ent} {f r : Value} {ys : List Value} {yss : List (List Value)}
    (s x : Operand) (hgd : o.guard = none) (ho : o.op = .call { callee := .builtin .append, args := #[s, x], argTypes := #[41, 41] })
    {base : Nat} {v : Value} {es : List Ent} (hown : OwnX w base v es yss) (hex : EX w base f r e ys) (hn : es.length ≤ 1000000000) (hbase : base ≤ w.heap.size)
    (hs : a.eval s = v) (hx : a.eval x = .slice (some ⟨w.heap.size, 0, none⟩) 1 1)
    (h : ∀ v' w', OwnX w' base v' (es ++ [e]) (yss ++ [ys]) → w.grownBy w' v.ownBlock → wpList Try.prog ops Q rest (a.put o.dst v') w') :
    wpList Try.prog ops Q (o :: rest) a (w.alloc (.cells #[.int .i64 e.kind, f, r] 62)) := by
  obtain ⟨xs, ho1, ho0, ho2⟩ := hown
  refine wp_push s x 41 _ 3 56 Try.underlying41 info62 rfl (by decide) (by decide) hgd ho ho1 hn hbase rfl ?_ hs hx ?_
  · intro u hu
    simp only [List.mem_cons, List.not_mem_nil, or_false] at hu
    rcases hu with rfl | rfl | rfl
    · rfl
    · exact hex.rl.oneCell
    · exact hex.ri.oneCell
  intro v' w' h1 h2 _
  have hxl := ho1.1
  have hne : NotE w 3 v.ownBlock := NotE.own ho1 (by decide)
  have hne2 : NotE w 27 v.ownBlock := NotE.own ho1 (by decide)
  refine h v' w' ⟨_, by simpa using h1, by simp [ho0], ?_⟩ h2
  intro i e' hi
  by_cases hl : i < es.length
  · rw [List.getElem?_append_left hl] at hi
    obtain ⟨rv, ov, y, k1, k2, k3, k4, k5⟩ := ho2 i e' hi
    have g := fun {j : Nat} {u : Value} (hj : xs[j]? = some u) => (List.getElem?_append_left (l₂ := [.int .i64 e.kind, f, r]) (List.getElem?_eq_some_iff.1 hj).1).trans hj
    exact ⟨rv, ov, y, g k1, g k2, g k3, by rw [List.getElem?_append_left (by omega)]; exact k4, k5.grown h2 hne hne2⟩
  · have hil := (List.getElem?_eq_some_iff.1 hi).1
    rw [List.length_append, List.length_singleton] at hil
    obtain rfl : i = es.length := by omega
    rw [List.getElem?_append_right (Nat.le_refl _), Nat.sub_self] at hi
    obtain rfl : e = e' := by simpa using hi
    refine ⟨f, r, ys, ?_, ?_, ?_, ?_, hex.grown h2 hne hne2⟩
    · rw [List.getElem?_append_right (by omega), show es.length * 3 - xs.length = 0 by omega]; rfl
    · rw [List.getElem?_append_right (by omega), show es.length * 3 + 1 - xs.length = 1 by omega]; rfl
    · rw [List.getElem?_append_right (by omega), show es.length * 3 + 2 - xs.length = 2 by omega]; rfl
    · rw [List.getElem?_append_right (by omega), show es.length - yss.length = 0 by omega]; rfl
/-- What impl.CacheRun answers: all of it the call's own, no two rows in one block. -/
def RunOutX (w : World) (r : Option (List Ent × List Int × Bool)) (e : Ending) (w' : World) : Prop :=
  ∃ ov uv yss, e = .returned (.tuple #[ov, uv, .bool ((r.map fun x => x.2.2).getD false), .bool r.isSome]) ∧ OwnX w' w.heap.size ov ((r.map fun x => x.1).getD []) yss ∧ OwnI w' w.heap.size uv ((r.map fun x => x.2.1).getD []) ∧ Apart (uv :: yss.flatten) ∧ w.grownBy w' none
set_option maxHeartbeats 1600000 in
set_option maxRecDepth 20000 in
theorem implCacheRun_own (v rv : Value) (es : List Ent) (kind : Int) (rows : List (List Int)) (w : World) (h : RE w v es) (hr : RL w rv rows) :
    Calls Try.prog 57 #[v, .int .i64 kind, rv] w (RunOutX w (cacheRun es kind rows)) := by
  obtain ⟨A, n, c, rfl, _, hn, hnx⟩ := h.form'
  obtain ⟨Ar, nr, cr, rfl⟩ := hr.val
  have Hn := Lib.hid hn
  by_cases hv : cacheValid es = true
  · have Hv := Lib.hid hv
    have hn4 : n ≤ 4 := by rw [hn]; exact valid_len hv
    cases hk : kindRun kind rows with
    | none =>
      have Hr : Hid (cacheRun es kind rows = none) := run_none (.inr hk)
      have Hk := Lib.hid hk
      clear hv hk hn
      go_enter Try.func57, Try.ntmps57
      go_wp2_with fail
      refine (implCacheValid_b _ es _ h Hv.out).mono ?_
      rintro e' w1 ⟨rfl, hg1⟩
      go_wp2_with fail
      refine (implKindRun_any kind _ rows _ (hr.new hg1)).mono ?_
      rw [Hk.out]
      rintro e' w2 ⟨u, rfl, hu, hg2⟩
      have hg3 := gb_trans hg1 hg2
      obtain ⟨A4, n4, c4, rfl⟩ := hu.ri.val
      go_wp2_with fail
      refine bodyPost_ret (v := .tuple #[.slice none 0 0, .slice none 0 0, .bool false, .bool false]) (by simp [results, Try.results57, go_sem]) rfl ?_
      exact ⟨_, _, [], by rw [Hr.out]; rfl, by rw [Hr.out]; exact OwnX.nil _ _, by rw [Hr.out]; exact OwnI.nil _ _, Apart.one _, hg3⟩
    | some out =>
      have Hr : Hid (cacheRun es kind rows = some (cacheNext es kind rows out, out, es.any (entIs kind rows))) := run_eq hv hk
      have Hk := Lib.hid hk
      have hcp := copy_ok hk
      have Hcp := Lib.hid hcp
      have hes : ∀ e ∈ es, entOk e := fun e he => copy_ok (ent_ok hv he)
      have Hes := Lib.hid hes
      have Hany : Hid ((cacheFind es kind rows).isSome = es.any (entIs kind rows)) := find_hit Hr.out
      clear hv hk hn hcp hes
      refine calls_of_wpN Try.func57 rfl ?_
      simp only [Try.ntmps57, List.size_toArray, List.length_cons, List.length_nil, Nat.reduceAdd, Nat.reduceSub, Array.replicate_succ, Array.replicate_zero, List.push_toArray, List.append_toArray, List.nil_append, List.cons_append]
      refine WpN.seq_k fun K hK => WpN.of ?_
      go_wp2_with fail
      refine WpN.seq_k fun K hK => WpN.of ?_
      go_wp2_with fail
      refine (implCacheValid_b _ es _ h Hv.out).mono ?_
      rintro e' w1 ⟨rfl, hg1⟩
      go_wp2_with fail
      refine WpN.seq_k fun K hK => WpN.of ?_
      go_wp2_with fail
      refine (implKindRun_any kind _ rows _ (hr.new hg1)).mono ?_
      rw [Hk.out]
      rintro e' w2 ⟨u, rfl, hu, hg2⟩
      have hg3 := gb_trans hg1 hg2
      have hu1 : OwnI w2 w1.heap.size u out := hu
      have hu2 := hu1.low hg1.size
      clear hu hu1
      obtain ⟨A4, n4, c4, rfl⟩ := hu2.ri.val
      go_wp2_with fail
      refine WpN.seq_k fun K hK => WpN.of ?_
      go_wp2_with fail
      refine WpN.seq_k fun K hK => WpN.of ?_
      go_wp2_with fail
      refine (implCacheFind_any _ _ es kind rows _ (h.new hg3) (hr.new hg3)).mono ?_
      rintro e' w3 ⟨u5, rfl, hu5, hg4⟩
      rw [Hany.out]
      have hg5 := gb_trans hg3 hg4
      have hu3 := hu2.new hg4
      obtain ⟨A5, n5, c5, rfl⟩ := hu5.ri.val
      clear hu2 hu5 Hany Hv
      go_wp2_with fail
      refine WpN.seq_k fun K hK => WpN.of ?_
      go_wp2_with fail
      refine WpN.seq_k fun K hK => ?_
      replace hK := Lib.hid hK
      refine WpN.seq_k fun K1 hK1 => WpN.of ?_
      go_wp2_with fail
      refine (sendEntries_any _ _ _ ⟨kind, rows, out⟩ es _ (hr.new hg5) hu3.ri (h.new hg5) Hcp.out Hes.out (by rw [← Hn.out]; exact hn4)).mono ?_
      rintro e' w4 ⟨C, cap, s, rfl, ⟨yss0, hch, hap⟩, hg6⟩
      have hg7 := gb_trans hg5 hg6
      have hu4 := hu3.new hg6
      have hch4 := hch.low hg5.size
      have hap4 : Apart (.slice A4 n4 c4 :: ([] : List (List Value)).flatten ++ yss0.flatten) := by
        refine Apart.join (s := w3.heap.size) (Apart.one _) hap (fun u hu g hg => ?_) (fun u hu g hg => (hch.lts u hu g hg).1)
        obtain rfl : u = .slice A4 n4 c4 := by simpa using hu
        exact (hu3.lt g hg).2
      clear hch hu3 hap
      go_wp2_with fail
      have hnx : Hid (cacheNext es kind rows out = (⟨kind, rows, out⟩ :: es.filter fun e => !entIs kind rows e).take 4) := rfl
      generalize hb : es.any (entIs kind rows) = b at *
      generalize hall : (⟨kind, rows, out⟩ :: es.filter fun e => !entIs kind rows e : List Ent) = all at *
      have hal : all.length ≤ 1000 := by
        have := List.length_filter_le (fun e => !entIs kind rows e) es
        rw [← hall, List.length_cons]
        have := Hn.out
        omega
      clear hall hb Hcp Hes Hk
      have hB : w.heap.size ≤ w4.heap.size := hg7.size
      refine WpN.block ?_
      obtain ⟨I, HI⟩ : ∃ I : Nat → Act → World → Prop, Hid (∀ m a wr, I m a wr ↔ ∃ (j : Nat) (A6 : Option Addr) (n6 c6 r : Nat) (y1 y2 : List (List Value)) (x15 x40 x41 x42 x43 x44 x45 x46 x47 x48 x49 : Value), j ≤ all.length ∧ m = all.length - j ∧ a = { tmps := #[Value.slice A n c, Value.int IntKind.i64 kind, Value.slice Ar nr cr, undef, undef, undef, Value.slice none 0 0, Value.slice none 0 0, Value.bool false, Value.bool false, Value.slice A4 n4 c4, Value.bool true, Value.slice A5 n5 c5, Value.bool b, Value.slice A6 n6 c6, x15, Value.slice A n c, Value.bool true, Value.bool false, Value.tuple #[Value.slice A4 n4 c4, Value.bool true], Value.int IntKind.i64 kind, Value.slice Ar nr cr, Value.tuple #[Value.slice A4 n4 c4, Value.bool true], Value.slice A4 n4 c4, Value.bool true, Value.bool true, Value.bool false, Value.tuple #[Value.slice A5 n5 c5, Value.bool b], Value.slice A n c, Value.int IntKind.i64 kind, Value.slice Ar nr cr, Value.tuple #[Value.slice A5 n5 c5, Value.bool b], Value.slice A5 n5 c5, Value.bool b, Value.int IntKind.i64 kind, Value.slice Ar nr cr, Value.slice A4 n4 c4, Value.agg #[Value.int IntKind.i64 kind, Value.slice Ar nr cr, Value.slice A4 n4 c4], Value.slice A n c, Value.chan (some C), x40, x41, x42, x43, x44, x45, x46, x47, x48, x49, undef, undef, undef], defers := [] } ∧ ChanX wr w.heap.size C cap s r true (all.drop j) y2 ∧ OwnX wr w.heap.size (.slice A6 n6 c6) ((all.take j).take 4) y1 ∧ OwnI wr w.heap.size (.slice A4 n4 c4) out ∧ Apart (.slice A4 n4 c4 :: y1.flatten ++ y2.flatten) ∧ w.grownBy wr none) := ⟨_, fun _ _ _ => Iff.rfl⟩
      refine WpN.loop I all.length ?_ ?_
      · exact (HI.out _ _ _).2 ⟨0, none, 0, 0, 0, [], yss0, undef, undef, undef, undef, undef, undef, undef, undef, undef, undef, undef, Nat.zero_le _, rfl, rfl, hch4, OwnX.nil _ _, hu4, hap4, hg7⟩
      clear hch4 hu4 hg7 hB hap4
      intro m a wr hI
      obtain ⟨j, A6, n6, c6, r, y1, y2, x15, x40, x41, x42, x43, x44, x45, x46, x47, x48, x49, hj, rfl, rfl, hch, hoe, hou, hap, hg⟩ := (HI.out _ _ _).1 hI
      clear hI
      by_cases hlt : j < all.length
      · obtain ⟨e, hd⟩ : ∃ e, all.drop j = e :: all.drop (j + 1) := ⟨_, List.drop_eq_getElem_cons hlt⟩
        rw [hd] at hch
        obtain ⟨buf, r5, o5, ys, y2, rfl, hbuf, hpos, hget, hx5, hch5⟩ := hch.pop
        have hcge := hch.ge
        have hst : wr.grownBy (wr.setChan C cap (buf.extract 1 buf.size) true s (r + 1) false) (some C) := gb_setChan (gb_refl _ _) (.inr rfl) _ _ _ _ _ _
        have hoe5 := hoe.grown hst (NotE.chan hbuf) (NotE.chan hbuf) (NotE.chan hbuf)
        have hou5 := hou.grown hst (NotE.chan hbuf)
        have hgc : w.grownBy (wr.setChan C cap (buf.extract 1 buf.size) true s (r + 1) false) none := gb_setChan hg (.inl hcge) _ _ _ _ _ _
        refine WpN.seq_k fun K1 hK1 => WpN.region ?_
        show OpsN _ _ _ [0, 1] _ _
        refine OpsN.recv_buf (w1 := wr) (c := C) (cap := cap) (s := s) (r := r) (buf := buf) (z := .agg #[.int .i64 0, .slice none 0 0, .slice none 0 0]) true rfl rfl (by simp [go_sem, execOp, rcase, Act.eval]) hbuf hpos ?_
        rw [hget]
        unfold got
        rw [if_pos rfl]
        clear hget hpos hst hch
        generalize (wr.setChan C cap (buf.extract 1 buf.size) true s (r + 1) false) = W5 at *
        go_simp
        refine OpsN.value rfl rfl rfl ?_
        go_simp
        refine OpsN.nil ?_
        go_simp
        refine hK1 _ _ ?_
        clear hK1 K1
        obtain ⟨B1, m1, f1, rfl⟩ := hx5.rl.val
        obtain ⟨B2, m2, f2, rfl⟩ := hx5.ri.val
        have hn6 : n6 = ((all.take j).take 4).length := hoe5.re.len
        have hx6 := hx5.new (World.grownBy_alloc W5 (.cells #[.int .i64 e.kind, .slice B1 m1 f1, .slice B2 m2 f2] 62) none)
        have htk : all.take (j + 1) = all.take j ++ [e] := by
          have := List.getElem_cons_drop (h := hlt)
          rw [hd] at this
          injection this with h1 _
          rw [List.take_succ_eq_append_getElem hlt, h1]
        have hoe6 := hoe5.new (World.grownBy_alloc W5 (.cells #[.int .i64 e.kind, .slice B1 m1 f1, .slice B2 m2 f2] 62) none)
        have hou6 := hou5.alloc (.cells #[.int .i64 e.kind, .slice B1 m1 f1, .slice B2 m2 f2] 62)
        have hch6 := hch5.new (World.grownBy_alloc W5 (.cells #[.int .i64 e.kind, .slice B1 m1 f1, .slice B2 m2 f2] 62) none)
        have hg6 := gb_alloc hgc (.cells #[.int .i64 e.kind, .slice B1 m1 f1, .slice B2 m2 f2] 62)
        have Hhlt := Lib.hid hlt
        have B0 : Blk (W5.alloc (.cells #[.int .i64 e.kind, .slice B1 m1 f1, .slice B2 m2 f2] 62)) W5.heap.size 62 #[.int .i64 e.kind, .slice B1 m1 f1, .slice B2 m2 f2] := Blk.new W5 _ _
        have hlen6 : n6 = min 4 j := by
          rw [hn6, List.length_take, List.length_take]
          omega
        replace hlen6 := Lib.hid hlen6
        clear hn6 hx5 hoe5 hou5 hch5 hgc hoe hou hg hd hcge
        refine WpN.seq_k fun K1 hK1 => WpN.of ?_
        go_wp2_with fail
        refine WpN.block ?_
        refine WpN.seq_k fun K1 hK1 => WpN.of ?_
        go_wp2_with fail
        generalize (W5.alloc (.cells #[.int .i64 e.kind, .slice B1 m1 f1, .slice B2 m2 f2] 62)) = W6 at *
        have z0 := B0.cell 0
        have z1 := B0.cell 1
        have z2 := B0.cell 2
        generalize W5.heap.size = F at *
        by_cases h4 : n6 < 4
        · have happ : Hid (((all.take j).take 4) ++ [e] = (all.take (j + 1)).take 4) := by
            show _ = _
            have := hlen6.out
            have q1 : (all.take j).take 4 = all.take j := List.take_of_length_le (by rw [List.length_take]; omega)
            have q2 : (all.take j ++ [e]).take 4 = all.take j ++ [e] := List.take_of_length_le (by rw [List.length_append, List.length_take, List.length_singleton]; omega)
            rw [htk, q1, q2]
          have hl9 : ((all.take j).take 4).length ≤ 1000000000 := by rw [List.length_take]; omega
          have hbs := hg6.size
          clear htk hlen6
          refine WpN.seq_k fun K1 hK1 => WpN.of ?_
          go_wp2_with fail
          refine WpN.of ?_
          go_wp2_with (at_builtin; go_must (refine wp_push_entX (.tmp 46) (.tmp 48) rfl rfl hoe6 hx6 hl9 hbs rfl rfl ?_))
          intro v' w7 ho7 hg7
          obtain ⟨A7, n7, c7, rfl⟩ := ho7.re.val
          have hap7 : Apart (.slice A4 n4 c4 :: (y1 ++ [ys]).flatten ++ y2.flatten) := by
            have e0 : (Value.slice A4 n4 c4 :: (y1 ++ [ys]).flatten ++ y2.flatten) = Value.slice A4 n4 c4 :: y1.flatten ++ (ys :: y2).flatten := by simp
            rw [e0]
            exact hap
          have hch7 := hch6.grown hg7 (hoe6.notE (by decide)) (hoe6.notE (by decide)) (by
            intro e0
            have hlt6 := hoe6.lt C e0
            obtain ⟨xs, h1, _⟩ := hoe6.own
            rcases h1.2 with ⟨e1, _⟩ | ⟨g', cap', cur, e1, _, hh, _⟩
            · rw [e1] at e0; cases e0
            · rw [e1] at e0
              cases e0
              obtain ⟨vs, _, h3, _⟩ := hch6
              rw [h3] at hh
              cases hh)
          have hou7 := hou6.grown hg7 (hoe6.notE (by decide))
          have hg8 : w.grownBy w7 none := gb_new hg6 hg7 (fun x e0 => .inl (hoe6.lt x e0).1)
          rw [happ.out] at ho7
          go_wp2_with fail
          exact ⟨all.length - (j + 1), by have := Hhlt.out; omega, (HI.out _ _ _).2 ⟨j + 1, _, _, _, _, _, _, _, _, _, _, _, _, _, _, _, _, _, by have := Hhlt.out; omega, rfl, rfl, hch7, ho7, hou7, hap7, hg8⟩⟩
        · have happ : Hid ((all.take j).take 4 = (all.take (j + 1)).take 4) := by
            show _ = _
            have := hlen6.out
            rw [List.take_take, List.take_take, show min 4 j = 4 by omega, show min 4 (j + 1) = 4 by omega]
          rw [happ.out] at hoe6
          have hap7 : Apart (.slice A4 n4 c4 :: y1.flatten ++ y2.flatten) := by
            refine List.Pairwise.sublist ?_ hap
            simp
          clear htk hlen6
          refine WpN.of ?_
          go_wp2_with fail
          exact ⟨all.length - (j + 1), by have := Hhlt.out; omega, (HI.out _ _ _).2 ⟨j + 1, _, _, _, _, _, _, _, _, _, _, _, _, _, _, _, _, _, by have := Hhlt.out; omega, rfl, rfl, hch6, hoe6, hou6, hap7, hg6⟩⟩
      · obtain rfl : j = all.length := by omega
        rw [List.drop_eq_nil_of_le (Nat.le_refl _)] at hch
        rw [List.take_of_length_le (Nat.le_refl _), ← hnx.out] at hoe
        refine WpN.seq_k fun K1 hK1 => WpN.region ?_
        show OpsN _ _ _ [0, 1] _ _
        refine OpsN.recv_shut (w1 := wr) (c := C) (cap := cap) (s := s) (r := r) (tm := false) (z := .agg #[.int .i64 0, .slice none 0 0, .slice none 0 0]) true rfl rfl (by simp [go_sem, execOp, rcase, Act.eval]) hch.none ?_
        unfold got
        rw [if_pos rfl]
        go_simp
        refine OpsN.value rfl rfl rfl ?_
        go_simp
        refine OpsN.nil ?_
        go_simp
        refine hK1 _ _ ?_
        clear hK1 K1 hch
        refine WpN.seq_k fun K1 hK1 => WpN.of ?_
        go_wp2_with fail
        refine hK.out _ _ ?_
        clear hK1 K1 hK K HI I
        refine WpN.of ?_
        go_wp2_with fail
        refine bodyPost_ret (v := .tuple #[.slice A6 n6 c6, .slice A4 n4 c4, .bool b, .bool true]) (by simp [results, Try.results57, go_sem]) rfl ?_
        exact ⟨_, _, y1, by rw [Hr.out]; rfl, by rw [Hr.out]; exact hoe, by rw [Hr.out]; exact hou, hap.left, hg⟩
  · have hv' : cacheValid es = false := by simpa using hv
    have Hv := Lib.hid hv'
    have Hr : Hid (cacheRun es kind rows = none) := run_none (.inl hv')
    clear hv hv' hn
    go_enter Try.func57, Try.ntmps57
    go_wp2_with fail
    refine (implCacheValid_b _ es _ h Hv.out).mono ?_
    rintro e' w1 ⟨rfl, hg1⟩
    go_wp2_with fail
    refine bodyPost_ret (v := .tuple #[.slice none 0 0, .slice none 0 0, .bool false, .bool false]) (by simp [results, Try.results57, go_sem]) rfl ?_
    exact ⟨_, _, [], by rw [Hr.out]; rfl, by rw [Hr.out]; exact OwnX.nil _ _, by rw [Hr.out]; exact OwnI.nil _ _, Apart.one _, hg1⟩
theorem implCacheRun_any (v rv : Value) (es : List Ent) (kind : Int) (rows : List (List Int)) (w : World) (h : RE w v es) (hr : RL w rv rows) :
    Calls Try.prog 57 #[v, .int .i64 kind, rv] w (RunOut w (cacheRun es kind rows)) := by
  refine (implCacheRun_own v rv es kind rows w h hr).mono ?_
  rintro e w' ⟨ov, uv, yss, rfl, h1, h2, _, h3⟩
  exact ⟨_, _, rfl, h1.own, h2, h3⟩
end Go.Proofs.Ytjlnhijabdkagaa

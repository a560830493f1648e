/- Walks: impl.sendEntries (a channel with a buffer, in one goroutine). -/
import Derived.Test.YtjlnhijabdkagaaA16Chan
namespace Go.Proofs.Ytjlnhijabdkagaa
open Go.RowKit Go.Conc
theorem info_ent : ∃ i, Try.prog.info? 62 = some i ∧ i.bytes = 56 := by
  obtain ⟨i, hi, _, _, hz2⟩ := info_parts info62
  exact ⟨i, hi, hz2⟩
theorem mkChan (n : Nat) (hn : n ≤ 1000) (w : World) : (Instr.makeChan 130 (.int .i64 n)).run Try.prog w = .ok (.chan (some w.heap.size)) (w.alloc (.chan n #[] false 0 0 false)) := by
  obtain ⟨i, hi, hb⟩ := info_ent
  exact run_makeChan (P := Try.prog) (w := w) Try.underlying130 hi .i64 n (by omega) (by rw [hb]; omega)
set_option maxHeartbeats 800000 in
set_option maxRecDepth 20000 in
theorem sendEntries_any (rv ov lv : Value) (front : Ent) (es : List Ent) (w : World) (h : RL w rv front.rows) (ho : RI w ov front.out) (hre : RE w lv es) (hf : entOk front) (hes : ∀ e ∈ es, entOk e) (hl : es.length ≤ 4) :
    Calls Try.prog 99 #[.agg #[.int .i64 front.kind, rv, ov], lv] w (SendOut w (front :: es.filter fun e => !entIs front.kind front.rows e)) := by
  obtain ⟨A1, n1, c1, rfl⟩ := h.val
  obtain ⟨A2, n2, c2, rfl⟩ := ho.val
  obtain ⟨A3, n, c3, rfl, hnc, hn, -⟩ := hre.form'
  have hn4 : n ≤ 4 := by omega
  have Hn := Lib.hid hn
  have Hes := Lib.hid hes
  clear hn hes
  refine calls_of_wpN Try.func99 rfl ?_
  simp only [Try.ntmps99, List.size_toArray, List.length_cons, List.length_nil, Nat.reduceAdd, Nat.reduceSub, Array.replicate_succ, Array.replicate_zero, List.push_toArray, List.append_toArray, List.nil_append, List.cons_append]
  refine WpN.seq_k fun K hK => WpN.of ?_
  go_wp2_with fail
  refine WpN.seq_k fun K hK => WpN.of ?_
  have hmk : ∀ w, (Instr.makeChan 130 (.int .i64 ((n : Int) + 1))).run Try.prog w = .ok (.chan (some w.heap.size)) (w.alloc (.chan (n + 1) #[] false 0 0 false)) := fun w => mkChan (n + 1) (by omega) w
  go_wp2_with fail
  refine WpN.seq_k fun K hK => WpN.region ?_
  show OpsN _ _ _ [0, 1, 2, 3] _ _
  refine OpsN.value rfl rfl rfl ?_
  go_simp
  have Bb : Blk ((w.alloc (.cells #[.int .i64 front.kind, .slice A1 n1 c1, .slice A2 n2 c2] 62)).alloc (.chan (n + 1) #[] false 0 0 false)) w.heap.size 62 #[.int .i64 front.kind, .slice A1 n1 c1, .slice A2 n2 c2] := (Blk.new w _ _).alloc _
  have hgW : w.grownBy ((w.alloc (.cells #[.int .i64 front.kind, .slice A1 n1 c1, .slice A2 n2 c2] 62)).alloc (.chan (n + 1) #[] false 0 0 false)) none := gb_alloc (gb_alloc (gb_refl w none) _) _
  have hcW : ((w.alloc (.cells #[.int .i64 front.kind, .slice A1 n1 c1, .slice A2 n2 c2] 62)).alloc (.chan (n + 1) #[] false 0 0 false)).heap[w.heap.size + 1]? = some (.chan (n + 1) #[] false 0 0 false) := by
    have := heap_alloc_new (w.alloc (.cells #[.int .i64 front.kind, .slice A1 n1 c1, .slice A2 n2 c2] 62)) (.chan (n + 1) #[] false 0 0 false)
    rw [World.size_alloc] at this
    exact this
  have hsW : w.heap.size + 1 < ((w.alloc (.cells #[.int .i64 front.kind, .slice A1 n1 c1, .slice A2 n2 c2] 62)).alloc (.chan (n + 1) #[] false 0 0 false)).heap.size := by rw [World.size_alloc, World.size_alloc]; omega
  generalize ((w.alloc (.cells #[.int .i64 front.kind, .slice A1 n1 c1, .slice A2 n2 c2] 62)).alloc (.chan (n + 1) #[] false 0 0 false)) = W at *
  have d0 : W.cell? ⟨w.heap.size, 0, none⟩ = some (.int .i64 front.kind) := Bb.cell 0
  have d1 : W.cell? ⟨w.heap.size, 1, none⟩ = some (.slice A1 n1 c1) := Bb.cell 1
  have d2 : W.cell? ⟨w.heap.size, 2, none⟩ = some (.slice A2 n2 c2) := Bb.cell 2
  refine OpsN.value (v := .agg #[.int .i64 front.kind, .slice A1 n1 c1, .slice A2 n2 c2]) (w1 := W) rfl rfl (by simp [go_sem, execOp, Act.eval, d0, d1, d2]) ?_
  go_simp
  refine OpsN.call (f := 130) (args := #[.agg #[.int .i64 front.kind, .slice A1 n1 c1, .slice A2 n2 c2]]) (w1 := W) rfl rfl (by simp [go_sem, execOp, Act.eval]) (copyEntry_any _ _ front W (h.new hgW) (ho.new hgW) hf.1 hf.2.1 hf.2.2) ?_
  rintro e' w3 ⟨r3, o3, ys3, rfl, hx3, hap3, hg3⟩
  refine ⟨_, rfl, ?_⟩
  go_simp
  have hc3 : w3.heap[w.heap.size + 1]? = some (.chan (n + 1) #[] false 0 0 false) := (hg3.block _ hsW (by simp)).trans hcW
  have hch : ChanE W w.heap.size (w.heap.size + 1) (n + 1) 0 0 false [] := ChanE.start (by omega) hcW
  obtain ⟨buf, hbuf, hbs, hch4⟩ := hch.push hg3 (by have := hgW.size; omega) hx3 hap3
  have hg4 : w.grownBy (w3.setChan (w.heap.size + 1) (n + 1) (buf.push (.agg #[.int .i64 front.kind, r3, o3])) false (0 + 1) 0 false) none := gb_setChan (gb_trans hgW hg3) (.inl (by omega)) _ _ _ _ _ _
  have Bb4 : Blk (w3.setChan (w.heap.size + 1) (n + 1) (buf.push (.agg #[.int .i64 front.kind, r3, o3])) false (0 + 1) 0 false) w.heap.size 62 #[.int .i64 front.kind, .slice A1 n1 c1, .slice A2 n2 c2] :=
    (Bb.grown hg3 (by simp)).grown (gb_setChan (gb_refl _ (some (w.heap.size + 1))) (.inr rfl) _ _ _ _ _ _) (by simp)
  refine OpsN.send (w1 := w3) (c := w.heap.size + 1) (cap := n + 1) (s := 0) (r := 0) (buf := buf) (v := .agg #[.int .i64 front.kind, r3, o3]) (z := .tuple #[]) (tm := false) rfl rfl (by simp [go_sem, execOp, scase, Act.eval]) hbuf (by rw [hbs]; simp) ?_
  generalize (w3.setChan (w.heap.size + 1) (n + 1) (buf.push (.agg #[.int .i64 front.kind, r3, o3])) false (0 + 1) 0 false) = W4 at *
  clear hbuf hbs hch hcW hsW hgW d0 d1 d2 Bb hg3 hx3 hap3
  have hC : w.heap.size < w.heap.size + 1 := Nat.lt_succ_self _
  generalize w.heap.size + 1 = C at *
  refine OpsN.nil ?_
  go_simp
  refine hK _ _ ?_
  clear hK K
  refine WpN.seq_k fun K hK => ?_
  replace hK := Lib.hid hK
  refine WpN.seq_k fun K1 hK1 => WpN.of ?_
  go_wp2_with fail
  refine WpN.block ?_
  obtain ⟨I, HI⟩ : ∃ I : Nat → Act → World → Prop, Hid (∀ m a wr, I m a wr ↔ ∃ (k : Nat) (x7 x18 x19 x20 x21 x22 x23 x24 x25 x26 x27 x28 x29 x30 x31 : Value), k ≤ n ∧ m = n - k ∧ a = { tmps := #[.agg #[.int .i64 front.kind, .slice A1 n1 c1, .slice A2 n2 c2], .slice A3 n c3, .pointer (some ⟨w.heap.size, 0, none⟩), undef, .chan none, .chan (some C), undef, x7, .slice A3 n c3, .int .i64 (n : Int), .int .i64 ((n : Int) + 1), .chan (some C), .chan (some C), .agg #[.int .i64 front.kind, .slice A1 n1 c1, .slice A2 n2 c2], .agg #[.int .i64 front.kind, r3, o3], .slice A3 n c3, .int .i64 (n : Int), .int .i64 (k : Int), x18, x19, x20, x21, x22, x23, x24, x25, x26, x27, x28, x29, x30, x31, undef, undef], defers := [] } ∧ (∃ s, ChanE wr w.heap.size C (n + 1) s 0 false (front :: keptTo es front.kind front.rows k)) ∧ w.grownBy wr none ∧ Blk wr w.heap.size 62 #[.int .i64 front.kind, .slice A1 n1 c1, .slice A2 n2 c2]) := ⟨_, fun _ _ _ => Iff.rfl⟩
  refine WpN.loop I n ?_ ?_
  · exact (HI.out _ _ _).2 ⟨0, undef, undef, undef, undef, undef, undef, undef, undef, undef, undef, undef, undef, undef, undef, undef, Nat.zero_le _, rfl, rfl, ⟨_, hch4⟩, hg4, Bb4⟩
  clear hch4 hg4 Bb4
  intro m a wr hI
  obtain ⟨k, x7, x18, x19, x20, x21, x22, x23, x24, x25, x26, x27, x28, x29, x30, x31, hk, rfl, rfl, ⟨s, hch⟩, hg, hB⟩ := (HI.out _ _ _).1 hI
  clear hI
  by_cases hlt : k < n
  · obtain ⟨g, o, e, B1, m1, f1, B2, m2, f2, rfl, he, d0, d1, d2, hrows, hout⟩ := (hre.new hg).at_ hlt
    refine WpN.seq_k fun K1 hK1 => WpN.of ?_
    go_wp2_with fail
    refine WpN.seq_k fun K1 hK1 => WpN.of ?_
    go_wp2_with fail
    refine WpN.seq_k fun K1 hK1 => WpN.block ?_
    replace hK1 := Lib.hid hK1
    refine WpN.seq_k fun K2 hK2 => WpN.of ?_
    go_wp2_with fail
    have B0 : Blk (wr.alloc (.cells #[.int .i64 e.kind, .slice B1 m1 f1, .slice B2 m2 f2] 62)) wr.heap.size 62 #[.int .i64 e.kind, .slice B1 m1 f1, .slice B2 m2 f2] := Blk.new wr _ _
    have hB1 := hB.alloc (.cells #[.int .i64 e.kind, .slice B1 m1 f1, .slice B2 m2 f2] 62)
    have hga : wr.grownBy (wr.alloc (.cells #[.int .i64 e.kind, .slice B1 m1 f1, .slice B2 m2 f2] 62)) none := World.grownBy_alloc wr _ none
    have hg1 := gb_trans hg hga
    have hch1 := hch.new hga
    have hrows1 := hrows.new hga
    have hout1 := hout.new hga
    have hwr := hg.size
    generalize (wr.alloc (.cells #[.int .i64 e.kind, .slice B1 m1 f1, .slice B2 m2 f2] 62)) = W5 at *
    have hF : w.heap.size ≤ wr.heap.size := hwr
    clear hga hrows hout hg hch hB d0 d1 d2 hwr
    generalize wr.heap.size = F at *
    have y0 := hB1.cell 0
    have y1 := hB1.cell 1
    have z0 := B0.cell 0
    have z1 := B0.cell 1
    have z2 := B0.cell 2
    have Hek := Lib.hid (Hes.out e (List.mem_of_getElem? he))
    by_cases his : entIs front.kind front.rows e = true
    · have His := Lib.hid his
      have hkp := Lib.hid (kept_in he his)
      clear his he
      refine WpN.seq_k fun K2 hK2 => WpN.of ?_
      go_wp2_with fail
      refine (isOf_b _ _ _ e front.kind front.rows _ hrows1 hout1 (h.new hg1) His.out).mono ?_
      rintro e' w2 ⟨rfl, hg2⟩
      go_wp2_with fail
      refine WpN.of ?_
      go_wp2_with fail
      refine hK1.out _ _ ?_
      clear hK1 K1
      refine WpN.of ?_
      go_wp2_with fail
      refine ⟨n - (k + 1), by omega, (HI.out _ _ _).2 ⟨k + 1, _, _, _, _, _, _, _, _, _, _, _, _, _, _, _, by omega, rfl, rfl, ⟨s, ?_⟩, gb_trans hg1 hg2, hB1.grown hg2 (by simp)⟩⟩
      rw [hkp.out]
      exact hch1.new hg2
    · have his' : entIs front.kind front.rows e = false := by simpa using his
      have His := Lib.hid his'
      have hkp := Lib.hid (kept_out he his')
      clear his his' he
      refine WpN.seq_k fun K2 hK2 => WpN.of ?_
      go_wp2_with fail
      refine (isOf_b _ _ _ e front.kind front.rows _ hrows1 hout1 (h.new hg1) His.out).mono ?_
      rintro e' w2 ⟨rfl, hg2⟩
      go_wp2_with fail
      refine WpN.cond (t := true) rfl ?_
      rw [if_pos rfl]
      refine WpN.region ?_
      show OpsN _ _ _ [0, 1, 2, 3] _ _
      refine OpsN.value rfl rfl rfl ?_
      go_simp
      have v0 := (B0.grown hg2 (by simp)).cell 0
      have v1 := (B0.grown hg2 (by simp)).cell 1
      have v2 := (B0.grown hg2 (by simp)).cell 2
      refine OpsN.value (v := .agg #[.int .i64 e.kind, .slice B1 m1 f1, .slice B2 m2 f2]) (w1 := w2) rfl rfl (by simp [go_sem, execOp, Act.eval, v0, v1, v2]) ?_
      go_simp
      refine OpsN.call (f := 130) (args := #[.agg #[.int .i64 e.kind, .slice B1 m1 f1, .slice B2 m2 f2]]) (w1 := w2) rfl rfl (by simp [go_sem, execOp, Act.eval]) (copyEntry_any _ _ e w2 (hrows1.new hg2) (hout1.new hg2) Hek.out.1 Hek.out.2.1 Hek.out.2.2) ?_
      rintro e' w3 ⟨r6, o6, ys6, rfl, hx6, hap6, hg3⟩
      refine ⟨_, rfl, ?_⟩
      go_simp
      have hg13 := gb_trans hg1 hg2
      obtain ⟨buf, hbuf, hbs, hch4⟩ := (hch1.new hg2).push hg3 hg13.size hx6 hap6
      have hbs2 : buf.size < n + 1 := by
        have := kept_len es front.kind front.rows k
        rw [hbs, List.length_cons]
        omega
      rw [List.cons_append, ← hkp.out] at hch4
      have hg4 : w.grownBy (w3.setChan C (n + 1) (buf.push (.agg #[.int .i64 e.kind, r6, o6])) false (s + 1) 0 false) none := gb_setChan (gb_trans hg13 hg3) (.inl (by omega)) _ _ _ _ _ _
      have Bb4 : Blk (w3.setChan C (n + 1) (buf.push (.agg #[.int .i64 e.kind, r6, o6])) false (s + 1) 0 false) w.heap.size 62 #[.int .i64 front.kind, .slice A1 n1 c1, .slice A2 n2 c2] :=
        ((hB1.grown hg2 (by simp)).grown hg3 (by simp)).grown (gb_setChan (gb_refl _ (some C)) (.inr rfl) _ _ _ _ _ _) (by simp; omega)
      refine OpsN.send (w1 := w3) (c := C) (cap := n + 1) (s := s) (r := 0) (buf := buf) (v := .agg #[.int .i64 e.kind, r6, o6]) (z := .tuple #[]) (tm := false) rfl rfl (by simp [go_sem, execOp, scase, Act.eval]) hbuf hbs2 ?_
      generalize (w3.setChan C (n + 1) (buf.push (.agg #[.int .i64 e.kind, r6, o6])) false (s + 1) 0 false) = W6 at *
      refine OpsN.nil ?_
      go_simp
      refine hK1.out _ _ ?_
      clear hK1 K1
      refine WpN.of ?_
      go_wp2_with fail
      exact ⟨n - (k + 1), by omega, (HI.out _ _ _).2 ⟨k + 1, _, _, _, _, _, _, _, _, _, _, _, _, _, _, _, by omega, rfl, rfl, ⟨_, hch4⟩, hg4, Bb4⟩⟩
  · obtain rfl : k = n := by omega
    have hes : keptTo es front.kind front.rows k = es.filter fun e => !entIs front.kind front.rows e := by
      unfold keptTo
      rw [List.take_of_length_le (by rw [← Hn.out]; exact Nat.le_refl _)]
    rw [hes] at hch
    obtain ⟨buf, hbuf, hch2⟩ := hch.close
    have hcl : ∀ ats ty, (Builtin.close_ ats ty #[.chan (some C)]).run Try.prog wr = .ok (.tuple #[]) (wr.setChan C (k + 1) buf true s 0 false) := fun ats ty => run_close_open ats ty hbuf
    have hg2 : w.grownBy (wr.setChan C (k + 1) buf true s 0 false) none := gb_setChan hg (.inl (by omega)) _ _ _ _ _ _
    clear hes hbuf hch
    generalize (wr.setChan C (k + 1) buf true s 0 false) = W5 at *
    refine WpN.seq_k fun K1 hK1 => WpN.of ?_
    go_wp2_with fail
    refine WpN.seq_k fun K1 hK1 => WpN.of ?_
    go_wp2_with fail
    refine hK.out _ _ ?_
    clear hK hK1 K1 K
    refine WpN.of ?_
    go_wp2_with fail
    go_ret
    exact ⟨_, _, _, rfl, hch2, hg2⟩
end Go.Proofs.Ytjlnhijabdkagaa

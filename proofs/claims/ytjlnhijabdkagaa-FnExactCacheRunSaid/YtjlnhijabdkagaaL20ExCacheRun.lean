/- Walks: laws.FnExactCacheRun. -/
import Derived.Test.YtjlnhijabdkagaaE11Marks
import Derived.Test.YtjlnhijabdkagaaS12IRun
namespace Go.Proofs.Ytjlnhijabdkagaa
open Go.RowKit
theorem sizeL_le {ll : List (List Int)} {b : Nat} (h : ∀ l ∈ ll, l.length ≤ b) : sizeL ll ≤ ll.length * b := by
  induction ll with
  | nil => simp [sizeL]
  | cons l ll ih =>
    have h1 := h l (by simp)
    have h2 := ih (fun x hx => h x (by simp [hx]))
    rw [sizeL_cons, List.length_cons, Nat.add_mul]
    omega
theorem ent_size {e : Ent} (h : entOk e) : sizeE e ≤ 2000000 := by
  have h1 := sizeL_le h.2.2
  have h2 : e.rows.length * 1000 ≤ 1000 * 1000 := Nat.mul_le_mul_right _ h.1
  have h3 := h.2.1
  unfold sizeE
  omega
theorem ents_size {es : List Ent} (h : ∀ e ∈ es, entOk e) : sizeEs es ≤ es.length * 2000000 := by
  induction es with
  | nil => simp [sizeEs]
  | cons l ll ih =>
    have h1 := ent_size (h l (by simp))
    have h2 := ih (fun x hx => h x (by simp [hx]))
    have : sizeEs (l :: ll) = sizeE l + sizeEs ll := by simp [sizeEs]
    rw [this, List.length_cons, Nat.add_mul]
    omega
theorem OwnX.gsAll {S : Nat → Prop} {w w' : World} {base : Nat} {v : Value} {es : List Ent} {yss : List (List Value)} (h : OwnX w base v es yss) (k : GS S w w') (hS : ∀ b, S b → ∃ cur, Blk w b 3 cur) (hx : ∀ u ∈ yss.flatten, ∀ g, u.ownBlock = some g → ¬ S g) : OwnX w' base v es yss := by
  have hne := h.own.notE (E := 3) (by decide)
  obtain ⟨cs, h1, h2, h3⟩ := h
  refine ⟨cs, own_gs h1 k (fun b hb hb' => ?_), h2, fun i e hi => ?_⟩
  · obtain ⟨cur, hc⟩ := hS b hb'
    exact hne b hb cur hc
  · obtain ⟨rv, ov, ys, k1, k2, k3, k4, k5⟩ := h3 i e hi
    refine ⟨rv, ov, ys, k1, k2, k3, k4, k5.gs k (fun b hb hb' => ?_) (fun u hu => hx u (List.mem_flatten.2 ⟨ys, List.mem_of_getElem? k4, hu⟩))⟩
    obtain ⟨cur, hc⟩ := hS b hb'
    obtain ⟨_, _, q6, _⟩ := k5
    exact NotE.own (E := 3) q6.1 (by decide) b hb cur hc
theorem LX.zone {lo hi base : Nat} {w w' : World} {v : Value} {ll : List (List Int)} {xs : List Value} (h : LX w base v ll xs) (k : Zn lo hi w w') (hb : hi ≤ base) : LX w' base v ll xs := by
  refine ⟨own_zone h.1 k hb, fun i l hi => ?_⟩
  obtain ⟨u, k1, k2⟩ := h.2 i l hi
  exact ⟨u, k1, k2.zone k hb⟩
theorem OwnX.zone {lo hi base : Nat} {w w' : World} {v : Value} {es : List Ent} {yss : List (List Value)} (h : OwnX w base v es yss) (k : Zn lo hi w w') (hb : hi ≤ base) : OwnX w' base v es yss := by
  obtain ⟨cs, h1, h2, h3⟩ := h
  refine ⟨cs, own_zone h1 k hb, h2, fun i e hi => ?_⟩
  obtain ⟨rv, ov, ys, k1, k2, k3, k4, xs, k5, k6, k7⟩ := h3 i e hi
  exact ⟨rv, ov, ys, k1, k2, k3, k4, xs, k5, k6.zone k hb, k7.zone k hb⟩
def RunS (nx : List Ent) (out : List Int) (hit ok : Bool) (w : World) (e : Ending) (w' : World) : Prop := ∃ ov uv, e = .returned (.tuple #[ov, uv, .bool hit, .bool ok]) ∧ RE w' ov nx ∧ RI w' uv out ∧ w.grownBy w' none
def RunI (nx : List Ent) (out : List Int) (hit ok : Bool) (w : World) (e : Ending) (w' : World) : Prop := ∃ ov uv yss, e = .returned (.tuple #[ov, uv, .bool hit, .bool ok]) ∧ OwnX w' w.heap.size ov nx yss ∧ OwnI w' w.heap.size uv out ∧ Apart (uv :: yss.flatten) ∧ w.grownBy w' none
theorem run_both (es : List Ent) (kind : Int) (rows : List (List Int)) : ∃ (nx : List Ent) (out : List Int) (hit ok : Bool),
    (∀ (w : World) (v rv : Value), RE w v es → RL w rv rows → Calls Try.prog 58 #[v, .int .i64 kind, rv] w (RunS nx out hit ok w)) ∧
    (∀ (w : World) (v rv : Value), RE w v es → RL w rv rows → Calls Try.prog 57 #[v, .int .i64 kind, rv] w (RunI nx out hit ok w)) ∧
    sizeEs nx ≤ 1000000000 ∧ (∀ e ∈ nx, fitsL e.rows ∧ e.out.length ≤ 1048576) ∧ out.length ≤ 1000 := by
  refine ⟨((cacheRun es kind rows).map fun x => x.1).getD [], ((cacheRun es kind rows).map fun x => x.2.1).getD [], ((cacheRun es kind rows).map fun x => x.2.2).getD false, (cacheRun es kind rows).isSome, fun w v rv h hr => ?_, fun w v rv h hr => ?_, ?_⟩
  · refine (specCacheRun_any v rv es kind rows w h hr).mono ?_
    rintro e w' ⟨ov, uv, rfl, h1, h2, h3⟩
    exact ⟨ov, uv, rfl, h1.re, h2.ri, h3⟩
  · refine (implCacheRun_own v rv es kind rows w h hr).mono ?_
    rintro e w' ⟨ov, uv, yss, rfl, h1, h2, h3, h4⟩
    exact ⟨ov, uv, yss, rfl, h1, h2, h3, h4⟩
  · cases hc : cacheRun es kind rows with
    | none => exact ⟨by simp [sizeEs], by simp, by simp⟩
    | some r =>
      obtain ⟨h1, h2, h3, h4, h5⟩ := run_some hc
      have hok : ∀ e ∈ r.1, entOk e := fun e he => copy_ok (ent_ok h5 he)
      have hl := valid_len h5
      have hs := ents_size hok
      have hm : r.1.length * 2000000 ≤ 4 * 2000000 := Nat.mul_le_mul_right _ hl
      refine ⟨by show sizeEs r.1 ≤ _; omega, fun e he => ?_, (copy_ok h2).2.1⟩
      obtain ⟨q1, q2, q3⟩ := hok e he
      exact ⟨⟨by omega, fun l hl => by have := q3 l hl; omega⟩, by omega⟩
set_option maxHeartbeats 3200000 in
set_option maxRecDepth 20000 in
theorem fnExactCacheRun_any (w : World) (v rv : Value) (es : List Ent) (kind : Int) (rows : List (List Int)) (h : ArgE w.heap.size w v es) (hr : ArgL w.heap.size w rv rows) :
    Calls Try.prog 22 #[v, .int .i64 kind, rv] w fun e w' => e = .returned (.bool true) ∧ w.grownBy w' none := by
  obtain ⟨A, n, c, rfl, -, -, -⟩ := h.form
  obtain ⟨Ar, nr, cr, rfl, -, -, -⟩ := hr.form
  obtain ⟨nx, out, hit, ok, hsp, him, hsz, hfit, hol⟩ := run_both es kind rows
  have Hsp := Lib.hid hsp
  have Him := Lib.hid him
  have Hfit := Lib.hid hfit
  clear hsp him hfit
  go_enter Try.func22, Try.ntmps22
  go_wp2_with fail
  refine (szEntryS_any w.heap.size _ es 1048576 _ (by exact h) (Nat.le_refl _) (by omega) (by omega)).mono ?_
  rintro e w1 ⟨⟨z, rfl, hz1, hz2, hz3⟩, hg1⟩
  by_cases hz : 0 ≤ z
  · have Hf := Lib.hid (hz3 hz)
    clear hz3
    go_wp2_with fail
    refine (szIntSS_any w.heap.size _ rows z _ (hr.new hg1 (Nat.le_refl _)) hz (by omega)).mono ?_
    rintro e w1' ⟨⟨y, rfl, hy1, hy2, hy3⟩, rfl⟩
    by_cases hy : 0 ≤ y
    · have Hl := Lib.hid (hy3 hy)
      clear hy3
      go_wp2_with fail
      refine (toEntryS_any w.heap.size _ es w1 (h.new hg1 (Nat.le_refl _)) hg1.size Hf.out).mono ?_
      rintro e w2 ⟨v2, y2, rfl, hd2, hg2⟩
      have g2 := gb_trans hg1 hg2
      have hr2 := hd2.re
      obtain ⟨A2, n2, c2, rfl⟩ := hr2.val
      clear hd2
      go_wp2_with fail
      refine (toIntSS_any w.heap.size _ rows w2 (hr.new g2 (Nat.le_refl _)) g2.size Hl.out).mono ?_
      rintro e w3 ⟨v3, rfl, hd3, hg3⟩
      have g3 := gb_trans g2 hg3
      have hr3 := hd3.rl
      obtain ⟨A3, n3, c3, rfl⟩ := hr3.val
      clear hd3
      go_wp2_with fail
      refine (Hsp.out _ _ _ (hr2.new hg3) hr3).mono ?_
      rintro e w4 ⟨v4, u4, rfl, he4, hi4, hg4⟩
      have g4 := gb_trans g3 hg4
      obtain ⟨A4, n4, c4, rfl⟩ := he4.val
      obtain ⟨A4', n4', c4', rfl⟩ := hi4.val
      clear hg1 hg2 hg3 hg4 g2 g3 hr2 hr3
      go_wp2_with fail
      refine (toEntryS_any w.heap.size _ es w4 (h.new g4 (Nat.le_refl _)) g4.size Hf.out).mono ?_
      rintro e w5 ⟨v5, y5, rfl, hd5, hg5⟩
      have g5 := gb_trans g4 hg5
      have hre5 := hd5.re
      obtain ⟨A5, n5, c5, rfl, -, hn5, -⟩ := hre5.form'
      replace hn5 := Lib.hid hn5
      go_wp2_with fail
      refine (toIntSS_any w.heap.size _ rows w5 (hr.new g5 (Nat.le_refl _)) g5.size Hl.out).mono ?_
      rintro e w6 ⟨v6, rfl, hd6, hg6⟩
      have g6 := gb_trans g5 hg6
      have g46 := gb_trans hg5 hg6
      have hrl6 := hd6.rl
      have hd56 := hd5.new hg6
      have hre6 := hd56.re
      have hs4 := g4.size
      have hs5 := hg5.size
      have hs6 := hg6.size
      obtain ⟨A6, n6, c6, rfl, -, hn6, -⟩ := hrl6.form'
      replace hn6 := Lib.hid hn6
      have we6 := (hd5.wen (lo := w4.heap.size) (hi := w5.heap.size) (Nat.le_refl _) (Nat.le_refl _) Hf.out).mi (MI.of_new (lo := 0) (hi := 0) hg6)
      have wl6 : WL w6 w5.heap.size w6.heap.size (.slice A6 n6 c6) rows.length := by
        obtain ⟨xs, hx, _⟩ := hd6
        exact hx.wl (Nat.le_refl _) (Nat.le_refl _) Hl.out
      rw [← hn5.out] at we6
      rw [← hn6.out] at wl6
      clear hn5 hn6 hg5 hg6 g5 hre5 hd5 hd6 hd56
      go_wp2_with fail
      refine (Him.out _ _ _ hre6 hrl6).mono ?_
      rintro e w7 ⟨v7, u7, y7, rfl, hx7, ho7, hap, hg7⟩
      have g7 := gb_trans g6 hg7
      have g47 := gb_trans g46 hg7
      have hre7 := hre6.new hg7
      have hrl7 := hrl6.new hg7
      obtain ⟨A7, n7, c7, rfl⟩ := hx7.re.val
      obtain ⟨A8, n8, c8, rfl, hn8⟩ : ∃ A n c, u7 = .slice A n c ∧ n = out.length := by
        obtain ⟨A, n, c, h1, h2, h3⟩ := ho7.ri.form'
        exact ⟨A, n, c, h1, h3⟩
      have we7 := we6.mi (MI.of_new (lo := 0) (hi := 0) hg7)
      have wl7 := wl6.mi (MI.of_new (lo := 0) (hi := 0) hg7)
      have Hn8 := Lib.hid hn8
      clear hn8 we6 wl6 hre6 hrl6 g46 hg7 g6
      go_wp2_with fail
      refine (eqEntryS_any _ _ nx w7 hx7.re (he4.new g47)).mono ?_
      rintro e w8a ⟨rfl, hg8a⟩
      go_wp2_with fail
      refine (eqIntS_any _ _ out w8a (ho7.new hg8a).ri (hi4.new (gb_trans g47 hg8a))).mono ?_
      rintro e w8 ⟨rfl, hg8b⟩
      have hg8 := gb_trans hg8a hg8b
      have g8 := gb_trans g7 hg8
      go_wp2_with fail
      refine (toEntryS_any w.heap.size _ es w8 (h.new g8 (Nat.le_refl _)) g8.size Hf.out).mono ?_
      rintro e w9 ⟨v9, y9, rfl, hd9, hg9⟩
      have g79 := gb_trans hg8 hg9
      have hr9 := hd9.re
      obtain ⟨A9, n9, c9, rfl⟩ := hr9.val
      clear hd9 hg8a hg8b
      go_wp2_with fail
      refine (eqEntryS_any _ _ es w9 (hre7.new g79) hr9).mono ?_
      rintro e w10 ⟨rfl, hg10⟩
      have g710 := gb_trans g79 hg10
      have g10 := gb_trans g7 g710
      clear hr9 hg8 hg9 hg10 g79 g8 hre7
      go_wp2_with fail
      refine (toIntSS_any w.heap.size _ rows w10 (hr.new g10 (Nat.le_refl _)) g10.size Hl.out).mono ?_
      rintro e w11 ⟨v11, rfl, hd11, hg11⟩
      have g711 := gb_trans g710 hg11
      have hr11 := hd11.rl
      obtain ⟨A11, n11, c11, rfl⟩ := hr11.val
      clear hd11
      go_wp2_with fail
      refine (eqIntSS_any _ _ rows w11 (hrl7.new g711) hr11).mono ?_
      rintro e w12 ⟨rfl, hg12⟩
      have g712 := gb_trans g711 hg12
      have g412 := gb_trans g47 g712
      have gw12 := gb_trans g7 g712
      have hx12 := hx7.new g712
      have ho12 := ho7.new g712
      have we12 := we7.mi (MI.of_new (lo := 0) (hi := 0) g712)
      have wl12 := wl7.mi (MI.of_new (lo := 0) (hi := 0) g712)
      clear hr11 hg11 hg12 g711 g710 g10 hrl7 ho7 hx7 we7 wl7 g712 g47 g7
      go_wp2_with fail
      refine (markEntryS_any w4.heap.size w5.heap.size _ n5 1 w12 we12 (by omega) _).mono ?_
      rintro e w13 ⟨⟨k, rfl, hk⟩, hz13⟩
      have g413 := hz13.gb g412 (Nat.le_refl _)
      have gw13 := hz13.gb gw12 hs4
      have ho13 := ho12.zone hz13 hs6
      have hx13 := hx12.zone hz13 hs6
      have wl13 := wl12.zone hz13 (Nat.le_refl _)
      clear we12 wl12 hz13 g412 gw12 ho12 hx12
      go_wp2_with fail
      refine (markIntSS_any w5.heap.size w6.heap.size _ n6 k w13 wl13 (by omega) _).mono ?_
      rintro e w14 ⟨⟨k2, rfl, hk2⟩, hM14⟩
      have g414 := hM14.z.gb g413 hs5
      have gw14 := hM14.z.gb gw13 (by omega)
      have ho14 := ho13.zone hM14.z (Nat.le_refl _)
      have hx14 := hx13.zone hM14.z (Nat.le_refl _)
      clear wl13 hM14 g413 gw13 ho13 hx13
      go_wp2_with fail
      refine (eqEntryS_any _ _ nx w14 hx14.re (he4.new g414)).mono ?_
      rintro e w15 ⟨rfl, hg15⟩
      have g415 := gb_trans g414 hg15
      go_wp2_with fail
      refine (eqIntS_any _ _ out w15 (ho14.new hg15).ri (hi4.new g415)).mono ?_
      rintro e w16 ⟨rfl, hg16⟩
      have g1416 := gb_trans hg15 hg16
      have g416 := gb_trans g414 g1416
      have gw16 := gb_trans gw14 g1416
      have ho16 := ho14.new g1416
      have hx16 := hx14.new g1416
      have hap7 : Apart y7.flatten := (List.pairwise_cons.1 hap).2
      have huv : ∀ u ∈ y7.flatten, ∀ b, u.ownBlock = some b → (Value.slice A8 n8 c8).ownBlock ≠ some b := fun u hu b hb hb' => (List.pairwise_cons.1 hap).1 u hu b hb' hb
      have Huv := Lib.hid huv
      clear hg15 hg16 g1416 g414 gw14 ho14 hx14 g415 huv hap
      go_wp2_with fail
      refine (markEntryS_own w6.heap.size _ nx y7 1 w16 hx16 hap7 hsz (by omega) Hfit.out _).mono ?_
      rintro e w17 ⟨rfl, hx17, hS17⟩
      have hz17 : Zn w6.heap.size w16.heap.size w16 w17 := hS17.zn (fun b hb => by
        rcases hb with hb | ⟨u, hu, hb⟩
        · exact hx16.lt b hb
        · exact hx16.lts u hu b hb)
      have g417 := hz17.gb g416 (by omega)
      have gw17 := hz17.gb gw16 (by omega)
      have ho17 := ho16.gs hS17 (fun b hb hb' => by
        rcases hb' with hb' | ⟨u, hu, hb'⟩
        · obtain ⟨cur, hc⟩ := ho16.blk hb
          exact hx16.own.notE (E := 3) (by decide) b hb' cur hc
        · exact Huv.out u hu b hb' hb)
      have wi17 := ho17.wi (lo := w6.heap.size) (hi := w17.heap.size) (Nat.le_refl _) (Nat.le_refl _) (by omega)
      rw [← Hn8.out] at wi17 hol
      clear hS17 hz17 g416 gw16 ho16 hx16
      go_wp2_with fail
      refine (markIntS_any w6.heap.size w17.heap.size _ n8 (1 + sizeEs nx) w17 wi17 (by omega) _).mono ?_
      rintro e w18 ⟨rfl, hM, hgr, hO⟩
      have ho18 := hO _ _ ho17
      have hx18 := hx17.gsAll (GS.of_gb hgr) (fun b hb => ho17.blk hb) (fun u hu b hb hb' => Huv.out u hu b hb hb')
      have g418 := hM.z.gb g417 (by omega)
      have gw18 := hM.z.gb gw17 (by omega)
      clear hM hO hgr ho17 hx17 g417 gw17 wi17
      go_wp2_with fail
      refine (heldEntryS_any _ nx 1 w18 hx18.re hsz (by omega) Hfit.out _).mono ?_
      rintro e w19 ⟨rfl, rfl⟩
      go_wp2_with fail
      refine (heldIntS_any _ n8 (1 + sizeEs nx) w18 ho18.ri (by omega) (by omega) _).mono ?_
      rintro e w19 ⟨rfl, rfl⟩
      go_wp2_with fail
      refine (toEntryS_any w.heap.size _ es w18 (h.new gw18 (Nat.le_refl _)) gw18.size Hf.out).mono ?_
      rintro e w19 ⟨v19, y19, rfl, hd19, hg19⟩
      have gw19 := gb_trans gw18 hg19
      have hr19 := hd19.re
      obtain ⟨A19, n19, c19, rfl⟩ := hr19.val
      clear hd19
      go_wp2_with fail
      refine (toIntSS_any w.heap.size _ rows w19 (hr.new gw19 (Nat.le_refl _)) gw19.size Hl.out).mono ?_
      rintro e w20 ⟨v20, rfl, hd20, hg20⟩
      have hr20 := hd20.rl
      obtain ⟨A20, n20, c20, rfl⟩ := hr20.val
      clear hd20
      go_wp2_with fail
      refine (Him.out _ _ _ (hr19.new hg20) hr20).mono ?_
      rintro e w21 ⟨v21, u21, y21, rfl, hx21, ho21, -, hg21⟩
      have g1821 := gb_trans (gb_trans hg19 hg20) hg21
      have g421 := gb_trans g418 g1821
      have gw21 := gb_trans gw18 g1821
      have ho1821 := ho18.new g1821
      have hx1821 := hx18.new g1821
      have he21 := hx21.re
      have hi21 := ho21.ri
      obtain ⟨A21, n21, c21, rfl⟩ := he21.val
      obtain ⟨A22, n22, c22, rfl⟩ := hi21.val
      clear hg19 hg20 hg21 gw19 hr19 hr20 ho18 hx18 g1821 g418 gw18 hx21 ho21
      go_wp2_with fail
      refine (eqEntryS_any _ _ nx w21 he21 (he4.new g421)).mono ?_
      rintro e w22 ⟨rfl, hg22⟩
      go_wp2_with fail
      refine (eqIntS_any _ _ out w22 (hi21.new hg22) (hi4.new (gb_trans g421 hg22))).mono ?_
      rintro e w23 ⟨rfl, hg23⟩
      have g2123 := gb_trans hg22 hg23
      have ho23 := ho1821.new g2123
      have hx23 := hx1821.new g2123
      have gw23 := gb_trans gw21 g2123
      clear hg22 hg23 g2123 ho1821 hx1821 g421 gw21 he21 hi21
      go_wp2_with fail
      refine (heldEntryS_any _ nx 1 w23 hx23.re hsz (by omega) Hfit.out _).mono ?_
      rintro e w24 ⟨rfl, rfl⟩
      go_wp2_with fail
      refine (heldIntS_any _ n8 (1 + sizeEs nx) w23 ho23.ri (by omega) (by omega) _).mono ?_
      rintro e w24 ⟨rfl, rfl⟩
      go_wp2_with fail
      go_ret
      exact ⟨rfl, gw23⟩
    · clear hy3
      go_wp2_with fail
      go_ret
      exact ⟨rfl, hg1⟩
  · clear hz3
    go_wp2_with fail
    go_ret
    exact ⟨rfl, hg1⟩
end Go.Proofs.Ytjlnhijabdkagaa

/- Walks: spec.CacheRun. -/
import Derived.Test.YtjlnhijabdkagaaS8Copy
import Derived.Test.YtjlnhijabdkagaaA14Cache
namespace Go.Proofs.Ytjlnhijabdkagaa
open Go.RowKit

def RunOut (w : World) (r : Option (List Ent × List Int × Bool)) (e : Ending) (w' : World) : Prop :=
  ∃ ov uv, e = .returned (.tuple #[ov, uv, .bool ((r.map fun x => x.2.2).getD false), .bool r.isSome]) ∧ OwnE w' w.heap.size ov ((r.map fun x => x.1).getD []) ∧ OwnI w' w.heap.size uv ((r.map fun x => x.2.1).getD []) ∧ w.grownBy w' none
set_option maxHeartbeats 1600000 in
set_option maxRecDepth 20000 in
theorem specCacheRun_any (v rv : Value) (es : List Ent) (kind : Int) (rows : List (List Int)) (w : World) (h : RE w v es) (hr : RL w rv rows) :
    Calls Try.prog 58 #[v, .int .i64 kind, rv] w (RunOut w (cacheRun es kind rows)) := by
  obtain ⟨A, n, c, rfl, _, hn, hnx⟩ := h.form'
  obtain ⟨Ar, nr, cr, rfl⟩ := hr.val
  have Hn := Lib.hid hn
  by_cases hv : cacheValid es = true
  · have Hv := Lib.hid hv
    have hn4 : n ≤ 4 := by rw [hn]; exact valid_len hv
    cases hk : kindRun kind rows with
    | none =>
      have Hr : Hid (cacheRun es kind rows = none) := run_none (.inr hk)
      have Hk := Lib.hid hk
      clear hv hk hn
      go_enter Try.func58, Try.ntmps58
      go_wp2_with fail
      refine (specKindRun_any kind _ rows _ hr).mono ?_
      rw [Hk.out]
      rintro e' w1 ⟨u, rfl, hu, hg1⟩
      obtain ⟨A4, n4, c4, rfl⟩ := hu.ri.val
      go_wp2_with fail
      refine (specCacheValid_b _ es _ (h.new hg1) Hv.out).mono ?_
      rintro e' w2 ⟨rfl, hg2⟩
      have hg3 := gb_trans hg1 hg2
      go_wp2_with fail
      refine bodyPost_ret (v := .tuple #[.slice (some ⟨w2.heap.size, 0, none⟩) 0 0, .slice (some ⟨w2.heap.size + 1, 0, none⟩) 0 0, .bool false, .bool false]) (by simp [results, Try.results58, go_sem]) rfl ?_
      refine ⟨_, _, by rw [Hr.out]; rfl, by rw [Hr.out]; exact (OwnE.empty w2 hg3.size).alloc _, ?_, gb_alloc (gb_alloc hg3 _) _⟩
      rw [Hr.out]
      have := OwnI.empty (base := w.heap.size) (w2.alloc (.cells #[] 62)) (by rw [World.size_alloc]; have := hg3.size; omega)
      rw [World.size_alloc] at this
      exact this
    | some out =>
      have Hr : Hid (cacheRun es kind rows = some (cacheNext es kind rows out, out, es.any (entIs kind rows))) := run_eq hv hk
      have Hk := Lib.hid hk
      have hcp := copy_ok hk
      have Hcp := Lib.hid hcp
      have Hany : Hid (es.any (entIs kind rows) = decide (0 ≤ cacheAt es kind rows)) := at_any.symm
      clear hv hk hn hcp
      obtain ⟨z, hz⟩ : ∃ z, z = cacheAt es kind rows := ⟨_, rfl⟩
      have Hz := Lib.hid hz
      rw [← hz] at Hany
      clear hz
      go_enter Try.func58, Try.ntmps58
      go_wp2_with fail
      refine (specKindRun_any kind _ rows _ hr).mono ?_
      rw [Hk.out]
      rintro e' w1 ⟨u, rfl, hu, hg1⟩
      have hu1 : OwnI w1 w.heap.size u out := hu
      clear hu
      obtain ⟨A4, n4, c4, rfl⟩ := hu1.ri.val
      go_wp2_with fail
      refine (specCacheValid_b _ es _ (h.new hg1) Hv.out).mono ?_
      rintro e' w2 ⟨rfl, hg2⟩
      have hg3 := gb_trans hg1 hg2
      have hu2 := hu1.new hg2
      go_wp2_with fail
      refine (l33At_any _ _ es kind rows _ (h.new hg3) (hr.new hg3)).mono ?_
      rw [← Hz.out]
      rintro e' w3 ⟨rfl, hg4⟩
      have hg5 := gb_trans hg3 hg4
      have hu3 := hu2.new hg4
      go_wp2_with fail
      refine (l33Copy_any _ _ ⟨kind, rows, out⟩ _ (hr.new hg5) hu3.ri Hcp.out.1 Hcp.out.2.1 Hcp.out.2.2).mono ?_
      rintro e' w5 ⟨u5, rfl, ⟨r5, o5, rfl, hr5, ho5⟩, hg6⟩
      have hg7 := gb_trans hg5 hg6
      have hu5 := hu3.new hg6
      have hO := OwnE.one (e := ⟨kind, rows, out⟩) hg7.size hr5 ho5
      have hg8 := gb_alloc hg7 (.cells #[.int .i64 kind, r5, o5] 62)
      have hu8 := hu5.alloc (.cells #[.int .i64 kind, r5, o5] 62)
      clear hg1 hg2 hg3 hg4 hg5 hg6 hu1 hu2 hu3 hu5
      obtain ⟨B1, m1, d1, rfl⟩ := hr5.val
      obtain ⟨B2, m2, d2, rfl⟩ := ho5.val
      go_wp2_with fail
      go_loopg [13, 14] (n + 1) (fun mm o i wr => ∃ k : Nat, k ≤ n ∧ mm = n + 1 - k ∧ i = .int .i64 k ∧ OwnE wr w.heap.size o (⟨kind, rows, out⟩ :: keptTo es kind rows k) ∧ (keptTo es kind rows k).length ≤ 3 ∧ OwnI wr w.heap.size (.slice A4 n4 c4) out ∧ w.grownBy wr none)
      case atStart => exact ⟨0, Nat.zero_le _, rfl, rfl, hO, by simp [keptTo], hu8, hg8⟩
      case round =>
        clear hO hg7 hg8 hu8 hr5 ho5
        obtain ⟨k, hk, rfl, rfl, ho, hl3, hu, hg⟩ := hrel
        obtain ⟨Ao, no, co, rfl⟩ := ho.re.val
        have hno : no = (keptTo es kind rows k).length + 1 := ho.re.len
        by_cases hlt : k < n
        · by_cases h4 : (keptTo es kind rows k).length = 3
          · have Hfin : Hid (cacheNext es kind rows out = ⟨kind, rows, out⟩ :: keptTo es kind rows k) := next_kept hl3 (.inl h4)
            have hfin : OwnE wr w.heap.size (.slice Ao no co) (cacheNext es kind rows out) := by rw [Hfin.out]; exact ho
            obtain rfl : no = 4 := by omega
            clear hno h4 hl3
            go_wp2_with fail
            refine bodyPost_ret (v := .tuple #[.slice Ao 4 co, .slice A4 n4 c4, .bool (decide (0 ≤ z)), .bool true]) (by simp [results, Try.results58, go_sem]) rfl ?_
            refine ⟨_, _, by rw [Hr.out, Hany.out]; rfl, by rw [Hr.out]; exact hfin, by rw [Hr.out]; exact hu, hg⟩
          · have hno4 : no < 4 := by omega
            obtain ⟨g, o, e, C1, p1, f1, C2, p2, f2, rfl, he, d0, d1', d2', hrows, hout⟩ := (h.new hg).at_ hlt
            have Hat : Hid ((k : Int) = z ↔ entIs kind rows e = true) := by rw [Hz.out]; exact at_iff Hv.out he
            have He := Lib.hid he
            have Hno := Lib.hid hno
            have Hok := Lib.hid (copy_ok (ent_ok Hv.out (List.mem_of_getElem? he)))
            clear he hno
            by_cases hkz : (k : Int) = z
            · have Hkp : Hid (keptTo es kind rows (k + 1) = keptTo es kind rows k) := kept_in He.out (Hat.out.1 hkz)
              have hb1 : ((k : Int) != z) = false := by simpa using hkz
              rw [← Hkp.out] at ho hl3
              clear Hkp Hat hkz
              go_wp2_with fail
              go_roundg (n + 1 - (k + 1))
              case measure => omega
              case rel => exact ⟨k + 1, by omega, rfl, by go_num, ho, hl3, hu, hg⟩
            · have Hkp : Hid (keptTo es kind rows (k + 1) = keptTo es kind rows k ++ [e]) := kept_out He.out (by
                rw [Bool.eq_false_iff]
                exact fun hc => hkz (Hat.out.2 hc))
              have hb1 : ((k : Int) != z) = true := by simpa using hkz
              have hlen : ((⟨kind, rows, out⟩ : Ent) :: keptTo es kind rows k).length ≤ 1000000000 := by rw [List.length_cons]; omega
              have hl32 : (keptTo es kind rows (k + 1)).length ≤ 3 := by rw [Hkp.out, List.length_append]; simp; omega
              clear Hat hkz
              go_wp2_with fail
              refine (l33Copy_any _ _ e _ hrows hout Hok.out.1 Hok.out.2.1 Hok.out.2.2).mono ?_
              rintro e' w5 ⟨u5, rfl, ⟨r5, o5, rfl, hr5, ho5⟩, hg6⟩
              have hg7 := gb_trans hg hg6
              have ho7 := ho.new hg6
              have hu7 := hu.new hg6
              obtain ⟨B1, m1, d1, rfl⟩ := hr5.val
              obtain ⟨B2, m2, d2, rfl⟩ := ho5.val
              go_wp2_with (at_builtin; go_must (refine wp_push_ent (.tmp 54) (.tmp 60) rfl rfl ho7 hr5 ho5 hlen hg7.size rfl rfl ?_))
              intro v' w8 ho8 hg8
              have hu8 := hu7.grown hg8 (ho7.notE (by decide))
              have hg9 := ho7.gb hg7 hg8 (Nat.le_refl _)
              rw [← Hkp.out] at ho8
              go_wp2_with fail
              go_roundg (n + 1 - (k + 1))
              case measure => omega
              case rel => exact ⟨k + 1, by omega, rfl, by go_num, ho8, hl32, hu8, hg9⟩
        · obtain rfl : k = n := by omega
          have Hfin : Hid (cacheNext es kind rows out = ⟨kind, rows, out⟩ :: keptTo es kind rows k) := next_kept hl3 (.inr Hn.out)
          have hfin : OwnE wr w.heap.size (.slice Ao no co) (cacheNext es kind rows out) := by rw [Hfin.out]; exact ho
          clear hno hl3
          go_wp2_with fail
          refine bodyPost_ret (v := .tuple #[.slice Ao no co, .slice A4 n4 c4, .bool (decide (0 ≤ z)), .bool true]) (by simp [results, Try.results58, go_sem]) rfl ?_
          refine ⟨_, _, by rw [Hr.out, Hany.out]; rfl, by rw [Hr.out]; exact hfin, by rw [Hr.out]; exact hu, hg⟩
  · have hv' : cacheValid es = false := by simpa using hv
    have Hv := Lib.hid hv'
    have Hr : Hid (cacheRun es kind rows = none) := run_none (.inl hv')
    clear hv hv' hn
    cases hk : kindRun kind rows with
    | none =>
      have Hk := Lib.hid hk
      clear hk
      go_enter Try.func58, Try.ntmps58
      go_wp2_with fail
      refine (specKindRun_any kind _ rows _ hr).mono ?_
      rw [Hk.out]
      rintro e' w1 ⟨u, rfl, hu, hg1⟩
      obtain ⟨A4, n4, c4, rfl⟩ := hu.ri.val
      go_wp2_with fail
      refine (specCacheValid_b _ es _ (h.new hg1) Hv.out).mono ?_
      rintro e' w2 ⟨rfl, hg2⟩
      have hg3 := gb_trans hg1 hg2
      go_wp2_with fail
      refine bodyPost_ret (v := .tuple #[.slice (some ⟨w2.heap.size, 0, none⟩) 0 0, .slice (some ⟨w2.heap.size + 1, 0, none⟩) 0 0, .bool false, .bool false]) (by simp [results, Try.results58, go_sem]) rfl ?_
      refine ⟨_, _, by rw [Hr.out]; rfl, by rw [Hr.out]; exact (OwnE.empty w2 hg3.size).alloc _, ?_, gb_alloc (gb_alloc hg3 _) _⟩
      rw [Hr.out]
      have := OwnI.empty (base := w.heap.size) (w2.alloc (.cells #[] 62)) (by rw [World.size_alloc]; have := hg3.size; omega)
      rw [World.size_alloc] at this
      exact this
    | some out =>
      have Hk := Lib.hid hk
      clear hk
      go_enter Try.func58, Try.ntmps58
      go_wp2_with fail
      refine (specKindRun_any kind _ rows _ hr).mono ?_
      rw [Hk.out]
      rintro e' w1 ⟨u, rfl, hu, hg1⟩
      obtain ⟨A4, n4, c4, rfl⟩ := hu.ri.val
      go_wp2_with fail
      refine (specCacheValid_b _ es _ (h.new hg1) Hv.out).mono ?_
      rintro e' w2 ⟨rfl, hg2⟩
      have hg3 := gb_trans hg1 hg2
      go_wp2_with fail
      refine bodyPost_ret (v := .tuple #[.slice (some ⟨w2.heap.size, 0, none⟩) 0 0, .slice (some ⟨w2.heap.size + 1, 0, none⟩) 0 0, .bool false, .bool false]) (by simp [results, Try.results58, go_sem]) rfl ?_
      refine ⟨_, _, by rw [Hr.out]; rfl, by rw [Hr.out]; exact (OwnE.empty w2 hg3.size).alloc _, ?_, gb_alloc (gb_alloc hg3 _) _⟩
      rw [Hr.out]
      have := OwnI.empty (base := w.heap.size) (w2.alloc (.cells #[] 62)) (by rw [World.size_alloc]; have := hg3.size; omega)
      rw [World.size_alloc] at this
      exact this
end Go.Proofs.Ytjlnhijabdkagaa

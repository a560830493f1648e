/- Walks: spec.l91Node. -/
import Derived.Test.YthampfkicnakgaaGreatDoorA3Mem
import Derived.Test.YthampfkicnakgaaGreatDoorB1Rows
import Derived.Test.YthampfkicnakgaaGreatDoorB4Row
import Derived.Deep.RegionHeld3
import Derived.Deep.AppendLies
import Derived.Deep.RegionLaw
import Derived.Deep.DeepCutAuto
namespace Go.Proofs.YthampfkicnakgaaGreatDoor
open Go.RowKit

def NodePost (B0 rb : Nat) (w : World) (p : Int) (e : Ending) (w' : World) : Prop :=
  ∃ v nd, e = .returned v ∧ NV w' v nd ∧ nd.frm.length ≤ 2 ∧ nd.row.length ≤ 20 ∧ ∃ p', p ≤ p' ∧ p' ≤ p + 100 ∧ Rdr B0 w' rb p' ∧ w.grownBy w' (some rb)

/-- The node in the making lies in block xb, the result's cell in block R. -/
structure NodeMid (B0 rb xb R : Nat) (w wx : World) (kind : Int) (fv rv : Value) (frm row : List Int) (q : Int) : Prop where
  x : Blk wx xb 66 #[.int .i64 kind, fv, rv]
  f : OwnI wx w.heap.size fv frm
  r : RI wx rv row
  res : Blk wx R 66 #[.int .i64 0, .slice none 0 0, .slice none 0 0]
  ne : R ≠ xb
  rd : Rdr B0 wx rb q
  g : w.grownBy wx (some rb)
  xb : w.heap.size ≤ xb
  rbl : w.heap.size ≤ R
  hB : B0 ≤ w.heap.size

/-- A store into the node in the making. -/
theorem NodeMid.store {B0 rb xb R : Nat} {w wx : World} {kind kind' : Int} {fv rv fv' rv' : Value} {frm row frm' row' : List Int} {q : Int} (M : NodeMid B0 rb xb R w wx kind fv rv frm row q) (j : Nat) (u : Value)
    (hc : (#[.int .i64 kind, fv, rv] : Array Value).setIfInBounds j u = #[.int .i64 kind', fv', rv']) (hf : OwnI wx w.heap.size fv' frm') (hr : RI wx rv' row') :
    NodeMid B0 rb xb R w (wx.setCell ⟨xb, j, none⟩ u) kind' fv' rv' frm' row' q := by
  have hg : wx.grownBy (wx.setCell ⟨xb, j, none⟩ u) (some xb) := gb_set (gb_refl wx (some xb)) (.inr rfl) u
  have hn : NotE wx 3 (some xb) := NotE.blk M.x (by decide)
  refine ⟨by rw [← hc]; exact M.x.set_ j u, hf.grown hg hn, hr.grown hg hn, M.res.far M.ne u, M.ne, M.rd.kept hg ?_, gb_set M.g (.inl M.xb) u, M.xb, M.rbl, M.hB⟩
  intro g e
  cases e
  obtain ⟨bv, hb⟩ := M.rd.blk
  exact ⟨Nat.le_trans M.hB M.xb, M.x.ne_ hb (by decide)⟩

/-- A call that may turn the reader's block alone. -/
theorem NodeMid.call {B0 rb xb R : Nat} {w wx wy : World} {kind : Int} {fv rv : Value} {frm row : List Int} {q q' : Int} (M : NodeMid B0 rb xb R w wx kind fv rv frm row q) (hg : wx.grownBy wy (some rb)) (hrd : Rdr B0 wy rb q') :
    NodeMid B0 rb xb R w wy kind fv rv frm row q' := by
  have ne : ∀ {g : Nat} {cs : Array Value}, Blk wx g 66 cs → some g ≠ some rb := fun hb e => by
    obtain ⟨bv, hbb⟩ := M.rd.blk
    cases e
    exact hb.ne_ hbb (by decide) rfl
  exact ⟨M.x.grown hg (ne M.x), M.f.grown hg (M.rd.notE (by decide)), M.r.grown hg (M.rd.notE (by decide)), M.res.grown hg (ne M.res), M.ne, hrd, gb_trans M.g hg, M.xb, M.rbl, M.hB⟩

theorem NodeMid.drew {B0 rb xb R : Nat} {w wx : World} {kind : Int} {fv rv : Value} {frm row : List Int} {q : Int} (M : NodeMid B0 rb xb R w wx kind fv rv frm row q) : NodeMid B0 rb xb R w wx.drew kind fv rv frm row q :=
  ⟨M.x, M.f, M.r, M.res, M.ne, M.rd, gb_drew M.g, M.xb, M.rbl, M.hB⟩

theorem NodeMid.alloc {B0 rb xb R : Nat} {w wx : World} {kind : Int} {fv rv : Value} {frm row : List Int} {q : Int} (M : NodeMid B0 rb xb R w wx kind fv rv frm row q) (o : Obj) : NodeMid B0 rb xb R w (wx.alloc o) kind fv rv frm row q :=
  M.call (gb_alloc (gb_refl wx _) o) (M.rd.new (World.grownBy_alloc _ _ _))
/-- Behind an append onto the node's From, and its store. -/
theorem NodeMid.push {B0 rb xb R : Nat} {w wx wy : World} {kind : Int} {fv rv : Value} {frm frm' : List Int} {q : Int} (M : NodeMid B0 rb xb R w wx kind fv rv frm [] q) (hg : wx.grownBy wy fv.ownBlock) {v' : Value} (ho : OwnI wy w.heap.size v' frm') :
    wy.cell? ⟨xb, 1, none⟩ = some fv ∧ wy.frozen? ⟨xb, 1, none⟩ = false ∧ NodeMid B0 rb xb R w (wy.setCell ⟨xb, 1, none⟩ v') kind v' rv frm' [] q := by
  have hne : ∀ {g : Nat} {cs : Array Value}, Blk wx g 66 cs → some g ≠ fv.ownBlock := fun hb e => M.f.notE (by decide) _ e.symm _ hb
  have hrd : Rdr B0 wy rb q := M.rd.own M.f (by decide) M.hB hg
  have hx := M.x.grown hg (hne M.x)
  have hst : wy.grownBy (wy.setCell ⟨xb, 1, none⟩ v') (some xb) := gb_set (gb_refl wy (some xb)) (.inr rfl) _
  refine ⟨hx.cell 1, hx.frozen 1, hx.set_ 1 v', ho.grown hst (NotE.blk hx (by decide)), M.r.empty _, (M.res.grown hg (hne M.res)).far M.ne _, M.ne, ?_, gb_set (M.f.gb M.g hg (Nat.le_refl _)) (.inl M.xb) _, M.xb, M.rbl, M.hB⟩
  refine hrd.kept hst ?_
  intro g e
  cases e
  obtain ⟨bv, hb⟩ := hrd.blk
  exact ⟨Nat.le_trans M.hB M.xb, hx.ne_ hb (by decide)⟩

set_option maxHeartbeats 400000 in
set_option maxRecDepth 20000 in
theorem l91Node_any (B0 rb : Nat) (p : Int) (at_ : Int) (n : Nat) (w : World) (h : Rdr B0 w rb p) (hp0 : 0 ≤ p) (hp : p ≤ 800000) (hn : n ≤ 20) :
    Calls Tryz.prog 57 #[.pointer (some ⟨rb, 0, none⟩), .int .i64 at_, .int .i64 n] w (NodePost B0 rb w p) := by
  have hB : B0 ≤ w.heap.size := by obtain ⟨_, _, _, _, _, h4, _⟩ := h; exact h4
  go_enter Tryz.func57, Tryz.ntmps57
  go_wp2_with fail
  refine (pick_any B0 rb p _ _ (h.new (World.grownBy_alloc _ _ _)) (by omega) (by omega)).mono ?_
  rintro e w1 ⟨r1, rfl, hr1, _, hrd1, hg1⟩
  have h1 := hr1 (by omega)
  have hres := (Blk.new w 66 #[.int .i64 0, .slice none 0 0, .slice none 0 0]).grown hg1 (by have := h.lt; intro e; cases e; omega)
  have hsz := hg1.size
  simp only [World.size_alloc] at hsz
  have hg01 : w.grownBy w1 (some rb) := gb_trans (gb_alloc (gb_refl w _) _) hg1
  have M : NodeMid B0 rb (w1.heap.size + 1 + 1) w.heap.size w (((w1.alloc (.cells #[] 3)).alloc (.cells #[] 3)).alloc (.cells #[.int .i64 r1, .slice (some ⟨w1.heap.size, 0, none⟩) 0 0, .slice (some ⟨w1.heap.size + 1, 0, none⟩) 0 0] 66)) r1
      (.slice (some ⟨w1.heap.size, 0, none⟩) 0 0) (.slice (some ⟨w1.heap.size + 1, 0, none⟩) 0 0) [] [] (p + 1) := by
    refine ⟨?_, ?_, ?_, ?_, by omega, ?_, ?_, by omega, by omega, hB⟩
    · have := Blk.new ((w1.alloc (.cells #[] 3)).alloc (.cells #[] 3)) 66 #[.int .i64 r1, .slice (some ⟨w1.heap.size, 0, none⟩) 0 0, .slice (some ⟨w1.heap.size + 1, 0, none⟩) 0 0]
      simpa using this
    · exact ((OwnI.empty w1 (by omega)).alloc _).alloc _
    · have := ((OwnI.empty (base := 0) (w1.alloc (.cells #[] 3)) (by omega)).alloc (.cells #[.int .i64 r1, .slice (some ⟨w1.heap.size, 0, none⟩) 0 0, .slice (some ⟨w1.heap.size + 1, 0, none⟩) 0 0] 66)).ri
      simpa using this
    · exact ((hres.alloc _).alloc _).alloc _
    · exact ((hrd1.new (World.grownBy_alloc _ _ _)).new (World.grownBy_alloc _ _ _)).new (World.grownBy_alloc _ _ _)
    · exact gb_alloc (gb_alloc (gb_alloc hg01 _) _) _
  clear hres hr1
  go_upto_if 15 with fail
  generalize (((w1.alloc (.cells #[] 3)).alloc (.cells #[] 3)).alloc (.cells #[.int .i64 r1, .slice (some ⟨w1.heap.size, 0, none⟩) 0 0, .slice (some ⟨w1.heap.size + 1, 0, none⟩) 0 0] 66)) = wa at M ⊢
  go_cut [] (fun wx => ∃ (kind : Int) (fv rv : Value), 0 ≤ kind ∧ kind ≤ 5 ∧ NodeMid B0 rb (w1.heap.size + 1 + 1) w.heap.size w wx kind fv rv [] [] (p + 1))
  case first =>
    by_cases hat : at_ = 0
    · have c0 := M.x.cell 0
      have f0 := M.x.frozen 0
      have M0 := M.store 0 (.int .i64 0) rfl M.f M.r
      go_wp2_with fail
      go_meet
      exact ⟨0, _, _, by omega, by omega, M0⟩
    · go_wp2_with fail
      go_meet
      exact ⟨r1, _, _, by omega, by omega, M⟩
  case rest =>
    obtain ⟨kind, fv, rv, hk0, hk5, M⟩ := hcut
    generalize w1.heap.size + 1 + 1 = xb at M ⊢
    have c0 : wc.cell? ⟨xb, 0, none⟩ = some (.int .i64 kind) := M.x.cell 0
    go_upto_if 19 with fail
    clear c0
    go_cut [] (fun wx => ∃ (rv : Value) (row : List Int) (q : Int), row.length ≤ 20 ∧ (kind ≠ 0 → row = []) ∧ p + 1 ≤ q ∧ q ≤ p + 70 ∧ NodeMid B0 rb xb w.heap.size w wx kind fv rv [] row q)
    case first =>
      by_cases hk : kind = 0
      · go_wp2_with fail
        refine (l91Row_any B0 rb _ n _ M.rd (by omega) (by omega) hn).mono ?_
        rintro e w2 ⟨v, row, rfl, hri, hl, _, q, hq1, hq2, hrd2, hg2⟩
        have hl20 : row.length ≤ 20 := by omega
        clear hl
        obtain ⟨A, m, c, rfl⟩ := hri.val
        have M2 := M.call hg2 hrd2
        have c2 := M2.x.cell 2
        have f2 := M2.x.frozen 2
        have M3 := M2.store 2 _ rfl M2.f hri
        clear M M2
        go_wp2_with fail
        go_meet
        exact ⟨_, row, q, hl20, by omega, by omega, by omega, M3⟩
      · go_wp2_with fail
        go_meet
        exact ⟨_, _, _, by simp, fun _ => rfl, by omega, by omega, M⟩
    case rest =>
      clear M
      obtain ⟨rv, row, q, hrow, hkr, hq1, hq2, M⟩ := hcut
      have Hkr := Lib.hid hkr
      clear hkr
      have hkn := kindNeeds_le kind
      have hkn0 : 0 ≤ kindNeeds kind := kindNeeds_nonneg hk0 hk5
      go_wp2_with fail
      go_loopw [8] (fun i wr => ∃ (k : Nat) (fv : Value) (frm : List Int) (q' : Int), (k : Int) ≤ kindNeeds kind ∧ i = .int .i64 k ∧ frm.length = k ∧ q ≤ q' ∧ q' ≤ q + k ∧ NodeMid B0 rb xb w.heap.size w wr kind fv rv frm row q') (fun i _ => (kindNeeds kind - intOf i).toNat)
      case atStart => exact ⟨0, fv, [], q, by omega, rfl, rfl, by omega, by omega, M⟩
      case round =>
        clear M
        obtain ⟨k, fv, frm, q', hk, rfl, hl, hq3, hq4, M⟩ := hrel
        have hl2 : frm.length ≤ 2 := by omega
        have Hl := Lib.hid hl
        clear hl
        have c0 : wr.cell? ⟨xb, 0, none⟩ = some (.int .i64 kind) := M.x.cell 0
        by_cases hlt : (k : Int) < kindNeeds kind
        · have hrow0 : row = [] := Hkr.out (by rintro rfl; simp [kindNeeds] at hlt; omega)
          subst hrow0
          go_wp2_with fail
          refine (specKindNeeds_any _ _).mono ?_
          rintro e w2 ⟨rfl, rfl⟩
          go_wp2_with fail
          have c1 : wr.cell? ⟨xb, 1, none⟩ = some fv := M.x.cell 1
          have MD : NodeMid B0 rb xb w.heap.size w wr.drew kind fv rv frm [] q' := M.drew
          have k1 : wr.drew.cell? ⟨xb, 1, none⟩ = some fv := M.x.cell 1
          go_region_law (first
            | (refine step_push_int (.tmp 32) (.tmp 36) rfl rfl M2.f (by omega) M2.g.size rfl rfl ?_; intro v' w4 hown4 hg4; obtain ⟨A4, n4, c4, rfl⟩ := hown4.ri.val; obtain ⟨k2, k3, M4⟩ := M2.push hg4 hown4)
            | (go_simp; go_at_call 23; refine (pick_any B0 rb _ _ _ MD.rd (by omega) (by omega)).mono ?_; rintro e w2 ⟨r2, rfl, hr2, _, hrd2, hg2⟩; have M2 := MD.call hg2 hrd2; have k1 : w2.cell? ⟨xb, 1, none⟩ = some fv := M2.x.cell 1; have k1b : (w2.alloc (.cells #[.int .i64 r2] 3)).cell? ⟨xb, 1, none⟩ = some fv := (M2.alloc _).x.cell 1))
          all_goals
            go_wp2_with fail
            go_roundw
            case rel => exact ⟨k + 1, _, frm ++ [r2], q' + 1, by omega, by go_num, by simp [Hl.out], by omega, by omega, M4⟩
            case measure => simp [intOf]; omega
        · have hfri := M.f.ri
          have hrri := M.r
          obtain ⟨Af, nf, cf, rfl⟩ := hfri.val
          obtain ⟨Ar, nr, cr, rfl⟩ := hrri.val
          go_wp2_with fail
          refine (specKindNeeds_any _ _).mono ?_
          rintro e w2 ⟨rfl, rfl⟩
          have c1 : wr.cell? ⟨xb, 1, none⟩ = some (.slice Af nf cf) := M.x.cell 1
          have c2 : wr.cell? ⟨xb, 2, none⟩ = some (.slice Ar nr cr) := M.x.cell 2
          have d0 := M.res.cell 0
          have d1 := M.res.cell 1
          have d2 := M.res.cell 2
          have f0 := M.res.frozen 0
          have f1 := M.res.frozen 1
          have f2 := M.res.frozen 2
          go_wp2_with fail
          refine bodyPost_ret (v := .agg #[.int .i64 kind, .slice Af nf cf, .slice Ar nr cr]) (by simp [results, Tryz.results57, go_sem, d0, d1, d2]) rfl ?_
          have hst := gb_set3 wr w.heap.size (.int .i64 kind) (.slice Af nf cf) (.slice Ar nr cr)
          have hne : NotE wr 3 (some w.heap.size) := NotE.blk M.res (by decide)
          refine ⟨_, ⟨kind, frm, row⟩, rfl, ⟨_, _, rfl, hfri.grown hst hne, hrri.grown hst hne⟩, hl2, hrow, q', by omega, by omega, M.rd.kept hst ?_, gb_new M.g hst (fun g e => by cases e; exact .inl (Nat.le_refl _))⟩
          intro g e
          cases e
          obtain ⟨bv, hb⟩ := M.rd.blk
          exact ⟨hB, M.res.ne_ hb (by decide)⟩
end Go.Proofs.YthampfkicnakgaaGreatDoor

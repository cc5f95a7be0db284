/- The law FenceRises by a walk: for all lists of owners and of ranges seen it returns true, and nothing that was there is changed. Conditions: none. -/
import Derived.Test.YtgalahnockmgpaaOne
import Derived.Deep.RegionHeld3
import Derived.Deep.DeepCutAuto
import Derived.Deep.LoopGhost
namespace Go.Proofs.Ytgalahnockmgpaa.Rises
open Go.RowKit Go.Proofs.YtgalahnockmgpaaW.PrintWords Go.Proofs.Ytgalahnockmgpaa.PFenceOne Go.Proofs.Ytgalahnockmgpaa.Kit Go.Proofs.Ytgalahnockmgpaa.One

theorem acquire_of (R o a s : Int) (hR0 : 0 ≤ R) (hR : R ≤ 250) : (s = R ∧ 0 ≤ a ∧ fence_Fence_Acquire.f 1 R o a s = some (R + 1, a, 0)) ∨ ∃ z, z ≠ 0 ∧ fence_Fence_Acquire.f 1 R o a s = some (0, 0, z) := by
  unfold fence_Fence_Acquire.f
  simp only [fence_Fence_Acquire.j0]
  have e : wrap64 (R + 1) = R + 1 := by unfold wrap64; omega
  rw [e]
  by_cases h1 : a < 0
  · rw [if_pos h1]; exact Or.inr ⟨1, by decide, if_pos trivial⟩
  · rw [if_neg h1]
    by_cases h2 : a > 8
    · rw [if_pos h2]; exact Or.inr ⟨1, by decide, if_pos trivial⟩
    · rw [if_neg h2]
      by_cases h3 : s < 0
      · rw [if_pos h3]; exact Or.inr ⟨1, by decide, if_pos trivial⟩
      · rw [if_neg h3, decide_eq_false (show ¬ R > 1099511627776 by omega)]
        by_cases h4 : s = R
        · exact Or.inl ⟨h4, by omega, by rw [if_neg (by decide), if_pos h4]⟩
        · exact Or.inr ⟨25, by decide, by rw [if_neg (by decide), if_neg h4]⟩

theorem check_old (R a : Int) : fence_Fence_Check.f (R + 1) a R = some 25 := by
  unfold fence_Fence_Check.f
  rw [if_neg (by omega)]
theorem check_new (R a : Int) (h : 0 ≤ R) : fence_Fence_Check.f (R + 1) a (R + 1) = some 0 := by
  unfold fence_Fence_Check.f
  rw [if_pos rfl, if_neg (by omega)]

set_option maxRecDepth 100000 in
set_option maxHeartbeats 2000000 in
theorem law (a b : Option Addr) (ca cb : Nat) (xs ys : List Int) (w : World) (hx : Ints w .i64 a xs) (hy : Ints w .i64 b ys) (lx : xs.length ≤ 250) (ly : ys.length ≤ 250) :
    Calls Try.prog 3 #[.slice a xs.length ca, .slice b ys.length cb] w (Yes w) := by
  have hu25 := Try.underlying25
  have HX := Lib.hid hx
  have HY := Lib.hid hy
  clear hx hy
  go_enter Try.func3, Try.ntmps3
  go_wp2_with (fail)
  refine (teasellaw17_known.calls 1 true _ known_true).mono ?_
  rintro e w1 ⟨rfl, hb⟩
  have T1 := Lib.hid ((Holds.start w).step hb)
  clear hb
  go_wp2_with (fail)
  have T2 := Lib.hid (T1.out.alloc (fen 25 0 0))
  have hgf := Lib.hid T1.out.bel.size
  generalize w1.heap.size = gf at T2 hgf ⊢
  go_loopg [6] xs.length (fun g i wr => ∃ (k : Nat) (R o : Int), g = xs.length - k ∧ k ≤ xs.length ∧ i = .int .i64 k ∧ 0 ≤ R ∧ R ≤ k ∧ Hid (Holds w [(gf, fen 25 R o)] wr))
  case atStart => exact ⟨0, 0, 0, rfl, by omega, rfl, by omega, by omega, T2⟩
  case round =>
    obtain ⟨k, R, o, rfl, hk, rfl, hR0, hRk, T⟩ := hrel
    clear T1 T2
    by_cases hlt : k < xs.length
    · have cf := fun j => blk_cell (T.out.get 0 rfl) j
      go_upto_if 31 with (fail)
      go_cut [7] (fun v7 wc => (∃ s : Int, v7 = .int .i64 s) ∧ wc = wr)
      case first =>
        by_cases hlt2 : k < ys.length
        · obtain ⟨bb, off, rfl, hbb, hc⟩ := HY.out k hlt2
          have hcy : wr.cell? ⟨bb, off + k, none⟩ = some (.int .i64 ys[k]) := by rw [T.out.bel.cell hbb]; exact hc
          clear hc
          go_wp2_with (fail)
          go_meet
          case rel => exact ⟨⟨_, rfl⟩, rfl⟩
        · go_wp2_with (fail)
          go_meet
          case rel => exact ⟨⟨_, rfl⟩, rfl⟩
      case rest =>
        obtain ⟨⟨s, rfl⟩, rfl⟩ := hcut
        clear cf
        go_upto_region 12 with (fail)
        go_cut [8, 9] (fun v8 v9 wc => ∃ (g : Nat) (x y z : Int), v8 = .pointer (some ⟨g, 0, none⟩) ∧ v9 = .int .i64 z ∧ Hid (fence_Fence_Acquire.f 1 R o xs[k] s = some (x, y, z)) ∧ Hid (Holds w [(g, fen 25 x y), (gf, fen 25 R o)] wc))
        case first =>
          obtain ⟨bb, off, rfl, hbb, hc⟩ := HX.out k hlt
          have hcx : wc.cell? ⟨bb, off + k, none⟩ = some (.int .i64 xs[k]) := by rw [T.out.bel.cell hbb]; exact hc
          clear hc
          obtain ⟨x, y, z, ha⟩ : ∃ x y z, fence_Fence_Acquire.f 1 R o xs[k] s = some (x, y, z) := by
            rcases acquire_of R o xs[k] s hR0 (by omega) with ⟨_, _, h⟩ | ⟨z, _, h⟩
            · exact ⟨_, _, _, h⟩
            · exact ⟨_, _, _, h⟩
          have HA := Lib.hid ha
          clear ha
          have sat : ∀ w', Below wc.heap.size wc w' → Hid (Below wc.heap.size wc w') ∧ w'.cell? ⟨gf, 0, none⟩ = some (.int .i64 R) ∧ w'.cell? ⟨gf, 1, none⟩ = some (.int .i64 o) ∧ w'.cell? ⟨bb, off + k, none⟩ = some (.int .i64 xs[k]) := fun w' h =>
            ⟨h, blk_cell (blk_below (T.out.get 0 rfl) h) 0, blk_cell (blk_below (T.out.get 0 rfl) h) 1, after_cell_of hcx ⟨w', h⟩⟩
          go_region_held3 (fun w' => Hid (Below wc.heap.size wc w') ∧ w'.cell? ⟨gf, 0, none⟩ = some (.int .i64 R) ∧ w'.cell? ⟨gf, 1, none⟩ = some (.int .i64 o) ∧ w'.cell? ⟨bb, off + k, none⟩ = some (.int .i64 xs[k]))
            (first
              | exact sat _ (below_drew (Below.refl _ _))
              | (go_split_ands
                 first
                   | exact sat _ (below_alloc (Hid.out (by assumption)) _)
                   | exact sat _ (below_step (Hid.out (by assumption)) (by assumption))
                   | exact sat _ (below_alloc (below_step (below_drew (Below.refl _ _)) hb) _)
                   | exact sat _ (below_set (below_set (Hid.out (by assumption)) (by simp; done)) (by simp; done))
                   | exact sat _ (below_set (below_set (Hid.out (by assumption)) (by have := hb.size; simpa using this)) (by have := hb.size; simpa using this))))
            (first | (go_at_call 8; refine (fence_Fence_Acquire.calls 1 R o xs[k] s x y z _ HA.out).mono ?_; rintro e w3 ⟨rfl, hb⟩; first | (have kg : w3.heap[wc.heap.size]? = some (.cells #[.int .i64 0, .int .i64 0] 25 (0, 0)) := blk_below (blk_new wc.drew (.cells #[.int .i64 0, .int .i64 0] 25 (0, 0))) hb; have kc := fun j => blk_cell kg j; have kf := fun j => blk_frozen kg j) | skip))
          · go_wp2_with (fail)
            go_meet
            case rel => exact ⟨_, x, y, z, rfl, rfl, HA, (T.out.step (below_step (below_drew (Below.refl _ _)) hb)).alloc (fen 25 x y)⟩
          · go_wp2_with (fail)
            go_meet
            case rel => exact ⟨_, x, y, z, rfl, rfl, HA, Holds.put (Holds.put (((T.out.step (below_drew (Below.refl _ _))).alloc (fen 25 0 0)).step hb) T.out.bel.size (fun p hp => by
              obtain rfl := List.mem_singleton.1 hp
              exact Nat.ne_of_lt (blk_lt (T.out.get 0 rfl))) 0 (.int .i64 x)) T.out.bel.size (fun p hp => by
              obtain rfl := List.mem_singleton.1 hp
              exact Nat.ne_of_lt (blk_lt (T.out.get 0 rfl))) 1 (.int .i64 y)⟩
        case rest =>
          obtain ⟨g, x, y, z, rfl, rfl, HA, T2⟩ := hcut
          clear T
          have cases := acquire_of R o xs[k] s hR0 (by omega)
          rw [HA.out] at cases
          have c0 := fun j => blk_cell (T2.out.get 0 rfl) j
          have c1 := fun j => blk_cell (T2.out.get 1 rfl) j
          rcases cases with ⟨rfl, ha, he⟩ | ⟨z', hz, he⟩
          · simp only [Option.some.injEq, Prod.mk.injEq] at he
            obtain ⟨rfl, rfl, rfl⟩ := he
            obtain ⟨bb, off, rfl, hbb, hc⟩ := HX.out k hlt
            have hcx : wc.cell? ⟨bb, off + k, none⟩ = some (.int .i64 xs[k]) := by rw [T2.out.bel.cell hbb]; exact hc
            clear hc
            go_wp2_with (fail)
            clear c0 c1
            have q0 := fun (q : After wc) => after_cell (T2.out.get 0 rfl) q
            have q1 := fun (q : After wc) => after_cell (T2.out.get 1 rfl) q
            have qx := fun (q : After wc) => after_cell_of hcx q
            refine wp_region_after (by kernel_rfl) (by kernel_rfl) ?_
            repeat (go_big_quiet_step (first
              | (go_at_call 9; with_reducible refine after_calls _ (fence_Fence_Check.calls (s + 1) xs[k] s 25 _ (check_old s xs[k])))
              | (go_at_call 9; with_reducible refine after_calls _ (fence_Fence_Check.calls (s + 1) xs[k] (s + 1) 0 _ (check_new s xs[k] (by omega))))))
            refine wpQuiet_nil ?_
            rintro _ ⟨q, rfl⟩
            have T3 := Lib.hid (T2.out.step q.bel)
            clear q0 q1 qx
            have c0 := fun j => blk_cell (T3.out.get 0 rfl) j
            have c1 := fun j => blk_cell (T3.out.get 1 rfl) j
            have f1 := fun j => blk_frozen (T3.out.get 1 rfl) j
            go_wp2_with (fail)
            go_roundg (xs.length - (k + 1))
            case measure => omega
            case rel => exact ⟨k + 1, s + 1, xs[k], rfl, by omega, by go_num, by omega, by omega, Holds.put (Holds.put (T3.out.sub (fun p hp => List.mem_cons_of_mem _ hp)) hgf.out (fun p hp => (List.not_mem_nil hp).elim) 0 (.int .i64 (s + 1))) hgf.out (fun p hp => (List.not_mem_nil hp).elim) 1 (.int .i64 xs[k])⟩
          · simp only [Option.some.injEq, Prod.mk.injEq] at he
            obtain ⟨rfl, rfl, rfl⟩ := he
            have hz0 : (z == 0) = false := by simpa using hz
            clear hz
            go_wp2_with (fail)
            go_roundg (xs.length - (k + 1))
            case measure => omega
            case rel => exact ⟨k + 1, R, o, rfl, by omega, by go_num, by omega, by omega, T2.out.sub (fun p hp => List.mem_cons_of_mem _ hp)⟩
    · obtain rfl : k = xs.length := by omega
      have cf := fun j => blk_cell (T.out.get 0 rfl) j
      go_wp2_with (fail)
      go_ret
      exact ⟨by simp, T.out.bel⟩

set_option maxRecDepth 100000 in
set_option maxHeartbeats 1000000 in
theorem long (a b : Option Addr) (ca cb m n : Nat) (w : World) (h : 250 < m ∨ 250 < n) : Calls Try.prog 3 #[.slice a m ca, .slice b n cb] w (Yes w) := by
  have start : (250 < m) ∨ (m ≤ 250 ∧ 250 < n) := by omega
  clear h
  go_enter Try.func3, Try.ntmps3
  go_wp2_with (fail)
  refine (teasellaw17_known.calls 1 true _ known_true).mono ?_
  rintro e w1 ⟨rfl, hb⟩
  have T1 := Lib.hid ((Holds.start w).step hb)
  clear hb
  rcases start with h | ⟨h1, h2⟩
  · have hd : decide (250 < (m : Int)) = true := by simp; omega
    clear h
    go_wp2_with (fail)
    go_ret
    exact ⟨by simp, T1.out.bel⟩
  · have hd : decide (250 < (m : Int)) = false := by simp; omega
    have hd2 : decide (250 < (n : Int)) = true := by simp; omega
    clear h1 h2
    go_wp2_with (fail)
    go_ret
    exact ⟨by simp, T1.out.bel⟩

theorem all (a b : Option Addr) (ca cb : Nat) (xs ys : List Int) (w : World) (hx : Ints w .i64 a xs) (hy : Ints w .i64 b ys) : Calls Try.prog 3 #[.slice a xs.length ca, .slice b ys.length cb] w (Yes w) := by
  by_cases h : xs.length ≤ 250 ∧ ys.length ≤ 250
  · exact law a b ca cb xs ys w hx hy h.1 h.2
  · exact long a b ca cb _ _ w (by omega)

end Go.Proofs.Ytgalahnockmgpaa.Rises

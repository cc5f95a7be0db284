-- PRINTED BY print.sh 35421559b90ae4d0a3588c463048766b98c2df88dd9212a6774a882060cdf62d: not written by this session
import Derived.Test.YtedpeambmmhcnaaPFlowDecisionsx0
import Derived.Test.YtedpeambmmhcnaaPFlowDecisionsx1
namespace Go.Proofs.Ytedpeambmmhcnaa.PFlowDecisions
open Go.RowKit Go.Proofs.YtedpeambmmhcnaaW.PrintWords Go.Proofs.YtedpeambmmhcnaaW.PrintLast Go.Proofs.YtedpeambmmhcnaaW.PrintMore
attribute [local go_sem] max2_int min2_int max_two min_two max_three min_three max_four min_four   -- for this text's walks alone
set_option linter.unusedVariables false
set_option linter.unusedSimpArgs false

/-! ### flow_May: function 9 -/
mutual
def flow_May.j0 : Nat → Bool → Int → Int → Int → Int → List Int → Bool → Bool → Bool → Bool → Option (Bool)
  | 0, _, _, _, _, _, _, _, _, _, _ => none
  | k + 1, x7, x107000, x107001, x107002, x107003, x107004, x112000, x112001, x112002, x112003 => if x7 = true then (some false) else (if x112000 = true then (if x112001 = true then (if x112002 = true then (if x112003 = true then (flow_May.j1 k false x107000 x107001 x107002 x107003 x107004 x112000 x112001 x112002 x112003) else (flow_May.j1 k (decide ((x107004.length : Int) > 0)) x107000 x107001 x107002 x107003 x107004 x112000 x112001 x112002 x112003)) else (if x107003 = 0 then (if x112003 = true then (flow_May.j1 k false x107000 x107001 x107002 x107003 x107004 x112000 x112001 x112002 x112003) else (flow_May.j1 k (decide ((x107004.length : Int) > 0)) x107000 x107001 x107002 x107003 x107004 x112000 x112001 x112002 x112003)) else (flow_May.j1 k true x107000 x107001 x107002 x107003 x107004 x112000 x112001 x112002 x112003))) else (if x107002 = 0 then (if x112002 = true then (if x112003 = true then (flow_May.j1 k false x107000 x107001 x107002 x107003 x107004 x112000 x112001 x112002 x112003) else (flow_May.j1 k (decide ((x107004.length : Int) > 0)) x107000 x107001 x107002 x107003 x107004 x112000 x112001 x112002 x112003)) else (if x107003 = 0 then (if x112003 = true then (flow_May.j1 k false x107000 x107001 x107002 x107003 x107004 x112000 x112001 x112002 x112003) else (flow_May.j1 k (decide ((x107004.length : Int) > 0)) x107000 x107001 x107002 x107003 x107004 x112000 x112001 x112002 x112003)) else (flow_May.j1 k true x107000 x107001 x107002 x107003 x107004 x112000 x112001 x112002 x112003))) else (flow_May.j1 k true x107000 x107001 x107002 x107003 x107004 x112000 x112001 x112002 x112003))) else (if x107001 = 0 then (if x112001 = true then (if x112002 = true then (if x112003 = true then (flow_May.j1 k false x107000 x107001 x107002 x107003 x107004 x112000 x112001 x112002 x112003) else (flow_May.j1 k (decide ((x107004.length : Int) > 0)) x107000 x107001 x107002 x107003 x107004 x112000 x112001 x112002 x112003)) else (if x107003 = 0 then (if x112003 = true then (flow_May.j1 k false x107000 x107001 x107002 x107003 x107004 x112000 x112001 x112002 x112003) else (flow_May.j1 k (decide ((x107004.length : Int) > 0)) x107000 x107001 x107002 x107003 x107004 x112000 x112001 x112002 x112003)) else (flow_May.j1 k true x107000 x107001 x107002 x107003 x107004 x112000 x112001 x112002 x112003))) else (if x107002 = 0 then (if x112002 = true then (if x112003 = true then (flow_May.j1 k false x107000 x107001 x107002 x107003 x107004 x112000 x112001 x112002 x112003) else (flow_May.j1 k (decide ((x107004.length : Int) > 0)) x107000 x107001 x107002 x107003 x107004 x112000 x112001 x112002 x112003)) else (if x107003 = 0 then (if x112003 = true then (flow_May.j1 k false x107000 x107001 x107002 x107003 x107004 x112000 x112001 x112002 x112003) else (flow_May.j1 k (decide ((x107004.length : Int) > 0)) x107000 x107001 x107002 x107003 x107004 x112000 x112001 x112002 x112003)) else (flow_May.j1 k true x107000 x107001 x107002 x107003 x107004 x112000 x112001 x112002 x112003))) else (flow_May.j1 k true x107000 x107001 x107002 x107003 x107004 x112000 x112001 x112002 x112003))) else (flow_May.j1 k true x107000 x107001 x107002 x107003 x107004 x112000 x112001 x112002 x112003)))
def flow_May.j1 : Nat → Bool → Int → Int → Int → Int → List Int → Bool → Bool → Bool → Bool → Option (Bool)
  | 0, _, _, _, _, _, _, _, _, _, _ => none
  | k + 1, x16, x107000, x107001, x107002, x107003, x107004, x112000, x112001, x112002, x112003 => if x16 = true then (some false) else ((flow_flowNumber.f x107001).bind fun t112 => (if t112 = true then ((flow_flowNumber.f x107002).bind fun t113 => (if t113 = true then (if x112002 = true then ((flow_ticks.f x107003).bind fun t114 => (if t114 = true then (some (decide ((x107004.length : Int) ≤ 4096))) else (some false))) else (some (decide ((x107004.length : Int) ≤ 4096)))) else (some false))) else (some false)))
end
def flow_May.f (k : Nat) (a0_0 : Int) (a0_1 : Int) (a0_2 : Int) (a0_3 : Int) (l0_4 : List Int) : Option (Bool) := (flow_hasOf.f k a0_0).bind fun bt107 => (if a0_0 < 1 then (flow_May.j0 k true a0_0 a0_1 a0_2 a0_3 l0_4 bt107.1 bt107.2.1 bt107.2.2.1 bt107.2.2.2) else (flow_May.j0 k (decide (a0_0 > 8)) a0_0 a0_1 a0_2 a0_3 l0_4 bt107.1 bt107.2.1 bt107.2.2.1 bt107.2.2.2))
theorem flow_May.mono_l : ∀ k, (∀ y0 y1 y2 y3 y4 y5 y6 y7 y8 y9, LeO (flow_May.j0 k y0 y1 y2 y3 y4 y5 y6 y7 y8 y9) (flow_May.j0 (k + 1) y0 y1 y2 y3 y4 y5 y6 y7 y8 y9)) ∧ (∀ y0 y1 y2 y3 y4 y5 y6 y7 y8 y9, LeO (flow_May.j1 k y0 y1 y2 y3 y4 y5 y6 y7 y8 y9) (flow_May.j1 (k + 1) y0 y1 y2 y3 y4 y5 y6 y7 y8 y9))
  | 0 => ⟨fun _ _ _ _ _ _ _ _ _ _ r h => by simp [flow_May.j0] at h, fun _ _ _ _ _ _ _ _ _ _ r h => by simp [flow_May.j1] at h⟩
  | k + 1 => by
    obtain ⟨ih0, ih1⟩ := flow_May.mono_l k
    refine ⟨?_, ?_⟩
    · intro y0 y1 y2 y3 y4 y5 y6 y7 y8 y9
      unfold flow_May.j0
      repeat' first
      | (with_reducible exact ih0 _ _ _ _ _ _ _ _ _ _)
      | (with_reducible exact ih1 _ _ _ _ _ _ _ _ _ _)
      | (with_reducible exact flow_hasOf.mono _ _)
      | (with_reducible exact LeO.refl _)
      | (with_reducible exact LeO.none _)
      | (with_reducible refine LeO.ite ?_ ?_)
      | (with_reducible refine LeO.bind ?_ (fun _ => ?_))
      | exact ih0 _ _ _ _ _ _ _ _ _ _
      | exact ih1 _ _ _ _ _ _ _ _ _ _
      | exact flow_hasOf.mono _ _
      | exact LeO.none _
      | refine LeO.ite ?_ ?_
      | refine LeO.bind ?_ (fun _ => ?_)
    · intro y0 y1 y2 y3 y4 y5 y6 y7 y8 y9
      unfold flow_May.j1
      repeat' first
      | (with_reducible exact ih0 _ _ _ _ _ _ _ _ _ _)
      | (with_reducible exact ih1 _ _ _ _ _ _ _ _ _ _)
      | (with_reducible exact flow_hasOf.mono _ _)
      | (with_reducible exact LeO.refl _)
      | (with_reducible exact LeO.none _)
      | (with_reducible refine LeO.ite ?_ ?_)
      | (with_reducible refine LeO.bind ?_ (fun _ => ?_))
      | exact ih0 _ _ _ _ _ _ _ _ _ _
      | exact ih1 _ _ _ _ _ _ _ _ _ _
      | exact flow_hasOf.mono _ _
      | exact LeO.none _
      | refine LeO.ite ?_ ?_
      | refine LeO.bind ?_ (fun _ => ?_)
theorem flow_May.mono : ∀ a0 a1 a2 a3 a4 k, LeO (flow_May.f k a0 a1 a2 a3 a4) (flow_May.f (k + 1) a0 a1 a2 a3 a4) := by
  intro a0 a1 a2 a3 a4 k
  obtain ⟨ih0, ih1⟩ := flow_May.mono_l k
  unfold flow_May.f
  repeat' first
      | (with_reducible exact ih0 _ _ _ _ _ _ _ _ _ _)
      | (with_reducible exact ih1 _ _ _ _ _ _ _ _ _ _)
      | (with_reducible exact flow_hasOf.mono _ _)
      | (with_reducible exact LeO.refl _)
      | (with_reducible exact LeO.none _)
      | (with_reducible refine LeO.ite ?_ ?_)
      | (with_reducible refine LeO.bind ?_ (fun _ => ?_))
      | exact ih0 _ _ _ _ _ _ _ _ _ _
      | exact ih1 _ _ _ _ _ _ _ _ _ _
      | exact flow_hasOf.mono _ _
      | exact LeO.none _
      | refine LeO.ite ?_ ?_
      | refine LeO.bind ?_ (fun _ => ?_)
set_option maxHeartbeats 8000000 in
set_option maxRecDepth 100000 in
theorem flow_May.calls (k : Nat) (a0_0 : Int) (a0_1 : Int) (a0_2 : Int) (a0_3 : Int) (A0_4 : Option Addr) (c0_4 : Nat) (l0_4 : List Int) (r : Bool) (w : World) (hr0_4 : Kd.C (Kd.int .u8) w A0_4 l0_4.length l0_4) (hc0_4 : l0_4.length ≤ c0_4) (h : flow_May.f k a0_0 a0_1 a0_2 a0_3 l0_4 = some r) :
    Calls Try.prog 9 #[.agg #[.int .i64 a0_0, .int .i64 a0_1, .int .i64 a0_2, .int .i64 a0_3, .slice A0_4 l0_4.length c0_4]] w fun e w' => e = .returned (.bool r) ∧ Below w.heap.size w w' := by
  have hu24 := Try.underlying24
  have hu70 := Try.underlying70
  have HR0_4 := Aside0.mk hr0_4
  have HC0_4 := Aside0.mk hc0_4
  clear hr0_4 hc0_4
  have HB := Aside0.mk (Below.refl w.heap.size w)
  have H : ((flow_hasOf.f k a0_0).bind fun bt107 => (if a0_0 < 1 then (flow_May.j0 k true a0_0 a0_1 a0_2 a0_3 l0_4 bt107.1 bt107.2.1 bt107.2.2.1 bt107.2.2.2) else (flow_May.j0 k (decide (a0_0 > 8)) a0_0 a0_1 a0_2 a0_3 l0_4 bt107.1 bt107.2.1 bt107.2.2.1 bt107.2.2.2))) = some r := h
  clear h
  replace H := Option.bind_eq_some_iff.mp H
  obtain ⟨⟨t107, t108, t109, t110⟩, A20, H⟩ := H
  replace H : (if a0_0 < 1 then (flow_May.j0 k true a0_0 a0_1 a0_2 a0_3 l0_4 t107 t108 t109 t110) else (flow_May.j0 k (decide (a0_0 > 8)) a0_0 a0_1 a0_2 a0_3 l0_4 t107 t108 t109 t110)) = some r := H
  have A2 := Aside0.mk A20
  clear A20
  have HC3 := Aside0.mk H
  clear H
  go_enter Try.func9, Try.ntmps9
  go_upto_region 2 with (first | ((with_reducible refine gate_dst (N := 1) rfl ?_); (try (refine gate_guard (by rfl) ?_; dsimp only)); refine box_event ?hg (N := 1) ?hd (cs := #[.int .i64 a0_0, .int .i64 a0_1, .int .i64 a0_2, .int .i64 a0_3, .slice A0_4 l0_4.length c0_4]) (t := 24) ?hr ?_; (case hd => rfl); (case hg => rfl); (case hr => first | (go_simp; done) | (go_simp; rfl)); intro gb106 hg w4 hbox hb; have n0_ := Aside0.mk (below_step (by repeat (first | (with_reducible first | exact HB.out | apply below_alloc | apply pw_below_drewN | apply below_drew1) | exact HB.out)) hb); have n1_ := Aside0.mk (hbox); have n2_ := Aside0.mk ((by rw [hg]; exact (below_size (by repeat (first | (with_reducible first | exact HB.out | apply below_alloc | apply pw_below_drewN | apply below_drew1) | exact HB.out))) : w.heap.size ≤ gb106)); have n3_ := Aside0.mk ((by rw [hg]; exact (below_size (by repeat (first | (with_reducible first | exact HB.out | apply below_alloc | apply pw_below_drewN | apply below_drew1) | exact HB.out))) : w.heap.size ≤ gb106)); clear HB; have HB := n0_; have BK106 := n1_; have GW106 := n2_; have GE106 := n3_; clear n0_ n1_ n2_ n3_; clear hb hbox hg; have hcz5_0 : w4.cell? ⟨gb106, 0, none⟩ = some (.int .i64 a0_0) := (blk_cell BK106.out 0).trans rfl; have hcz5_1 : w4.cell? ⟨gb106, 1, none⟩ = some (.int .i64 a0_1) := (blk_cell BK106.out 1).trans rfl; have hcz5_2 : w4.cell? ⟨gb106, 2, none⟩ = some (.int .i64 a0_2) := (blk_cell BK106.out 2).trans rfl; have hcz5_3 : w4.cell? ⟨gb106, 3, none⟩ = some (.int .i64 a0_3) := (blk_cell BK106.out 3).trans rfl; have hcz5_4 : w4.cell? ⟨gb106, 4, none⟩ = some (.slice A0_4 l0_4.length c0_4) := (blk_cell BK106.out 4).trans rfl; have hfz5_0 := blk_frozen BK106.out 0; have hfz5_1 := blk_frozen BK106.out 1; have hfz5_2 := blk_frozen BK106.out 2; have hfz5_3 := blk_frozen BK106.out 3; have hfz5_4 := blk_frozen BK106.out 4) | ((with_reducible refine gate_callee (f := 32) rfl ?_); refine goesL_ (some 6) rfl rfl Try.func32 (by kernel_rfl) rfl #[.int .i64 a0_0] rfl (by (try simp only [List.map_toArray, List.map_cons, List.map_nil]); first | done | rfl | (simp only [List.length_drop, List.length_take]; rfl)) ?_; (with_reducible refine (flow_hasOf.calls k a0_0 t107 t108 t109 t110 _ A2.out).mono ?_); rintro e w6 ⟨rfl, hb⟩; refine ⟨_, rfl, ?_⟩; have n0_ := Aside0.mk (blk_below (g := gb106) (o := .cells #[.int .i64 a0_0, .int .i64 a0_1, .int .i64 a0_2, .int .i64 a0_3, .slice A0_4 l0_4.length c0_4] 24 (0, 0)) (by (with_reducible repeat (first | refine blk_drewN ?_ _ | refine blk_drew ?_ | refine blk_alloc ?_ _)); exact BK106.out) hb); have n1_ := Aside0.mk (below_step (by repeat (first | (with_reducible first | exact HB.out | apply below_alloc | apply pw_below_drewN | apply below_drew1 | refine below_set ?_ GE106.out) | exact HB.out)) hb); clear BK106; clear HB; have BK106 := n0_; have HB := n1_; clear n0_ n1_; (try clear hb); (try clear hb2); (try clear hk); (try clear hi)) | ((with_reducible refine gate_dst (N := 3) rfl ?_); (try (refine gate_guard (by rfl) ?_; dsimp only)); refine box_event ?hg (N := 3) ?hd (cs := #[.bool false, .bool false, .bool false, .bool false]) (t := 70) ?hr ?_; (case hd => rfl); (case hg => rfl); (case hr => first | (go_simp; done) | (go_simp; rfl)); intro gb111 hg w7 hbox hb; have n0_ := Aside0.mk (blk_below (g := gb106) (o := .cells #[.int .i64 a0_0, .int .i64 a0_1, .int .i64 a0_2, .int .i64 a0_3, .slice A0_4 l0_4.length c0_4] 24 (0, 0)) (by (with_reducible repeat (first | refine blk_drewN ?_ _ | refine blk_drew ?_ | refine blk_alloc ?_ _)); exact BK106.out) hb); have n1_ := Aside0.mk (below_step (by repeat (first | (with_reducible first | exact HB.out | apply below_alloc | apply pw_below_drewN | apply below_drew1 | refine below_set ?_ GE106.out) | exact HB.out)) hb); have n2_ := Aside0.mk (hbox); have n3_ := Aside0.mk ((by rw [hg]; exact (below_size (by repeat (first | (with_reducible first | exact HB.out | apply below_alloc | apply pw_below_drewN | apply below_drew1 | refine below_set ?_ GE106.out) | exact HB.out))) : w.heap.size ≤ gb111)); have n4_ := Aside0.mk ((by rw [hg]; exact (below_size (by repeat (first | (with_reducible first | exact HB.out | apply below_alloc | apply pw_below_drewN | apply below_drew1 | refine below_set ?_ GE106.out) | exact HB.out))) : w.heap.size ≤ gb111)); have n5_ := Aside0.mk ((by rw [hg]; exact Nat.ne_of_lt (blk_lt (g := gb106) (o := .cells #[.int .i64 a0_0, .int .i64 a0_1, .int .i64 a0_2, .int .i64 a0_3, .slice A0_4 l0_4.length c0_4] 24 (0, 0)) (by (with_reducible repeat (first | refine blk_drewN ?_ _ | refine blk_drew ?_ | refine blk_alloc ?_ _)); exact BK106.out)) : gb106 ≠ gb111)); have n6_ := Aside0.mk ((by rw [hg]; exact Nat.ne_of_gt (blk_lt (g := gb106) (o := .cells #[.int .i64 a0_0, .int .i64 a0_1, .int .i64 a0_2, .int .i64 a0_3, .slice A0_4 l0_4.length c0_4] 24 (0, 0)) (by (with_reducible repeat (first | refine blk_drewN ?_ _ | refine blk_drew ?_ | refine blk_alloc ?_ _)); exact BK106.out)) : gb111 ≠ gb106)); clear BK106; clear HB; have BK106 := n0_; have HB := n1_; have BK111 := n2_; have GW111 := n3_; have GE111 := n4_; have NB106_111 := n5_; have NB111_106 := n6_; clear n0_ n1_ n2_ n3_ n4_ n5_ n6_; clear hb hbox hg; have hnb8 := NB111_106.out; have hnc8 := NB106_111.out; have hcz9_0 : w7.cell? ⟨gb111, 0, none⟩ = some (.bool false) := (blk_cell BK111.out 0).trans rfl; have hcz9_1 : w7.cell? ⟨gb111, 1, none⟩ = some (.bool false) := (blk_cell BK111.out 1).trans rfl; have hcz9_2 : w7.cell? ⟨gb111, 2, none⟩ = some (.bool false) := (blk_cell BK111.out 2).trans rfl; have hcz9_3 : w7.cell? ⟨gb111, 3, none⟩ = some (.bool false) := (blk_cell BK111.out 3).trans rfl; have hfz9_0 := blk_frozen BK111.out 0; have hfz9_1 := blk_frozen BK111.out 1; have hfz9_2 := blk_frozen BK111.out 2; have hfz9_3 := blk_frozen BK111.out 3))
  (try simp only [Act.put, List.setIfInBounds_toArray, List.set_cons_zero, List.set_cons_succ])
  go_cut [7] (fun v7 wc => ∃ (kq : Nat) (x7_2 : Bool), v7 = .bool x7_2 ∧ Aside0 (flow_May.j0 kq x7_2 a0_0 a0_1 a0_2 a0_3 l0_4 t107 t108 t109 t110 = some r) ∧ Aside0 (kq ≤ k) ∧ Aside0 (wc.heap[gb106]? = some (.cells #[.int .i64 a0_0, .int .i64 a0_1, .int .i64 a0_2, .int .i64 a0_3, (.slice A0_4 l0_4.length c0_4)] 24 (0, 0))) ∧ Aside0 (wc.heap[gb111]? = some (.cells #[.bool t107, .bool t108, .bool t109, .bool t110] 70 (0, 0))) ∧ Aside0 (Below w.heap.size w wc))
  case first =>
    have H := HC3.out
    clear HC3
    by_cases c10 : a0_0 < 1
    · rw [if_pos c10] at H
      have c10b0 : decide (a0_0 < 1) = true := decide_eq_true c10
      clear c10
      (first | rw [c10b0] | (simp only [i64_w, i32_w]; rw [c10b0]) | skip)
      have H' := Aside0.mk H
      clear H
      have hnb11 := NB106_111.out
      have hnc11 := NB111_106.out
      have hcz12_0 : w7.cell? ⟨gb106, 0, none⟩ = some (.int .i64 a0_0) := (blk_cell BK106.out 0).trans rfl
      have hcz12_1 : w7.cell? ⟨gb106, 1, none⟩ = some (.int .i64 a0_1) := (blk_cell BK106.out 1).trans rfl
      have hcz12_2 : w7.cell? ⟨gb106, 2, none⟩ = some (.int .i64 a0_2) := (blk_cell BK106.out 2).trans rfl
      have hcz12_3 : w7.cell? ⟨gb106, 3, none⟩ = some (.int .i64 a0_3) := (blk_cell BK106.out 3).trans rfl
      have hcz12_4 : w7.cell? ⟨gb106, 4, none⟩ = some (.slice A0_4 l0_4.length c0_4) := (blk_cell BK106.out 4).trans rfl
      have hfz12_0 := blk_frozen BK106.out 0
      have hfz12_1 := blk_frozen BK106.out 1
      have hfz12_2 := blk_frozen BK106.out 2
      have hfz12_3 := blk_frozen BK106.out 3
      have hfz12_4 := blk_frozen BK106.out 4
      go_wp2
      go_meet
      case rel => exact ⟨_, (true), (by first | rfl | (simp; done) | (simp [*]; done)), H', ⟨by first | omega | exact Nat.le_refl _⟩, ⟨by (with_reducible repeat (first | refine blk_drewN ?_ _ | refine blk_drew ?_ | refine blk_alloc ?_ _)); refine blk_far ?_ NB106_111.out _; (with_reducible repeat (first | refine blk_drewN ?_ _ | refine blk_drew ?_ | refine blk_alloc ?_ _)); refine blk_far ?_ NB106_111.out _; (with_reducible repeat (first | refine blk_drewN ?_ _ | refine blk_drew ?_ | refine blk_alloc ?_ _)); refine blk_far ?_ NB106_111.out _; (with_reducible repeat (first | refine blk_drewN ?_ _ | refine blk_drew ?_ | refine blk_alloc ?_ _)); refine blk_far ?_ NB106_111.out _; (with_reducible repeat (first | refine blk_drewN ?_ _ | refine blk_drew ?_ | refine blk_alloc ?_ _)); exact BK106.out⟩, ⟨by (with_reducible repeat (first | refine blk_drewN ?_ _ | refine blk_drew ?_ | refine blk_alloc ?_ _)); refine blk_put (cs := #[.bool t107, .bool t108, .bool t109, .bool false]) ?_ 3 _ rfl; (with_reducible repeat (first | refine blk_drewN ?_ _ | refine blk_drew ?_ | refine blk_alloc ?_ _)); refine blk_put (cs := #[.bool t107, .bool t108, .bool false, .bool false]) ?_ 2 _ rfl; (with_reducible repeat (first | refine blk_drewN ?_ _ | refine blk_drew ?_ | refine blk_alloc ?_ _)); refine blk_put (cs := #[.bool t107, .bool false, .bool false, .bool false]) ?_ 1 _ rfl; (with_reducible repeat (first | refine blk_drewN ?_ _ | refine blk_drew ?_ | refine blk_alloc ?_ _)); refine blk_put (cs := #[.bool false, .bool false, .bool false, .bool false]) ?_ 0 _ rfl; (with_reducible repeat (first | refine blk_drewN ?_ _ | refine blk_drew ?_ | refine blk_alloc ?_ _)); exact BK111.out⟩, ⟨by repeat (first | (with_reducible first | exact HB.out | apply below_alloc | apply pw_below_drewN | apply below_drew1 | refine below_set ?_ GE106.out | refine below_set ?_ GE111.out) | exact HB.out)⟩⟩
    · rw [if_neg c10] at H
      have c10b0 : decide (a0_0 < 1) = false := decide_eq_false c10
      clear c10
      (first | rw [c10b0] | (simp only [i64_w, i32_w]; rw [c10b0]) | skip)
      have H' := Aside0.mk H
      clear H
      have hnb13 := NB106_111.out
      have hnc13 := NB111_106.out
      have hcz14_0 : w7.cell? ⟨gb106, 0, none⟩ = some (.int .i64 a0_0) := (blk_cell BK106.out 0).trans rfl
      have hcz14_1 : w7.cell? ⟨gb106, 1, none⟩ = some (.int .i64 a0_1) := (blk_cell BK106.out 1).trans rfl
      have hcz14_2 : w7.cell? ⟨gb106, 2, none⟩ = some (.int .i64 a0_2) := (blk_cell BK106.out 2).trans rfl
      have hcz14_3 : w7.cell? ⟨gb106, 3, none⟩ = some (.int .i64 a0_3) := (blk_cell BK106.out 3).trans rfl
      have hcz14_4 : w7.cell? ⟨gb106, 4, none⟩ = some (.slice A0_4 l0_4.length c0_4) := (blk_cell BK106.out 4).trans rfl
      have hfz14_0 := blk_frozen BK106.out 0
      have hfz14_1 := blk_frozen BK106.out 1
      have hfz14_2 := blk_frozen BK106.out 2
      have hfz14_3 := blk_frozen BK106.out 3
      have hfz14_4 := blk_frozen BK106.out 4
      go_wp2
      go_meet
      case rel => exact ⟨_, (decide (a0_0 > 8)), (by first | rfl | (simp; done) | (simp [*]; done)), H', ⟨by first | omega | exact Nat.le_refl _⟩, ⟨by (with_reducible repeat (first | refine blk_drewN ?_ _ | refine blk_drew ?_ | refine blk_alloc ?_ _)); refine blk_far ?_ NB106_111.out _; (with_reducible repeat (first | refine blk_drewN ?_ _ | refine blk_drew ?_ | refine blk_alloc ?_ _)); refine blk_far ?_ NB106_111.out _; (with_reducible repeat (first | refine blk_drewN ?_ _ | refine blk_drew ?_ | refine blk_alloc ?_ _)); refine blk_far ?_ NB106_111.out _; (with_reducible repeat (first | refine blk_drewN ?_ _ | refine blk_drew ?_ | refine blk_alloc ?_ _)); refine blk_far ?_ NB106_111.out _; (with_reducible repeat (first | refine blk_drewN ?_ _ | refine blk_drew ?_ | refine blk_alloc ?_ _)); exact BK106.out⟩, ⟨by (with_reducible repeat (first | refine blk_drewN ?_ _ | refine blk_drew ?_ | refine blk_alloc ?_ _)); refine blk_put (cs := #[.bool t107, .bool t108, .bool t109, .bool false]) ?_ 3 _ rfl; (with_reducible repeat (first | refine blk_drewN ?_ _ | refine blk_drew ?_ | refine blk_alloc ?_ _)); refine blk_put (cs := #[.bool t107, .bool t108, .bool false, .bool false]) ?_ 2 _ rfl; (with_reducible repeat (first | refine blk_drewN ?_ _ | refine blk_drew ?_ | refine blk_alloc ?_ _)); refine blk_put (cs := #[.bool t107, .bool false, .bool false, .bool false]) ?_ 1 _ rfl; (with_reducible repeat (first | refine blk_drewN ?_ _ | refine blk_drew ?_ | refine blk_alloc ?_ _)); refine blk_put (cs := #[.bool false, .bool false, .bool false, .bool false]) ?_ 0 _ rfl; (with_reducible repeat (first | refine blk_drewN ?_ _ | refine blk_drew ?_ | refine blk_alloc ?_ _)); exact BK111.out⟩, ⟨by repeat (first | (with_reducible first | exact HB.out | apply below_alloc | apply pw_below_drewN | apply below_drew1 | refine below_set ?_ GE106.out | refine below_set ?_ GE111.out) | exact HB.out)⟩⟩
  case rest =>
    clear HC3
    try clear c1
    try clear p2
    try clear c3
    try clear c8
    try clear c9
    try clear c10
    try clear c10b0
    try clear c11
    try clear c13
    try clear hcz12_0
    try clear hcz12_1
    try clear hcz12_2
    try clear hcz12_3
    try clear hcz12_4
    try clear hcz14_0
    try clear hcz14_1
    try clear hcz14_2
    try clear hcz14_3
    try clear hcz14_4
    try clear hcz5_0
    try clear hcz5_1
    try clear hcz5_2
    try clear hcz5_3
    try clear hcz5_4
    try clear hcz9_0
    try clear hcz9_1
    try clear hcz9_2
    try clear hcz9_3
    try clear hfz12_0
    try clear hfz12_1
    try clear hfz12_2
    try clear hfz12_3
    try clear hfz12_4
    try clear hfz14_0
    try clear hfz14_1
    try clear hfz14_2
    try clear hfz14_3
    try clear hfz14_4
    try clear hfz5_0
    try clear hfz5_1
    try clear hfz5_2
    try clear hfz5_3
    try clear hfz5_4
    try clear hfz9_0
    try clear hfz9_1
    try clear hfz9_2
    try clear hfz9_3
    obtain ⟨kq, x7_2, rfl, HA, HJ2, BK106, BK111, HB⟩ := hcut
    cases kq with
    | zero => exact absurd HA.out (by simp [flow_May.j0])
    | succ kj2 =>
      have H := HA.out
      clear HA
      simp only [flow_May.j0] at H
      by_cases c15 : x7_2 = true
      · subst c15
        have H1 : (some false) = some r := by rw [if_pos rfl] at H; exact H
        clear H
        have H := H1
        clear H1
        obtain rfl := Option.some.inj H
        go_wp2
        go_ret
        exact ⟨by first | rfl | (simp [errW_none, errW_some] <;> rfl) | (simp [*, errW_none, errW_some] <;> rfl), by repeat (first | (with_reducible first | exact HB.out | apply below_alloc | apply pw_below_drewN | apply below_drew1 | refine below_set ?_ GE106.out | refine below_set ?_ GE111.out) | exact HB.out)⟩
      · replace c15 := Bool.eq_false_iff.mpr c15
        subst c15
        have H1 : (if t107 = true then (if t108 = true then (if t109 = true then (if t110 = true then (flow_May.j1 kj2 false a0_0 a0_1 a0_2 a0_3 l0_4 t107 t108 t109 t110) else (flow_May.j1 kj2 (decide ((l0_4.length : Int) > 0)) a0_0 a0_1 a0_2 a0_3 l0_4 t107 t108 t109 t110)) else (if a0_3 = 0 then (if t110 = true then (flow_May.j1 kj2 false a0_0 a0_1 a0_2 a0_3 l0_4 t107 t108 t109 t110) else (flow_May.j1 kj2 (decide ((l0_4.length : Int) > 0)) a0_0 a0_1 a0_2 a0_3 l0_4 t107 t108 t109 t110)) else (flow_May.j1 kj2 true a0_0 a0_1 a0_2 a0_3 l0_4 t107 t108 t109 t110))) else (if a0_2 = 0 then (if t109 = true then (if t110 = true then (flow_May.j1 kj2 false a0_0 a0_1 a0_2 a0_3 l0_4 t107 t108 t109 t110) else (flow_May.j1 kj2 (decide ((l0_4.length : Int) > 0)) a0_0 a0_1 a0_2 a0_3 l0_4 t107 t108 t109 t110)) else (if a0_3 = 0 then (if t110 = true then (flow_May.j1 kj2 false a0_0 a0_1 a0_2 a0_3 l0_4 t107 t108 t109 t110) else (flow_May.j1 kj2 (decide ((l0_4.length : Int) > 0)) a0_0 a0_1 a0_2 a0_3 l0_4 t107 t108 t109 t110)) else (flow_May.j1 kj2 true a0_0 a0_1 a0_2 a0_3 l0_4 t107 t108 t109 t110))) else (flow_May.j1 kj2 true a0_0 a0_1 a0_2 a0_3 l0_4 t107 t108 t109 t110))) else (if a0_1 = 0 then (if t108 = true then (if t109 = true then (if t110 = true then (flow_May.j1 kj2 false a0_0 a0_1 a0_2 a0_3 l0_4 t107 t108 t109 t110) else (flow_May.j1 kj2 (decide ((l0_4.length : Int) > 0)) a0_0 a0_1 a0_2 a0_3 l0_4 t107 t108 t109 t110)) else (if a0_3 = 0 then (if t110 = true then (flow_May.j1 kj2 false a0_0 a0_1 a0_2 a0_3 l0_4 t107 t108 t109 t110) else (flow_May.j1 kj2 (decide ((l0_4.length : Int) > 0)) a0_0 a0_1 a0_2 a0_3 l0_4 t107 t108 t109 t110)) else (flow_May.j1 kj2 true a0_0 a0_1 a0_2 a0_3 l0_4 t107 t108 t109 t110))) else (if a0_2 = 0 then (if t109 = true then (if t110 = true then (flow_May.j1 kj2 false a0_0 a0_1 a0_2 a0_3 l0_4 t107 t108 t109 t110) else (flow_May.j1 kj2 (decide ((l0_4.length : Int) > 0)) a0_0 a0_1 a0_2 a0_3 l0_4 t107 t108 t109 t110)) else (if a0_3 = 0 then (if t110 = true then (flow_May.j1 kj2 false a0_0 a0_1 a0_2 a0_3 l0_4 t107 t108 t109 t110) else (flow_May.j1 kj2 (decide ((l0_4.length : Int) > 0)) a0_0 a0_1 a0_2 a0_3 l0_4 t107 t108 t109 t110)) else (flow_May.j1 kj2 true a0_0 a0_1 a0_2 a0_3 l0_4 t107 t108 t109 t110))) else (flow_May.j1 kj2 true a0_0 a0_1 a0_2 a0_3 l0_4 t107 t108 t109 t110))) else (flow_May.j1 kj2 true a0_0 a0_1 a0_2 a0_3 l0_4 t107 t108 t109 t110))) = some r := by rw [if_neg (show ¬ (false = true) by decide)] at H; exact H
        clear H
        have H := H1
        clear H1
        have HC16 := Aside0.mk H
        clear H
        go_upto_region 4 with (fail)
        go_cut [16] (fun v16 wc => ∃ (kq : Nat) (x16_15 : Bool), v16 = .bool x16_15 ∧ Aside0 (flow_May.j1 kq x16_15 a0_0 a0_1 a0_2 a0_3 l0_4 t107 t108 t109 t110 = some r) ∧ Aside0 (kq ≤ kj2) ∧ Aside0 (wc.heap[gb106]? = some (.cells #[.int .i64 a0_0, .int .i64 a0_1, .int .i64 a0_2, .int .i64 a0_3, (.slice A0_4 l0_4.length c0_4)] 24 (0, 0))) ∧ Aside0 (wc.heap[gb111]? = some (.cells #[.bool t107, .bool t108, .bool t109, .bool t110] 70 (0, 0))) ∧ Aside0 (Below w.heap.size w wc))
        case first =>
          have H := HC16.out
          clear HC16
          by_cases c17 : t107 = true
          · subst c17
            have H1 : (if t108 = true then (if t109 = true then (if t110 = true then (flow_May.j1 kj2 false a0_0 a0_1 a0_2 a0_3 l0_4 true t108 t109 t110) else (flow_May.j1 kj2 (decide ((l0_4.length : Int) > 0)) a0_0 a0_1 a0_2 a0_3 l0_4 true t108 t109 t110)) else (if a0_3 = 0 then (if t110 = true then (flow_May.j1 kj2 false a0_0 a0_1 a0_2 a0_3 l0_4 true t108 t109 t110) else (flow_May.j1 kj2 (decide ((l0_4.length : Int) > 0)) a0_0 a0_1 a0_2 a0_3 l0_4 true t108 t109 t110)) else (flow_May.j1 kj2 true a0_0 a0_1 a0_2 a0_3 l0_4 true t108 t109 t110))) else (if a0_2 = 0 then (if t109 = true then (if t110 = true then (flow_May.j1 kj2 false a0_0 a0_1 a0_2 a0_3 l0_4 true t108 t109 t110) else (flow_May.j1 kj2 (decide ((l0_4.length : Int) > 0)) a0_0 a0_1 a0_2 a0_3 l0_4 true t108 t109 t110)) else (if a0_3 = 0 then (if t110 = true then (flow_May.j1 kj2 false a0_0 a0_1 a0_2 a0_3 l0_4 true t108 t109 t110) else (flow_May.j1 kj2 (decide ((l0_4.length : Int) > 0)) a0_0 a0_1 a0_2 a0_3 l0_4 true t108 t109 t110)) else (flow_May.j1 kj2 true a0_0 a0_1 a0_2 a0_3 l0_4 true t108 t109 t110))) else (flow_May.j1 kj2 true a0_0 a0_1 a0_2 a0_3 l0_4 true t108 t109 t110))) = some r := by rw [if_pos rfl] at H; exact H
            clear H
            have H := H1
            clear H1
            by_cases c18 : t108 = true
            · subst c18
              have H1 : (if t109 = true then (if t110 = true then (flow_May.j1 kj2 false a0_0 a0_1 a0_2 a0_3 l0_4 true true t109 t110) else (flow_May.j1 kj2 (decide ((l0_4.length : Int) > 0)) a0_0 a0_1 a0_2 a0_3 l0_4 true true t109 t110)) else (if a0_3 = 0 then (if t110 = true then (flow_May.j1 kj2 false a0_0 a0_1 a0_2 a0_3 l0_4 true true t109 t110) else (flow_May.j1 kj2 (decide ((l0_4.length : Int) > 0)) a0_0 a0_1 a0_2 a0_3 l0_4 true true t109 t110)) else (flow_May.j1 kj2 true a0_0 a0_1 a0_2 a0_3 l0_4 true true t109 t110))) = some r := by rw [if_pos rfl] at H; exact H
              clear H
              have H := H1
              clear H1
              by_cases c19 : t109 = true
              · subst c19
                have H1 : (if t110 = true then (flow_May.j1 kj2 false a0_0 a0_1 a0_2 a0_3 l0_4 true true true t110) else (flow_May.j1 kj2 (decide ((l0_4.length : Int) > 0)) a0_0 a0_1 a0_2 a0_3 l0_4 true true true t110)) = some r := by rw [if_pos rfl] at H; exact H
                clear H
                have H := H1
                clear H1
                by_cases c20 : t110 = true
                · subst c20
                  have H1 : (flow_May.j1 kj2 false a0_0 a0_1 a0_2 a0_3 l0_4 true true true true) = some r := by rw [if_pos rfl] at H; exact H
                  clear H
                  have H := H1
                  clear H1
                  have H' := Aside0.mk H
                  clear H
                  have hnb21 := NB111_106.out
                  have hnc21 := NB106_111.out
                  have hcz22_0 : wc.cell? ⟨gb111, 0, none⟩ = some (.bool true) := (blk_cell BK111.out 0).trans rfl
                  have hcz22_1 : wc.cell? ⟨gb111, 1, none⟩ = some (.bool true) := (blk_cell BK111.out 1).trans rfl
                  have hcz22_2 : wc.cell? ⟨gb111, 2, none⟩ = some (.bool true) := (blk_cell BK111.out 2).trans rfl
                  have hcz22_3 : wc.cell? ⟨gb111, 3, none⟩ = some (.bool true) := (blk_cell BK111.out 3).trans rfl
                  have hfz22_0 := blk_frozen BK111.out 0
                  have hfz22_1 := blk_frozen BK111.out 1
                  have hfz22_2 := blk_frozen BK111.out 2
                  have hfz22_3 := blk_frozen BK111.out 3
                  go_wp2
                  go_meet
                  case rel => exact ⟨_, (false), (by first | rfl | (simp; done) | (simp [*]; done)), H', ⟨by have := HJ2.out; first | omega | exact Nat.le_refl _⟩, ⟨by (with_reducible repeat (first | refine blk_drewN ?_ _ | refine blk_drew ?_ | refine blk_alloc ?_ _)); exact BK106.out⟩, ⟨by (with_reducible repeat (first | refine blk_drewN ?_ _ | refine blk_drew ?_ | refine blk_alloc ?_ _)); exact BK111.out⟩, ⟨by repeat (first | (with_reducible first | exact HB.out | apply below_alloc | apply pw_below_drewN | apply below_drew1 | refine below_set ?_ GE106.out | refine below_set ?_ GE111.out) | exact HB.out)⟩⟩
                · replace c20 := Bool.eq_false_iff.mpr c20
                  subst c20
                  have H1 : (flow_May.j1 kj2 (decide ((l0_4.length : Int) > 0)) a0_0 a0_1 a0_2 a0_3 l0_4 true true true false) = some r := by rw [if_neg (show ¬ (false = true) by decide)] at H; exact H
                  clear H
                  have H := H1
                  clear H1
                  have H' := Aside0.mk H
                  clear H
                  have hnb23 := NB111_106.out
                  have hnc23 := NB106_111.out
                  have hcz24_0 : wc.cell? ⟨gb111, 0, none⟩ = some (.bool true) := (blk_cell BK111.out 0).trans rfl
                  have hcz24_1 : wc.cell? ⟨gb111, 1, none⟩ = some (.bool true) := (blk_cell BK111.out 1).trans rfl
                  have hcz24_2 : wc.cell? ⟨gb111, 2, none⟩ = some (.bool true) := (blk_cell BK111.out 2).trans rfl
                  have hcz24_3 : wc.cell? ⟨gb111, 3, none⟩ = some (.bool false) := (blk_cell BK111.out 3).trans rfl
                  have hfz24_0 := blk_frozen BK111.out 0
                  have hfz24_1 := blk_frozen BK111.out 1
                  have hfz24_2 := blk_frozen BK111.out 2
                  have hfz24_3 := blk_frozen BK111.out 3
                  have hcz25_0 : wc.cell? ⟨gb106, 0, none⟩ = some (.int .i64 a0_0) := (blk_cell BK106.out 0).trans rfl
                  have hcz25_1 : wc.cell? ⟨gb106, 1, none⟩ = some (.int .i64 a0_1) := (blk_cell BK106.out 1).trans rfl
                  have hcz25_2 : wc.cell? ⟨gb106, 2, none⟩ = some (.int .i64 a0_2) := (blk_cell BK106.out 2).trans rfl
                  have hcz25_3 : wc.cell? ⟨gb106, 3, none⟩ = some (.int .i64 a0_3) := (blk_cell BK106.out 3).trans rfl
                  have hcz25_4 : wc.cell? ⟨gb106, 4, none⟩ = some (.slice A0_4 l0_4.length c0_4) := (blk_cell BK106.out 4).trans rfl
                  have hfz25_0 := blk_frozen BK106.out 0
                  have hfz25_1 := blk_frozen BK106.out 1
                  have hfz25_2 := blk_frozen BK106.out 2
                  have hfz25_3 := blk_frozen BK106.out 3
                  have hfz25_4 := blk_frozen BK106.out 4
                  go_wp2
                  go_meet
                  case rel => exact ⟨_, (decide ((l0_4.length : Int) > 0)), (by first | rfl | (simp; done) | (simp [*]; done)), H', ⟨by have := HJ2.out; first | omega | exact Nat.le_refl _⟩, ⟨by (with_reducible repeat (first | refine blk_drewN ?_ _ | refine blk_drew ?_ | refine blk_alloc ?_ _)); exact BK106.out⟩, ⟨by (with_reducible repeat (first | refine blk_drewN ?_ _ | refine blk_drew ?_ | refine blk_alloc ?_ _)); exact BK111.out⟩, ⟨by repeat (first | (with_reducible first | exact HB.out | apply below_alloc | apply pw_below_drewN | apply below_drew1 | refine below_set ?_ GE106.out | refine below_set ?_ GE111.out) | exact HB.out)⟩⟩
              · replace c19 := Bool.eq_false_iff.mpr c19
                subst c19
                have H1 : (if a0_3 = 0 then (if t110 = true then (flow_May.j1 kj2 false a0_0 a0_1 a0_2 a0_3 l0_4 true true false t110) else (flow_May.j1 kj2 (decide ((l0_4.length : Int) > 0)) a0_0 a0_1 a0_2 a0_3 l0_4 true true false t110)) else (flow_May.j1 kj2 true a0_0 a0_1 a0_2 a0_3 l0_4 true true false t110)) = some r := by rw [if_neg (show ¬ (false = true) by decide)] at H; exact H
                clear H
                have H := H1
                clear H1
                by_cases c26 : a0_3 = 0
                · rw [if_pos c26] at H
                  have c26b0 : (a0_3 == 0) = true := beq_iff_eq.mpr c26
                  have c26b1 : (a0_3 != 0) = false := bne_eq_false_iff_eq.mpr c26
                  clear c26
                  (first | rw [c26b0] | (simp only [i64_w, i32_w]; rw [c26b0]) | skip)
                  by_cases c27 : t110 = true
                  · subst c27
                    have H1 : (flow_May.j1 kj2 false a0_0 a0_1 a0_2 a0_3 l0_4 true true false true) = some r := by rw [if_pos rfl] at H; exact H
                    clear H
                    have H := H1
                    clear H1
                    have H' := Aside0.mk H
                    clear H
                    have hnb28 := NB111_106.out
                    have hnc28 := NB106_111.out
                    have hcz29_0 : wc.cell? ⟨gb111, 0, none⟩ = some (.bool true) := (blk_cell BK111.out 0).trans rfl
                    have hcz29_1 : wc.cell? ⟨gb111, 1, none⟩ = some (.bool true) := (blk_cell BK111.out 1).trans rfl
                    have hcz29_2 : wc.cell? ⟨gb111, 2, none⟩ = some (.bool false) := (blk_cell BK111.out 2).trans rfl
                    have hcz29_3 : wc.cell? ⟨gb111, 3, none⟩ = some (.bool true) := (blk_cell BK111.out 3).trans rfl
                    have hfz29_0 := blk_frozen BK111.out 0
                    have hfz29_1 := blk_frozen BK111.out 1
                    have hfz29_2 := blk_frozen BK111.out 2
                    have hfz29_3 := blk_frozen BK111.out 3
                    have hcz30_0 : wc.cell? ⟨gb106, 0, none⟩ = some (.int .i64 a0_0) := (blk_cell BK106.out 0).trans rfl
                    have hcz30_1 : wc.cell? ⟨gb106, 1, none⟩ = some (.int .i64 a0_1) := (blk_cell BK106.out 1).trans rfl
                    have hcz30_2 : wc.cell? ⟨gb106, 2, none⟩ = some (.int .i64 a0_2) := (blk_cell BK106.out 2).trans rfl
                    have hcz30_3 : wc.cell? ⟨gb106, 3, none⟩ = some (.int .i64 a0_3) := (blk_cell BK106.out 3).trans rfl
                    have hcz30_4 : wc.cell? ⟨gb106, 4, none⟩ = some (.slice A0_4 l0_4.length c0_4) := (blk_cell BK106.out 4).trans rfl
                    have hfz30_0 := blk_frozen BK106.out 0
                    have hfz30_1 := blk_frozen BK106.out 1
                    have hfz30_2 := blk_frozen BK106.out 2
                    have hfz30_3 := blk_frozen BK106.out 3
                    have hfz30_4 := blk_frozen BK106.out 4
                    go_wp2
                    go_meet
                    case rel => exact ⟨_, (false), (by first | rfl | (simp; done) | (simp [*]; done)), H', ⟨by have := HJ2.out; first | omega | exact Nat.le_refl _⟩, ⟨by (with_reducible repeat (first | refine blk_drewN ?_ _ | refine blk_drew ?_ | refine blk_alloc ?_ _)); exact BK106.out⟩, ⟨by (with_reducible repeat (first | refine blk_drewN ?_ _ | refine blk_drew ?_ | refine blk_alloc ?_ _)); exact BK111.out⟩, ⟨by repeat (first | (with_reducible first | exact HB.out | apply below_alloc | apply pw_below_drewN | apply below_drew1 | refine below_set ?_ GE106.out | refine below_set ?_ GE111.out) | exact HB.out)⟩⟩
                  · replace c27 := Bool.eq_false_iff.mpr c27
                    subst c27
                    have H1 : (flow_May.j1 kj2 (decide ((l0_4.length : Int) > 0)) a0_0 a0_1 a0_2 a0_3 l0_4 true true false false) = some r := by rw [if_neg (show ¬ (false = true) by decide)] at H; exact H
                    clear H
                    have H := H1
                    clear H1
                    have H' := Aside0.mk H
                    clear H
                    have hnb31 := NB111_106.out
                    have hnc31 := NB106_111.out
                    have hcz32_0 : wc.cell? ⟨gb111, 0, none⟩ = some (.bool true) := (blk_cell BK111.out 0).trans rfl
                    have hcz32_1 : wc.cell? ⟨gb111, 1, none⟩ = some (.bool true) := (blk_cell BK111.out 1).trans rfl
                    have hcz32_2 : wc.cell? ⟨gb111, 2, none⟩ = some (.bool false) := (blk_cell BK111.out 2).trans rfl
                    have hcz32_3 : wc.cell? ⟨gb111, 3, none⟩ = some (.bool false) := (blk_cell BK111.out 3).trans rfl
                    have hfz32_0 := blk_frozen BK111.out 0
                    have hfz32_1 := blk_frozen BK111.out 1
                    have hfz32_2 := blk_frozen BK111.out 2
                    have hfz32_3 := blk_frozen BK111.out 3
                    have hcz33_0 : wc.cell? ⟨gb106, 0, none⟩ = some (.int .i64 a0_0) := (blk_cell BK106.out 0).trans rfl
                    have hcz33_1 : wc.cell? ⟨gb106, 1, none⟩ = some (.int .i64 a0_1) := (blk_cell BK106.out 1).trans rfl
                    have hcz33_2 : wc.cell? ⟨gb106, 2, none⟩ = some (.int .i64 a0_2) := (blk_cell BK106.out 2).trans rfl
                    have hcz33_3 : wc.cell? ⟨gb106, 3, none⟩ = some (.int .i64 a0_3) := (blk_cell BK106.out 3).trans rfl
                    have hcz33_4 : wc.cell? ⟨gb106, 4, none⟩ = some (.slice A0_4 l0_4.length c0_4) := (blk_cell BK106.out 4).trans rfl
                    have hfz33_0 := blk_frozen BK106.out 0
                    have hfz33_1 := blk_frozen BK106.out 1
                    have hfz33_2 := blk_frozen BK106.out 2
                    have hfz33_3 := blk_frozen BK106.out 3
                    have hfz33_4 := blk_frozen BK106.out 4
                    go_wp2
                    go_meet
                    case rel => exact ⟨_, (decide ((l0_4.length : Int) > 0)), (by first | rfl | (simp; done) | (simp [*]; done)), H', ⟨by have := HJ2.out; first | omega | exact Nat.le_refl _⟩, ⟨by (with_reducible repeat (first | refine blk_drewN ?_ _ | refine blk_drew ?_ | refine blk_alloc ?_ _)); exact BK106.out⟩, ⟨by (with_reducible repeat (first | refine blk_drewN ?_ _ | refine blk_drew ?_ | refine blk_alloc ?_ _)); exact BK111.out⟩, ⟨by repeat (first | (with_reducible first | exact HB.out | apply below_alloc | apply pw_below_drewN | apply below_drew1 | refine below_set ?_ GE106.out | refine below_set ?_ GE111.out) | exact HB.out)⟩⟩
                · rw [if_neg c26] at H
                  have c26b0 : (a0_3 == 0) = false := beq_eq_false_iff_ne.mpr c26
                  have c26b1 : (a0_3 != 0) = true := bne_iff_ne.mpr c26
                  (first | rw [c26b0] | (simp only [i64_w, i32_w]; rw [c26b0]) | skip)
                  have H' := Aside0.mk H
                  clear H
                  have hnb34 := NB111_106.out
                  have hnc34 := NB106_111.out
                  have hcz35_0 : wc.cell? ⟨gb111, 0, none⟩ = some (.bool true) := (blk_cell BK111.out 0).trans rfl
                  have hcz35_1 : wc.cell? ⟨gb111, 1, none⟩ = some (.bool true) := (blk_cell BK111.out 1).trans rfl
                  have hcz35_2 : wc.cell? ⟨gb111, 2, none⟩ = some (.bool false) := (blk_cell BK111.out 2).trans rfl
                  have hcz35_3 : wc.cell? ⟨gb111, 3, none⟩ = some (.bool t110) := (blk_cell BK111.out 3).trans rfl
                  have hfz35_0 := blk_frozen BK111.out 0
                  have hfz35_1 := blk_frozen BK111.out 1
                  have hfz35_2 := blk_frozen BK111.out 2
                  have hfz35_3 := blk_frozen BK111.out 3
                  have hcz36_0 : wc.cell? ⟨gb106, 0, none⟩ = some (.int .i64 a0_0) := (blk_cell BK106.out 0).trans rfl
                  have hcz36_1 : wc.cell? ⟨gb106, 1, none⟩ = some (.int .i64 a0_1) := (blk_cell BK106.out 1).trans rfl
                  have hcz36_2 : wc.cell? ⟨gb106, 2, none⟩ = some (.int .i64 a0_2) := (blk_cell BK106.out 2).trans rfl
                  have hcz36_3 : wc.cell? ⟨gb106, 3, none⟩ = some (.int .i64 a0_3) := (blk_cell BK106.out 3).trans rfl
                  have hcz36_4 : wc.cell? ⟨gb106, 4, none⟩ = some (.slice A0_4 l0_4.length c0_4) := (blk_cell BK106.out 4).trans rfl
                  have hfz36_0 := blk_frozen BK106.out 0
                  have hfz36_1 := blk_frozen BK106.out 1
                  have hfz36_2 := blk_frozen BK106.out 2
                  have hfz36_3 := blk_frozen BK106.out 3
                  have hfz36_4 := blk_frozen BK106.out 4
                  go_wp2
                  go_meet
                  case rel => exact ⟨_, (true), (by first | rfl | (simp; done) | (simp [*]; done)), H', ⟨by have := HJ2.out; first | omega | exact Nat.le_refl _⟩, ⟨by (with_reducible repeat (first | refine blk_drewN ?_ _ | refine blk_drew ?_ | refine blk_alloc ?_ _)); exact BK106.out⟩, ⟨by (with_reducible repeat (first | refine blk_drewN ?_ _ | refine blk_drew ?_ | refine blk_alloc ?_ _)); exact BK111.out⟩, ⟨by repeat (first | (with_reducible first | exact HB.out | apply below_alloc | apply pw_below_drewN | apply below_drew1 | refine below_set ?_ GE106.out | refine below_set ?_ GE111.out) | exact HB.out)⟩⟩
            · replace c18 := Bool.eq_false_iff.mpr c18
              subst c18
              have H1 : (if a0_2 = 0 then (if t109 = true then (if t110 = true then (flow_May.j1 kj2 false a0_0 a0_1 a0_2 a0_3 l0_4 true false t109 t110) else (flow_May.j1 kj2 (decide ((l0_4.length : Int) > 0)) a0_0 a0_1 a0_2 a0_3 l0_4 true false t109 t110)) else (if a0_3 = 0 then (if t110 = true then (flow_May.j1 kj2 false a0_0 a0_1 a0_2 a0_3 l0_4 true false t109 t110) else (flow_May.j1 kj2 (decide ((l0_4.length : Int) > 0)) a0_0 a0_1 a0_2 a0_3 l0_4 true false t109 t110)) else (flow_May.j1 kj2 true a0_0 a0_1 a0_2 a0_3 l0_4 true false t109 t110))) else (flow_May.j1 kj2 true a0_0 a0_1 a0_2 a0_3 l0_4 true false t109 t110)) = some r := by rw [if_neg (show ¬ (false = true) by decide)] at H; exact H
              clear H
              have H := H1
              clear H1
              by_cases c37 : a0_2 = 0
              · rw [if_pos c37] at H
                have c37b0 : (a0_2 == 0) = true := beq_iff_eq.mpr c37
                have c37b1 : (a0_2 != 0) = false := bne_eq_false_iff_eq.mpr c37
                clear c37
                by_cases c38 : t109 = true
                · subst c38
                  have H1 : (if t110 = true then (flow_May.j1 kj2 false a0_0 a0_1 a0_2 a0_3 l0_4 true false true t110) else (flow_May.j1 kj2 (decide ((l0_4.length : Int) > 0)) a0_0 a0_1 a0_2 a0_3 l0_4 true false true t110)) = some r := by rw [if_pos rfl] at H; exact H
                  clear H
                  have H := H1
                  clear H1
                  by_cases c39 : t110 = true
                  · subst c39
                    have H1 : (flow_May.j1 kj2 false a0_0 a0_1 a0_2 a0_3 l0_4 true false true true) = some r := by rw [if_pos rfl] at H; exact H
                    clear H
                    have H := H1
                    clear H1
                    have H' := Aside0.mk H
                    clear H
                    have hnb40 := NB111_106.out
                    have hnc40 := NB106_111.out
                    have hcz41_0 : wc.cell? ⟨gb111, 0, none⟩ = some (.bool true) := (blk_cell BK111.out 0).trans rfl
                    have hcz41_1 : wc.cell? ⟨gb111, 1, none⟩ = some (.bool false) := (blk_cell BK111.out 1).trans rfl
                    have hcz41_2 : wc.cell? ⟨gb111, 2, none⟩ = some (.bool true) := (blk_cell BK111.out 2).trans rfl
                    have hcz41_3 : wc.cell? ⟨gb111, 3, none⟩ = some (.bool true) := (blk_cell BK111.out 3).trans rfl
                    have hfz41_0 := blk_frozen BK111.out 0
                    have hfz41_1 := blk_frozen BK111.out 1
                    have hfz41_2 := blk_frozen BK111.out 2
                    have hfz41_3 := blk_frozen BK111.out 3
                    have hcz42_0 : wc.cell? ⟨gb106, 0, none⟩ = some (.int .i64 a0_0) := (blk_cell BK106.out 0).trans rfl
                    have hcz42_1 : wc.cell? ⟨gb106, 1, none⟩ = some (.int .i64 a0_1) := (blk_cell BK106.out 1).trans rfl
                    have hcz42_2 : wc.cell? ⟨gb106, 2, none⟩ = some (.int .i64 a0_2) := (blk_cell BK106.out 2).trans rfl
                    have hcz42_3 : wc.cell? ⟨gb106, 3, none⟩ = some (.int .i64 a0_3) := (blk_cell BK106.out 3).trans rfl
                    have hcz42_4 : wc.cell? ⟨gb106, 4, none⟩ = some (.slice A0_4 l0_4.length c0_4) := (blk_cell BK106.out 4).trans rfl
                    have hfz42_0 := blk_frozen BK106.out 0
                    have hfz42_1 := blk_frozen BK106.out 1
                    have hfz42_2 := blk_frozen BK106.out 2
                    have hfz42_3 := blk_frozen BK106.out 3
                    have hfz42_4 := blk_frozen BK106.out 4
                    go_wp2
                    go_meet
                    case rel => exact ⟨_, (false), (by first | rfl | (simp; done) | (simp [*]; done)), H', ⟨by have := HJ2.out; first | omega | exact Nat.le_refl _⟩, ⟨by (with_reducible repeat (first | refine blk_drewN ?_ _ | refine blk_drew ?_ | refine blk_alloc ?_ _)); exact BK106.out⟩, ⟨by (with_reducible repeat (first | refine blk_drewN ?_ _ | refine blk_drew ?_ | refine blk_alloc ?_ _)); exact BK111.out⟩, ⟨by repeat (first | (with_reducible first | exact HB.out | apply below_alloc | apply pw_below_drewN | apply below_drew1 | refine below_set ?_ GE106.out | refine below_set ?_ GE111.out) | exact HB.out)⟩⟩
                  · replace c39 := Bool.eq_false_iff.mpr c39
                    subst c39
                    have H1 : (flow_May.j1 kj2 (decide ((l0_4.length : Int) > 0)) a0_0 a0_1 a0_2 a0_3 l0_4 true false true false) = some r := by rw [if_neg (show ¬ (false = true) by decide)] at H; exact H
                    clear H
                    have H := H1
                    clear H1
                    have H' := Aside0.mk H
                    clear H
                    have hnb43 := NB111_106.out
                    have hnc43 := NB106_111.out
                    have hcz44_0 : wc.cell? ⟨gb111, 0, none⟩ = some (.bool true) := (blk_cell BK111.out 0).trans rfl
                    have hcz44_1 : wc.cell? ⟨gb111, 1, none⟩ = some (.bool false) := (blk_cell BK111.out 1).trans rfl
                    have hcz44_2 : wc.cell? ⟨gb111, 2, none⟩ = some (.bool true) := (blk_cell BK111.out 2).trans rfl
                    have hcz44_3 : wc.cell? ⟨gb111, 3, none⟩ = some (.bool false) := (blk_cell BK111.out 3).trans rfl
                    have hfz44_0 := blk_frozen BK111.out 0
                    have hfz44_1 := blk_frozen BK111.out 1
                    have hfz44_2 := blk_frozen BK111.out 2
                    have hfz44_3 := blk_frozen BK111.out 3
                    have hcz45_0 : wc.cell? ⟨gb106, 0, none⟩ = some (.int .i64 a0_0) := (blk_cell BK106.out 0).trans rfl
                    have hcz45_1 : wc.cell? ⟨gb106, 1, none⟩ = some (.int .i64 a0_1) := (blk_cell BK106.out 1).trans rfl
                    have hcz45_2 : wc.cell? ⟨gb106, 2, none⟩ = some (.int .i64 a0_2) := (blk_cell BK106.out 2).trans rfl
                    have hcz45_3 : wc.cell? ⟨gb106, 3, none⟩ = some (.int .i64 a0_3) := (blk_cell BK106.out 3).trans rfl
                    have hcz45_4 : wc.cell? ⟨gb106, 4, none⟩ = some (.slice A0_4 l0_4.length c0_4) := (blk_cell BK106.out 4).trans rfl
                    have hfz45_0 := blk_frozen BK106.out 0
                    have hfz45_1 := blk_frozen BK106.out 1
                    have hfz45_2 := blk_frozen BK106.out 2
                    have hfz45_3 := blk_frozen BK106.out 3
                    have hfz45_4 := blk_frozen BK106.out 4
                    go_wp2
                    go_meet
                    case rel => exact ⟨_, (decide ((l0_4.length : Int) > 0)), (by first | rfl | (simp; done) | (simp [*]; done)), H', ⟨by have := HJ2.out; first | omega | exact Nat.le_refl _⟩, ⟨by (with_reducible repeat (first | refine blk_drewN ?_ _ | refine blk_drew ?_ | refine blk_alloc ?_ _)); exact BK106.out⟩, ⟨by (with_reducible repeat (first | refine blk_drewN ?_ _ | refine blk_drew ?_ | refine blk_alloc ?_ _)); exact BK111.out⟩, ⟨by repeat (first | (with_reducible first | exact HB.out | apply below_alloc | apply pw_below_drewN | apply below_drew1 | refine below_set ?_ GE106.out | refine below_set ?_ GE111.out) | exact HB.out)⟩⟩
                · replace c38 := Bool.eq_false_iff.mpr c38
                  subst c38
                  have H1 : (if a0_3 = 0 then (if t110 = true then (flow_May.j1 kj2 false a0_0 a0_1 a0_2 a0_3 l0_4 true false false t110) else (flow_May.j1 kj2 (decide ((l0_4.length : Int) > 0)) a0_0 a0_1 a0_2 a0_3 l0_4 true false false t110)) else (flow_May.j1 kj2 true a0_0 a0_1 a0_2 a0_3 l0_4 true false false t110)) = some r := by rw [if_neg (show ¬ (false = true) by decide)] at H; exact H
                  clear H
                  have H := H1
                  clear H1
                  by_cases c46 : a0_3 = 0
                  · rw [if_pos c46] at H
                    have c46b0 : (a0_3 == 0) = true := beq_iff_eq.mpr c46
                    have c46b1 : (a0_3 != 0) = false := bne_eq_false_iff_eq.mpr c46
                    clear c46
                    by_cases c47 : t110 = true
                    · subst c47
                      have H1 : (flow_May.j1 kj2 false a0_0 a0_1 a0_2 a0_3 l0_4 true false false true) = some r := by rw [if_pos rfl] at H; exact H
                      clear H
                      have H := H1
                      clear H1
                      have H' := Aside0.mk H
                      clear H
                      have hnb48 := NB111_106.out
                      have hnc48 := NB106_111.out
                      have hcz49_0 : wc.cell? ⟨gb111, 0, none⟩ = some (.bool true) := (blk_cell BK111.out 0).trans rfl
                      have hcz49_1 : wc.cell? ⟨gb111, 1, none⟩ = some (.bool false) := (blk_cell BK111.out 1).trans rfl
                      have hcz49_2 : wc.cell? ⟨gb111, 2, none⟩ = some (.bool false) := (blk_cell BK111.out 2).trans rfl
                      have hcz49_3 : wc.cell? ⟨gb111, 3, none⟩ = some (.bool true) := (blk_cell BK111.out 3).trans rfl
                      have hfz49_0 := blk_frozen BK111.out 0
                      have hfz49_1 := blk_frozen BK111.out 1
                      have hfz49_2 := blk_frozen BK111.out 2
                      have hfz49_3 := blk_frozen BK111.out 3
                      have hcz50_0 : wc.cell? ⟨gb106, 0, none⟩ = some (.int .i64 a0_0) := (blk_cell BK106.out 0).trans rfl
                      have hcz50_1 : wc.cell? ⟨gb106, 1, none⟩ = some (.int .i64 a0_1) := (blk_cell BK106.out 1).trans rfl
                      have hcz50_2 : wc.cell? ⟨gb106, 2, none⟩ = some (.int .i64 a0_2) := (blk_cell BK106.out 2).trans rfl
                      have hcz50_3 : wc.cell? ⟨gb106, 3, none⟩ = some (.int .i64 a0_3) := (blk_cell BK106.out 3).trans rfl
                      have hcz50_4 : wc.cell? ⟨gb106, 4, none⟩ = some (.slice A0_4 l0_4.length c0_4) := (blk_cell BK106.out 4).trans rfl
                      have hfz50_0 := blk_frozen BK106.out 0
                      have hfz50_1 := blk_frozen BK106.out 1
                      have hfz50_2 := blk_frozen BK106.out 2
                      have hfz50_3 := blk_frozen BK106.out 3
                      have hfz50_4 := blk_frozen BK106.out 4
                      go_wp2
                      go_meet
                      case rel => exact ⟨_, (false), (by first | rfl | (simp; done) | (simp [*]; done)), H', ⟨by have := HJ2.out; first | omega | exact Nat.le_refl _⟩, ⟨by (with_reducible repeat (first | refine blk_drewN ?_ _ | refine blk_drew ?_ | refine blk_alloc ?_ _)); exact BK106.out⟩, ⟨by (with_reducible repeat (first | refine blk_drewN ?_ _ | refine blk_drew ?_ | refine blk_alloc ?_ _)); exact BK111.out⟩, ⟨by repeat (first | (with_reducible first | exact HB.out | apply below_alloc | apply pw_below_drewN | apply below_drew1 | refine below_set ?_ GE106.out | refine below_set ?_ GE111.out) | exact HB.out)⟩⟩
                    · replace c47 := Bool.eq_false_iff.mpr c47
                      subst c47
                      have H1 : (flow_May.j1 kj2 (decide ((l0_4.length : Int) > 0)) a0_0 a0_1 a0_2 a0_3 l0_4 true false false false) = some r := by rw [if_neg (show ¬ (false = true) by decide)] at H; exact H
                      clear H
                      have H := H1
                      clear H1
                      have H' := Aside0.mk H
                      clear H
                      have hnb51 := NB111_106.out
                      have hnc51 := NB106_111.out
                      have hcz52_0 : wc.cell? ⟨gb111, 0, none⟩ = some (.bool true) := (blk_cell BK111.out 0).trans rfl
                      have hcz52_1 : wc.cell? ⟨gb111, 1, none⟩ = some (.bool false) := (blk_cell BK111.out 1).trans rfl
                      have hcz52_2 : wc.cell? ⟨gb111, 2, none⟩ = some (.bool false) := (blk_cell BK111.out 2).trans rfl
                      have hcz52_3 : wc.cell? ⟨gb111, 3, none⟩ = some (.bool false) := (blk_cell BK111.out 3).trans rfl
                      have hfz52_0 := blk_frozen BK111.out 0
                      have hfz52_1 := blk_frozen BK111.out 1
                      have hfz52_2 := blk_frozen BK111.out 2
                      have hfz52_3 := blk_frozen BK111.out 3
                      have hcz53_0 : wc.cell? ⟨gb106, 0, none⟩ = some (.int .i64 a0_0) := (blk_cell BK106.out 0).trans rfl
                      have hcz53_1 : wc.cell? ⟨gb106, 1, none⟩ = some (.int .i64 a0_1) := (blk_cell BK106.out 1).trans rfl
                      have hcz53_2 : wc.cell? ⟨gb106, 2, none⟩ = some (.int .i64 a0_2) := (blk_cell BK106.out 2).trans rfl
                      have hcz53_3 : wc.cell? ⟨gb106, 3, none⟩ = some (.int .i64 a0_3) := (blk_cell BK106.out 3).trans rfl
                      have hcz53_4 : wc.cell? ⟨gb106, 4, none⟩ = some (.slice A0_4 l0_4.length c0_4) := (blk_cell BK106.out 4).trans rfl
                      have hfz53_0 := blk_frozen BK106.out 0
                      have hfz53_1 := blk_frozen BK106.out 1
                      have hfz53_2 := blk_frozen BK106.out 2
                      have hfz53_3 := blk_frozen BK106.out 3
                      have hfz53_4 := blk_frozen BK106.out 4
                      go_wp2
                      go_meet
                      case rel => exact ⟨_, (decide ((l0_4.length : Int) > 0)), (by first | rfl | (simp; done) | (simp [*]; done)), H', ⟨by have := HJ2.out; first | omega | exact Nat.le_refl _⟩, ⟨by (with_reducible repeat (first | refine blk_drewN ?_ _ | refine blk_drew ?_ | refine blk_alloc ?_ _)); exact BK106.out⟩, ⟨by (with_reducible repeat (first | refine blk_drewN ?_ _ | refine blk_drew ?_ | refine blk_alloc ?_ _)); exact BK111.out⟩, ⟨by repeat (first | (with_reducible first | exact HB.out | apply below_alloc | apply pw_below_drewN | apply below_drew1 | refine below_set ?_ GE106.out | refine below_set ?_ GE111.out) | exact HB.out)⟩⟩
                  · rw [if_neg c46] at H
                    have c46b0 : (a0_3 == 0) = false := beq_eq_false_iff_ne.mpr c46
                    have c46b1 : (a0_3 != 0) = true := bne_iff_ne.mpr c46
                    have H' := Aside0.mk H
                    clear H
                    have hnb54 := NB111_106.out
                    have hnc54 := NB106_111.out
                    have hcz55_0 : wc.cell? ⟨gb111, 0, none⟩ = some (.bool true) := (blk_cell BK111.out 0).trans rfl
                    have hcz55_1 : wc.cell? ⟨gb111, 1, none⟩ = some (.bool false) := (blk_cell BK111.out 1).trans rfl
                    have hcz55_2 : wc.cell? ⟨gb111, 2, none⟩ = some (.bool false) := (blk_cell BK111.out 2).trans rfl
                    have hcz55_3 : wc.cell? ⟨gb111, 3, none⟩ = some (.bool t110) := (blk_cell BK111.out 3).trans rfl
                    have hfz55_0 := blk_frozen BK111.out 0
                    have hfz55_1 := blk_frozen BK111.out 1
                    have hfz55_2 := blk_frozen BK111.out 2
                    have hfz55_3 := blk_frozen BK111.out 3
                    have hcz56_0 : wc.cell? ⟨gb106, 0, none⟩ = some (.int .i64 a0_0) := (blk_cell BK106.out 0).trans rfl
                    have hcz56_1 : wc.cell? ⟨gb106, 1, none⟩ = some (.int .i64 a0_1) := (blk_cell BK106.out 1).trans rfl
                    have hcz56_2 : wc.cell? ⟨gb106, 2, none⟩ = some (.int .i64 a0_2) := (blk_cell BK106.out 2).trans rfl
                    have hcz56_3 : wc.cell? ⟨gb106, 3, none⟩ = some (.int .i64 a0_3) := (blk_cell BK106.out 3).trans rfl
                    have hcz56_4 : wc.cell? ⟨gb106, 4, none⟩ = some (.slice A0_4 l0_4.length c0_4) := (blk_cell BK106.out 4).trans rfl
                    have hfz56_0 := blk_frozen BK106.out 0
                    have hfz56_1 := blk_frozen BK106.out 1
                    have hfz56_2 := blk_frozen BK106.out 2
                    have hfz56_3 := blk_frozen BK106.out 3
                    have hfz56_4 := blk_frozen BK106.out 4
                    go_wp2
                    go_meet
                    case rel => exact ⟨_, (true), (by first | rfl | (simp; done) | (simp [*]; done)), H', ⟨by have := HJ2.out; first | omega | exact Nat.le_refl _⟩, ⟨by (with_reducible repeat (first | refine blk_drewN ?_ _ | refine blk_drew ?_ | refine blk_alloc ?_ _)); exact BK106.out⟩, ⟨by (with_reducible repeat (first | refine blk_drewN ?_ _ | refine blk_drew ?_ | refine blk_alloc ?_ _)); exact BK111.out⟩, ⟨by repeat (first | (with_reducible first | exact HB.out | apply below_alloc | apply pw_below_drewN | apply below_drew1 | refine below_set ?_ GE106.out | refine below_set ?_ GE111.out) | exact HB.out)⟩⟩
              · rw [if_neg c37] at H
                have c37b0 : (a0_2 == 0) = false := beq_eq_false_iff_ne.mpr c37
                have c37b1 : (a0_2 != 0) = true := bne_iff_ne.mpr c37
                have H' := Aside0.mk H
                clear H
                have hnb57 := NB111_106.out
                have hnc57 := NB106_111.out
                have hcz58_0 : wc.cell? ⟨gb111, 0, none⟩ = some (.bool true) := (blk_cell BK111.out 0).trans rfl
                have hcz58_1 : wc.cell? ⟨gb111, 1, none⟩ = some (.bool false) := (blk_cell BK111.out 1).trans rfl
                have hcz58_2 : wc.cell? ⟨gb111, 2, none⟩ = some (.bool t109) := (blk_cell BK111.out 2).trans rfl
                have hcz58_3 : wc.cell? ⟨gb111, 3, none⟩ = some (.bool t110) := (blk_cell BK111.out 3).trans rfl
                have hfz58_0 := blk_frozen BK111.out 0
                have hfz58_1 := blk_frozen BK111.out 1
                have hfz58_2 := blk_frozen BK111.out 2
                have hfz58_3 := blk_frozen BK111.out 3
                have hcz59_0 : wc.cell? ⟨gb106, 0, none⟩ = some (.int .i64 a0_0) := (blk_cell BK106.out 0).trans rfl
                have hcz59_1 : wc.cell? ⟨gb106, 1, none⟩ = some (.int .i64 a0_1) := (blk_cell BK106.out 1).trans rfl
                have hcz59_2 : wc.cell? ⟨gb106, 2, none⟩ = some (.int .i64 a0_2) := (blk_cell BK106.out 2).trans rfl
                have hcz59_3 : wc.cell? ⟨gb106, 3, none⟩ = some (.int .i64 a0_3) := (blk_cell BK106.out 3).trans rfl
                have hcz59_4 : wc.cell? ⟨gb106, 4, none⟩ = some (.slice A0_4 l0_4.length c0_4) := (blk_cell BK106.out 4).trans rfl
                have hfz59_0 := blk_frozen BK106.out 0
                have hfz59_1 := blk_frozen BK106.out 1
                have hfz59_2 := blk_frozen BK106.out 2
                have hfz59_3 := blk_frozen BK106.out 3
                have hfz59_4 := blk_frozen BK106.out 4
                go_wp2
                go_meet
                case rel => exact ⟨_, (true), (by first | rfl | (simp; done) | (simp [*]; done)), H', ⟨by have := HJ2.out; first | omega | exact Nat.le_refl _⟩, ⟨by (with_reducible repeat (first | refine blk_drewN ?_ _ | refine blk_drew ?_ | refine blk_alloc ?_ _)); exact BK106.out⟩, ⟨by (with_reducible repeat (first | refine blk_drewN ?_ _ | refine blk_drew ?_ | refine blk_alloc ?_ _)); exact BK111.out⟩, ⟨by repeat (first | (with_reducible first | exact HB.out | apply below_alloc | apply pw_below_drewN | apply below_drew1 | refine below_set ?_ GE106.out | refine below_set ?_ GE111.out) | exact HB.out)⟩⟩
          · replace c17 := Bool.eq_false_iff.mpr c17
            subst c17
            have H1 : (if a0_1 = 0 then (if t108 = true then (if t109 = true then (if t110 = true then (flow_May.j1 kj2 false a0_0 a0_1 a0_2 a0_3 l0_4 false t108 t109 t110) else (flow_May.j1 kj2 (decide ((l0_4.length : Int) > 0)) a0_0 a0_1 a0_2 a0_3 l0_4 false t108 t109 t110)) else (if a0_3 = 0 then (if t110 = true then (flow_May.j1 kj2 false a0_0 a0_1 a0_2 a0_3 l0_4 false t108 t109 t110) else (flow_May.j1 kj2 (decide ((l0_4.length : Int) > 0)) a0_0 a0_1 a0_2 a0_3 l0_4 false t108 t109 t110)) else (flow_May.j1 kj2 true a0_0 a0_1 a0_2 a0_3 l0_4 false t108 t109 t110))) else (if a0_2 = 0 then (if t109 = true then (if t110 = true then (flow_May.j1 kj2 false a0_0 a0_1 a0_2 a0_3 l0_4 false t108 t109 t110) else (flow_May.j1 kj2 (decide ((l0_4.length : Int) > 0)) a0_0 a0_1 a0_2 a0_3 l0_4 false t108 t109 t110)) else (if a0_3 = 0 then (if t110 = true then (flow_May.j1 kj2 false a0_0 a0_1 a0_2 a0_3 l0_4 false t108 t109 t110) else (flow_May.j1 kj2 (decide ((l0_4.length : Int) > 0)) a0_0 a0_1 a0_2 a0_3 l0_4 false t108 t109 t110)) else (flow_May.j1 kj2 true a0_0 a0_1 a0_2 a0_3 l0_4 false t108 t109 t110))) else (flow_May.j1 kj2 true a0_0 a0_1 a0_2 a0_3 l0_4 false t108 t109 t110))) else (flow_May.j1 kj2 true a0_0 a0_1 a0_2 a0_3 l0_4 false t108 t109 t110)) = some r := by rw [if_neg (show ¬ (false = true) by decide)] at H; exact H
            clear H
            have H := H1
            clear H1
            by_cases c60 : a0_1 = 0
            · rw [if_pos c60] at H
              have c60b0 : (a0_1 == 0) = true := beq_iff_eq.mpr c60
              have c60b1 : (a0_1 != 0) = false := bne_eq_false_iff_eq.mpr c60
              clear c60
              by_cases c61 : t108 = true
              · subst c61
                have H1 : (if t109 = true then (if t110 = true then (flow_May.j1 kj2 false a0_0 a0_1 a0_2 a0_3 l0_4 false true t109 t110) else (flow_May.j1 kj2 (decide ((l0_4.length : Int) > 0)) a0_0 a0_1 a0_2 a0_3 l0_4 false true t109 t110)) else (if a0_3 = 0 then (if t110 = true then (flow_May.j1 kj2 false a0_0 a0_1 a0_2 a0_3 l0_4 false true t109 t110) else (flow_May.j1 kj2 (decide ((l0_4.length : Int) > 0)) a0_0 a0_1 a0_2 a0_3 l0_4 false true t109 t110)) else (flow_May.j1 kj2 true a0_0 a0_1 a0_2 a0_3 l0_4 false true t109 t110))) = some r := by rw [if_pos rfl] at H; exact H
                clear H
                have H := H1
                clear H1
                by_cases c62 : t109 = true
                · subst c62
                  have H1 : (if t110 = true then (flow_May.j1 kj2 false a0_0 a0_1 a0_2 a0_3 l0_4 false true true t110) else (flow_May.j1 kj2 (decide ((l0_4.length : Int) > 0)) a0_0 a0_1 a0_2 a0_3 l0_4 false true true t110)) = some r := by rw [if_pos rfl] at H; exact H
                  clear H
                  have H := H1
                  clear H1
                  by_cases c63 : t110 = true
                  · subst c63
                    have H1 : (flow_May.j1 kj2 false a0_0 a0_1 a0_2 a0_3 l0_4 false true true true) = some r := by rw [if_pos rfl] at H; exact H
                    clear H
                    have H := H1
                    clear H1
                    have H' := Aside0.mk H
                    clear H
                    have hnb64 := NB111_106.out
                    have hnc64 := NB106_111.out
                    have hcz65_0 : wc.cell? ⟨gb111, 0, none⟩ = some (.bool false) := (blk_cell BK111.out 0).trans rfl
                    have hcz65_1 : wc.cell? ⟨gb111, 1, none⟩ = some (.bool true) := (blk_cell BK111.out 1).trans rfl
                    have hcz65_2 : wc.cell? ⟨gb111, 2, none⟩ = some (.bool true) := (blk_cell BK111.out 2).trans rfl
                    have hcz65_3 : wc.cell? ⟨gb111, 3, none⟩ = some (.bool true) := (blk_cell BK111.out 3).trans rfl
                    have hfz65_0 := blk_frozen BK111.out 0
                    have hfz65_1 := blk_frozen BK111.out 1
                    have hfz65_2 := blk_frozen BK111.out 2
                    have hfz65_3 := blk_frozen BK111.out 3
                    have hcz66_0 : wc.cell? ⟨gb106, 0, none⟩ = some (.int .i64 a0_0) := (blk_cell BK106.out 0).trans rfl
                    have hcz66_1 : wc.cell? ⟨gb106, 1, none⟩ = some (.int .i64 a0_1) := (blk_cell BK106.out 1).trans rfl
                    have hcz66_2 : wc.cell? ⟨gb106, 2, none⟩ = some (.int .i64 a0_2) := (blk_cell BK106.out 2).trans rfl
                    have hcz66_3 : wc.cell? ⟨gb106, 3, none⟩ = some (.int .i64 a0_3) := (blk_cell BK106.out 3).trans rfl
                    have hcz66_4 : wc.cell? ⟨gb106, 4, none⟩ = some (.slice A0_4 l0_4.length c0_4) := (blk_cell BK106.out 4).trans rfl
                    have hfz66_0 := blk_frozen BK106.out 0
                    have hfz66_1 := blk_frozen BK106.out 1
                    have hfz66_2 := blk_frozen BK106.out 2
                    have hfz66_3 := blk_frozen BK106.out 3
                    have hfz66_4 := blk_frozen BK106.out 4
                    go_wp2
                    go_meet
                    case rel => exact ⟨_, (false), (by first | rfl | (simp; done) | (simp [*]; done)), H', ⟨by have := HJ2.out; first | omega | exact Nat.le_refl _⟩, ⟨by (with_reducible repeat (first | refine blk_drewN ?_ _ | refine blk_drew ?_ | refine blk_alloc ?_ _)); exact BK106.out⟩, ⟨by (with_reducible repeat (first | refine blk_drewN ?_ _ | refine blk_drew ?_ | refine blk_alloc ?_ _)); exact BK111.out⟩, ⟨by repeat (first | (with_reducible first | exact HB.out | apply below_alloc | apply pw_below_drewN | apply below_drew1 | refine below_set ?_ GE106.out | refine below_set ?_ GE111.out) | exact HB.out)⟩⟩
                  · replace c63 := Bool.eq_false_iff.mpr c63
                    subst c63
                    have H1 : (flow_May.j1 kj2 (decide ((l0_4.length : Int) > 0)) a0_0 a0_1 a0_2 a0_3 l0_4 false true true false) = some r := by rw [if_neg (show ¬ (false = true) by decide)] at H; exact H
                    clear H
                    have H := H1
                    clear H1
                    have H' := Aside0.mk H
                    clear H
                    have hnb67 := NB111_106.out
                    have hnc67 := NB106_111.out
                    have hcz68_0 : wc.cell? ⟨gb111, 0, none⟩ = some (.bool false) := (blk_cell BK111.out 0).trans rfl
                    have hcz68_1 : wc.cell? ⟨gb111, 1, none⟩ = some (.bool true) := (blk_cell BK111.out 1).trans rfl
                    have hcz68_2 : wc.cell? ⟨gb111, 2, none⟩ = some (.bool true) := (blk_cell BK111.out 2).trans rfl
                    have hcz68_3 : wc.cell? ⟨gb111, 3, none⟩ = some (.bool false) := (blk_cell BK111.out 3).trans rfl
                    have hfz68_0 := blk_frozen BK111.out 0
                    have hfz68_1 := blk_frozen BK111.out 1
                    have hfz68_2 := blk_frozen BK111.out 2
                    have hfz68_3 := blk_frozen BK111.out 3
                    have hcz69_0 : wc.cell? ⟨gb106, 0, none⟩ = some (.int .i64 a0_0) := (blk_cell BK106.out 0).trans rfl
                    have hcz69_1 : wc.cell? ⟨gb106, 1, none⟩ = some (.int .i64 a0_1) := (blk_cell BK106.out 1).trans rfl
                    have hcz69_2 : wc.cell? ⟨gb106, 2, none⟩ = some (.int .i64 a0_2) := (blk_cell BK106.out 2).trans rfl
                    have hcz69_3 : wc.cell? ⟨gb106, 3, none⟩ = some (.int .i64 a0_3) := (blk_cell BK106.out 3).trans rfl
                    have hcz69_4 : wc.cell? ⟨gb106, 4, none⟩ = some (.slice A0_4 l0_4.length c0_4) := (blk_cell BK106.out 4).trans rfl
                    have hfz69_0 := blk_frozen BK106.out 0
                    have hfz69_1 := blk_frozen BK106.out 1
                    have hfz69_2 := blk_frozen BK106.out 2
                    have hfz69_3 := blk_frozen BK106.out 3
                    have hfz69_4 := blk_frozen BK106.out 4
                    go_wp2
                    go_meet
                    case rel => exact ⟨_, (decide ((l0_4.length : Int) > 0)), (by first | rfl | (simp; done) | (simp [*]; done)), H', ⟨by have := HJ2.out; first | omega | exact Nat.le_refl _⟩, ⟨by (with_reducible repeat (first | refine blk_drewN ?_ _ | refine blk_drew ?_ | refine blk_alloc ?_ _)); exact BK106.out⟩, ⟨by (with_reducible repeat (first | refine blk_drewN ?_ _ | refine blk_drew ?_ | refine blk_alloc ?_ _)); exact BK111.out⟩, ⟨by repeat (first | (with_reducible first | exact HB.out | apply below_alloc | apply pw_below_drewN | apply below_drew1 | refine below_set ?_ GE106.out | refine below_set ?_ GE111.out) | exact HB.out)⟩⟩
                · replace c62 := Bool.eq_false_iff.mpr c62
                  subst c62
                  have H1 : (if a0_3 = 0 then (if t110 = true then (flow_May.j1 kj2 false a0_0 a0_1 a0_2 a0_3 l0_4 false true false t110) else (flow_May.j1 kj2 (decide ((l0_4.length : Int) > 0)) a0_0 a0_1 a0_2 a0_3 l0_4 false true false t110)) else (flow_May.j1 kj2 true a0_0 a0_1 a0_2 a0_3 l0_4 false true false t110)) = some r := by rw [if_neg (show ¬ (false = true) by decide)] at H; exact H
                  clear H
                  have H := H1
                  clear H1
                  by_cases c70 : a0_3 = 0
                  · rw [if_pos c70] at H
                    have c70b0 : (a0_3 == 0) = true := beq_iff_eq.mpr c70
                    have c70b1 : (a0_3 != 0) = false := bne_eq_false_iff_eq.mpr c70
                    clear c70
                    by_cases c71 : t110 = true
                    · subst c71
                      have H1 : (flow_May.j1 kj2 false a0_0 a0_1 a0_2 a0_3 l0_4 false true false true) = some r := by rw [if_pos rfl] at H; exact H
                      clear H
                      have H := H1
                      clear H1
                      have H' := Aside0.mk H
                      clear H
                      have hnb72 := NB111_106.out
                      have hnc72 := NB106_111.out
                      have hcz73_0 : wc.cell? ⟨gb111, 0, none⟩ = some (.bool false) := (blk_cell BK111.out 0).trans rfl
                      have hcz73_1 : wc.cell? ⟨gb111, 1, none⟩ = some (.bool true) := (blk_cell BK111.out 1).trans rfl
                      have hcz73_2 : wc.cell? ⟨gb111, 2, none⟩ = some (.bool false) := (blk_cell BK111.out 2).trans rfl
                      have hcz73_3 : wc.cell? ⟨gb111, 3, none⟩ = some (.bool true) := (blk_cell BK111.out 3).trans rfl
                      have hfz73_0 := blk_frozen BK111.out 0
                      have hfz73_1 := blk_frozen BK111.out 1
                      have hfz73_2 := blk_frozen BK111.out 2
                      have hfz73_3 := blk_frozen BK111.out 3
                      have hcz74_0 : wc.cell? ⟨gb106, 0, none⟩ = some (.int .i64 a0_0) := (blk_cell BK106.out 0).trans rfl
                      have hcz74_1 : wc.cell? ⟨gb106, 1, none⟩ = some (.int .i64 a0_1) := (blk_cell BK106.out 1).trans rfl
                      have hcz74_2 : wc.cell? ⟨gb106, 2, none⟩ = some (.int .i64 a0_2) := (blk_cell BK106.out 2).trans rfl
                      have hcz74_3 : wc.cell? ⟨gb106, 3, none⟩ = some (.int .i64 a0_3) := (blk_cell BK106.out 3).trans rfl
                      have hcz74_4 : wc.cell? ⟨gb106, 4, none⟩ = some (.slice A0_4 l0_4.length c0_4) := (blk_cell BK106.out 4).trans rfl
                      have hfz74_0 := blk_frozen BK106.out 0
                      have hfz74_1 := blk_frozen BK106.out 1
                      have hfz74_2 := blk_frozen BK106.out 2
                      have hfz74_3 := blk_frozen BK106.out 3
                      have hfz74_4 := blk_frozen BK106.out 4
                      go_wp2
                      go_meet
                      case rel => exact ⟨_, (false), (by first | rfl | (simp; done) | (simp [*]; done)), H', ⟨by have := HJ2.out; first | omega | exact Nat.le_refl _⟩, ⟨by (with_reducible repeat (first | refine blk_drewN ?_ _ | refine blk_drew ?_ | refine blk_alloc ?_ _)); exact BK106.out⟩, ⟨by (with_reducible repeat (first | refine blk_drewN ?_ _ | refine blk_drew ?_ | refine blk_alloc ?_ _)); exact BK111.out⟩, ⟨by repeat (first | (with_reducible first | exact HB.out | apply below_alloc | apply pw_below_drewN | apply below_drew1 | refine below_set ?_ GE106.out | refine below_set ?_ GE111.out) | exact HB.out)⟩⟩
                    · replace c71 := Bool.eq_false_iff.mpr c71
                      subst c71
                      have H1 : (flow_May.j1 kj2 (decide ((l0_4.length : Int) > 0)) a0_0 a0_1 a0_2 a0_3 l0_4 false true false false) = some r := by rw [if_neg (show ¬ (false = true) by decide)] at H; exact H
                      clear H
                      have H := H1
                      clear H1
                      have H' := Aside0.mk H
                      clear H
                      have hnb75 := NB111_106.out
                      have hnc75 := NB106_111.out
                      have hcz76_0 : wc.cell? ⟨gb111, 0, none⟩ = some (.bool false) := (blk_cell BK111.out 0).trans rfl
                      have hcz76_1 : wc.cell? ⟨gb111, 1, none⟩ = some (.bool true) := (blk_cell BK111.out 1).trans rfl
                      have hcz76_2 : wc.cell? ⟨gb111, 2, none⟩ = some (.bool false) := (blk_cell BK111.out 2).trans rfl
                      have hcz76_3 : wc.cell? ⟨gb111, 3, none⟩ = some (.bool false) := (blk_cell BK111.out 3).trans rfl
                      have hfz76_0 := blk_frozen BK111.out 0
                      have hfz76_1 := blk_frozen BK111.out 1
                      have hfz76_2 := blk_frozen BK111.out 2
                      have hfz76_3 := blk_frozen BK111.out 3
                      have hcz77_0 : wc.cell? ⟨gb106, 0, none⟩ = some (.int .i64 a0_0) := (blk_cell BK106.out 0).trans rfl
                      have hcz77_1 : wc.cell? ⟨gb106, 1, none⟩ = some (.int .i64 a0_1) := (blk_cell BK106.out 1).trans rfl
                      have hcz77_2 : wc.cell? ⟨gb106, 2, none⟩ = some (.int .i64 a0_2) := (blk_cell BK106.out 2).trans rfl
                      have hcz77_3 : wc.cell? ⟨gb106, 3, none⟩ = some (.int .i64 a0_3) := (blk_cell BK106.out 3).trans rfl
                      have hcz77_4 : wc.cell? ⟨gb106, 4, none⟩ = some (.slice A0_4 l0_4.length c0_4) := (blk_cell BK106.out 4).trans rfl
                      have hfz77_0 := blk_frozen BK106.out 0
                      have hfz77_1 := blk_frozen BK106.out 1
                      have hfz77_2 := blk_frozen BK106.out 2
                      have hfz77_3 := blk_frozen BK106.out 3
                      have hfz77_4 := blk_frozen BK106.out 4
                      go_wp2
                      go_meet
                      case rel => exact ⟨_, (decide ((l0_4.length : Int) > 0)), (by first | rfl | (simp; done) | (simp [*]; done)), H', ⟨by have := HJ2.out; first | omega | exact Nat.le_refl _⟩, ⟨by (with_reducible repeat (first | refine blk_drewN ?_ _ | refine blk_drew ?_ | refine blk_alloc ?_ _)); exact BK106.out⟩, ⟨by (with_reducible repeat (first | refine blk_drewN ?_ _ | refine blk_drew ?_ | refine blk_alloc ?_ _)); exact BK111.out⟩, ⟨by repeat (first | (with_reducible first | exact HB.out | apply below_alloc | apply pw_below_drewN | apply below_drew1 | refine below_set ?_ GE106.out | refine below_set ?_ GE111.out) | exact HB.out)⟩⟩
                  · rw [if_neg c70] at H
                    have c70b0 : (a0_3 == 0) = false := beq_eq_false_iff_ne.mpr c70
                    have c70b1 : (a0_3 != 0) = true := bne_iff_ne.mpr c70
                    have H' := Aside0.mk H
                    clear H
                    have hnb78 := NB111_106.out
                    have hnc78 := NB106_111.out
                    have hcz79_0 : wc.cell? ⟨gb111, 0, none⟩ = some (.bool false) := (blk_cell BK111.out 0).trans rfl
                    have hcz79_1 : wc.cell? ⟨gb111, 1, none⟩ = some (.bool true) := (blk_cell BK111.out 1).trans rfl
                    have hcz79_2 : wc.cell? ⟨gb111, 2, none⟩ = some (.bool false) := (blk_cell BK111.out 2).trans rfl
                    have hcz79_3 : wc.cell? ⟨gb111, 3, none⟩ = some (.bool t110) := (blk_cell BK111.out 3).trans rfl
                    have hfz79_0 := blk_frozen BK111.out 0
                    have hfz79_1 := blk_frozen BK111.out 1
                    have hfz79_2 := blk_frozen BK111.out 2
                    have hfz79_3 := blk_frozen BK111.out 3
                    have hcz80_0 : wc.cell? ⟨gb106, 0, none⟩ = some (.int .i64 a0_0) := (blk_cell BK106.out 0).trans rfl
                    have hcz80_1 : wc.cell? ⟨gb106, 1, none⟩ = some (.int .i64 a0_1) := (blk_cell BK106.out 1).trans rfl
                    have hcz80_2 : wc.cell? ⟨gb106, 2, none⟩ = some (.int .i64 a0_2) := (blk_cell BK106.out 2).trans rfl
                    have hcz80_3 : wc.cell? ⟨gb106, 3, none⟩ = some (.int .i64 a0_3) := (blk_cell BK106.out 3).trans rfl
                    have hcz80_4 : wc.cell? ⟨gb106, 4, none⟩ = some (.slice A0_4 l0_4.length c0_4) := (blk_cell BK106.out 4).trans rfl
                    have hfz80_0 := blk_frozen BK106.out 0
                    have hfz80_1 := blk_frozen BK106.out 1
                    have hfz80_2 := blk_frozen BK106.out 2
                    have hfz80_3 := blk_frozen BK106.out 3
                    have hfz80_4 := blk_frozen BK106.out 4
                    go_wp2
                    go_meet
                    case rel => exact ⟨_, (true), (by first | rfl | (simp; done) | (simp [*]; done)), H', ⟨by have := HJ2.out; first | omega | exact Nat.le_refl _⟩, ⟨by (with_reducible repeat (first | refine blk_drewN ?_ _ | refine blk_drew ?_ | refine blk_alloc ?_ _)); exact BK106.out⟩, ⟨by (with_reducible repeat (first | refine blk_drewN ?_ _ | refine blk_drew ?_ | refine blk_alloc ?_ _)); exact BK111.out⟩, ⟨by repeat (first | (with_reducible first | exact HB.out | apply below_alloc | apply pw_below_drewN | apply below_drew1 | refine below_set ?_ GE106.out | refine below_set ?_ GE111.out) | exact HB.out)⟩⟩
              · replace c61 := Bool.eq_false_iff.mpr c61
                subst c61
                have H1 : (if a0_2 = 0 then (if t109 = true then (if t110 = true then (flow_May.j1 kj2 false a0_0 a0_1 a0_2 a0_3 l0_4 false false t109 t110) else (flow_May.j1 kj2 (decide ((l0_4.length : Int) > 0)) a0_0 a0_1 a0_2 a0_3 l0_4 false false t109 t110)) else (if a0_3 = 0 then (if t110 = true then (flow_May.j1 kj2 false a0_0 a0_1 a0_2 a0_3 l0_4 false false t109 t110) else (flow_May.j1 kj2 (decide ((l0_4.length : Int) > 0)) a0_0 a0_1 a0_2 a0_3 l0_4 false false t109 t110)) else (flow_May.j1 kj2 true a0_0 a0_1 a0_2 a0_3 l0_4 false false t109 t110))) else (flow_May.j1 kj2 true a0_0 a0_1 a0_2 a0_3 l0_4 false false t109 t110)) = some r := by rw [if_neg (show ¬ (false = true) by decide)] at H; exact H
                clear H
                have H := H1
                clear H1
                by_cases c81 : a0_2 = 0
                · rw [if_pos c81] at H
                  have c81b0 : (a0_2 == 0) = true := beq_iff_eq.mpr c81
                  have c81b1 : (a0_2 != 0) = false := bne_eq_false_iff_eq.mpr c81
                  clear c81
                  by_cases c82 : t109 = true
                  · subst c82
                    have H1 : (if t110 = true then (flow_May.j1 kj2 false a0_0 a0_1 a0_2 a0_3 l0_4 false false true t110) else (flow_May.j1 kj2 (decide ((l0_4.length : Int) > 0)) a0_0 a0_1 a0_2 a0_3 l0_4 false false true t110)) = some r := by rw [if_pos rfl] at H; exact H
                    clear H
                    have H := H1
                    clear H1
                    by_cases c83 : t110 = true
                    · subst c83
                      have H1 : (flow_May.j1 kj2 false a0_0 a0_1 a0_2 a0_3 l0_4 false false true true) = some r := by rw [if_pos rfl] at H; exact H
                      clear H
                      have H := H1
                      clear H1
                      have H' := Aside0.mk H
                      clear H
                      have hnb84 := NB111_106.out
                      have hnc84 := NB106_111.out
                      have hcz85_0 : wc.cell? ⟨gb111, 0, none⟩ = some (.bool false) := (blk_cell BK111.out 0).trans rfl
                      have hcz85_1 : wc.cell? ⟨gb111, 1, none⟩ = some (.bool false) := (blk_cell BK111.out 1).trans rfl
                      have hcz85_2 : wc.cell? ⟨gb111, 2, none⟩ = some (.bool true) := (blk_cell BK111.out 2).trans rfl
                      have hcz85_3 : wc.cell? ⟨gb111, 3, none⟩ = some (.bool true) := (blk_cell BK111.out 3).trans rfl
                      have hfz85_0 := blk_frozen BK111.out 0
                      have hfz85_1 := blk_frozen BK111.out 1
                      have hfz85_2 := blk_frozen BK111.out 2
                      have hfz85_3 := blk_frozen BK111.out 3
                      have hcz86_0 : wc.cell? ⟨gb106, 0, none⟩ = some (.int .i64 a0_0) := (blk_cell BK106.out 0).trans rfl
                      have hcz86_1 : wc.cell? ⟨gb106, 1, none⟩ = some (.int .i64 a0_1) := (blk_cell BK106.out 1).trans rfl
                      have hcz86_2 : wc.cell? ⟨gb106, 2, none⟩ = some (.int .i64 a0_2) := (blk_cell BK106.out 2).trans rfl
                      have hcz86_3 : wc.cell? ⟨gb106, 3, none⟩ = some (.int .i64 a0_3) := (blk_cell BK106.out 3).trans rfl
                      have hcz86_4 : wc.cell? ⟨gb106, 4, none⟩ = some (.slice A0_4 l0_4.length c0_4) := (blk_cell BK106.out 4).trans rfl
                      have hfz86_0 := blk_frozen BK106.out 0
                      have hfz86_1 := blk_frozen BK106.out 1
                      have hfz86_2 := blk_frozen BK106.out 2
                      have hfz86_3 := blk_frozen BK106.out 3
                      have hfz86_4 := blk_frozen BK106.out 4
                      go_wp2
                      go_meet
                      case rel => exact ⟨_, (false), (by first | rfl | (simp; done) | (simp [*]; done)), H', ⟨by have := HJ2.out; first | omega | exact Nat.le_refl _⟩, ⟨by (with_reducible repeat (first | refine blk_drewN ?_ _ | refine blk_drew ?_ | refine blk_alloc ?_ _)); exact BK106.out⟩, ⟨by (with_reducible repeat (first | refine blk_drewN ?_ _ | refine blk_drew ?_ | refine blk_alloc ?_ _)); exact BK111.out⟩, ⟨by repeat (first | (with_reducible first | exact HB.out | apply below_alloc | apply pw_below_drewN | apply below_drew1 | refine below_set ?_ GE106.out | refine below_set ?_ GE111.out) | exact HB.out)⟩⟩
                    · replace c83 := Bool.eq_false_iff.mpr c83
                      subst c83
                      have H1 : (flow_May.j1 kj2 (decide ((l0_4.length : Int) > 0)) a0_0 a0_1 a0_2 a0_3 l0_4 false false true false) = some r := by rw [if_neg (show ¬ (false = true) by decide)] at H; exact H
                      clear H
                      have H := H1
                      clear H1
                      have H' := Aside0.mk H
                      clear H
                      have hnb87 := NB111_106.out
                      have hnc87 := NB106_111.out
                      have hcz88_0 : wc.cell? ⟨gb111, 0, none⟩ = some (.bool false) := (blk_cell BK111.out 0).trans rfl
                      have hcz88_1 : wc.cell? ⟨gb111, 1, none⟩ = some (.bool false) := (blk_cell BK111.out 1).trans rfl
                      have hcz88_2 : wc.cell? ⟨gb111, 2, none⟩ = some (.bool true) := (blk_cell BK111.out 2).trans rfl
                      have hcz88_3 : wc.cell? ⟨gb111, 3, none⟩ = some (.bool false) := (blk_cell BK111.out 3).trans rfl
                      have hfz88_0 := blk_frozen BK111.out 0
                      have hfz88_1 := blk_frozen BK111.out 1
                      have hfz88_2 := blk_frozen BK111.out 2
                      have hfz88_3 := blk_frozen BK111.out 3
                      have hcz89_0 : wc.cell? ⟨gb106, 0, none⟩ = some (.int .i64 a0_0) := (blk_cell BK106.out 0).trans rfl
                      have hcz89_1 : wc.cell? ⟨gb106, 1, none⟩ = some (.int .i64 a0_1) := (blk_cell BK106.out 1).trans rfl
                      have hcz89_2 : wc.cell? ⟨gb106, 2, none⟩ = some (.int .i64 a0_2) := (blk_cell BK106.out 2).trans rfl
                      have hcz89_3 : wc.cell? ⟨gb106, 3, none⟩ = some (.int .i64 a0_3) := (blk_cell BK106.out 3).trans rfl
                      have hcz89_4 : wc.cell? ⟨gb106, 4, none⟩ = some (.slice A0_4 l0_4.length c0_4) := (blk_cell BK106.out 4).trans rfl
                      have hfz89_0 := blk_frozen BK106.out 0
                      have hfz89_1 := blk_frozen BK106.out 1
                      have hfz89_2 := blk_frozen BK106.out 2
                      have hfz89_3 := blk_frozen BK106.out 3
                      have hfz89_4 := blk_frozen BK106.out 4
                      go_wp2
                      go_meet
                      case rel => exact ⟨_, (decide ((l0_4.length : Int) > 0)), (by first | rfl | (simp; done) | (simp [*]; done)), H', ⟨by have := HJ2.out; first | omega | exact Nat.le_refl _⟩, ⟨by (with_reducible repeat (first | refine blk_drewN ?_ _ | refine blk_drew ?_ | refine blk_alloc ?_ _)); exact BK106.out⟩, ⟨by (with_reducible repeat (first | refine blk_drewN ?_ _ | refine blk_drew ?_ | refine blk_alloc ?_ _)); exact BK111.out⟩, ⟨by repeat (first | (with_reducible first | exact HB.out | apply below_alloc | apply pw_below_drewN | apply below_drew1 | refine below_set ?_ GE106.out | refine below_set ?_ GE111.out) | exact HB.out)⟩⟩
                  · replace c82 := Bool.eq_false_iff.mpr c82
                    subst c82
                    have H1 : (if a0_3 = 0 then (if t110 = true then (flow_May.j1 kj2 false a0_0 a0_1 a0_2 a0_3 l0_4 false false false t110) else (flow_May.j1 kj2 (decide ((l0_4.length : Int) > 0)) a0_0 a0_1 a0_2 a0_3 l0_4 false false false t110)) else (flow_May.j1 kj2 true a0_0 a0_1 a0_2 a0_3 l0_4 false false false t110)) = some r := by rw [if_neg (show ¬ (false = true) by decide)] at H; exact H
                    clear H
                    have H := H1
                    clear H1
                    by_cases c90 : a0_3 = 0
                    · rw [if_pos c90] at H
                      have c90b0 : (a0_3 == 0) = true := beq_iff_eq.mpr c90
                      have c90b1 : (a0_3 != 0) = false := bne_eq_false_iff_eq.mpr c90
                      clear c90
                      by_cases c91 : t110 = true
                      · subst c91
                        have H1 : (flow_May.j1 kj2 false a0_0 a0_1 a0_2 a0_3 l0_4 false false false true) = some r := by rw [if_pos rfl] at H; exact H
                        clear H
                        have H := H1
                        clear H1
                        have H' := Aside0.mk H
                        clear H
                        have hnb92 := NB111_106.out
                        have hnc92 := NB106_111.out
                        have hcz93_0 : wc.cell? ⟨gb111, 0, none⟩ = some (.bool false) := (blk_cell BK111.out 0).trans rfl
                        have hcz93_1 : wc.cell? ⟨gb111, 1, none⟩ = some (.bool false) := (blk_cell BK111.out 1).trans rfl
                        have hcz93_2 : wc.cell? ⟨gb111, 2, none⟩ = some (.bool false) := (blk_cell BK111.out 2).trans rfl
                        have hcz93_3 : wc.cell? ⟨gb111, 3, none⟩ = some (.bool true) := (blk_cell BK111.out 3).trans rfl
                        have hfz93_0 := blk_frozen BK111.out 0
                        have hfz93_1 := blk_frozen BK111.out 1
                        have hfz93_2 := blk_frozen BK111.out 2
                        have hfz93_3 := blk_frozen BK111.out 3
                        have hcz94_0 : wc.cell? ⟨gb106, 0, none⟩ = some (.int .i64 a0_0) := (blk_cell BK106.out 0).trans rfl
                        have hcz94_1 : wc.cell? ⟨gb106, 1, none⟩ = some (.int .i64 a0_1) := (blk_cell BK106.out 1).trans rfl
                        have hcz94_2 : wc.cell? ⟨gb106, 2, none⟩ = some (.int .i64 a0_2) := (blk_cell BK106.out 2).trans rfl
                        have hcz94_3 : wc.cell? ⟨gb106, 3, none⟩ = some (.int .i64 a0_3) := (blk_cell BK106.out 3).trans rfl
                        have hcz94_4 : wc.cell? ⟨gb106, 4, none⟩ = some (.slice A0_4 l0_4.length c0_4) := (blk_cell BK106.out 4).trans rfl
                        have hfz94_0 := blk_frozen BK106.out 0
                        have hfz94_1 := blk_frozen BK106.out 1
                        have hfz94_2 := blk_frozen BK106.out 2
                        have hfz94_3 := blk_frozen BK106.out 3
                        have hfz94_4 := blk_frozen BK106.out 4
                        go_wp2
                        go_meet
                        case rel => exact ⟨_, (false), (by first | rfl | (simp; done) | (simp [*]; done)), H', ⟨by have := HJ2.out; first | omega | exact Nat.le_refl _⟩, ⟨by (with_reducible repeat (first | refine blk_drewN ?_ _ | refine blk_drew ?_ | refine blk_alloc ?_ _)); exact BK106.out⟩, ⟨by (with_reducible repeat (first | refine blk_drewN ?_ _ | refine blk_drew ?_ | refine blk_alloc ?_ _)); exact BK111.out⟩, ⟨by repeat (first | (with_reducible first | exact HB.out | apply below_alloc | apply pw_below_drewN | apply below_drew1 | refine below_set ?_ GE106.out | refine below_set ?_ GE111.out) | exact HB.out)⟩⟩
                      · replace c91 := Bool.eq_false_iff.mpr c91
                        subst c91
                        have H1 : (flow_May.j1 kj2 (decide ((l0_4.length : Int) > 0)) a0_0 a0_1 a0_2 a0_3 l0_4 false false false false) = some r := by rw [if_neg (show ¬ (false = true) by decide)] at H; exact H
                        clear H
                        have H := H1
                        clear H1
                        have H' := Aside0.mk H
                        clear H
                        have hnb95 := NB111_106.out
                        have hnc95 := NB106_111.out
                        have hcz96_0 : wc.cell? ⟨gb111, 0, none⟩ = some (.bool false) := (blk_cell BK111.out 0).trans rfl
                        have hcz96_1 : wc.cell? ⟨gb111, 1, none⟩ = some (.bool false) := (blk_cell BK111.out 1).trans rfl
                        have hcz96_2 : wc.cell? ⟨gb111, 2, none⟩ = some (.bool false) := (blk_cell BK111.out 2).trans rfl
                        have hcz96_3 : wc.cell? ⟨gb111, 3, none⟩ = some (.bool false) := (blk_cell BK111.out 3).trans rfl
                        have hfz96_0 := blk_frozen BK111.out 0
                        have hfz96_1 := blk_frozen BK111.out 1
                        have hfz96_2 := blk_frozen BK111.out 2
                        have hfz96_3 := blk_frozen BK111.out 3
                        have hcz97_0 : wc.cell? ⟨gb106, 0, none⟩ = some (.int .i64 a0_0) := (blk_cell BK106.out 0).trans rfl
                        have hcz97_1 : wc.cell? ⟨gb106, 1, none⟩ = some (.int .i64 a0_1) := (blk_cell BK106.out 1).trans rfl
                        have hcz97_2 : wc.cell? ⟨gb106, 2, none⟩ = some (.int .i64 a0_2) := (blk_cell BK106.out 2).trans rfl
                        have hcz97_3 : wc.cell? ⟨gb106, 3, none⟩ = some (.int .i64 a0_3) := (blk_cell BK106.out 3).trans rfl
                        have hcz97_4 : wc.cell? ⟨gb106, 4, none⟩ = some (.slice A0_4 l0_4.length c0_4) := (blk_cell BK106.out 4).trans rfl
                        have hfz97_0 := blk_frozen BK106.out 0
                        have hfz97_1 := blk_frozen BK106.out 1
                        have hfz97_2 := blk_frozen BK106.out 2
                        have hfz97_3 := blk_frozen BK106.out 3
                        have hfz97_4 := blk_frozen BK106.out 4
                        go_wp2
                        go_meet
                        case rel => exact ⟨_, (decide ((l0_4.length : Int) > 0)), (by first | rfl | (simp; done) | (simp [*]; done)), H', ⟨by have := HJ2.out; first | omega | exact Nat.le_refl _⟩, ⟨by (with_reducible repeat (first | refine blk_drewN ?_ _ | refine blk_drew ?_ | refine blk_alloc ?_ _)); exact BK106.out⟩, ⟨by (with_reducible repeat (first | refine blk_drewN ?_ _ | refine blk_drew ?_ | refine blk_alloc ?_ _)); exact BK111.out⟩, ⟨by repeat (first | (with_reducible first | exact HB.out | apply below_alloc | apply pw_below_drewN | apply below_drew1 | refine below_set ?_ GE106.out | refine below_set ?_ GE111.out) | exact HB.out)⟩⟩
                    · rw [if_neg c90] at H
                      have c90b0 : (a0_3 == 0) = false := beq_eq_false_iff_ne.mpr c90
                      have c90b1 : (a0_3 != 0) = true := bne_iff_ne.mpr c90
                      have H' := Aside0.mk H
                      clear H
                      have hnb98 := NB111_106.out
                      have hnc98 := NB106_111.out
                      have hcz99_0 : wc.cell? ⟨gb111, 0, none⟩ = some (.bool false) := (blk_cell BK111.out 0).trans rfl
                      have hcz99_1 : wc.cell? ⟨gb111, 1, none⟩ = some (.bool false) := (blk_cell BK111.out 1).trans rfl
                      have hcz99_2 : wc.cell? ⟨gb111, 2, none⟩ = some (.bool false) := (blk_cell BK111.out 2).trans rfl
                      have hcz99_3 : wc.cell? ⟨gb111, 3, none⟩ = some (.bool t110) := (blk_cell BK111.out 3).trans rfl
                      have hfz99_0 := blk_frozen BK111.out 0
                      have hfz99_1 := blk_frozen BK111.out 1
                      have hfz99_2 := blk_frozen BK111.out 2
                      have hfz99_3 := blk_frozen BK111.out 3
                      have hcz100_0 : wc.cell? ⟨gb106, 0, none⟩ = some (.int .i64 a0_0) := (blk_cell BK106.out 0).trans rfl
                      have hcz100_1 : wc.cell? ⟨gb106, 1, none⟩ = some (.int .i64 a0_1) := (blk_cell BK106.out 1).trans rfl
                      have hcz100_2 : wc.cell? ⟨gb106, 2, none⟩ = some (.int .i64 a0_2) := (blk_cell BK106.out 2).trans rfl
                      have hcz100_3 : wc.cell? ⟨gb106, 3, none⟩ = some (.int .i64 a0_3) := (blk_cell BK106.out 3).trans rfl
                      have hcz100_4 : wc.cell? ⟨gb106, 4, none⟩ = some (.slice A0_4 l0_4.length c0_4) := (blk_cell BK106.out 4).trans rfl
                      have hfz100_0 := blk_frozen BK106.out 0
                      have hfz100_1 := blk_frozen BK106.out 1
                      have hfz100_2 := blk_frozen BK106.out 2
                      have hfz100_3 := blk_frozen BK106.out 3
                      have hfz100_4 := blk_frozen BK106.out 4
                      go_wp2
                      go_meet
                      case rel => exact ⟨_, (true), (by first | rfl | (simp; done) | (simp [*]; done)), H', ⟨by have := HJ2.out; first | omega | exact Nat.le_refl _⟩, ⟨by (with_reducible repeat (first | refine blk_drewN ?_ _ | refine blk_drew ?_ | refine blk_alloc ?_ _)); exact BK106.out⟩, ⟨by (with_reducible repeat (first | refine blk_drewN ?_ _ | refine blk_drew ?_ | refine blk_alloc ?_ _)); exact BK111.out⟩, ⟨by repeat (first | (with_reducible first | exact HB.out | apply below_alloc | apply pw_below_drewN | apply below_drew1 | refine below_set ?_ GE106.out | refine below_set ?_ GE111.out) | exact HB.out)⟩⟩
                · rw [if_neg c81] at H
                  have c81b0 : (a0_2 == 0) = false := beq_eq_false_iff_ne.mpr c81
                  have c81b1 : (a0_2 != 0) = true := bne_iff_ne.mpr c81
                  have H' := Aside0.mk H
                  clear H
                  have hnb101 := NB111_106.out
                  have hnc101 := NB106_111.out
                  have hcz102_0 : wc.cell? ⟨gb111, 0, none⟩ = some (.bool false) := (blk_cell BK111.out 0).trans rfl
                  have hcz102_1 : wc.cell? ⟨gb111, 1, none⟩ = some (.bool false) := (blk_cell BK111.out 1).trans rfl
                  have hcz102_2 : wc.cell? ⟨gb111, 2, none⟩ = some (.bool t109) := (blk_cell BK111.out 2).trans rfl
                  have hcz102_3 : wc.cell? ⟨gb111, 3, none⟩ = some (.bool t110) := (blk_cell BK111.out 3).trans rfl
                  have hfz102_0 := blk_frozen BK111.out 0
                  have hfz102_1 := blk_frozen BK111.out 1
                  have hfz102_2 := blk_frozen BK111.out 2
                  have hfz102_3 := blk_frozen BK111.out 3
                  have hcz103_0 : wc.cell? ⟨gb106, 0, none⟩ = some (.int .i64 a0_0) := (blk_cell BK106.out 0).trans rfl
                  have hcz103_1 : wc.cell? ⟨gb106, 1, none⟩ = some (.int .i64 a0_1) := (blk_cell BK106.out 1).trans rfl
                  have hcz103_2 : wc.cell? ⟨gb106, 2, none⟩ = some (.int .i64 a0_2) := (blk_cell BK106.out 2).trans rfl
                  have hcz103_3 : wc.cell? ⟨gb106, 3, none⟩ = some (.int .i64 a0_3) := (blk_cell BK106.out 3).trans rfl
                  have hcz103_4 : wc.cell? ⟨gb106, 4, none⟩ = some (.slice A0_4 l0_4.length c0_4) := (blk_cell BK106.out 4).trans rfl
                  have hfz103_0 := blk_frozen BK106.out 0
                  have hfz103_1 := blk_frozen BK106.out 1
                  have hfz103_2 := blk_frozen BK106.out 2
                  have hfz103_3 := blk_frozen BK106.out 3
                  have hfz103_4 := blk_frozen BK106.out 4
                  go_wp2
                  go_meet
                  case rel => exact ⟨_, (true), (by first | rfl | (simp; done) | (simp [*]; done)), H', ⟨by have := HJ2.out; first | omega | exact Nat.le_refl _⟩, ⟨by (with_reducible repeat (first | refine blk_drewN ?_ _ | refine blk_drew ?_ | refine blk_alloc ?_ _)); exact BK106.out⟩, ⟨by (with_reducible repeat (first | refine blk_drewN ?_ _ | refine blk_drew ?_ | refine blk_alloc ?_ _)); exact BK111.out⟩, ⟨by repeat (first | (with_reducible first | exact HB.out | apply below_alloc | apply pw_below_drewN | apply below_drew1 | refine below_set ?_ GE106.out | refine below_set ?_ GE111.out) | exact HB.out)⟩⟩
            · rw [if_neg c60] at H
              have c60b0 : (a0_1 == 0) = false := beq_eq_false_iff_ne.mpr c60
              have c60b1 : (a0_1 != 0) = true := bne_iff_ne.mpr c60
              have H' := Aside0.mk H
              clear H
              have hnb104 := NB111_106.out
              have hnc104 := NB106_111.out
              have hcz105_0 : wc.cell? ⟨gb111, 0, none⟩ = some (.bool false) := (blk_cell BK111.out 0).trans rfl
              have hcz105_1 : wc.cell? ⟨gb111, 1, none⟩ = some (.bool t108) := (blk_cell BK111.out 1).trans rfl
              have hcz105_2 : wc.cell? ⟨gb111, 2, none⟩ = some (.bool t109) := (blk_cell BK111.out 2).trans rfl
              have hcz105_3 : wc.cell? ⟨gb111, 3, none⟩ = some (.bool t110) := (blk_cell BK111.out 3).trans rfl
              have hfz105_0 := blk_frozen BK111.out 0
              have hfz105_1 := blk_frozen BK111.out 1
              have hfz105_2 := blk_frozen BK111.out 2
              have hfz105_3 := blk_frozen BK111.out 3
              have hcz106_0 : wc.cell? ⟨gb106, 0, none⟩ = some (.int .i64 a0_0) := (blk_cell BK106.out 0).trans rfl
              have hcz106_1 : wc.cell? ⟨gb106, 1, none⟩ = some (.int .i64 a0_1) := (blk_cell BK106.out 1).trans rfl
              have hcz106_2 : wc.cell? ⟨gb106, 2, none⟩ = some (.int .i64 a0_2) := (blk_cell BK106.out 2).trans rfl
              have hcz106_3 : wc.cell? ⟨gb106, 3, none⟩ = some (.int .i64 a0_3) := (blk_cell BK106.out 3).trans rfl
              have hcz106_4 : wc.cell? ⟨gb106, 4, none⟩ = some (.slice A0_4 l0_4.length c0_4) := (blk_cell BK106.out 4).trans rfl
              have hfz106_0 := blk_frozen BK106.out 0
              have hfz106_1 := blk_frozen BK106.out 1
              have hfz106_2 := blk_frozen BK106.out 2
              have hfz106_3 := blk_frozen BK106.out 3
              have hfz106_4 := blk_frozen BK106.out 4
              go_wp2
              go_meet
              case rel => exact ⟨_, (true), (by first | rfl | (simp; done) | (simp [*]; done)), H', ⟨by have := HJ2.out; first | omega | exact Nat.le_refl _⟩, ⟨by (with_reducible repeat (first | refine blk_drewN ?_ _ | refine blk_drew ?_ | refine blk_alloc ?_ _)); exact BK106.out⟩, ⟨by (with_reducible repeat (first | refine blk_drewN ?_ _ | refine blk_drew ?_ | refine blk_alloc ?_ _)); exact BK111.out⟩, ⟨by repeat (first | (with_reducible first | exact HB.out | apply below_alloc | apply pw_below_drewN | apply below_drew1 | refine below_set ?_ GE106.out | refine below_set ?_ GE111.out) | exact HB.out)⟩⟩
        case rest =>
          clear HC16
          try clear c1
          try clear p2
          try clear c3
          try clear c4
          try clear c5
          try clear c6
          try clear c7
          try clear c8
          try clear c9
          try clear c10
          try clear c17
          try clear c37
          try clear c37b0
          try clear c37b1
          try clear c38
          try clear c39
          try clear c43
          try clear c46
          try clear c46b0
          try clear c46b1
          try clear c47
          try clear c48
          try clear c51
          try clear c54
          try clear c57
          try clear c60
          try clear c60b0
          try clear c60b1
          try clear c61
          try clear c62
          try clear c63
          try clear c64
          try clear c67
          try clear c70
          try clear c70b0
          try clear c70b1
          try clear c71
          try clear c72
          try clear c75
          try clear c78
          try clear c81
          try clear c81b0
          try clear c81b1
          try clear c82
          try clear c83
          try clear c84
          try clear c87
          try clear c90
          try clear c90b0
          try clear c90b1
          try clear c91
          try clear c92
          try clear c95
          try clear c98
          try clear c101
          try clear c104
          try clear hcz100_0
          try clear hcz100_1
          try clear hcz100_2
          try clear hcz100_3
          try clear hcz100_4
          try clear hcz102_0
          try clear hcz102_1
          try clear hcz102_2
          try clear hcz102_3
          try clear hcz103_0
          try clear hcz103_1
          try clear hcz103_2
          try clear hcz103_3
          try clear hcz103_4
          try clear hcz105_0
          try clear hcz105_1
          try clear hcz105_2
          try clear hcz105_3
          try clear hcz106_0
          try clear hcz106_1
          try clear hcz106_2
          try clear hcz106_3
          try clear hcz106_4
          try clear hcz42_0
          try clear hcz42_1
          try clear hcz42_2
          try clear hcz42_3
          try clear hcz42_4
          try clear hcz44_0
          try clear hcz44_1
          try clear hcz44_2
          try clear hcz44_3
          try clear hcz45_0
          try clear hcz45_1
          try clear hcz45_2
          try clear hcz45_3
          try clear hcz45_4
          try clear hcz49_0
          try clear hcz49_1
          try clear hcz49_2
          try clear hcz49_3
          try clear hcz50_0
          try clear hcz50_1
          try clear hcz50_2
          try clear hcz50_3
          try clear hcz50_4
          try clear hcz52_0
          try clear hcz52_1
          try clear hcz52_2
          try clear hcz52_3
          try clear hcz53_0
          try clear hcz53_1
          try clear hcz53_2
          try clear hcz53_3
          try clear hcz53_4
          try clear hcz55_0
          try clear hcz55_1
          try clear hcz55_2
          try clear hcz55_3
          try clear hcz56_0
          try clear hcz56_1
          try clear hcz56_2
          try clear hcz56_3
          try clear hcz56_4
          try clear hcz58_0
          try clear hcz58_1
          try clear hcz58_2
          try clear hcz58_3
          try clear hcz59_0
          try clear hcz59_1
          try clear hcz59_2
          try clear hcz59_3
          try clear hcz59_4
          try clear hcz65_0
          try clear hcz65_1
          try clear hcz65_2
          try clear hcz65_3
          try clear hcz66_0
          try clear hcz66_1
          try clear hcz66_2
          try clear hcz66_3
          try clear hcz66_4
          try clear hcz68_0
          try clear hcz68_1
          try clear hcz68_2
          try clear hcz68_3
          try clear hcz69_0
          try clear hcz69_1
          try clear hcz69_2
          try clear hcz69_3
          try clear hcz69_4
          try clear hcz73_0
          try clear hcz73_1
          try clear hcz73_2
          try clear hcz73_3
          try clear hcz74_0
          try clear hcz74_1
          try clear hcz74_2
          try clear hcz74_3
          try clear hcz74_4
          try clear hcz76_0
          try clear hcz76_1
          try clear hcz76_2
          try clear hcz76_3
          try clear hcz77_0
          try clear hcz77_1
          try clear hcz77_2
          try clear hcz77_3
          try clear hcz77_4
          try clear hcz79_0
          try clear hcz79_1
          try clear hcz79_2
          try clear hcz79_3
          try clear hcz80_0
          try clear hcz80_1
          try clear hcz80_2
          try clear hcz80_3
          try clear hcz80_4
          try clear hcz85_0
          try clear hcz85_1
          try clear hcz85_2
          try clear hcz85_3
          try clear hcz86_0
          try clear hcz86_1
          try clear hcz86_2
          try clear hcz86_3
          try clear hcz86_4
          try clear hcz88_0
          try clear hcz88_1
          try clear hcz88_2
          try clear hcz88_3
          try clear hcz89_0
          try clear hcz89_1
          try clear hcz89_2
          try clear hcz89_3
          try clear hcz89_4
          try clear hcz93_0
          try clear hcz93_1
          try clear hcz93_2
          try clear hcz93_3
          try clear hcz94_0
          try clear hcz94_1
          try clear hcz94_2
          try clear hcz94_3
          try clear hcz94_4
          try clear hcz96_0
          try clear hcz96_1
          try clear hcz96_2
          try clear hcz96_3
          try clear hcz97_0
          try clear hcz97_1
          try clear hcz97_2
          try clear hcz97_3
          try clear hcz97_4
          try clear hcz99_0
          try clear hcz99_1
          try clear hcz99_2
          try clear hcz99_3
          try clear hfz100_0
          try clear hfz100_1
          try clear hfz100_2
          try clear hfz100_3
          try clear hfz100_4
          try clear hfz102_0
          try clear hfz102_1
          try clear hfz102_2
          try clear hfz102_3
          try clear hfz103_0
          try clear hfz103_1
          try clear hfz103_2
          try clear hfz103_3
          try clear hfz103_4
          try clear hfz105_0
          try clear hfz105_1
          try clear hfz105_2
          try clear hfz105_3
          try clear hfz106_0
          try clear hfz106_1
          try clear hfz106_2
          try clear hfz106_3
          try clear hfz106_4
          try clear hfz41_1
          try clear hfz41_2
          try clear hfz41_3
          try clear hfz42_0
          try clear hfz42_1
          try clear hfz42_2
          try clear hfz42_3
          try clear hfz42_4
          try clear hfz44_0
          try clear hfz44_1
          try clear hfz44_2
          try clear hfz44_3
          try clear hfz45_0
          try clear hfz45_1
          try clear hfz45_2
          try clear hfz45_3
          try clear hfz45_4
          try clear hfz49_0
          try clear hfz49_1
          try clear hfz49_2
          try clear hfz49_3
          try clear hfz50_0
          try clear hfz50_1
          try clear hfz50_2
          try clear hfz50_3
          try clear hfz50_4
          try clear hfz52_0
          try clear hfz52_1
          try clear hfz52_2
          try clear hfz52_3
          try clear hfz53_0
          try clear hfz53_1
          try clear hfz53_2
          try clear hfz53_3
          try clear hfz53_4
          try clear hfz55_0
          try clear hfz55_1
          try clear hfz55_2
          try clear hfz55_3
          try clear hfz56_0
          try clear hfz56_1
          try clear hfz56_2
          try clear hfz56_3
          try clear hfz56_4
          try clear hfz58_0
          try clear hfz58_1
          try clear hfz58_2
          try clear hfz58_3
          try clear hfz59_0
          try clear hfz59_1
          try clear hfz59_2
          try clear hfz59_3
          try clear hfz59_4
          try clear hfz65_0
          try clear hfz65_1
          try clear hfz65_2
          try clear hfz65_3
          try clear hfz66_0
          try clear hfz66_1
          try clear hfz66_2
          try clear hfz66_3
          try clear hfz66_4
          try clear hfz68_0
          try clear hfz68_1
          try clear hfz68_2
          try clear hfz68_3
          try clear hfz69_0
          try clear hfz69_1
          try clear hfz69_2
          try clear hfz69_3
          try clear hfz69_4
          try clear hfz73_0
          try clear hfz73_1
          try clear hfz73_2
          try clear hfz73_3
          try clear hfz74_0
          try clear hfz74_1
          try clear hfz74_2
          try clear hfz74_3
          try clear hfz74_4
          try clear hfz76_0
          try clear hfz76_1
          try clear hfz76_2
          try clear hfz76_3
          try clear hfz77_0
          try clear hfz77_1
          try clear hfz77_2
          try clear hfz77_3
          try clear hfz77_4
          try clear hfz79_0
          try clear hfz79_1
          try clear hfz79_2
          try clear hfz79_3
          try clear hfz80_0
          try clear hfz80_1
          try clear hfz80_2
          try clear hfz80_3
          try clear hfz80_4
          try clear hfz85_0
          try clear hfz85_1
          try clear hfz85_2
          try clear hfz85_3
          try clear hfz86_0
          try clear hfz86_1
          try clear hfz86_2
          try clear hfz86_3
          try clear hfz86_4
          try clear hfz88_0
          try clear hfz88_1
          try clear hfz88_2
          try clear hfz88_3
          try clear hfz89_0
          try clear hfz89_1
          try clear hfz89_2
          try clear hfz89_3
          try clear hfz89_4
          try clear hfz93_0
          try clear hfz93_1
          try clear hfz93_2
          try clear hfz93_3
          try clear hfz94_0
          try clear hfz94_1
          try clear hfz94_2
          try clear hfz94_3
          try clear hfz94_4
          try clear hfz96_0
          try clear hfz96_1
          try clear hfz96_2
          try clear hfz96_3
          try clear hfz97_0
          try clear hfz97_1
          try clear hfz97_2
          try clear hfz97_3
          try clear hfz97_4
          try clear hfz99_0
          try clear hfz99_1
          try clear hfz99_2
          try clear hfz99_3
          obtain ⟨kq, x16_15, rfl, HA, HJ15, BK106, BK111, HB⟩ := hcut
          cases kq with
          | zero => exact absurd HA.out (by simp [flow_May.j1])
          | succ kj15 =>
            have H := HA.out
            clear HA
            simp only [flow_May.j1] at H
            by_cases c107 : x16_15 = true
            · subst c107
              have H1 : (some false) = some r := by rw [if_pos rfl] at H; exact H
              clear H
              have H := H1
              clear H1
              obtain rfl := Option.some.inj H
              go_wp2
              go_ret
              exact ⟨by first | rfl | (simp [errW_none, errW_some] <;> rfl) | (simp [*, errW_none, errW_some] <;> rfl), by repeat (first | (with_reducible first | exact HB.out | apply below_alloc | apply pw_below_drewN | apply below_drew1 | refine below_set ?_ GE106.out | refine below_set ?_ GE111.out) | exact HB.out)⟩
            · replace c107 := Bool.eq_false_iff.mpr c107
              subst c107
              have H1 : ((flow_flowNumber.f a0_1).bind fun t112 => (if t112 = true then ((flow_flowNumber.f a0_2).bind fun t113 => (if t113 = true then (if t109 = true then ((flow_ticks.f a0_3).bind fun t114 => (if t114 = true then (some (decide ((l0_4.length : Int) ≤ 4096))) else (some false))) else (some (decide ((l0_4.length : Int) ≤ 4096)))) else (some false))) else (some false))) = some r := by rw [if_neg (show ¬ (false = true) by decide)] at H; exact H
              clear H
              have H := H1
              clear H1
              replace H := Option.bind_eq_some_iff.mp H
              obtain ⟨t112, A1080, H⟩ := H
              replace H : (if t112 = true then ((flow_flowNumber.f a0_2).bind fun t113 => (if t113 = true then (if t109 = true then ((flow_ticks.f a0_3).bind fun t114 => (if t114 = true then (some (decide ((l0_4.length : Int) ≤ 4096))) else (some false))) else (some (decide ((l0_4.length : Int) ≤ 4096)))) else (some false))) else (some false)) = some r := H
              have A108 := Aside0.mk A1080
              clear A1080
              by_cases c109 : t112 = true
              · subst c109
                have H1 : ((flow_flowNumber.f a0_2).bind fun t113 => (if t113 = true then (if t109 = true then ((flow_ticks.f a0_3).bind fun t114 => (if t114 = true then (some (decide ((l0_4.length : Int) ≤ 4096))) else (some false))) else (some (decide ((l0_4.length : Int) ≤ 4096)))) else (some false))) = some r := by rw [if_pos rfl] at H; exact H
                clear H
                have H := H1
                clear H1
                replace H := Option.bind_eq_some_iff.mp H
                obtain ⟨t113, A1100, H⟩ := H
                replace H : (if t113 = true then (if t109 = true then ((flow_ticks.f a0_3).bind fun t114 => (if t114 = true then (some (decide ((l0_4.length : Int) ≤ 4096))) else (some false))) else (some (decide ((l0_4.length : Int) ≤ 4096)))) else (some false)) = some r := H
                have A110 := Aside0.mk A1100
                clear A1100
                by_cases c111 : t113 = true
                · subst c111
                  have H1 : (if t109 = true then ((flow_ticks.f a0_3).bind fun t114 => (if t114 = true then (some (decide ((l0_4.length : Int) ≤ 4096))) else (some false))) else (some (decide ((l0_4.length : Int) ≤ 4096)))) = some r := by rw [if_pos rfl] at H; exact H
                  clear H
                  have H := H1
                  clear H1
                  by_cases c112 : t109 = true
                  · subst c112
                    have H1 : ((flow_ticks.f a0_3).bind fun t114 => (if t114 = true then (some (decide ((l0_4.length : Int) ≤ 4096))) else (some false))) = some r := by rw [if_pos rfl] at H; exact H
                    clear H
                    have H := H1
                    clear H1
                    replace H := Option.bind_eq_some_iff.mp H
                    obtain ⟨t114, A1130, H⟩ := H
                    replace H : (if t114 = true then (some (decide ((l0_4.length : Int) ≤ 4096))) else (some false)) = some r := H
                    have A113 := Aside0.mk A1130
                    clear A1130
                    by_cases c114 : t114 = true
                    · subst c114
                      have H1 : (some (decide ((l0_4.length : Int) ≤ 4096))) = some r := by rw [if_pos rfl] at H; exact H
                      clear H
                      have H := H1
                      clear H1
                      obtain rfl := Option.some.inj H
                      have hnb115 := NB106_111.out
                      have hnc115 := NB111_106.out
                      have hcz116_0 : wc.cell? ⟨gb106, 0, none⟩ = some (.int .i64 a0_0) := (blk_cell BK106.out 0).trans rfl
                      have hcz116_1 : wc.cell? ⟨gb106, 1, none⟩ = some (.int .i64 a0_1) := (blk_cell BK106.out 1).trans rfl
                      have hcz116_2 : wc.cell? ⟨gb106, 2, none⟩ = some (.int .i64 a0_2) := (blk_cell BK106.out 2).trans rfl
                      have hcz116_3 : wc.cell? ⟨gb106, 3, none⟩ = some (.int .i64 a0_3) := (blk_cell BK106.out 3).trans rfl
                      have hcz116_4 : wc.cell? ⟨gb106, 4, none⟩ = some (.slice A0_4 l0_4.length c0_4) := (blk_cell BK106.out 4).trans rfl
                      have hfz116_0 := blk_frozen BK106.out 0
                      have hfz116_1 := blk_frozen BK106.out 1
                      have hfz116_2 := blk_frozen BK106.out 2
                      have hfz116_3 := blk_frozen BK106.out 3
                      have hfz116_4 := blk_frozen BK106.out 4
                      go_wp2_with (first | ((with_reducible refine gate_callee (f := 33) rfl ?_); refine goesL_ (some 58) rfl rfl Try.func33 (by kernel_rfl) rfl #[.int .i64 a0_1] rfl (by (try simp only [List.map_toArray, List.map_cons, List.map_nil]); first | done | rfl | (simp only [List.length_drop, List.length_take]; rfl)) ?_; (with_reducible refine (flow_flowNumber.calls a0_1 true _ A108.out).mono ?_); rintro e w' ⟨rfl, ⟨nd, rfl⟩⟩; refine ⟨_, rfl, ?_⟩) | (go_at_call 33; (with_reducible refine (flow_flowNumber.calls a0_2 true _ A110.out).mono ?_); rintro e w' ⟨rfl, ⟨nd, rfl⟩⟩; have hcz117_0 : wc.cell? ⟨gb111, 0, none⟩ = some (.bool t107) := (blk_cell BK111.out 0).trans rfl; have hcz117_1 : wc.cell? ⟨gb111, 1, none⟩ = some (.bool t108) := (blk_cell BK111.out 1).trans rfl; have hcz117_2 : wc.cell? ⟨gb111, 2, none⟩ = some (.bool true) := (blk_cell BK111.out 2).trans rfl; have hcz117_3 : wc.cell? ⟨gb111, 3, none⟩ = some (.bool t110) := (blk_cell BK111.out 3).trans rfl; have hfz117_0 := blk_frozen BK111.out 0; have hfz117_1 := blk_frozen BK111.out 1; have hfz117_2 := blk_frozen BK111.out 2; have hfz117_3 := blk_frozen BK111.out 3) | (go_at_call 34; (with_reducible refine (flow_ticks.calls a0_3 true _ A113.out).mono ?_); rintro e w' ⟨rfl, ⟨nd, rfl⟩⟩))
                      go_ret
                      exact ⟨by first | rfl | (simp [errW_none, errW_some] <;> rfl) | (simp [*, errW_none, errW_some] <;> rfl), by repeat (first | (with_reducible first | exact HB.out | apply below_alloc | apply pw_below_drewN | apply below_drew1 | refine below_set ?_ GE106.out | refine below_set ?_ GE111.out) | exact HB.out)⟩
                    · replace c114 := Bool.eq_false_iff.mpr c114
                      subst c114
                      have H1 : (some false) = some r := by rw [if_neg (show ¬ (false = true) by decide)] at H; exact H
                      clear H
                      have H := H1
                      clear H1
                      obtain rfl := Option.some.inj H
                      have hnb118 := NB106_111.out
                      have hnc118 := NB111_106.out
                      have hcz119_0 : wc.cell? ⟨gb106, 0, none⟩ = some (.int .i64 a0_0) := (blk_cell BK106.out 0).trans rfl
                      have hcz119_1 : wc.cell? ⟨gb106, 1, none⟩ = some (.int .i64 a0_1) := (blk_cell BK106.out 1).trans rfl
                      have hcz119_2 : wc.cell? ⟨gb106, 2, none⟩ = some (.int .i64 a0_2) := (blk_cell BK106.out 2).trans rfl
                      have hcz119_3 : wc.cell? ⟨gb106, 3, none⟩ = some (.int .i64 a0_3) := (blk_cell BK106.out 3).trans rfl
                      have hcz119_4 : wc.cell? ⟨gb106, 4, none⟩ = some (.slice A0_4 l0_4.length c0_4) := (blk_cell BK106.out 4).trans rfl
                      have hfz119_0 := blk_frozen BK106.out 0
                      have hfz119_1 := blk_frozen BK106.out 1
                      have hfz119_2 := blk_frozen BK106.out 2
                      have hfz119_3 := blk_frozen BK106.out 3
                      have hfz119_4 := blk_frozen BK106.out 4
                      go_wp2_with (first | ((with_reducible refine gate_callee (f := 33) rfl ?_); refine goesL_ (some 58) rfl rfl Try.func33 (by kernel_rfl) rfl #[.int .i64 a0_1] rfl (by (try simp only [List.map_toArray, List.map_cons, List.map_nil]); first | done | rfl | (simp only [List.length_drop, List.length_take]; rfl)) ?_; (with_reducible refine (flow_flowNumber.calls a0_1 true _ A108.out).mono ?_); rintro e w' ⟨rfl, ⟨nd, rfl⟩⟩; refine ⟨_, rfl, ?_⟩) | (go_at_call 33; (with_reducible refine (flow_flowNumber.calls a0_2 true _ A110.out).mono ?_); rintro e w' ⟨rfl, ⟨nd, rfl⟩⟩; have hcz120_0 : wc.cell? ⟨gb111, 0, none⟩ = some (.bool t107) := (blk_cell BK111.out 0).trans rfl; have hcz120_1 : wc.cell? ⟨gb111, 1, none⟩ = some (.bool t108) := (blk_cell BK111.out 1).trans rfl; have hcz120_2 : wc.cell? ⟨gb111, 2, none⟩ = some (.bool true) := (blk_cell BK111.out 2).trans rfl; have hcz120_3 : wc.cell? ⟨gb111, 3, none⟩ = some (.bool t110) := (blk_cell BK111.out 3).trans rfl; have hfz120_0 := blk_frozen BK111.out 0; have hfz120_1 := blk_frozen BK111.out 1; have hfz120_2 := blk_frozen BK111.out 2; have hfz120_3 := blk_frozen BK111.out 3) | (go_at_call 34; (with_reducible refine (flow_ticks.calls a0_3 false _ A113.out).mono ?_); rintro e w' ⟨rfl, ⟨nd, rfl⟩⟩))
                      go_ret
                      exact ⟨by first | rfl | (simp [errW_none, errW_some] <;> rfl) | (simp [*, errW_none, errW_some] <;> rfl), by repeat (first | (with_reducible first | exact HB.out | apply below_alloc | apply pw_below_drewN | apply below_drew1 | refine below_set ?_ GE106.out | refine below_set ?_ GE111.out) | exact HB.out)⟩
                  · replace c112 := Bool.eq_false_iff.mpr c112
                    subst c112
                    have H1 : (some (decide ((l0_4.length : Int) ≤ 4096))) = some r := by rw [if_neg (show ¬ (false = true) by decide)] at H; exact H
                    clear H
                    have H := H1
                    clear H1
                    obtain rfl := Option.some.inj H
                    have hnb121 := NB106_111.out
                    have hnc121 := NB111_106.out
                    have hcz122_0 : wc.cell? ⟨gb106, 0, none⟩ = some (.int .i64 a0_0) := (blk_cell BK106.out 0).trans rfl
                    have hcz122_1 : wc.cell? ⟨gb106, 1, none⟩ = some (.int .i64 a0_1) := (blk_cell BK106.out 1).trans rfl
                    have hcz122_2 : wc.cell? ⟨gb106, 2, none⟩ = some (.int .i64 a0_2) := (blk_cell BK106.out 2).trans rfl
                    have hcz122_3 : wc.cell? ⟨gb106, 3, none⟩ = some (.int .i64 a0_3) := (blk_cell BK106.out 3).trans rfl
                    have hcz122_4 : wc.cell? ⟨gb106, 4, none⟩ = some (.slice A0_4 l0_4.length c0_4) := (blk_cell BK106.out 4).trans rfl
                    have hfz122_0 := blk_frozen BK106.out 0
                    have hfz122_1 := blk_frozen BK106.out 1
                    have hfz122_2 := blk_frozen BK106.out 2
                    have hfz122_3 := blk_frozen BK106.out 3
                    have hfz122_4 := blk_frozen BK106.out 4
                    go_wp2_with (first | ((with_reducible refine gate_callee (f := 33) rfl ?_); refine goesL_ (some 58) rfl rfl Try.func33 (by kernel_rfl) rfl #[.int .i64 a0_1] rfl (by (try simp only [List.map_toArray, List.map_cons, List.map_nil]); first | done | rfl | (simp only [List.length_drop, List.length_take]; rfl)) ?_; (with_reducible refine (flow_flowNumber.calls a0_1 true _ A108.out).mono ?_); rintro e w' ⟨rfl, ⟨nd, rfl⟩⟩; refine ⟨_, rfl, ?_⟩) | (go_at_call 33; (with_reducible refine (flow_flowNumber.calls a0_2 true _ A110.out).mono ?_); rintro e w' ⟨rfl, ⟨nd, rfl⟩⟩; have hcz123_0 : wc.cell? ⟨gb111, 0, none⟩ = some (.bool t107) := (blk_cell BK111.out 0).trans rfl; have hcz123_1 : wc.cell? ⟨gb111, 1, none⟩ = some (.bool t108) := (blk_cell BK111.out 1).trans rfl; have hcz123_2 : wc.cell? ⟨gb111, 2, none⟩ = some (.bool false) := (blk_cell BK111.out 2).trans rfl; have hcz123_3 : wc.cell? ⟨gb111, 3, none⟩ = some (.bool t110) := (blk_cell BK111.out 3).trans rfl; have hfz123_0 := blk_frozen BK111.out 0; have hfz123_1 := blk_frozen BK111.out 1; have hfz123_2 := blk_frozen BK111.out 2; have hfz123_3 := blk_frozen BK111.out 3))
                    go_ret
                    exact ⟨by first | rfl | (simp [errW_none, errW_some] <;> rfl) | (simp [*, errW_none, errW_some] <;> rfl), by repeat (first | (with_reducible first | exact HB.out | apply below_alloc | apply pw_below_drewN | apply below_drew1 | refine below_set ?_ GE106.out | refine below_set ?_ GE111.out) | exact HB.out)⟩
                · replace c111 := Bool.eq_false_iff.mpr c111
                  subst c111
                  have H1 : (some false) = some r := by rw [if_neg (show ¬ (false = true) by decide)] at H; exact H
                  clear H
                  have H := H1
                  clear H1
                  obtain rfl := Option.some.inj H
                  have hnb124 := NB106_111.out
                  have hnc124 := NB111_106.out
                  have hcz125_0 : wc.cell? ⟨gb106, 0, none⟩ = some (.int .i64 a0_0) := (blk_cell BK106.out 0).trans rfl
                  have hcz125_1 : wc.cell? ⟨gb106, 1, none⟩ = some (.int .i64 a0_1) := (blk_cell BK106.out 1).trans rfl
                  have hcz125_2 : wc.cell? ⟨gb106, 2, none⟩ = some (.int .i64 a0_2) := (blk_cell BK106.out 2).trans rfl
                  have hcz125_3 : wc.cell? ⟨gb106, 3, none⟩ = some (.int .i64 a0_3) := (blk_cell BK106.out 3).trans rfl
                  have hcz125_4 : wc.cell? ⟨gb106, 4, none⟩ = some (.slice A0_4 l0_4.length c0_4) := (blk_cell BK106.out 4).trans rfl
                  have hfz125_0 := blk_frozen BK106.out 0
                  have hfz125_1 := blk_frozen BK106.out 1
                  have hfz125_2 := blk_frozen BK106.out 2
                  have hfz125_3 := blk_frozen BK106.out 3
                  have hfz125_4 := blk_frozen BK106.out 4
                  go_wp2_with (first | ((with_reducible refine gate_callee (f := 33) rfl ?_); refine goesL_ (some 58) rfl rfl Try.func33 (by kernel_rfl) rfl #[.int .i64 a0_1] rfl (by (try simp only [List.map_toArray, List.map_cons, List.map_nil]); first | done | rfl | (simp only [List.length_drop, List.length_take]; rfl)) ?_; (with_reducible refine (flow_flowNumber.calls a0_1 true _ A108.out).mono ?_); rintro e w' ⟨rfl, ⟨nd, rfl⟩⟩; refine ⟨_, rfl, ?_⟩) | (go_at_call 33; (with_reducible refine (flow_flowNumber.calls a0_2 false _ A110.out).mono ?_); rintro e w' ⟨rfl, ⟨nd, rfl⟩⟩))
                  go_ret
                  exact ⟨by first | rfl | (simp [errW_none, errW_some] <;> rfl) | (simp [*, errW_none, errW_some] <;> rfl), by repeat (first | (with_reducible first | exact HB.out | apply below_alloc | apply pw_below_drewN | apply below_drew1 | refine below_set ?_ GE106.out | refine below_set ?_ GE111.out) | exact HB.out)⟩
              · replace c109 := Bool.eq_false_iff.mpr c109
                subst c109
                have H1 : (some false) = some r := by rw [if_neg (show ¬ (false = true) by decide)] at H; exact H
                clear H
                have H := H1
                clear H1
                obtain rfl := Option.some.inj H
                have hnb126 := NB106_111.out
                have hnc126 := NB111_106.out
                have hcz127_0 : wc.cell? ⟨gb106, 0, none⟩ = some (.int .i64 a0_0) := (blk_cell BK106.out 0).trans rfl
                have hcz127_1 : wc.cell? ⟨gb106, 1, none⟩ = some (.int .i64 a0_1) := (blk_cell BK106.out 1).trans rfl
                have hcz127_2 : wc.cell? ⟨gb106, 2, none⟩ = some (.int .i64 a0_2) := (blk_cell BK106.out 2).trans rfl
                have hcz127_3 : wc.cell? ⟨gb106, 3, none⟩ = some (.int .i64 a0_3) := (blk_cell BK106.out 3).trans rfl
                have hcz127_4 : wc.cell? ⟨gb106, 4, none⟩ = some (.slice A0_4 l0_4.length c0_4) := (blk_cell BK106.out 4).trans rfl
                have hfz127_0 := blk_frozen BK106.out 0
                have hfz127_1 := blk_frozen BK106.out 1
                have hfz127_2 := blk_frozen BK106.out 2
                have hfz127_3 := blk_frozen BK106.out 3
                have hfz127_4 := blk_frozen BK106.out 4
                go_wp2_with (first | ((with_reducible refine gate_callee (f := 33) rfl ?_); refine goesL_ (some 58) rfl rfl Try.func33 (by kernel_rfl) rfl #[.int .i64 a0_1] rfl (by (try simp only [List.map_toArray, List.map_cons, List.map_nil]); first | done | rfl | (simp only [List.length_drop, List.length_take]; rfl)) ?_; (with_reducible refine (flow_flowNumber.calls a0_1 false _ A108.out).mono ?_); rintro e w' ⟨rfl, ⟨nd, rfl⟩⟩; refine ⟨_, rfl, ?_⟩))
                go_ret
                exact ⟨by first | rfl | (simp [errW_none, errW_some] <;> rfl) | (simp [*, errW_none, errW_some] <;> rfl), by repeat (first | (with_reducible first | exact HB.out | apply below_alloc | apply pw_below_drewN | apply below_drew1 | refine below_set ?_ GE106.out | refine below_set ?_ GE111.out) | exact HB.out)⟩

end Go.Proofs.Ytedpeambmmhcnaa.PFlowDecisions

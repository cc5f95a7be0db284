/- The closure in Of, and Of itself, by a walk: Of answers as the reference does. Conditions: those at each theorem. -/
import Derived.Test.YtajljephndlflaaTok
import Derived.RegionTactic
import Derived.ChangeAlike
import Derived.Lib.Hide
namespace Go.Proofs.Ytajljephndlflaa.OfWalk
open Go.RowKit Go.Proofs.YtajljephndlflaaW.PrintWords

theorem and_mask (v : Int) (k : Nat) (hk : k ≤ 63) (h0 : 0 ≤ v) (h1 : v < 18446744073709551616) : wrap64 (bits .and .u64 v (2 ^ k - 1)) = v % 2 ^ k := by
  rw [bits_mask .u64 64 (by decide) (fun n a b => by simp [IntKind.wrap, IntKind.bits, IntKind.signed]; omega) k (by omega) v h0 (by simpa using h1)]
  have hp : (2 : Int) ^ k ≤ 2 ^ 63 := by
    have : (2 : Nat) ^ k ≤ 2 ^ 63 := Nat.pow_le_pow_right (by decide) hk
    exact_mod_cast this
  have hq : (0 : Int) < 2 ^ k := by
    have : 0 < (2 : Nat) ^ k := Nat.two_pow_pos k
    exact_mod_cast this
  have a := Int.emod_nonneg v (Int.ne_of_gt hq)
  have b := Int.emod_lt_of_pos v hq
  unfold wrap64
  omega

set_option maxHeartbeats 400000 in
theorem take_12 (v : Int) (b : Nat) (w : World) (hv0 : 0 ≤ v) (hv1 : v < 18446744073709551616) (hb : w.heap[b]? = some (.cells #[.int .u64 v] 24 (0, 0))) :
    Calls Try.prog 28 #[.int .i64 12, .pointer (some ⟨b, 0, none⟩)] w fun e w' => e = .returned (.int .i64 (v % 4096)) ∧ ∃ n, w' = (w.drewN n).setCell ⟨b, 0, none⟩ (.int .u64 (v / 4096)) := by
  have hc := cell_of_one hb
  have hf := free_of_one hb
  have hm := Lib.hid (and_mask v 12 (by omega) hv0 hv1)
  clear hv1
  go_enter Try.func28, Try.ntmps28
  go_wp2
  go_quiet (fail)
  go_wp2
  go_ret
  exact ⟨congrArg (fun x => Ending.returned (.int .i64 x)) hm.out, _, rfl⟩

set_option maxHeartbeats 400000 in
theorem take_16 (v : Int) (b : Nat) (w : World) (hv0 : 0 ≤ v) (hv1 : v < 18446744073709551616) (hb : w.heap[b]? = some (.cells #[.int .u64 v] 24 (0, 0))) :
    Calls Try.prog 28 #[.int .i64 16, .pointer (some ⟨b, 0, none⟩)] w fun e w' => e = .returned (.int .i64 (v % 65536)) ∧ ∃ n, w' = (w.drewN n).setCell ⟨b, 0, none⟩ (.int .u64 (v / 65536)) := by
  have hc := cell_of_one hb
  have hf := free_of_one hb
  have hm := Lib.hid (and_mask v 16 (by omega) hv0 hv1)
  clear hv1
  go_enter Try.func28, Try.ntmps28
  go_wp2
  go_quiet (fail)
  go_wp2
  go_ret
  exact ⟨congrArg (fun x => Ending.returned (.int .i64 x)) hm.out, _, rfl⟩

set_option maxHeartbeats 400000 in
theorem take_20 (v : Int) (b : Nat) (w : World) (hv0 : 0 ≤ v) (hv1 : v < 18446744073709551616) (hb : w.heap[b]? = some (.cells #[.int .u64 v] 24 (0, 0))) :
    Calls Try.prog 28 #[.int .i64 20, .pointer (some ⟨b, 0, none⟩)] w fun e w' => e = .returned (.int .i64 (v % 1048576)) ∧ ∃ n, w' = (w.drewN n).setCell ⟨b, 0, none⟩ (.int .u64 (v / 1048576)) := by
  have hc := cell_of_one hb
  have hf := free_of_one hb
  have hm := Lib.hid (and_mask v 20 (by omega) hv0 hv1)
  clear hv1
  go_enter Try.func28, Try.ntmps28
  go_wp2
  go_quiet (fail)
  go_wp2
  go_ret
  exact ⟨congrArg (fun x => Ending.returned (.int .i64 x)) hm.out, _, rfl⟩

theorem calls_gen {P : Program} {f : FuncId} {args : Array Value} {w : World} {Q : Ending → World → Prop} (F : World → Prop) (hF : F w) (h : ∀ W, F W → Calls P f args W Q) : Calls P f args w Q := h w hF

/-- What Of holds between two takes: v's own cell, the result's, the token's. -/
structure Mid (w : World) (x : Int) (c : Array Value) (W : World) : Prop where
  own : W.heap[w.heap.size]? = some (.cells #[.int .u64 x] 24 (0, 0))
  res : W.heap[w.heap.size + 1]? = some (.cells #[.int .i64 0, .int .i64 0, .int .i64 0, .int .i64 0] 41 (0, 0))
  tok : W.heap[w.heap.size + 1 + 1]? = some (.cells c 41 (0, 0))
  bel : Below w.heap.size w W

theorem Mid.take {w W : World} {x y : Int} {c : Array Value} (h : Mid w x c W) (n : Nat) : Mid w y c ((W.drewN n).setCell ⟨w.heap.size, 0, none⟩ (.int .u64 y)) :=
  ⟨one_setCell h.own, (Below.heap_setCell _ _ _ _ (by simp)).trans h.res, (Below.heap_setCell _ _ _ _ (by simp; omega)).trans h.tok, below_set (pw_below_drewN h.bel n) (Nat.le_refl _)⟩

theorem Mid.put {w W : World} {x : Int} {c : Array Value} (h : Mid w x c W) (j : Nat) (v : Value) : Mid w x (c.setIfInBounds j v) (W.setCell ⟨w.heap.size + 1 + 1, j, none⟩ v) :=
  ⟨(Below.heap_setCell _ _ _ _ (by simp; omega)).trans h.own, (Below.heap_setCell _ _ _ _ (by simp)).trans h.res, blk_set h.tok j v, below_set h.bel (by omega)⟩

theorem Mid.start (w : World) (x y : Int) (n : Nat) (c : Array Value) : Mid w y c (((((w.alloc (.cells #[.int .u64 x] 24)).alloc (.cells #[.int .i64 0, .int .i64 0, .int .i64 0, .int .i64 0] 41)).drewN n).setCell ⟨w.heap.size, 0, none⟩ (.int .u64 y)).alloc (.cells c 41)) :=
  ⟨blk_alloc (one_setCell (blk_drewN (blk_alloc (blk_new _ _) _) n)) _, blk_alloc ((Below.heap_setCell _ _ _ _ (by simp)).trans (by have := blk_new (w.alloc (.cells #[.int .u64 x] 24)) (.cells #[.int .i64 0, .int .i64 0, .int .i64 0, .int .i64 0] 41); simpa using this)) _, by
    have := blk_new ((((w.alloc (.cells #[.int .u64 x] 24)).alloc (.cells #[.int .i64 0, .int .i64 0, .int .i64 0, .int .i64 0] 41)).drewN n).setCell ⟨w.heap.size, 0, none⟩ (.int .u64 y)) (.cells c 41)
    simpa using this, below_alloc (below_set (pw_below_drewN (below_alloc (below_alloc (Below.refl _ _) _) _) n) (Nat.le_refl _)) _⟩

/-- What Of answers. -/
def ofRes (v : Int) : Value := if v / 17592186044416 = 0 ∧ v / 268435456 % 65536 = 0 then .tuple #[.agg #[.int .i64 0, .int .i64 0, .int .i64 0, .int .i64 0], .int .i64 8]
  else .tuple #[.agg #[.int .i64 (v / 17592186044416), .int .i64 (v / 268435456 % 65536), .int .i64 (v / 4096 % 65536), .int .i64 (v % 4096)], .int .i64 0]

theorem ofRes_none (v : Int) (h1 : v / 17592186044416 = 0) (h2 : v / 268435456 % 65536 = 0) : Ending.returned (ofRes v) = Ending.returned (.tuple #[.agg #[.int .i64 0, .int .i64 0, .int .i64 0, .int .i64 0], .int .i64 8]) := by
  unfold ofRes
  rw [if_pos ⟨h1, h2⟩]

theorem ofRes_run (v a b c d : Int) (h1 : v / 17592186044416 = a) (h2 : v / 268435456 % 65536 = b) (h3 : v / 4096 % 65536 = c) (h4 : v % 4096 = d) (h : a ≠ 0 ∨ b ≠ 0) :
    Ending.returned (ofRes v) = Ending.returned (.tuple #[.agg #[.int .i64 a, .int .i64 b, .int .i64 c, .int .i64 d], .int .i64 0]) := by
  unfold ofRes
  rw [h1, h2, h3, h4, if_neg (by omega)]

set_option maxHeartbeats 1000000 in
theorem of_any (v : Int) (w : World) (hv0 : 0 ≤ v) (hv1 : v < 18446744073709551616) :
    Calls Try.prog 19 #[.int .u64 v] w fun e w' => e = .returned (ofRes v) ∧ Below w.heap.size w w' := by
  go_enter Try.func19, Try.ntmps19
  go_wp2_with (fail)
  refine (take_12 v w.heap.size _ hv0 hv1 (blk_alloc (blk_new _ _) _)).mono ?_
  rintro e w1 ⟨rfl, n, rfl⟩
  go_wp2_with (fail)
  refine calls_gen (Mid w (v / 4096) #[.int .i64 0, .int .i64 0, .int .i64 0, .int .i64 (v % 4096)]) (Mid.start _ _ _ _ _) ?_
  intro W2 m2
  refine (take_16 _ w.heap.size _ ?_ ?_ m2.own).mono ?_
  · omega
  · omega
  rintro e w3 ⟨rfl, n3, rfl⟩
  have m3 := Mid.take (y := v / 4096 / 65536) m2 n3
  generalize (W2.drewN n3).setCell ⟨w.heap.size, 0, none⟩ (Value.int IntKind.u64 (v / 4096 / 65536)) = W3 at m3 ⊢
  clear m2
  have c3 := fun j => blk_cell m3.tok j
  have f3 := fun j => blk_frozen m3.tok j
  have H3 := Lib.hid m3
  clear m3
  go_wp2_with (fail)
  refine calls_gen (Mid w (v / 4096 / 65536) #[.int .i64 0, .int .i64 0, .int .i64 (v / 4096 % 65536), .int .i64 (v % 4096)]) (Mid.put H3.out 2 _) ?_
  clear c3 f3 H3 W3
  intro W3 m3
  refine (take_16 _ w.heap.size _ ?_ ?_ m3.own).mono ?_
  · omega
  · omega
  rintro e w4 ⟨rfl, n4, rfl⟩
  have m4 := Mid.take (y := v / 4096 / 65536 / 65536) m3 n4
  generalize (W3.drewN n4).setCell ⟨w.heap.size, 0, none⟩ (Value.int IntKind.u64 (v / 4096 / 65536 / 65536)) = W4 at m4 ⊢
  clear m3
  have c4 := fun j => blk_cell m4.tok j
  have f4 := fun j => blk_frozen m4.tok j
  have H4 := Lib.hid m4
  clear m4
  go_wp2_with (fail)
  refine calls_gen (Mid w (v / 4096 / 65536 / 65536) #[.int .i64 0, .int .i64 (v / 4096 / 65536 % 65536), .int .i64 (v / 4096 % 65536), .int .i64 (v % 4096)]) (Mid.put H4.out 1 _) ?_
  clear c4 f4 H4 W4
  intro W4 m4
  refine (take_20 _ w.heap.size _ ?_ ?_ m4.own).mono ?_
  · omega
  · omega
  rintro e w5 ⟨rfl, n5, rfl⟩
  have m5 := Mid.take (y := v / 4096 / 65536 / 65536 / 1048576) m4 n5
  generalize (W4.drewN n5).setCell ⟨w.heap.size, 0, none⟩ (Value.int IntKind.u64 (v / 4096 / 65536 / 65536 / 1048576)) = W5 at m5 ⊢
  clear m4
  have c5 := fun j => blk_cell m5.tok j
  have f5 := fun j => blk_frozen m5.tok j
  have r5 := fun j => blk_cell m5.res j
  have g5 := fun j => blk_frozen m5.res j
  have H5 := Lib.hid m5
  clear m5
  go_wp2_with (fail)
  · rename_i q1 q2
    have q2 : v / 4096 / 65536 % 65536 = 0 := by simpa using q2
    refine bodyPost_ret (results_ct rfl _ _ (w.heap.size + 1) 41 #[.int .i64 0, .int .i64 0, .int .i64 0, .int .i64 0] (0, 0) _ rfl (blk_put (blk_put (blk_put (blk_put ((Below.heap_setCell _ _ _ _ (by simp)).trans H5.out.res) 0 _ rfl) 1 _ rfl) 2 _ rfl) 3 _ rfl) Try.underlying41 rfl (by kernel_rfl)) rfl ?_
    exact ⟨(ofRes_none v (by omega) (by omega)).symm, below_set (below_set (below_set (below_set (below_set H5.out.bel (by omega)) (by omega)) (by omega)) (by omega)) (by omega)⟩
  · rename_i q1 q2
    have q2 : ¬ v / 4096 / 65536 % 65536 = 0 := by simpa using q2
    refine bodyPost_ret (results_ct rfl _ _ (w.heap.size + 1) 41 #[.int .i64 0, .int .i64 (v / 4096 / 65536 % 65536), .int .i64 (v / 4096 % 65536), .int .i64 (v % 4096)] (0, 0) _ rfl (blk_put (blk_put (blk_put (blk_put ((Below.heap_setCell _ _ _ _ (by simp)).trans H5.out.res) 0 _ rfl) 1 _ rfl) 2 _ rfl) 3 _ rfl) Try.underlying41 rfl (by kernel_rfl)) rfl ?_
    exact ⟨(ofRes_run v _ _ _ _ (by omega) (by omega) (by omega) rfl (Or.inr (by omega))).symm, below_set (below_set (below_set (below_set (below_set H5.out.bel (by omega)) (by omega)) (by omega)) (by omega)) (by omega)⟩
  · rename_i q1
    refine bodyPost_ret (results_ct rfl _ _ (w.heap.size + 1) 41 #[.int .i64 (v / 4096 / 65536 / 65536 % 1048576), .int .i64 (v / 4096 / 65536 % 65536), .int .i64 (v / 4096 % 65536), .int .i64 (v % 4096)] (0, 0) _ rfl (blk_put (blk_put (blk_put (blk_put ((Below.heap_setCell _ _ _ _ (by simp)).trans H5.out.res) 0 _ rfl) 1 _ rfl) 2 _ rfl) 3 _ rfl) Try.underlying41 rfl (by kernel_rfl)) rfl ?_
    exact ⟨(ofRes_run v _ _ _ _ (by omega) (by omega) (by omega) rfl (Or.inl (by omega))).symm, below_set (below_set (below_set (below_set (below_set H5.out.bel (by omega)) (by omega)) (by omega)) (by omega)) (by omega)⟩

open Go.Proofs.Ytajljephndlflaa.PIdsTokens in
theorem of_calls (v r1 r2 r3 r4 r5 : Int) (w : World) (h0 : 0 ≤ v) (h1 : v < 18446744073709551616) (h : teaselref2_Of.f v = some (r1, r2, r3, r4, r5)) :
    Calls Try.prog 19 #[.int .u64 v] w fun e w' => e = .returned (.tuple #[.agg #[.int .i64 r1, .int .i64 r2, .int .i64 r3, .int .i64 r4], .int .i64 r5]) ∧ Below w.heap.size w w' := by
  rw [Tok.rof_eq v h0 h1] at h
  have e := Option.some.inj h
  refine (of_any v w h0 h1).mono ?_
  rintro e' w' ⟨rfl, hb⟩
  refine ⟨?_, hb⟩
  unfold ofRes
  by_cases hz : v / 17592186044416 = 0 ∧ v / 268435456 % 65536 = 0
  · rw [if_pos hz] at e ⊢
    cases e
    rfl
  · rw [if_neg hz] at e ⊢
    cases e
    rfl

end Go.Proofs.Ytajljephndlflaa.OfWalk

/- Lease, NewMap and Of of a fence.Map and of the reference's, each by a walk. Conditions: those at each theorem. -/
import Derived.Test.YtgalahnockmgpaaMaps
import Derived.OwnWalk
import Derived.Laws.AppendOwn
import Derived.Deep.LoopGhost
import Derived.RegionTactic
import Derived.ChangeAlike
import Derived.BigRegion
namespace Go.Proofs.Ytgalahnockmgpaa.Maps
open Go.RowKit Go.Proofs.YtgalahnockmgpaaW.PrintWords Go.Proofs.Ytgalahnockmgpaa.Kit

set_option maxHeartbeats 2000000 in
theorem fence_lease_no {g gl gu : Nat} {fs : List (Int × Int)} {us : List Int} (s ow now ti : Int) (w : World) (h : At 65 25 g gl gu fs us w) (hs : ¬ (0 ≤ s ∧ s < fs.length)) :
    Calls Try.prog 21 #[.pointer (some ⟨g, 0, none⟩), .int .i64 s, .int .i64 ow, .int .i64 now, .int .i64 ti] w fun e w' => e = .returned (.tuple #[.int .i64 0, .int .i64 2]) ∧ Below w.heap.size w w' := by
  have H := Lib.hid h
  have hs := Lib.hid hs
  clear h
  go_enter Try.func21, Try.ntmps21
  go_wp2_with (fail)
  refine (fence_get_no s _ H.out hs.out).mono ?_
  rintro e w1 ⟨rfl, hb⟩
  have HB := Lib.hid hb
  clear hb
  go_wp2_with (fail)
  go_ret2
  exact ⟨rfl, (by first | exact HB.out | exact below_alloc HB.out _)⟩

set_option maxHeartbeats 2000000 in
theorem fence_lease_arg {g gl gu : Nat} {fs : List (Int × Int)} {us : List Int} (s : Nat) (ow now ti : Int) (w : World) (h : At 65 25 g gl gu fs us w) (hs : s < fs.length) (ha : ¬ (0 ≤ now ∧ 1 ≤ ti ∧ ti ≤ 1048576 ∧ now ≤ 1099511627776)) :
    Calls Try.prog 21 #[.pointer (some ⟨g, 0, none⟩), .int .i64 s, .int .i64 ow, .int .i64 now, .int .i64 ti] w fun e w' => e = .returned (.tuple #[.int .i64 0, .int .i64 1]) ∧ Below w.heap.size w w' := by
  have H := Lib.hid h
  clear h
  have ways : (now < 0) ∨ (0 ≤ now ∧ ti < 1) ∨ (0 ≤ now ∧ 1 ≤ ti ∧ 1048576 < ti) ∨ (0 ≤ now ∧ 1 ≤ ti ∧ ti ≤ 1048576 ∧ 1099511627776 < now) := by omega
  clear ha
  rcases ways with h1 | ⟨h1, h2⟩ | ⟨h1, h2, h3⟩ | ⟨h1, h2, h3, h4⟩
  all_goals
    go_enter Try.func21, Try.ntmps21
    go_wp2_with (fail)
    refine (fence_get s _ H.out hs).mono ?_
    rintro e w1 ⟨rfl, hb⟩
    have HB := Lib.hid hb
    clear hb
    go_wp2_with (fail)
    go_ret2
    exact ⟨rfl, (by first | exact HB.out | exact below_alloc HB.out _)⟩

set_option maxHeartbeats 2000000 in
theorem fence_lease_fenced {g gl gu : Nat} {fs : List (Int × Int)} {us : List Int} (s : Nat) (ow now ti : Int) (w : World) (h : At 65 25 g gl gu fs us w) (hs : s < fs.length) (h1 : 0 ≤ now) (h2 : 1 ≤ ti) (h3 : ti ≤ 1048576) (h4 : now ≤ 1099511627776) (ho : fs[s].2 ≠ ow ∨ fs[s].1 = 0) :
    Calls Try.prog 21 #[.pointer (some ⟨g, 0, none⟩), .int .i64 s, .int .i64 ow, .int .i64 now, .int .i64 ti] w fun e w' => e = .returned (.tuple #[.int .i64 0, .int .i64 25]) ∧ Below w.heap.size w w' := by
  have H := Lib.hid h
  have hf := h.few
  clear h
  have ways : ((fs[s].2 != ow) = true) ∨ ((fs[s].2 != ow) = false ∧ (fs[s].1 == 0) = true) := by by_cases hh : fs[s].2 = ow <;> simp_all
  clear ho
  rcases ways with ho | ⟨ho, hz⟩
  all_goals
    go_enter Try.func21, Try.ntmps21
    go_wp2_with (fail)
    refine (fence_get s _ H.out hs).mono ?_
    rintro e w1 ⟨rfl, hb⟩
    have HB := Lib.hid hb
    clear hb
    skip
    go_wp2_with (fail)
    go_ret2
    exact ⟨rfl, (by first | exact HB.out | exact below_alloc HB.out _)⟩

set_option maxHeartbeats 2000000 in
theorem ref_lease_no {g gl gu : Nat} {fs : List (Int × Int)} {us : List Int} (s ow now ti : Int) (w : World) (h : At 69 31 g gl gu fs us w) (hs : ¬ (0 ≤ s ∧ s < fs.length)) :
    Calls Try.prog 24 #[.pointer (some ⟨g, 0, none⟩), .int .i64 s, .int .i64 ow, .int .i64 now, .int .i64 ti] w fun e w' => e = .returned (.tuple #[.int .i64 0, .int .i64 2]) ∧ Below w.heap.size w w' := by
  have H := Lib.hid h
  have hs := Lib.hid hs
  clear h
  go_enter Try.func24, Try.ntmps24
  go_wp2_with (fail)
  refine (ref_there s _ H.out).mono ?_
  rintro e w1 ⟨rfl, rfl⟩
  rw [decide_eq_false hs.out]
  go_wp2_with (fail)
  go_ret2
  exact ⟨rfl, Below.refl _ _⟩

set_option maxHeartbeats 2000000 in
theorem ref_lease_arg {g gl gu : Nat} {fs : List (Int × Int)} {us : List Int} (s : Nat) (ow now ti : Int) (w : World) (h : At 69 31 g gl gu fs us w) (hs : s < fs.length) (ha : ¬ (0 ≤ now ∧ 1 ≤ ti ∧ ti ≤ 1048576 ∧ now ≤ 1099511627776)) :
    Calls Try.prog 24 #[.pointer (some ⟨g, 0, none⟩), .int .i64 s, .int .i64 ow, .int .i64 now, .int .i64 ti] w fun e w' => e = .returned (.tuple #[.int .i64 0, .int .i64 1]) ∧ Below w.heap.size w w' := by
  have H := Lib.hid h
  clear h
  have ways : (now < 0) ∨ (0 ≤ now ∧ ti < 1) ∨ (0 ≤ now ∧ 1 ≤ ti ∧ 1048576 < ti) ∨ (0 ≤ now ∧ 1 ≤ ti ∧ ti ≤ 1048576 ∧ 1099511627776 < now) := by omega
  clear ha
  rcases ways with h1 | ⟨h1, h2⟩ | ⟨h1, h2, h3⟩ | ⟨h1, h2, h3, h4⟩
  all_goals
    go_enter Try.func24, Try.ntmps24
    go_wp2_with (fail)
    refine (ref_there s _ H.out).mono ?_
    rintro e w1 ⟨rfl, rfl⟩
    rw [decide_eq_true (show 0 ≤ (s : Int) ∧ (s : Int) < fs.length by omega)]
    go_wp2_with (fail)
    go_ret2
    exact ⟨rfl, Below.refl _ _⟩

set_option maxHeartbeats 2000000 in
theorem ref_lease_fenced {g gl gu : Nat} {fs : List (Int × Int)} {us : List Int} (s : Nat) (ow now ti : Int) (w : World) (h : At 69 31 g gl gu fs us w) (hs : s < fs.length) (h1 : 0 ≤ now) (h2 : 1 ≤ ti) (h3 : ti ≤ 1048576) (h4 : now ≤ 1099511627776) (ho : fs[s].2 ≠ ow ∨ fs[s].1 = 0) :
    Calls Try.prog 24 #[.pointer (some ⟨g, 0, none⟩), .int .i64 s, .int .i64 ow, .int .i64 now, .int .i64 ti] w fun e w' => e = .returned (.tuple #[.int .i64 0, .int .i64 25]) ∧ Below w.heap.size w w' := by
  have H := Lib.hid h
  have hf := h.few
  clear h
  have ways : ((fs[s].1 == 0) = true) ∨ ((fs[s].1 == 0) = false ∧ (fs[s].2 != ow) = true) := by by_cases hh : fs[s].1 = 0 <;> simp_all
  clear ho
  rcases ways with ho | ⟨ho, hz⟩
  all_goals
    go_enter Try.func24, Try.ntmps24
    go_wp2_with (fail)
    refine (ref_there s _ H.out).mono ?_
    rintro e w1 ⟨rfl, rfl⟩
    rw [decide_eq_true (show 0 ≤ (s : Int) ∧ (s : Int) < fs.length by omega)]
    have c0 := H.out.c0
    have r0 := H.out.r s hs
    have o0 := H.out.o s hs
    go_wp2_with (fail)
    go_ret2
    exact ⟨rfl, Below.refl _ _⟩

set_option maxHeartbeats 4000000 in
theorem fence_lease_ok {g gl gu : Nat} {fs : List (Int × Int)} {us : List Int} (s : Nat) (now ti : Int) (w : World) (h : At 65 25 g gl gu fs us w) (hs : s < fs.length) (hus : s < us.length) (h1 : 0 ≤ now) (h2 : 1 ≤ ti) (h3 : ti ≤ 1048576) (h4 : now ≤ 1099511627776) (hz : fs[s].1 ≠ 0) :
    Calls Try.prog 21 #[.pointer (some ⟨g, 0, none⟩), .int .i64 s, .int .i64 fs[s].2, .int .i64 now, .int .i64 ti] w fun e w' => e = .returned (.tuple #[.int .i64 (if us[s] < now + ti then now + ti else us[s]), .int .i64 0]) ∧ At 65 25 g gl gu fs (us.set s (if us[s] < now + ti then now + ti else us[s])) w' ∧ Mod (fun k => k = gl ∨ k = gu) w w' := by
  have H := Lib.hid h
  have hf := h.few
  obtain ⟨n1, n2, n3⟩ := h.gm
  have hz2 : (fs[s].1 == 0) = false := by simpa using hz
  clear h hz
  by_cases hm : us[s] < now + ti
  · rw [if_pos hm]
    go_enter Try.func21, Try.ntmps21
    go_wp2_with (fail)
    refine (fence_get s _ H.out hs).mono ?_
    rintro e w1 ⟨rfl, hb⟩
    have HB := Lib.hid hb
    clear hb
    have H1 := Lib.hid (H.out.below HB.out)
    clear H
    generalize fs[s].2 = q
    go_wp2_with (fail)
    have H2 := Lib.hid (H1.out.below (below_alloc (Below.refl _ _) (.cells #[.int .i64 fs[s].1, .int .i64 q] 25)))
    have HB2 := Lib.hid (below_alloc HB.out (.cells #[.int .i64 fs[s].1, .int .i64 q] 25))
    generalize w1.alloc (.cells #[.int .i64 fs[s].1, .int .i64 q] 25) = w2 at H2 HB2 ⊢
    have c1 := H2.out.c1
    have t0 := H2.out.t s hus
    have f0 := fun j => blk_frozen H2.out.u j
    go_region
    go_wp2_with (fail)
    go_ret2
    exact ⟨rfl, At.lease (At.drewN H2.out _) s _, (by repeat (first | exact Mod.of_below HB2.out | refine Mod.drew ?_ | refine Mod.drewN ?_ _ | refine Mod.set ?_ (Or.inr rfl) _ _))⟩

  · rw [if_neg hm]
    go_enter Try.func21, Try.ntmps21
    go_wp2_with (fail)
    refine (fence_get s _ H.out hs).mono ?_
    rintro e w1 ⟨rfl, hb⟩
    have HB := Lib.hid hb
    clear hb
    have H1 := Lib.hid (H.out.below HB.out)
    clear H
    generalize fs[s].2 = q
    go_wp2_with (fail)
    have H2 := Lib.hid (H1.out.below (below_alloc (Below.refl _ _) (.cells #[.int .i64 fs[s].1, .int .i64 q] 25)))
    have HB2 := Lib.hid (below_alloc HB.out (.cells #[.int .i64 fs[s].1, .int .i64 q] 25))
    generalize w1.alloc (.cells #[.int .i64 fs[s].1, .int .i64 q] 25) = w2 at H2 HB2 ⊢
    have c1 := H2.out.c1
    have t0 := H2.out.t s hus
    have f0 := fun j => blk_frozen H2.out.u j
    go_region
    go_wp2_with (fail)
    go_ret2
    exact ⟨rfl, At.lease (At.drewN H2.out _) s _, (by repeat (first | exact Mod.of_below HB2.out | refine Mod.drew ?_ | refine Mod.drewN ?_ _ | refine Mod.set ?_ (Or.inr rfl) _ _))⟩


set_option maxHeartbeats 4000000 in
theorem ref_lease_ok {g gl gu : Nat} {fs : List (Int × Int)} {us : List Int} (s : Nat) (now ti : Int) (w : World) (h : At 69 31 g gl gu fs us w) (hs : s < fs.length) (hus : s < us.length) (h1 : 0 ≤ now) (h2 : 1 ≤ ti) (h3 : ti ≤ 1048576) (h4 : now ≤ 1099511627776) (hz : fs[s].1 ≠ 0) :
    Calls Try.prog 24 #[.pointer (some ⟨g, 0, none⟩), .int .i64 s, .int .i64 fs[s].2, .int .i64 now, .int .i64 ti] w fun e w' => e = .returned (.tuple #[.int .i64 (if us[s] < now + ti then now + ti else us[s]), .int .i64 0]) ∧ At 69 31 g gl gu fs (us.set s (if us[s] < now + ti then now + ti else us[s])) w' ∧ Mod (fun k => k = gl ∨ k = gu) w w' := by
  have H := Lib.hid h
  have hf := h.few
  obtain ⟨n1, n2, n3⟩ := h.gm
  have hz2 : (fs[s].1 == 0) = false := by simpa using hz
  clear h hz
  by_cases hm : us[s] < now + ti
  · rw [if_pos hm]
    go_enter Try.func24, Try.ntmps24
    go_wp2_with (fail)
    refine (ref_there s _ H.out).mono ?_
    rintro e w1 ⟨rfl, rfl⟩
    rw [decide_eq_true (show 0 ≤ (s : Int) ∧ (s : Int) < fs.length by omega)]
    have c0 := H.out.c0
    have c1 := H.out.c1
    have r0 := H.out.r s hs
    have o0 := H.out.o s hs
    have t0 := H.out.t s hus
    have f0 := fun j => blk_frozen H.out.u j
    go_wp2_with (fail)
    go_ret2
    exact ⟨rfl, At.lease H.out s _, (by repeat (first | exact Mod.refl _ _ | refine Mod.set ?_ (Or.inr rfl) _ _))⟩

  · rw [if_neg hm]
    rw [List.set_getElem_self]
    go_enter Try.func24, Try.ntmps24
    go_wp2_with (fail)
    refine (ref_there s _ H.out).mono ?_
    rintro e w1 ⟨rfl, rfl⟩
    rw [decide_eq_true (show 0 ≤ (s : Int) ∧ (s : Int) < fs.length by omega)]
    have c0 := H.out.c0
    have c1 := H.out.c1
    have r0 := H.out.r s hs
    have o0 := H.out.o s hs
    have t0 := H.out.t s hus
    go_wp2_with (fail)
    go_ret2
    exact ⟨rfl, H.out, Mod.refl _ _⟩


theorem At.made (tm tf : TypeId) (W : World) (n : Nat) (hn : n ≤ 8) : At tm tf (W.heap.size + 1 + 1) W.heap.size (W.heap.size + 1) (List.replicate n (0, 0)) (List.replicate n 0)
    (((W.alloc (.cells (fcells (List.replicate n (0, 0))).toArray tf)).alloc (.cells (ints (List.replicate n 0)).toArray 3)).alloc (.cells #[.slice (some ⟨W.heap.size, 0, none⟩) n n, .slice (some ⟨W.heap.size + 1, 0, none⟩) n n] tm)) := by
  refine ⟨?_, ?_, ?_, by simp, by simpa using hn, by omega, by omega, by omega⟩
  · have := blk_new ((W.alloc (.cells (fcells (List.replicate n (0, 0))).toArray tf)).alloc (.cells (ints (List.replicate n 0)).toArray 3)) (.cells #[.slice (some ⟨W.heap.size, 0, none⟩) n n, .slice (some ⟨W.heap.size + 1, 0, none⟩) n n] tm)
    simpa using this
  · exact blk_alloc (blk_alloc (blk_new _ _) _) _
  · have := blk_alloc (blk_new (W.alloc (.cells (fcells (List.replicate n (0, 0))).toArray tf)) (.cells (ints (List.replicate n 0)).toArray 3)) (.cells #[.slice (some ⟨W.heap.size, 0, none⟩) n n, .slice (some ⟨W.heap.size + 1, 0, none⟩) n n] tm)
    simpa using this

theorem At.made2 (tm tf : TypeId) (W : World) (n : Nat) (hn : n ≤ 8) : At tm tf (W.heap.size + 1 + 1) (W.heap.size + 1) W.heap.size (List.replicate n (0, 0)) (List.replicate n 0)
    (((W.alloc (.cells (ints (List.replicate n 0)).toArray 3)).alloc (.cells (fcells (List.replicate n (0, 0))).toArray tf)).alloc (.cells #[.slice (some ⟨W.heap.size + 1, 0, none⟩) n n, .slice (some ⟨W.heap.size, 0, none⟩) n n] tm)) := by
  refine ⟨?_, ?_, ?_, by simp, by simpa using hn, by omega, by omega, by omega⟩
  · have := blk_new ((W.alloc (.cells (ints (List.replicate n 0)).toArray 3)).alloc (.cells (fcells (List.replicate n (0, 0))).toArray tf)) (.cells #[.slice (some ⟨W.heap.size + 1, 0, none⟩) n n, .slice (some ⟨W.heap.size, 0, none⟩) n n] tm)
    simpa using this
  · have := blk_alloc (blk_new (W.alloc (.cells (ints (List.replicate n 0)).toArray 3)) (.cells (fcells (List.replicate n (0, 0))).toArray tf)) (.cells #[.slice (some ⟨W.heap.size + 1, 0, none⟩) n n, .slice (some ⟨W.heap.size, 0, none⟩) n n] tm)
    simpa using this
  · exact blk_alloc (blk_alloc (blk_new _ _) _) _

theorem fence_mk (n : Nat) (h1 : 1 ≤ n) (h8 : n ≤ 8) : (∀ w : World, (Instr.makeSlice 63 (.int .i64 n) (.int .i64 n)).run Try.prog w = .ok (.slice (some ⟨w.heap.size, 0, none⟩) n n) (w.alloc (.cells (fcells (List.replicate n (0, 0))).toArray 25))) ∧
    (∀ w : World, (Instr.makeSlice 22 (.int .i64 n) (.int .i64 n)).run Try.prog w = .ok (.slice (some ⟨w.heap.size, 0, none⟩) n n) (w.alloc (.cells (ints (List.replicate n 0)).toArray 3))) := by
  rcases (show n = 1 ∨ n = 2 ∨ n = 3 ∨ n = 4 ∨ n = 5 ∨ n = 6 ∨ n = 7 ∨ n = 8 by omega) with rfl | rfl | rfl | rfl | rfl | rfl | rfl | rfl
  all_goals exact ⟨fun _ => by kernel_rfl, fun _ => by kernel_rfl⟩

/-- What NewMap leaves. -/
def fence_Made (w : World) (n : Nat) (e : Ending) (w' : World) : Prop := ∃ g gl gu, e = .returned (.tuple #[.pointer (some ⟨g, 0, none⟩), .int .i64 0]) ∧ At 65 25 g gl gu (List.replicate n (0, 0)) (List.replicate n 0) w' ∧ Below w.heap.size w w' ∧ w.heap.size ≤ g ∧ w.heap.size ≤ gl ∧ w.heap.size ≤ gu

set_option maxHeartbeats 4000000 in
theorem fence_new (n : Nat) (h1 : 1 ≤ n) (h8 : n ≤ 8) (w : World) : Calls Try.prog 17 #[.int .i64 n] w (fence_Made w n) := by
  obtain ⟨m1, m2⟩ := fence_mk n h1 h8
  have q1 := At.made 65 25 w n h8
  have q2 := At.made2 65 25 w n h8
  have Q1 := Lib.hid q1
  have Q2 := Lib.hid q2
  clear q1 q2
  go_enter Try.func17, Try.ntmps17
  go_wp2_with (fail)
  go_region
  · go_wp2_with (fail)
    go_ret2
    exact ⟨_, _, _, rfl, At.drew Q1.out, below_drew1 (below_alloc (below_alloc (below_alloc (Below.refl _ _) _) _) _), by omega, by omega, by omega⟩
  · go_wp2_with (fail)
    go_ret2
    exact ⟨_, _, _, rfl, At.drew Q2.out, below_drew1 (below_alloc (below_alloc (below_alloc (Below.refl _ _) _) _) _), by omega, by omega, by omega⟩

set_option maxHeartbeats 1000000 in
theorem fence_new_no (n : Int) (h : ¬ (1 ≤ n ∧ n ≤ 8)) (w : World) : Calls Try.prog 17 #[.int .i64 n] w fun e w' => e = .returned (.tuple #[.pointer none, .int .i64 1]) ∧ w = w' := by
  rcases (show n < 1 ∨ (1 ≤ n ∧ 8 < n) by omega) with h1 | ⟨h1, h2⟩
  all_goals
    clear h
    go_enter Try.func17, Try.ntmps17
    go_wp2_with (fail)
    go_ret2
    exact ⟨rfl, rfl⟩

theorem ref_mk (n : Nat) (h1 : 1 ≤ n) (h8 : n ≤ 8) : (∀ w : World, (Instr.makeSlice 67 (.int .i64 n) (.int .i64 n)).run Try.prog w = .ok (.slice (some ⟨w.heap.size, 0, none⟩) n n) (w.alloc (.cells (fcells (List.replicate n (0, 0))).toArray 31))) ∧
    (∀ w : World, (Instr.makeSlice 22 (.int .i64 n) (.int .i64 n)).run Try.prog w = .ok (.slice (some ⟨w.heap.size, 0, none⟩) n n) (w.alloc (.cells (ints (List.replicate n 0)).toArray 3))) := by
  rcases (show n = 1 ∨ n = 2 ∨ n = 3 ∨ n = 4 ∨ n = 5 ∨ n = 6 ∨ n = 7 ∨ n = 8 by omega) with rfl | rfl | rfl | rfl | rfl | rfl | rfl | rfl
  all_goals exact ⟨fun _ => by kernel_rfl, fun _ => by kernel_rfl⟩

/-- What NewMap leaves. -/
def ref_Made (w : World) (n : Nat) (e : Ending) (w' : World) : Prop := ∃ g gl gu, e = .returned (.tuple #[.pointer (some ⟨g, 0, none⟩), .int .i64 0]) ∧ At 69 31 g gl gu (List.replicate n (0, 0)) (List.replicate n 0) w' ∧ Below w.heap.size w w' ∧ w.heap.size ≤ g ∧ w.heap.size ≤ gl ∧ w.heap.size ≤ gu

set_option maxHeartbeats 4000000 in
theorem ref_new (n : Nat) (h1 : 1 ≤ n) (h8 : n ≤ 8) (w : World) : Calls Try.prog 22 #[.int .i64 n] w (ref_Made w n) := by
  obtain ⟨m1, m2⟩ := ref_mk n h1 h8
  have q1 := At.made 69 31 w n h8
  have q2 := At.made2 69 31 w n h8
  have Q1 := Lib.hid q1
  have Q2 := Lib.hid q2
  clear q1 q2
  go_enter Try.func22, Try.ntmps22
  go_wp2_with (fail)
  go_region
  · go_wp2_with (fail)
    go_ret2
    exact ⟨_, _, _, rfl, At.drew Q1.out, below_drew1 (below_alloc (below_alloc (below_alloc (Below.refl _ _) _) _) _), by omega, by omega, by omega⟩
  · go_wp2_with (fail)
    go_ret2
    exact ⟨_, _, _, rfl, At.drew Q2.out, below_drew1 (below_alloc (below_alloc (below_alloc (Below.refl _ _) _) _) _), by omega, by omega, by omega⟩

set_option maxHeartbeats 1000000 in
theorem ref_new_no (n : Int) (h : ¬ (1 ≤ n ∧ n ≤ 8)) (w : World) : Calls Try.prog 22 #[.int .i64 n] w fun e w' => e = .returned (.tuple #[.pointer none, .int .i64 1]) ∧ w = w' := by
  rcases (show n < 1 ∨ (1 ≤ n ∧ 8 < n) by omega) with h1 | ⟨h1, h2⟩
  all_goals
    clear h
    go_enter Try.func22, Try.ntmps22
    go_wp2_with (fail)
    go_ret2
    exact ⟨rfl, rfl⟩

theorem info3 : (Try.prog.info? 3).map (fun i => (i.zero, i.size, i.bytes)) = some (some (.int .i64 0), 1, 8) := by kernel_rfl

def mine (ow : Int) (fs : List (Int × Int)) (i : Nat) : Bool := match fs[i]? with
  | some p => decide (p.1 ≠ 0 ∧ p.2 = ow)
  | none => false

/-- The shards below k that somebody owns. -/
def ofs (ow : Int) (fs : List (Int × Int)) (k : Nat) : List Int := ((List.range k).filter (mine ow fs)).map fun (i : Nat) => (i : Int)

theorem ofs_succ (ow : Int) (fs : List (Int × Int)) (k : Nat) : ofs ow fs (k + 1) = ofs ow fs k ++ if mine ow fs k then [(k : Int)] else [] := by
  unfold ofs
  rw [List.range_succ, List.filter_append, List.map_append]
  cases h : mine ow fs k <;> simp [h]

theorem ofs_len (ow : Int) (fs : List (Int × Int)) (k : Nat) : (ofs ow fs k).length ≤ k := by
  unfold ofs
  rw [List.length_map]
  have := List.length_filter_le (mine ow fs) (List.range k)
  simpa using this

theorem mine_at (ow : Int) (fs : List (Int × Int)) (k : Nat) (h : k < fs.length) : mine ow fs k = ((fs[k].1 != 0) && (fs[k].2 == ow)) := by
  unfold mine
  rw [List.getElem?_eq_getElem h]
  by_cases h1 : fs[k].1 = 0 <;> by_cases h2 : fs[k].2 = ow <;> simp [h1, h2]

theorem own_base' {w : World} {base e size n : Nat} {v : Value} {xs : List Value} (h : w.ownsRow base e size v n xs) : ∀ k, v.ownBlock = some k → base ≤ k := by
  intro k hk
  rcases h.2 with ⟨rfl, _⟩ | ⟨g, cap, cur, rfl, hg, _⟩
  · simp [Value.ownBlock] at hk
  · simp [Value.ownBlock] at hk
    omega

set_option maxRecDepth 100000 in
set_option maxHeartbeats 4000000 in
theorem fence_of {g gl gu : Nat} {fs : List (Int × Int)} {us : List Int} (ow : Int) (w : World) (h : At 65 25 g gl gu fs us w) :
    Calls Try.prog 26 #[.pointer (some ⟨g, 0, none⟩), .int .i64 ow] w fun e w' => ∃ v, e = .returned v ∧ w'.ownsRow w.heap.size 3 1 v (ofs ow fs fs.length).length (ints (ofs ow fs fs.length)) ∧ Below w.heap.size w w' := by
  obtain ⟨i0, hi, hz0, hz1, hz2⟩ := info_parts info3
  have hf := h.few
  have H := Lib.hid h
  have c0 := h.c0
  clear h
  go_enter Try.func26, Try.ntmps26
  go_wp2_with (fail)
  go_loopg [5, 13] fs.length (fun m v i wr => ∃ k : Nat, m = fs.length - k ∧ k ≤ fs.length ∧ i = .int .i64 k ∧ Hid (wr.ownsRow w.heap.size 3 1 v (ofs ow fs k).length (ints (ofs ow fs k))) ∧ Hid (Below w.heap.size w wr))
  case atStart => exact ⟨0, rfl, Nat.zero_le _, rfl, ⟨rfl, Or.inl ⟨rfl, rfl⟩⟩, Below.refl _ _⟩
  case round =>
    obtain ⟨k, rfl, hk, rfl, OWN, HB⟩ := hrel
    clear c0
    by_cases hlt : k < fs.length
    · have H1 := Lib.hid (H.out.below (HB.out))
      have r0 := H1.out.r k hlt
      have o0 := H1.out.o k hlt
      have hL := Lib.hid (ofs_len ow fs k)
      have hS := Lib.hid (ofs_succ ow fs k)
      have hm := Lib.hid (mine_at ow fs k hlt)
      rcases (show ((fs[k].1 != 0) = false) ∨ ((fs[k].1 != 0) = true ∧ (fs[k].2 == ow) = false) ∨ ((fs[k].1 != 0) = true ∧ (fs[k].2 == ow) = true) by cases (fs[k].1 != 0) <;> cases (fs[k].2 == ow) <;> simp) with h1 | ⟨h1, h2⟩ | ⟨h1, h2⟩
      · have E : Hid (ofs ow fs (k + 1) = ofs ow fs k) := by
          show _ = _
          have q := hS.out
          rw [hm.out, h1] at q
          simpa using q
        go_wp2_with (fail)
        go_roundg (fs.length - (k + 1))
        case measure => omega
        case rel => exact ⟨k + 1, rfl, by omega, by go_num, by rw [E.out]; exact OWN.out.alloc _, below_alloc HB.out _⟩
      · have E : Hid (ofs ow fs (k + 1) = ofs ow fs k) := by
          show _ = _
          have q := hS.out
          rw [hm.out, h1, h2] at q
          simpa using q
        go_wp2_with (fail)
        go_roundg (fs.length - (k + 1))
        case measure => omega
        case rel => exact ⟨k + 1, rfl, by omega, by go_num, by rw [E.out]; exact OWN.out.alloc _, below_alloc HB.out _⟩
      · have E : Hid (ofs ow fs (k + 1) = ofs ow fs k ++ [(k : Int)]) := by
          show _ = _
          have q := hS.out
          rw [hm.out, h1, h2] at q
          simpa using q
        have own0 := Lib.hid ((OWN.out.alloc (.cells #[.int .i64 fs[k].1, .int .i64 fs[k].2] 25)).alloc (.cells #[.int .i64 k] 3))
        go_wp2_with (at_builtin; refine wpList_append_own _ rfl _ _ 22 rfl w.heap.size 3 i0 (.int .i64 0) 1 8 Try.underlying22 hi hz0 hz1 hz2 rfl (by decide) _ _ _ rfl own0.out ⟨wr.heap.size + 1, 0, none⟩ 1 1 [.int .i64 (k : Int)] rfl rfl ?c1 ?c2 ?c3 ?c4 ?c5 ?_)
        case c1 =>
          intro j u hj
          match j, hj with
          | 0, hj => simp at hj; subst hj; simp [Addr.add]
        case c2 => intro u hu; simp at hu; subst hu; rfl
        case c3 => have := hL.out; unfold maxLen; omega
        case c4 => have := hL.out; omega
        case c5 => have := HB.out.size; simp; omega
        intro v' w1 hown' hgrow _
        have OWN2 := Lib.hid hown'
        have GR := Lib.hid hgrow
        clear hown' hgrow
        go_wp2_with (fail)
        go_roundg (fs.length - (k + 1))
        case measure => omega
        case rel =>
          refine ⟨k + 1, rfl, by omega, by go_num, ?_, ?_⟩
          · rw [E.out]
            show World.ownsRow _ _ _ _ _ _ _
            have q := OWN2.out
            simpa [ints] using q
          · exact (below_alloc (below_alloc HB.out _) _).grown GR.out (by have := HB.out.size; simp; omega) (fun j hj => own_base' OWN.out j hj)
    · obtain rfl : k = fs.length := by omega
      go_wp2_with (fail)
      go_ret
      exact ⟨_, rfl, OWN.out, HB.out⟩

set_option maxRecDepth 100000 in
set_option maxHeartbeats 4000000 in
theorem ref_of {g gl gu : Nat} {fs : List (Int × Int)} {us : List Int} (ow : Int) (w : World) (h : At 69 31 g gl gu fs us w) :
    Calls Try.prog 27 #[.pointer (some ⟨g, 0, none⟩), .int .i64 ow] w fun e w' => ∃ v, e = .returned v ∧ w'.ownsRow w.heap.size 3 1 v (ofs ow fs fs.length).length (ints (ofs ow fs fs.length)) ∧ Below w.heap.size w w' := by
  obtain ⟨i0, hi, hz0, hz1, hz2⟩ := info_parts info3
  have hf := h.few
  have H := Lib.hid h
  have c0 := h.c0
  clear h
  go_enter Try.func27, Try.ntmps27
  go_wp2_with (fail)
  go_loopg [5, 6] fs.length (fun m v i wr => ∃ k : Nat, m = fs.length - k ∧ k ≤ fs.length ∧ i = .int .i64 k ∧ Hid (wr.ownsRow w.heap.size 3 1 v (ofs ow fs k).length (ints (ofs ow fs k))) ∧ Hid (Below w.heap.size w wr))
  case atStart => exact ⟨0, rfl, Nat.zero_le _, rfl, ⟨rfl, Or.inl ⟨rfl, rfl⟩⟩, Below.refl _ _⟩
  case round =>
    obtain ⟨k, rfl, hk, rfl, OWN, HB⟩ := hrel
    have H0 := Lib.hid (H.out.below HB.out)
    clear c0
    have c0 := H0.out.c0
    by_cases hlt : k < fs.length
    · have H1 := Lib.hid (H.out.below (HB.out))
      have r0 := H1.out.r k hlt
      have o0 := H1.out.o k hlt
      have hL := Lib.hid (ofs_len ow fs k)
      have hS := Lib.hid (ofs_succ ow fs k)
      have hm := Lib.hid (mine_at ow fs k hlt)
      rcases (show ((fs[k].1 != 0) = false) ∨ ((fs[k].1 != 0) = true ∧ (fs[k].2 == ow) = false) ∨ ((fs[k].1 != 0) = true ∧ (fs[k].2 == ow) = true) by cases (fs[k].1 != 0) <;> cases (fs[k].2 == ow) <;> simp) with h1 | ⟨h1, h2⟩ | ⟨h1, h2⟩
      · have E : Hid (ofs ow fs (k + 1) = ofs ow fs k) := by
          show _ = _
          have q := hS.out
          rw [hm.out, h1] at q
          simpa using q
        go_wp2_with (fail)
        go_roundg (fs.length - (k + 1))
        case measure => omega
        case rel => exact ⟨k + 1, rfl, by omega, by go_num, by rw [E.out]; exact OWN.out, HB.out⟩
      · have E : Hid (ofs ow fs (k + 1) = ofs ow fs k) := by
          show _ = _
          have q := hS.out
          rw [hm.out, h1, h2] at q
          simpa using q
        go_wp2_with (fail)
        go_roundg (fs.length - (k + 1))
        case measure => omega
        case rel => exact ⟨k + 1, rfl, by omega, by go_num, by rw [E.out]; exact OWN.out, HB.out⟩
      · have E : Hid (ofs ow fs (k + 1) = ofs ow fs k ++ [(k : Int)]) := by
          show _ = _
          have q := hS.out
          rw [hm.out, h1, h2] at q
          simpa using q
        have own0 := Lib.hid (OWN.out.alloc (.cells #[.int .i64 k] 3))
        go_wp2_with (at_builtin; refine wpList_append_own _ rfl _ _ 22 rfl w.heap.size 3 i0 (.int .i64 0) 1 8 Try.underlying22 hi hz0 hz1 hz2 rfl (by decide) _ _ _ rfl own0.out ⟨wr.heap.size, 0, none⟩ 1 1 [.int .i64 (k : Int)] rfl rfl ?c1 ?c2 ?c3 ?c4 ?c5 ?_)
        case c1 =>
          intro j u hj
          match j, hj with
          | 0, hj => simp at hj; subst hj; simp [Addr.add]
        case c2 => intro u hu; simp at hu; subst hu; rfl
        case c3 => have := hL.out; unfold maxLen; omega
        case c4 => have := hL.out; omega
        case c5 => have := HB.out.size; simp; omega
        intro v' w1 hown' hgrow _
        have OWN2 := Lib.hid hown'
        have GR := Lib.hid hgrow
        clear hown' hgrow
        go_wp2_with (fail)
        go_roundg (fs.length - (k + 1))
        case measure => omega
        case rel =>
          refine ⟨k + 1, rfl, by omega, by go_num, ?_, ?_⟩
          · rw [E.out]
            show World.ownsRow _ _ _ _ _ _ _
            have q := OWN2.out
            simpa [ints] using q
          · exact (below_alloc HB.out _).grown GR.out (by have := HB.out.size; simp; omega) (fun j hj => own_base' OWN.out j hj)
    · obtain rfl : k = fs.length := by omega
      go_wp2_with (fail)
      go_ret
      exact ⟨_, rfl, OWN.out, HB.out⟩

end Go.Proofs.Ytgalahnockmgpaa.Maps

/- A fence.Map and the reference's in memory; NewMap's readers and Set, each by a walk. Conditions: those at each theorem. -/
import Derived.Test.YtgalahnockmgpaaOne
import Derived.RegionTactic
import Derived.ChangeAlike
import Derived.BigRegion
import Derived.Laws.MakeOwn
namespace Go.Proofs.Ytgalahnockmgpaa.Maps
open Go.RowKit Go.Proofs.YtgalahnockmgpaaW.PrintWords Go.Proofs.Ytgalahnockmgpaa.Kit

/-- The cells of fences, one behind the other. -/
def fcells : List (Int × Int) → List Value
  | [] => []
  | p :: r => .int .i64 p.1 :: .int .i64 p.2 :: fcells r

theorem fcells_len : ∀ l, (fcells l).length = 2 * l.length
  | [] => rfl
  | _ :: r => by simp [fcells, fcells_len r]; omega

theorem fcells_at : ∀ (l : List (Int × Int)) (i : Nat) (h : i < l.length), (fcells l)[i * 2]? = some (.int .i64 l[i].1) ∧ (fcells l)[i * 2 + 1]? = some (.int .i64 l[i].2)
  | [], _, h => absurd h (Nat.not_lt_zero _)
  | p :: r, 0, _ => ⟨rfl, rfl⟩
  | p :: r, i + 1, h => by
    have hr : i < r.length := by simpa using h
    have e1 : (i + 1) * 2 = i * 2 + 2 := by omega
    have e2 : (i + 1) * 2 + 1 = (i * 2 + 1) + 2 := by omega
    rw [e1]
    simpa [fcells] using fcells_at r i hr

theorem fcells_set : ∀ (l : List (Int × Int)) (i : Nat) (_ : i < l.length) (p : Int × Int), ((fcells l).set (i * 2) (.int .i64 p.1)).set (i * 2 + 1) (.int .i64 p.2) = fcells (l.set i p)
  | [], _, h, _ => absurd h (Nat.not_lt_zero _)
  | q :: r, 0, _, p => rfl
  | q :: r, i + 1, h, p => by
    have hr : i < r.length := by simpa using h
    have e1 : (i + 1) * 2 = (i * 2).succ.succ := by omega
    have e2 : (i + 1) * 2 + 1 = (i * 2 + 1).succ.succ := by omega
    rw [e2, e1]
    simp only [fcells, List.set_cons_succ]
    rw [fcells_set r i hr p]

def ints (l : List Int) : List Value := l.map (.int .i64)

theorem ints_at (l : List Int) (i : Nat) (h : i < l.length) : (ints l)[i]? = some (.int .i64 l[i]) := by
  simp [ints, h]

/-- A fence.Map (or the reference's) in memory: its struct, its fences, its leases. -/
structure At (tm tf : TypeId) (g gl gu : Nat) (fs : List (Int × Int)) (us : List Int) (W : World) : Prop where
  m : W.heap[g]? = some (.cells #[.slice (some ⟨gl, 0, none⟩) fs.length fs.length, .slice (some ⟨gu, 0, none⟩) fs.length fs.length] tm (0, 0))
  l : W.heap[gl]? = some (.cells (fcells fs).toArray tf (0, 0))
  u : W.heap[gu]? = some (.cells (ints us).toArray 3 (0, 0))
  len : us.length = fs.length
  few : fs.length ≤ 8
  gm : g ≠ gl ∧ g ≠ gu ∧ gl ≠ gu

theorem At.below {tm tf : TypeId} {g gl gu : Nat} {fs : List (Int × Int)} {us : List Int} {W W' : World} (h : At tm tf g gl gu fs us W) (hb : Below W.heap.size W W') : At tm tf g gl gu fs us W' :=
  ⟨blk_below h.m hb, blk_below h.l hb, blk_below h.u hb, h.len, h.few, h.gm⟩

theorem At.c0 {tm tf : TypeId} {g gl gu : Nat} {fs : List (Int × Int)} {us : List Int} {W : World} (h : At tm tf g gl gu fs us W) : W.cell? ⟨g, 0, none⟩ = some (.slice (some ⟨gl, 0, none⟩) fs.length fs.length) := blk_cell h.m 0
theorem At.c1 {tm tf : TypeId} {g gl gu : Nat} {fs : List (Int × Int)} {us : List Int} {W : World} (h : At tm tf g gl gu fs us W) : W.cell? ⟨g, 1, none⟩ = some (.slice (some ⟨gu, 0, none⟩) fs.length fs.length) := blk_cell h.m 1
theorem At.r {tm tf : TypeId} {g gl gu : Nat} {fs : List (Int × Int)} {us : List Int} {W : World} (h : At tm tf g gl gu fs us W) (i : Nat) (hi : i < fs.length) : W.cell? ⟨gl, i * 2, none⟩ = some (.int .i64 fs[i].1) := by
  rw [blk_cell h.l]; simpa using (fcells_at fs i hi).1
theorem At.o {tm tf : TypeId} {g gl gu : Nat} {fs : List (Int × Int)} {us : List Int} {W : World} (h : At tm tf g gl gu fs us W) (i : Nat) (hi : i < fs.length) : W.cell? ⟨gl, i * 2 + 1, none⟩ = some (.int .i64 fs[i].2) := by
  rw [blk_cell h.l]; simpa using (fcells_at fs i hi).2
theorem At.t {tm tf : TypeId} {g gl gu : Nat} {fs : List (Int × Int)} {us : List Int} {W : World} (h : At tm tf g gl gu fs us W) (i : Nat) (hi : i < us.length) : W.cell? ⟨gu, i, none⟩ = some (.int .i64 us[i]) := by
  rw [blk_cell h.u]; simpa using ints_at us i hi

theorem At.drew {tm tf : TypeId} {g gl gu : Nat} {fs : List (Int × Int)} {us : List Int} {W : World} (h : At tm tf g gl gu fs us W) : At tm tf g gl gu fs us W.drew := ⟨h.m, h.l, h.u, h.len, h.few, h.gm⟩
theorem At.drewN {tm tf : TypeId} {g gl gu : Nat} {fs : List (Int × Int)} {us : List Int} {W : World} (h : At tm tf g gl gu fs us W) (n : Nat) : At tm tf g gl gu fs us (W.drewN n) := ⟨h.m, h.l, h.u, h.len, h.few, h.gm⟩

theorem At.put {tm tf : TypeId} {g gl gu : Nat} {fs : List (Int × Int)} {us : List Int} {W : World} (h : At tm tf g gl gu fs us W) (s : Nat) (hs : s < fs.length) (r o : Int) :
    At tm tf g gl gu (fs.set s (r, o)) us ((W.setCell ⟨gl, s * 2, none⟩ (.int .i64 r)).setCell ⟨gl, s * 2 + 1, none⟩ (.int .i64 o)) := by
  refine ⟨?_, ?_, ?_, by simpa using h.len, by simpa using h.few, h.gm⟩
  · rw [List.length_set]
    exact (Below.heap_setCell _ _ _ _ h.gm.1).trans ((Below.heap_setCell _ _ _ _ h.gm.1).trans h.m)
  · have e := blk_set (blk_set h.l (s * 2) (.int .i64 r)) (s * 2 + 1) (.int .i64 o)
    rw [List.setIfInBounds_toArray, List.setIfInBounds_toArray, fcells_set fs s hs (r, o)] at e
    exact e
  · exact (Below.heap_setCell _ _ _ _ (Ne.symm h.gm.2.2)).trans ((Below.heap_setCell _ _ _ _ (Ne.symm h.gm.2.2)).trans h.u)

theorem At.lease {tm tf : TypeId} {g gl gu : Nat} {fs : List (Int × Int)} {us : List Int} {W : World} (h : At tm tf g gl gu fs us W) (s : Nat) (v : Int) :
    At tm tf g gl gu fs (us.set s v) (W.setCell ⟨gu, s, none⟩ (.int .i64 v)) := by
  refine ⟨?_, ?_, ?_, by simpa using h.len, h.few, h.gm⟩
  · exact (Below.heap_setCell _ _ _ _ h.gm.2.1).trans h.m
  · exact (Below.heap_setCell _ _ _ _ h.gm.2.2).trans h.l
  · have e := blk_set h.u s (.int .i64 v)
    rw [List.setIfInBounds_toArray] at e
    have e2 : (ints us).set s (.int .i64 v) = ints (us.set s v) := by simp [ints, List.map_set]
    rw [e2] at e
    exact e

/-! ### fence -/
set_option maxHeartbeats 1000000 in
theorem fence_there {g gl gu : Nat} {fs : List (Int × Int)} {us : List Int} (s : Int) (w : World) (h : At 65 25 g gl gu fs us w) :
    Calls Try.prog 29 #[.pointer (some ⟨g, 0, none⟩), .int .i64 s] w fun e w' => e = .returned (.bool (decide (0 ≤ s ∧ s < fs.length))) ∧ w = w' := by
  have c0 := h.c0
  have hf := h.few
  clear h
  by_cases h0 : 0 ≤ s
  · go_enter Try.func29, Try.ntmps29
    go_wp2
    go_ret
    exact ⟨by simp [h0], rfl⟩
  · go_enter Try.func29, Try.ntmps29
    go_wp2
    go_ret
    exact ⟨by simp; omega, rfl⟩

set_option maxHeartbeats 1000000 in
theorem fence_get {g gl gu : Nat} {fs : List (Int × Int)} {us : List Int} (s : Nat) (w : World) (h : At 65 25 g gl gu fs us w) (hs : s < fs.length) :
    Calls Try.prog 19 #[.pointer (some ⟨g, 0, none⟩), .int .i64 s] w fun e w' => e = .returned (.tuple #[.agg #[.int .i64 fs[s].1, .int .i64 fs[s].2], .bool true]) ∧ Below w.heap.size w w' := by
  have hf := h.few
  have H := Lib.hid h
  clear h
  go_enter Try.func19, Try.ntmps19
  go_wp2_with (fail)
  have H1 := Lib.hid (H.out.below (below_alloc (Below.refl _ _) (.cells #[.int .i64 0, .int .i64 0] 25)))
  have HB := Lib.hid (below_alloc (Below.refl w.heap.size w) (.cells #[.int .i64 0, .int .i64 0] 25))
  have kr := Lib.hid (blk_new w (.cells #[.int .i64 0, .int .i64 0] 25))
  refine (fence_there s _ H1.out).mono ?_
  rintro e w1 ⟨rfl, rfl⟩
  have c0 := H1.out.c0
  have r := H1.out.r s hs
  have o := H1.out.o s hs
  have ht : decide (0 ≤ (s : Int) ∧ (s : Int) < fs.length) = true := by simp; omega
  rw [ht]
  go_wp2_with (fail)
  exact bodyPost_ret (results_ct rfl _ _ w.heap.size 25 #[.int .i64 fs[s].1, .int .i64 fs[s].2] (0, 0) _ rfl (blk_new _ _) Try.underlying25 rfl (by kernel_rfl)) rfl ⟨rfl, below_alloc (Below.refl _ _) _⟩

set_option maxHeartbeats 1000000 in
theorem fence_get_no {g gl gu : Nat} {fs : List (Int × Int)} {us : List Int} (s : Int) (w : World) (h : At 65 25 g gl gu fs us w) (hs : ¬ (0 ≤ s ∧ s < fs.length)) :
    Calls Try.prog 19 #[.pointer (some ⟨g, 0, none⟩), .int .i64 s] w fun e w' => e = .returned (.tuple #[.agg #[.int .i64 0, .int .i64 0], .bool false]) ∧ Below w.heap.size w w' := by
  have hf := h.few
  have H := Lib.hid h
  have ht := decide_eq_false hs
  clear h hs
  go_enter Try.func19, Try.ntmps19
  go_wp2_with (fail)
  have H1 := Lib.hid (H.out.below (below_alloc (Below.refl _ _) (.cells #[.int .i64 0, .int .i64 0] 25)))
  refine (fence_there s _ H1.out).mono ?_
  rintro e w1 ⟨rfl, rfl⟩
  rw [ht]
  go_wp2_with (fail)
  exact bodyPost_ret (results_ct rfl _ _ w.heap.size 25 #[.int .i64 0, .int .i64 0] (0, 0) _ rfl (blk_new _ _) Try.underlying25 rfl (by kernel_rfl)) rfl ⟨rfl, below_alloc (Below.refl _ _) _⟩

set_option maxHeartbeats 1000000 in
theorem fence_until {g gl gu : Nat} {fs : List (Int × Int)} {us : List Int} (s : Nat) (w : World) (h : At 65 25 g gl gu fs us w) (hs : s < us.length) :
    Calls Try.prog 18 #[.pointer (some ⟨g, 0, none⟩), .int .i64 s] w fun e w' => e = .returned (.int .i64 us[s]) ∧ w = w' := by
  have hf := h.few
  have H := Lib.hid h
  have hl := h.len
  have hs' : s < fs.length := by omega
  have ht : decide (0 ≤ (s : Int) ∧ (s : Int) < fs.length) = true := by simp; omega
  have c1 := h.c1
  have t := h.t s hs
  clear h hl
  go_enter Try.func18, Try.ntmps18
  go_wp2_with (fail)
  refine (fence_there s _ H.out).mono ?_
  rintro e w1 ⟨rfl, rfl⟩
  rw [ht]
  go_wp2_with (fail)
  go_ret
  exact ⟨rfl, rfl⟩

set_option maxHeartbeats 1000000 in
theorem fence_until_no {g gl gu : Nat} {fs : List (Int × Int)} {us : List Int} (s : Int) (w : World) (h : At 65 25 g gl gu fs us w) (hs : ¬ (0 ≤ s ∧ s < fs.length)) :
    Calls Try.prog 18 #[.pointer (some ⟨g, 0, none⟩), .int .i64 s] w fun e w' => e = .returned (.int .i64 0) ∧ w = w' := by
  have H := Lib.hid h
  have ht := decide_eq_false hs
  clear h hs
  go_enter Try.func18, Try.ntmps18
  go_wp2_with (fail)
  refine (fence_there s _ H.out).mono ?_
  rintro e w1 ⟨rfl, rfl⟩
  rw [ht]
  go_wp2_with (fail)
  go_ret
  exact ⟨rfl, rfl⟩

set_option maxHeartbeats 1000000 in
theorem fence_set_no {g gl gu : Nat} {fs : List (Int × Int)} {us : List Int} (s r o : Int) (w : World) (h : At 65 25 g gl gu fs us w) (hs : ¬ (0 ≤ s ∧ s < fs.length)) :
    Calls Try.prog 20 #[.pointer (some ⟨g, 0, none⟩), .int .i64 s, .agg #[.int .i64 r, .int .i64 o]] w fun e w' => e = .returned (.int .i64 2) ∧ Below w.heap.size w w' := by
  have H := Lib.hid (h.below (below_alloc (Below.refl _ _) (.cells #[.int .i64 r, .int .i64 o] 25)))
  have ht := decide_eq_false hs
  clear h hs
  go_enter Try.func20, Try.ntmps20
  go_wp2_with (fail)
  refine (fence_there s _ H.out).mono ?_
  rintro e w1 ⟨rfl, rfl⟩
  rw [ht]
  go_wp2_with (fail)
  go_ret
  exact ⟨rfl, below_alloc (Below.refl _ _) _⟩

/-! ### ref -/
set_option maxHeartbeats 1000000 in
theorem ref_there {g gl gu : Nat} {fs : List (Int × Int)} {us : List Int} (s : Int) (w : World) (h : At 69 31 g gl gu fs us w) :
    Calls Try.prog 30 #[.pointer (some ⟨g, 0, none⟩), .int .i64 s] w fun e w' => e = .returned (.bool (decide (0 ≤ s ∧ s < fs.length))) ∧ w = w' := by
  have c0 := h.c0
  have hf := h.few
  clear h
  by_cases h0 : 0 ≤ s
  · go_enter Try.func30, Try.ntmps30
    go_wp2
    go_ret
    exact ⟨by simp [h0], rfl⟩
  · go_enter Try.func30, Try.ntmps30
    go_wp2
    go_ret
    exact ⟨by simp; omega, rfl⟩

set_option maxHeartbeats 1000000 in
theorem ref_get {g gl gu : Nat} {fs : List (Int × Int)} {us : List Int} (s : Nat) (w : World) (h : At 69 31 g gl gu fs us w) (hs : s < fs.length) :
    Calls Try.prog 25 #[.pointer (some ⟨g, 0, none⟩), .int .i64 s] w fun e w' => e = .returned (.tuple #[.agg #[.int .i64 fs[s].1, .int .i64 fs[s].2], .bool true]) ∧ Below w.heap.size w w' := by
  have hf := h.few
  have H := Lib.hid h
  clear h
  go_enter Try.func25, Try.ntmps25
  go_wp2_with (fail)
  have H1 := Lib.hid (H.out.below (below_alloc (Below.refl _ _) (.cells #[.int .i64 0, .int .i64 0] 31)))
  have HB := Lib.hid (below_alloc (Below.refl w.heap.size w) (.cells #[.int .i64 0, .int .i64 0] 31))
  have kr := Lib.hid (blk_new w (.cells #[.int .i64 0, .int .i64 0] 31))
  refine (ref_there s _ H1.out).mono ?_
  rintro e w1 ⟨rfl, rfl⟩
  have c0 := H1.out.c0
  have r := H1.out.r s hs
  have o := H1.out.o s hs
  have ht : decide (0 ≤ (s : Int) ∧ (s : Int) < fs.length) = true := by simp; omega
  rw [ht]
  go_wp2_with (fail)
  exact bodyPost_ret (results_ct rfl _ _ w.heap.size 31 #[.int .i64 fs[s].1, .int .i64 fs[s].2] (0, 0) _ rfl (blk_new _ _) Try.underlying31 rfl (by kernel_rfl)) rfl ⟨rfl, below_alloc (Below.refl _ _) _⟩

set_option maxHeartbeats 1000000 in
theorem ref_get_no {g gl gu : Nat} {fs : List (Int × Int)} {us : List Int} (s : Int) (w : World) (h : At 69 31 g gl gu fs us w) (hs : ¬ (0 ≤ s ∧ s < fs.length)) :
    Calls Try.prog 25 #[.pointer (some ⟨g, 0, none⟩), .int .i64 s] w fun e w' => e = .returned (.tuple #[.agg #[.int .i64 0, .int .i64 0], .bool false]) ∧ Below w.heap.size w w' := by
  have hf := h.few
  have H := Lib.hid h
  have ht := decide_eq_false hs
  clear h hs
  go_enter Try.func25, Try.ntmps25
  go_wp2_with (fail)
  have H1 := Lib.hid (H.out.below (below_alloc (Below.refl _ _) (.cells #[.int .i64 0, .int .i64 0] 31)))
  refine (ref_there s _ H1.out).mono ?_
  rintro e w1 ⟨rfl, rfl⟩
  rw [ht]
  go_wp2_with (fail)
  exact bodyPost_ret (results_ct rfl _ _ w.heap.size 31 #[.int .i64 0, .int .i64 0] (0, 0) _ rfl (blk_new _ _) Try.underlying31 rfl (by kernel_rfl)) rfl ⟨rfl, below_alloc (Below.refl _ _) _⟩

set_option maxHeartbeats 1000000 in
theorem ref_until {g gl gu : Nat} {fs : List (Int × Int)} {us : List Int} (s : Nat) (w : World) (h : At 69 31 g gl gu fs us w) (hs : s < us.length) :
    Calls Try.prog 28 #[.pointer (some ⟨g, 0, none⟩), .int .i64 s] w fun e w' => e = .returned (.int .i64 us[s]) ∧ w = w' := by
  have hf := h.few
  have H := Lib.hid h
  have hl := h.len
  have hs' : s < fs.length := by omega
  have ht : decide (0 ≤ (s : Int) ∧ (s : Int) < fs.length) = true := by simp; omega
  have c1 := h.c1
  have t := h.t s hs
  clear h hl
  go_enter Try.func28, Try.ntmps28
  go_wp2_with (fail)
  refine (ref_there s _ H.out).mono ?_
  rintro e w1 ⟨rfl, rfl⟩
  rw [ht]
  go_wp2_with (fail)
  go_ret
  exact ⟨rfl, rfl⟩

set_option maxHeartbeats 1000000 in
theorem ref_until_no {g gl gu : Nat} {fs : List (Int × Int)} {us : List Int} (s : Int) (w : World) (h : At 69 31 g gl gu fs us w) (hs : ¬ (0 ≤ s ∧ s < fs.length)) :
    Calls Try.prog 28 #[.pointer (some ⟨g, 0, none⟩), .int .i64 s] w fun e w' => e = .returned (.int .i64 0) ∧ w = w' := by
  have H := Lib.hid h
  have ht := decide_eq_false hs
  clear h hs
  go_enter Try.func28, Try.ntmps28
  go_wp2_with (fail)
  refine (ref_there s _ H.out).mono ?_
  rintro e w1 ⟨rfl, rfl⟩
  rw [ht]
  go_wp2_with (fail)
  go_ret
  exact ⟨rfl, rfl⟩

set_option maxHeartbeats 1000000 in
theorem ref_set_no {g gl gu : Nat} {fs : List (Int × Int)} {us : List Int} (s r o : Int) (w : World) (h : At 69 31 g gl gu fs us w) (hs : ¬ (0 ≤ s ∧ s < fs.length)) :
    Calls Try.prog 23 #[.pointer (some ⟨g, 0, none⟩), .int .i64 s, .agg #[.int .i64 r, .int .i64 o]] w fun e w' => e = .returned (.int .i64 2) ∧ Below w.heap.size w w' := by
  have H := Lib.hid (h.below (below_alloc (Below.refl _ _) (.cells #[.int .i64 r, .int .i64 o] 31)))
  have ht := decide_eq_false hs
  clear h hs
  go_enter Try.func23, Try.ntmps23
  go_wp2_with (fail)
  refine (ref_there s _ H.out).mono ?_
  rintro e w1 ⟨rfl, rfl⟩
  rw [ht]
  go_wp2_with (fail)
  go_ret
  exact ⟨rfl, below_alloc (Below.refl _ _) _⟩

set_option maxHeartbeats 2000000 in
theorem fence_set_low {g gl gu : Nat} {fs : List (Int × Int)} {us : List Int} (s : Nat) (r o : Int) (w : World) (h : At 65 25 g gl gu fs us w) (hs : s < fs.length) (hr : r < fs[s].1) :
    Calls Try.prog 20 #[.pointer (some ⟨g, 0, none⟩), .int .i64 s, .agg #[.int .i64 r, .int .i64 o]] w fun e w' => e = .returned (.int .i64 25) ∧ Below w.heap.size w w' := by
  have hf := h.few
  have H := Lib.hid (h.below (below_alloc (Below.refl _ _) (.cells #[.int .i64 r, .int .i64 o] 25)))
  have ht : decide (0 ≤ (s : Int) ∧ (s : Int) < fs.length) = true := by simp; omega
  clear h
  go_enter Try.func20, Try.ntmps20
  go_wp2_with (fail)
  refine (fence_there s _ H.out).mono ?_
  rintro e w1 ⟨rfl, rfl⟩
  rw [ht]
  have c0 := H.out.c0
  have r0 := H.out.r s hs
  go_wp2_with (fail)
  go_quiet (fail)
  go_wp2_with (fail)
  go_ret
  exact ⟨rfl, pw_below_drewN (below_alloc (Below.refl _ _) _) _⟩

set_option maxHeartbeats 2000000 in
theorem ref_set_low {g gl gu : Nat} {fs : List (Int × Int)} {us : List Int} (s : Nat) (r o : Int) (w : World) (h : At 69 31 g gl gu fs us w) (hs : s < fs.length) (hr : r < fs[s].1) :
    Calls Try.prog 23 #[.pointer (some ⟨g, 0, none⟩), .int .i64 s, .agg #[.int .i64 r, .int .i64 o]] w fun e w' => e = .returned (.int .i64 25) ∧ Below w.heap.size w w' := by
  have hf := h.few
  have H := Lib.hid (h.below (below_alloc (Below.refl _ _) (.cells #[.int .i64 r, .int .i64 o] 31)))
  have ht : decide (0 ≤ (s : Int) ∧ (s : Int) < fs.length) = true := by simp; omega
  clear h
  go_enter Try.func23, Try.ntmps23
  go_wp2_with (fail)
  refine (ref_there s _ H.out).mono ?_
  rintro e w1 ⟨rfl, rfl⟩
  rw [ht]
  have c0 := H.out.c0
  have r0 := H.out.r s hs
  go_wp2_with (fail)
  go_quiet (fail)
  go_wp2_with (fail)
  go_ret
  exact ⟨rfl, pw_below_drewN (below_alloc (Below.refl _ _) _) _⟩

set_option maxHeartbeats 4000000 in
theorem fence_set_same {g gl gu : Nat} {fs : List (Int × Int)} {us : List Int} (s : Nat) (o : Int) (w : World) (h : At 65 25 g gl gu fs us w) (hs : s < fs.length) :
    Calls Try.prog 20 #[.pointer (some ⟨g, 0, none⟩), .int .i64 s, .agg #[.int .i64 fs[s].1, .int .i64 o]] w fun e w' => e = .returned (.int .i64 0) ∧ At 65 25 g gl gu (fs.set s (fs[s].1, o)) us w' ∧ Mod (fun k => k = gl ∨ k = gu) w w' := by
  have hu := Try.underlying25
  have hf := h.few
  have hne := h.gm
  have H := Lib.hid (h.below (below_alloc (Below.refl _ _) (.cells #[.int .i64 fs[s].1, .int .i64 o] 25)))
  have HB := Lib.hid (below_alloc (Below.refl w.heap.size w) (.cells #[.int .i64 fs[s].1, .int .i64 o] 25))
  have ht : decide (0 ≤ (s : Int) ∧ (s : Int) < fs.length) = true := by simp; omega
  have hlt := Lib.hid (Nat.ne_of_lt (blk_lt h.l))
  clear h
  go_enter Try.func20, Try.ntmps20
  go_wp2_with (fail)
  refine (fence_there s _ H.out).mono ?_
  rintro e w1 ⟨rfl, rfl⟩
  rw [ht]
  have kb := blk_new w (.cells #[.int .i64 fs[s].1, .int .i64 o] 25)
  generalize w.alloc (.cells #[.int .i64 fs[s].1, .int .i64 o] 25) = w1 at H HB kb ⊢
  generalize w.heap.size = gb at kb hlt ⊢
  have b0 := blk_cell kb 0
  have b1 := blk_cell kb 1
  have c0 := H.out.c0
  have r0 := H.out.r s hs
  have o0 := H.out.o s hs
  have f0 := fun j => blk_frozen H.out.l j
  clear kb
  by_cases ho : o = fs[s].2
  · subst ho
    go_wp2_with (fail)
    go_quiet (fail)
    go_wp2_with (fail)
    go_quiet (fail)
    go_wp2_with (fail)
    go_region
    go_wp2_with (fail)
    go_ret
    exact ⟨rfl, At.put (At.drewN H.out _) s hs _ _, (by repeat (first | exact Mod.of_below HB.out | refine Mod.drew ?_ | refine Mod.drewN ?_ _ | refine Mod.set ?_ (Or.inl rfl) _ _ | refine Mod.set ?_ (Or.inr rfl) _ _))⟩
  · have ho2 : (o == fs[s].2) = false := by simpa using ho
    go_wp2_with (fail)
    go_quiet (fail)
    go_wp2_with (fail)
    go_quiet (fail)
    go_wp2_with (fail)
    go_region
    go_wp2_with (fail)
    go_ret
    exact ⟨rfl, At.put (At.drewN H.out _) s hs _ _, (by repeat (first | exact Mod.of_below HB.out | refine Mod.drew ?_ | refine Mod.drewN ?_ _ | refine Mod.set ?_ (Or.inl rfl) _ _ | refine Mod.set ?_ (Or.inr rfl) _ _))⟩


set_option maxHeartbeats 4000000 in
theorem ref_set_same {g gl gu : Nat} {fs : List (Int × Int)} {us : List Int} (s : Nat) (o : Int) (w : World) (h : At 69 31 g gl gu fs us w) (hs : s < fs.length) :
    Calls Try.prog 23 #[.pointer (some ⟨g, 0, none⟩), .int .i64 s, .agg #[.int .i64 fs[s].1, .int .i64 o]] w fun e w' => e = .returned (.int .i64 0) ∧ At 69 31 g gl gu (fs.set s (fs[s].1, o)) us w' ∧ Mod (fun k => k = gl ∨ k = gu) w w' := by
  have hu := Try.underlying31
  have hf := h.few
  have hne := h.gm
  have H := Lib.hid (h.below (below_alloc (Below.refl _ _) (.cells #[.int .i64 fs[s].1, .int .i64 o] 31)))
  have HB := Lib.hid (below_alloc (Below.refl w.heap.size w) (.cells #[.int .i64 fs[s].1, .int .i64 o] 31))
  have ht : decide (0 ≤ (s : Int) ∧ (s : Int) < fs.length) = true := by simp; omega
  have hlt := Lib.hid (Nat.ne_of_lt (blk_lt h.l))
  clear h
  go_enter Try.func23, Try.ntmps23
  go_wp2_with (fail)
  refine (ref_there s _ H.out).mono ?_
  rintro e w1 ⟨rfl, rfl⟩
  rw [ht]
  have kb := blk_new w (.cells #[.int .i64 fs[s].1, .int .i64 o] 31)
  generalize w.alloc (.cells #[.int .i64 fs[s].1, .int .i64 o] 31) = w1 at H HB kb ⊢
  generalize w.heap.size = gb at kb hlt ⊢
  have b0 := blk_cell kb 0
  have b1 := blk_cell kb 1
  have c0 := H.out.c0
  have r0 := H.out.r s hs
  have o0 := H.out.o s hs
  have f0 := fun j => blk_frozen H.out.l j
  clear kb
  go_wp2_with (fail)
  go_quiet (fail)
  go_wp2_with (fail)
  go_quiet (fail)
  go_wp2_with (fail)
  go_region
  go_wp2_with (fail)
  go_ret
  exact ⟨rfl, At.put (At.drewN H.out _) s hs _ _, (by repeat (first | exact Mod.of_below HB.out | refine Mod.drew ?_ | refine Mod.drewN ?_ _ | refine Mod.set ?_ (Or.inl rfl) _ _ | refine Mod.set ?_ (Or.inr rfl) _ _))⟩

set_option maxHeartbeats 4000000 in
theorem fence_set_new {g gl gu : Nat} {fs : List (Int × Int)} {us : List Int} (s : Nat) (r o : Int) (w : World) (h : At 65 25 g gl gu fs us w) (hs : s < fs.length) (hr : fs[s].1 < r) :
    Calls Try.prog 20 #[.pointer (some ⟨g, 0, none⟩), .int .i64 s, .agg #[.int .i64 r, .int .i64 o]] w fun e w' => e = .returned (.int .i64 0) ∧ At 65 25 g gl gu (fs.set s (r, o)) (us.set s 0) w' ∧ Mod (fun k => k = gl ∨ k = gu) w w' := by
  have hu := Try.underlying25
  have hf := h.few
  have hus : s < us.length := by have := h.len; omega
  have e1 : (r == fs[s].1) = false := by simp; omega
  have e2 : ¬ r < fs[s].1 := by omega
  have e3 : (r != fs[s].1) = true := by simp; omega
  obtain ⟨n1, n2, n3⟩ := h.gm
  have H := Lib.hid (h.below (below_alloc (Below.refl _ _) (.cells #[.int .i64 r, .int .i64 o] 25)))
  have HB := Lib.hid (below_alloc (Below.refl w.heap.size w) (.cells #[.int .i64 r, .int .i64 o] 25))
  have ht : decide (0 ≤ (s : Int) ∧ (s : Int) < fs.length) = true := by simp; omega
  have n4 := (Nat.ne_of_lt (blk_lt h.l))
  have n5 := (Nat.ne_of_lt (blk_lt h.u))
  have N4 := Lib.hid n4
  have N5 := Lib.hid n5
  clear h hr n4 n5
  go_enter Try.func20, Try.ntmps20
  go_wp2_with (fail)
  refine (fence_there s _ H.out).mono ?_
  rintro e w1 ⟨rfl, rfl⟩
  rw [ht]
  have kb := blk_new w (.cells #[.int .i64 r, .int .i64 o] 25)
  generalize w.alloc (.cells #[.int .i64 r, .int .i64 o] 25) = w1 at H HB kb ⊢
  generalize w.heap.size = gb at kb N4 N5 ⊢
  have n4 := N4.out
  have n5 := N5.out
  have b0 := blk_cell kb 0
  have b1 := blk_cell kb 1
  have c0 := H.out.c0
  have c1 := H.out.c1
  have r0 := H.out.r s hs
  have o0 := H.out.o s hs
  have t0 := H.out.t s hus
  have f0 := fun j => blk_frozen H.out.l j
  have f1 := fun j => blk_frozen H.out.u j
  clear kb
  go_wp2_with (fail)
  go_quiet (fail)
  go_wp2_with (fail)
  go_quiet (fail)
  go_wp2_with (fail)
  go_region
  go_wp2_with (fail)
  go_ret
  exact ⟨rfl, At.drew (At.put (At.lease (At.drewN H.out _) s 0) s hs _ _), (by repeat (first | exact Mod.of_below HB.out | refine Mod.drew ?_ | refine Mod.drewN ?_ _ | refine Mod.set ?_ (Or.inl rfl) _ _ | refine Mod.set ?_ (Or.inr rfl) _ _))⟩

set_option maxHeartbeats 4000000 in
theorem ref_set_new {g gl gu : Nat} {fs : List (Int × Int)} {us : List Int} (s : Nat) (r o : Int) (w : World) (h : At 69 31 g gl gu fs us w) (hs : s < fs.length) (hr : fs[s].1 < r) :
    Calls Try.prog 23 #[.pointer (some ⟨g, 0, none⟩), .int .i64 s, .agg #[.int .i64 r, .int .i64 o]] w fun e w' => e = .returned (.int .i64 0) ∧ At 69 31 g gl gu (fs.set s (r, o)) (us.set s 0) w' ∧ Mod (fun k => k = gl ∨ k = gu) w w' := by
  have hu := Try.underlying31
  have hf := h.few
  have hus : s < us.length := by have := h.len; omega
  have e1 : (r == fs[s].1) = false := by simp; omega
  have e2 : ¬ r < fs[s].1 := by omega
  have e3 : (r != fs[s].1) = true := by simp; omega
  obtain ⟨n1, n2, n3⟩ := h.gm
  have H := Lib.hid (h.below (below_alloc (Below.refl _ _) (.cells #[.int .i64 r, .int .i64 o] 31)))
  have HB := Lib.hid (below_alloc (Below.refl w.heap.size w) (.cells #[.int .i64 r, .int .i64 o] 31))
  have ht : decide (0 ≤ (s : Int) ∧ (s : Int) < fs.length) = true := by simp; omega
  have n4 := (Nat.ne_of_lt (blk_lt h.l))
  have n5 := (Nat.ne_of_lt (blk_lt h.u))
  have N4 := Lib.hid n4
  have N5 := Lib.hid n5
  clear h hr n4 n5
  go_enter Try.func23, Try.ntmps23
  go_wp2_with (fail)
  refine (ref_there s _ H.out).mono ?_
  rintro e w1 ⟨rfl, rfl⟩
  rw [ht]
  have kb := blk_new w (.cells #[.int .i64 r, .int .i64 o] 31)
  generalize w.alloc (.cells #[.int .i64 r, .int .i64 o] 31) = w1 at H HB kb ⊢
  generalize w.heap.size = gb at kb N4 N5 ⊢
  have n4 := N4.out
  have n5 := N5.out
  have b0 := blk_cell kb 0
  have b1 := blk_cell kb 1
  have c0 := H.out.c0
  have c1 := H.out.c1
  have r0 := H.out.r s hs
  have o0 := H.out.o s hs
  have t0 := H.out.t s hus
  have f0 := fun j => blk_frozen H.out.l j
  have f1 := fun j => blk_frozen H.out.u j
  clear kb
  go_wp2_with (fail)
  go_quiet (fail)
  go_wp2_with (fail)
  go_quiet (fail)
  go_wp2_with (fail)
  go_region
  go_wp2_with (fail)
  go_ret
  exact ⟨rfl, At.drew (At.put (At.lease (At.drewN H.out _) s 0) s hs _ _), (by repeat (first | exact Mod.of_below HB.out | refine Mod.drew ?_ | refine Mod.drewN ?_ _ | refine Mod.set ?_ (Or.inl rfl) _ _ | refine Mod.set ?_ (Or.inr rfl) _ _))⟩

end Go.Proofs.Ytgalahnockmgpaa.Maps

/- event.Check on histories whose events open nothing: each event that fits is taken. Conditions: those at each theorem. -/
import Derived.Test.YtedpeambmmhcnaaCore
set_option maxRecDepth 100000
namespace Go.Proofs.Ytedpeambmmhcnaa.Base
open Go.RowKit Go.Maps Go.Proofs.YtedpeambmmhcnaaW.PrintWords Go.Proofs.Ytedpeambmmhcnaa.Kit

/-- What Check knows. -/
structure Hs where
  n : Int
  time : Int
  closed : Int
  task : Int
  begun : Bool

def hsCells (H : Hs) (m3 m4 m7 m8 : Option Nat) : Array Value := #[.int .i64 H.n, .int .i64 H.time, .int .i64 H.closed, .map m3, .map m4, .int .i64 H.task, .bool H.begun, .map m7, .map m8]

def HsAt (w : World) (h : Nat) (H : Hs) : Prop := ∃ m3 m4 m7 m8, w.heap[h]? = some (.cells (hsCells H m3 m4 m7 m8) 134 (0, 0))

theorem HsAt.below {w w' : World} {h : Nat} {H : Hs} (hh : HsAt w h H) (hb : Below w.heap.size w w') : HsAt w' h H := by
  obtain ⟨m3, m4, m7, m8, hk⟩ := hh
  exact ⟨m3, m4, m7, m8, blk_below hk hb⟩

theorem HsAt.noBytes {w : World} {h : Nat} {H : Hs} (hh : HsAt w h H) : NoBytes w (fun k => k = h) := by
  obtain ⟨m3, m4, m7, m8, hk⟩ := hh
  rintro k rfl i q hc
  rw [blk_cell hk i] at hc
  unfold hsCells at hc
  rcases i with _|_|_|_|_|_|_|_|_|i <;> simp at hc

theorem HsAt.noEvs {w : World} {h : Nat} {H : Hs} (hh : HsAt w h H) : NoEvs w (fun k => k = h) := by
  obtain ⟨m3, m4, m7, m8, hk⟩ := hh
  rintro k rfl cur hc
  rw [hk] at hc
  simp at hc

theorem ck_bel {w w' : World} {n : Nat} (h : Hid (w.heap.size = n)) (hb : Below w.heap.size w w') : Below n w w' := by rw [← h.out]; exact hb

/-- May an event's numbers be? -/
structure EvOk (e : Ev) : Prop where
  t0 : 0 ≤ e.time
  t1 : e.time ≤ 1099511627776
  r0 : 0 ≤ e.ref
  r1 : e.ref ≤ 1099511627776
  i0 : 0 ≤ e.id
  i1 : e.id ≤ 1099511627776
  l0 : 0 ≤ e.list
  l1 : e.list ≤ 1099511627776
  n0 : 0 ≤ e.n
  n1 : e.n ≤ 1099511627776
  d : e.data.length ≤ 4096

set_option maxHeartbeats 2000000 in
theorem between_ok (w : World) (v : Int) (h0 : 0 ≤ v) (h1 : v ≤ 1099511627776) : Calls Try.prog 111 #[.int .i64 v] w fun e w' => e = .returned (.bool true) ∧ w = w' := by
  go_enter Try.func111, Try.ntmps111
  go_wp2_with (fail)
  go_ret
  exact ⟨rfl, rfl⟩

set_option maxHeartbeats 8000000 in
theorem right_ev (w : World) (k ti rf id li nn : Int) (bs : List Int) (v : Value) (hv : Byt w v bs) (hk0 : 1 ≤ k) (hk1 : k ≤ 23) (ho : EvOk ⟨k, ti, rf, id, li, nn, bs⟩) :
    Calls Try.prog 105 #[.agg #[.int .i64 k, .int .i64 ti, .int .i64 rf, .int .i64 id, .int .i64 li, .int .i64 nn, v]] w fun e w' => e = .returned (.bool true) ∧ Below w.heap.size w w' := by
  obtain ⟨a, cap, rfl⟩ := hv.len
  obtain ⟨t0, t1, r0, r1, i0, i1, l0, l1, n0, n1, d⟩ := ho
  simp only at t0 t1 r0 r1 i0 i1 l0 l1 n0 n1 d
  have hB := Lib.hid (below_alloc (Below.refl w.heap.size w) (.cells #[.int .i64 k, .int .i64 ti, .int .i64 rf, .int .i64 id, .int .i64 li, .int .i64 nn, .slice a bs.length cap] 79))
  clear hv
  generalize bs.length = m at *
  go_enter Try.func105, Try.ntmps105
  go_wp2_with ((go_at_call 111; refine (between_ok _ _ (by assumption) (by assumption)).mono ?_; rintro e w' ⟨rfl, rfl⟩))
  go_ret
  exact ⟨by simp; omega, hB.out⟩

def closesB (k : Int) : Bool := decide (19 ≤ k) && decide (k ≤ 23)

set_option maxHeartbeats 2000000 in
theorem closes_any (w : World) (k : Int) : Calls Try.prog 100 #[.int .i64 k] w fun e w' => e = .returned (.bool (closesB k)) ∧ w = w' := by
  unfold closesB
  cases h1 : decide (19 ≤ k) <;> cases h2 : decide (k ≤ 23)
  all_goals
    go_enter Try.func100, Try.ntmps100
    go_wp2_with (fail)
    go_ret
    exact ⟨by simp_all, rfl⟩

set_option maxHeartbeats 8000000 in
theorem ref_1 (w : World) (h : Nat) (H : Hs) (hh : HsAt w h H) (ti rf id li nn : Int) (a : Option Addr) (n cap : Nat) (hr : rf = 0) :
    Calls Try.prog 106 #[.pointer (some ⟨h, 0, none⟩), .agg #[.int .i64 1, .int .i64 ti, .int .i64 rf, .int .i64 id, .int .i64 li, .int .i64 nn, .slice a n cap]] w fun e w' => e = .returned (.bool true) ∧ Below w.heap.size w w' := by
  obtain ⟨m3, m4, m7, m8, hk⟩ := hh
  clear hk
  subst hr
  go_enter Try.func106, Try.ntmps106
  go_wp2_with (fail)
  go_ret
  exact ⟨rfl, below_alloc (Below.refl _ _) _⟩

set_option maxHeartbeats 8000000 in
theorem ref_2 (w : World) (h : Nat) (H : Hs) (hh : HsAt w h H) (ti rf id li nn : Int) (a : Option Addr) (n cap : Nat) (hr : rf = 0) :
    Calls Try.prog 106 #[.pointer (some ⟨h, 0, none⟩), .agg #[.int .i64 2, .int .i64 ti, .int .i64 rf, .int .i64 id, .int .i64 li, .int .i64 nn, .slice a n cap]] w fun e w' => e = .returned (.bool true) ∧ Below w.heap.size w w' := by
  obtain ⟨m3, m4, m7, m8, hk⟩ := hh
  clear hk
  subst hr
  go_enter Try.func106, Try.ntmps106
  go_wp2_with (fail)
  go_ret
  exact ⟨rfl, below_alloc (Below.refl _ _) _⟩

set_option maxHeartbeats 8000000 in
theorem ref_3 (w : World) (h : Nat) (H : Hs) (hh : HsAt w h H) (ti rf id li nn : Int) (a : Option Addr) (n cap : Nat) (h5 : (H.task != 0) = true) (h6 : H.begun = false) (hr : rf = H.task) :
    Calls Try.prog 106 #[.pointer (some ⟨h, 0, none⟩), .agg #[.int .i64 3, .int .i64 ti, .int .i64 rf, .int .i64 id, .int .i64 li, .int .i64 nn, .slice a n cap]] w fun e w' => e = .returned (.bool true) ∧ Below w.heap.size w w' := by
  obtain ⟨m3, m4, m7, m8, hk⟩ := hh
  have hka := blk_alloc hk (.cells #[.int .i64 3, .int .i64 ti, .int .i64 rf, .int .i64 id, .int .i64 li, .int .i64 nn, .slice a n cap] 79)
  subst hr
  have d5 : (w.alloc (.cells #[.int .i64 3, .int .i64 ti, .int .i64 H.task, .int .i64 id, .int .i64 li, .int .i64 nn, .slice a n cap] 79)).cell? ⟨h, 5, none⟩ = some (.int .i64 H.task) := blk_cell hka 5
  have d6 : (w.alloc (.cells #[.int .i64 3, .int .i64 ti, .int .i64 H.task, .int .i64 id, .int .i64 li, .int .i64 nn, .slice a n cap] 79)).cell? ⟨h, 6, none⟩ = some (.bool H.begun) := blk_cell hka 6
  rw [h6] at d6
  have hB := Lib.hid (below_alloc (Below.refl w.heap.size w) (.cells #[.int .i64 3, .int .i64 ti, .int .i64 H.task, .int .i64 id, .int .i64 li, .int .i64 nn, .slice a n cap] 79))
  clear hk hka
  generalize H.task = tk at *
  go_enter Try.func106, Try.ntmps106
  go_wp2_with (fail)
  go_quiet (fail)
  go_wp2_with (fail)
  go_ret
  exact ⟨rfl, pw_below_drewN hB.out _⟩

set_option maxHeartbeats 8000000 in
theorem ref_4 (w : World) (h : Nat) (H : Hs) (hh : HsAt w h H) (ti rf id li nn : Int) (a : Option Addr) (n cap : Nat) (h5 : (H.task != 0) = true) (h6 : H.begun = true) (hr : rf = H.task) :
    Calls Try.prog 106 #[.pointer (some ⟨h, 0, none⟩), .agg #[.int .i64 4, .int .i64 ti, .int .i64 rf, .int .i64 id, .int .i64 li, .int .i64 nn, .slice a n cap]] w fun e w' => e = .returned (.bool true) ∧ Below w.heap.size w w' := by
  obtain ⟨m3, m4, m7, m8, hk⟩ := hh
  have hka := blk_alloc hk (.cells #[.int .i64 4, .int .i64 ti, .int .i64 rf, .int .i64 id, .int .i64 li, .int .i64 nn, .slice a n cap] 79)
  subst hr
  have d5 : (w.alloc (.cells #[.int .i64 4, .int .i64 ti, .int .i64 H.task, .int .i64 id, .int .i64 li, .int .i64 nn, .slice a n cap] 79)).cell? ⟨h, 5, none⟩ = some (.int .i64 H.task) := blk_cell hka 5
  have d6 : (w.alloc (.cells #[.int .i64 4, .int .i64 ti, .int .i64 H.task, .int .i64 id, .int .i64 li, .int .i64 nn, .slice a n cap] 79)).cell? ⟨h, 6, none⟩ = some (.bool H.begun) := blk_cell hka 6
  rw [h6] at d6
  have hB := Lib.hid (below_alloc (Below.refl w.heap.size w) (.cells #[.int .i64 4, .int .i64 ti, .int .i64 H.task, .int .i64 id, .int .i64 li, .int .i64 nn, .slice a n cap] 79))
  clear hk hka
  generalize H.task = tk at *
  go_enter Try.func106, Try.ntmps106
  go_wp2_with (fail)
  go_quiet (fail)
  go_wp2_with (fail)
  go_ret
  exact ⟨rfl, pw_below_drewN hB.out _⟩

set_option maxHeartbeats 8000000 in
theorem ref_5 (w : World) (h : Nat) (H : Hs) (hh : HsAt w h H) (ti rf id li nn : Int) (a : Option Addr) (n cap : Nat) (h5 : (H.task != 0) = true) (h6 : H.begun = true) (hr : rf = H.task) :
    Calls Try.prog 106 #[.pointer (some ⟨h, 0, none⟩), .agg #[.int .i64 5, .int .i64 ti, .int .i64 rf, .int .i64 id, .int .i64 li, .int .i64 nn, .slice a n cap]] w fun e w' => e = .returned (.bool true) ∧ Below w.heap.size w w' := by
  obtain ⟨m3, m4, m7, m8, hk⟩ := hh
  have hka := blk_alloc hk (.cells #[.int .i64 5, .int .i64 ti, .int .i64 rf, .int .i64 id, .int .i64 li, .int .i64 nn, .slice a n cap] 79)
  subst hr
  have d5 : (w.alloc (.cells #[.int .i64 5, .int .i64 ti, .int .i64 H.task, .int .i64 id, .int .i64 li, .int .i64 nn, .slice a n cap] 79)).cell? ⟨h, 5, none⟩ = some (.int .i64 H.task) := blk_cell hka 5
  have d6 : (w.alloc (.cells #[.int .i64 5, .int .i64 ti, .int .i64 H.task, .int .i64 id, .int .i64 li, .int .i64 nn, .slice a n cap] 79)).cell? ⟨h, 6, none⟩ = some (.bool H.begun) := blk_cell hka 6
  rw [h6] at d6
  have hB := Lib.hid (below_alloc (Below.refl w.heap.size w) (.cells #[.int .i64 5, .int .i64 ti, .int .i64 H.task, .int .i64 id, .int .i64 li, .int .i64 nn, .slice a n cap] 79))
  clear hk hka
  generalize H.task = tk at *
  go_enter Try.func106, Try.ntmps106
  go_wp2_with (fail)
  go_quiet (fail)
  go_wp2_with (fail)
  go_ret
  exact ⟨rfl, pw_below_drewN hB.out _⟩

set_option maxHeartbeats 8000000 in
theorem ref_6 (w : World) (h : Nat) (H : Hs) (hh : HsAt w h H) (ti rf id li nn : Int) (a : Option Addr) (n cap : Nat) (h5 : (H.task != 0) = true) (h6 : H.begun = true) (hr : rf = H.task) :
    Calls Try.prog 106 #[.pointer (some ⟨h, 0, none⟩), .agg #[.int .i64 6, .int .i64 ti, .int .i64 rf, .int .i64 id, .int .i64 li, .int .i64 nn, .slice a n cap]] w fun e w' => e = .returned (.bool true) ∧ Below w.heap.size w w' := by
  obtain ⟨m3, m4, m7, m8, hk⟩ := hh
  have hka := blk_alloc hk (.cells #[.int .i64 6, .int .i64 ti, .int .i64 rf, .int .i64 id, .int .i64 li, .int .i64 nn, .slice a n cap] 79)
  subst hr
  have d5 : (w.alloc (.cells #[.int .i64 6, .int .i64 ti, .int .i64 H.task, .int .i64 id, .int .i64 li, .int .i64 nn, .slice a n cap] 79)).cell? ⟨h, 5, none⟩ = some (.int .i64 H.task) := blk_cell hka 5
  have d6 : (w.alloc (.cells #[.int .i64 6, .int .i64 ti, .int .i64 H.task, .int .i64 id, .int .i64 li, .int .i64 nn, .slice a n cap] 79)).cell? ⟨h, 6, none⟩ = some (.bool H.begun) := blk_cell hka 6
  rw [h6] at d6
  have hB := Lib.hid (below_alloc (Below.refl w.heap.size w) (.cells #[.int .i64 6, .int .i64 ti, .int .i64 H.task, .int .i64 id, .int .i64 li, .int .i64 nn, .slice a n cap] 79))
  clear hk hka
  generalize H.task = tk at *
  go_enter Try.func106, Try.ntmps106
  go_wp2_with (fail)
  go_quiet (fail)
  go_wp2_with (fail)
  go_ret
  exact ⟨rfl, pw_below_drewN hB.out _⟩

set_option maxHeartbeats 8000000 in
theorem ref_20 (w : World) (h : Nat) (H : Hs) (hh : HsAt w h H) (ti rf id li nn : Int) (a : Option Addr) (n cap : Nat) (hr : rf = 0) :
    Calls Try.prog 106 #[.pointer (some ⟨h, 0, none⟩), .agg #[.int .i64 20, .int .i64 ti, .int .i64 rf, .int .i64 id, .int .i64 li, .int .i64 nn, .slice a n cap]] w fun e w' => e = .returned (.bool true) ∧ Below w.heap.size w w' := by
  obtain ⟨m3, m4, m7, m8, hk⟩ := hh
  clear hk
  subst hr
  go_enter Try.func106, Try.ntmps106
  go_wp2_with (fail)
  go_ret
  exact ⟨rfl, below_alloc (Below.refl _ _) _⟩

end Go.Proofs.Ytedpeambmmhcnaa.Base

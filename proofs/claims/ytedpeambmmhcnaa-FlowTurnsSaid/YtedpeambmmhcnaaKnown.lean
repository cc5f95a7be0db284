/- May and the reference's May answer alike: the plain law. Conditions: none. -/
import Derived.Test.YtedpeambmmhcnaaPFlowDecisionsx2
import Derived.Test.YtedpeambmmhcnaaPFlowDecisionsx4
import Derived.Test.YtedpeambmmhcnaaCore
import Derived.Test.YtedpeambmmhcnaaDecide
import Derived.Test.YtedpeambmmhcnaaRun
import Derived.Lib.SmallJoins
namespace Go.Proofs.Ytedpeambmmhcnaa.MayLaw
open Go.Proofs.Ytedpeambmmhcnaa.PFlowDecisions

/-- May a decision be, with so many bytes? -/
def mayB (kd di dl dn : Int) (n : Nat) : Bool :=
  decide (1 ≤ kd ∧ kd ≤ 8) && decide (kd ≤ 4 ∨ di = 0) && decide (kd = 1 ∨ kd = 4 ∨ dl = 0) && decide (kd = 1 ∨ kd = 2 ∨ kd = 4 ∨ dn = 0) && decide (kd = 1 ∨ kd = 4 ∨ kd = 5 ∨ kd = 6 ∨ kd = 8 ∨ n = 0) &&
    decide (0 ≤ di ∧ di ≤ 1048576) && decide (0 ≤ dl ∧ dl ≤ 1048576) && decide ((kd ≠ 1 ∧ kd ≠ 2 ∧ kd ≠ 4) ∨ (1 ≤ dn ∧ dn ≤ 1048576)) && decide (n ≤ 4096)

theorem kinds (kd : Int) : kd = 1 ∨ kd = 2 ∨ kd = 3 ∨ kd = 4 ∨ kd = 5 ∨ kd = 6 ∨ kd = 7 ∨ kd = 8 ∨ kd < 1 ∨ 8 < kd := by omega

theorem j1_any (k : Nat) (x : Bool) (kd di dl dn : Int) (l : List Int) (a b c d : Bool) : flow_May.j1 (k + 1) x kd di dl dn l a b c d = some (!x && decide (0 ≤ di ∧ di ≤ 1048576) && decide (0 ≤ dl ∧ dl ≤ 1048576) && (!c || decide (1 ≤ dn ∧ dn ≤ 1048576)) && decide (l.length ≤ 4096)) := by
  have hl : decide ((l.length : Int) ≤ 4096) = decide (l.length ≤ 4096) := by
    by_cases h : l.length ≤ 4096 <;> simp [h] <;> omega
  simp only [flow_May.j1, flow_flowNumber.f, flow_ticks.f, hl]
  cases x <;> cases c <;> by_cases h1 : 0 ≤ di <;> by_cases h2 : di ≤ 1048576 <;> by_cases h3 : 0 ≤ dl <;> by_cases h4 : dl ≤ 1048576 <;> by_cases h5 : 1 ≤ dn <;> by_cases h6 : dn ≤ 1048576 <;> simp [h1, h2, h3, h4, h5, h6]

theorem j0_any (k : Nat) (x : Bool) (kd di dl dn : Int) (l : List Int) (a b c d : Bool) : flow_May.j0 (k + 2) x kd di dl dn l a b c d = some (!x && (a || decide (di = 0)) && (b || decide (dl = 0)) && (c || decide (dn = 0)) && (d || decide (l.length = 0)) &&
    decide (0 ≤ di ∧ di ≤ 1048576) && decide (0 ≤ dl ∧ dl ≤ 1048576) && (!c || decide (1 ≤ dn ∧ dn ≤ 1048576)) && decide (l.length ≤ 4096)) := by
  have hl : decide ((l.length : Int) > 0) = !decide (l.length = 0) := by
    by_cases h : l.length = 0 <;> simp [h]
    omega
  simp only [flow_May.j0, j1_any, hl]
  generalize decide (l.length = 0) = z
  generalize decide (l.length ≤ 4096) = y
  generalize decide (0 ≤ di ∧ di ≤ 1048576) = u
  generalize decide (0 ≤ dl ∧ dl ≤ 1048576) = v
  generalize decide (1 ≤ dn ∧ dn ≤ 1048576) = t
  by_cases h1 : di = 0 <;> by_cases h2 : dl = 0 <;> by_cases h3 : dn = 0 <;> cases x <;> cases a <;> cases b <;> cases c <;> cases d <;> simp [h1, h2, h3]

theorem may_f (kd di dl dn : Int) (l : List Int) : flow_May.f 2 kd di dl dn l = some (mayB kd di dl dn l.length) := by
  simp only [flow_May.f, mayB]
  rcases kinds kd with rfl | rfl | rfl | rfl | rfl | rfl | rfl | rfl | h | h
  all_goals first
    | (simp [flow_hasOf.f, flow_hasOf.j0, j0_any 0]; done)
    | (have h1 : kd ≠ 1 := by omega
       have h2 : kd ≠ 2 := by omega
       have h3 : kd ≠ 3 := by omega
       have h4 : kd ≠ 4 := by omega
       have h5 : kd ≠ 5 := by omega
       have h6 : kd ≠ 6 := by omega
       have h8 : kd ≠ 8 := by omega
       have h9 : ¬ (1 ≤ kd ∧ kd ≤ 8) := by omega
       by_cases h7 : kd < 1
       · simp [flow_hasOf.f, flow_hasOf.j0, j0_any 0, h1, h2, h3, h4, h5, h6, h7, h8, h9]
       · have h10 : 8 < kd := by omega
         simp [flow_hasOf.f, flow_hasOf.j0, j0_any 0, h1, h2, h3, h4, h5, h6, h7, h8, h9, h10])

theorem r4_any (k : Nat) (c x : Bool) (kd di dl dn : Int) (l : List Int) : teaselref13_May.j4 (k + 1) c x kd di dl dn l = some (!x && decide (0 ≤ di ∧ di ≤ 1048576) && decide (0 ≤ dl ∧ dl ≤ 1048576) && (!c || decide (1 ≤ dn ∧ dn ≤ 1048576)) && decide (l.length ≤ 4096)) := by
  have hl : decide ((l.length : Int) ≤ 4096) = decide (l.length ≤ 4096) := by
    by_cases h : l.length ≤ 4096 <;> simp [h] <;> omega
  simp only [teaselref13_May.j4, teaselref13_flowNumber.f, teaselref13_ticks.f, hl]
  cases x <;> cases c <;> by_cases h1 : 0 ≤ di <;> by_cases h2 : di ≤ 1048576 <;> by_cases h3 : 0 ≤ dl <;> by_cases h4 : dl ≤ 1048576 <;> by_cases h5 : 1 ≤ dn <;> by_cases h6 : dn ≤ 1048576 <;> simp [h1, h2, h3, h4, h5, h6]

theorem r3_any (k : Nat) (a b c d : Bool) (kd di dl dn : Int) (l : List Int) : teaselref13_May.j3 (k + 2) a b c d kd di dl dn l = some (decide (1 ≤ kd ∧ kd ≤ 8) && (a || decide (di = 0)) && (b || decide (dl = 0)) && (c || decide (dn = 0)) && (d || decide (l.length = 0)) &&
    decide (0 ≤ di ∧ di ≤ 1048576) && decide (0 ≤ dl ∧ dl ≤ 1048576) && (!c || decide (1 ≤ dn ∧ dn ≤ 1048576)) && decide (l.length ≤ 4096)) := by
  have hl : decide ((l.length : Int) > 0) = !decide (l.length = 0) := by
    by_cases h : l.length = 0 <;> simp [h]
    omega
  simp only [teaselref13_May.j3, r4_any, hl]
  generalize decide (l.length = 0) = z
  generalize decide (l.length ≤ 4096) = y
  generalize decide (0 ≤ di ∧ di ≤ 1048576) = u
  generalize decide (0 ≤ dl ∧ dl ≤ 1048576) = v
  generalize decide (1 ≤ dn ∧ dn ≤ 1048576) = t
  by_cases h7 : kd < 1
  · have h9 : ¬ (1 ≤ kd ∧ kd ≤ 8) := by omega
    simp [h7, h9]
  · by_cases h8 : kd > 8
    · have h9 : ¬ (1 ≤ kd ∧ kd ≤ 8) := by omega
      simp [h7, h8, h9]
    · have h9 : 1 ≤ kd ∧ kd ≤ 8 := by omega
      simp only [h7, h8, h9, if_false]
      by_cases h1 : di = 0 <;> by_cases h2 : dl = 0 <;> by_cases h3 : dn = 0 <;> cases a <;> cases b <;> cases c <;> cases d <;> simp [h1, h2, h3]

theorem may_ref (kd di dl dn : Int) (l : List Int) : teaselref13_May.f 5 kd di dl dn l = some (mayB kd di dl dn l.length) := by
  simp only [teaselref13_May.f, mayB, teaselref13_May.j0, teaselref13_May.j1, teaselref13_May.j2, r3_any 0]
  rcases kinds kd with rfl | rfl | rfl | rfl | rfl | rfl | rfl | rfl | h | h
  all_goals first
    | (simp; done)
    | (have h1 : kd ≠ 1 := by omega
       have h4 : kd ≠ 4 := by omega
       have h5 : kd ≠ 5 := by omega
       have h6 : kd ≠ 6 := by omega
       have h9 : decide (1 ≤ kd ∧ kd ≤ 8) = false := by simp; omega
       simp only [h9, Bool.false_and]
       by_cases h7 : 1 ≤ kd <;> simp [h1, h4, h5, h6, h7])

end Go.Proofs.Ytedpeambmmhcnaa.MayLaw

/- May, over my own words. Conditions: those at each theorem. -/
set_option maxRecDepth 100000
namespace Go.Proofs.Ytedpeambmmhcnaa.Base
open Go.RowKit Go.Maps Go.Proofs.YtedpeambmmhcnaaW.PrintWords Go.Proofs.Ytedpeambmmhcnaa.Kit

theorem kdC_of_byt {w : World} {a : Option Addr} {cap : Nat} {bs : List Int} (h : Byt w (.slice a bs.length cap) bs) : Kd.C (Kd.int .u8) w a bs.length bs := by
  refine ⟨rfl, by have := h.1; omega, fun h0 => ?_⟩
  rcases h.2 with ⟨_, rfl⟩ | ⟨ad, c, hv, _, hp⟩
  · simp at h0
  · simp only [Value.slice.injEq] at hv
    obtain ⟨rfl, _, _⟩ := hv
    obtain ⟨b, off, rfl, _, hc⟩ := hp (fun e => by subst e; simp at h0)
    refine ⟨_, rfl, fun j p hp => ⟨[.int .u8 p], rfl, rfl, fun i u hu => ?_⟩⟩
    obtain ⟨hj, hp⟩ := List.getElem?_eq_some_iff.1 hp
    rcases i with _ | i
    · simp at hu
      subst hu
      rw [Addr.add_lit]
      have := hc j hj
      rw [hp] at this
      simpa [Kd.int, Kd.scalar] using this
    · simp at hu

end Go.Proofs.Ytedpeambmmhcnaa.Base

/- One decision alone, of a run with nothing open: may it not be? Conditions: those at each theorem. -/
namespace Go.Proofs.Ytedpeambmmhcnaa.Base
open Go.RowKit Go.Maps Go.Proofs.YtedpeambmmhcnaaW.PrintWords Go.Proofs.Ytedpeambmmhcnaa.Kit Go.Proofs.Ytedpeambmmhcnaa.MayLaw

theorem may_any (w : World) (kd di dl dn : Int) (v : Value) (bs : List Int) (hv : Byt w v bs) :
    Calls Try.prog 9 #[.agg #[.int .i64 kd, .int .i64 di, .int .i64 dl, .int .i64 dn, v]] w fun e w' => e = .returned (.bool (mayB kd di dl dn bs.length)) ∧ Below w.heap.size w w' := by
  obtain ⟨a, cap, rfl, hc⟩ := hv.lenc
  exact PFlowDecisions.flow_May.calls 2 kd di dl dn a cap bs _ w (kdC_of_byt hv) hc (may_f kd di dl dn bs)

set_option maxHeartbeats 4000000 in
theorem take_other (w : World) (m : Option Nat) (kd di dl dn : Int) (a : Option Addr) (n cap : Nat) (n1 : (kd == 1) = false) (n2 : (kd == 2) = false) (n3 : (kd == 3) = false) (n4 : (kd == 4) = false) :
    Calls Try.prog 81 #[.map m, .agg #[.int .i64 kd, .int .i64 di, .int .i64 dl, .int .i64 dn, .slice a n cap]] w fun e w' => e = .returned (.bool true) ∧ Below w.heap.size w w' := by
  go_enter Try.func81, Try.ntmps81
  go_wp2_with (fail)
  go_ret
  exact ⟨rfl, below_alloc (Below.refl _ _) _⟩

theorem bel_of {w w' : World} {n : Nat} (h : Hid (w.heap.size = n)) (hb : Below n w w') : Below w.heap.size w w' := by rw [h.out]; exact hb

theorem to_bel {w w' : World} {n : Nat} (h : Hid (w.heap.size = n)) (hb : Below w.heap.size w w') : Below n w w' := by rw [← h.out]; exact hb

theorem may_after {W : World} (q : After W) {kd di dl dn : Int} {v : Value} {bs : List Int} (hv : Byt W v bs) {m : Bool} (hm : mayB kd di dl dn bs.length = m) :
    Calls Try.prog 9 #[.agg #[.int .i64 kd, .int .i64 di, .int .i64 dl, .int .i64 dn, v]] q.now fun e w'' => e = .returned (.bool m) ∧ ∃ q' : After W, w'' = q'.now := by
  subst hm
  exact after_calls q (may_any q.now kd di dl dn v bs (hv.below q.bel))

theorem take_after {W : World} (q : After W) {m : Option Nat} {kd di dl dn : Int} {a : Option Addr} {n cap : Nat} (n1 : (kd == 1) = false) (n2 : (kd == 2) = false) (n3 : (kd == 3) = false) (n4 : (kd == 4) = false) :
    Calls Try.prog 81 #[.map m, .agg #[.int .i64 kd, .int .i64 di, .int .i64 dl, .int .i64 dn, .slice a n cap]] q.now fun e w'' => e = .returned (.bool true) ∧ ∃ q' : After W, w'' = q'.now :=
  after_calls q (take_other q.now m kd di dl dn a n cap n1 n2 n3 n4)

/-- May a decision alone not be, of a run with nothing open? -/
def bad1 (S : St) (kd di dl dn : Int) (n : Nat) : Bool := !mayB kd di dl dn n || (kd == 7 && !S.asked)

set_option maxHeartbeats 16000000 in
theorem bad_one (w : World) (F M : Nat) (lv : Value) (S : St) (h : FlowAt w F M lv S) (ho : S.o = fun _ => none) (kd di dl dn : Int) (v : Value) (bs : List Int) (hv : Byt w v bs) (A off cap : Nat)
    (a0 : w.cell? ⟨A, off, none⟩ = some (.int .i64 kd)) (a1 : w.cell? ⟨A, off + 1, none⟩ = some (.int .i64 di)) (a2 : w.cell? ⟨A, off + 2, none⟩ = some (.int .i64 dl)) (a3 : w.cell? ⟨A, off + 3, none⟩ = some (.int .i64 dn)) (a4 : w.cell? ⟨A, off + 4, none⟩ = some v)
    (n1 : (kd == 1) = false) (n2 : (kd == 2) = false) (n3 : (kd == 3) = false) (n4 : (kd == 4) = false) :
    Calls Try.prog 46 #[.pointer (some ⟨F, 0, none⟩), .slice (some ⟨A, off, none⟩) 1 cap] w fun e w' => e = .returned (.bool (bad1 S kd di dl dn bs.length)) ∧ Below w.heap.size w w' := by
  have hmm := @run_makeMap Try.prog
  obtain ⟨a, cap', rfl⟩ := hv.len
  have hAw := Lib.hid (show A < w.heap.size from by
    unfold World.cell? at a0
    cases hh : w.heap[A]? with
    | none => simp [hh] at a0
    | some o => exact (Array.getElem?_eq_some_iff.1 hh).1)
  have hB0 := below_alloc (Below.refl w.heap.size w) (.map #[] 0)
  have hv0 := Lib.hid hv
  have c11 : (w.alloc (.map #[] 0)).cell? ⟨F, 11, none⟩ = some (.map (some M)) := (FlowAt.below h hB0).cell 11
  have ho := Lib.hid ho
  obtain ⟨D, hown, hview⟩ := (FlowAt.below h hB0).map
  have h := Lib.hid h
  have hview := Lib.hid hview
  go_enter Try.func46, Try.ntmps46
  go_wp2_with (first | (at_range; refine wpList_range_own _ rfl _ 73 rfl 3 101 K3 u73 openElem M _ D rfl hown ?_; intro w0 hrg0 hg0 hs0))
  go_frame
  have hB1 := Lib.hid (grown_below hB0 hg0 (by simp))
  have H := Lib.hid (FlowAt.below h (show Below _ _ _ from hB1))
  have hv := Lib.hid (hv0.below (show Below _ _ _ from hB1))
  generalize (w.alloc (.map #[] 0)).heap.size = r at *
  clear hg0 hs0
  go_loopg [20] 0 (fun m u wr => wr = w0)
  case atStart => rfl
  case round =>
    subst hrel
    go_wp2_with (first | (at_next; refine wpList_next_ranges _ rfl _ rfl 3 K3 openElem (Value.int .i64) openVal (fun key kl hkey => by obtain ⟨x, rfl, _⟩ := Maps.keyOf_int_inv u3 hkey; exact ⟨x, rfl⟩) (fun v y hv => by obtain ⟨c, rfl, _⟩ := openElem_inv hv; exact ⟨c, rfl⟩) M r _ _ _ _ rfl hrg0 ?_ ?_))
    · intro _ _
      have hbw := (show Below w.heap.size w _ from hB1)
      have b0 := (hbw.cell (p := ⟨A, off, none⟩) hAw.out).trans a0
      have b1 := (hbw.cell (p := ⟨A, off + 1, none⟩) hAw.out).trans a1
      have b2 := (hbw.cell (p := ⟨A, off + 2, none⟩) hAw.out).trans a2
      have b3 := (hbw.cell (p := ⟨A, off + 3, none⟩) hAw.out).trans a3
      have b4 := (hbw.cell (p := ⟨A, off + 4, none⟩) hAw.out).trans a4
      clear hbw a0 a1 a2 a3 a4 c11 hown hrg0
      have HW : Hid (FlowAt wr F M lv S) := H
      have hvw := hv
      generalize hMi : w.heap.size = Mi at *
      have hMi := Lib.hid hMi
      go_wp2_with (fail)
      go_loopg [31] 1 (fun m i wx => ∃ k : Nat, i = .int .i64 k ∧ m = 1 - k ∧ ((k = 0 ∧ wx = wr) ∨ (k = 1 ∧ bad1 S kd di dl dn bs.length = false ∧ Hid (Below wr.heap.size wr wx))))
      case atStart => exact ⟨0, rfl, rfl, .inl ⟨rfl, rfl⟩⟩
      case round =>
        obtain ⟨k, rfl, rfl, ⟨rfl, rfl⟩ | ⟨rfl, hb1, HB⟩⟩ := hrel
        · go_wp2_with (fail)
          have kb := blk_new wr (.cells #[.int .i64 kd, .int .i64 di, .int .i64 dl, .int .i64 dn, .slice a bs.length cap'] 24)
          have hBx := below_alloc (Below.refl wr.heap.size wr) (.cells #[.int .i64 kd, .int .i64 di, .int .i64 dl, .int .i64 dn, .slice a bs.length cap'] 24)
          have kF := blk_below (FlowAt.blk HW) hBx
          have hvx := Lib.hid (Byt.below hvw hBx)
          have hBx := Lib.hid hBx
          generalize hW : wr.alloc (.cells #[.int .i64 kd, .int .i64 di, .int .i64 dl, .int .i64 dn, .slice a bs.length cap'] 24) = W1 at *
          have hW := Lib.hid hW
          generalize hX : wr.heap.size = X at *
          have hX := Lib.hid hX
          have x0 : ∀ q : After W1, q.now.cell? ⟨X, 0, none⟩ = some (.int .i64 kd) := fun q => after_cell kb q 0
          have x1 : ∀ q : After W1, q.now.cell? ⟨X, 1, none⟩ = some (.int .i64 di) := fun q => after_cell kb q 1
          have x2 : ∀ q : After W1, q.now.cell? ⟨X, 2, none⟩ = some (.int .i64 dl) := fun q => after_cell kb q 2
          have x3 : ∀ q : After W1, q.now.cell? ⟨X, 3, none⟩ = some (.int .i64 dn) := fun q => after_cell kb q 3
          have x4 : ∀ q : After W1, q.now.cell? ⟨X, 4, none⟩ = some (.slice a bs.length cap') := fun q => after_cell kb q 4
          have f0 : ∀ q : After W1, q.now.cell? ⟨F, 0, none⟩ = some (.int .i64 S.id) := fun q => after_cell kF q 0
          have f10 : ∀ q : After W1, q.now.cell? ⟨F, 10, none⟩ = some (.bool S.asked) := fun q => after_cell kF q 10
          have hbd := Lib.hid (show bad1 S kd di dl dn bs.length = _ from rfl)
          cases hm : mayB kd di dl dn bs.length
          · have hm := Lib.hid hm
            refine wp_region_after (by kernel_rfl) (by kernel_rfl) ?_
            repeat (go_big_quiet_step (first | (go_at_call 9; with_reducible refine may_after _ hvx.out hm.out)))
            refine wpQuiet_nil ?_
            rintro _ ⟨q, rfl⟩
            go_wp2_with (fail)
            go_ret
            refine ⟨?_, to_bel hMi (below_step (bel_of hMi hB1) (below_step (bel_of hX hBx) q.bel))⟩
            simp [bad1, hm.out]
          · have k5 : decide (5 ≤ kd) = true := by
              have := hm
              simp [mayB] at this
              simp at n1 n2 n3 n4
              simp
              omega
            have k0 : ((4 : Int) == kd) = false := by
              simp at n4
              simp; omega
            have hm := Lib.hid hm
            cases h7 : (kd == 7) <;> cases has : S.asked
            all_goals
              rw [has] at f10
              have has := Lib.hid has
              refine wp_region_after (by kernel_rfl) (by kernel_rfl) ?_
              repeat (go_big_quiet_step (first | (go_at_call 9; with_reducible refine may_after _ hvx.out hm.out) | (go_at_call 81; with_reducible refine take_after _ n1 n2 n3 n4)))
              refine wpQuiet_nil ?_
              rintro _ ⟨q, rfl⟩
              go_wp2_with (fail)
              have hb9 : Below wr.heap.size wr q.now := below_step (bel_of hX hBx) q.bel
              first
                | (go_ret; refine ⟨?_, to_bel hMi (below_step (bel_of hMi hB1) hb9)⟩; simp [bad1, hm.out, h7, has.out]; done)
                | (go_roundg 0
                   case measure => omega
                   case rel => exact ⟨1, by go_num, rfl, .inr ⟨rfl, by simp [bad1, hm.out, h7, has.out], Lib.hid (by have := hb9; rw [hX.out] at this; exact this)⟩⟩)
        · go_wp2_with (fail)
          go_ret
          exact ⟨by simp [hb1], below_step (bel_of hMi hB1) HB.out⟩
    · intro x ca cb cc kl y1 y2 w' cnt' hkey hleft
      exfalso
      obtain ⟨x', he, hk, hw⟩ := Maps.keyOf_int_inv u3 hkey
      cases he
      have := hview.out.none x hw (by rw [ho.out])
      rw [hk] at hleft
      simp [key] at this
      rw [this] at hleft
      cases hleft

end Go.Proofs.Ytedpeambmmhcnaa.Base

/- One decision, of a run with nothing open: taken, refused, too late. Conditions: those at each theorem. -/
namespace Go.Proofs.Ytedpeambmmhcnaa.Base
open Go.RowKit Go.Maps Go.Proofs.YtedpeambmmhcnaaW.PrintWords Go.Proofs.Ytedpeambmmhcnaa.Kit Go.Proofs.Ytedpeambmmhcnaa.MayLaw

def doneK (kd : Int) : Int := if kd = 5 then 20 else if kd = 6 then 21 else if kd = 7 then 22 else 19

def dnClose (now : Int) (S : St) (d : Dec) : St × List OutE := (closed S (doneK d.kind) now d.data, [closeOut (doneK d.kind) d.data])

theorem done_close (now : Int) (S : St) (hL : S.L.length ≤ 8000) (d : Dec) (hk : d.kind = 5 ∨ d.kind = 6 ∨ d.kind = 7 ∨ d.kind = 8) : DoneIs now S d (dnClose now S d) := by
  intro w F M lv v H hv
  obtain ⟨kd, di, dl, dn, bs⟩ := d
  simp only at hk hv
  rcases hk with rfl | rfl | rfl | rfl
  · exact done_5 w F M lv S H hL di dl dn now bs v hv
  · exact done_6 w F M lv S H hL di dl dn now bs v hv
  · exact done_7 w F M lv S H hL di dl dn now bs v hv
  · exact done_8 w F M lv S H hL di dl dn now bs v hv

theorem bad_is_one (N : Nat) (S : St) (ho : S.o = fun _ => none) (d : Dec) (hk : d.kind < 1 ∨ 5 ≤ d.kind) : BadIs N S [d] (bad1 S d.kind d.id d.list d.n d.data.length) := by
  intro w F M lv v H hd hN
  obtain ⟨A, off, cap, u, rfl, hu, d0, d1, d2, d3, d4⟩ := hd.get (i := 0) (d := d) rfl
  simp only [Nat.zero_mul, Nat.add_zero] at d0 d1 d2 d3 d4
  exact bad_one w F M lv S H ho d.kind d.id d.list d.n u d.data hu A off cap d0 d1 d2 d3 d4 (by simp; omega) (by simp; omega) (by simp; omega) (by simp; omega)

theorem decide_one_ok (w : World) (F M : Nat) (lv : Value) (S : St) (h : FlowAt w F M lv S) (hL : S.L.length ≤ 4000) (ho : S.o = fun _ => none) (ref turn now : Int) (hr : rightOf S.L 0 now = true) (hs : statusOf S.L = 1) (ht : S.task = 2) (hf : S.time = ref) (hn : S.turn = turn)
    (d : Dec) (v : Value) (hd : Decs w.heap.size w v [d]) (hk : d.kind = 5 ∨ d.kind = 6 ∨ d.kind = 7 ∨ d.kind = 8) (hm : bad1 S d.kind d.id d.list d.n d.data.length = false) (hl : S.late = false) :
    Calls Try.prog 15 #[.pointer (some ⟨F, 0, none⟩), .int .i64 ref, .int .i64 turn, v, .int .i64 now] w (Did w F M [closeOut (doneK d.kind) d.data] 0 (closed (decided1 S now) (doneK d.kind) now d.data)) := by
  obtain ⟨a, cap, rfl⟩ := hd.len
  refine decide_any w F M lv S h ref turn now a _ cap hr hs _ _ _ ?_ (Or.inl rfl) (by simp [closed, decided1]; omega)
  intro w0 B1 B2 B3 B4 hb hc
  have hbad := bad_is_one w0.heap.size S ho d (by omega)
  rw [hm] at hbad
  have hgo : goneSt (dnClose now) S [d] now = (closed (decided1 S now) (doneK d.kind) now d.data, [closeOut (doneK d.kind) d.data]) := by simp [goneSt, hl, runDs, dnClose]
  have hD : Decs w0.heap.size w0 (.slice a [d].length cap) [d] := by
    rcases hd.below hb (Nat.le_refl _) with h | ⟨A, off, c, hv, hA, hc⟩
    · exact .inl h
    · exact .inr ⟨A, off, c, hv, fun h => Nat.lt_of_lt_of_le (hA h) hb.size, hc⟩
  have := decide_go_do (dnClose now) w0 lv S (by omega) ref turn now ht hf hn _ [d] hD (by simp) B1 B2 B3 B4 hc hbad (by simp [lateBad, hl]) ?_ (fun _ _ => by simp [dnClose]) (by simp [runDs, dnClose, closed, decided1]; omega)
  · rw [hgo] at this
    exact this
  · intro k d' hd'
    rcases k with _ | k
    · simp at hd'
      subst hd'
      exact done_close now _ (by simp [runDs, decided1]; omega) d hk
    · simp at hd'

theorem decide_one_bad (w : World) (F M : Nat) (lv : Value) (S : St) (h : FlowAt w F M lv S) (hL : S.L.length ≤ 4000) (ho : S.o = fun _ => none) (ref turn now : Int) (hr : rightOf S.L 0 now = true) (hs : statusOf S.L = 1) (ht : S.task = 2) (hf : S.time = ref) (hn : S.turn = turn)
    (d : Dec) (v : Value) (hd : Decs w.heap.size w v [d]) (hk : d.kind < 1 ∨ 5 ≤ d.kind) (hm : bad1 S d.kind d.id d.list d.n d.data.length = true) :
    Calls Try.prog 15 #[.pointer (some ⟨F, 0, none⟩), .int .i64 ref, .int .i64 turn, v, .int .i64 now] w (Did w F M [taskOut (fault1 S 1 now)] 22 (sched (fault1 S 1 now) now)) := by
  obtain ⟨a, cap, rfl⟩ := hd.len
  refine decide_any w F M lv S h ref turn now a _ cap hr hs _ _ _ ?_ (Or.inr (by simp [sched, fault1])) (by simp [sched, fault1]; omega)
  intro w0 B1 B2 B3 B4 hb hc
  have hbad := bad_is_one w0.heap.size S ho d hk
  rw [hm] at hbad
  have hD : Decs w0.heap.size w0 (.slice a [d].length cap) [d] := by
    rcases hd.below hb (Nat.le_refl _) with h | ⟨A, off, c, hv, hA, hc⟩
    · exact .inl h
    · exact .inr ⟨A, off, c, hv, fun h => Nat.lt_of_lt_of_le (hA h) hb.size, hc⟩
  exact decide_bad_do w0 lv S (by omega) ref turn now ht hf hn _ [d] hD B1 B2 B3 B4 hc hbad

theorem decide_one_late (w : World) (F M : Nat) (lv : Value) (S : St) (h : FlowAt w F M lv S) (hL : S.L.length ≤ 4000) (ho : S.o = fun _ => none) (ref turn now : Int) (hr : rightOf S.L 0 now = true) (hs : statusOf S.L = 1) (ht : S.task = 2) (hf : S.time = ref) (hn : S.turn = turn)
    (d : Dec) (v : Value) (hd : Decs w.heap.size w v [d]) (hk : 5 ≤ d.kind) (hm : bad1 S d.kind d.id d.list d.n d.data.length = false) (hl : S.late = true) :
    Calls Try.prog 15 #[.pointer (some ⟨F, 0, none⟩), .int .i64 ref, .int .i64 turn, v, .int .i64 now] w (Did w F M [taskOut (fault1 S 2 now)] 23 (sched (fault1 S 2 now) now)) := by
  obtain ⟨a, cap, rfl⟩ := hd.len
  refine decide_any w F M lv S h ref turn now a _ cap hr hs _ _ _ ?_ (Or.inr (by simp [sched, fault1])) (by simp [sched, fault1]; omega)
  intro w0 B1 B2 B3 B4 hb hc
  have hbad := bad_is_one w0.heap.size S ho d (.inr hk)
  rw [hm] at hbad
  have hD : Decs w0.heap.size w0 (.slice a [d].length cap) [d] := by
    rcases hd.below hb (Nat.le_refl _) with h | ⟨A, off, c, hv, hA, hc⟩
    · exact .inl h
    · exact .inr ⟨A, off, c, hv, fun h => Nat.lt_of_lt_of_le (hA h) hb.size, hc⟩
  exact decide_late_do w0 lv S (by omega) ref turn now ht hf hn _ [d] hD (by simp) B1 B2 B3 B4 hc hbad (by simpa [lateBad, hl] using hk)

end Go.Proofs.Ytedpeambmmhcnaa.Base

/- A workflow that completes: known returns true. Conditions: none. -/
namespace Go.Proofs.Ytedpeambmmhcnaa.Base
open Go.RowKit Go.Maps Go.Proofs.YtedpeambmmhcnaaW.PrintWords Go.Proofs.Ytedpeambmmhcnaa.Kit Go.Proofs.Ytedpeambmmhcnaa.MayLaw

theorem byt_made {w : World} {g : Nat} {bs : List Int} {fr : Nat × Nat} (hl : bs.length ≤ 140737488351232) (hg : w.heap[g]? = some (.cells (bs.map (.int .u8)).toArray 5 fr)) : Byt w (.slice (some ⟨g, 0, none⟩) bs.length bs.length) bs := by
  refine ⟨hl, .inr ⟨⟨g, 0, none⟩, _, rfl, Nat.le_refl _, fun _ => ⟨g, 0, rfl, (Array.getElem?_eq_some_iff.1 hg).1, fun i hi => ?_⟩⟩⟩
  simp [World.cell?, hg, hi]

theorem decs_made {w : World} {g : Nat} {d : Dec} {u : Value} (hg : w.heap[g]? = some (.cells (decCells d u).toArray 24 (0, 0))) (hu : Byt w u d.data) : Decs w.heap.size w (.slice (some ⟨g, 0, none⟩) 1 1) [d] := by
  refine .inr ⟨g, 0, 1, rfl, fun _ => blk_lt hg, fun i d' hd => ?_⟩
  rcases i with _ | i
  · simp at hd
    subst hd
    refine ⟨u, hu, fun j x hj => ?_⟩
    simp only [Nat.zero_mul, Nat.zero_add]
    rw [blk_cell hg]
    simpa using hj
  · simp at hd

theorem sz_alloc (w : World) (o : Obj) : (w.alloc o).heap.size = w.heap.size + 1 := by simp

theorem str_empty (w : World) (ad : Addr) (cap : Nat) : (convert 22 9 (.slice (some ad) 0 cap)).run Try.prog w = .ok (.string (strOfNums [])) w := by
  rw [run_convert_bytes_string w 22 9 5 (some ad) 0 cap u22 u5 (by kernel_rfl), run_bytesToString w ad 0 cap [] (by simp [loadCells, loadCellsFrom])]
  rfl

theorem Byt.str {w : World} {v : Value} {bs : List Int} (h : Byt w v bs) : (convert 22 9 v).run Try.prog w = .ok (.string (strOfNums bs)) w := by
  rcases h.2 with ⟨rfl, rfl⟩ | ⟨ad, cap, rfl, _, hp⟩
  · exact run_convert_bytes_nil w 22 5 u22 u5 0 0 9 (by kernel_rfl)
  · by_cases hne : bs = []
    · subst hne
      exact str_empty w ad cap
    · obtain ⟨b, off, rfl, _, hc⟩ := hp hne
      exact run_convert_bytes_arg w 22 5 u22 u5 b off bs.length cap bs rfl (fun i hi => by rw [hc i hi]; simp [List.getD, hi]) 9 (by kernel_rfl)

def s2 : St := newSt 1 1 2 10 [105, 110] 0
def s3 : St := decided0 s2 2 1
def s4 : St := closed (decided1 s3 3) 20 3 [111, 117, 116]

set_option maxHeartbeats 8000000 in
theorem known_ok (w : World) : Calls Try.prog 8 #[] w fun e w' => e = .returned (.bool true) ∧ Below w.heap.size w w' := by
  have hcv := Lib.run_convert_bytes_const (P := Try.prog) w 22 5 #[.int .u8 105, .int .u8 110] 2 2 u22 u5
  have hB0 := Lib.hid (below_alloc (Below.refl w.heap.size w) (.cells #[.int .u8 105, .int .u8 110] 5 (2, 3)))
  have hv0 := Lib.hid (byt_made (w := w.alloc (.cells #[.int .u8 105, .int .u8 110] 5 (2, 3))) (g := w.heap.size) (bs := [105, 110]) (by decide) (heap_alloc_new w _))
  go_enter Try.func8, Try.ntmps8
  go_wp2_with (fail)
  refine (new_ok _ 1 1 2 10 _ [105, 110] hv0.out 0 rfl rfl rfl rfl rfl).mono ?_
  rintro e w1 ⟨F, M, lv, v1, rfl, hF, hM, ho, H, hb⟩
  obtain ⟨A, cap, u, rfl, _, hc⟩ := ho.head
  have x0 : w1.cell? ⟨A, 0, none⟩ = some (.int .i64 1) := hc 0 _ rfl
  have x2 : w1.cell? ⟨A, 2, none⟩ = some (.int .i64 2) := hc 2 _ rfl
  have H := Lib.hid (show FlowAt w1 F M lv s2 from H)
  have hF := Lib.hid hF
  have hM := Lib.hid hM
  have hb := Lib.hid (below_step hB0.out hb)
  clear ho hc hB0 hv0 hcv
  go_wp2_with (fail)
  refine (decides_ok w1 F M lv s2 H (by decide) 2 0 1 rfl rfl rfl rfl).mono ?_
  rintro e w2 ⟨M2, lv2, v2, rfl, _, H2, hm2, hM2⟩
  have H2 := Lib.hid (show FlowAt w2 F M2 lv2 s3 from H2)
  have hcv := Lib.run_convert_bytes_const (P := Try.prog) w2 22 5 #[.int .u8 111, .int .u8 117, .int .u8 116] 3 3 u22 u5
  have hB3 := below_alloc (below_alloc (Below.refl w2.heap.size w2) (.cells #[.int .u8 111, .int .u8 117, .int .u8 116] 5 (3, 4))) (.cells #[.int .i64 5, .int .i64 0, .int .i64 0, .int .i64 0, .slice (some ⟨w2.heap.size, 0, none⟩) 3 3] 24)
  have hv3 := byt_made (w := w2.alloc (.cells #[.int .u8 111, .int .u8 117, .int .u8 116] 5 (3, 4))) (g := w2.heap.size) (bs := [111, 117, 116]) (by decide) (heap_alloc_new w2 _)
  have hk3 := heap_alloc_new (w2.alloc (.cells #[.int .u8 111, .int .u8 117, .int .u8 116] 5 (3, 4))) (.cells #[.int .i64 5, .int .i64 0, .int .i64 0, .int .i64 0, .slice (some ⟨w2.heap.size, 0, none⟩) 3 3] 24)
  rw [sz_alloc] at hk3
  have hd3 := decs_made (d := ⟨5, 0, 0, 0, [111, 117, 116]⟩) (u := .slice (some ⟨w2.heap.size, 0, none⟩) 3 3) hk3 (hv3.below (below_alloc (Below.refl _ _) _))
  have hd3 := Lib.hid hd3
  have H3 := Lib.hid (FlowAt.below H2 hB3)
  have hB3 := Lib.hid hB3
  have hm2 := Lib.hid hm2
  clear hv3 hk3
  go_wp2_with (fail)
  refine (decide_one_ok _ F M2 lv2 s3 H3 (by decide) rfl 2 0 3 rfl rfl rfl rfl rfl ⟨5, 0, 0, 0, [111, 117, 116]⟩ _ hd3.out (.inl rfl) (by decide) rfl).mono ?_
  rintro e w5 ⟨M5, lv5, v5, rfl, ho5, H5, hm5, hM5⟩
  obtain ⟨A5, cap5, u5, rfl, _, hc5⟩ := ho5.head
  have y0 : w5.cell? ⟨A5, 0, none⟩ = some (.int .i64 7) := hc5 0 _ rfl
  have H5 := Lib.hid (show FlowAt w5 F M5 lv5 s4 from H5)
  have hlast : s4.L.getLast? = some ⟨20, 3, 0, 0, 0, 0, [111, 117, 116]⟩ := rfl
  have hst : statusOf s4.L = 2 := rfl
  have hln : s4.L.length = 5 := rfl
  have hst := Lib.hid hst
  have hln := Lib.hid hln
  have hlast := Lib.hid hlast
  have hF2 : w.heap.size ≤ F := by have h := hF.out; rw [sz_alloc] at h; omega
  have hM1 : w.heap.size ≤ M := by have h := hM.out; rw [sz_alloc] at h; omega
  have hb2 : Below w.heap.size w w2 := Mod.below hm2.out hb.out (own_ge hF2 hM1)
  have hM2 : w.heap.size ≤ M2 := by
    rcases hM2 with rfl | h
    · exact hM1
    · exact Nat.le_trans hb.out.size h
  have hb5 := Lib.hid (Mod.below hm5 (below_step hb2 hB3.out) (own_ge hF2 hM2))
  clear hm5 hM5 hb2 hM2 hM1 hF2 hc5 ho5 x0 x2 hcv
  go_wp2_with (fail)
  refine (fstatus w5 F M5 lv5 s4 H5).mono ?_
  rintro e w6 ⟨rfl, hb6⟩
  rw [hst.out]
  have H6 := Lib.hid (FlowAt.below H5 hb6)
  have hb6 := Lib.hid (below_step hb5.out hb6)
  go_wp2_with (fail)
  refine (result_any w6 F M5 lv5 s4 H6 _ hlast.out (by rw [hst.out]; decide)).mono ?_
  rintro e w7 ⟨v7, rfl, hv7, hb7⟩
  obtain ⟨a7, cap7, rfl⟩ := hv7.len
  have hsn : strOfNums [111, 117, 116] = { data := #[111, 117, 116] } := by decide
  have hstr : (convert 22 9 (.slice a7 3 cap7)).run Try.prog w7 = .ok (.string { data := #[111, 117, 116] }) w7 := by
    rw [← hsn]
    exact hv7.str
  clear hsn
  have hv7 := Lib.hid hv7
  have H7 := Lib.hid (FlowAt.below H6 hb7)
  have hb7 := Lib.hid (below_step hb6.out hb7)
  go_wp2_with (fail)
  refine (flen w7 F M5 lv5 s4 H7).mono ?_
  rintro e w8 ⟨rfl, hb8⟩
  rw [hln.out]
  have hb8 := Lib.hid (below_step hb7.out hb8)
  go_wp2_with (fail)
  go_ret
  exact ⟨rfl, hb8⟩

end Go.Proofs.Ytedpeambmmhcnaa.Base

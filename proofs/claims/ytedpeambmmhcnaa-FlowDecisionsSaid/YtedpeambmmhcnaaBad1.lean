/- One decision alone, of a run with nothing open: may it not be? Conditions: those at each theorem. -/
import Derived.Test.YtedpeambmmhcnaaMay
import Derived.Test.YtedpeambmmhcnaaMayLaw
set_option maxRecDepth 100000
namespace Go.Proofs.Ytedpeambmmhcnaa.Base
open Go.RowKit Go.Maps Go.Proofs.YtedpeambmmhcnaaW.PrintWords Go.Proofs.Ytedpeambmmhcnaa.Kit Go.Proofs.Ytedpeambmmhcnaa.MayLaw

theorem may_any (w : World) (kd di dl dn : Int) (v : Value) (bs : List Int) (hv : Byt w v bs) :
    Calls Try.prog 9 #[.agg #[.int .i64 kd, .int .i64 di, .int .i64 dl, .int .i64 dn, v]] w fun e w' => e = .returned (.bool (mayB kd di dl dn bs.length)) ∧ Below w.heap.size w w' := by
  obtain ⟨a, cap, rfl, hc⟩ := hv.lenc
  exact PFlowDecisions.flow_May.calls 2 kd di dl dn a cap bs _ w (kdC_of_byt hv) hc (may_f kd di dl dn bs)

set_option maxHeartbeats 4000000 in
theorem take_other (w : World) (m : Option Nat) (kd di dl dn : Int) (a : Option Addr) (n cap : Nat) (n1 : (kd == 1) = false) (n2 : (kd == 2) = false) (n3 : (kd == 3) = false) (n4 : (kd == 4) = false) :
    Calls Try.prog 81 #[.map m, .agg #[.int .i64 kd, .int .i64 di, .int .i64 dl, .int .i64 dn, .slice a n cap]] w fun e w' => e = .returned (.bool true) ∧ Below w.heap.size w w' := by
  go_enter Try.func81, Try.ntmps81
  go_wp2_with (fail)
  go_ret
  exact ⟨rfl, below_alloc (Below.refl _ _) _⟩

theorem bel_of {w w' : World} {n : Nat} (h : Hid (w.heap.size = n)) (hb : Below n w w') : Below w.heap.size w w' := by rw [h.out]; exact hb

theorem to_bel {w w' : World} {n : Nat} (h : Hid (w.heap.size = n)) (hb : Below w.heap.size w w') : Below n w w' := by rw [← h.out]; exact hb

theorem may_after {W : World} (q : After W) {kd di dl dn : Int} {v : Value} {bs : List Int} (hv : Byt W v bs) {m : Bool} (hm : mayB kd di dl dn bs.length = m) :
    Calls Try.prog 9 #[.agg #[.int .i64 kd, .int .i64 di, .int .i64 dl, .int .i64 dn, v]] q.now fun e w'' => e = .returned (.bool m) ∧ ∃ q' : After W, w'' = q'.now := by
  subst hm
  exact after_calls q (may_any q.now kd di dl dn v bs (hv.below q.bel))

theorem take_after {W : World} (q : After W) {m : Option Nat} {kd di dl dn : Int} {a : Option Addr} {n cap : Nat} (n1 : (kd == 1) = false) (n2 : (kd == 2) = false) (n3 : (kd == 3) = false) (n4 : (kd == 4) = false) :
    Calls Try.prog 81 #[.map m, .agg #[.int .i64 kd, .int .i64 di, .int .i64 dl, .int .i64 dn, .slice a n cap]] q.now fun e w'' => e = .returned (.bool true) ∧ ∃ q' : After W, w'' = q'.now :=
  after_calls q (take_other q.now m kd di dl dn a n cap n1 n2 n3 n4)

/-- May a decision alone not be, of a run with nothing open? -/
def bad1 (S : St) (kd di dl dn : Int) (n : Nat) : Bool := !mayB kd di dl dn n || (kd == 7 && !S.asked)

set_option maxHeartbeats 16000000 in
theorem bad_one (w : World) (F M : Nat) (lv : Value) (S : St) (h : FlowAt w F M lv S) (ho : S.o = fun _ => none) (kd di dl dn : Int) (v : Value) (bs : List Int) (hv : Byt w v bs) (A off cap : Nat)
    (a0 : w.cell? ⟨A, off, none⟩ = some (.int .i64 kd)) (a1 : w.cell? ⟨A, off + 1, none⟩ = some (.int .i64 di)) (a2 : w.cell? ⟨A, off + 2, none⟩ = some (.int .i64 dl)) (a3 : w.cell? ⟨A, off + 3, none⟩ = some (.int .i64 dn)) (a4 : w.cell? ⟨A, off + 4, none⟩ = some v)
    (n1 : (kd == 1) = false) (n2 : (kd == 2) = false) (n3 : (kd == 3) = false) (n4 : (kd == 4) = false) :
    Calls Try.prog 46 #[.pointer (some ⟨F, 0, none⟩), .slice (some ⟨A, off, none⟩) 1 cap] w fun e w' => e = .returned (.bool (bad1 S kd di dl dn bs.length)) ∧ Below w.heap.size w w' := by
  have hmm := @run_makeMap Try.prog
  obtain ⟨a, cap', rfl⟩ := hv.len
  have hAw := Lib.hid (show A < w.heap.size from by
    unfold World.cell? at a0
    cases hh : w.heap[A]? with
    | none => simp [hh] at a0
    | some o => exact (Array.getElem?_eq_some_iff.1 hh).1)
  have hB0 := below_alloc (Below.refl w.heap.size w) (.map #[] 0)
  have hv0 := Lib.hid hv
  have c11 : (w.alloc (.map #[] 0)).cell? ⟨F, 11, none⟩ = some (.map (some M)) := (FlowAt.below h hB0).cell 11
  have ho := Lib.hid ho
  obtain ⟨D, hown, hview⟩ := (FlowAt.below h hB0).map
  have h := Lib.hid h
  have hview := Lib.hid hview
  go_enter Try.func46, Try.ntmps46
  go_wp2_with (first | (at_range; refine wpList_range_own _ rfl _ 73 rfl 3 101 K3 u73 openElem M _ D rfl hown ?_; intro w0 hrg0 hg0 hs0))
  go_frame
  have hB1 := Lib.hid (grown_below hB0 hg0 (by simp))
  have H := Lib.hid (FlowAt.below h (show Below _ _ _ from hB1))
  have hv := Lib.hid (hv0.below (show Below _ _ _ from hB1))
  generalize (w.alloc (.map #[] 0)).heap.size = r at *
  clear hg0 hs0
  go_loopg [20] 0 (fun m u wr => wr = w0)
  case atStart => rfl
  case round =>
    subst hrel
    go_wp2_with (first | (at_next; refine wpList_next_ranges _ rfl _ rfl 3 K3 openElem (Value.int .i64) openVal (fun key kl hkey => by obtain ⟨x, rfl, _⟩ := Maps.keyOf_int_inv u3 hkey; exact ⟨x, rfl⟩) (fun v y hv => by obtain ⟨c, rfl, _⟩ := openElem_inv hv; exact ⟨c, rfl⟩) M r _ _ _ _ rfl hrg0 ?_ ?_))
    · intro _ _
      have hbw := (show Below w.heap.size w _ from hB1)
      have b0 := (hbw.cell (p := ⟨A, off, none⟩) hAw.out).trans a0
      have b1 := (hbw.cell (p := ⟨A, off + 1, none⟩) hAw.out).trans a1
      have b2 := (hbw.cell (p := ⟨A, off + 2, none⟩) hAw.out).trans a2
      have b3 := (hbw.cell (p := ⟨A, off + 3, none⟩) hAw.out).trans a3
      have b4 := (hbw.cell (p := ⟨A, off + 4, none⟩) hAw.out).trans a4
      clear hbw a0 a1 a2 a3 a4 c11 hown hrg0
      have HW : Hid (FlowAt wr F M lv S) := H
      have hvw := hv
      generalize hMi : w.heap.size = Mi at *
      have hMi := Lib.hid hMi
      go_wp2_with (fail)
      go_loopg [31] 1 (fun m i wx => ∃ k : Nat, i = .int .i64 k ∧ m = 1 - k ∧ ((k = 0 ∧ wx = wr) ∨ (k = 1 ∧ bad1 S kd di dl dn bs.length = false ∧ Hid (Below wr.heap.size wr wx))))
      case atStart => exact ⟨0, rfl, rfl, .inl ⟨rfl, rfl⟩⟩
      case round =>
        obtain ⟨k, rfl, rfl, ⟨rfl, rfl⟩ | ⟨rfl, hb1, HB⟩⟩ := hrel
        · go_wp2_with (fail)
          have kb := blk_new wr (.cells #[.int .i64 kd, .int .i64 di, .int .i64 dl, .int .i64 dn, .slice a bs.length cap'] 24)
          have hBx := below_alloc (Below.refl wr.heap.size wr) (.cells #[.int .i64 kd, .int .i64 di, .int .i64 dl, .int .i64 dn, .slice a bs.length cap'] 24)
          have kF := blk_below (FlowAt.blk HW) hBx
          have hvx := Lib.hid (Byt.below hvw hBx)
          have hBx := Lib.hid hBx
          generalize hW : wr.alloc (.cells #[.int .i64 kd, .int .i64 di, .int .i64 dl, .int .i64 dn, .slice a bs.length cap'] 24) = W1 at *
          have hW := Lib.hid hW
          generalize hX : wr.heap.size = X at *
          have hX := Lib.hid hX
          have x0 : ∀ q : After W1, q.now.cell? ⟨X, 0, none⟩ = some (.int .i64 kd) := fun q => after_cell kb q 0
          have x1 : ∀ q : After W1, q.now.cell? ⟨X, 1, none⟩ = some (.int .i64 di) := fun q => after_cell kb q 1
          have x2 : ∀ q : After W1, q.now.cell? ⟨X, 2, none⟩ = some (.int .i64 dl) := fun q => after_cell kb q 2
          have x3 : ∀ q : After W1, q.now.cell? ⟨X, 3, none⟩ = some (.int .i64 dn) := fun q => after_cell kb q 3
          have x4 : ∀ q : After W1, q.now.cell? ⟨X, 4, none⟩ = some (.slice a bs.length cap') := fun q => after_cell kb q 4
          have f0 : ∀ q : After W1, q.now.cell? ⟨F, 0, none⟩ = some (.int .i64 S.id) := fun q => after_cell kF q 0
          have f10 : ∀ q : After W1, q.now.cell? ⟨F, 10, none⟩ = some (.bool S.asked) := fun q => after_cell kF q 10
          have hbd := Lib.hid (show bad1 S kd di dl dn bs.length = _ from rfl)
          cases hm : mayB kd di dl dn bs.length
          · have hm := Lib.hid hm
            refine wp_region_after (by kernel_rfl) (by kernel_rfl) ?_
            repeat (go_big_quiet_step (first | (go_at_call 9; with_reducible refine may_after _ hvx.out hm.out)))
            refine wpQuiet_nil ?_
            rintro _ ⟨q, rfl⟩
            go_wp2_with (fail)
            go_ret
            refine ⟨?_, to_bel hMi (below_step (bel_of hMi hB1) (below_step (bel_of hX hBx) q.bel))⟩
            simp [bad1, hm.out]
          · have k5 : decide (5 ≤ kd) = true := by
              have := hm
              simp [mayB] at this
              simp at n1 n2 n3 n4
              simp
              omega
            have k0 : ((4 : Int) == kd) = false := by
              simp at n4
              simp; omega
            have hm := Lib.hid hm
            cases h7 : (kd == 7) <;> cases has : S.asked
            all_goals
              rw [has] at f10
              have has := Lib.hid has
              refine wp_region_after (by kernel_rfl) (by kernel_rfl) ?_
              repeat (go_big_quiet_step (first | (go_at_call 9; with_reducible refine may_after _ hvx.out hm.out) | (go_at_call 81; with_reducible refine take_after _ n1 n2 n3 n4)))
              refine wpQuiet_nil ?_
              rintro _ ⟨q, rfl⟩
              go_wp2_with (fail)
              have hb9 : Below wr.heap.size wr q.now := below_step (bel_of hX hBx) q.bel
              first
                | (go_ret; refine ⟨?_, to_bel hMi (below_step (bel_of hMi hB1) hb9)⟩; simp [bad1, hm.out, h7, has.out]; done)
                | (go_roundg 0
                   case measure => omega
                   case rel => exact ⟨1, by go_num, rfl, .inr ⟨rfl, by simp [bad1, hm.out, h7, has.out], Lib.hid (by have := hb9; rw [hX.out] at this; exact this)⟩⟩)
        · go_wp2_with (fail)
          go_ret
          exact ⟨by simp [hb1], below_step (bel_of hMi hB1) HB.out⟩
    · intro x ca cb cc kl y1 y2 w' cnt' hkey hleft
      exfalso
      obtain ⟨x', he, hk, hw⟩ := Maps.keyOf_int_inv u3 hkey
      cases he
      have := hview.out.none x hw (by rw [ho.out])
      rw [hk] at hleft
      simp [key] at this
      rw [this] at hleft
      cases hleft

end Go.Proofs.Ytedpeambmmhcnaa.Base

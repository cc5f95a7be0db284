/- event.Check: what does not fit, of an event that fits: nothing. Conditions: those at each theorem. -/
import Derived.Test.YtedpeambmmhcnaaCheckA
set_option maxRecDepth 100000
namespace Go.Proofs.Ytedpeambmmhcnaa.Base
open Go.RowKit Go.Maps Go.Proofs.YtedpeambmmhcnaaW.PrintWords Go.Proofs.Ytedpeambmmhcnaa.Kit

set_option maxHeartbeats 8000000 in
theorem fault_1 (w : World) (h : Nat) (H : Hs) (hh : HsAt w h H) (ti rf id li nn : Int) (bs : List Int) (a : Option Addr) (cap : Nat) (hv : Byt w (.slice a bs.length cap) bs) (ho : EvOk ⟨1, ti, rf, id, li, nn, bs⟩) (hn : H.n = 0) (htm : decide (ti < H.time) = false) (hcl : H.closed = 0) (hr : rf = 0) :
    Calls Try.prog 98 #[.pointer (some ⟨h, 0, none⟩), .agg #[.int .i64 1, .int .i64 ti, .int .i64 rf, .int .i64 id, .int .i64 li, .int .i64 nn, .slice a bs.length cap]] w fun e w' => e = .returned (.string { data := #[] }) ∧ Below w.heap.size w w' := by
  subst hr
  have hba := below_alloc (Below.refl w.heap.size w) (.cells #[.int .i64 1, .int .i64 ti, .int .i64 0, .int .i64 id, .int .i64 li, .int .i64 nn, .slice a bs.length cap] 79)
  have kb := blk_new w (.cells #[.int .i64 1, .int .i64 ti, .int .i64 0, .int .i64 id, .int .i64 li, .int .i64 nn, .slice a bs.length cap] 79)
  have hh := Lib.hid (hh.below hba)
  have hv := Lib.hid (hv.below hba)
  have hB := Lib.hid hba
  have hcall : Hid (∀ W, HsAt W h H → Calls Try.prog 106 #[.pointer (some ⟨h, 0, none⟩), .agg #[.int .i64 1, .int .i64 ti, .int .i64 0, .int .i64 id, .int .i64 li, .int .i64 nn, .slice a bs.length cap]] W fun e w' => e = .returned (.bool true) ∧ Below W.heap.size W w') := Lib.hid fun W hw => ref_1 W h H hw ti 0 id li nn a bs.length cap rfl
  have hright : Hid (∀ W, Byt W (.slice a bs.length cap) bs → Calls Try.prog 105 #[.agg #[.int .i64 1, .int .i64 ti, .int .i64 0, .int .i64 id, .int .i64 li, .int .i64 nn, .slice a bs.length cap]] W fun e w' => e = .returned (.bool true) ∧ Below W.heap.size W w') := Lib.hid fun W hw => right_ev W 1 ti 0 id li nn bs _ hw (by decide) (by decide) ho
  clear hba ho
  obtain ⟨qn, qt, qc, tk, qb⟩ := H
  simp only at hn htm hcl kb
  subst hcl hn
  go_enter Try.func98, Try.ntmps98
  go_wp2_with (fail)
  refine Calls.mono (hright.out _ hv.out) ?_
  rintro e w2 ⟨rfl, hb2⟩
  have kb := blk_below kb hb2
  have hh2 := hh.out.below hb2
  obtain ⟨m3, m4, m7, m8, hk⟩ := hh2
  have hB := Lib.hid (below_step hB.out hb2)
  clear hb2 hv hright hh
  generalize w.heap.size = X at kb ⊢
  have b0 : w2.cell? ⟨X, 0, none⟩ = some (.int .i64 1) := blk_cell kb 0
  have b1 : w2.cell? ⟨X, 1, none⟩ = some (.int .i64 ti) := blk_cell kb 1
  have b2 : w2.cell? ⟨X, 2, none⟩ = some (.int .i64 0) := blk_cell kb 2
  have b3 : w2.cell? ⟨X, 3, none⟩ = some (.int .i64 id) := blk_cell kb 3
  have b4 : w2.cell? ⟨X, 4, none⟩ = some (.int .i64 li) := blk_cell kb 4
  have b5 : w2.cell? ⟨X, 5, none⟩ = some (.int .i64 nn) := blk_cell kb 5
  have b6 : w2.cell? ⟨X, 6, none⟩ = some (.slice a bs.length cap) := blk_cell kb 6
  have d0 : w2.cell? ⟨h, 0, none⟩ = some (.int .i64 0) := blk_cell hk 0
  have d1 : w2.cell? ⟨h, 1, none⟩ = some (.int .i64 qt) := blk_cell hk 1
  have d2 : w2.cell? ⟨h, 2, none⟩ = some (.int .i64 0) := blk_cell hk 2
  have d5 : w2.cell? ⟨h, 5, none⟩ = some (.int .i64 tk) := blk_cell hk 5
  have hk2 : Hid (∀ n, HsAt (w2.drewN n) h ⟨0, qt, 0, tk, qb⟩) := Lib.hid fun n => ⟨m3, m4, m7, m8, hk⟩
  have kb2 := Lib.hid kb
  have hk3 := Lib.hid hk
  clear kb hk
  go_wp2_with (fail)
  go_quiet (fail)
  go_wp2_with (fail)
  go_quiet (fail)
  go_wp2_with (fail)
  refine Calls.mono (hcall.out _ (hk2.out _)) ?_
  rintro e w3 ⟨rfl, hb3⟩
  have kb := blk_below (w := w2.drewN _) kb2.out hb3
  have hk := blk_below (w := w2.drewN _) hk3.out hb3
  have hB3 := Lib.hid (below_step (pw_below_drewN hB.out _) hb3)
  have b0 : w3.cell? ⟨X, 0, none⟩ = some (.int .i64 1) := blk_cell kb 0
  have d5 : w3.cell? ⟨h, 5, none⟩ = some (.int .i64 tk) := blk_cell hk 5
  clear hb3 kb hk
  go_wp2_with (fail)
  go_ret
  exact ⟨rfl, hB3.out⟩

set_option maxHeartbeats 8000000 in
theorem fault_2 (w : World) (h : Nat) (H : Hs) (hh : HsAt w h H) (ti rf id li nn : Int) (bs : List Int) (a : Option Addr) (cap : Nat) (hv : Byt w (.slice a bs.length cap) bs) (ho : EvOk ⟨2, ti, rf, id, li, nn, bs⟩) (hn : (H.n == 0) = false) (htm : decide (ti < H.time) = false) (hcl : H.closed = 0) (hr : rf = 0) (ht2 : H.task = 0) :
    Calls Try.prog 98 #[.pointer (some ⟨h, 0, none⟩), .agg #[.int .i64 2, .int .i64 ti, .int .i64 rf, .int .i64 id, .int .i64 li, .int .i64 nn, .slice a bs.length cap]] w fun e w' => e = .returned (.string { data := #[] }) ∧ Below w.heap.size w w' := by
  subst hr
  have hba := below_alloc (Below.refl w.heap.size w) (.cells #[.int .i64 2, .int .i64 ti, .int .i64 0, .int .i64 id, .int .i64 li, .int .i64 nn, .slice a bs.length cap] 79)
  have kb := blk_new w (.cells #[.int .i64 2, .int .i64 ti, .int .i64 0, .int .i64 id, .int .i64 li, .int .i64 nn, .slice a bs.length cap] 79)
  have hh := Lib.hid (hh.below hba)
  have hv := Lib.hid (hv.below hba)
  have hB := Lib.hid hba
  have hcall : Hid (∀ W, HsAt W h H → Calls Try.prog 106 #[.pointer (some ⟨h, 0, none⟩), .agg #[.int .i64 2, .int .i64 ti, .int .i64 0, .int .i64 id, .int .i64 li, .int .i64 nn, .slice a bs.length cap]] W fun e w' => e = .returned (.bool true) ∧ Below W.heap.size W w') := Lib.hid fun W hw => ref_2 W h H hw ti 0 id li nn a bs.length cap rfl
  have hright : Hid (∀ W, Byt W (.slice a bs.length cap) bs → Calls Try.prog 105 #[.agg #[.int .i64 2, .int .i64 ti, .int .i64 0, .int .i64 id, .int .i64 li, .int .i64 nn, .slice a bs.length cap]] W fun e w' => e = .returned (.bool true) ∧ Below W.heap.size W w') := Lib.hid fun W hw => right_ev W 2 ti 0 id li nn bs _ hw (by decide) (by decide) ho
  clear hba ho
  obtain ⟨qn, qt, qc, tk, qb⟩ := H
  simp only at hn htm hcl ht2 kb
  subst hcl ht2
  go_enter Try.func98, Try.ntmps98
  go_wp2_with (fail)
  refine Calls.mono (hright.out _ hv.out) ?_
  rintro e w2 ⟨rfl, hb2⟩
  have kb := blk_below kb hb2
  have hh2 := hh.out.below hb2
  obtain ⟨m3, m4, m7, m8, hk⟩ := hh2
  have hB := Lib.hid (below_step hB.out hb2)
  clear hb2 hv hright hh
  generalize w.heap.size = X at kb ⊢
  have b0 : w2.cell? ⟨X, 0, none⟩ = some (.int .i64 2) := blk_cell kb 0
  have b1 : w2.cell? ⟨X, 1, none⟩ = some (.int .i64 ti) := blk_cell kb 1
  have b2 : w2.cell? ⟨X, 2, none⟩ = some (.int .i64 0) := blk_cell kb 2
  have b3 : w2.cell? ⟨X, 3, none⟩ = some (.int .i64 id) := blk_cell kb 3
  have b4 : w2.cell? ⟨X, 4, none⟩ = some (.int .i64 li) := blk_cell kb 4
  have b5 : w2.cell? ⟨X, 5, none⟩ = some (.int .i64 nn) := blk_cell kb 5
  have b6 : w2.cell? ⟨X, 6, none⟩ = some (.slice a bs.length cap) := blk_cell kb 6
  have d0 : w2.cell? ⟨h, 0, none⟩ = some (.int .i64 qn) := blk_cell hk 0
  have d1 : w2.cell? ⟨h, 1, none⟩ = some (.int .i64 qt) := blk_cell hk 1
  have d2 : w2.cell? ⟨h, 2, none⟩ = some (.int .i64 0) := blk_cell hk 2
  have d5 : w2.cell? ⟨h, 5, none⟩ = some (.int .i64 0) := blk_cell hk 5
  have hk2 : Hid (∀ n, HsAt (w2.drewN n) h ⟨qn, qt, 0, 0, qb⟩) := Lib.hid fun n => ⟨m3, m4, m7, m8, hk⟩
  have kb2 := Lib.hid kb
  have hk3 := Lib.hid hk
  clear kb hk
  go_wp2_with (fail)
  go_quiet (fail)
  go_wp2_with (fail)
  go_quiet (fail)
  go_wp2_with (fail)
  refine Calls.mono (hcall.out _ (hk2.out _)) ?_
  rintro e w3 ⟨rfl, hb3⟩
  have kb := blk_below (w := w2.drewN _) kb2.out hb3
  have hk := blk_below (w := w2.drewN _) hk3.out hb3
  have hB3 := Lib.hid (below_step (pw_below_drewN hB.out _) hb3)
  have b0 : w3.cell? ⟨X, 0, none⟩ = some (.int .i64 2) := blk_cell kb 0
  have d5 : w3.cell? ⟨h, 5, none⟩ = some (.int .i64 0) := blk_cell hk 5
  clear hb3 kb hk
  go_wp2_with (fail)
  go_ret
  exact ⟨rfl, hB3.out⟩

set_option maxHeartbeats 8000000 in
theorem fault_3 (w : World) (h : Nat) (H : Hs) (hh : HsAt w h H) (ti rf id li nn : Int) (bs : List Int) (a : Option Addr) (cap : Nat) (hv : Byt w (.slice a bs.length cap) bs) (ho : EvOk ⟨3, ti, rf, id, li, nn, bs⟩) (hn : (H.n == 0) = false) (htm : decide (ti < H.time) = false) (hcl : H.closed = 0) (h5 : (H.task != 0) = true) (h6 : H.begun = false) (hr : rf = H.task) :
    Calls Try.prog 98 #[.pointer (some ⟨h, 0, none⟩), .agg #[.int .i64 3, .int .i64 ti, .int .i64 rf, .int .i64 id, .int .i64 li, .int .i64 nn, .slice a bs.length cap]] w fun e w' => e = .returned (.string { data := #[] }) ∧ Below w.heap.size w w' := by
  subst hr
  have hba := below_alloc (Below.refl w.heap.size w) (.cells #[.int .i64 3, .int .i64 ti, .int .i64 H.task, .int .i64 id, .int .i64 li, .int .i64 nn, .slice a bs.length cap] 79)
  have kb := blk_new w (.cells #[.int .i64 3, .int .i64 ti, .int .i64 H.task, .int .i64 id, .int .i64 li, .int .i64 nn, .slice a bs.length cap] 79)
  have hh := Lib.hid (hh.below hba)
  have hv := Lib.hid (hv.below hba)
  have hB := Lib.hid hba
  have hcall : Hid (∀ W, HsAt W h H → Calls Try.prog 106 #[.pointer (some ⟨h, 0, none⟩), .agg #[.int .i64 3, .int .i64 ti, .int .i64 H.task, .int .i64 id, .int .i64 li, .int .i64 nn, .slice a bs.length cap]] W fun e w' => e = .returned (.bool true) ∧ Below W.heap.size W w') := Lib.hid fun W hw => ref_3 W h H hw ti H.task id li nn a bs.length cap h5 h6 rfl
  have hright : Hid (∀ W, Byt W (.slice a bs.length cap) bs → Calls Try.prog 105 #[.agg #[.int .i64 3, .int .i64 ti, .int .i64 H.task, .int .i64 id, .int .i64 li, .int .i64 nn, .slice a bs.length cap]] W fun e w' => e = .returned (.bool true) ∧ Below W.heap.size W w') := Lib.hid fun W hw => right_ev W 3 ti H.task id li nn bs _ hw (by decide) (by decide) ho
  clear hba ho h5 h6
  obtain ⟨qn, qt, qc, tk, qb⟩ := H
  simp only at hn htm hcl kb
  subst hcl
  go_enter Try.func98, Try.ntmps98
  go_wp2_with (fail)
  refine Calls.mono (hright.out _ hv.out) ?_
  rintro e w2 ⟨rfl, hb2⟩
  have kb := blk_below kb hb2
  have hh2 := hh.out.below hb2
  obtain ⟨m3, m4, m7, m8, hk⟩ := hh2
  have hB := Lib.hid (below_step hB.out hb2)
  clear hb2 hv hright hh
  generalize w.heap.size = X at kb ⊢
  have b0 : w2.cell? ⟨X, 0, none⟩ = some (.int .i64 3) := blk_cell kb 0
  have b1 : w2.cell? ⟨X, 1, none⟩ = some (.int .i64 ti) := blk_cell kb 1
  have b2 : w2.cell? ⟨X, 2, none⟩ = some (.int .i64 tk) := blk_cell kb 2
  have b3 : w2.cell? ⟨X, 3, none⟩ = some (.int .i64 id) := blk_cell kb 3
  have b4 : w2.cell? ⟨X, 4, none⟩ = some (.int .i64 li) := blk_cell kb 4
  have b5 : w2.cell? ⟨X, 5, none⟩ = some (.int .i64 nn) := blk_cell kb 5
  have b6 : w2.cell? ⟨X, 6, none⟩ = some (.slice a bs.length cap) := blk_cell kb 6
  have d0 : w2.cell? ⟨h, 0, none⟩ = some (.int .i64 qn) := blk_cell hk 0
  have d1 : w2.cell? ⟨h, 1, none⟩ = some (.int .i64 qt) := blk_cell hk 1
  have d2 : w2.cell? ⟨h, 2, none⟩ = some (.int .i64 0) := blk_cell hk 2
  have d5 : w2.cell? ⟨h, 5, none⟩ = some (.int .i64 tk) := blk_cell hk 5
  have hk2 : Hid (∀ n, HsAt (w2.drewN n) h ⟨qn, qt, 0, tk, qb⟩) := Lib.hid fun n => ⟨m3, m4, m7, m8, hk⟩
  have kb2 := Lib.hid kb
  have hk3 := Lib.hid hk
  clear kb hk
  go_wp2_with (fail)
  go_quiet (fail)
  go_wp2_with (fail)
  go_quiet (fail)
  go_wp2_with (fail)
  refine Calls.mono (hcall.out _ (hk2.out _)) ?_
  rintro e w3 ⟨rfl, hb3⟩
  have kb := blk_below (w := w2.drewN _) kb2.out hb3
  have hk := blk_below (w := w2.drewN _) hk3.out hb3
  have hB3 := Lib.hid (below_step (pw_below_drewN hB.out _) hb3)
  have b0 : w3.cell? ⟨X, 0, none⟩ = some (.int .i64 3) := blk_cell kb 0
  have d5 : w3.cell? ⟨h, 5, none⟩ = some (.int .i64 tk) := blk_cell hk 5
  clear hb3 kb hk
  go_wp2_with (fail)
  go_ret
  exact ⟨rfl, hB3.out⟩

set_option maxHeartbeats 8000000 in
theorem fault_4 (w : World) (h : Nat) (H : Hs) (hh : HsAt w h H) (ti rf id li nn : Int) (bs : List Int) (a : Option Addr) (cap : Nat) (hv : Byt w (.slice a bs.length cap) bs) (ho : EvOk ⟨4, ti, rf, id, li, nn, bs⟩) (hn : (H.n == 0) = false) (htm : decide (ti < H.time) = false) (hcl : H.closed = 0) (h5 : (H.task != 0) = true) (h6 : H.begun = true) (hr : rf = H.task) :
    Calls Try.prog 98 #[.pointer (some ⟨h, 0, none⟩), .agg #[.int .i64 4, .int .i64 ti, .int .i64 rf, .int .i64 id, .int .i64 li, .int .i64 nn, .slice a bs.length cap]] w fun e w' => e = .returned (.string { data := #[] }) ∧ Below w.heap.size w w' := by
  subst hr
  have hba := below_alloc (Below.refl w.heap.size w) (.cells #[.int .i64 4, .int .i64 ti, .int .i64 H.task, .int .i64 id, .int .i64 li, .int .i64 nn, .slice a bs.length cap] 79)
  have kb := blk_new w (.cells #[.int .i64 4, .int .i64 ti, .int .i64 H.task, .int .i64 id, .int .i64 li, .int .i64 nn, .slice a bs.length cap] 79)
  have hh := Lib.hid (hh.below hba)
  have hv := Lib.hid (hv.below hba)
  have hB := Lib.hid hba
  have hcall : Hid (∀ W, HsAt W h H → Calls Try.prog 106 #[.pointer (some ⟨h, 0, none⟩), .agg #[.int .i64 4, .int .i64 ti, .int .i64 H.task, .int .i64 id, .int .i64 li, .int .i64 nn, .slice a bs.length cap]] W fun e w' => e = .returned (.bool true) ∧ Below W.heap.size W w') := Lib.hid fun W hw => ref_4 W h H hw ti H.task id li nn a bs.length cap h5 h6 rfl
  have hright : Hid (∀ W, Byt W (.slice a bs.length cap) bs → Calls Try.prog 105 #[.agg #[.int .i64 4, .int .i64 ti, .int .i64 H.task, .int .i64 id, .int .i64 li, .int .i64 nn, .slice a bs.length cap]] W fun e w' => e = .returned (.bool true) ∧ Below W.heap.size W w') := Lib.hid fun W hw => right_ev W 4 ti H.task id li nn bs _ hw (by decide) (by decide) ho
  clear hba ho h5 h6
  obtain ⟨qn, qt, qc, tk, qb⟩ := H
  simp only at hn htm hcl kb
  subst hcl
  go_enter Try.func98, Try.ntmps98
  go_wp2_with (fail)
  refine Calls.mono (hright.out _ hv.out) ?_
  rintro e w2 ⟨rfl, hb2⟩
  have kb := blk_below kb hb2
  have hh2 := hh.out.below hb2
  obtain ⟨m3, m4, m7, m8, hk⟩ := hh2
  have hB := Lib.hid (below_step hB.out hb2)
  clear hb2 hv hright hh
  generalize w.heap.size = X at kb ⊢
  have b0 : w2.cell? ⟨X, 0, none⟩ = some (.int .i64 4) := blk_cell kb 0
  have b1 : w2.cell? ⟨X, 1, none⟩ = some (.int .i64 ti) := blk_cell kb 1
  have b2 : w2.cell? ⟨X, 2, none⟩ = some (.int .i64 tk) := blk_cell kb 2
  have b3 : w2.cell? ⟨X, 3, none⟩ = some (.int .i64 id) := blk_cell kb 3
  have b4 : w2.cell? ⟨X, 4, none⟩ = some (.int .i64 li) := blk_cell kb 4
  have b5 : w2.cell? ⟨X, 5, none⟩ = some (.int .i64 nn) := blk_cell kb 5
  have b6 : w2.cell? ⟨X, 6, none⟩ = some (.slice a bs.length cap) := blk_cell kb 6
  have d0 : w2.cell? ⟨h, 0, none⟩ = some (.int .i64 qn) := blk_cell hk 0
  have d1 : w2.cell? ⟨h, 1, none⟩ = some (.int .i64 qt) := blk_cell hk 1
  have d2 : w2.cell? ⟨h, 2, none⟩ = some (.int .i64 0) := blk_cell hk 2
  have d5 : w2.cell? ⟨h, 5, none⟩ = some (.int .i64 tk) := blk_cell hk 5
  have hk2 : Hid (∀ n, HsAt (w2.drewN n) h ⟨qn, qt, 0, tk, qb⟩) := Lib.hid fun n => ⟨m3, m4, m7, m8, hk⟩
  have kb2 := Lib.hid kb
  have hk3 := Lib.hid hk
  clear kb hk
  go_wp2_with (fail)
  go_quiet (fail)
  go_wp2_with (fail)
  go_quiet (fail)
  go_wp2_with (fail)
  refine Calls.mono (hcall.out _ (hk2.out _)) ?_
  rintro e w3 ⟨rfl, hb3⟩
  have kb := blk_below (w := w2.drewN _) kb2.out hb3
  have hk := blk_below (w := w2.drewN _) hk3.out hb3
  have hB3 := Lib.hid (below_step (pw_below_drewN hB.out _) hb3)
  have b0 : w3.cell? ⟨X, 0, none⟩ = some (.int .i64 4) := blk_cell kb 0
  have d5 : w3.cell? ⟨h, 5, none⟩ = some (.int .i64 tk) := blk_cell hk 5
  clear hb3 kb hk
  go_wp2_with (fail)
  go_ret
  exact ⟨rfl, hB3.out⟩

set_option maxHeartbeats 8000000 in
theorem fault_5 (w : World) (h : Nat) (H : Hs) (hh : HsAt w h H) (ti rf id li nn : Int) (bs : List Int) (a : Option Addr) (cap : Nat) (hv : Byt w (.slice a bs.length cap) bs) (ho : EvOk ⟨5, ti, rf, id, li, nn, bs⟩) (hn : (H.n == 0) = false) (htm : decide (ti < H.time) = false) (hcl : H.closed = 0) (h5 : (H.task != 0) = true) (h6 : H.begun = true) (hr : rf = H.task) :
    Calls Try.prog 98 #[.pointer (some ⟨h, 0, none⟩), .agg #[.int .i64 5, .int .i64 ti, .int .i64 rf, .int .i64 id, .int .i64 li, .int .i64 nn, .slice a bs.length cap]] w fun e w' => e = .returned (.string { data := #[] }) ∧ Below w.heap.size w w' := by
  subst hr
  have hba := below_alloc (Below.refl w.heap.size w) (.cells #[.int .i64 5, .int .i64 ti, .int .i64 H.task, .int .i64 id, .int .i64 li, .int .i64 nn, .slice a bs.length cap] 79)
  have kb := blk_new w (.cells #[.int .i64 5, .int .i64 ti, .int .i64 H.task, .int .i64 id, .int .i64 li, .int .i64 nn, .slice a bs.length cap] 79)
  have hh := Lib.hid (hh.below hba)
  have hv := Lib.hid (hv.below hba)
  have hB := Lib.hid hba
  have hcall : Hid (∀ W, HsAt W h H → Calls Try.prog 106 #[.pointer (some ⟨h, 0, none⟩), .agg #[.int .i64 5, .int .i64 ti, .int .i64 H.task, .int .i64 id, .int .i64 li, .int .i64 nn, .slice a bs.length cap]] W fun e w' => e = .returned (.bool true) ∧ Below W.heap.size W w') := Lib.hid fun W hw => ref_5 W h H hw ti H.task id li nn a bs.length cap h5 h6 rfl
  have hright : Hid (∀ W, Byt W (.slice a bs.length cap) bs → Calls Try.prog 105 #[.agg #[.int .i64 5, .int .i64 ti, .int .i64 H.task, .int .i64 id, .int .i64 li, .int .i64 nn, .slice a bs.length cap]] W fun e w' => e = .returned (.bool true) ∧ Below W.heap.size W w') := Lib.hid fun W hw => right_ev W 5 ti H.task id li nn bs _ hw (by decide) (by decide) ho
  clear hba ho h5 h6
  obtain ⟨qn, qt, qc, tk, qb⟩ := H
  simp only at hn htm hcl kb
  subst hcl
  go_enter Try.func98, Try.ntmps98
  go_wp2_with (fail)
  refine Calls.mono (hright.out _ hv.out) ?_
  rintro e w2 ⟨rfl, hb2⟩
  have kb := blk_below kb hb2
  have hh2 := hh.out.below hb2
  obtain ⟨m3, m4, m7, m8, hk⟩ := hh2
  have hB := Lib.hid (below_step hB.out hb2)
  clear hb2 hv hright hh
  generalize w.heap.size = X at kb ⊢
  have b0 : w2.cell? ⟨X, 0, none⟩ = some (.int .i64 5) := blk_cell kb 0
  have b1 : w2.cell? ⟨X, 1, none⟩ = some (.int .i64 ti) := blk_cell kb 1
  have b2 : w2.cell? ⟨X, 2, none⟩ = some (.int .i64 tk) := blk_cell kb 2
  have b3 : w2.cell? ⟨X, 3, none⟩ = some (.int .i64 id) := blk_cell kb 3
  have b4 : w2.cell? ⟨X, 4, none⟩ = some (.int .i64 li) := blk_cell kb 4
  have b5 : w2.cell? ⟨X, 5, none⟩ = some (.int .i64 nn) := blk_cell kb 5
  have b6 : w2.cell? ⟨X, 6, none⟩ = some (.slice a bs.length cap) := blk_cell kb 6
  have d0 : w2.cell? ⟨h, 0, none⟩ = some (.int .i64 qn) := blk_cell hk 0
  have d1 : w2.cell? ⟨h, 1, none⟩ = some (.int .i64 qt) := blk_cell hk 1
  have d2 : w2.cell? ⟨h, 2, none⟩ = some (.int .i64 0) := blk_cell hk 2
  have d5 : w2.cell? ⟨h, 5, none⟩ = some (.int .i64 tk) := blk_cell hk 5
  have hk2 : Hid (∀ n, HsAt (w2.drewN n) h ⟨qn, qt, 0, tk, qb⟩) := Lib.hid fun n => ⟨m3, m4, m7, m8, hk⟩
  have kb2 := Lib.hid kb
  have hk3 := Lib.hid hk
  clear kb hk
  go_wp2_with (fail)
  go_quiet (fail)
  go_wp2_with (fail)
  go_quiet (fail)
  go_wp2_with (fail)
  refine Calls.mono (hcall.out _ (hk2.out _)) ?_
  rintro e w3 ⟨rfl, hb3⟩
  have kb := blk_below (w := w2.drewN _) kb2.out hb3
  have hk := blk_below (w := w2.drewN _) hk3.out hb3
  have hB3 := Lib.hid (below_step (pw_below_drewN hB.out _) hb3)
  have b0 : w3.cell? ⟨X, 0, none⟩ = some (.int .i64 5) := blk_cell kb 0
  have d5 : w3.cell? ⟨h, 5, none⟩ = some (.int .i64 tk) := blk_cell hk 5
  clear hb3 kb hk
  go_wp2_with (fail)
  go_ret
  exact ⟨rfl, hB3.out⟩

set_option maxHeartbeats 8000000 in
theorem fault_6 (w : World) (h : Nat) (H : Hs) (hh : HsAt w h H) (ti rf id li nn : Int) (bs : List Int) (a : Option Addr) (cap : Nat) (hv : Byt w (.slice a bs.length cap) bs) (ho : EvOk ⟨6, ti, rf, id, li, nn, bs⟩) (hn : (H.n == 0) = false) (htm : decide (ti < H.time) = false) (hcl : H.closed = 0) (h5 : (H.task != 0) = true) (h6 : H.begun = true) (hr : rf = H.task) :
    Calls Try.prog 98 #[.pointer (some ⟨h, 0, none⟩), .agg #[.int .i64 6, .int .i64 ti, .int .i64 rf, .int .i64 id, .int .i64 li, .int .i64 nn, .slice a bs.length cap]] w fun e w' => e = .returned (.string { data := #[] }) ∧ Below w.heap.size w w' := by
  subst hr
  have hba := below_alloc (Below.refl w.heap.size w) (.cells #[.int .i64 6, .int .i64 ti, .int .i64 H.task, .int .i64 id, .int .i64 li, .int .i64 nn, .slice a bs.length cap] 79)
  have kb := blk_new w (.cells #[.int .i64 6, .int .i64 ti, .int .i64 H.task, .int .i64 id, .int .i64 li, .int .i64 nn, .slice a bs.length cap] 79)
  have hh := Lib.hid (hh.below hba)
  have hv := Lib.hid (hv.below hba)
  have hB := Lib.hid hba
  have hcall : Hid (∀ W, HsAt W h H → Calls Try.prog 106 #[.pointer (some ⟨h, 0, none⟩), .agg #[.int .i64 6, .int .i64 ti, .int .i64 H.task, .int .i64 id, .int .i64 li, .int .i64 nn, .slice a bs.length cap]] W fun e w' => e = .returned (.bool true) ∧ Below W.heap.size W w') := Lib.hid fun W hw => ref_6 W h H hw ti H.task id li nn a bs.length cap h5 h6 rfl
  have hright : Hid (∀ W, Byt W (.slice a bs.length cap) bs → Calls Try.prog 105 #[.agg #[.int .i64 6, .int .i64 ti, .int .i64 H.task, .int .i64 id, .int .i64 li, .int .i64 nn, .slice a bs.length cap]] W fun e w' => e = .returned (.bool true) ∧ Below W.heap.size W w') := Lib.hid fun W hw => right_ev W 6 ti H.task id li nn bs _ hw (by decide) (by decide) ho
  clear hba ho h5 h6
  obtain ⟨qn, qt, qc, tk, qb⟩ := H
  simp only at hn htm hcl kb
  subst hcl
  go_enter Try.func98, Try.ntmps98
  go_wp2_with (fail)
  refine Calls.mono (hright.out _ hv.out) ?_
  rintro e w2 ⟨rfl, hb2⟩
  have kb := blk_below kb hb2
  have hh2 := hh.out.below hb2
  obtain ⟨m3, m4, m7, m8, hk⟩ := hh2
  have hB := Lib.hid (below_step hB.out hb2)
  clear hb2 hv hright hh
  generalize w.heap.size = X at kb ⊢
  have b0 : w2.cell? ⟨X, 0, none⟩ = some (.int .i64 6) := blk_cell kb 0
  have b1 : w2.cell? ⟨X, 1, none⟩ = some (.int .i64 ti) := blk_cell kb 1
  have b2 : w2.cell? ⟨X, 2, none⟩ = some (.int .i64 tk) := blk_cell kb 2
  have b3 : w2.cell? ⟨X, 3, none⟩ = some (.int .i64 id) := blk_cell kb 3
  have b4 : w2.cell? ⟨X, 4, none⟩ = some (.int .i64 li) := blk_cell kb 4
  have b5 : w2.cell? ⟨X, 5, none⟩ = some (.int .i64 nn) := blk_cell kb 5
  have b6 : w2.cell? ⟨X, 6, none⟩ = some (.slice a bs.length cap) := blk_cell kb 6
  have d0 : w2.cell? ⟨h, 0, none⟩ = some (.int .i64 qn) := blk_cell hk 0
  have d1 : w2.cell? ⟨h, 1, none⟩ = some (.int .i64 qt) := blk_cell hk 1
  have d2 : w2.cell? ⟨h, 2, none⟩ = some (.int .i64 0) := blk_cell hk 2
  have d5 : w2.cell? ⟨h, 5, none⟩ = some (.int .i64 tk) := blk_cell hk 5
  have hk2 : Hid (∀ n, HsAt (w2.drewN n) h ⟨qn, qt, 0, tk, qb⟩) := Lib.hid fun n => ⟨m3, m4, m7, m8, hk⟩
  have kb2 := Lib.hid kb
  have hk3 := Lib.hid hk
  clear kb hk
  go_wp2_with (fail)
  go_quiet (fail)
  go_wp2_with (fail)
  go_quiet (fail)
  go_wp2_with (fail)
  refine Calls.mono (hcall.out _ (hk2.out _)) ?_
  rintro e w3 ⟨rfl, hb3⟩
  have kb := blk_below (w := w2.drewN _) kb2.out hb3
  have hk := blk_below (w := w2.drewN _) hk3.out hb3
  have hB3 := Lib.hid (below_step (pw_below_drewN hB.out _) hb3)
  have b0 : w3.cell? ⟨X, 0, none⟩ = some (.int .i64 6) := blk_cell kb 0
  have d5 : w3.cell? ⟨h, 5, none⟩ = some (.int .i64 tk) := blk_cell hk 5
  clear hb3 kb hk
  go_wp2_with (fail)
  go_ret
  exact ⟨rfl, hB3.out⟩

set_option maxHeartbeats 8000000 in
theorem fault_20 (w : World) (h : Nat) (H : Hs) (hh : HsAt w h H) (ti rf id li nn : Int) (bs : List Int) (a : Option Addr) (cap : Nat) (hv : Byt w (.slice a bs.length cap) bs) (ho : EvOk ⟨20, ti, rf, id, li, nn, bs⟩) (hn : (H.n == 0) = false) (htm : decide (ti < H.time) = false) (hcl : H.closed = 0) (hr : rf = 0) :
    Calls Try.prog 98 #[.pointer (some ⟨h, 0, none⟩), .agg #[.int .i64 20, .int .i64 ti, .int .i64 rf, .int .i64 id, .int .i64 li, .int .i64 nn, .slice a bs.length cap]] w fun e w' => e = .returned (.string { data := #[] }) ∧ Below w.heap.size w w' := by
  subst hr
  have hba := below_alloc (Below.refl w.heap.size w) (.cells #[.int .i64 20, .int .i64 ti, .int .i64 0, .int .i64 id, .int .i64 li, .int .i64 nn, .slice a bs.length cap] 79)
  have kb := blk_new w (.cells #[.int .i64 20, .int .i64 ti, .int .i64 0, .int .i64 id, .int .i64 li, .int .i64 nn, .slice a bs.length cap] 79)
  have hh := Lib.hid (hh.below hba)
  have hv := Lib.hid (hv.below hba)
  have hB := Lib.hid hba
  have hcall : Hid (∀ W, HsAt W h H → Calls Try.prog 106 #[.pointer (some ⟨h, 0, none⟩), .agg #[.int .i64 20, .int .i64 ti, .int .i64 0, .int .i64 id, .int .i64 li, .int .i64 nn, .slice a bs.length cap]] W fun e w' => e = .returned (.bool true) ∧ Below W.heap.size W w') := Lib.hid fun W hw => ref_20 W h H hw ti 0 id li nn a bs.length cap rfl
  have hright : Hid (∀ W, Byt W (.slice a bs.length cap) bs → Calls Try.prog 105 #[.agg #[.int .i64 20, .int .i64 ti, .int .i64 0, .int .i64 id, .int .i64 li, .int .i64 nn, .slice a bs.length cap]] W fun e w' => e = .returned (.bool true) ∧ Below W.heap.size W w') := Lib.hid fun W hw => right_ev W 20 ti 0 id li nn bs _ hw (by decide) (by decide) ho
  clear hba ho
  obtain ⟨qn, qt, qc, tk, qb⟩ := H
  simp only at hn htm hcl kb
  subst hcl
  go_enter Try.func98, Try.ntmps98
  go_wp2_with (fail)
  refine Calls.mono (hright.out _ hv.out) ?_
  rintro e w2 ⟨rfl, hb2⟩
  have kb := blk_below kb hb2
  have hh2 := hh.out.below hb2
  obtain ⟨m3, m4, m7, m8, hk⟩ := hh2
  have hB := Lib.hid (below_step hB.out hb2)
  clear hb2 hv hright hh
  generalize w.heap.size = X at kb ⊢
  have b0 : w2.cell? ⟨X, 0, none⟩ = some (.int .i64 20) := blk_cell kb 0
  have b1 : w2.cell? ⟨X, 1, none⟩ = some (.int .i64 ti) := blk_cell kb 1
  have b2 : w2.cell? ⟨X, 2, none⟩ = some (.int .i64 0) := blk_cell kb 2
  have b3 : w2.cell? ⟨X, 3, none⟩ = some (.int .i64 id) := blk_cell kb 3
  have b4 : w2.cell? ⟨X, 4, none⟩ = some (.int .i64 li) := blk_cell kb 4
  have b5 : w2.cell? ⟨X, 5, none⟩ = some (.int .i64 nn) := blk_cell kb 5
  have b6 : w2.cell? ⟨X, 6, none⟩ = some (.slice a bs.length cap) := blk_cell kb 6
  have d0 : w2.cell? ⟨h, 0, none⟩ = some (.int .i64 qn) := blk_cell hk 0
  have d1 : w2.cell? ⟨h, 1, none⟩ = some (.int .i64 qt) := blk_cell hk 1
  have d2 : w2.cell? ⟨h, 2, none⟩ = some (.int .i64 0) := blk_cell hk 2
  have d5 : w2.cell? ⟨h, 5, none⟩ = some (.int .i64 tk) := blk_cell hk 5
  have hk2 : Hid (∀ n, HsAt (w2.drewN n) h ⟨qn, qt, 0, tk, qb⟩) := Lib.hid fun n => ⟨m3, m4, m7, m8, hk⟩
  have kb2 := Lib.hid kb
  have hk3 := Lib.hid hk
  clear kb hk
  go_wp2_with (fail)
  go_quiet (fail)
  go_wp2_with (fail)
  go_quiet (fail)
  go_wp2_with (fail)
  refine Calls.mono (hcall.out _ (hk2.out _)) ?_
  rintro e w3 ⟨rfl, hb3⟩
  have kb := blk_below (w := w2.drewN _) kb2.out hb3
  have hk := blk_below (w := w2.drewN _) hk3.out hb3
  have hB3 := Lib.hid (below_step (pw_below_drewN hB.out _) hb3)
  have b0 : w3.cell? ⟨X, 0, none⟩ = some (.int .i64 20) := blk_cell kb 0
  have d5 : w3.cell? ⟨h, 5, none⟩ = some (.int .i64 tk) := blk_cell hk 5
  clear hb3 kb hk
  go_wp2_with (fail)
  go_ret
  exact ⟨rfl, hB3.out⟩

end Go.Proofs.Ytedpeambmmhcnaa.Base

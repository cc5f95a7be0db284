/- event.Check: an event that fits is taken. Conditions: those at each theorem. -/
import Derived.Test.YtedpeambmmhcnaaCheckB
set_option maxRecDepth 100000
namespace Go.Proofs.Ytedpeambmmhcnaa.Base
open Go.RowKit Go.Maps Go.Proofs.YtedpeambmmhcnaaW.PrintWords Go.Proofs.Ytedpeambmmhcnaa.Kit

theorem blk_drew {w : World} {g : Nat} {o : Obj} (h : w.heap[g]? = some o) : w.drew.heap[g]? = some o := h

/-- What Check knows behind an event. -/
def stepH (H : Hs) (e : Ev) : Hs := ⟨H.n + 1, e.time, if 19 ≤ e.kind ∧ e.kind ≤ 23 then e.kind else H.closed, if e.kind = 2 ∨ e.kind = 3 then H.n + 1 else if e.kind = 4 ∨ e.kind = 5 ∨ e.kind = 6 then 0 else H.task, if e.kind = 2 then false else if e.kind = 3 then true else if e.kind = 4 ∨ e.kind = 5 ∨ e.kind = 6 then false else H.begun⟩

set_option maxHeartbeats 8000000 in
theorem add_1 (w : World) (h : Nat) (H : Hs) (hh : HsAt w h H) (hn0 : 0 ≤ H.n) (hn1 : H.n ≤ 10000) (ti rf id li nn : Int) (bs : List Int) (a : Option Addr) (cap : Nat) (hv : Byt w (.slice a bs.length cap) bs) (ho : EvOk ⟨1, ti, rf, id, li, nn, bs⟩) (hn : H.n = 0) (htm : decide (ti < H.time) = false) (hcl : H.closed = 0) (hr : rf = 0) :
    Calls Try.prog 78 #[.pointer (some ⟨h, 0, none⟩), .agg #[.int .i64 1, .int .i64 ti, .int .i64 rf, .int .i64 id, .int .i64 li, .int .i64 nn, .slice a bs.length cap]] w fun e w' => e = .returned (.tuple #[.string { data := #[] }, .bool true]) ∧ HsAt w' h (stepH H ⟨1, ti, rf, id, li, nn, bs⟩) ∧ Mod (fun b => b = h) w w' := by
  have hba := below_alloc (Below.refl w.heap.size w) (.cells #[.int .i64 1, .int .i64 ti, .int .i64 rf, .int .i64 id, .int .i64 li, .int .i64 nn, .slice a bs.length cap] 79)
  have kb := blk_new w (.cells #[.int .i64 1, .int .i64 ti, .int .i64 rf, .int .i64 id, .int .i64 li, .int .i64 nn, .slice a bs.length cap] 79)
  have hf := Lib.hid (fault_1 _ h H (hh.below hba) ti rf id li nn bs a cap (hv.below hba) ho hn htm hcl hr)
  have hlt := Lib.hid (show h < w.heap.size from by obtain ⟨m3, m4, m7, m8, hk⟩ := hh; exact blk_lt hk)
  have hh := Lib.hid (hh.below hba)
  have hB := Lib.hid hba
  subst hr
  obtain ⟨qn, qt, qc, tk, qb⟩ := H
  simp only at hn0 hn1 hn hf hcl kb hB
  subst hcl hn
  clear hba ho hv htm
  go_enter Try.func78, Try.ntmps78
  go_wp2_with (fail)
  refine Calls.mono hf.out ?_
  rintro e w2 ⟨rfl, hb2⟩
  have kb := blk_below kb hb2
  have hh2 := hh.out.below hb2
  obtain ⟨m3, m4, m7, m8, hk⟩ := hh2
  have hB := Lib.hid (below_step hB.out hb2)
  clear hb2 hf hh
  generalize hX : w.heap.size = X at kb hlt ⊢
  have hX := Lib.hid hX
  have hne : h ≠ X := Nat.ne_of_lt hlt.out
  have hne := Lib.hid hne
  have b0 : w2.cell? ⟨X, 0, none⟩ = some (.int .i64 1) := blk_cell kb 0
  have b1 : w2.cell? ⟨X, 1, none⟩ = some (.int .i64 ti) := blk_cell kb 1
  have d0 : w2.cell? ⟨h, 0, none⟩ = some (.int .i64 0) := blk_cell hk 0
  have d1 : w2.cell? ⟨h, 1, none⟩ = some (.int .i64 qt) := blk_cell hk 1
  have d2 : w2.cell? ⟨h, 2, none⟩ = some (.int .i64 0) := blk_cell hk 2
  have d5 : w2.cell? ⟨h, 5, none⟩ = some (.int .i64 tk) := blk_cell hk 5
  have d6 : w2.cell? ⟨h, 6, none⟩ = some (.bool qb) := blk_cell hk 6
  have z0 := blk_frozen hk 0
  have z1 := blk_frozen hk 1
  have z2 := blk_frozen hk 2
  have z5 := blk_frozen hk 5
  have z6 := blk_frozen hk 6
  have hne2 := hne.out
  have hne3 : X ≠ h := fun e => hne2 e.symm
  have hk := Lib.hid hk
  clear kb
  go_wp2_with (fail)
  refine (closes_any _ 1).mono ?_
  rintro e w3 ⟨rfl, rfl⟩
  go_wp2_with (fail)
  go_ret2
  exact ⟨rfl, ⟨m3, m4, m7, m8, by simpa [hsCells, stepH] using (blk_set (blk_set hk.out 0 _) 1 _)⟩, Mod.trans (Mod.of_below hB.out) (by repeat (first | exact Mod.refl _ _ | refine Mod.drew ?_ | refine Mod.drewN ?_ _ | refine Mod.set (S := fun b => b = h) ?_ rfl _ _))⟩

set_option maxHeartbeats 8000000 in
theorem add_2 (w : World) (h : Nat) (H : Hs) (hh : HsAt w h H) (hn0 : 0 ≤ H.n) (hn1 : H.n ≤ 10000) (ti rf id li nn : Int) (bs : List Int) (a : Option Addr) (cap : Nat) (hv : Byt w (.slice a bs.length cap) bs) (ho : EvOk ⟨2, ti, rf, id, li, nn, bs⟩) (hn : (H.n == 0) = false) (htm : decide (ti < H.time) = false) (hcl : H.closed = 0) (hr : rf = 0) (ht2 : H.task = 0) :
    Calls Try.prog 78 #[.pointer (some ⟨h, 0, none⟩), .agg #[.int .i64 2, .int .i64 ti, .int .i64 rf, .int .i64 id, .int .i64 li, .int .i64 nn, .slice a bs.length cap]] w fun e w' => e = .returned (.tuple #[.string { data := #[] }, .bool true]) ∧ HsAt w' h (stepH H ⟨2, ti, rf, id, li, nn, bs⟩) ∧ Mod (fun b => b = h) w w' := by
  have hba := below_alloc (Below.refl w.heap.size w) (.cells #[.int .i64 2, .int .i64 ti, .int .i64 rf, .int .i64 id, .int .i64 li, .int .i64 nn, .slice a bs.length cap] 79)
  have kb := blk_new w (.cells #[.int .i64 2, .int .i64 ti, .int .i64 rf, .int .i64 id, .int .i64 li, .int .i64 nn, .slice a bs.length cap] 79)
  have hf := Lib.hid (fault_2 _ h H (hh.below hba) ti rf id li nn bs a cap (hv.below hba) ho hn htm hcl hr ht2)
  have hlt := Lib.hid (show h < w.heap.size from by obtain ⟨m3, m4, m7, m8, hk⟩ := hh; exact blk_lt hk)
  have hh := Lib.hid (hh.below hba)
  have hB := Lib.hid hba
  subst hr
  obtain ⟨qn, qt, qc, tk, qb⟩ := H
  simp only at hn0 hn1 hn hf hcl kb hB ht2
  subst hcl ht2
  clear hba ho hv htm
  go_enter Try.func78, Try.ntmps78
  go_wp2_with (fail)
  refine Calls.mono hf.out ?_
  rintro e w2 ⟨rfl, hb2⟩
  have kb := blk_below kb hb2
  have hh2 := hh.out.below hb2
  obtain ⟨m3, m4, m7, m8, hk⟩ := hh2
  have hB := Lib.hid (below_step hB.out hb2)
  clear hb2 hf hh
  generalize hX : w.heap.size = X at kb hlt ⊢
  have hX := Lib.hid hX
  have hne : h ≠ X := Nat.ne_of_lt hlt.out
  have hne := Lib.hid hne
  have b0 : w2.cell? ⟨X, 0, none⟩ = some (.int .i64 2) := blk_cell kb 0
  have b1 : w2.cell? ⟨X, 1, none⟩ = some (.int .i64 ti) := blk_cell kb 1
  have d0 : w2.cell? ⟨h, 0, none⟩ = some (.int .i64 qn) := blk_cell hk 0
  have d1 : w2.cell? ⟨h, 1, none⟩ = some (.int .i64 qt) := blk_cell hk 1
  have d2 : w2.cell? ⟨h, 2, none⟩ = some (.int .i64 0) := blk_cell hk 2
  have d5 : w2.cell? ⟨h, 5, none⟩ = some (.int .i64 0) := blk_cell hk 5
  have d6 : w2.cell? ⟨h, 6, none⟩ = some (.bool qb) := blk_cell hk 6
  have z0 := blk_frozen hk 0
  have z1 := blk_frozen hk 1
  have z2 := blk_frozen hk 2
  have z5 := blk_frozen hk 5
  have z6 := blk_frozen hk 6
  have hne2 := hne.out
  have hne3 : X ≠ h := fun e => hne2 e.symm
  have hk := Lib.hid hk
  clear kb
  go_wp2_with (fail)
  go_region
  go_wp2_with (fail)
  refine (closes_any _ 2).mono ?_
  rintro e w3 ⟨rfl, rfl⟩
  go_wp2_with (fail)
  go_ret2
  exact ⟨rfl, ⟨m3, m4, m7, m8, by simpa [hsCells, stepH] using (blk_drew (blk_set (blk_set (blk_set (blk_set hk.out 0 _) 1 _) 5 _) 6 _))⟩, Mod.trans (Mod.of_below hB.out) (by repeat (first | exact Mod.refl _ _ | refine Mod.drew ?_ | refine Mod.drewN ?_ _ | refine Mod.set (S := fun b => b = h) ?_ rfl _ _))⟩

set_option maxHeartbeats 8000000 in
theorem add_3 (w : World) (h : Nat) (H : Hs) (hh : HsAt w h H) (hn0 : 0 ≤ H.n) (hn1 : H.n ≤ 10000) (ti rf id li nn : Int) (bs : List Int) (a : Option Addr) (cap : Nat) (hv : Byt w (.slice a bs.length cap) bs) (ho : EvOk ⟨3, ti, rf, id, li, nn, bs⟩) (hn : (H.n == 0) = false) (htm : decide (ti < H.time) = false) (hcl : H.closed = 0) (h5 : (H.task != 0) = true) (h6 : H.begun = false) (hr : rf = H.task) :
    Calls Try.prog 78 #[.pointer (some ⟨h, 0, none⟩), .agg #[.int .i64 3, .int .i64 ti, .int .i64 rf, .int .i64 id, .int .i64 li, .int .i64 nn, .slice a bs.length cap]] w fun e w' => e = .returned (.tuple #[.string { data := #[] }, .bool true]) ∧ HsAt w' h (stepH H ⟨3, ti, rf, id, li, nn, bs⟩) ∧ Mod (fun b => b = h) w w' := by
  have hba := below_alloc (Below.refl w.heap.size w) (.cells #[.int .i64 3, .int .i64 ti, .int .i64 rf, .int .i64 id, .int .i64 li, .int .i64 nn, .slice a bs.length cap] 79)
  have kb := blk_new w (.cells #[.int .i64 3, .int .i64 ti, .int .i64 rf, .int .i64 id, .int .i64 li, .int .i64 nn, .slice a bs.length cap] 79)
  have hf := Lib.hid (fault_3 _ h H (hh.below hba) ti rf id li nn bs a cap (hv.below hba) ho hn htm hcl h5 h6 hr)
  have hlt := Lib.hid (show h < w.heap.size from by obtain ⟨m3, m4, m7, m8, hk⟩ := hh; exact blk_lt hk)
  have hh := Lib.hid (hh.below hba)
  have hB := Lib.hid hba
  subst hr
  obtain ⟨qn, qt, qc, tk, qb⟩ := H
  simp only at hn0 hn1 hn hf hcl kb hB h5 h6
  subst hcl
  clear hba ho hv htm
  go_enter Try.func78, Try.ntmps78
  go_wp2_with (fail)
  refine Calls.mono hf.out ?_
  rintro e w2 ⟨rfl, hb2⟩
  have kb := blk_below kb hb2
  have hh2 := hh.out.below hb2
  obtain ⟨m3, m4, m7, m8, hk⟩ := hh2
  have hB := Lib.hid (below_step hB.out hb2)
  clear hb2 hf hh
  generalize hX : w.heap.size = X at kb hlt ⊢
  have hX := Lib.hid hX
  have hne : h ≠ X := Nat.ne_of_lt hlt.out
  have hne := Lib.hid hne
  have b0 : w2.cell? ⟨X, 0, none⟩ = some (.int .i64 3) := blk_cell kb 0
  have b1 : w2.cell? ⟨X, 1, none⟩ = some (.int .i64 ti) := blk_cell kb 1
  have d0 : w2.cell? ⟨h, 0, none⟩ = some (.int .i64 qn) := blk_cell hk 0
  have d1 : w2.cell? ⟨h, 1, none⟩ = some (.int .i64 qt) := blk_cell hk 1
  have d2 : w2.cell? ⟨h, 2, none⟩ = some (.int .i64 0) := blk_cell hk 2
  have d5 : w2.cell? ⟨h, 5, none⟩ = some (.int .i64 tk) := blk_cell hk 5
  have d6 : w2.cell? ⟨h, 6, none⟩ = some (.bool qb) := blk_cell hk 6
  have z0 := blk_frozen hk 0
  have z1 := blk_frozen hk 1
  have z2 := blk_frozen hk 2
  have z5 := blk_frozen hk 5
  have z6 := blk_frozen hk 6
  have hne2 := hne.out
  have hne3 : X ≠ h := fun e => hne2 e.symm
  have hk := Lib.hid hk
  clear kb
  go_wp2_with (fail)
  go_region
  go_wp2_with (fail)
  refine (closes_any _ 3).mono ?_
  rintro e w3 ⟨rfl, rfl⟩
  go_wp2_with (fail)
  go_ret2
  exact ⟨rfl, ⟨m3, m4, m7, m8, by simpa [hsCells, stepH] using (blk_drew (blk_set (blk_set (blk_set (blk_set hk.out 0 _) 1 _) 5 _) 6 _))⟩, Mod.trans (Mod.of_below hB.out) (by repeat (first | exact Mod.refl _ _ | refine Mod.drew ?_ | refine Mod.drewN ?_ _ | refine Mod.set (S := fun b => b = h) ?_ rfl _ _))⟩

set_option maxHeartbeats 8000000 in
theorem add_4 (w : World) (h : Nat) (H : Hs) (hh : HsAt w h H) (hn0 : 0 ≤ H.n) (hn1 : H.n ≤ 10000) (ti rf id li nn : Int) (bs : List Int) (a : Option Addr) (cap : Nat) (hv : Byt w (.slice a bs.length cap) bs) (ho : EvOk ⟨4, ti, rf, id, li, nn, bs⟩) (hn : (H.n == 0) = false) (htm : decide (ti < H.time) = false) (hcl : H.closed = 0) (h5 : (H.task != 0) = true) (h6 : H.begun = true) (hr : rf = H.task) :
    Calls Try.prog 78 #[.pointer (some ⟨h, 0, none⟩), .agg #[.int .i64 4, .int .i64 ti, .int .i64 rf, .int .i64 id, .int .i64 li, .int .i64 nn, .slice a bs.length cap]] w fun e w' => e = .returned (.tuple #[.string { data := #[] }, .bool true]) ∧ HsAt w' h (stepH H ⟨4, ti, rf, id, li, nn, bs⟩) ∧ Mod (fun b => b = h) w w' := by
  have hba := below_alloc (Below.refl w.heap.size w) (.cells #[.int .i64 4, .int .i64 ti, .int .i64 rf, .int .i64 id, .int .i64 li, .int .i64 nn, .slice a bs.length cap] 79)
  have kb := blk_new w (.cells #[.int .i64 4, .int .i64 ti, .int .i64 rf, .int .i64 id, .int .i64 li, .int .i64 nn, .slice a bs.length cap] 79)
  have hf := Lib.hid (fault_4 _ h H (hh.below hba) ti rf id li nn bs a cap (hv.below hba) ho hn htm hcl h5 h6 hr)
  have hlt := Lib.hid (show h < w.heap.size from by obtain ⟨m3, m4, m7, m8, hk⟩ := hh; exact blk_lt hk)
  have hh := Lib.hid (hh.below hba)
  have hB := Lib.hid hba
  subst hr
  obtain ⟨qn, qt, qc, tk, qb⟩ := H
  simp only at hn0 hn1 hn hf hcl kb hB h5 h6
  subst hcl
  clear hba ho hv htm
  go_enter Try.func78, Try.ntmps78
  go_wp2_with (fail)
  refine Calls.mono hf.out ?_
  rintro e w2 ⟨rfl, hb2⟩
  have kb := blk_below kb hb2
  have hh2 := hh.out.below hb2
  obtain ⟨m3, m4, m7, m8, hk⟩ := hh2
  have hB := Lib.hid (below_step hB.out hb2)
  clear hb2 hf hh
  generalize hX : w.heap.size = X at kb hlt ⊢
  have hX := Lib.hid hX
  have hne : h ≠ X := Nat.ne_of_lt hlt.out
  have hne := Lib.hid hne
  have b0 : w2.cell? ⟨X, 0, none⟩ = some (.int .i64 4) := blk_cell kb 0
  have b1 : w2.cell? ⟨X, 1, none⟩ = some (.int .i64 ti) := blk_cell kb 1
  have d0 : w2.cell? ⟨h, 0, none⟩ = some (.int .i64 qn) := blk_cell hk 0
  have d1 : w2.cell? ⟨h, 1, none⟩ = some (.int .i64 qt) := blk_cell hk 1
  have d2 : w2.cell? ⟨h, 2, none⟩ = some (.int .i64 0) := blk_cell hk 2
  have d5 : w2.cell? ⟨h, 5, none⟩ = some (.int .i64 tk) := blk_cell hk 5
  have d6 : w2.cell? ⟨h, 6, none⟩ = some (.bool qb) := blk_cell hk 6
  have z0 := blk_frozen hk 0
  have z1 := blk_frozen hk 1
  have z2 := blk_frozen hk 2
  have z5 := blk_frozen hk 5
  have z6 := blk_frozen hk 6
  have hne2 := hne.out
  have hne3 : X ≠ h := fun e => hne2 e.symm
  have hk := Lib.hid hk
  clear kb
  go_wp2_with (fail)
  refine (closes_any _ 4).mono ?_
  rintro e w3 ⟨rfl, rfl⟩
  go_wp2_with (fail)
  go_ret2
  exact ⟨rfl, ⟨m3, m4, m7, m8, by simpa [hsCells, stepH] using (blk_set (blk_set (blk_set (blk_set hk.out 0 _) 1 _) 5 _) 6 _)⟩, Mod.trans (Mod.of_below hB.out) (by repeat (first | exact Mod.refl _ _ | refine Mod.drew ?_ | refine Mod.drewN ?_ _ | refine Mod.set (S := fun b => b = h) ?_ rfl _ _))⟩

set_option maxHeartbeats 8000000 in
theorem add_5 (w : World) (h : Nat) (H : Hs) (hh : HsAt w h H) (hn0 : 0 ≤ H.n) (hn1 : H.n ≤ 10000) (ti rf id li nn : Int) (bs : List Int) (a : Option Addr) (cap : Nat) (hv : Byt w (.slice a bs.length cap) bs) (ho : EvOk ⟨5, ti, rf, id, li, nn, bs⟩) (hn : (H.n == 0) = false) (htm : decide (ti < H.time) = false) (hcl : H.closed = 0) (h5 : (H.task != 0) = true) (h6 : H.begun = true) (hr : rf = H.task) :
    Calls Try.prog 78 #[.pointer (some ⟨h, 0, none⟩), .agg #[.int .i64 5, .int .i64 ti, .int .i64 rf, .int .i64 id, .int .i64 li, .int .i64 nn, .slice a bs.length cap]] w fun e w' => e = .returned (.tuple #[.string { data := #[] }, .bool true]) ∧ HsAt w' h (stepH H ⟨5, ti, rf, id, li, nn, bs⟩) ∧ Mod (fun b => b = h) w w' := by
  have hba := below_alloc (Below.refl w.heap.size w) (.cells #[.int .i64 5, .int .i64 ti, .int .i64 rf, .int .i64 id, .int .i64 li, .int .i64 nn, .slice a bs.length cap] 79)
  have kb := blk_new w (.cells #[.int .i64 5, .int .i64 ti, .int .i64 rf, .int .i64 id, .int .i64 li, .int .i64 nn, .slice a bs.length cap] 79)
  have hf := Lib.hid (fault_5 _ h H (hh.below hba) ti rf id li nn bs a cap (hv.below hba) ho hn htm hcl h5 h6 hr)
  have hlt := Lib.hid (show h < w.heap.size from by obtain ⟨m3, m4, m7, m8, hk⟩ := hh; exact blk_lt hk)
  have hh := Lib.hid (hh.below hba)
  have hB := Lib.hid hba
  subst hr
  obtain ⟨qn, qt, qc, tk, qb⟩ := H
  simp only at hn0 hn1 hn hf hcl kb hB h5 h6
  subst hcl
  clear hba ho hv htm
  go_enter Try.func78, Try.ntmps78
  go_wp2_with (fail)
  refine Calls.mono hf.out ?_
  rintro e w2 ⟨rfl, hb2⟩
  have kb := blk_below kb hb2
  have hh2 := hh.out.below hb2
  obtain ⟨m3, m4, m7, m8, hk⟩ := hh2
  have hB := Lib.hid (below_step hB.out hb2)
  clear hb2 hf hh
  generalize hX : w.heap.size = X at kb hlt ⊢
  have hX := Lib.hid hX
  have hne : h ≠ X := Nat.ne_of_lt hlt.out
  have hne := Lib.hid hne
  have b0 : w2.cell? ⟨X, 0, none⟩ = some (.int .i64 5) := blk_cell kb 0
  have b1 : w2.cell? ⟨X, 1, none⟩ = some (.int .i64 ti) := blk_cell kb 1
  have d0 : w2.cell? ⟨h, 0, none⟩ = some (.int .i64 qn) := blk_cell hk 0
  have d1 : w2.cell? ⟨h, 1, none⟩ = some (.int .i64 qt) := blk_cell hk 1
  have d2 : w2.cell? ⟨h, 2, none⟩ = some (.int .i64 0) := blk_cell hk 2
  have d5 : w2.cell? ⟨h, 5, none⟩ = some (.int .i64 tk) := blk_cell hk 5
  have d6 : w2.cell? ⟨h, 6, none⟩ = some (.bool qb) := blk_cell hk 6
  have z0 := blk_frozen hk 0
  have z1 := blk_frozen hk 1
  have z2 := blk_frozen hk 2
  have z5 := blk_frozen hk 5
  have z6 := blk_frozen hk 6
  have hne2 := hne.out
  have hne3 : X ≠ h := fun e => hne2 e.symm
  have hk := Lib.hid hk
  clear kb
  go_wp2_with (fail)
  refine (closes_any _ 5).mono ?_
  rintro e w3 ⟨rfl, rfl⟩
  go_wp2_with (fail)
  go_ret2
  exact ⟨rfl, ⟨m3, m4, m7, m8, by simpa [hsCells, stepH] using (blk_set (blk_set (blk_set (blk_set hk.out 0 _) 1 _) 5 _) 6 _)⟩, Mod.trans (Mod.of_below hB.out) (by repeat (first | exact Mod.refl _ _ | refine Mod.drew ?_ | refine Mod.drewN ?_ _ | refine Mod.set (S := fun b => b = h) ?_ rfl _ _))⟩

set_option maxHeartbeats 8000000 in
theorem add_6 (w : World) (h : Nat) (H : Hs) (hh : HsAt w h H) (hn0 : 0 ≤ H.n) (hn1 : H.n ≤ 10000) (ti rf id li nn : Int) (bs : List Int) (a : Option Addr) (cap : Nat) (hv : Byt w (.slice a bs.length cap) bs) (ho : EvOk ⟨6, ti, rf, id, li, nn, bs⟩) (hn : (H.n == 0) = false) (htm : decide (ti < H.time) = false) (hcl : H.closed = 0) (h5 : (H.task != 0) = true) (h6 : H.begun = true) (hr : rf = H.task) :
    Calls Try.prog 78 #[.pointer (some ⟨h, 0, none⟩), .agg #[.int .i64 6, .int .i64 ti, .int .i64 rf, .int .i64 id, .int .i64 li, .int .i64 nn, .slice a bs.length cap]] w fun e w' => e = .returned (.tuple #[.string { data := #[] }, .bool true]) ∧ HsAt w' h (stepH H ⟨6, ti, rf, id, li, nn, bs⟩) ∧ Mod (fun b => b = h) w w' := by
  have hba := below_alloc (Below.refl w.heap.size w) (.cells #[.int .i64 6, .int .i64 ti, .int .i64 rf, .int .i64 id, .int .i64 li, .int .i64 nn, .slice a bs.length cap] 79)
  have kb := blk_new w (.cells #[.int .i64 6, .int .i64 ti, .int .i64 rf, .int .i64 id, .int .i64 li, .int .i64 nn, .slice a bs.length cap] 79)
  have hf := Lib.hid (fault_6 _ h H (hh.below hba) ti rf id li nn bs a cap (hv.below hba) ho hn htm hcl h5 h6 hr)
  have hlt := Lib.hid (show h < w.heap.size from by obtain ⟨m3, m4, m7, m8, hk⟩ := hh; exact blk_lt hk)
  have hh := Lib.hid (hh.below hba)
  have hB := Lib.hid hba
  subst hr
  obtain ⟨qn, qt, qc, tk, qb⟩ := H
  simp only at hn0 hn1 hn hf hcl kb hB h5 h6
  subst hcl
  clear hba ho hv htm
  go_enter Try.func78, Try.ntmps78
  go_wp2_with (fail)
  refine Calls.mono hf.out ?_
  rintro e w2 ⟨rfl, hb2⟩
  have kb := blk_below kb hb2
  have hh2 := hh.out.below hb2
  obtain ⟨m3, m4, m7, m8, hk⟩ := hh2
  have hB := Lib.hid (below_step hB.out hb2)
  clear hb2 hf hh
  generalize hX : w.heap.size = X at kb hlt ⊢
  have hX := Lib.hid hX
  have hne : h ≠ X := Nat.ne_of_lt hlt.out
  have hne := Lib.hid hne
  have b0 : w2.cell? ⟨X, 0, none⟩ = some (.int .i64 6) := blk_cell kb 0
  have b1 : w2.cell? ⟨X, 1, none⟩ = some (.int .i64 ti) := blk_cell kb 1
  have d0 : w2.cell? ⟨h, 0, none⟩ = some (.int .i64 qn) := blk_cell hk 0
  have d1 : w2.cell? ⟨h, 1, none⟩ = some (.int .i64 qt) := blk_cell hk 1
  have d2 : w2.cell? ⟨h, 2, none⟩ = some (.int .i64 0) := blk_cell hk 2
  have d5 : w2.cell? ⟨h, 5, none⟩ = some (.int .i64 tk) := blk_cell hk 5
  have d6 : w2.cell? ⟨h, 6, none⟩ = some (.bool qb) := blk_cell hk 6
  have z0 := blk_frozen hk 0
  have z1 := blk_frozen hk 1
  have z2 := blk_frozen hk 2
  have z5 := blk_frozen hk 5
  have z6 := blk_frozen hk 6
  have hne2 := hne.out
  have hne3 : X ≠ h := fun e => hne2 e.symm
  have hk := Lib.hid hk
  clear kb
  go_wp2_with (fail)
  refine (closes_any _ 6).mono ?_
  rintro e w3 ⟨rfl, rfl⟩
  go_wp2_with (fail)
  go_ret2
  exact ⟨rfl, ⟨m3, m4, m7, m8, by simpa [hsCells, stepH] using (blk_set (blk_set (blk_set (blk_set hk.out 0 _) 1 _) 5 _) 6 _)⟩, Mod.trans (Mod.of_below hB.out) (by repeat (first | exact Mod.refl _ _ | refine Mod.drew ?_ | refine Mod.drewN ?_ _ | refine Mod.set (S := fun b => b = h) ?_ rfl _ _))⟩

set_option maxHeartbeats 8000000 in
theorem add_20 (w : World) (h : Nat) (H : Hs) (hh : HsAt w h H) (hn0 : 0 ≤ H.n) (hn1 : H.n ≤ 10000) (ti rf id li nn : Int) (bs : List Int) (a : Option Addr) (cap : Nat) (hv : Byt w (.slice a bs.length cap) bs) (ho : EvOk ⟨20, ti, rf, id, li, nn, bs⟩) (hn : (H.n == 0) = false) (htm : decide (ti < H.time) = false) (hcl : H.closed = 0) (hr : rf = 0) :
    Calls Try.prog 78 #[.pointer (some ⟨h, 0, none⟩), .agg #[.int .i64 20, .int .i64 ti, .int .i64 rf, .int .i64 id, .int .i64 li, .int .i64 nn, .slice a bs.length cap]] w fun e w' => e = .returned (.tuple #[.string { data := #[] }, .bool true]) ∧ HsAt w' h (stepH H ⟨20, ti, rf, id, li, nn, bs⟩) ∧ Mod (fun b => b = h) w w' := by
  have hba := below_alloc (Below.refl w.heap.size w) (.cells #[.int .i64 20, .int .i64 ti, .int .i64 rf, .int .i64 id, .int .i64 li, .int .i64 nn, .slice a bs.length cap] 79)
  have kb := blk_new w (.cells #[.int .i64 20, .int .i64 ti, .int .i64 rf, .int .i64 id, .int .i64 li, .int .i64 nn, .slice a bs.length cap] 79)
  have hf := Lib.hid (fault_20 _ h H (hh.below hba) ti rf id li nn bs a cap (hv.below hba) ho hn htm hcl hr)
  have hlt := Lib.hid (show h < w.heap.size from by obtain ⟨m3, m4, m7, m8, hk⟩ := hh; exact blk_lt hk)
  have hh := Lib.hid (hh.below hba)
  have hB := Lib.hid hba
  subst hr
  obtain ⟨qn, qt, qc, tk, qb⟩ := H
  simp only at hn0 hn1 hn hf hcl kb hB
  subst hcl
  clear hba ho hv htm
  go_enter Try.func78, Try.ntmps78
  go_wp2_with (fail)
  refine Calls.mono hf.out ?_
  rintro e w2 ⟨rfl, hb2⟩
  have kb := blk_below kb hb2
  have hh2 := hh.out.below hb2
  obtain ⟨m3, m4, m7, m8, hk⟩ := hh2
  have hB := Lib.hid (below_step hB.out hb2)
  clear hb2 hf hh
  generalize hX : w.heap.size = X at kb hlt ⊢
  have hX := Lib.hid hX
  have hne : h ≠ X := Nat.ne_of_lt hlt.out
  have hne := Lib.hid hne
  have b0 : w2.cell? ⟨X, 0, none⟩ = some (.int .i64 20) := blk_cell kb 0
  have b1 : w2.cell? ⟨X, 1, none⟩ = some (.int .i64 ti) := blk_cell kb 1
  have d0 : w2.cell? ⟨h, 0, none⟩ = some (.int .i64 qn) := blk_cell hk 0
  have d1 : w2.cell? ⟨h, 1, none⟩ = some (.int .i64 qt) := blk_cell hk 1
  have d2 : w2.cell? ⟨h, 2, none⟩ = some (.int .i64 0) := blk_cell hk 2
  have d5 : w2.cell? ⟨h, 5, none⟩ = some (.int .i64 tk) := blk_cell hk 5
  have d6 : w2.cell? ⟨h, 6, none⟩ = some (.bool qb) := blk_cell hk 6
  have z0 := blk_frozen hk 0
  have z1 := blk_frozen hk 1
  have z2 := blk_frozen hk 2
  have z5 := blk_frozen hk 5
  have z6 := blk_frozen hk 6
  have hne2 := hne.out
  have hne3 : X ≠ h := fun e => hne2 e.symm
  have hk := Lib.hid hk
  clear kb
  go_wp2_with (fail)
  refine (closes_any _ 20).mono ?_
  rintro e w3 ⟨rfl, rfl⟩
  go_wp2_with (fail)
  go_ret2
  exact ⟨rfl, ⟨m3, m4, m7, m8, by simpa [hsCells, stepH] using (blk_set (blk_set (blk_set hk.out 0 _) 1 _) 2 _)⟩, Mod.trans (Mod.of_below hB.out) (by repeat (first | exact Mod.refl _ _ | refine Mod.drew ?_ | refine Mod.drewN ?_ _ | refine Mod.set (S := fun b => b = h) ?_ rfl _ _))⟩

end Go.Proofs.Ytedpeambmmhcnaa.Base

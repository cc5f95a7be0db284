/- A workflow's twin, and what a run ended with. Conditions: those at each theorem. -/
import Derived.Test.YtedpeambmmhcnaaRead
import Derived.StillTailTactics
set_option maxRecDepth 100000
namespace Go.Proofs.Ytedpeambmmhcnaa.Base
open Go.RowKit Go.Maps Go.Proofs.YtedpeambmmhcnaaW.PrintWords Go.Proofs.Ytedpeambmmhcnaa.Kit

set_option maxHeartbeats 4000000 in
theorem result_open (w : World) (F M : Nat) (lv : Value) (S : St) (h : FlowAt w F M lv S) (hs : statusOf S.L = 1) :
    Calls Try.prog 27 #[.pointer (some ⟨F, 0, none⟩)] w fun e w' => e = .returned (.slice none 0 0) ∧ Below w.heap.size w w' := by
  have H := Lib.hid h
  clear h
  go_enter Try.func27, Try.ntmps27
  go_wp2_with (fail)
  refine (fstatus _ _ _ _ _ H).mono ?_
  rintro e w' ⟨rfl, hb⟩
  rw [hs]
  go_wp2_with (fail)
  go_ret
  exact ⟨rfl, hb⟩

set_option maxHeartbeats 4000000 in
theorem result_any (w : World) (F M : Nat) (lv : Value) (S : St) (h : FlowAt w F M lv S) (e : Ev) (he : S.L.getLast? = some e) (hs : statusOf S.L ≠ 1) :
    Calls Try.prog 27 #[.pointer (some ⟨F, 0, none⟩)] w fun e' w' => ∃ v, e' = .returned v ∧ Byt w' v e.data ∧ Below w.heap.size w w' := by
  have H := Lib.hid h
  have hf := h.few
  rcases last_split S.L with hL | ⟨k, e', hk, hl, hg⟩
  · simp [hL] at he
  rw [he] at hl
  cases hl
  obtain ⟨A, cap', u, rfl, hu, hc⟩ := h.row.get hg
  rw [hk] at hf
  have hs2 : (statusOf S.L == 1) = false := by simpa using hs
  clear h hs
  go_enter Try.func27, Try.ntmps27
  go_wp2_with (fail)
  refine (fstatus _ _ _ _ _ H).mono ?_
  rintro e1 w1 ⟨rfl, hb⟩
  go_wp2_with (fail)
  have H1 : FlowAt w1 F M _ S := FlowAt.below H hb
  have c4 := H1.cl
  obtain ⟨A', cap2, u', hA, hu', hc'⟩ := H1.row.get hg
  cases hA
  have c6 : w1.cell? ⟨A, k * 7 + 6, none⟩ = some u' := hc' 6 _ rfl
  rw [hk] at c4
  have hu2 := Lib.hid hu'
  have hb1 := Lib.hid hb
  clear H1 hc hc' hu' hb H
  have hw : IntKind.i64.wrap (k : Int) = k := by simp [IntKind.wrap, IntKind.signed, IntKind.bits]; omega
  have hi1 : (k : Int) < (k : Int) + 1 := by omega
  have hi0 : ¬ ((k : Int) < 0) := by omega
  go_still_tail 13, (by kernel_rfl)
  change wpList _ _ _ _ _ w1.drew
  have hu3 : Byt w1.drew u' e.data := hu2
  go_wp2_with (fail)
  refine (clone_any _ _ _ hu3).mono ?_
  rintro e2 w2 ⟨v', rfl, hv', hb2⟩
  go_wp2_with (fail)
  go_ret
  exact ⟨v', rfl, hv', below_step (below_drew hb1) hb2⟩

/-! ### The map's clone, the workflow's twin -/
theorem eqlMapNil (w : World) (p : Option Nat) : (binOp .eql 73 (.map p) (.map none)).run Try.prog w = .ok (.bool p.isNone) w := run_eql_map_nil_sl w 73 _ _ p u73

set_option maxHeartbeats 2000000 in
theorem maps_clone (w : World) (M n : Nat) (o : Int → Option Opn) (h : Omap w M n o) :
    Calls Try.prog 63 #[.map (some M)] w fun e w' => e = .returned (.map (some w.heap.size)) ∧ Omap w' w.heap.size n o ∧ w'.heap.size = w.heap.size + 1 ∧ Below w.heap.size w w' := by
  obtain ⟨D, ⟨es, clock, hb, F, hs, hD⟩, hv⟩ := h
  have hm := Lib.hid (show Omap (w.alloc (.map es clock)) w.heap.size n o from ⟨D, ⟨es, clock, (MapKept.heap_alloc w _).1, F, hs, hD⟩, hv⟩)
  have hq := eqlMapNil
  clear F hs hD hv
  go_enter Try.func63, Try.ntmps63
  go_wp2_with (fail)
  rw [run_callFunc_extern Try.func94 (by kernel_rfl) (by kernel_rfl) (by kernel_rfl) (e := Extern.MapsClone.clone) (by kernel_rfl), run_maps_clone_sl w 73 hb]
  simp only [Result.andThen]
  rw [Oper.upon_value]
  go_wp2_with (fail)
  rw [run_typeAssert_map_sl _ 73 20 _ _ _ u73]
  simp only [Result.andThen]
  rw [Oper.upon_value]
  go_wp2_with (fail)
  go_ret
  exact ⟨rfl, hm, by simp, below_alloc (Below.refl _ _) _⟩

set_option maxHeartbeats 4000000 in
theorem twin_any (w : World) (F M : Nat) (lv : Value) (S : St) (h : FlowAt w F M lv S) :
    Calls Try.prog 22 #[.pointer (some ⟨F, 0, none⟩)] w fun e w' => ∃ X M', e = .returned (.pointer (some ⟨X, 0, none⟩)) ∧ w.heap.size ≤ X ∧ w.heap.size ≤ M' ∧ FlowAt w' X M' lv S ∧ Below w.heap.size w w' := by
  obtain ⟨a, cap, rfl⟩ := h.lv
  have H := Lib.hid h
  have hu := Try.underlying75
  obtain ⟨c0, c1, c2, c3, c4, c5, c6, c7, c8, c9, c10, c11⟩ := h.cells
  have c11' : ∀ o, (w.alloc o).cell? ⟨F, 11, none⟩ = some (.map (some M)) := fun o => Lib.cell?_alloc_some _ c11
  have hmap := Lib.hid h.map
  have hrow := Lib.hid h.row
  have hfew := Lib.hid h.few
  clear h
  have kb := Lib.hid (blk_new w (.cells (flowCells S (.slice a S.L.length cap) M) 75))
  have hB := Lib.hid (below_alloc (Below.refl w.heap.size w) (.cells (flowCells S (.slice a S.L.length cap) M) 75))
  go_enter Try.func22, Try.ntmps22
  go_wp2_with (fail)
  have hm : Omap (w.alloc (.cells (flowCells S (.slice a S.L.length cap) M) 75)) M S.L.length S.o := Omap.mod (S := fun _ => False) hmap (Mod.of_below hB) id
  refine (maps_clone (w.alloc (.cells (flowCells S (.slice a S.L.length cap) M) 75)) M _ _ hm).mono ?_
  rintro e w1 ⟨rfl, hm1, _, hb1⟩
  have hM : w.heap.size < (w.alloc (.cells (flowCells S (.slice a S.L.length cap) M) 75)).heap.size := by simp
  have hb2 := Lib.hid (below_step hB hb1)
  have kx := blk_below (show _ from kb) hb1
  have hm2 := Lib.hid hm1
  clear hm hm1 c0 c1 c2 c3 c4 c5 c6 c7 c8 c9 c10 c11 c11' hB kb hb1
  generalize (w.alloc (.cells (flowCells S (.slice a S.L.length cap) M) 75)).heap.size = M' at *
  have hM := Lib.hid hM
  generalize hX : w.heap.size = X at *
  have hX := Lib.hid hX
  have x11 : w1.cell? ⟨X, 11, none⟩ = some (.map (some M)) := blk_cell kx 11
  have f11 := blk_frozen kx 11
  have kx := Lib.hid kx
  go_wp2_with (fail)
  go_ret
  obtain rfl : w.heap.size = X := hX
  have hb3 : Below w.heap.size w (w1.setCell ⟨w.heap.size, 11, none⟩ (.map (some M'))) := below_set (show _ from hb2) (Nat.le_refl _)
  have hMM : Mod (fun k => k = w.heap.size) w1 (w1.setCell ⟨w.heap.size, 11, none⟩ (.map (some M'))) := Mod.set (S := fun k => k = w.heap.size) (Mod.refl _ _) rfl _ _
  exact ⟨w.heap.size, M', rfl, Nat.le_refl _, Nat.le_of_lt hM, ⟨blk_set (show _ from kx) 11 (.map (some M')), EvRow.below hrow hb3, Omap.mod hm2 hMM (Nat.ne_of_gt hM), hfew⟩, hb3⟩

end Go.Proofs.Ytedpeambmmhcnaa.Base

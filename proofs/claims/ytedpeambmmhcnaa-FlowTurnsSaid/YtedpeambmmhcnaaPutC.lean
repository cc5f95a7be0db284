/- An event of kind 19, 21, 22, 23 is put. Conditions: those at each theorem. -/
import Derived.Test.YtedpeambmmhcnaaPutHead
set_option maxRecDepth 100000
namespace Go.Proofs.Ytedpeambmmhcnaa.Base
open Go.RowKit Go.Maps Go.Proofs.YtedpeambmmhcnaaW.PrintWords Go.Proofs.Ytedpeambmmhcnaa.Kit

set_option maxHeartbeats 8000000 in
theorem put_19 (w : World) (F M : Nat) (lv : Value) (S : St) (h : FlowAt w F M lv S) (hL : S.L.length ≤ 8000) (ti rf id li nn : Int) (bs : List Int) (v : Value) (hv : Byt w v bs) :
    Calls Try.prog 38 #[.pointer (some ⟨F, 0, none⟩), .agg #[.int .i64 19, .int .i64 ti, .int .i64 rf, .int .i64 id, .int .i64 li, .int .i64 nn, v]] w fun e w' => ∃ lv', e = .returned (.int .i64 (S.L.length + 1)) ∧
      FlowAt w' F M lv' { S with L := S.L ++ [⟨19, ti, rf, id, li, nn, bs⟩], task := 0, o := fun _ => none } ∧ Mod (Own F M) w w' := by
  refine put_head w F M lv S h hL 19 ti rf id li nn bs v hv _ ?_
  clear h hv
  intro X _ hne u1 u6 u7 u8 u9 u10 u11 u12 u13 u14 u15 u16 u17 u18 u19 u20 wc hcut r hr
  obtain ⟨ra, rb, rc, hr⟩ := hr
  simp only [Try.f38, Option.some.injEq, Code.seq.injEq] at hr
  obtain ⟨_, _, _, rfl⟩ := hr
  obtain ⟨g, cap, v9, hF, hrow, hmap, hbox, hmod⟩ := hcut
  have q0 : wc.cell? ⟨X, 0, none⟩ = some (.int .i64 19) := blk_cell hbox 0
  have q2 : wc.cell? ⟨X, 2, none⟩ = some (.int .i64 rf) := blk_cell hbox 2
  have q3 : wc.cell? ⟨X, 3, none⟩ = some (.int .i64 id) := blk_cell hbox 3
  have q4 : wc.cell? ⟨X, 4, none⟩ = some (.int .i64 li) := blk_cell hbox 4
  have q5 : wc.cell? ⟨X, 5, none⟩ = some (.int .i64 nn) := blk_cell hbox 5
  have x2 : wc.cell? ⟨F, 2, none⟩ = some (.int .i64 S.list) := blk_cell hF 2
  have x3 : wc.cell? ⟨F, 3, none⟩ = some (.int .i64 S.n) := blk_cell hF 3
  have x4 : wc.cell? ⟨F, 4, none⟩ = some (.slice (some ⟨g, 0, none⟩) (S.L.length + 1) cap) := blk_cell hF 4
  have x5 : wc.cell? ⟨F, 5, none⟩ = some (.int .i64 S.task) := blk_cell hF 5
  have x6 : wc.cell? ⟨F, 6, none⟩ = some (.int .i64 S.time) := blk_cell hF 6
  have x7 : wc.cell? ⟨F, 7, none⟩ = some (.int .i64 S.begun) := blk_cell hF 7
  have x8 : wc.cell? ⟨F, 8, none⟩ = some (.int .i64 S.turn) := blk_cell hF 8
  have x9 : wc.cell? ⟨F, 9, none⟩ = some (.bool S.late) := blk_cell hF 9
  have x10 : wc.cell? ⟨F, 10, none⟩ = some (.bool S.asked) := blk_cell hF 10
  have x11 : wc.cell? ⟨F, 11, none⟩ = some (.map (some M)) := blk_cell hF 11
  have z2 := blk_frozen hF 2
  have z3 := blk_frozen hF 3
  have z5 := blk_frozen hF 5
  have z6 := blk_frozen hF 6
  have z7 := blk_frozen hF 7
  have z8 := blk_frozen hF 8
  have z9 := blk_frozen hF 9
  have z10 := blk_frozen hF 10
  have hF := Lib.hid hF
  have hrow := Lib.hid hrow
  have hmap := Lib.hid hmap
  have hbox := Lib.hid hbox
  have hmod := Lib.hid hmod
  have hMF : F ≠ M := by
    intro e
    obtain ⟨es, clock, hb⟩ := (show Omap wc M _ S.o from hmap).blk
    rw [← e, (show _ from hF)] at hb
    simp at hb
  obtain ⟨es, clock, hb⟩ := (show Omap wc M _ S.o from hmap).blk
  have hb5 : (wc.setCell ⟨F, 5, none⟩ (.int .i64 0)).heap[M]? = some (.map es clock) := (Below.heap_setCell _ _ _ _ (fun e => hMF e.symm)).trans hb
  have hclr := fun ty => run_clear hb5 ty
  have hb5 := Lib.hid hb5
  have hb := Lib.hid hb
  go_wp2_with (fail)
  go_ret
  have hF5 := blk_set (show _ from hF) 5 (.int .i64 0)
  exact ⟨_, rfl, mid_end2 (show _ from hF) ⟨_, _, _, rfl⟩ hrow hmap ((omap_cleared (show _ from hb5)).mono (Nat.zero_le _)) hmod (mod_setBlock (Mod.set (S := Own F M) (Mod.refl _ _) (Or.inl rfl) _ _) (Or.inr rfl) (show _ from hb5) _)
    ((ChangeMaps.heap_setBlock_other (show _ from hb5) _ hMF).trans hF5) rfl (by simp) (by simp; omega) rfl⟩

set_option maxHeartbeats 8000000 in
theorem put_21 (w : World) (F M : Nat) (lv : Value) (S : St) (h : FlowAt w F M lv S) (hL : S.L.length ≤ 8000) (ti rf id li nn : Int) (bs : List Int) (v : Value) (hv : Byt w v bs) :
    Calls Try.prog 38 #[.pointer (some ⟨F, 0, none⟩), .agg #[.int .i64 21, .int .i64 ti, .int .i64 rf, .int .i64 id, .int .i64 li, .int .i64 nn, v]] w fun e w' => ∃ lv', e = .returned (.int .i64 (S.L.length + 1)) ∧
      FlowAt w' F M lv' { S with L := S.L ++ [⟨21, ti, rf, id, li, nn, bs⟩], task := 0, o := fun _ => none } ∧ Mod (Own F M) w w' := by
  refine put_head w F M lv S h hL 21 ti rf id li nn bs v hv _ ?_
  clear h hv
  intro X _ hne u1 u6 u7 u8 u9 u10 u11 u12 u13 u14 u15 u16 u17 u18 u19 u20 wc hcut r hr
  obtain ⟨ra, rb, rc, hr⟩ := hr
  simp only [Try.f38, Option.some.injEq, Code.seq.injEq] at hr
  obtain ⟨_, _, _, rfl⟩ := hr
  obtain ⟨g, cap, v9, hF, hrow, hmap, hbox, hmod⟩ := hcut
  have q0 : wc.cell? ⟨X, 0, none⟩ = some (.int .i64 21) := blk_cell hbox 0
  have q2 : wc.cell? ⟨X, 2, none⟩ = some (.int .i64 rf) := blk_cell hbox 2
  have q3 : wc.cell? ⟨X, 3, none⟩ = some (.int .i64 id) := blk_cell hbox 3
  have q4 : wc.cell? ⟨X, 4, none⟩ = some (.int .i64 li) := blk_cell hbox 4
  have q5 : wc.cell? ⟨X, 5, none⟩ = some (.int .i64 nn) := blk_cell hbox 5
  have x2 : wc.cell? ⟨F, 2, none⟩ = some (.int .i64 S.list) := blk_cell hF 2
  have x3 : wc.cell? ⟨F, 3, none⟩ = some (.int .i64 S.n) := blk_cell hF 3
  have x4 : wc.cell? ⟨F, 4, none⟩ = some (.slice (some ⟨g, 0, none⟩) (S.L.length + 1) cap) := blk_cell hF 4
  have x5 : wc.cell? ⟨F, 5, none⟩ = some (.int .i64 S.task) := blk_cell hF 5
  have x6 : wc.cell? ⟨F, 6, none⟩ = some (.int .i64 S.time) := blk_cell hF 6
  have x7 : wc.cell? ⟨F, 7, none⟩ = some (.int .i64 S.begun) := blk_cell hF 7
  have x8 : wc.cell? ⟨F, 8, none⟩ = some (.int .i64 S.turn) := blk_cell hF 8
  have x9 : wc.cell? ⟨F, 9, none⟩ = some (.bool S.late) := blk_cell hF 9
  have x10 : wc.cell? ⟨F, 10, none⟩ = some (.bool S.asked) := blk_cell hF 10
  have x11 : wc.cell? ⟨F, 11, none⟩ = some (.map (some M)) := blk_cell hF 11
  have z2 := blk_frozen hF 2
  have z3 := blk_frozen hF 3
  have z5 := blk_frozen hF 5
  have z6 := blk_frozen hF 6
  have z7 := blk_frozen hF 7
  have z8 := blk_frozen hF 8
  have z9 := blk_frozen hF 9
  have z10 := blk_frozen hF 10
  have hF := Lib.hid hF
  have hrow := Lib.hid hrow
  have hmap := Lib.hid hmap
  have hbox := Lib.hid hbox
  have hmod := Lib.hid hmod
  have hMF : F ≠ M := by
    intro e
    obtain ⟨es, clock, hb⟩ := (show Omap wc M _ S.o from hmap).blk
    rw [← e, (show _ from hF)] at hb
    simp at hb
  obtain ⟨es, clock, hb⟩ := (show Omap wc M _ S.o from hmap).blk
  have hb5 : (wc.setCell ⟨F, 5, none⟩ (.int .i64 0)).heap[M]? = some (.map es clock) := (Below.heap_setCell _ _ _ _ (fun e => hMF e.symm)).trans hb
  have hclr := fun ty => run_clear hb5 ty
  have hb5 := Lib.hid hb5
  have hb := Lib.hid hb
  go_wp2_with (fail)
  go_ret
  have hF5 := blk_set (show _ from hF) 5 (.int .i64 0)
  exact ⟨_, rfl, mid_end2 (show _ from hF) ⟨_, _, _, rfl⟩ hrow hmap ((omap_cleared (show _ from hb5)).mono (Nat.zero_le _)) hmod (mod_setBlock (Mod.set (S := Own F M) (Mod.refl _ _) (Or.inl rfl) _ _) (Or.inr rfl) (show _ from hb5) _)
    ((ChangeMaps.heap_setBlock_other (show _ from hb5) _ hMF).trans hF5) rfl (by simp) (by simp; omega) rfl⟩

set_option maxHeartbeats 8000000 in
theorem put_22 (w : World) (F M : Nat) (lv : Value) (S : St) (h : FlowAt w F M lv S) (hL : S.L.length ≤ 8000) (ti rf id li nn : Int) (bs : List Int) (v : Value) (hv : Byt w v bs) :
    Calls Try.prog 38 #[.pointer (some ⟨F, 0, none⟩), .agg #[.int .i64 22, .int .i64 ti, .int .i64 rf, .int .i64 id, .int .i64 li, .int .i64 nn, v]] w fun e w' => ∃ lv', e = .returned (.int .i64 (S.L.length + 1)) ∧
      FlowAt w' F M lv' { S with L := S.L ++ [⟨22, ti, rf, id, li, nn, bs⟩], task := 0, o := fun _ => none } ∧ Mod (Own F M) w w' := by
  refine put_head w F M lv S h hL 22 ti rf id li nn bs v hv _ ?_
  clear h hv
  intro X _ hne u1 u6 u7 u8 u9 u10 u11 u12 u13 u14 u15 u16 u17 u18 u19 u20 wc hcut r hr
  obtain ⟨ra, rb, rc, hr⟩ := hr
  simp only [Try.f38, Option.some.injEq, Code.seq.injEq] at hr
  obtain ⟨_, _, _, rfl⟩ := hr
  obtain ⟨g, cap, v9, hF, hrow, hmap, hbox, hmod⟩ := hcut
  have q0 : wc.cell? ⟨X, 0, none⟩ = some (.int .i64 22) := blk_cell hbox 0
  have q2 : wc.cell? ⟨X, 2, none⟩ = some (.int .i64 rf) := blk_cell hbox 2
  have q3 : wc.cell? ⟨X, 3, none⟩ = some (.int .i64 id) := blk_cell hbox 3
  have q4 : wc.cell? ⟨X, 4, none⟩ = some (.int .i64 li) := blk_cell hbox 4
  have q5 : wc.cell? ⟨X, 5, none⟩ = some (.int .i64 nn) := blk_cell hbox 5
  have x2 : wc.cell? ⟨F, 2, none⟩ = some (.int .i64 S.list) := blk_cell hF 2
  have x3 : wc.cell? ⟨F, 3, none⟩ = some (.int .i64 S.n) := blk_cell hF 3
  have x4 : wc.cell? ⟨F, 4, none⟩ = some (.slice (some ⟨g, 0, none⟩) (S.L.length + 1) cap) := blk_cell hF 4
  have x5 : wc.cell? ⟨F, 5, none⟩ = some (.int .i64 S.task) := blk_cell hF 5
  have x6 : wc.cell? ⟨F, 6, none⟩ = some (.int .i64 S.time) := blk_cell hF 6
  have x7 : wc.cell? ⟨F, 7, none⟩ = some (.int .i64 S.begun) := blk_cell hF 7
  have x8 : wc.cell? ⟨F, 8, none⟩ = some (.int .i64 S.turn) := blk_cell hF 8
  have x9 : wc.cell? ⟨F, 9, none⟩ = some (.bool S.late) := blk_cell hF 9
  have x10 : wc.cell? ⟨F, 10, none⟩ = some (.bool S.asked) := blk_cell hF 10
  have x11 : wc.cell? ⟨F, 11, none⟩ = some (.map (some M)) := blk_cell hF 11
  have z2 := blk_frozen hF 2
  have z3 := blk_frozen hF 3
  have z5 := blk_frozen hF 5
  have z6 := blk_frozen hF 6
  have z7 := blk_frozen hF 7
  have z8 := blk_frozen hF 8
  have z9 := blk_frozen hF 9
  have z10 := blk_frozen hF 10
  have hF := Lib.hid hF
  have hrow := Lib.hid hrow
  have hmap := Lib.hid hmap
  have hbox := Lib.hid hbox
  have hmod := Lib.hid hmod
  have hMF : F ≠ M := by
    intro e
    obtain ⟨es, clock, hb⟩ := (show Omap wc M _ S.o from hmap).blk
    rw [← e, (show _ from hF)] at hb
    simp at hb
  obtain ⟨es, clock, hb⟩ := (show Omap wc M _ S.o from hmap).blk
  have hb5 : (wc.setCell ⟨F, 5, none⟩ (.int .i64 0)).heap[M]? = some (.map es clock) := (Below.heap_setCell _ _ _ _ (fun e => hMF e.symm)).trans hb
  have hclr := fun ty => run_clear hb5 ty
  have hb5 := Lib.hid hb5
  have hb := Lib.hid hb
  go_wp2_with (fail)
  go_ret
  have hF5 := blk_set (show _ from hF) 5 (.int .i64 0)
  exact ⟨_, rfl, mid_end2 (show _ from hF) ⟨_, _, _, rfl⟩ hrow hmap ((omap_cleared (show _ from hb5)).mono (Nat.zero_le _)) hmod (mod_setBlock (Mod.set (S := Own F M) (Mod.refl _ _) (Or.inl rfl) _ _) (Or.inr rfl) (show _ from hb5) _)
    ((ChangeMaps.heap_setBlock_other (show _ from hb5) _ hMF).trans hF5) rfl (by simp) (by simp; omega) rfl⟩

set_option maxHeartbeats 8000000 in
theorem put_23 (w : World) (F M : Nat) (lv : Value) (S : St) (h : FlowAt w F M lv S) (hL : S.L.length ≤ 8000) (ti rf id li nn : Int) (bs : List Int) (v : Value) (hv : Byt w v bs) :
    Calls Try.prog 38 #[.pointer (some ⟨F, 0, none⟩), .agg #[.int .i64 23, .int .i64 ti, .int .i64 rf, .int .i64 id, .int .i64 li, .int .i64 nn, v]] w fun e w' => ∃ lv', e = .returned (.int .i64 (S.L.length + 1)) ∧
      FlowAt w' F M lv' { S with L := S.L ++ [⟨23, ti, rf, id, li, nn, bs⟩], task := 0, o := fun _ => none } ∧ Mod (Own F M) w w' := by
  refine put_head w F M lv S h hL 23 ti rf id li nn bs v hv _ ?_
  clear h hv
  intro X _ hne u1 u6 u7 u8 u9 u10 u11 u12 u13 u14 u15 u16 u17 u18 u19 u20 wc hcut r hr
  obtain ⟨ra, rb, rc, hr⟩ := hr
  simp only [Try.f38, Option.some.injEq, Code.seq.injEq] at hr
  obtain ⟨_, _, _, rfl⟩ := hr
  obtain ⟨g, cap, v9, hF, hrow, hmap, hbox, hmod⟩ := hcut
  have q0 : wc.cell? ⟨X, 0, none⟩ = some (.int .i64 23) := blk_cell hbox 0
  have q2 : wc.cell? ⟨X, 2, none⟩ = some (.int .i64 rf) := blk_cell hbox 2
  have q3 : wc.cell? ⟨X, 3, none⟩ = some (.int .i64 id) := blk_cell hbox 3
  have q4 : wc.cell? ⟨X, 4, none⟩ = some (.int .i64 li) := blk_cell hbox 4
  have q5 : wc.cell? ⟨X, 5, none⟩ = some (.int .i64 nn) := blk_cell hbox 5
  have x2 : wc.cell? ⟨F, 2, none⟩ = some (.int .i64 S.list) := blk_cell hF 2
  have x3 : wc.cell? ⟨F, 3, none⟩ = some (.int .i64 S.n) := blk_cell hF 3
  have x4 : wc.cell? ⟨F, 4, none⟩ = some (.slice (some ⟨g, 0, none⟩) (S.L.length + 1) cap) := blk_cell hF 4
  have x5 : wc.cell? ⟨F, 5, none⟩ = some (.int .i64 S.task) := blk_cell hF 5
  have x6 : wc.cell? ⟨F, 6, none⟩ = some (.int .i64 S.time) := blk_cell hF 6
  have x7 : wc.cell? ⟨F, 7, none⟩ = some (.int .i64 S.begun) := blk_cell hF 7
  have x8 : wc.cell? ⟨F, 8, none⟩ = some (.int .i64 S.turn) := blk_cell hF 8
  have x9 : wc.cell? ⟨F, 9, none⟩ = some (.bool S.late) := blk_cell hF 9
  have x10 : wc.cell? ⟨F, 10, none⟩ = some (.bool S.asked) := blk_cell hF 10
  have x11 : wc.cell? ⟨F, 11, none⟩ = some (.map (some M)) := blk_cell hF 11
  have z2 := blk_frozen hF 2
  have z3 := blk_frozen hF 3
  have z5 := blk_frozen hF 5
  have z6 := blk_frozen hF 6
  have z7 := blk_frozen hF 7
  have z8 := blk_frozen hF 8
  have z9 := blk_frozen hF 9
  have z10 := blk_frozen hF 10
  have hF := Lib.hid hF
  have hrow := Lib.hid hrow
  have hmap := Lib.hid hmap
  have hbox := Lib.hid hbox
  have hmod := Lib.hid hmod
  have hMF : F ≠ M := by
    intro e
    obtain ⟨es, clock, hb⟩ := (show Omap wc M _ S.o from hmap).blk
    rw [← e, (show _ from hF)] at hb
    simp at hb
  obtain ⟨es, clock, hb⟩ := (show Omap wc M _ S.o from hmap).blk
  have hb5 : (wc.setCell ⟨F, 5, none⟩ (.int .i64 0)).heap[M]? = some (.map es clock) := (Below.heap_setCell _ _ _ _ (fun e => hMF e.symm)).trans hb
  have hclr := fun ty => run_clear hb5 ty
  have hb5 := Lib.hid hb5
  have hb := Lib.hid hb
  go_wp2_with (fail)
  go_ret
  have hF5 := blk_set (show _ from hF) 5 (.int .i64 0)
  exact ⟨_, rfl, mid_end2 (show _ from hF) ⟨_, _, _, rfl⟩ hrow hmap ((omap_cleared (show _ from hb5)).mono (Nat.zero_le _)) hmod (mod_setBlock (Mod.set (S := Own F M) (Mod.refl _ _) (Or.inl rfl) _ _) (Or.inr rfl) (show _ from hb5) _)
    ((ChangeMaps.heap_setBlock_other (show _ from hb5) _ hMF).trans hF5) rfl (by simp) (by simp; omega) rfl⟩

end Go.Proofs.Ytedpeambmmhcnaa.Base

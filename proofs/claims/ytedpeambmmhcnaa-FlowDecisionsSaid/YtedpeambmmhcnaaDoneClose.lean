/- A decision that closes is done. Conditions: those at each theorem. -/
import Derived.Test.YtedpeambmmhcnaaClose
set_option maxRecDepth 100000
namespace Go.Proofs.Ytedpeambmmhcnaa.Base
open Go.RowKit Go.Maps Go.Proofs.YtedpeambmmhcnaaW.PrintWords Go.Proofs.Ytedpeambmmhcnaa.Kit

set_option maxHeartbeats 8000000 in
theorem done_5 (w : World) (F M : Nat) (lv : Value) (S : St) (h : FlowAt w F M lv S) (hL : S.L.length ≤ 8000) (di dl dn now : Int) (bs : List Int) (v : Value) (hv : Byt w v bs) :
    Calls Try.prog 48 #[.pointer (some ⟨F, 0, none⟩), .agg #[.int .i64 5, .int .i64 di, .int .i64 dl, .int .i64 dn, v], .int .i64 now] w fun e w' => ∃ lv' v', e = .returned v' ∧ OutRow w' v' [closeOut 20 bs] ∧ FlowAt w' F M lv' (closed S 20 now bs) ∧ Mod (Own F M) w w' := by
  obtain ⟨va, vcap, rfl⟩ := hv.len
  have hB := below_alloc (Below.refl w.heap.size w) (.cells #[.int .i64 5, .int .i64 di, .int .i64 dl, .int .i64 dn, .slice va bs.length vcap] 24)
  have H := Lib.hid (FlowAt.below h hB)
  have hv1 := Lib.hid (hv.below hB)
  have kb := Lib.hid (blk_new w (.cells #[.int .i64 5, .int .i64 di, .int .i64 dl, .int .i64 dn, .slice va bs.length vcap] 24))
  have hB := Lib.hid hB
  clear h hv
  go_enter Try.func48, Try.ntmps48
  go_wp2_with (fail)
  refine (clone_any _ _ _ hv1).mono ?_
  rintro e w1 ⟨v1, rfl, hv2, hb1⟩
  obtain ⟨va1, vcap1, rfl⟩ := hv2.len
  have k1 := blk_below (show _ from kb) hb1
  have H1 := Lib.hid (FlowAt.below H hb1)
  have hv2 := Lib.hid hv2
  have hB1 := Lib.hid (below_step hB hb1)
  clear hb1 kb hv1 hB H
  generalize w.heap.size = X at k1 ⊢
  have b0 : w1.cell? ⟨X, 0, none⟩ = some (.int .i64 5) := blk_cell k1 0
  have b1 : w1.cell? ⟨X, 1, none⟩ = some (.int .i64 di) := blk_cell k1 1
  have b2 : w1.cell? ⟨X, 2, none⟩ = some (.int .i64 dl) := blk_cell k1 2
  have b3 : w1.cell? ⟨X, 3, none⟩ = some (.int .i64 dn) := blk_cell k1 3
  have b0' : ∀ o, (w1.alloc o).cell? ⟨X, 0, none⟩ = some (.int .i64 5) := fun o => Lib.cell?_alloc_some _ b0
  have b0'' : ∀ o o', ((w1.alloc o).alloc o').cell? ⟨X, 0, none⟩ = some (.int .i64 5) := fun o o' => Lib.cell?_alloc_some _ (b0' o)
  go_wp2_with (fail)
  have hB2 : Below w1.heap.size w1 ((w1.alloc (.cells #[.int .i64 0, .int .i64 now, .int .i64 0, .int .i64 di, .int .i64 dl, .int .i64 dn, .slice va1 bs.length vcap1] 79)).alloc (.cells #[.int .i64 0, .int .i64 0, .int .i64 0, .int .i64 0, .int .i64 0, .int .i64 20, .int .i64 21, .int .i64 22, .int .i64 19] 122)) := below_alloc (below_alloc (Below.refl _ _) _) _
  refine (close_any _ F M lv S (FlowAt.below H1 hB2) hL 20 (by simp) now bs _ (Byt.below hv2 hB2)).mono ?_
  rintro e w4 ⟨lv4, v4, rfl, ho, H4, hm4⟩
  have ho := Lib.hid ho
  have H4 := Lib.hid H4
  have hm4 := Lib.hid ((Mod.of_below (below_step hB1 hB2)).trans hm4)
  clear hB2
  go_wp2_with (fail)
  go_ret
  exact ⟨lv4, v4, rfl, ho, H4, hm4⟩

set_option maxHeartbeats 8000000 in
theorem done_6 (w : World) (F M : Nat) (lv : Value) (S : St) (h : FlowAt w F M lv S) (hL : S.L.length ≤ 8000) (di dl dn now : Int) (bs : List Int) (v : Value) (hv : Byt w v bs) :
    Calls Try.prog 48 #[.pointer (some ⟨F, 0, none⟩), .agg #[.int .i64 6, .int .i64 di, .int .i64 dl, .int .i64 dn, v], .int .i64 now] w fun e w' => ∃ lv' v', e = .returned v' ∧ OutRow w' v' [closeOut 21 bs] ∧ FlowAt w' F M lv' (closed S 21 now bs) ∧ Mod (Own F M) w w' := by
  obtain ⟨va, vcap, rfl⟩ := hv.len
  have hB := below_alloc (Below.refl w.heap.size w) (.cells #[.int .i64 6, .int .i64 di, .int .i64 dl, .int .i64 dn, .slice va bs.length vcap] 24)
  have H := Lib.hid (FlowAt.below h hB)
  have hv1 := Lib.hid (hv.below hB)
  have kb := Lib.hid (blk_new w (.cells #[.int .i64 6, .int .i64 di, .int .i64 dl, .int .i64 dn, .slice va bs.length vcap] 24))
  have hB := Lib.hid hB
  clear h hv
  go_enter Try.func48, Try.ntmps48
  go_wp2_with (fail)
  refine (clone_any _ _ _ hv1).mono ?_
  rintro e w1 ⟨v1, rfl, hv2, hb1⟩
  obtain ⟨va1, vcap1, rfl⟩ := hv2.len
  have k1 := blk_below (show _ from kb) hb1
  have H1 := Lib.hid (FlowAt.below H hb1)
  have hv2 := Lib.hid hv2
  have hB1 := Lib.hid (below_step hB hb1)
  clear hb1 kb hv1 hB H
  generalize w.heap.size = X at k1 ⊢
  have b0 : w1.cell? ⟨X, 0, none⟩ = some (.int .i64 6) := blk_cell k1 0
  have b1 : w1.cell? ⟨X, 1, none⟩ = some (.int .i64 di) := blk_cell k1 1
  have b2 : w1.cell? ⟨X, 2, none⟩ = some (.int .i64 dl) := blk_cell k1 2
  have b3 : w1.cell? ⟨X, 3, none⟩ = some (.int .i64 dn) := blk_cell k1 3
  have b0' : ∀ o, (w1.alloc o).cell? ⟨X, 0, none⟩ = some (.int .i64 6) := fun o => Lib.cell?_alloc_some _ b0
  have b0'' : ∀ o o', ((w1.alloc o).alloc o').cell? ⟨X, 0, none⟩ = some (.int .i64 6) := fun o o' => Lib.cell?_alloc_some _ (b0' o)
  go_wp2_with (fail)
  have hB2 : Below w1.heap.size w1 ((w1.alloc (.cells #[.int .i64 0, .int .i64 now, .int .i64 0, .int .i64 di, .int .i64 dl, .int .i64 dn, .slice va1 bs.length vcap1] 79)).alloc (.cells #[.int .i64 0, .int .i64 0, .int .i64 0, .int .i64 0, .int .i64 0, .int .i64 20, .int .i64 21, .int .i64 22, .int .i64 19] 122)) := below_alloc (below_alloc (Below.refl _ _) _) _
  refine (close_any _ F M lv S (FlowAt.below H1 hB2) hL 21 (by simp) now bs _ (Byt.below hv2 hB2)).mono ?_
  rintro e w4 ⟨lv4, v4, rfl, ho, H4, hm4⟩
  have ho := Lib.hid ho
  have H4 := Lib.hid H4
  have hm4 := Lib.hid ((Mod.of_below (below_step hB1 hB2)).trans hm4)
  clear hB2
  go_wp2_with (fail)
  go_ret
  exact ⟨lv4, v4, rfl, ho, H4, hm4⟩

set_option maxHeartbeats 8000000 in
theorem done_7 (w : World) (F M : Nat) (lv : Value) (S : St) (h : FlowAt w F M lv S) (hL : S.L.length ≤ 8000) (di dl dn now : Int) (bs : List Int) (v : Value) (hv : Byt w v bs) :
    Calls Try.prog 48 #[.pointer (some ⟨F, 0, none⟩), .agg #[.int .i64 7, .int .i64 di, .int .i64 dl, .int .i64 dn, v], .int .i64 now] w fun e w' => ∃ lv' v', e = .returned v' ∧ OutRow w' v' [closeOut 22 bs] ∧ FlowAt w' F M lv' (closed S 22 now bs) ∧ Mod (Own F M) w w' := by
  obtain ⟨va, vcap, rfl⟩ := hv.len
  have hB := below_alloc (Below.refl w.heap.size w) (.cells #[.int .i64 7, .int .i64 di, .int .i64 dl, .int .i64 dn, .slice va bs.length vcap] 24)
  have H := Lib.hid (FlowAt.below h hB)
  have hv1 := Lib.hid (hv.below hB)
  have kb := Lib.hid (blk_new w (.cells #[.int .i64 7, .int .i64 di, .int .i64 dl, .int .i64 dn, .slice va bs.length vcap] 24))
  have hB := Lib.hid hB
  clear h hv
  go_enter Try.func48, Try.ntmps48
  go_wp2_with (fail)
  refine (clone_any _ _ _ hv1).mono ?_
  rintro e w1 ⟨v1, rfl, hv2, hb1⟩
  obtain ⟨va1, vcap1, rfl⟩ := hv2.len
  have k1 := blk_below (show _ from kb) hb1
  have H1 := Lib.hid (FlowAt.below H hb1)
  have hv2 := Lib.hid hv2
  have hB1 := Lib.hid (below_step hB hb1)
  clear hb1 kb hv1 hB H
  generalize w.heap.size = X at k1 ⊢
  have b0 : w1.cell? ⟨X, 0, none⟩ = some (.int .i64 7) := blk_cell k1 0
  have b1 : w1.cell? ⟨X, 1, none⟩ = some (.int .i64 di) := blk_cell k1 1
  have b2 : w1.cell? ⟨X, 2, none⟩ = some (.int .i64 dl) := blk_cell k1 2
  have b3 : w1.cell? ⟨X, 3, none⟩ = some (.int .i64 dn) := blk_cell k1 3
  have b0' : ∀ o, (w1.alloc o).cell? ⟨X, 0, none⟩ = some (.int .i64 7) := fun o => Lib.cell?_alloc_some _ b0
  have b0'' : ∀ o o', ((w1.alloc o).alloc o').cell? ⟨X, 0, none⟩ = some (.int .i64 7) := fun o o' => Lib.cell?_alloc_some _ (b0' o)
  go_wp2_with (fail)
  have hB2 : Below w1.heap.size w1 ((w1.alloc (.cells #[.int .i64 0, .int .i64 now, .int .i64 0, .int .i64 di, .int .i64 dl, .int .i64 dn, .slice va1 bs.length vcap1] 79)).alloc (.cells #[.int .i64 0, .int .i64 0, .int .i64 0, .int .i64 0, .int .i64 0, .int .i64 20, .int .i64 21, .int .i64 22, .int .i64 19] 122)) := below_alloc (below_alloc (Below.refl _ _) _) _
  refine (close_any _ F M lv S (FlowAt.below H1 hB2) hL 22 (by simp) now bs _ (Byt.below hv2 hB2)).mono ?_
  rintro e w4 ⟨lv4, v4, rfl, ho, H4, hm4⟩
  have ho := Lib.hid ho
  have H4 := Lib.hid H4
  have hm4 := Lib.hid ((Mod.of_below (below_step hB1 hB2)).trans hm4)
  clear hB2
  go_wp2_with (fail)
  go_ret
  exact ⟨lv4, v4, rfl, ho, H4, hm4⟩

set_option maxHeartbeats 8000000 in
theorem done_8 (w : World) (F M : Nat) (lv : Value) (S : St) (h : FlowAt w F M lv S) (hL : S.L.length ≤ 8000) (di dl dn now : Int) (bs : List Int) (v : Value) (hv : Byt w v bs) :
    Calls Try.prog 48 #[.pointer (some ⟨F, 0, none⟩), .agg #[.int .i64 8, .int .i64 di, .int .i64 dl, .int .i64 dn, v], .int .i64 now] w fun e w' => ∃ lv' v', e = .returned v' ∧ OutRow w' v' [closeOut 19 bs] ∧ FlowAt w' F M lv' (closed S 19 now bs) ∧ Mod (Own F M) w w' := by
  obtain ⟨va, vcap, rfl⟩ := hv.len
  have hB := below_alloc (Below.refl w.heap.size w) (.cells #[.int .i64 8, .int .i64 di, .int .i64 dl, .int .i64 dn, .slice va bs.length vcap] 24)
  have H := Lib.hid (FlowAt.below h hB)
  have hv1 := Lib.hid (hv.below hB)
  have kb := Lib.hid (blk_new w (.cells #[.int .i64 8, .int .i64 di, .int .i64 dl, .int .i64 dn, .slice va bs.length vcap] 24))
  have hB := Lib.hid hB
  clear h hv
  go_enter Try.func48, Try.ntmps48
  go_wp2_with (fail)
  refine (clone_any _ _ _ hv1).mono ?_
  rintro e w1 ⟨v1, rfl, hv2, hb1⟩
  obtain ⟨va1, vcap1, rfl⟩ := hv2.len
  have k1 := blk_below (show _ from kb) hb1
  have H1 := Lib.hid (FlowAt.below H hb1)
  have hv2 := Lib.hid hv2
  have hB1 := Lib.hid (below_step hB hb1)
  clear hb1 kb hv1 hB H
  generalize w.heap.size = X at k1 ⊢
  have b0 : w1.cell? ⟨X, 0, none⟩ = some (.int .i64 8) := blk_cell k1 0
  have b1 : w1.cell? ⟨X, 1, none⟩ = some (.int .i64 di) := blk_cell k1 1
  have b2 : w1.cell? ⟨X, 2, none⟩ = some (.int .i64 dl) := blk_cell k1 2
  have b3 : w1.cell? ⟨X, 3, none⟩ = some (.int .i64 dn) := blk_cell k1 3
  have b0' : ∀ o, (w1.alloc o).cell? ⟨X, 0, none⟩ = some (.int .i64 8) := fun o => Lib.cell?_alloc_some _ b0
  have b0'' : ∀ o o', ((w1.alloc o).alloc o').cell? ⟨X, 0, none⟩ = some (.int .i64 8) := fun o o' => Lib.cell?_alloc_some _ (b0' o)
  go_wp2_with (fail)
  have hB2 : Below w1.heap.size w1 ((w1.alloc (.cells #[.int .i64 0, .int .i64 now, .int .i64 0, .int .i64 di, .int .i64 dl, .int .i64 dn, .slice va1 bs.length vcap1] 79)).alloc (.cells #[.int .i64 0, .int .i64 0, .int .i64 0, .int .i64 0, .int .i64 0, .int .i64 20, .int .i64 21, .int .i64 22, .int .i64 19] 122)) := below_alloc (below_alloc (Below.refl _ _) _) _
  refine (close_any _ F M lv S (FlowAt.below H1 hB2) hL 19 (by simp) now bs _ (Byt.below hv2 hB2)).mono ?_
  rintro e w4 ⟨lv4, v4, rfl, ho, H4, hm4⟩
  have ho := Lib.hid ho
  have H4 := Lib.hid H4
  have hm4 := Lib.hid ((Mod.of_below (below_step hB1 hB2)).trans hm4)
  clear hB2
  go_wp2_with (fail)
  go_ret
  exact ⟨lv4, v4, rfl, ho, H4, hm4⟩

end Go.Proofs.Ytedpeambmmhcnaa.Base

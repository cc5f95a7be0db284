/- Signal: what a client tells. Conditions: those at each theorem. -/
import Derived.Test.YtedpeambmmhcnaaRun
import Derived.Test.YtedpeambmmhcnaaPutD
import Derived.Test.YtedpeambmmhcnaaPutF
set_option maxRecDepth 100000
namespace Go.Proofs.Ytedpeambmmhcnaa.Base
open Go.RowKit Go.Maps Go.Proofs.YtedpeambmmhcnaaW.PrintWords Go.Proofs.Ytedpeambmmhcnaa.Kit

/-- A run when it has been told something. -/
def told (S : St) (now : Int) (bs : List Int) : St := { S with L := S.L ++ [⟨15, now, 0, 0, 0, 0, bs⟩], late := S.late || S.task == 2 }

set_option maxHeartbeats 8000000 in
theorem signal_do (w : World) (lv : Value) (S : St) (hL : S.L.length ≤ 7000) (bs : List Int) (v : Value) (hv : Byt w v bs) (now : Int) (B1 B2 : Nat)
    (h1 : w.heap[B1]? = some (.cells #[.int .i64 now] 3 (0, 0))) (h2 : w.heap[B2]? = some (.cells #[v] 22 (0, 0))) :
    Does w 42 #[.pointer (some ⟨B1, 0, none⟩), .pointer (some ⟨B2, 0, none⟩)] lv S (wakeOut (told S now bs)) 0 (woken (told S now bs) now) := by
  intro w1 X M1 hX hM hb H
  obtain ⟨va, vcap, rfl⟩ := hv.len
  have hXb : ∀ k, k < w.heap.size → ¬ Own X M1 k := by rintro k hk (rfl | rfl) <;> omega
  have n1 := Lib.hid (hXb B1 (blk_lt h1))
  have k1 := blk_below h1 hb
  have k2 := blk_below h2 hb
  have d1 : w1.cell? ⟨B1, 0, none⟩ = some (.int .i64 now) := blk_cell k1 0
  have d2 : w1.cell? ⟨B2, 0, none⟩ = some (.slice va bs.length vcap) := blk_cell k2 0
  have hv1 := Lib.hid (hv.below hb)
  have H := Lib.hid H
  clear hb hXb hv
  show Calls Try.prog 42 #[.pointer (some ⟨X, 0, none⟩), .pointer (some ⟨B1, 0, none⟩), .pointer (some ⟨B2, 0, none⟩)] w1 _
  go_enter Try.func42, Try.ntmps42
  go_wp2_with (fail)
  refine (put_15 w1 X M1 lv S H (by omega) now 0 0 0 0 bs _ hv1).mono ?_
  rintro e w3 ⟨lv3, rfl, H3, hm3⟩
  have k1 := hm3.blk k1 n1
  have d1 : w3.cell? ⟨B1, 0, none⟩ = some (.int .i64 now) := blk_cell k1 0
  have H3 := Lib.hid H3
  have hm3 := Lib.hid hm3
  go_wp2_with (fail)
  refine (wake_any w3 X M1 lv3 (told S now bs) H3 (by simp [told]; omega) now).mono ?_
  rintro e w4 ⟨lv4, v4, rfl, ho, H4, hm4⟩
  have ho := Lib.hid ho
  have H4 := Lib.hid H4
  have hm4 := Lib.hid (Mod.trans hm3 hm4)
  go_wp2_with (fail)
  go_ret2
  exact ⟨lv4, v4, rfl, ho, H4, hm4⟩

theorem woken_len (S : St) (now : Int) : (woken S now).L.length ≤ S.L.length + 1 := by
  unfold woken
  split
  · simp [sched]
  · omega

set_option maxHeartbeats 8000000 in
theorem signal_ok (w : World) (F M : Nat) (lv : Value) (S : St) (h : FlowAt w F M lv S) (hL : S.L.length ≤ 4000) (bs : List Int) (v : Value) (hv : Byt w v bs) (now : Int) (hr : rightOf S.L bs.length now = true) (hs : statusOf S.L = 1) :
    Calls Try.prog 13 #[.pointer (some ⟨F, 0, none⟩), v, .int .i64 now] w (Did w F M (wakeOut (told S now bs)) 0 (woken (told S now bs) now)) := by
  obtain ⟨va, vcap, rfl⟩ := hv.len
  have H := Lib.hid h
  have hv := Lib.hid hv
  have hcf := enter_of Try.func42 (by kernel_rfl) (by kernel_rfl)
  clear h
  go_enter Try.func13, Try.ntmps13
  go_wp2_with (fail)
  have hB : Below w.heap.size w ((w.alloc (.cells #[.slice va bs.length vcap] 22)).alloc (.cells #[.int .i64 now] 3)) := below_alloc (below_alloc (Below.refl _ _) _) _
  have k1 : ((w.alloc (.cells #[.slice va bs.length vcap] 22)).alloc (.cells #[.int .i64 now] 3)).heap[w.heap.size + 1]? = some (.cells #[.int .i64 now] 3 (0, 0)) := by
    simpa using blk_new (w.alloc (.cells #[.slice va bs.length vcap] 22)) (.cells #[.int .i64 now] 3)
  have k2 : ((w.alloc (.cells #[.slice va bs.length vcap] 22)).alloc (.cells #[.int .i64 now] 3)).heap[w.heap.size]? = some (.cells #[.slice va bs.length vcap] 22 (0, 0)) :=
    (Below.heap_alloc _ _ _ (by simp)).trans (blk_new w (.cells #[.slice va bs.length vcap] 22))
  have HB := FlowAt.below H hB
  have hvB := Byt.below hv hB
  refine (try_ok _ F M lv S HB _ bs hvB now 42 _ hcf hr hs _ 0 _ (signal_do _ lv S (by omega) bs _ hvB now _ _ k1 k2) (Or.inl rfl) (Nat.le_trans (woken_len _ _) (by simp [told]; omega))).mono ?_
  intro e w' hd
  obtain ⟨M', lv', v', rfl, r1, r2, r3, r4⟩ := Did.pre hd hB
  have r1 := Lib.hid r1
  have r2 := Lib.hid r2
  have r3 := Lib.hid r3
  have r4 := Lib.hid r4
  clear hd hB k1 k2 HB hvB
  go_wp2_with (fail)
  go_ret2
  exact ⟨M', lv', v', rfl, r1, r2, r3, r4⟩

end Go.Proofs.Ytedpeambmmhcnaa.Base

/- Cancel: a run is asked to be canceled. Conditions: those at each theorem. -/
namespace Go.Proofs.Ytedpeambmmhcnaa.Base
open Go.RowKit Go.Maps Go.Proofs.YtedpeambmmhcnaaW.PrintWords Go.Proofs.Ytedpeambmmhcnaa.Kit

/-- A run when it has been asked. -/
def asked1 (S : St) (now : Int) : St := { S with L := S.L ++ [⟨16, now, 0, 0, 0, 0, []⟩], late := S.late || S.task == 2, asked := true, o := fun j => if j = 0 then none else S.o j }

set_option maxHeartbeats 8000000 in
theorem cancel_do (w : World) (lv : Value) (S : St) (hL : S.L.length ≤ 7000) (ha : S.asked = false) (now : Int) (B1 : Nat) (h1 : w.heap[B1]? = some (.cells #[.int .i64 now] 3 (0, 0))) :
    Does w 44 #[.pointer (some ⟨B1, 0, none⟩)] lv S (wakeOut (asked1 S now)) 0 (woken (asked1 S now) now) := by
  intro w1 X M1 hX hM hb H
  have hXb : ∀ k, k < w.heap.size → ¬ Own X M1 k := by rintro k hk (rfl | rfl) <;> omega
  have n1 := Lib.hid (hXb B1 (blk_lt h1))
  have k1 := blk_below h1 hb
  have d1 : w1.cell? ⟨B1, 0, none⟩ = some (.int .i64 now) := blk_cell k1 0
  have c10 : w1.cell? ⟨X, 10, none⟩ = some (.bool S.asked) := H.cell 10
  rw [ha] at c10
  have H := Lib.hid H
  clear hb hXb ha
  show Calls Try.prog 44 #[.pointer (some ⟨X, 0, none⟩), .pointer (some ⟨B1, 0, none⟩)] w1 _
  go_enter Try.func44, Try.ntmps44
  go_wp2_with (fail)
  refine (put_16 w1 X M1 lv S H (by omega) now 0 0 0 0 [] _ (Byt.none _) (by decide)).mono ?_
  rintro e w3 ⟨lv3, rfl, H3, hm3⟩
  have k1 := hm3.blk k1 n1
  have d1 : w3.cell? ⟨B1, 0, none⟩ = some (.int .i64 now) := blk_cell k1 0
  have H3 := Lib.hid H3
  have hm3 := Lib.hid hm3
  go_wp2_with (fail)
  refine (wake_any w3 X M1 lv3 (asked1 S now) H3 (by simp [asked1]; omega) now).mono ?_
  rintro e w4 ⟨lv4, v4, rfl, ho, H4, hm4⟩
  have ho := Lib.hid ho
  have H4 := Lib.hid H4
  have hm4 := Lib.hid (Mod.trans hm3 hm4)
  go_wp2_with (fail)
  go_ret2
  exact ⟨lv4, v4, rfl, ho, H4, hm4⟩

set_option maxHeartbeats 8000000 in
theorem cancel_ok (w : World) (F M : Nat) (lv : Value) (S : St) (h : FlowAt w F M lv S) (hL : S.L.length ≤ 4000) (ha : S.asked = false) (now : Int) (hr : rightOf S.L 0 now = true) (hs : statusOf S.L = 1) :
    Calls Try.prog 14 #[.pointer (some ⟨F, 0, none⟩), .int .i64 now] w (Did w F M (wakeOut (asked1 S now)) 0 (woken (asked1 S now) now)) := by
  have H := Lib.hid h
  have ha := Lib.hid ha
  have hcf := enter_of Try.func44 (by kernel_rfl) (by kernel_rfl)
  clear h
  go_enter Try.func14, Try.ntmps14
  go_wp2_with (fail)
  have hB : Below w.heap.size w (w.alloc (.cells #[.int .i64 now] 3)) := below_alloc (Below.refl _ _) _
  have HB := FlowAt.below H hB
  refine (try_ok _ F M lv S HB (.slice none 0 0) [] (Byt.none _) now 44 _ hcf hr hs _ 0 _ (cancel_do _ lv S (by omega) ha.out now _ (blk_new w _)) (Or.inl rfl) (Nat.le_trans (woken_len _ _) (by simp [asked1]; omega))).mono ?_
  intro e w' hd
  obtain ⟨M', lv', v', rfl, r1, r2, r3, r4⟩ := Did.pre hd hB
  have r1 := Lib.hid r1
  have r2 := Lib.hid r2
  have r3 := Lib.hid r3
  have r4 := Lib.hid r4
  clear hd hB HB
  go_wp2_with (fail)
  go_ret2
  exact ⟨M', lv', v', rfl, r1, r2, r3, r4⟩

end Go.Proofs.Ytedpeambmmhcnaa.Base

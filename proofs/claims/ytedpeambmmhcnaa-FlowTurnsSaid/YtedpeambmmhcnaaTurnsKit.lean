/- A call that changes nothing but answers an error; a task that is missed; Fire. Conditions: those at each theorem. -/
import Derived.Test.YtedpeambmmhcnaaRun
import Derived.Test.YtedpeambmmhcnaaDecide
set_option maxRecDepth 100000
namespace Go.Proofs.Ytedpeambmmhcnaa.Base
open Go.RowKit Go.Maps Go.Proofs.YtedpeambmmhcnaaW.PrintWords Go.Proofs.Ytedpeambmmhcnaa.Kit

set_option maxHeartbeats 8000000 in
theorem try_err (w : World) (F M : Nat) (lv : Value) (S : St) (h : FlowAt w F M lv S) (v : Value) (bs : List Int) (hv : Byt w v bs) (now : Int) (g : FuncId) (caps : Array Value) (hcf : ∀ args w, (callFunc g args).run Try.prog w = .ok (.enter g args) w) (hr : rightOf S.L bs.length now = true) (hs : statusOf S.L = 1)
    (os : List OutE) (err : Int) (S1 : St) (hdo : Does w g caps lv S os err S1) (ho : err ≠ 0) (hn : S1.L.length = S.L.length) :
    Calls Try.prog 40 #[.pointer (some ⟨F, 0, none⟩), v, .int .i64 now, .func (.func g) #[] caps] w (Did w F M [] err S) := by
  have H := Lib.hid h
  have hv := Lib.hid hv
  have hdo := Lib.hid hdo
  have hs1 : (statusOf S.L == 1) = true := by simp [hs]
  have he : (err != 0) = true := by simp [ho]
  have hn := Lib.hid hn
  clear h ho
  go_enter Try.func40, Try.ntmps40
  go_wp2_with (fail)
  refine (right_any w F M lv S H v bs hv now).mono ?_
  rintro e w2 ⟨rfl, hb⟩
  rw [hr]
  have H2 := Lib.hid (FlowAt.below H hb)
  have hb := Lib.hid hb
  go_wp2_with (fail)
  refine (fstatus w2 F M lv S H2).mono ?_
  rintro e w3 ⟨rfl, hb3⟩
  have H3 := Lib.hid (FlowAt.below H2 hb3)
  have hb3 := Lib.hid (below_step hb hb3)
  go_wp2_with (fail)
  refine (twin_any w3 F M lv S H3).mono ?_
  rintro e w4 ⟨X, M1, rfl, hX, hM1, HX, hb4⟩
  have H4 := Lib.hid (FlowAt.below H3 hb4)
  have hb4 := Lib.hid (below_step hb3 hb4)
  have hX := Lib.hid hX
  have hM1 := Lib.hid hM1
  have HX := Lib.hid HX
  go_wp2_with (fail)
  refine (hdo.out w4 X M1 (Nat.le_trans hb3.out.size hX) (Nat.le_trans hb3.out.size hM1) hb4 HX).mono ?_
  rintro e w5 ⟨lv2, v2, rfl, hos, HX5, hm5⟩
  have hne : F ≠ X := fun e => by
    have h1 : F < w3.heap.size := blk_lt (FlowAt.blk H3)
    have h2 : w3.heap.size ≤ X := hX
    omega
  have hneM : M ≠ M1 := fun e => by
    obtain ⟨es, clock, hb⟩ := (FlowAt.map H3).blk
    have h1 : M < w3.heap.size := (Array.getElem?_eq_some_iff.1 hb).1
    have h2 : w3.heap.size ≤ M1 := hM1
    omega
  have HF5 : FlowAt w5 F M lv S := FlowAt.apart H4 HX hm5 hne hneM
  have hb5 : Below w.heap.size w w5 := hm5.below hb4 (own_ge (Nat.le_trans hb3.out.size hX) (Nat.le_trans hb3.out.size hM1))
  have hb5 := Lib.hid hb5
  obtain ⟨xa, xcap, rfl⟩ := HX5.lv
  obtain ⟨a, cap, rfl⟩ := HF5.lv
  obtain ⟨v2a, v2c, rfl⟩ := hos.len
  have f4 := HF5.cl
  have c4 := HX5.cl
  rw [hn.out] at c4
  have HF5 := Lib.hid HF5
  clear hos HX5 hm5 hne hneM
  go_wp2_with (fail)
  go_quiet (fail)
  go_wp2_with (fail)
  go_ret2
  exact ⟨M, _, _, rfl, OutRow.nil _, FlowAt.below HF5.out (pw_below_drewN (Below.refl _ _) _), Mod.drewN (Mod.of_below hb5.out) _, Or.inl rfl⟩

set_option maxHeartbeats 8000000 in
theorem stale_do (w : World) (lv : Value) (S : St) (ref turn : Int) (ht : decide (turn < 0) = false) (hw : wantsTask S ref turn = false) (B1 B2 B3 : Nat)
    (h1 : w.heap[B1]? = some (.cells #[.int .i64 turn] 3 (0, 0))) (h2 : w.heap[B2]? = some (.cells #[.int .i64 ref] 3 (0, 0))) :
    Does w 41 #[.pointer (some ⟨B1, 0, none⟩), .pointer (some ⟨B2, 0, none⟩), .pointer (some ⟨B3, 0, none⟩)] lv S [] 21 S := by
  intro w1 X M1 hX hM hb H
  have k1 := blk_below h1 hb
  have k2 := blk_below h2 hb
  have d1 : w1.cell? ⟨B1, 0, none⟩ = some (.int .i64 turn) := blk_cell k1 0
  have d2 : w1.cell? ⟨B2, 0, none⟩ = some (.int .i64 ref) := blk_cell k2 0
  have htt : (turn == -1) = false := by
    have : ¬ turn < 0 := by simpa using ht
    simp; omega
  have H := Lib.hid H
  clear hb
  show Calls Try.prog 41 #[.pointer (some ⟨X, 0, none⟩), .pointer (some ⟨B1, 0, none⟩), .pointer (some ⟨B2, 0, none⟩), .pointer (some ⟨B3, 0, none⟩)] w1 _
  go_enter Try.func41, Try.ntmps41
  go_wp2_with (fail)
  refine (wants_task w1 X M1 lv S H ref turn htt).mono ?_
  rintro e w2 ⟨rfl, hb2⟩
  rw [hw]
  have H2 := Lib.hid (FlowAt.below H hb2)
  have hb2 := Lib.hid hb2
  go_wp2_with (fail)
  go_ret2
  exact ⟨lv, _, rfl, OutRow.nil _, H2.out, Mod.of_below hb2.out⟩

set_option maxHeartbeats 8000000 in
theorem decides_stale (w : World) (F M : Nat) (lv : Value) (S : St) (h : FlowAt w F M lv S) (ref turn now : Int) (hr : rightOf S.L 0 now = true) (hs : statusOf S.L = 1) (ht : decide (turn < 0) = false) (hw : wantsTask S ref turn = false) :
    Calls Try.prog 12 #[.pointer (some ⟨F, 0, none⟩), .int .i64 ref, .int .i64 turn, .int .i64 now] w (Did w F M [] 21 S) := by
  have H := Lib.hid h
  have hcf := enter_of Try.func41 (by kernel_rfl) (by kernel_rfl)
  clear h
  go_enter Try.func12, Try.ntmps12
  go_wp2_with (fail)
  have hB : Below w.heap.size w (((w.alloc (.cells #[.int .i64 ref] 3)).alloc (.cells #[.int .i64 turn] 3)).alloc (.cells #[.int .i64 now] 3)) := below_alloc (below_alloc (below_alloc (Below.refl _ _) _) _) _
  have k1 : (((w.alloc (.cells #[.int .i64 ref] 3)).alloc (.cells #[.int .i64 turn] 3)).alloc (.cells #[.int .i64 now] 3)).heap[w.heap.size + 1]? = some (.cells #[.int .i64 turn] 3 (0, 0)) := by
    refine (Below.heap_alloc _ _ _ (by simp)).trans ?_
    simpa using blk_new (w.alloc (.cells #[.int .i64 ref] 3)) (.cells #[.int .i64 turn] 3)
  have k2 : (((w.alloc (.cells #[.int .i64 ref] 3)).alloc (.cells #[.int .i64 turn] 3)).alloc (.cells #[.int .i64 now] 3)).heap[w.heap.size]? = some (.cells #[.int .i64 ref] 3 (0, 0)) := by
    refine ((Below.heap_alloc _ _ _ (by simp; omega)).trans (Below.heap_alloc _ _ _ (by simp))).trans ?_
    exact blk_new w (.cells #[.int .i64 ref] 3)
  have HB := FlowAt.below H hB
  refine (try_err _ F M lv S HB (.slice none 0 0) [] (Byt.none _) now 41 _ hcf hr hs _ 21 _ (stale_do _ lv S ref turn ht hw _ _ _ k1 k2) (by decide) rfl).mono ?_
  intro e w' hd
  obtain ⟨M', lv', v', rfl, r1, r2, r3, r4⟩ := Did.pre hd hB
  have r1 := Lib.hid r1
  have r2 := Lib.hid r2
  have r3 := Lib.hid r3
  have r4 := Lib.hid r4
  clear hd hB k1 k2 HB
  go_wp2_with (fail)
  go_ret2
  exact ⟨M', lv', v', rfl, r1, r2, r3, r4⟩

/-- A run when a task was missed. -/
def miss1 (S : St) (now : Int) : St := { S with L := S.L ++ [⟨5, now, S.begun, 0, 0, 0, []⟩], task := 0, turn := wrap64 (S.turn + 1) }

set_option maxHeartbeats 8000000 in
theorem missed_do (w : World) (lv : Value) (S : St) (hL : S.L.length ≤ 7000) (ref turn now : Int) (ht : S.task = 2) (hr : S.time = ref) (hn : S.turn = turn) (B1 B2 B3 : Nat)
    (h1 : w.heap[B1]? = some (.cells #[.int .i64 ref] 3 (0, 0))) (h2 : w.heap[B2]? = some (.cells #[.int .i64 turn] 3 (0, 0))) (h3 : w.heap[B3]? = some (.cells #[.int .i64 now] 3 (0, 0))) :
    Does w 95 #[.pointer (some ⟨B1, 0, none⟩), .pointer (some ⟨B2, 0, none⟩), .pointer (some ⟨B3, 0, none⟩)] lv S [taskOut (miss1 S now)] 0 (sched (miss1 S now) now) := by
  intro w1 X M1 hX hM hb H
  have k1 := blk_below h1 hb
  have k2 := blk_below h2 hb
  have k3 := blk_below h3 hb
  have d1 : w1.cell? ⟨B1, 0, none⟩ = some (.int .i64 ref) := blk_cell k1 0
  have d2 : w1.cell? ⟨B2, 0, none⟩ = some (.int .i64 turn) := blk_cell k2 0
  have d3 : w1.cell? ⟨B3, 0, none⟩ = some (.int .i64 now) := blk_cell k3 0
  have n3 := Lib.hid (show ¬ Own X M1 B3 from by have := blk_lt h3; rintro (e | e) <;> omega)
  obtain ⟨c0, c1, c2, c3, c4, c5, c6, c7, c8, c9, c10, c11⟩ := H.cells
  rw [ht] at c5
  rw [hr] at c6
  rw [hn] at c8
  have H := Lib.hid H
  have k3 := Lib.hid k3
  have hH : Hid (∀ n, FlowAt (w1.drewN n) X M1 lv S) := Lib.hid (fun n => FlowAt.below H.out (pw_below_drewN (Below.refl _ _) n))
  clear c0 c1 c2 c3 c4 c9 c10 c11 hb ht hr hn k1 k2
  show Calls Try.prog 95 #[.pointer (some ⟨X, 0, none⟩), .pointer (some ⟨B1, 0, none⟩), .pointer (some ⟨B2, 0, none⟩), .pointer (some ⟨B3, 0, none⟩)] w1 _
  go_enter Try.func95, Try.ntmps95
  go_wp2_with (fail)
  go_quiet (fail)
  have e7 : (w1.drewN nq).cell? ⟨X, 7, none⟩ = some (.int .i64 S.begun) := c7
  have e3 : (w1.drewN nq).cell? ⟨B3, 0, none⟩ = some (.int .i64 now) := d3
  have HQ := hH.out nq
  have mq := Lib.hid (Mod.drewN (Mod.refl (Own X M1) w1) nq)
  clear d1 d2 d3 c5 c6 c7 c8
  generalize w1.drewN nq = wq at *
  go_wp2_with (fail)
  go_still_tail 7, (by kernel_rfl)
  change wpList _ _ _ _ _ wq.drew
  have HQ := Lib.hid (FlowAt.below HQ (below_drew (Below.refl _ _)))
  have mq := Lib.hid (Mod.drew mq.out)
  clear e7 e3
  generalize wq.drew = wr at *
  go_wp2_with (fail)
  refine (put_5 wr X M1 lv S HQ.out (by omega) now S.begun 0 0 0 [] _ (Byt.none _)).mono ?_
  rintro e w3 ⟨lv3, rfl, H3, hm3⟩
  have hm3' : Mod (Own X M1) w1 w3 := Mod.trans mq.out hm3
  have k3 := hm3'.blk k3.out n3.out
  have d3 : w3.cell? ⟨B3, 0, none⟩ = some (.int .i64 now) := blk_cell k3 0
  have H3 := Lib.hid H3
  have hm3' := Lib.hid hm3'
  clear hm3
  go_wp2_with (fail)
  refine (schedule_any w3 X M1 lv3 (miss1 S now) H3 (by simp [miss1]; omega) now).mono ?_
  rintro e w4 ⟨lv4, v4, rfl, ho, H4, hm4⟩
  have ho := Lib.hid ho
  have H4 := Lib.hid H4
  have hm4 := Lib.hid (Mod.trans hm3'.out hm4)
  go_wp2_with (fail)
  go_ret2
  exact ⟨lv4, v4, rfl, ho, H4, hm4⟩

set_option maxHeartbeats 8000000 in
theorem missed_ok (w : World) (F M : Nat) (lv : Value) (S : St) (h : FlowAt w F M lv S) (hL : S.L.length ≤ 4000) (ref turn now : Int) (hr : rightOf S.L 0 now = true) (hs : statusOf S.L = 1) (ht : S.task = 2) (hf : S.time = ref) (hn : S.turn = turn) :
    Calls Try.prog 65 #[.pointer (some ⟨F, 0, none⟩), .int .i64 ref, .int .i64 turn, .int .i64 now] w (Did w F M [taskOut (miss1 S now)] 0 (sched (miss1 S now) now)) := by
  have H := Lib.hid h
  have hcf := enter_of Try.func95 (by kernel_rfl) (by kernel_rfl)
  have hdo : Hid (∀ (w : World) (B1 B2 B3 : Nat), w.heap[B1]? = some (.cells #[.int .i64 ref] 3 (0, 0)) → w.heap[B2]? = some (.cells #[.int .i64 turn] 3 (0, 0)) → w.heap[B3]? = some (.cells #[.int .i64 now] 3 (0, 0)) →
      Does w 95 #[.pointer (some ⟨B1, 0, none⟩), .pointer (some ⟨B2, 0, none⟩), .pointer (some ⟨B3, 0, none⟩)] lv S [taskOut (miss1 S now)] 0 (sched (miss1 S now) now)) :=
    Lib.hid fun w B1 B2 B3 h1 h2 h3 => missed_do w lv S (by omega) ref turn now ht hf hn B1 B2 B3 h1 h2 h3
  clear h ht hf hn
  go_enter Try.func65, Try.ntmps65
  go_wp2_with (fail)
  have hB : Below w.heap.size w (((w.alloc (.cells #[.int .i64 ref] 3)).alloc (.cells #[.int .i64 turn] 3)).alloc (.cells #[.int .i64 now] 3)) := below_alloc (below_alloc (below_alloc (Below.refl _ _) _) _) _
  have k1 := blk_alloc (blk_alloc (blk_new w (.cells #[.int .i64 ref] 3)) (.cells #[.int .i64 turn] 3)) (.cells #[.int .i64 now] 3)
  have k2 := blk_alloc (blk_new (w.alloc (.cells #[.int .i64 ref] 3)) (.cells #[.int .i64 turn] 3)) (.cells #[.int .i64 now] 3)
  have k3 := blk_new ((w.alloc (.cells #[.int .i64 ref] 3)).alloc (.cells #[.int .i64 turn] 3)) (.cells #[.int .i64 now] 3)
  have hd := hdo.out _ w.heap.size (w.heap.size + 1) (w.heap.size + 1 + 1) k1 (by simpa using k2) (by simpa using k3)
  have HB := FlowAt.below H hB
  refine (try_ok _ F M lv S HB (.slice none 0 0) [] (Byt.none _) now 95 _ hcf hr hs _ 0 _ hd (Or.inl rfl) (by simp [sched, miss1]; omega)).mono ?_
  intro e w' hd
  obtain ⟨M', lv', v', rfl, r1, r2, r3, r4⟩ := Did.pre hd hB
  have r1 := Lib.hid r1
  have r2 := Lib.hid r2
  have r3 := Lib.hid r3
  have r4 := Lib.hid r4
  clear hd hB k1 k2 k3 HB
  go_wp2_with (fail)
  go_ret2
  exact ⟨M', lv', v', rfl, r1, r2, r3, r4⟩

set_option maxHeartbeats 8000000 in
theorem fire_late (w : World) (F M : Nat) (lv : Value) (S : St) (h : FlowAt w F M lv S) (hL : S.L.length ≤ 4000) (ref turn now : Int) (hr : rightOf S.L 0 now = true) (hs : statusOf S.L = 1) (ht : S.task = 2) (hf : S.time = ref) (hn : S.turn = turn) :
    Calls Try.prog 24 #[.pointer (some ⟨F, 0, none⟩), .int .i64 3, .int .i64 ref, .int .i64 turn, .int .i64 now] w (Did w F M [taskOut (miss1 S now)] 0 (sched (miss1 S now) now)) := by
  have hcf := enter_of Try.func65 (by kernel_rfl) (by kernel_rfl)
  have hd := Lib.hid (missed_ok w F M lv S h hL ref turn now hr hs ht hf hn)
  clear h ht hf hn hr hs
  go_enter Try.func24, Try.ntmps24
  go_wp2_with (fail)
  refine Calls.mono hd.out ?_
  rintro e w' ⟨M', lv', v', rfl, r1, r2, r3, r4⟩
  have r1 := Lib.hid r1
  have r2 := Lib.hid r2
  have r3 := Lib.hid r3
  have r4 := Lib.hid r4
  go_wp2_with (fail)
  go_ret2
  exact ⟨M', lv', v', rfl, r1, r2, r3, r4⟩

end Go.Proofs.Ytedpeambmmhcnaa.Base

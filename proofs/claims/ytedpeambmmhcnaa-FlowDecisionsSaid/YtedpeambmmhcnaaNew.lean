/- A new run. Conditions: those at each theorem. -/
import Derived.Test.YtedpeambmmhcnaaSched
set_option maxRecDepth 100000
namespace Go.Proofs.Ytedpeambmmhcnaa.Base
open Go.RowKit Go.Maps Go.Proofs.YtedpeambmmhcnaaW.PrintWords Go.Proofs.Ytedpeambmmhcnaa.Kit

def flowNum (v : Int) : Bool := decide (0 ≤ v) && decide (v ≤ 1048576)
def ticksOk (v : Int) : Bool := decide (1 ≤ v) && decide (v ≤ 1048576)

set_option maxHeartbeats 2000000 in
theorem flowNumber_any (w : World) (v : Int) : Calls Try.prog 33 #[.int .i64 v] w fun e w' => e = .returned (.bool (flowNum v)) ∧ w' = w := by
  unfold flowNum
  cases h1 : decide (0 ≤ v) <;> cases h2 : decide (v ≤ 1048576)
  all_goals
    go_enter Try.func33, Try.ntmps33
    go_wp2_with (fail)
    go_ret
    exact ⟨by simp_all, rfl⟩

set_option maxHeartbeats 2000000 in
theorem ticks_any (w : World) (v : Int) : Calls Try.prog 34 #[.int .i64 v] w fun e w' => e = .returned (.bool (ticksOk v)) ∧ w' = w := by
  unfold ticksOk
  cases h1 : decide (1 ≤ v) <;> cases h2 : decide (v ≤ 1048576)
  all_goals
    go_enter Try.func34, Try.ntmps34
    go_wp2_with (fail)
    go_ret
    exact ⟨by simp_all, rfl⟩

def start (id run : Int) : St := ⟨id, run, 0, 0, [], 0, 0, 0, 0, false, false, fun _ => none⟩

def newSt (id run list n : Int) (bs : List Int) (now : Int) : St := sched { start id run with L := [⟨1, now, 0, 0, list, n, bs⟩], list := list, n := n } now

set_option maxHeartbeats 8000000 in
theorem new_ok (w : World) (id run list n : Int) (v : Value) (bs : List Int) (hv : Byt w v bs) (now : Int) (h1 : flowNum id = true) (h2 : ticksOk run = true) (h3 : flowNum list = true) (h4 : ticksOk n = true) (h5 : rightOf [] bs.length now = true) :
    Calls Try.prog 11 #[.int .i64 id, .int .i64 run, .int .i64 list, .int .i64 n, v, .int .i64 now] w fun e w' => ∃ F M lv v', e = .returned (.tuple #[.pointer (some ⟨F, 0, none⟩), v', .int .i64 0]) ∧ w.heap.size ≤ F ∧ w.heap.size ≤ M ∧
      OutRow w' v' [⟨1, list, 2, 0, 0, 0, 0, []⟩] ∧ FlowAt w' F M lv (newSt id run list n bs now) ∧ Below w.heap.size w w' := by
  have hmm := @run_makeMap Try.prog
  obtain ⟨va, vcap, rfl⟩ := hv.len
  have hv := Lib.hid hv
  go_enter Try.func11, Try.ntmps11
  go_wp2_with (first | (go_at_call 33; refine (flowNumber_any _ _).mono ?_; rintro e w' ⟨rfl, rfl⟩; rw [h1]) | (go_at_call 34; refine (ticks_any _ _).mono ?_; rintro e w' ⟨rfl, rfl⟩; rw [h2]))
  refine (flowNumber_any _ _).mono ?_
  rintro e w' ⟨rfl, rfl⟩
  rw [h3]
  go_wp2_with (fail)
  refine (ticks_any _ _).mono ?_
  rintro e w' ⟨rfl, rfl⟩
  rw [h4]
  have HS : FlowAt ((w.alloc (.map #[] 0)).alloc (.cells (flowCells (start id run) (.slice none 0 0) w.heap.size) 75)) (w.heap.size + 1) w.heap.size (.slice none 0 0) (start id run) := by
    refine ⟨?_, EvRow.nil _, ⟨.map [], (World.ownsMap_made w Try.prog 3 openElem).alloc _, View.empty⟩, by simp [start]⟩
    have := blk_new (w.alloc (.map #[] 0)) (.cells (flowCells (start id run) (.slice none 0 0) w.heap.size) 75)
    simpa using this
  have hB : Below w.heap.size w ((w.alloc (.map #[] 0)).alloc (.cells (flowCells (start id run) (.slice none 0 0) w.heap.size) 75)) := below_alloc (below_alloc (Below.refl _ _) _) _
  have hv2 := Lib.hid (Byt.below hv hB)
  have HS := Lib.hid HS
  have hB := Lib.hid hB
  go_wp2_with (fail)
  refine (right_any _ (w.heap.size + 1) w.heap.size (.slice none 0 0) (start id run) HS _ bs hv2 now).mono ?_
  rintro e w2 ⟨rfl, hb2⟩
  have h5' : rightOf (start id run).L bs.length now = true := h5
  rw [h5']
  have H2 := Lib.hid (FlowAt.below HS hb2)
  have hv3 := Lib.hid (Byt.below hv2 hb2)
  have hb2 := Lib.hid (below_step hB hb2)
  clear hv2 HS hB
  generalize hF : w.heap.size + 1 = F at *
  have hF := Lib.hid hF
  generalize hM : w.heap.size = M at *
  have hM := Lib.hid hM
  go_wp2_with (fail)
  refine (put_1 w2 F M _ _ H2 (by simp [start]) _ _ _ _ _ bs _ hv3).mono ?_
  rintro e w3 ⟨lv3, rfl, H3, hm3⟩
  have H3 := Lib.hid H3
  have hm3 := Lib.hid hm3
  go_wp2_with (fail)
  refine (schedule_any w3 F M _ _ H3 (by simp [start]) now).mono ?_
  rintro e w4 ⟨lv4, v4, rfl, ho, H4, hm4⟩
  have H4 := Lib.hid H4
  have ho := Lib.hid ho
  have hm4 := Lib.hid (Mod.trans hm3 hm4)
  go_wp2_with (fail)
  go_ret3
  have e2 : w.heap.size = M := hM
  have e1 : M + 1 = F := hF
  subst e2
  have hBB : Below w.heap.size w w4 := Mod.below hm4 hb2 (by rintro k (rfl | rfl) <;> omega)
  refine ⟨F, _, lv4, v4, rfl, by omega, Nat.le_refl _, ?_, H4, hBB⟩
  have ho2 : OutRow w4 v4 [taskOut _] := ho
  simpa [taskOut, start] using ho2

end Go.Proofs.Ytedpeambmmhcnaa.Base

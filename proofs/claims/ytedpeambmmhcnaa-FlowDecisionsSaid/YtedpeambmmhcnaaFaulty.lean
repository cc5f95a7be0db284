/- A faulty decision: the task is scheduled anew; a decision that closes. Conditions: those at each theorem. -/
import Derived.Test.YtedpeambmmhcnaaClose
set_option maxRecDepth 100000
namespace Go.Proofs.Ytedpeambmmhcnaa.Base
open Go.RowKit Go.Maps Go.Proofs.YtedpeambmmhcnaaW.PrintWords Go.Proofs.Ytedpeambmmhcnaa.Kit

/-- A run when a task was faulty. -/
def fault1 (S : St) (n now : Int) : St := { S with L := S.L ++ [⟨6, now, S.begun, 0, 0, n, []⟩], task := 0, turn := wrap64 (S.turn + 1) }

set_option maxHeartbeats 4000000 in
theorem faulty_any (w : World) (F M : Nat) (lv : Value) (S : St) (h : FlowAt w F M lv S) (hL : S.L.length ≤ 7000) (n now : Int) :
    Calls Try.prog 47 #[.pointer (some ⟨F, 0, none⟩), .int .i64 n, .int .i64 now] w fun e w' => ∃ lv' v, e = .returned v ∧ OutRow w' v [taskOut (fault1 S n now)] ∧ FlowAt w' F M lv' (sched (fault1 S n now) now) ∧ Mod (Own F M) w w' := by
  have H := Lib.hid h
  obtain ⟨c0, c1, c2, c3, c4, c5, c6, c7, c8, c9, c10, c11⟩ := h.cells
  clear h c0 c1 c2 c3 c4 c5 c6 c8 c9 c10 c11
  go_enter Try.func47, Try.ntmps47
  go_wp2_with (fail)
  refine (put_6 w F M lv S H (by omega) _ _ _ _ _ [] _ (Byt.none _)).mono ?_
  rintro e w2 ⟨lv2, rfl, H2, hm2⟩
  have H2 := Lib.hid H2
  have hm2 := Lib.hid hm2
  go_wp2_with (fail)
  refine (schedule_any w2 F M lv2 (fault1 S n now) H2 (by simp [fault1]; omega) now).mono ?_
  rintro e w3 ⟨lv3, v3, rfl, ho, H3, hm3⟩
  have ho := Lib.hid ho
  have H3 := Lib.hid H3
  have hm3 := Lib.hid (Mod.trans hm2 hm3)
  go_wp2_with (fail)
  go_ret
  exact ⟨lv3, v3, rfl, ho, H3, hm3⟩

end Go.Proofs.Ytedpeambmmhcnaa.Base

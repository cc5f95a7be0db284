/- A run is closed. Conditions: those at each theorem. -/
import Derived.Test.YtedpeambmmhcnaaTry
import Derived.Test.YtedpeambmmhcnaaPutB
import Derived.Test.YtedpeambmmhcnaaPutC
set_option maxRecDepth 100000
namespace Go.Proofs.Ytedpeambmmhcnaa.Base
open Go.RowKit Go.Maps Go.Proofs.YtedpeambmmhcnaaW.PrintWords Go.Proofs.Ytedpeambmmhcnaa.Kit

/-- A run when it is closed. -/
def closed (S : St) (k now : Int) (bs : List Int) : St := { S with L := S.L ++ [⟨k, now, 0, 0, 0, 0, bs⟩], task := 0, o := fun _ => none }

theorem put_close (k : Int) (hk : k = 19 ∨ k = 20 ∨ k = 21 ∨ k = 22 ∨ k = 23) (w : World) (F M : Nat) (lv : Value) (S : St) (h : FlowAt w F M lv S) (hL : S.L.length ≤ 8000) (now : Int) (bs : List Int) (v : Value) (hv : Byt w v bs) :
    Calls Try.prog 38 #[.pointer (some ⟨F, 0, none⟩), .agg #[.int .i64 k, .int .i64 now, .int .i64 0, .int .i64 0, .int .i64 0, .int .i64 0, v]] w fun e w' => ∃ lv', e = .returned (.int .i64 (S.L.length + 1)) ∧
      FlowAt w' F M lv' (closed S k now bs) ∧ Mod (Own F M) w w' := by
  rcases hk with rfl | rfl | rfl | rfl | rfl
  · exact put_19 w F M lv S h hL now 0 0 0 0 bs v hv
  · exact put_20 w F M lv S h hL now 0 0 0 0 bs v hv
  · exact put_21 w F M lv S h hL now 0 0 0 0 bs v hv
  · exact put_22 w F M lv S h hL now 0 0 0 0 bs v hv
  · exact put_23 w F M lv S h hL now 0 0 0 0 bs v hv

def closeOut (k : Int) (bs : List Int) : OutE := if k = 19 then ⟨8, 0, 0, 0, 0, 0, 0, bs⟩ else ⟨7, 0, 0, 0, 0, 0, statusKind k, bs⟩

set_option maxHeartbeats 8000000 in
theorem close_any (w : World) (F M : Nat) (lv : Value) (S : St) (h : FlowAt w F M lv S) (hL : S.L.length ≤ 8000) (k : Int) (hk : k = 19 ∨ k = 20 ∨ k = 21 ∨ k = 22 ∨ k = 23) (now : Int) (bs : List Int) (v : Value) (hv : Byt w v bs) :
    Calls Try.prog 71 #[.pointer (some ⟨F, 0, none⟩), .int .i64 k, v, .int .i64 now] w fun e w' => ∃ lv' v', e = .returned v' ∧ OutRow w' v' [closeOut k bs] ∧ FlowAt w' F M lv' (closed S k now bs) ∧ Mod (Own F M) w w' := by
  obtain ⟨va, vcap, rfl⟩ := hv.len
  have hpt := put_close k hk w F M lv S h hL now bs _ hv
  have nb := Lib.hid h.noBytes
  have hst : statusOf (closed S k now bs).L = statusKind k := by simp [statusOf, closed]
  have hv := Lib.hid hv
  have hpt := Lib.hid hpt
  clear h
  by_cases h19 : k = 19
  · have hb : (k == 19) = true := by simp [h19]
    have ho : closeOut k bs = ⟨8, 0, 0, 0, 0, 0, 0, bs⟩ := by simp [closeOut, h19]
    rw [ho]
    clear ho h19 hk
    go_enter Try.func71, Try.ntmps71
    go_wp2_with (fail)
    refine Calls.mono hpt ?_
    rintro e w2 ⟨lv2, rfl, H2, hm2⟩
    have hv2 := Lib.hid (Byt.mod hv hm2 nb)
    have H2 := Lib.hid H2
    have hm2 := Lib.hid hm2
    go_wp2_with (fail)
    refine (clone_any w2 _ _ hv2).mono ?_
    rintro e w3 ⟨v3, rfl, hv3, hb3⟩
    obtain ⟨va3, vcap3, rfl⟩ := hv3.len
    have hv3 := Lib.hid hv3
    have hb3 := Lib.hid hb3
    go_wp2_with (fail)
    go_ret
    have hb4 : Below w3.heap.size w3 (w3.alloc (.cells (outCells ⟨8, 0, 0, 0, 0, 0, 0, bs⟩ (.slice va3 bs.length vcap3)).toArray 40)) := below_alloc (Below.refl _ _) _
    exact ⟨lv2, _, rfl, OutRow.one (o := ⟨8, 0, 0, 0, 0, 0, 0, bs⟩) (blk_new w3 _) (Byt.below hv3 hb4), FlowAt.below H2 (below_step hb3 hb4), Mod.trans hm2 (Mod.of_below (below_step hb3 hb4))⟩
  · have hb : (k == 19) = false := by simp [h19]
    have ho : closeOut k bs = ⟨7, 0, 0, 0, 0, 0, statusKind k, bs⟩ := by simp [closeOut, h19]
    rw [ho]
    clear ho h19 hk
    go_enter Try.func71, Try.ntmps71
    go_wp2_with (fail)
    refine Calls.mono hpt ?_
    rintro e w2 ⟨lv2, rfl, H2, hm2⟩
    have hv2 := Lib.hid (Byt.mod hv hm2 nb)
    have H2 := Lib.hid H2
    have hm2 := Lib.hid hm2
    go_wp2_with (fail)
    refine (fstatus w2 F M lv2 _ H2).mono ?_
    rintro e w9 ⟨rfl, hb9⟩
    rw [hst]
    have hv9 := Lib.hid (Byt.below hv2 hb9)
    have hb9 := Lib.hid hb9
    go_wp2_with (fail)
    refine (clone_any w9 _ _ hv9).mono ?_
    rintro e w3 ⟨v3, rfl, hv3, hb3⟩
    obtain ⟨va3, vcap3, rfl⟩ := hv3.len
    have hv3 := Lib.hid hv3
    have hb3 := Lib.hid (below_step hb9 hb3)
    go_wp2_with (fail)
    go_ret
    have hb4 : Below w3.heap.size w3 (w3.alloc (.cells (outCells ⟨7, 0, 0, 0, 0, 0, statusKind k, bs⟩ (.slice va3 bs.length vcap3)).toArray 40)) := below_alloc (Below.refl _ _) _
    exact ⟨lv2, _, rfl, OutRow.one (o := ⟨7, 0, 0, 0, 0, 0, statusKind k, bs⟩) (blk_new w3 _) (Byt.below hv3 hb4), FlowAt.below H2 (below_step hb3 hb4), Mod.trans hm2 (Mod.of_below (below_step hb3 hb4))⟩

end Go.Proofs.Ytedpeambmmhcnaa.Base

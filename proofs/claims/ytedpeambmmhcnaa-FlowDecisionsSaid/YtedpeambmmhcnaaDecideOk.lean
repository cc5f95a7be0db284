/- Decide, over its closure. Conditions: those at each theorem. -/
import Derived.Test.YtedpeambmmhcnaaDecide
import Derived.Test.YtedpeambmmhcnaaDecides
set_option maxRecDepth 100000
namespace Go.Proofs.Ytedpeambmmhcnaa.Base
open Go.RowKit Go.Maps Go.Proofs.YtedpeambmmhcnaaW.PrintWords Go.Proofs.Ytedpeambmmhcnaa.Kit

set_option maxHeartbeats 8000000 in
theorem decide_any (w : World) (F M : Nat) (lv : Value) (S : St) (h : FlowAt w F M lv S) (ref turn now : Int) (a : Option Addr) (n cap : Nat) (hr : rightOf S.L 0 now = true) (hs : statusOf S.L = 1) (os : List OutE) (err : Int) (S1 : St)
    (hdo : ∀ w0 B1 B2 B3 B4, Below w.heap.size w w0 → Caught w0 B1 B2 B3 B4 ref turn now (.slice a n cap) → Does w0 45 (caps B1 B2 B3 B4) lv S os err S1) (ho : err = 0 ∨ S1.L.length ≠ S.L.length) (hn : S1.L.length ≤ 4096) :
    Calls Try.prog 15 #[.pointer (some ⟨F, 0, none⟩), .int .i64 ref, .int .i64 turn, .slice a n cap, .int .i64 now] w (Did w F M os err S1) := by
  have H := Lib.hid h
  have hcf := enter_of Try.func45 (by kernel_rfl) (by kernel_rfl)
  have hdo := Lib.hid hdo
  have ho := Lib.hid ho
  clear h
  go_enter Try.func15, Try.ntmps15
  go_wp2_with (fail)
  have hB : Below w.heap.size w ((((w.alloc (.cells #[.int .i64 ref] 3)).alloc (.cells #[.int .i64 turn] 3)).alloc (.cells #[.slice a n cap] 37)).alloc (.cells #[.int .i64 now] 3)) := below_alloc (below_alloc (below_alloc (below_alloc (Below.refl _ _) _) _) _) _
  have k1 := blk_alloc (blk_alloc (blk_alloc (blk_new w (.cells #[.int .i64 ref] 3)) (.cells #[.int .i64 turn] 3)) (.cells #[.slice a n cap] 37)) (.cells #[.int .i64 now] 3)
  have k2 := blk_alloc (blk_alloc (blk_new (w.alloc (.cells #[.int .i64 ref] 3)) (.cells #[.int .i64 turn] 3)) (.cells #[.slice a n cap] 37)) (.cells #[.int .i64 now] 3)
  have k3 := blk_alloc (blk_new ((w.alloc (.cells #[.int .i64 ref] 3)).alloc (.cells #[.int .i64 turn] 3)) (.cells #[.slice a n cap] 37)) (.cells #[.int .i64 now] 3)
  have k4 := blk_new (((w.alloc (.cells #[.int .i64 ref] 3)).alloc (.cells #[.int .i64 turn] 3)).alloc (.cells #[.slice a n cap] 37)) (.cells #[.int .i64 now] 3)
  have hC : Caught ((((w.alloc (.cells #[.int .i64 ref] 3)).alloc (.cells #[.int .i64 turn] 3)).alloc (.cells #[.slice a n cap] 37)).alloc (.cells #[.int .i64 now] 3)) w.heap.size (w.heap.size + 1) (w.heap.size + 1 + 1) (w.heap.size + 1 + 1 + 1) ref turn now (.slice a n cap) :=
    ⟨k1, by simpa using k2, by simpa using k3, by simpa using k4⟩
  have HB := FlowAt.below H hB
  refine (try_ok _ F M lv S HB (.slice none 0 0) [] (Byt.none _) now 45 _ hcf hr hs _ err _ (hdo.out _ _ _ _ _ hB hC) ho.out hn).mono ?_
  intro e w' hd
  obtain ⟨M', lv', v', rfl, r1, r2, r3, r4⟩ := Did.pre hd hB
  have r1 := Lib.hid r1
  have r2 := Lib.hid r2
  have r3 := Lib.hid r3
  have r4 := Lib.hid r4
  clear hd hB k1 k2 k3 k4 hC HB
  go_wp2_with (fail)
  go_ret2
  exact ⟨M', lv', v', rfl, r1, r2, r3, r4⟩

end Go.Proofs.Ytedpeambmmhcnaa.Base

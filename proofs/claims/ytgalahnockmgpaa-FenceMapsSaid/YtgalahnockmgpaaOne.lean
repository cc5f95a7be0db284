/- The law FenceOne by a walk: for all fences and numbers it returns true, and nothing that was there is changed. Conditions: none. -/
import Derived.Test.YtgalahnockmgpaaKit
import Derived.Test.YtgalahnockmgpaaPFenceOnex2
import Derived.Test.YtgalahnockmgpaaPFenceOnex3
namespace Go.Proofs.Ytgalahnockmgpaa.One
open Go.RowKit Go.Proofs.YtgalahnockmgpaaW.PrintWords Go.Proofs.Ytgalahnockmgpaa.PFenceOne Kit

theorem known_true : teasellaw17_known.f 1 = some true := by decide +kernel

theorem some_ite {α : Type} (c : Prop) [Decidable c] (a b : α) : ∃ x, (if c then some a else some b) = some x := by
  by_cases h : c
  · exact ⟨a, if_pos h⟩
  · exact ⟨b, if_neg h⟩

theorem acquire_same (r o a s : Int) : ∃ x y z, fence_Fence_Acquire.f 1 r o a s = some (x, y, z) ∧ teaselref17_Fence_Acquire.f 1 r o a s = some (x, y, z) := by
  have e : teaselref17_Fence_Acquire.f 1 r o a s = fence_Fence_Acquire.f 1 r o a s := rfl
  have j : ∀ b, ∃ p, fence_Fence_Acquire.j0 1 a s b r o = some p := by
    intro b
    simp only [fence_Fence_Acquire.j0]
    cases b
    · exact some_ite _ _ _
    · exact ⟨_, if_pos rfl⟩
  have h : ∃ p, fence_Fence_Acquire.f 1 r o a s = some p := by
    unfold fence_Fence_Acquire.f
    by_cases h1 : a < 0
    · rw [if_pos h1]; exact j _
    · rw [if_neg h1]
      by_cases h2 : a > 8
      · rw [if_pos h2]; exact j _
      · rw [if_neg h2]
        by_cases h3 : s < 0
        · rw [if_pos h3]; exact j _
        · rw [if_neg h3]; exact j _
  obtain ⟨⟨x, y, z⟩, hp⟩ := h
  exact ⟨x, y, z, hp, e.trans hp⟩

theorem release_same (r o a : Int) : ∃ x y z, fence_Fence_Release.f r o a = some (x, y, z) ∧ teaselref17_Fence_Release.f r o a = some (x, y, z) := by
  have e : teaselref17_Fence_Release.f r o a = fence_Fence_Release.f r o a := rfl
  have h : ∃ p, fence_Fence_Release.f r o a = some p := by
    unfold fence_Fence_Release.f
    by_cases h1 : a = o
    · rw [if_pos h1]; exact some_ite _ _ _
    · exact ⟨_, if_neg h1⟩
  obtain ⟨⟨x, y, z⟩, hp⟩ := h
  exact ⟨x, y, z, hp, e.trans hp⟩

theorem check_same (r o a : Int) : ∃ x, fence_Fence_Check.f r o a = some x ∧ teaselref17_Fence_Check.f r o a = some x := by
  unfold fence_Fence_Check.f teaselref17_Fence_Check.f
  by_cases h1 : a = r
  · subst h1
    rw [if_pos rfl]
    obtain ⟨x, hx⟩ := some_ite (a = 0) (25 : Int) 0
    exact ⟨x, hx, hx⟩
  · exact ⟨25, if_neg h1, if_neg h1⟩

theorem against_same (a b c d : Int) : ∃ x, fence_Against.f 1 a b c d = some x ∧ teaselref17_Against.f 1 a b c d = some x := by
  unfold fence_Against.f teaselref17_Against.f
  simp only [fence_Against.j0, teaselref17_Against.j0]
  by_cases h1 : a = 0
  · rw [if_pos h1, if_pos h1]
    by_cases h2 : c = 0
    · subst h2; exact ⟨0, by simp⟩
    · have h3 : (c == 0) = false := by simpa using h2
      rw [h3]
      simp only [Bool.false_eq_true, if_false]
      by_cases h4 : a = c
      · omega
      · rw [if_neg h4]
        by_cases h5 : a < c
        · rw [if_pos h5, if_pos h5]; exact ⟨2, rfl, rfl⟩
        · rw [if_neg h5, if_neg h5, if_pos (show a > c by omega)]; exact ⟨3, rfl, rfl⟩
  · rw [if_neg h1, if_neg h1]
    simp only [Bool.false_eq_true, if_false]
    by_cases h4 : a = c
    · rw [if_pos h4, if_neg (show ¬ a < c by omega), if_neg (show ¬ a > c by omega)]; exact ⟨1, rfl, rfl⟩
    · rw [if_neg h4]
      by_cases h5 : a < c
      · rw [if_pos h5, if_pos h5]; exact ⟨2, rfl, rfl⟩
      · rw [if_neg h5, if_neg h5, if_pos (show a > c by omega)]; exact ⟨3, rfl, rfl⟩

abbrev fen (t : TypeId) (x y : Int) : Obj := .cells #[.int .i64 x, .int .i64 y] t (0, 0)

set_option maxHeartbeats 2000000 in
theorem law (r o r2 o2 ow se id : Int) (w : World) :
    Calls Try.prog 4 #[.agg #[.int .i64 r, .int .i64 o], .agg #[.int .i64 r2, .int .i64 o2], .int .i64 ow, .int .i64 se, .int .i64 id] w (Yes w) := by
  have hu25 := Try.underlying25
  have hu31 := Try.underlying31
  obtain ⟨x, y, z, ha, hra⟩ := acquire_same r o ow se
  obtain ⟨c, d, i, hr, hrr⟩ := release_same r o ow
  obtain ⟨k, hc, hrc⟩ := check_same r o id
  obtain ⟨g, hg, hrg⟩ := against_same r o r2 o2
  have HA := Lib.hid ha
  have HRA := Lib.hid hra
  have HR := Lib.hid hr
  have HRR := Lib.hid hrr
  have HC := Lib.hid hc
  have HRC := Lib.hid hrc
  have HG := Lib.hid hg
  have HRG := Lib.hid hrg
  clear ha hra hr hrr hc hrc hg hrg
  go_enter Try.func4, Try.ntmps4
  go_wp2_with (fail)
  have T := Lib.hid (((Holds.start w).alloc (fen 25 r o)).alloc (fen 25 r2 o2))
  refine (teasellaw17_known.calls 1 true _ known_true).mono ?_
  rintro e w1 ⟨rfl, hb⟩
  have T1 : Hid (Holds w [(w.heap.size + 1, fen 25 r2 o2), (w.heap.size, fen 25 r o)] w1) := Lib.hid (by simpa using T.out.step hb)
  clear T hb
  have cf := fun j => blk_cell (T1.out.get 1 rfl) j
  go_wp2_with (fail)
  refine (fence_Fence_Acquire.calls 1 r o ow se x y z _ HA.out).mono ?_
  rintro e w2 ⟨rfl, hb⟩
  have T2 := Lib.hid ((T1.out.step hb).alloc (fen 25 x y))
  clear T1 hb cf
  have cf := fun j => blk_cell (T2.out.get 2 rfl) j
  go_wp2_with (fail)
  generalize w2.heap.size = ga at T2 ⊢
  refine calls_gen (Holds w [(ga, fen 25 x y), (w.heap.size + 1, fen 25 r2 o2), (w.heap.size, fen 25 r o)]) T2.out ?_
  clear T2 cf
  intro W2 T2
  refine (teasellaw17_of.calls r o r o _ rfl).mono ?_
  rintro e w3 ⟨rfl, hb⟩
  have T3 := Lib.hid (T2.step hb)
  clear T2 hb
  go_wp2_with (fail)
  refine (teaselref17_Fence_Acquire.calls 1 r o ow se x y z _ HRA.out).mono ?_
  rintro e w4 ⟨rfl, hb⟩
  have T4 := Lib.hid ((T3.out.step hb).alloc (fen 31 x y))
  clear T3 hb
  have cf := fun j => blk_cell (T4.out.get 3 rfl) j
  go_wp2_with (fail)
  generalize w4.heap.size = gb at T4 ⊢
  refine calls_gen (Holds w [(gb, fen 31 x y), (ga, fen 25 x y), (w.heap.size + 1, fen 25 r2 o2), (w.heap.size, fen 25 r o)]) T4.out ?_
  clear T4 cf
  intro W4 T4
  refine (fence_Fence_Release.calls r o ow c d i _ HR.out).mono ?_
  rintro e w5 ⟨rfl, hb⟩
  have T5 := Lib.hid ((T4.step hb).alloc (fen 25 c d))
  clear T4 hb
  have cf := fun j => blk_cell (T5.out.get 4 rfl) j
  go_wp2_with (fail)
  generalize w5.heap.size = gc at T5 ⊢
  refine calls_gen (Holds w [(gc, fen 25 c d), (gb, fen 31 x y), (ga, fen 25 x y), (w.heap.size + 1, fen 25 r2 o2), (w.heap.size, fen 25 r o)]) T5.out ?_
  clear T5 cf
  intro W5 T5
  refine (teasellaw17_of.calls r o r o _ rfl).mono ?_
  rintro e w6 ⟨rfl, hb⟩
  have T6 := Lib.hid (T5.step hb)
  clear T5 hb
  go_wp2_with (fail)
  refine (teaselref17_Fence_Release.calls r o ow c d i _ HRR.out).mono ?_
  rintro e w7 ⟨rfl, hb⟩
  have T7 := Lib.hid ((T6.out.step hb).alloc (fen 31 c d))
  clear T6 hb
  go_wp2_with (fail)
  generalize w7.heap.size = gd at T7 ⊢
  have T8 : Hid (Holds w [(gd, fen 31 c d), (gc, fen 25 c d), (gb, fen 31 x y), (ga, fen 25 x y), (w.heap.size + 1, fen 25 r2 o2), (w.heap.size, fen 25 r o)] (w7.alloc (.cells #[.int .i64 c, .int .i64 d] 31))) := T7
  clear T7
  generalize w7.alloc (.cells #[.int .i64 c, .int .i64 d] 31) = W7 at T8 ⊢
  have c0 := fun (q : After W7) => after_cell (T8.out.get 0 rfl) q
  have c1 := fun (q : After W7) => after_cell (T8.out.get 1 rfl) q
  have c2 := fun (q : After W7) => after_cell (T8.out.get 2 rfl) q
  have c3 := fun (q : After W7) => after_cell (T8.out.get 3 rfl) q
  have c4 := fun (q : After W7) => after_cell (T8.out.get 4 rfl) q
  have c5 := fun (q : After W7) => after_cell (T8.out.get 5 rfl) q
  refine wp_region_after (by kernel_rfl) (by kernel_rfl) ?_
  repeat (go_big_quiet_step (first
    | (go_at_call 9; refine after_calls _ (fence_Fence_Check.calls r o id k _ HC.out))
    | (go_at_call 14; refine after_calls _ (teaselref17_Fence_Check.calls r o id k _ HRC.out))
    | (go_at_call 15; refine after_calls _ (fence_Against.calls 1 r o r2 o2 g _ HG.out))
    | (go_at_call 16; refine after_calls _ (teaselref17_Against.calls 1 r o r2 o2 g _ HRG.out))
    | (go_at_call 10; refine after_calls _ (teasellaw17_of.calls _ _ _ _ _ rfl))))
  refine wpQuiet_nil ?_
  rintro _ ⟨q, rfl⟩
  go_wp2
  go_ret
  exact ⟨by simp, below_step T8.out.bel q.bel⟩

end Go.Proofs.Ytgalahnockmgpaa.One

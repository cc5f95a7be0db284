/- The law IdsBack by a walk, from what is known of the numbers ahead (Know). Conditions: those of Know. -/
import Derived.Test.YtajljephndlflaaTokens
import Derived.Test.YtajljephndlflaaPIdsBackx2
namespace Go.Proofs.Ytajljephndlflaa.Back
open Go.RowKit Go.Proofs.YtajljephndlflaaW.PrintWords Go.Proofs.Ytajljephndlflaa.PIdsTokens Quiet

/-- What the walk knows of the numbers ahead. -/
structure Know (t0 t1 t2 t3 u0 u1 u2 u3 r n m X Y A B E : Int) : Prop where
  tX : ids_Token.f t0 t1 t2 t3 = some X
  tY : ids_Token.f u0 u1 u2 u3 = some Y
  lo : 0 ≤ X
  hi : X < 18446744073709551616
  of : X ≠ 0 → teaselref2_Of.f X = some (t0, t1, t2, t3, 0)
  less : X ≠ 0 → Y ≠ 0 → ids_Less.f t0 t1 t2 t3 u0 u1 u2 u3 = some (decide (X < Y))
  block : PIdsBack.ids_Block.f r n = some (A, B, E)
  bad : E ≠ 0 → A = 0 ∧ B = 0
  size : E = 0 → 1 ≤ n ∧ n ≤ 1048576
  diff : E = 0 → wrap64 (B - A) = n
  owner : E = 0 → 0 ≤ m → PIdsBack.ids_Owner.f (wrap64 (A + m % n)) n = some (r, 0)

/-- The law's world between two calls: the two tokens in their boxes. -/
structure Two (w : World) (t0 t1 t2 t3 u0 u1 u2 u3 : Int) (W : World) : Prop where
  t : W.heap[w.heap.size]? = some (.cells #[.int .i64 t0, .int .i64 t1, .int .i64 t2, .int .i64 t3] 41 (0, 0))
  u : W.heap[w.heap.size + 1]? = some (.cells #[.int .i64 u0, .int .i64 u1, .int .i64 u2, .int .i64 u3] 41 (0, 0))
  bel : Below w.heap.size w W

theorem Two.start (w : World) (t0 t1 t2 t3 u0 u1 u2 u3 : Int) : Two w t0 t1 t2 t3 u0 u1 u2 u3 ((w.alloc (.cells #[.int .i64 t0, .int .i64 t1, .int .i64 t2, .int .i64 t3] 41)).alloc (.cells #[.int .i64 u0, .int .i64 u1, .int .i64 u2, .int .i64 u3] 41)) :=
  ⟨blk_alloc (blk_new w _) _, by have := blk_new (w.alloc (.cells #[.int .i64 t0, .int .i64 t1, .int .i64 t2, .int .i64 t3] 41)) (.cells #[.int .i64 u0, .int .i64 u1, .int .i64 u2, .int .i64 u3] 41); simpa using this, below_alloc (below_alloc (Below.refl _ _) _) _⟩

theorem Two.step {w W W' : World} {t0 t1 t2 t3 u0 u1 u2 u3 : Int} (h : Two w t0 t1 t2 t3 u0 u1 u2 u3 W) (hb : Below W.heap.size W W') : Two w t0 t1 t2 t3 u0 u1 u2 u3 W' :=
  ⟨blk_below h.t hb, blk_below h.u hb, below_step h.bel hb⟩

theorem drawn_below {w w' : World} (h : Drawn0 w w') : Below w.heap.size w w' := by
  obtain ⟨n, rfl⟩ := h
  exact pw_below_drewN (Below.refl _ _) n

def Yes (w : World) (e : Ending) (w' : World) : Prop := e = .returned (.bool true) ∧ Below w.heap.size w w'

set_option maxHeartbeats 1000000 in
theorem walk (t0 t1 t2 t3 u0 u1 u2 u3 r n m X Y A B E : Int) (w : World) (hk : Know t0 t1 t2 t3 u0 u1 u2 u3 r n m X Y A B E) :
    Calls Try.prog 7 #[.agg #[.int .i64 t0, .int .i64 t1, .int .i64 t2, .int .i64 t3], .agg #[.int .i64 u0, .int .i64 u1, .int .i64 u2, .int .i64 u3], .int .i64 r, .int .i64 n, .int .i64 m] w (Yes w) := by
  have hu41 := Try.underlying41
  have K := Lib.hid hk
  clear hk
  go_enter Try.func7, Try.ntmps7
  go_wp2_with (fail)
  have T0 := Two.start w t0 t1 t2 t3 u0 u1 u2 u3
  refine (teasellaw2_known.calls true _ Tok.known_true).mono ?_
  rintro e w1 ⟨rfl, hb⟩
  have T1 := Lib.hid (T0.step hb)
  clear T0 hb
  have ct := fun i => blk_cell T1.out.t i
  have cu := fun i => blk_cell T1.out.u i
  go_wp2_with (fail)
  refine (ids_Token.calls t0 t1 t2 t3 X _ K.out.tX).mono ?_
  rintro e w2 ⟨rfl, hb⟩
  have T2 := Lib.hid (T1.out.step hb)
  clear T1 hb ct cu
  have ct := fun i => blk_cell T2.out.t i
  have cu := fun i => blk_cell T2.out.u i
  go_wp2_with (fail)
  refine (ids_Token.calls u0 u1 u2 u3 Y _ K.out.tY).mono ?_
  rintro e w3 ⟨rfl, hb⟩
  have T3 := Lib.hid (T2.out.step hb)
  clear T2 hb ct cu
  have start : (X = 0) ∨ (X ≠ 0 ∧ Y = 0) ∨ (X ≠ 0 ∧ Y ≠ 0) := by omega
  have tests : (E ≠ 0 ∧ A = 0 ∧ B = 0) ∨ (E = 0 ∧ m < 0 ∧ 1 ≤ n ∧ wrap64 (B - A) = n) ∨ (E = 0 ∧ 0 ≤ m ∧ 1 ≤ n ∧ wrap64 (B - A) = n ∧ PIdsBack.ids_Owner.f (wrap64 (A + m % n)) n = some (r, 0)) := by
    by_cases hE : E = 0
    · have hs := K.out.size hE
      by_cases hm : m < 0
      · exact Or.inr (Or.inl ⟨hE, hm, hs.1, K.out.diff hE⟩)
      · exact Or.inr (Or.inr ⟨hE, by omega, hs.1, K.out.diff hE, K.out.owner hE (by omega)⟩)
    · exact Or.inl ⟨hE, K.out.bad hE⟩
  have TS := Lib.hid tests
  clear tests
  rcases start with hX | ⟨hX, hY⟩ | ⟨hX, hY⟩
  · have hX0 : (X != 0) = false := by simpa using hX
    clear hX
    go_wp2_with (fail)
    refine OfWalk.calls_gen (Two w t0 t1 t2 t3 u0 u1 u2 u3) T3.out ?_
    clear T3 hX0
    have tests := TS.out
    clear TS
    intro W T
    refine (PIdsBack.ids_Block.calls r n A B E _ K.out.block).mono ?_
    rintro e W1 ⟨rfl, hd⟩
    have T1 := Lib.hid (T.step (drawn_below hd))
    clear T hd
    rcases tests with ⟨hE, hA, hB⟩ | ⟨hE, hm, hn, hD⟩ | ⟨hE, hm, hn, hD, hO⟩
    · subst hA hB
      have hE0 : (E != 0) = true := by simpa using hE
      clear hE
      go_wp2_with (fail)
      go_ret
      exact ⟨by simp, T1.out.bel⟩
    · subst hE
      have hD0 := Lib.hid hD
      clear hD
      go_wp2_with (fail)
      go_ret
      rw [hD0.out]
      exact ⟨by simp, T1.out.bel⟩
    · subst hE
      have hD0 := Lib.hid hD
      have hO0 := Lib.hid hO
      have hm1 : ¬ m < 0 := by omega
      have hn0 : n ≠ 0 := by omega
      clear hD hO
      go_wp2_with (fail)
      refine (PIdsBack.ids_Owner.calls _ n r 0 _ hO0.out).mono ?_
      rintro e W2 ⟨rfl, hd⟩
      have T2 := Lib.hid (T1.out.step (drawn_below hd))
      clear T1 hd
      have hD1 : (wrap64 (B - A) == n) = true := by rw [hD0.out]; simp
      go_wp2_with (fail)
      go_ret
      exact ⟨by simp, T2.out.bel⟩
  · have hX0 : (X != 0) = true := by simpa using hX
    have hY0 : (Y != 0) = false := by simpa using hY
    have OF := Lib.hid (K.out.of hX)
    clear hX hY
    go_wp2_with (fail)
    refine (OfWalk.of_calls X t0 t1 t2 t3 0 _ K.out.lo K.out.hi OF.out).mono ?_
    rintro e w4 ⟨rfl, hb⟩
    have T4 := Lib.hid ((T3.out.step hb).step (below_alloc (Below.refl _ _) (.cells #[.int .i64 t0, .int .i64 t1, .int .i64 t2, .int .i64 t3] 41)))
    have ct := fun i => blk_cell T4.out.t i
    clear T3 hb
    go_wp2_with (fail)
    refine OfWalk.calls_gen (Two w t0 t1 t2 t3 u0 u1 u2 u3) T4.out ?_
    clear T4 ct hX0 hY0 OF
    have tests := TS.out
    clear TS
    intro W T
    refine (PIdsBack.ids_Block.calls r n A B E _ K.out.block).mono ?_
    rintro e W1 ⟨rfl, hd⟩
    have T1 := Lib.hid (T.step (drawn_below hd))
    clear T hd
    rcases tests with ⟨hE, hA, hB⟩ | ⟨hE, hm, hn, hD⟩ | ⟨hE, hm, hn, hD, hO⟩
    · subst hA hB
      have hE0 : (E != 0) = true := by simpa using hE
      clear hE
      go_wp2_with (fail)
      go_ret
      exact ⟨by simp, T1.out.bel⟩
    · subst hE
      have hD0 := Lib.hid hD
      clear hD
      go_wp2_with (fail)
      go_ret
      rw [hD0.out]
      exact ⟨by simp, T1.out.bel⟩
    · subst hE
      have hD0 := Lib.hid hD
      have hO0 := Lib.hid hO
      have hm1 : ¬ m < 0 := by omega
      have hn0 : n ≠ 0 := by omega
      clear hD hO
      go_wp2_with (fail)
      refine (PIdsBack.ids_Owner.calls _ n r 0 _ hO0.out).mono ?_
      rintro e W2 ⟨rfl, hd⟩
      have T2 := Lib.hid (T1.out.step (drawn_below hd))
      clear T1 hd
      have hD1 : (wrap64 (B - A) == n) = true := by rw [hD0.out]; simp
      go_wp2_with (fail)
      go_ret
      exact ⟨by simp, T2.out.bel⟩
  · have OF := Lib.hid (K.out.of hX)
    have LS := Lib.hid (K.out.less hX hY)
    have hX0 : (X != 0) = true := by simpa using hX
    have hY0 : (Y != 0) = true := by simpa using hY
    clear hX hY
    go_wp2_with (fail)
    refine (OfWalk.of_calls X t0 t1 t2 t3 0 _ K.out.lo K.out.hi OF.out).mono ?_
    rintro e w4 ⟨rfl, hb⟩
    have T4 := Lib.hid ((T3.out.step hb).step (below_alloc (Below.refl _ _) (.cells #[.int .i64 t0, .int .i64 t1, .int .i64 t2, .int .i64 t3] 41)))
    have ct := fun i => blk_cell T4.out.t i
    have cu := fun i => blk_cell T4.out.u i
    clear T3 hb
    go_wp2_with (fail)
    refine (ids_Less.calls t0 t1 t2 t3 u0 u1 u2 u3 _ _ LS.out).mono ?_
    rintro e w5 ⟨rfl, hb⟩
    have T5 := Lib.hid (T4.out.step hb)
    clear T4 hb ct cu
    go_wp2_with (fail)
    refine OfWalk.calls_gen (Two w t0 t1 t2 t3 u0 u1 u2 u3) T5.out ?_
    clear T5 hX0 hY0 OF LS
    have tests := TS.out
    clear TS
    intro W T
    refine (PIdsBack.ids_Block.calls r n A B E _ K.out.block).mono ?_
    rintro e W1 ⟨rfl, hd⟩
    have T1 := Lib.hid (T.step (drawn_below hd))
    clear T hd
    rcases tests with ⟨hE, hA, hB⟩ | ⟨hE, hm, hn, hD⟩ | ⟨hE, hm, hn, hD, hO⟩
    · subst hA hB
      have hE0 : (E != 0) = true := by simpa using hE
      clear hE
      go_wp2_with (fail)
      go_ret
      exact ⟨by simp, T1.out.bel⟩
    · subst hE
      have hD0 := Lib.hid hD
      clear hD
      go_wp2_with (fail)
      go_ret
      rw [hD0.out]
      exact ⟨by simp, T1.out.bel⟩
    · subst hE
      have hD0 := Lib.hid hD
      have hO0 := Lib.hid hO
      have hm1 : ¬ m < 0 := by omega
      have hn0 : n ≠ 0 := by omega
      clear hD hO
      go_wp2_with (fail)
      refine (PIdsBack.ids_Owner.calls _ n r 0 _ hO0.out).mono ?_
      rintro e W2 ⟨rfl, hd⟩
      have T2 := Lib.hid (T1.out.step (drawn_below hd))
      clear T1 hd
      have hD1 : (wrap64 (B - A) == n) = true := by rw [hD0.out]; simp
      go_wp2_with (fail)
      go_ret
      exact ⟨by simp, T2.out.bel⟩

end Go.Proofs.Ytajljephndlflaa.Back

/- The law IdsTokens by a walk: for all tokens t, u and every uint64 v it returns true, and nothing that was there is changed. Conditions: v is a uint64. -/
import Derived.Test.YtajljephndlflaaOfWalk
namespace Go.Proofs.Ytajljephndlflaa.Quiet
open Go.RowKit Go.Proofs.YtajljephndlflaaW.PrintWords

/-- A world behind W: what lay there lies there unchanged. -/
structure After (W : World) where
  now : World
  bel : Below W.heap.size W now

instance (W : World) : Nonempty (After W) := ⟨⟨W, Below.refl _ _⟩⟩

theorem After.size {W : World} (q : After W) : W.heap.size ≤ q.now.heap.size := q.bel.size

theorem after_blk {W : World} {g : Nat} {o : Obj} (h : W.heap[g]? = some o) (q : After W) : q.now.heap[g]? = some o := blk_below h q.bel

theorem after_cell {W : World} {g : Nat} {t : TypeId} {cs : Array Value} (h : W.heap[g]? = some (.cells cs t (0, 0))) (q : After W) (i : Nat) : q.now.cell? ⟨g, i, none⟩ = cs[i]? := blk_cell (after_blk h q) i

theorem after_calls {P : Program} {f : FuncId} {args : Array Value} {W : World} (q : After W) {v : Value} (h : Calls P f args q.now fun e w' => e = .returned v ∧ Below q.now.heap.size q.now w') :
    Calls P f args q.now fun e w'' => e = .returned v ∧ ∃ q' : After W, w'' = q'.now :=
  h.mono fun _ w' ⟨he, hb⟩ => ⟨he, ⟨w', below_then q.bel q.bel.size hb⟩, rfl⟩

/-- A region that draws its order, in the class of the worlds behind W. -/
theorem wp_region_after {P : Program} {id : Nat} {Q : Exit → Act → World → Prop} {a : Act} {W : World} {l : List Oper} (hm : P.follows .mixedOrders = true) (hB : Region.lexB .any l.toArray = true)
    (h : wpQuiet P l.toArray (fun w' => ∃ q : After W, w' = q.now) (fun a' => ∀ w', (∃ q : After W, w' = q.now) → Q .normal a' w') l a) : (Code.region id l.toArray true).wp P Q a W :=
  wp_region_quiet (C := fun w' => ∃ q : After W, w' = q.now) hm hB ⟨⟨_, below_drew (Below.refl _ _)⟩, rfl⟩ (by simpa using h)

end Go.Proofs.Ytajljephndlflaa.Quiet
namespace Go.Proofs.Ytajljephndlflaa.Tokens
open Go.RowKit Go.Proofs.YtajljephndlflaaW.PrintWords Go.Proofs.Ytajljephndlflaa.PIdsTokens Quiet

set_option maxHeartbeats 1000000 in
theorem law (t0 t1 t2 t3 u0 u1 u2 u3 v : Int) (w : World) (h0 : 0 ≤ v) (h1 : v < 18446744073709551616) :
    Calls Try.prog 6 #[.agg #[.int .i64 t0, .int .i64 t1, .int .i64 t2, .int .i64 t3], .agg #[.int .i64 u0, .int .i64 u1, .int .i64 u2, .int .i64 u3], .int .u64 v] w fun e w' => e = .returned (.bool true) ∧ Below w.heap.size w w' := by
  have hu41 := Try.underlying41
  obtain ⟨a, b, c, d, x, hof⟩ : ∃ a b c d x, teaselref2_Of.f v = some (a, b, c, d, x) := ⟨_, _, _, _, _, by rw [Tok.rof_eq v h0 h1]⟩
  have HOF := Lib.hid hof
  have H0 := Lib.hid h0
  have H1 := Lib.hid h1
  clear hof h0 h1
  go_enter Try.func6, Try.ntmps6
  go_wp2_with (fail)
  refine (teasellaw2_known.calls true _ Tok.known_true).mono ?_
  rintro e w1 ⟨rfl, hb⟩
  have kt := Lib.hid (blk_below (blk_alloc (blk_new w (.cells #[.int .i64 t0, .int .i64 t1, .int .i64 t2, .int .i64 t3] 41)) (.cells #[.int .i64 u0, .int .i64 u1, .int .i64 u2, .int .i64 u3] 41)) hb)
  have ku := Lib.hid (blk_below (blk_new (w.alloc (.cells #[.int .i64 t0, .int .i64 t1, .int .i64 t2, .int .i64 t3] 41)) (.cells #[.int .i64 u0, .int .i64 u1, .int .i64 u2, .int .i64 u3] 41)) hb)
  have HB := Lib.hid (below_then (below_alloc (below_alloc (Below.refl w.heap.size w) _) _) (by simp; omega) hb)
  have hB := HB.out
  clear hb HB
  have ku : Hid (w1.heap[w.heap.size + 1]? = some (.cells #[.int .i64 u0, .int .i64 u1, .int .i64 u2, .int .i64 u3] 41 (0, 0))) := Lib.hid (by simpa using ku.out)
  go_wp2_with (fail)
  refine (OfWalk.of_calls v a b c d x _ H0.out H1.out HOF.out).mono ?_
  rintro e w2 ⟨rfl, hb⟩
  have kt := Lib.hid (blk_below kt.out hb)
  have ku := Lib.hid (blk_below ku.out hb)
  have HB := Lib.hid (below_step hB hb)
  clear hb hB
  go_wp2_with (fail)
  refine (teaselref2_Of.calls v a b c d x _ HOF.out).mono ?_
  rintro e w3 ⟨rfl, hb⟩
  have kt := Lib.hid (blk_below (blk_alloc kt.out _) hb)
  have ku := Lib.hid (blk_below (blk_alloc ku.out _) hb)
  have ka := Lib.hid (blk_below (blk_new w2 _) hb)
  have HB := Lib.hid (below_step (below_alloc HB.out _) hb)
  clear hb H0 H1 HOF
  go_wp2_with (fail)
  have kt := blk_alloc kt.out (.cells #[.int .i64 a, .int .i64 b, .int .i64 c, .int .i64 d] 41)
  have ku := blk_alloc ku.out (.cells #[.int .i64 a, .int .i64 b, .int .i64 c, .int .i64 d] 41)
  have ka := blk_alloc ka.out (.cells #[.int .i64 a, .int .i64 b, .int .i64 c, .int .i64 d] 41)
  have kb := blk_new w3 (.cells #[.int .i64 a, .int .i64 b, .int .i64 c, .int .i64 d] 41)
  have HB := Lib.hid (below_alloc HB.out (.cells #[.int .i64 a, .int .i64 b, .int .i64 c, .int .i64 d] 41))
  generalize w3.alloc (.cells #[.int .i64 a, .int .i64 b, .int .i64 c, .int .i64 d] 41) = w4 at kt ku ka kb HB ⊢
  generalize w3.heap.size = g3 at kb ⊢
  generalize w2.heap.size = g2 at ka ⊢
  have ct := fun (q : After w4) => after_cell kt q
  have cu := fun (q : After w4) => after_cell ku q
  have ca := fun (q : After w4) => after_cell ka q
  have cb := fun (q : After w4) => after_cell kb q
  clear kt ku ka kb
  refine wp_region_after (by kernel_rfl) (by kernel_rfl) ?_
  repeat (go_big_quiet_step (first
    | (go_at_call 21; refine after_calls _ (ids_Token.calls t0 t1 t2 t3 _ _ (Tok.token_eq t0 t1 t2 t3)))
    | (go_at_call 22; refine after_calls _ (teaselref2_Token.calls t0 t1 t2 t3 _ _ (Tok.rtoken_eq t0 t1 t2 t3)))
    | (go_at_call 23; refine after_calls _ (ids_Less.calls t0 t1 t2 t3 u0 u1 u2 u3 _ _ (Tok.less_eq t0 t1 t2 t3 u0 u1 u2 u3)))
    | (go_at_call 24; refine after_calls _ (teaselref2_Less.calls t0 t1 t2 t3 u0 u1 u2 u3 _ _ (Tok.less_eq t0 t1 t2 t3 u0 u1 u2 u3)))))
  refine wpQuiet_nil ?_
  rintro _ ⟨q, rfl⟩
  go_wp2
  go_ret
  exact ⟨by simp, below_step HB.out q.bel⟩

end Go.Proofs.Ytajljephndlflaa.Tokens

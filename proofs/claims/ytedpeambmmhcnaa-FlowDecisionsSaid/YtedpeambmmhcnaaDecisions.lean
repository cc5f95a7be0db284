/- The law FlowDecisions by a walk: for every decision it returns true, and nothing that was there is changed. Conditions: those at each theorem. -/
import Derived.Test.YtedpeambmmhcnaaKnown
import Derived.ChangeSlices
set_option maxRecDepth 100000
namespace Go.Proofs.Ytedpeambmmhcnaa.Decisions
open Go.RowKit Go.Maps Go.ChangeShapes Go.WideShapes Go.Joins Go.Proofs.YtedpeambmmhcnaaW.PrintWords Go.Proofs.Ytedpeambmmhcnaa.Kit Go.Proofs.Ytedpeambmmhcnaa.Base Go.Proofs.Ytedpeambmmhcnaa.MayLaw

/-- Bytes that came in. -/
theorem byt_open {H : Type} {enc : TypeId × Value → H} {W : World} {base : Nat} {spare : Nat → Bool} {held : Bool} {fuel : Nat} {v : Value} {y : DataW H × List MemPlace} (h : DataW.trod enc Try.prog W base spare held fuel 22 [v] = some y) :
    ∃ (a : Option Addr) (n cap : Nat) (bs : List Int), v = .slice a n cap ∧ bs.length = n ∧ n ≤ maxLen ∧ (n ≤ 140737488351232 → Byt W (.slice a n cap) bs) := by
  rcases open_ints u22 u5 (by kernel_rfl) h with ⟨hcs, _⟩ | ⟨x, l, c, zs, hcs, _, hl, hm, hz, _, hcell, hwz⟩
  · simp only [List.cons.injEq, and_true] at hcs
    subst hcs
    exact ⟨none, 0, 0, [], rfl, rfl, Nat.zero_le _, fun _ => Byt.none _⟩
  · simp only [List.cons.injEq, and_true] at hcs
    subst hcs
    have hlz : l ≤ zs.length := by
      rw [hz]
      split <;> omega
    have hlen : (zs.take l).length = l := by simp; omega
    refine ⟨some x, l, c, zs.take l, rfl, hlen, Nat.le_trans hl hm, fun hsm => ⟨by omega, .inr ⟨x, c, by rw [hlen], by omega, fun hne => ?_⟩⟩⟩
    have hp : 0 < zs.length := by
      rcases Nat.eq_zero_or_pos zs.length with h0 | h0
      · have : zs = [] := List.eq_nil_of_length_eq_zero h0
        subst this
        simp at hne
      · exact h0
    obtain ⟨b, off, rfl, hcc⟩ := ints_at hcell hp
    have hc : ∀ i (hi : i < (zs.take l).length), W.cell? ⟨b, off + i, none⟩ = some (.int .u8 (zs.take l)[i]) := by
      intro i hi
      rw [hcc i (by omega)]
      simp [List.getD, List.getElem?_eq_getElem (show i < zs.length by omega)]
    refine ⟨b, off, rfl, ?_, hc⟩
    have h0 := hc 0 (by
      rcases Nat.eq_zero_or_pos l with h0 | h0
      · subst h0
        simp at hne
      · omega)
    unfold World.cell? at h0
    cases hh : W.heap[b]? with
    | none => simp [hh] at h0
    | some o => exact (Array.getElem?_eq_some_iff.1 hh).1

/-- A decision that came in by value. -/
theorem dec_open {H : Type} {enc : TypeId × Value → H} {W : World} {base : Nat} {spare : Nat → Bool} {r : Reach} {b : Nat} {v : Value} {d : DataW H} {p : List MemPlace} (hv : Value.okWide Try.prog W r b 24 v) (h : DataW.Trod enc Try.prog W base spare true 24 v d p) :
    ∃ (kd di dl dn : Int) (a : Option Addr) (n cap : Nat) (bs : List Int), v = .agg #[.int .i64 kd, .int .i64 di, .int .i64 dl, .int .i64 dn, .slice a n cap] ∧ bs.length = n ∧ n ≤ maxLen ∧ (n ≤ 140737488351232 → Byt W (.slice a n cap) bs) := by
  obtain ⟨cs, rfl, hsz⟩ := okWide_struct Try.underlying24 hv
  have hC : Try.prog.cellsOf 24 = 5 := by kernel_rfl
  rw [hC] at hsz
  obtain ⟨fuel, hf⟩ := h
  obtain ⟨ys, n, _, _, _, hyl, hg⟩ := DataW.trod_struct Try.underlying24 hf
  have k3 : Try.prog.cellsOf 3 = 1 := by kernel_rfl
  have k22 : Try.prog.cellsOf 22 = 1 := by kernel_rfl
  obtain ⟨l⟩ := cs
  match l, hsz, ys, hyl with
  | [c0, c1, c2, c3, c4], _, [y0, y1, y2, y3, y4], _ =>
    have hcell : (Value.agg { toList := [c0, c1, c2, c3, c4] }).cells.toList = [c0, c1, c2, c3, c4] := rfl
    rw [hcell] at hg
    have g0 : DataW.trod enc Try.prog W base spare true n 3 [c0] = some y0 := by simpa [k3] using hg 0 _ rfl
    have g1 : DataW.trod enc Try.prog W base spare true n 3 [c1] = some y1 := by simpa [k3] using hg 1 _ rfl
    have g2 : DataW.trod enc Try.prog W base spare true n 3 [c2] = some y2 := by simpa [k3] using hg 2 _ rfl
    have g3 : DataW.trod enc Try.prog W base spare true n 3 [c3] = some y3 := by simpa [k3] using hg 3 _ rfl
    have g4 : DataW.trod enc Try.prog W base spare true n 22 [c4] = some y4 := by simpa [k22] using hg 4 _ rfl
    obtain ⟨a0, e0, _, _⟩ := DataW.trod_int Try.underlying3 g0
    obtain ⟨a1, e1, _, _⟩ := DataW.trod_int Try.underlying3 g1
    obtain ⟨a2, e2, _, _⟩ := DataW.trod_int Try.underlying3 g2
    obtain ⟨a3, e3, _, _⟩ := DataW.trod_int Try.underlying3 g3
    obtain ⟨a, m, cap, bs, rfl, h1, h2, h3⟩ := byt_open g4
    simp only [List.cons.injEq, and_true] at e0 e1 e2 e3
    subst e0 e1 e2 e3
    exact ⟨a0, a1, a2, a3, a, m, cap, bs, rfl, h1, h2, h3⟩

theorem ref_any (w : World) (kd di dl dn : Int) (v : Value) (bs : List Int) (hv : Byt w v bs) :
    Calls Try.prog 10 #[.agg #[.int .i64 kd, .int .i64 di, .int .i64 dl, .int .i64 dn, v]] w fun e w' => e = .returned (.bool (mayB kd di dl dn bs.length)) ∧ Below w.heap.size w w' := by
  obtain ⟨a, cap, rfl, hc⟩ := hv.lenc
  exact PFlowDecisions.teaselref13_May.calls 5 kd di dl dn a cap bs _ w (kdC_of_byt hv) hc (may_ref kd di dl dn bs)

theorem ref_after {W : World} (q : After W) {kd di dl dn : Int} {v : Value} {bs : List Int} (hv : Byt W v bs) {m : Bool} (hm : mayB kd di dl dn bs.length = m) :
    Calls Try.prog 10 #[.agg #[.int .i64 kd, .int .i64 di, .int .i64 dl, .int .i64 dn, v]] q.now fun e w'' => e = .returned (.bool m) ∧ ∃ q' : After W, w'' = q'.now := by
  subst hm
  exact after_calls q (ref_any q.now kd di dl dn v bs (hv.below q.bel))

set_option maxHeartbeats 8000000 in
theorem all (kd di dl dn : Int) (a : Option Addr) (n cap : Nat) (bs : List Int) (w : World) (hlen : bs.length = n) (hn : n ≤ maxLen) (hb : n ≤ 140737488351232 → Byt w (.slice a n cap) bs) :
    Calls Try.prog 3 #[.agg #[.int .i64 kd, .int .i64 di, .int .i64 dl, .int .i64 dn, .slice a n cap]] w (Yes w) := by
  unfold maxLen at hn
  have hB := below_alloc (Below.refl w.heap.size w) (.cells #[.int .i64 kd, .int .i64 di, .int .i64 dl, .int .i64 dn, .slice a n cap] 24)
  have kb := blk_new w (.cells #[.int .i64 kd, .int .i64 di, .int .i64 dl, .int .i64 dn, .slice a n cap] 24)
  have hb2 := Lib.hid (fun h => (hb h).below hB)
  have hB := Lib.hid hB
  have hlen := Lib.hid hlen
  clear hb
  go_enter Try.func3, Try.ntmps3
  go_wp2_with (fail)
  refine (known_ok _).mono ?_
  rintro e w1 ⟨rfl, hb1⟩
  have kx := blk_below kb hb1
  have hb2 := Lib.hid (fun h => (hb2.out h).below hb1)
  have hB1 := Lib.hid (below_step hB.out hb1)
  clear hb1 kb
  generalize hX : w.heap.size = X at kx ⊢
  have hX := Lib.hid hX
  have x4 : w1.cell? ⟨X, 4, none⟩ = some (.slice a n cap) := blk_cell kx 4
  by_cases hs : (8192 : Int) < n
  · go_wp2_with (fail)
    go_ret
    exact ⟨rfl, hB1⟩
  · have hv : Byt w1 (.slice a n cap) bs := hb2.out (by omega)
    have hv := Lib.hid hv
    go_wp2_with (fail)
    have x0 : ∀ q : After w1, q.now.cell? ⟨X, 0, none⟩ = some (.int .i64 kd) := fun q => after_cell kx q 0
    have x1 : ∀ q : After w1, q.now.cell? ⟨X, 1, none⟩ = some (.int .i64 di) := fun q => after_cell kx q 1
    have x2 : ∀ q : After w1, q.now.cell? ⟨X, 2, none⟩ = some (.int .i64 dl) := fun q => after_cell kx q 2
    have x3 : ∀ q : After w1, q.now.cell? ⟨X, 3, none⟩ = some (.int .i64 dn) := fun q => after_cell kx q 3
    have x4' : ∀ q : After w1, q.now.cell? ⟨X, 4, none⟩ = some (.slice a n cap) := fun q => after_cell kx q 4
    have hm : ∃ m, mayB kd di dl dn bs.length = m := ⟨_, rfl⟩
    obtain ⟨m, hm⟩ := hm
    have hm := Lib.hid hm
    refine wp_region_after (by kernel_rfl) (by kernel_rfl) ?_
    repeat (go_big_quiet_step (first | (go_at_call 9; with_reducible refine may_after _ hv.out hm.out) | (go_at_call 10; with_reducible refine ref_after _ hv.out hm.out)))
    refine wpQuiet_nil ?_
    rintro _ ⟨q, rfl⟩
    go_wp2_with (fail)
    go_ret
    exact ⟨by simp, below_step hB1.out q.bel⟩

end Go.Proofs.Ytedpeambmmhcnaa.Decisions

/- A decision task is scheduled; what comes out. Conditions: those at each theorem. -/
import Derived.Test.YtedpeambmmhcnaaPutA
import Derived.StillTailTactics
set_option maxRecDepth 100000
namespace Go.Proofs.Ytedpeambmmhcnaa.Base
open Go.RowKit Go.Maps Go.Proofs.YtedpeambmmhcnaaW.PrintWords Go.Proofs.Ytedpeambmmhcnaa.Kit

structure OutE where
  kind : Int
  list : Int
  ref : Int
  turn : Int
  time : Int
  id : Int
  n : Int
  data : List Int

def outCells (o : OutE) (v : Value) : List Value := [.int .i64 o.kind, .int .i64 o.list, .int .i64 o.ref, .int .i64 o.turn, .int .i64 o.time, .int .i64 o.id, .int .i64 o.n, v]

def outRowOf : List OutE → List Value → List Value
  | o :: L, v :: vs => outCells o v ++ outRowOf L vs
  | _, _ => []

/-- What comes out, in memory. -/
def OutRow (w : World) (v : Value) (L : List OutE) : Prop :=
  ∃ vs : List Value, vs.length = L.length ∧ w.ownsRow 0 40 8 v L.length (outRowOf L vs) ∧ ∀ (i : Nat) (o : OutE) (u : Value), L[i]? = some o → vs[i]? = some u → Byt w u o.data

theorem OutRow.nil (w : World) : OutRow w (.slice none 0 0) [] := ⟨[], rfl, World.ownsRow_nil _ _ _ _, fun i e u h => by simp at h⟩

theorem OutRow.one {w : World} {g : Nat} {o : OutE} {v : Value} (hg : w.heap[g]? = some (.cells (outCells o v).toArray 40 (0, 0))) (hv : Byt w v o.data) : OutRow w (.slice (some ⟨g, 0, none⟩) 1 1) [o] := by
  refine ⟨[v], rfl, ⟨rfl, .inr ⟨g, 1, _, rfl, Nat.zero_le _, hg, Nat.le_refl _, by decide, rfl, by simp [outCells, outRowOf]⟩⟩, ?_⟩
  intro i o' u h1 h2
  rcases i with _ | i
  · simp at h1 h2
    subst h1 h2
    exact hv
  · simp at h1

theorem OutRow.len {w : World} {v : Value} {L : List OutE} (h : OutRow w v L) : ∃ a cap, v = .slice a L.length cap := by
  obtain ⟨vs, _, h, _⟩ := h
  rcases h.2 with ⟨rfl, h0⟩ | ⟨g, cap, cur, rfl, _⟩
  · rw [h0]; exact ⟨_, _, rfl⟩
  · exact ⟨_, _, rfl⟩

/-- The first of them. -/
theorem OutRow.head {w : World} {v : Value} {o : OutE} {L : List OutE} (h : OutRow w v (o :: L)) :
    ∃ A cap u, v = .slice (some ⟨A, 0, none⟩) (L.length + 1) cap ∧ Byt w u o.data ∧ ∀ j x, (outCells o u)[j]? = some x → w.cell? ⟨A, j, none⟩ = some x := by
  obtain ⟨vs, hl, h, hb⟩ := h
  rcases h.2 with ⟨_, h0⟩ | ⟨g, cap, cur, rfl, h1, hg, h2, h3⟩
  · simp at h0
  · obtain ⟨u, vs, rfl⟩ : ∃ u r, vs = u :: r := by
      cases vs with
      | nil => simp at hl
      | cons u r => exact ⟨u, r, rfl⟩
    refine ⟨g, cap, u, rfl, hb 0 o u rfl rfl, fun j x hj => ?_⟩
    have hj8 : j < 8 := by
      have := (List.getElem?_eq_some_iff.1 hj).1
      simpa [outCells] using this
    have := h.cells (g := g) rfl j x (by simp only [outRowOf]; rw [List.getElem?_append_left (by simpa [outCells] using hj8)]; exact hj)
    rw [Addr.add_lit, Nat.zero_add] at this
    exact this

/-- None of these blocks holds what comes out. -/
def NoOuts (w : World) (S : Nat → Prop) : Prop := ∀ k, S k → ∀ cur, w.heap[k]? ≠ some (.cells cur 40 (0, 0))

theorem OutRow.mod {w w' : World} {S : Nat → Prop} {v : Value} {L : List OutE} (h : OutRow w v L) (hm : Mod S w w') (hS : NoBytes w S) (hE : NoOuts w S) : OutRow w' v L := by
  obtain ⟨vs, hl, h, hb⟩ := h
  refine ⟨vs, hl, ⟨h.1, ?_⟩, fun i e u he hu => (hb i e u he hu).mod hm hS⟩
  rcases h.2 with h0 | ⟨g, cap, cur, hv, h1, hg, hr⟩
  · exact .inl h0
  · exact .inr ⟨g, cap, cur, hv, h1, (hm.block g (Array.getElem?_eq_some_iff.1 hg).1 (fun hs => hE g hs _ hg)).trans hg, hr⟩

theorem OutRow.below {w w' : World} {v : Value} {L : List OutE} (h : OutRow w v L) (hb : Below w.heap.size w w') : OutRow w' v L :=
  h.mod (S := fun _ => False) (Mod.of_below hb) (fun _ hk => hk.elim) (fun _ hk => hk.elim)

theorem FlowAt.noOuts {w : World} {F M : Nat} {lv : Value} {S : St} (h : FlowAt w F M lv S) : NoOuts w (Own F M) := by
  intro k hk cur hc
  rcases hk with rfl | rfl
  · rw [h.blk] at hc; simp at hc
  · obtain ⟨es, clock, hb⟩ := h.map.blk
    rw [hb] at hc; simp at hc

/-- A run when a decision task has been scheduled. -/
def sched (S : St) (now : Int) : St := { S with L := S.L ++ [⟨2, now, 0, 0, S.list, S.turn, []⟩], task := 1, time := S.L.length + 1, begun := 0, turn := S.turn, late := false }

def taskOut (S : St) : OutE := ⟨1, S.list, S.L.length + 1, S.turn, 0, 0, 0, []⟩

set_option maxHeartbeats 8000000 in
theorem schedule_any (w : World) (F M : Nat) (lv : Value) (S : St) (h : FlowAt w F M lv S) (hL : S.L.length ≤ 8000) (now : Int) :
    Calls Try.prog 39 #[.pointer (some ⟨F, 0, none⟩), .int .i64 now] w fun e w' => ∃ lv' v, e = .returned v ∧ OutRow w' v [taskOut S] ∧ FlowAt w' F M lv' (sched S now) ∧ Mod (Own F M) w w' := by
  have H := Lib.hid h
  obtain ⟨c0, c1, c2, c3, c4, c5, c6, c7, c8, c9, c10, c11⟩ := h.cells
  clear h c0 c1 c3 c4 c5 c6 c7 c9 c10 c11
  go_enter Try.func39, Try.ntmps39
  go_wp2_with (fail)
  go_still_tail 11, (by kernel_rfl)
  change wpList _ _ _ _ _ w.drew
  have H1 : FlowAt w.drew F M lv S := FlowAt.below H (below_drew (Below.refl _ _))
  have hM0 : Mod (Own F M) w w.drew := Mod.drew (Mod.refl _ _)
  have hM0 := Lib.hid hM0
  generalize w.drew = w1 at H1 hM0 ⊢
  have H1 := Lib.hid H1
  clear c2 c8 H
  go_wp2_with (fail)
  refine (put_2 w1 F M lv S H1 hL _ _ _ _ _ [] _ (Byt.none _)).mono ?_
  rintro e w2 ⟨lv2, rfl, H2, hM2⟩
  obtain ⟨c0, c1, c2, c3, c4, c5, c6, c7, c8, c9, c10, c11⟩ := H2.cells
  have H2 := Lib.hid H2
  have hM2 := Lib.hid hM2
  clear c0 c1 c3 c4 c5 c6 c7 c9 c10 c11 H1
  simp only at c2 c8
  go_wp2_with (fail)
  go_still_tail 10, (by kernel_rfl)
  change wpList _ _ _ _ _ w2.drew
  go_wp2_with (fail)
  go_ret
  have hb2 : Below w2.heap.size w2 (w2.alloc (.cells (outCells (taskOut S) (.slice none 0 0)).toArray 40)).drew := below_drew (below_alloc (Below.refl _ _) _)
  exact ⟨lv2, _, rfl, OutRow.one (v := .slice none 0 0) (o := taskOut S) (blk_new w2 _) (Byt.none _), FlowAt.below H2 hb2, (Mod.trans hM0 hM2).trans (Mod.of_below hb2)⟩

/-- A run when it was woken; what comes out. -/
def woken (S : St) (now : Int) : St := if S.task = 0 then sched S now else S
def wakeOut (S : St) : List OutE := if S.task = 0 then [taskOut S] else []

set_option maxHeartbeats 4000000 in
theorem wake_any (w : World) (F M : Nat) (lv : Value) (S : St) (h : FlowAt w F M lv S) (hL : S.L.length ≤ 8000) (now : Int) :
    Calls Try.prog 43 #[.pointer (some ⟨F, 0, none⟩), .int .i64 now] w fun e w' => ∃ lv' v, e = .returned v ∧ OutRow w' v (wakeOut S) ∧ FlowAt w' F M lv' (woken S now) ∧ Mod (Own F M) w w' := by
  have H := Lib.hid h
  obtain ⟨c0, c1, c2, c3, c4, c5, c6, c7, c8, c9, c10, c11⟩ := h.cells
  clear h c0 c1 c2 c3 c4 c6 c7 c8 c9 c10 c11
  by_cases ht : S.task = 0
  · have hb : (S.task == 0) = true := by simp [ht]
    have e1 : woken S now = sched S now := by simp [woken, ht]
    have e2 : wakeOut S = [taskOut S] := by simp [wakeOut, ht]
    rw [e1, e2]
    clear ht e1 e2
    go_enter Try.func43, Try.ntmps43
    go_wp2_with (fail)
    refine (schedule_any w F M lv S H hL now).mono ?_
    rintro e w2 ⟨lv2, v2, rfl, ho, H2, hM2⟩
    have ho := Lib.hid ho
    have H2 := Lib.hid H2
    have hM2 := Lib.hid hM2
    go_wp2_with (fail)
    go_ret
    exact ⟨lv2, v2, rfl, ho, H2, hM2⟩
  · have hb : (S.task == 0) = false := by simp [ht]
    have e1 : woken S now = S := by simp [woken, ht]
    have e2 : wakeOut S = [] := by simp [wakeOut, ht]
    rw [e1, e2]
    clear ht e1 e2
    go_enter Try.func43, Try.ntmps43
    go_wp2_with (fail)
    go_ret
    exact ⟨lv, _, rfl, OutRow.nil _, H, Mod.refl _ _⟩

end Go.Proofs.Ytedpeambmmhcnaa.Base

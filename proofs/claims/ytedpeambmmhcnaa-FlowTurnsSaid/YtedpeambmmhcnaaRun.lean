/- A decision task is scheduled; what comes out. Conditions: those at each theorem. -/
import Derived.Test.YtedpeambmmhcnaaPutA
import Derived.StillTailTactics
import Derived.Deep.CutBlock
set_option maxRecDepth 100000
namespace Go.Proofs.Ytedpeambmmhcnaa.Base
open Go.RowKit Go.Maps Go.Proofs.YtedpeambmmhcnaaW.PrintWords Go.Proofs.Ytedpeambmmhcnaa.Kit

structure OutE where
  kind : Int
  list : Int
  ref : Int
  turn : Int
  time : Int
  id : Int
  n : Int
  data : List Int

def outCells (o : OutE) (v : Value) : List Value := [.int .i64 o.kind, .int .i64 o.list, .int .i64 o.ref, .int .i64 o.turn, .int .i64 o.time, .int .i64 o.id, .int .i64 o.n, v]

def outRowOf : List OutE → List Value → List Value
  | o :: L, v :: vs => outCells o v ++ outRowOf L vs
  | _, _ => []

/-- What comes out, in memory. -/
def OutRow (w : World) (v : Value) (L : List OutE) : Prop :=
  ∃ vs : List Value, vs.length = L.length ∧ w.ownsRow 0 40 8 v L.length (outRowOf L vs) ∧ ∀ (i : Nat) (o : OutE) (u : Value), L[i]? = some o → vs[i]? = some u → Byt w u o.data

theorem OutRow.nil (w : World) : OutRow w (.slice none 0 0) [] := ⟨[], rfl, World.ownsRow_nil _ _ _ _, fun i e u h => by simp at h⟩

theorem OutRow.one {w : World} {g : Nat} {o : OutE} {v : Value} (hg : w.heap[g]? = some (.cells (outCells o v).toArray 40 (0, 0))) (hv : Byt w v o.data) : OutRow w (.slice (some ⟨g, 0, none⟩) 1 1) [o] := by
  refine ⟨[v], rfl, ⟨rfl, .inr ⟨g, 1, _, rfl, Nat.zero_le _, hg, Nat.le_refl _, by decide, rfl, by simp [outCells, outRowOf]⟩⟩, ?_⟩
  intro i o' u h1 h2
  rcases i with _ | i
  · simp at h1 h2
    subst h1 h2
    exact hv
  · simp at h1

theorem OutRow.len {w : World} {v : Value} {L : List OutE} (h : OutRow w v L) : ∃ a cap, v = .slice a L.length cap := by
  obtain ⟨vs, _, h, _⟩ := h
  rcases h.2 with ⟨rfl, h0⟩ | ⟨g, cap, cur, rfl, _⟩
  · rw [h0]; exact ⟨_, _, rfl⟩
  · exact ⟨_, _, rfl⟩

/-- The first of them. -/
theorem OutRow.head {w : World} {v : Value} {o : OutE} {L : List OutE} (h : OutRow w v (o :: L)) :
    ∃ A cap u, v = .slice (some ⟨A, 0, none⟩) (L.length + 1) cap ∧ Byt w u o.data ∧ ∀ j x, (outCells o u)[j]? = some x → w.cell? ⟨A, j, none⟩ = some x := by
  obtain ⟨vs, hl, h, hb⟩ := h
  rcases h.2 with ⟨_, h0⟩ | ⟨g, cap, cur, rfl, h1, hg, h2, h3⟩
  · simp at h0
  · obtain ⟨u, vs, rfl⟩ : ∃ u r, vs = u :: r := by
      cases vs with
      | nil => simp at hl
      | cons u r => exact ⟨u, r, rfl⟩
    refine ⟨g, cap, u, rfl, hb 0 o u rfl rfl, fun j x hj => ?_⟩
    have hj8 : j < 8 := by
      have := (List.getElem?_eq_some_iff.1 hj).1
      simpa [outCells] using this
    have := h.cells (g := g) rfl j x (by simp only [outRowOf]; rw [List.getElem?_append_left (by simpa [outCells] using hj8)]; exact hj)
    rw [Addr.add_lit, Nat.zero_add] at this
    exact this

/-- None of these blocks holds what comes out. -/
def NoOuts (w : World) (S : Nat → Prop) : Prop := ∀ k, S k → ∀ cur, w.heap[k]? ≠ some (.cells cur 40 (0, 0))

theorem OutRow.mod {w w' : World} {S : Nat → Prop} {v : Value} {L : List OutE} (h : OutRow w v L) (hm : Mod S w w') (hS : NoBytes w S) (hE : NoOuts w S) : OutRow w' v L := by
  obtain ⟨vs, hl, h, hb⟩ := h
  refine ⟨vs, hl, ⟨h.1, ?_⟩, fun i e u he hu => (hb i e u he hu).mod hm hS⟩
  rcases h.2 with h0 | ⟨g, cap, cur, hv, h1, hg, hr⟩
  · exact .inl h0
  · exact .inr ⟨g, cap, cur, hv, h1, (hm.block g (Array.getElem?_eq_some_iff.1 hg).1 (fun hs => hE g hs _ hg)).trans hg, hr⟩

theorem OutRow.below {w w' : World} {v : Value} {L : List OutE} (h : OutRow w v L) (hb : Below w.heap.size w w') : OutRow w' v L :=
  h.mod (S := fun _ => False) (Mod.of_below hb) (fun _ hk => hk.elim) (fun _ hk => hk.elim)

theorem FlowAt.noOuts {w : World} {F M : Nat} {lv : Value} {S : St} (h : FlowAt w F M lv S) : NoOuts w (Own F M) := by
  intro k hk cur hc
  rcases hk with rfl | rfl
  · rw [h.blk] at hc; simp at hc
  · obtain ⟨es, clock, hb⟩ := h.map.blk
    rw [hb] at hc; simp at hc

/-- A run when a decision task has been scheduled. -/
def sched (S : St) (now : Int) : St := { S with L := S.L ++ [⟨2, now, 0, 0, S.list, S.turn, []⟩], task := 1, time := S.L.length + 1, begun := 0, turn := S.turn, late := false }

def taskOut (S : St) : OutE := ⟨1, S.list, S.L.length + 1, S.turn, 0, 0, 0, []⟩

set_option maxHeartbeats 8000000 in
theorem schedule_any (w : World) (F M : Nat) (lv : Value) (S : St) (h : FlowAt w F M lv S) (hL : S.L.length ≤ 8000) (now : Int) :
    Calls Try.prog 39 #[.pointer (some ⟨F, 0, none⟩), .int .i64 now] w fun e w' => ∃ lv' v, e = .returned v ∧ OutRow w' v [taskOut S] ∧ FlowAt w' F M lv' (sched S now) ∧ Mod (Own F M) w w' := by
  have H := Lib.hid h
  obtain ⟨c0, c1, c2, c3, c4, c5, c6, c7, c8, c9, c10, c11⟩ := h.cells
  clear h c0 c1 c3 c4 c5 c6 c7 c9 c10 c11
  go_enter Try.func39, Try.ntmps39
  go_wp2_with (fail)
  go_still_tail 11, (by kernel_rfl)
  change wpList _ _ _ _ _ w.drew
  have H1 : FlowAt w.drew F M lv S := FlowAt.below H (below_drew (Below.refl _ _))
  have hM0 : Mod (Own F M) w w.drew := Mod.drew (Mod.refl _ _)
  have hM0 := Lib.hid hM0
  generalize w.drew = w1 at H1 hM0 ⊢
  have H1 := Lib.hid H1
  clear c2 c8 H
  go_wp2_with (fail)
  refine (put_2 w1 F M lv S H1 hL _ _ _ _ _ [] _ (Byt.none _)).mono ?_
  rintro e w2 ⟨lv2, rfl, H2, hM2⟩
  obtain ⟨c0, c1, c2, c3, c4, c5, c6, c7, c8, c9, c10, c11⟩ := H2.cells
  have H2 := Lib.hid H2
  have hM2 := Lib.hid hM2
  clear c0 c1 c3 c4 c5 c6 c7 c9 c10 c11 H1
  simp only at c2 c8
  go_wp2_with (fail)
  go_still_tail 10, (by kernel_rfl)
  change wpList _ _ _ _ _ w2.drew
  go_wp2_with (fail)
  go_ret
  have hb2 : Below w2.heap.size w2 (w2.alloc (.cells (outCells (taskOut S) (.slice none 0 0)).toArray 40)).drew := below_drew (below_alloc (Below.refl _ _) _)
  exact ⟨lv2, _, rfl, OutRow.one (v := .slice none 0 0) (o := taskOut S) (blk_new w2 _) (Byt.none _), FlowAt.below H2 hb2, (Mod.trans hM0 hM2).trans (Mod.of_below hb2)⟩

/-- A run when it was woken; what comes out. -/
def woken (S : St) (now : Int) : St := if S.task = 0 then sched S now else S
def wakeOut (S : St) : List OutE := if S.task = 0 then [taskOut S] else []

set_option maxHeartbeats 4000000 in
theorem wake_any (w : World) (F M : Nat) (lv : Value) (S : St) (h : FlowAt w F M lv S) (hL : S.L.length ≤ 8000) (now : Int) :
    Calls Try.prog 43 #[.pointer (some ⟨F, 0, none⟩), .int .i64 now] w fun e w' => ∃ lv' v, e = .returned v ∧ OutRow w' v (wakeOut S) ∧ FlowAt w' F M lv' (woken S now) ∧ Mod (Own F M) w w' := by
  have H := Lib.hid h
  obtain ⟨c0, c1, c2, c3, c4, c5, c6, c7, c8, c9, c10, c11⟩ := h.cells
  clear h c0 c1 c2 c3 c4 c6 c7 c8 c9 c10 c11
  by_cases ht : S.task = 0
  · have hb : (S.task == 0) = true := by simp [ht]
    have e1 : woken S now = sched S now := by simp [woken, ht]
    have e2 : wakeOut S = [taskOut S] := by simp [wakeOut, ht]
    rw [e1, e2]
    clear ht e1 e2
    go_enter Try.func43, Try.ntmps43
    go_wp2_with (fail)
    refine (schedule_any w F M lv S H hL now).mono ?_
    rintro e w2 ⟨lv2, v2, rfl, ho, H2, hM2⟩
    have ho := Lib.hid ho
    have H2 := Lib.hid H2
    have hM2 := Lib.hid hM2
    go_wp2_with (fail)
    go_ret
    exact ⟨lv2, v2, rfl, ho, H2, hM2⟩
  · have hb : (S.task == 0) = false := by simp [ht]
    have e1 : woken S now = S := by simp [woken, ht]
    have e2 : wakeOut S = [] := by simp [wakeOut, ht]
    rw [e1, e2]
    clear ht e1 e2
    go_enter Try.func43, Try.ntmps43
    go_wp2_with (fail)
    go_ret
    exact ⟨lv, _, rfl, OutRow.nil _, H, Mod.refl _ _⟩

end Go.Proofs.Ytedpeambmmhcnaa.Base

/- A call on a run that is open: what the closure does, or nothing. Conditions: those at each theorem. -/
namespace Go.Proofs.Ytedpeambmmhcnaa.Base
open Go.RowKit Go.Maps Go.Proofs.YtedpeambmmhcnaaW.PrintWords Go.Proofs.Ytedpeambmmhcnaa.Kit

/-- What a call leaves. -/
def Did (w : World) (F M : Nat) (os : List OutE) (err : Int) (S' : St) (e : Ending) (w' : World) : Prop :=
  ∃ M' lv' v', e = .returned (.tuple #[v', .int .i64 err]) ∧ OutRow w' v' os ∧ FlowAt w' F M' lv' S' ∧ Mod (Own F M) w w' ∧ (M' = M ∨ w.heap.size ≤ M')

/-- What the closure does to a twin. -/
def Does (w : World) (g : FuncId) (caps : Array Value) (lv : Value) (S : St) (os : List OutE) (err : Int) (S1 : St) : Prop :=
  ∀ w1 X M1, w.heap.size ≤ X → w.heap.size ≤ M1 → Below w.heap.size w w1 → FlowAt w1 X M1 lv S →
    Calls Try.prog g (#[.pointer (some ⟨X, 0, none⟩)] ++ caps) w1 fun e w2 => ∃ lv2 v2, e = .returned (.tuple #[v2, .int .i64 err]) ∧ OutRow w2 v2 os ∧ FlowAt w2 X M1 lv2 S1 ∧ Mod (Own X M1) w1 w2

set_option maxHeartbeats 4000000 in
theorem try_arg (w : World) (F M : Nat) (lv : Value) (S : St) (h : FlowAt w F M lv S) (v : Value) (bs : List Int) (hv : Byt w v bs) (now : Int) (f : Value) (hr : rightOf S.L bs.length now = false) :
    Calls Try.prog 40 #[.pointer (some ⟨F, 0, none⟩), v, .int .i64 now, f] w (Did w F M [] 1 S) := by
  have H := Lib.hid h
  have hv := Lib.hid hv
  clear h
  go_enter Try.func40, Try.ntmps40
  go_wp2_with (fail)
  refine (right_any w F M lv S H v bs hv now).mono ?_
  rintro e w2 ⟨rfl, hb⟩
  rw [hr]
  go_wp2_with (fail)
  go_ret2
  exact ⟨M, lv, _, rfl, OutRow.nil _, FlowAt.below H hb, Mod.of_below hb, Or.inl rfl⟩

set_option maxHeartbeats 4000000 in
theorem try_closed (w : World) (F M : Nat) (lv : Value) (S : St) (h : FlowAt w F M lv S) (v : Value) (bs : List Int) (hv : Byt w v bs) (now : Int) (f : Value) (hr : rightOf S.L bs.length now = true) (hs : (statusOf S.L == 1) = false) :
    Calls Try.prog 40 #[.pointer (some ⟨F, 0, none⟩), v, .int .i64 now, f] w (Did w F M [] 20 S) := by
  have H := Lib.hid h
  have hv := Lib.hid hv
  clear h
  go_enter Try.func40, Try.ntmps40
  go_wp2_with (fail)
  refine (right_any w F M lv S H v bs hv now).mono ?_
  rintro e w2 ⟨rfl, hb⟩
  rw [hr]
  have H2 := Lib.hid (FlowAt.below H hb)
  have hb := Lib.hid hb
  go_wp2_with (fail)
  refine (fstatus w2 F M lv S H2).mono ?_
  rintro e w3 ⟨rfl, hb3⟩
  go_wp2_with (fail)
  go_ret2
  exact ⟨M, lv, _, rfl, OutRow.nil _, FlowAt.below H2 hb3, Mod.of_below (below_step hb hb3), Or.inl rfl⟩

theorem try_end {w w5 w6 : World} {F M X M1 : Nat} {lv lv2 v2 : Value} {S S1 : St} {os : List OutE} (HF5 : FlowAt w5 F M lv S) (HX5 : FlowAt w5 X M1 lv2 S1) (hos : OutRow w5 v2 os) (hm : Mod (Own F M) w w5) (hm6 : Mod (fun k => k = F) w5 w6)
    (hblk : w6.heap[F]? = some (.cells (flowCells S1 lv2 M1) 75 (0, 0))) : OutRow w6 v2 os ∧ FlowAt w6 F M1 lv2 S1 ∧ Mod (Own F M) w w6 := by
  have n1 : NoBytes w5 (fun k => k = F) := fun k hk => HF5.noBytes k (Or.inl hk)
  have n2 : NoEvs w5 (fun k => k = F) := fun k hk => HF5.noEvs k (Or.inl hk)
  have n3 : NoOuts w5 (fun k => k = F) := fun k hk => HF5.noOuts k (Or.inl hk)
  have hne : M1 ≠ F := by
    intro e
    obtain ⟨es, clock, hb⟩ := HX5.map.blk
    rw [e, HF5.blk] at hb
    simp at hb
  exact ⟨hos.mod hm6 n1 n3, ⟨hblk, HX5.row.mod hm6 n1 n2, HX5.map.mod hm6 hne, HX5.few⟩, hm.trans (hm6.mono (fun k hk => Or.inl hk))⟩

/-- A run laid over another. -/
def laid (W : World) (F : Nat) (S1 : St) (lv1 : Value) (M1 : Nat) : World := (((((((((((W.setCell ⟨F, 0, none⟩ (.int .i64 S1.id)).setCell ⟨F, 1, none⟩ (.int .i64 S1.run)).setCell ⟨F, 2, none⟩ (.int .i64 S1.list)).setCell ⟨F, 3, none⟩ (.int .i64 S1.n)).setCell ⟨F, 4, none⟩ (lv1)).setCell ⟨F, 5, none⟩ (.int .i64 S1.task)).setCell ⟨F, 6, none⟩ (.int .i64 S1.time)).setCell ⟨F, 7, none⟩ (.int .i64 S1.begun)).setCell ⟨F, 8, none⟩ (.int .i64 S1.turn)).setCell ⟨F, 9, none⟩ (.bool S1.late)).setCell ⟨F, 10, none⟩ (.bool S1.asked)).setCell ⟨F, 11, none⟩ (.map (some M1))

theorem laid_blk {W : World} {F M : Nat} {S : St} {lv : Value} (h : W.heap[F]? = some (.cells (flowCells S lv M) 75 (0, 0))) (S1 : St) (lv1 : Value) (M1 : Nat) : (laid W F S1 lv1 M1).heap[F]? = some (.cells (flowCells S1 lv1 M1) 75 (0, 0)) := by
  unfold laid
  simpa [flowCells] using blk_set (blk_set (blk_set (blk_set (blk_set (blk_set (blk_set (blk_set (blk_set (blk_set (blk_set (blk_set h 0 _) 1 _) 2 _) 3 _) 4 _) 5 _) 6 _) 7 _) 8 _) 9 _) 10 _) 11 _

theorem laid_mod (W : World) (F : Nat) (S1 : St) (lv1 : Value) (M1 : Nat) : Mod (fun k => k = F) W (laid W F S1 lv1 M1) := by
  unfold laid
  exact (Mod.set (S := fun k => k = F) (Mod.set (S := fun k => k = F) (Mod.set (S := fun k => k = F) (Mod.set (S := fun k => k = F) (Mod.set (S := fun k => k = F) (Mod.set (S := fun k => k = F) (Mod.set (S := fun k => k = F) (Mod.set (S := fun k => k = F) (Mod.set (S := fun k => k = F) (Mod.set (S := fun k => k = F) (Mod.set (S := fun k => k = F) (Mod.set (S := fun k => k = F) (Mod.refl _ _) rfl _ _) rfl _ _) rfl _ _) rfl _ _) rfl _ _) rfl _ _) rfl _ _) rfl _ _) rfl _ _) rfl _ _) rfl _ _) rfl _ _)

set_option maxHeartbeats 8000000 in
theorem try_ok (w : World) (F M : Nat) (lv : Value) (S : St) (h : FlowAt w F M lv S) (v : Value) (bs : List Int) (hv : Byt w v bs) (now : Int) (g : FuncId) (caps : Array Value) (hcf : ∀ args w, (callFunc g args).run Try.prog w = .ok (.enter g args) w) (hr : rightOf S.L bs.length now = true) (hs : statusOf S.L = 1)
    (os : List OutE) (err : Int) (S1 : St) (hdo : Does w g caps lv S os err S1) (ho : err = 0 ∨ S1.L.length ≠ S.L.length) (hn : S1.L.length ≤ 4096) :
    Calls Try.prog 40 #[.pointer (some ⟨F, 0, none⟩), v, .int .i64 now, .func (.func g) #[] caps] w (Did w F M os err S1) := by
  have H := Lib.hid h
  have hv := Lib.hid hv
  have hdo := Lib.hid hdo
  have hs1 : (statusOf S.L == 1) = true := by simp [hs]
  clear h
  go_enter Try.func40, Try.ntmps40
  go_wp2_with (fail)
  refine (right_any w F M lv S H v bs hv now).mono ?_
  rintro e w2 ⟨rfl, hb⟩
  rw [hr]
  have H2 := Lib.hid (FlowAt.below H hb)
  have hb := Lib.hid hb
  go_wp2_with (fail)
  refine (fstatus w2 F M lv S H2).mono ?_
  rintro e w3 ⟨rfl, hb3⟩
  have H3 := Lib.hid (FlowAt.below H2 hb3)
  have hb3 := Lib.hid (below_step hb hb3)
  go_wp2_with (fail)
  refine (twin_any w3 F M lv S H3).mono ?_
  rintro e w4 ⟨X, M1, rfl, hX, hM1, HX, hb4⟩
  have H4 := Lib.hid (FlowAt.below H3 hb4)
  have hb4 := Lib.hid (below_step hb3 hb4)
  have hX := Lib.hid hX
  have hM1 := Lib.hid hM1
  have HX := Lib.hid HX
  go_wp2_with (fail)
  refine (hdo w4 X M1 (Nat.le_trans hb3.size hX) (Nat.le_trans hb3.size hM1) hb4 HX).mono ?_
  rintro e w5 ⟨lv2, v2, rfl, hos, HX5, hm5⟩
  have hne : F ≠ X := fun e => by
    have h1 : F < w3.heap.size := blk_lt (FlowAt.blk H3)
    have h2 : w3.heap.size ≤ X := hX
    omega
  have hneM : M ≠ M1 := fun e => by
    obtain ⟨es, clock, hb⟩ := (FlowAt.map H3).blk
    have h1 : M < w3.heap.size := (Array.getElem?_eq_some_iff.1 hb).1
    have h2 : w3.heap.size ≤ M1 := hM1
    omega
  have HF5 : FlowAt w5 F M lv S := FlowAt.apart H4 HX hm5 hne hneM
  have hb5 : Below w.heap.size w w5 := hm5.below hb4 (by
    intro k hk
    rcases hk with rfl | rfl
    · exact Nat.le_trans hb3.size hX
    · exact Nat.le_trans hb3.size hM1)
  have hb5 := Lib.hid hb5
  obtain ⟨xa, xcap, rfl⟩ := HX5.lv
  obtain ⟨a, cap, rfl⟩ := HF5.lv
  obtain ⟨c0, c1, c2, c3, c4, c5, c6, c7, c8, c9, c10, c11⟩ := HX5.cells
  have f4 := HF5.cl
  have hos := Lib.hid hos
  have HX5 := Lib.hid HX5
  have HF5 := Lib.hid HF5
  have hm5 := Lib.hid hm5
  have hne := Lib.hid hne
  have hneM := Lib.hid hneM
  have z := fun j => blk_frozen (FlowAt.blk HF5) j
  obtain ⟨d0, d1, d2, d3, d4, d5, d6, d7, d8, d9, d10, d11⟩ := FlowAt.cells HF5
  clear f4
  have hlen : (err != 0) = false ∨ ((err != 0) = true ∧ ((S1.L.length : Int) == (S.L.length : Int)) = false) := by
    rcases ho with h | h
    · exact Or.inl (by simp [h])
    · by_cases he : err = 0
      · exact Or.inl (by simp [he])
      · exact Or.inr ⟨by simp [he], by simp; omega⟩
  clear ho
  go_wp2_with (fail)
  go_cut [31] (fun u wx => u = .bool false ∧ ∃ n, wx = w5.drewN n)
  case first =>
    rcases hlen with he | ⟨he, hl⟩
    · go_quiet (fail)
      go_wp2_with (fail)
      go_meet
      exact ⟨rfl, _, rfl⟩
    · go_quiet (fail)
      go_wp2_with (fail)
      go_meet
      exact ⟨rfl, _, rfl⟩
  case rest =>
    obtain ⟨rfl, n, rfl⟩ := hcut
    have hgt : decide ((4096 : Int) < (S1.L.length : Int)) = false := by simp; omega
    go_wp2_with (fail)
    go_ret2
    have hm6 : Mod (fun k => k = F) w5 (laid (w5.drewN n) F S1 (.slice xa S1.L.length xcap) M1) := (Mod.drewN (Mod.refl _ _) n).trans (laid_mod _ _ _ _ _)
    have hblk : (laid (w5.drewN n) F S1 (.slice xa S1.L.length xcap) M1).heap[F]? = some (.cells (flowCells S1 (.slice xa S1.L.length xcap) M1) 75 (0, 0)) := laid_blk (W := w5.drewN n) (show w5.heap[F]? = _ from FlowAt.blk (show FlowAt w5 F M _ S from HF5)) S1 _ M1
    have hE := try_end HF5 HX5 hos (Mod.of_below (show Below w.heap.size w w5 from hb5)) hm6 hblk
    exact ⟨M1, _, _, rfl, hE.1, hE.2.1, hE.2.2, Or.inr (Nat.le_trans hb3.size hM1)⟩

end Go.Proofs.Ytedpeambmmhcnaa.Base

/- A new run. Conditions: those at each theorem. -/
namespace Go.Proofs.Ytedpeambmmhcnaa.Base
open Go.RowKit Go.Maps Go.Proofs.YtedpeambmmhcnaaW.PrintWords Go.Proofs.Ytedpeambmmhcnaa.Kit

def flowNum (v : Int) : Bool := decide (0 ≤ v) && decide (v ≤ 1048576)
def ticksOk (v : Int) : Bool := decide (1 ≤ v) && decide (v ≤ 1048576)

set_option maxHeartbeats 2000000 in
theorem flowNumber_any (w : World) (v : Int) : Calls Try.prog 33 #[.int .i64 v] w fun e w' => e = .returned (.bool (flowNum v)) ∧ w' = w := by
  unfold flowNum
  cases h1 : decide (0 ≤ v) <;> cases h2 : decide (v ≤ 1048576)
  all_goals
    go_enter Try.func33, Try.ntmps33
    go_wp2_with (fail)
    go_ret
    exact ⟨by simp_all, rfl⟩

set_option maxHeartbeats 2000000 in
theorem ticks_any (w : World) (v : Int) : Calls Try.prog 34 #[.int .i64 v] w fun e w' => e = .returned (.bool (ticksOk v)) ∧ w' = w := by
  unfold ticksOk
  cases h1 : decide (1 ≤ v) <;> cases h2 : decide (v ≤ 1048576)
  all_goals
    go_enter Try.func34, Try.ntmps34
    go_wp2_with (fail)
    go_ret
    exact ⟨by simp_all, rfl⟩

def start (id run : Int) : St := ⟨id, run, 0, 0, [], 0, 0, 0, 0, false, false, fun _ => none⟩

def newSt (id run list n : Int) (bs : List Int) (now : Int) : St := sched { start id run with L := [⟨1, now, 0, 0, list, n, bs⟩], list := list, n := n } now

set_option maxHeartbeats 8000000 in
theorem new_ok (w : World) (id run list n : Int) (v : Value) (bs : List Int) (hv : Byt w v bs) (now : Int) (h1 : flowNum id = true) (h2 : ticksOk run = true) (h3 : flowNum list = true) (h4 : ticksOk n = true) (h5 : rightOf [] bs.length now = true) :
    Calls Try.prog 11 #[.int .i64 id, .int .i64 run, .int .i64 list, .int .i64 n, v, .int .i64 now] w fun e w' => ∃ F M lv v', e = .returned (.tuple #[.pointer (some ⟨F, 0, none⟩), v', .int .i64 0]) ∧ w.heap.size ≤ F ∧ w.heap.size ≤ M ∧
      OutRow w' v' [⟨1, list, 2, 0, 0, 0, 0, []⟩] ∧ FlowAt w' F M lv (newSt id run list n bs now) ∧ Below w.heap.size w w' := by
  have hmm := @run_makeMap Try.prog
  obtain ⟨va, vcap, rfl⟩ := hv.len
  have hv := Lib.hid hv
  go_enter Try.func11, Try.ntmps11
  go_wp2_with (first | (go_at_call 33; refine (flowNumber_any _ _).mono ?_; rintro e w' ⟨rfl, rfl⟩; rw [h1]) | (go_at_call 34; refine (ticks_any _ _).mono ?_; rintro e w' ⟨rfl, rfl⟩; rw [h2]))
  refine (flowNumber_any _ _).mono ?_
  rintro e w' ⟨rfl, rfl⟩
  rw [h3]
  go_wp2_with (fail)
  refine (ticks_any _ _).mono ?_
  rintro e w' ⟨rfl, rfl⟩
  rw [h4]
  have HS : FlowAt ((w.alloc (.map #[] 0)).alloc (.cells (flowCells (start id run) (.slice none 0 0) w.heap.size) 75)) (w.heap.size + 1) w.heap.size (.slice none 0 0) (start id run) := by
    refine ⟨?_, EvRow.nil _, ⟨.map [], (World.ownsMap_made w Try.prog 3 openElem).alloc _, View.empty⟩, by simp [start]⟩
    have := blk_new (w.alloc (.map #[] 0)) (.cells (flowCells (start id run) (.slice none 0 0) w.heap.size) 75)
    simpa using this
  have hB : Below w.heap.size w ((w.alloc (.map #[] 0)).alloc (.cells (flowCells (start id run) (.slice none 0 0) w.heap.size) 75)) := below_alloc (below_alloc (Below.refl _ _) _) _
  have hv2 := Lib.hid (Byt.below hv hB)
  have HS := Lib.hid HS
  have hB := Lib.hid hB
  go_wp2_with (fail)
  refine (right_any _ (w.heap.size + 1) w.heap.size (.slice none 0 0) (start id run) HS _ bs hv2 now).mono ?_
  rintro e w2 ⟨rfl, hb2⟩
  have h5' : rightOf (start id run).L bs.length now = true := h5
  rw [h5']
  have H2 := Lib.hid (FlowAt.below HS hb2)
  have hv3 := Lib.hid (Byt.below hv2 hb2)
  have hb2 := Lib.hid (below_step hB hb2)
  clear hv2 HS hB
  generalize hF : w.heap.size + 1 = F at *
  have hF := Lib.hid hF
  generalize hM : w.heap.size = M at *
  have hM := Lib.hid hM
  go_wp2_with (fail)
  refine (put_1 w2 F M _ _ H2 (by simp [start]) _ _ _ _ _ bs _ hv3).mono ?_
  rintro e w3 ⟨lv3, rfl, H3, hm3⟩
  have H3 := Lib.hid H3
  have hm3 := Lib.hid hm3
  go_wp2_with (fail)
  refine (schedule_any w3 F M _ _ H3 (by simp [start]) now).mono ?_
  rintro e w4 ⟨lv4, v4, rfl, ho, H4, hm4⟩
  have H4 := Lib.hid H4
  have ho := Lib.hid ho
  have hm4 := Lib.hid (Mod.trans hm3 hm4)
  go_wp2_with (fail)
  go_ret3
  have e2 : w.heap.size = M := hM
  have e1 : M + 1 = F := hF
  subst e2
  have hBB : Below w.heap.size w w4 := Mod.below hm4 hb2 (by rintro k (rfl | rfl) <;> omega)
  refine ⟨F, _, lv4, v4, rfl, by omega, Nat.le_refl _, ?_, H4, hBB⟩
  have ho2 : OutRow w4 v4 [taskOut _] := ho
  simpa [taskOut, start] using ho2

end Go.Proofs.Ytedpeambmmhcnaa.Base

/- Decides: a decision task begins. Conditions: those at each theorem. -/
namespace Go.Proofs.Ytedpeambmmhcnaa.Base
open Go.RowKit Go.Maps Go.Proofs.YtedpeambmmhcnaaW.PrintWords Go.Proofs.Ytedpeambmmhcnaa.Kit

def wantsTask (S : St) (ref turn : Int) : Bool := (S.task == 1) && (S.time == ref) && (S.turn == turn)

set_option maxHeartbeats 4000000 in
theorem wants_task (w : World) (F M : Nat) (lv : Value) (S : St) (h : FlowAt w F M lv S) (ref turn : Int) (ht : (turn == -1) = false) :
    Calls Try.prog 29 #[.pointer (some ⟨F, 0, none⟩), .int .i64 ref, .int .i64 turn] w fun e w' => e = .returned (.bool (wantsTask S ref turn)) ∧ Below w.heap.size w w' := by
  obtain ⟨c0, c1, c2, c3, c4, c5, c6, c7, c8, c9, c10, c11⟩ := h.cells
  clear h c0 c1 c2 c3 c4 c7 c9 c10 c11
  unfold wantsTask
  generalize S.task = tk at *
  generalize S.time = tm at *
  generalize S.turn = tn at *
  cases h1 : (tk == 1) <;> cases h2 : (tm == ref) <;> cases h3 : (tn == turn)
  all_goals
    go_enter Try.func29, Try.ntmps29
    go_wp2_with (fail)
    first
      | (go_ret; exact ⟨rfl, Below.refl _ _⟩)
      | (go_quiet (fail)
         go_wp2_with (fail)
         go_ret
         exact ⟨rfl, pw_below_drewN (Below.refl _ _) _⟩)

/-- A run when its task has begun. -/
def decided0 (S : St) (ref now : Int) : St := { S with L := S.L ++ [⟨3, now, ref, 0, 0, 0, []⟩], task := 2, begun := S.L.length + 1, late := false }
def lateOut (S : St) (ref turn now : Int) : OutE := ⟨3, 0, ref, turn, wrap64 (now + S.n), 0, 0, []⟩

set_option maxHeartbeats 8000000 in
theorem decides_do (w : World) (lv : Value) (S : St) (hL : S.L.length ≤ 8000) (ref turn now : Int) (ht : decide (turn < 0) = false) (hw : wantsTask S ref turn = true) (B1 B2 B3 : Nat)
    (h1 : w.heap[B1]? = some (.cells #[.int .i64 turn] 3 (0, 0))) (h2 : w.heap[B2]? = some (.cells #[.int .i64 ref] 3 (0, 0))) (h3 : w.heap[B3]? = some (.cells #[.int .i64 now] 3 (0, 0))) :
    Does w 41 #[.pointer (some ⟨B1, 0, none⟩), .pointer (some ⟨B2, 0, none⟩), .pointer (some ⟨B3, 0, none⟩)] lv S [lateOut S ref turn now] 0 (decided0 S ref now) := by
  intro w1 X M1 hX hM hb H
  have hXb : ∀ k, k < w.heap.size → ¬ Own X M1 k := by rintro k hk (rfl | rfl) <;> omega
  have b1 := blk_lt h1
  have b2 := blk_lt h2
  have b3 := blk_lt h3
  have hB := Lib.hid hXb
  have k1 := blk_below h1 hb
  have k2 := blk_below h2 hb
  have k3 := blk_below h3 hb
  have d1 : w1.cell? ⟨B1, 0, none⟩ = some (.int .i64 turn) := blk_cell k1 0
  have d2 : w1.cell? ⟨B2, 0, none⟩ = some (.int .i64 ref) := blk_cell k2 0
  have d3 : w1.cell? ⟨B3, 0, none⟩ = some (.int .i64 now) := blk_cell k3 0
  have n1 := Lib.hid (hXb B1 b1)
  have n2 := Lib.hid (hXb B2 b2)
  have n3 := Lib.hid (hXb B3 b3)
  have htt : (turn == -1) = false := by
    have : ¬ turn < 0 := by simpa using ht
    simp; omega
  have H := Lib.hid H
  clear hb hXb
  show Calls Try.prog 41 #[.pointer (some ⟨X, 0, none⟩), .pointer (some ⟨B1, 0, none⟩), .pointer (some ⟨B2, 0, none⟩), .pointer (some ⟨B3, 0, none⟩)] w1 _
  go_enter Try.func41, Try.ntmps41
  go_wp2_with (fail)
  refine (wants_task w1 X M1 lv S H ref turn htt).mono ?_
  rintro e w2 ⟨rfl, hb2⟩
  rw [hw]
  have H2 := Lib.hid (FlowAt.below H hb2)
  have k1 := blk_below k1 hb2
  have k2 := blk_below k2 hb2
  have k3 := blk_below k3 hb2
  have d1 : w2.cell? ⟨B1, 0, none⟩ = some (.int .i64 turn) := blk_cell k1 0
  have d2 : w2.cell? ⟨B2, 0, none⟩ = some (.int .i64 ref) := blk_cell k2 0
  have d3 : w2.cell? ⟨B3, 0, none⟩ = some (.int .i64 now) := blk_cell k3 0
  have hb2 := Lib.hid hb2
  go_wp2_with (fail)
  refine (put_3 w2 X M1 lv S H2 hL now ref 0 0 0 [] _ (Byt.none _)).mono ?_
  rintro e w3 ⟨lv3, rfl, H3, hm3⟩
  have k1 := hm3.blk k1 n1
  have k2 := hm3.blk k2 n2
  have k3 := hm3.blk k3 n3
  have d1 : w3.cell? ⟨B1, 0, none⟩ = some (.int .i64 turn) := blk_cell k1 0
  have d2 : w3.cell? ⟨B2, 0, none⟩ = some (.int .i64 ref) := blk_cell k2 0
  have d3 : w3.cell? ⟨B3, 0, none⟩ = some (.int .i64 now) := blk_cell k3 0
  have c3 : w3.cell? ⟨X, 3, none⟩ = some (.int .i64 S.n) := H3.cell 3
  have H3 := Lib.hid H3
  have hm3 := Lib.hid hm3
  go_wp2_with (fail)
  go_region
  go_wp2_with (fail)
  go_ret2
  have hb4 : Below w3.heap.size w3 (w3.alloc (.cells (outCells (lateOut S ref turn now) (.slice none 0 0)).toArray 40)).drew := below_drew (below_alloc (Below.refl _ _) _)
  exact ⟨lv3, _, rfl, OutRow.one (v := .slice none 0 0) (o := lateOut S ref turn now) (blk_new w3 _) (Byt.none _), FlowAt.below H3 hb4, (Mod.of_below hb2).trans (Mod.trans hm3 (Mod.of_below hb4))⟩

theorem enter_of {g : FuncId} {fn : Func} (hf : Try.prog.funcs[g]? = some fn) (hb : fn.body.isSome = true) (hn : (fn.name == "runtime.NumGoroutine") = false) : ∀ (args : Array Value) (w : World), (callFunc g args).run Try.prog w = .ok (.enter g args) w := by
  intro args w
  obtain ⟨b, hb⟩ := Option.isSome_iff_exists.1 hb
  have hn' : fn.name ≠ "runtime.NumGoroutine" := by simpa using hn
  simp [callFunc, hf, hb, hn']

theorem Did.pre {w w0 : World} {F M : Nat} {os : List OutE} {err : Int} {S' : St} {e : Ending} {w' : World} (h : Did w0 F M os err S' e w') (hb : Below w.heap.size w w0) : Did w F M os err S' e w' := by
  obtain ⟨M', lv', v', he, h1, h2, h3, h4⟩ := h
  exact ⟨M', lv', v', he, h1, h2, (Mod.of_below hb).trans h3, h4.imp id (fun h => Nat.le_trans hb.size h)⟩

set_option maxHeartbeats 8000000 in
theorem decides_ok (w : World) (F M : Nat) (lv : Value) (S : St) (h : FlowAt w F M lv S) (hL : S.L.length ≤ 4095) (ref turn now : Int) (hr : rightOf S.L 0 now = true) (hs : statusOf S.L = 1) (ht : decide (turn < 0) = false) (hw : wantsTask S ref turn = true) :
    Calls Try.prog 12 #[.pointer (some ⟨F, 0, none⟩), .int .i64 ref, .int .i64 turn, .int .i64 now] w (Did w F M [lateOut S ref turn now] 0 (decided0 S ref now)) := by
  have H := Lib.hid h
  have hcf := enter_of Try.func41 (by kernel_rfl) (by kernel_rfl)
  clear h
  go_enter Try.func12, Try.ntmps12
  go_wp2_with (fail)
  have hB : Below w.heap.size w (((w.alloc (.cells #[.int .i64 ref] 3)).alloc (.cells #[.int .i64 turn] 3)).alloc (.cells #[.int .i64 now] 3)) := below_alloc (below_alloc (below_alloc (Below.refl _ _) _) _) _
  have k1 : (((w.alloc (.cells #[.int .i64 ref] 3)).alloc (.cells #[.int .i64 turn] 3)).alloc (.cells #[.int .i64 now] 3)).heap[w.heap.size + 1]? = some (.cells #[.int .i64 turn] 3 (0, 0)) := by
    refine (Below.heap_alloc _ _ _ (by simp)).trans ?_
    simpa using blk_new (w.alloc (.cells #[.int .i64 ref] 3)) (.cells #[.int .i64 turn] 3)
  have k2 : (((w.alloc (.cells #[.int .i64 ref] 3)).alloc (.cells #[.int .i64 turn] 3)).alloc (.cells #[.int .i64 now] 3)).heap[w.heap.size]? = some (.cells #[.int .i64 ref] 3 (0, 0)) := by
    refine ((Below.heap_alloc _ _ _ (by simp; omega)).trans (Below.heap_alloc _ _ _ (by simp))).trans ?_
    exact blk_new w (.cells #[.int .i64 ref] 3)
  have k3 : (((w.alloc (.cells #[.int .i64 ref] 3)).alloc (.cells #[.int .i64 turn] 3)).alloc (.cells #[.int .i64 now] 3)).heap[w.heap.size + 1 + 1]? = some (.cells #[.int .i64 now] 3 (0, 0)) := by
    simpa using blk_new ((w.alloc (.cells #[.int .i64 ref] 3)).alloc (.cells #[.int .i64 turn] 3)) (.cells #[.int .i64 now] 3)
  have HB := FlowAt.below H hB
  refine (try_ok _ F M lv S HB (.slice none 0 0) [] (Byt.none _) now 41 _ hcf hr hs _ 0 _ (decides_do _ lv S (by omega) ref turn now ht hw _ _ _ k1 k2 k3) (Or.inl rfl) (by simp [decided0]; omega)).mono ?_
  intro e w' hd
  obtain ⟨M', lv', v', rfl, r1, r2, r3, r4⟩ := Did.pre hd hB
  have r1 := Lib.hid r1
  have r2 := Lib.hid r2
  have r3 := Lib.hid r3
  have r4 := Lib.hid r4
  clear hd hB k1 k2 k3 HB
  go_wp2_with (fail)
  go_ret2
  exact ⟨M', lv', v', rfl, r1, r2, r3, r4⟩

end Go.Proofs.Ytedpeambmmhcnaa.Base

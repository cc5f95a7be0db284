/- Decides: a decision task begins. Conditions: those at each theorem. -/
import Derived.Test.YtedpeambmmhcnaaTry
set_option maxRecDepth 100000
namespace Go.Proofs.Ytedpeambmmhcnaa.Base
open Go.RowKit Go.Maps Go.Proofs.YtedpeambmmhcnaaW.PrintWords Go.Proofs.Ytedpeambmmhcnaa.Kit

def wantsTask (S : St) (ref turn : Int) : Bool := (S.task == 1) && (S.time == ref) && (S.turn == turn)

set_option maxHeartbeats 4000000 in
theorem wants_task (w : World) (F M : Nat) (lv : Value) (S : St) (h : FlowAt w F M lv S) (ref turn : Int) (ht : (turn == -1) = false) :
    Calls Try.prog 29 #[.pointer (some ⟨F, 0, none⟩), .int .i64 ref, .int .i64 turn] w fun e w' => e = .returned (.bool (wantsTask S ref turn)) ∧ Below w.heap.size w w' := by
  obtain ⟨c0, c1, c2, c3, c4, c5, c6, c7, c8, c9, c10, c11⟩ := h.cells
  clear h c0 c1 c2 c3 c4 c7 c9 c10 c11
  unfold wantsTask
  generalize S.task = tk at *
  generalize S.time = tm at *
  generalize S.turn = tn at *
  cases h1 : (tk == 1) <;> cases h2 : (tm == ref) <;> cases h3 : (tn == turn)
  all_goals
    go_enter Try.func29, Try.ntmps29
    go_wp2_with (fail)
    first
      | (go_ret; exact ⟨rfl, Below.refl _ _⟩)
      | (go_quiet (fail)
         go_wp2_with (fail)
         go_ret
         exact ⟨rfl, pw_below_drewN (Below.refl _ _) _⟩)

/-- A run when its task has begun. -/
def decided0 (S : St) (ref now : Int) : St := { S with L := S.L ++ [⟨3, now, ref, 0, 0, 0, []⟩], task := 2, begun := S.L.length + 1, late := false }
def lateOut (S : St) (ref turn now : Int) : OutE := ⟨3, 0, ref, turn, wrap64 (now + S.n), 0, 0, []⟩

set_option maxHeartbeats 8000000 in
theorem decides_do (w : World) (lv : Value) (S : St) (hL : S.L.length ≤ 8000) (ref turn now : Int) (ht : decide (turn < 0) = false) (hw : wantsTask S ref turn = true) (B1 B2 B3 : Nat)
    (h1 : w.heap[B1]? = some (.cells #[.int .i64 turn] 3 (0, 0))) (h2 : w.heap[B2]? = some (.cells #[.int .i64 ref] 3 (0, 0))) (h3 : w.heap[B3]? = some (.cells #[.int .i64 now] 3 (0, 0))) :
    Does w 41 #[.pointer (some ⟨B1, 0, none⟩), .pointer (some ⟨B2, 0, none⟩), .pointer (some ⟨B3, 0, none⟩)] lv S [lateOut S ref turn now] 0 (decided0 S ref now) := by
  intro w1 X M1 hX hM hb H
  have hXb : ∀ k, k < w.heap.size → ¬ Own X M1 k := by rintro k hk (rfl | rfl) <;> omega
  have b1 := blk_lt h1
  have b2 := blk_lt h2
  have b3 := blk_lt h3
  have hB := Lib.hid hXb
  have k1 := blk_below h1 hb
  have k2 := blk_below h2 hb
  have k3 := blk_below h3 hb
  have d1 : w1.cell? ⟨B1, 0, none⟩ = some (.int .i64 turn) := blk_cell k1 0
  have d2 : w1.cell? ⟨B2, 0, none⟩ = some (.int .i64 ref) := blk_cell k2 0
  have d3 : w1.cell? ⟨B3, 0, none⟩ = some (.int .i64 now) := blk_cell k3 0
  have n1 := Lib.hid (hXb B1 b1)
  have n2 := Lib.hid (hXb B2 b2)
  have n3 := Lib.hid (hXb B3 b3)
  have htt : (turn == -1) = false := by
    have : ¬ turn < 0 := by simpa using ht
    simp; omega
  have H := Lib.hid H
  clear hb hXb
  show Calls Try.prog 41 #[.pointer (some ⟨X, 0, none⟩), .pointer (some ⟨B1, 0, none⟩), .pointer (some ⟨B2, 0, none⟩), .pointer (some ⟨B3, 0, none⟩)] w1 _
  go_enter Try.func41, Try.ntmps41
  go_wp2_with (fail)
  refine (wants_task w1 X M1 lv S H ref turn htt).mono ?_
  rintro e w2 ⟨rfl, hb2⟩
  rw [hw]
  have H2 := Lib.hid (FlowAt.below H hb2)
  have k1 := blk_below k1 hb2
  have k2 := blk_below k2 hb2
  have k3 := blk_below k3 hb2
  have d1 : w2.cell? ⟨B1, 0, none⟩ = some (.int .i64 turn) := blk_cell k1 0
  have d2 : w2.cell? ⟨B2, 0, none⟩ = some (.int .i64 ref) := blk_cell k2 0
  have d3 : w2.cell? ⟨B3, 0, none⟩ = some (.int .i64 now) := blk_cell k3 0
  have hb2 := Lib.hid hb2
  go_wp2_with (fail)
  refine (put_3 w2 X M1 lv S H2 hL now ref 0 0 0 [] _ (Byt.none _)).mono ?_
  rintro e w3 ⟨lv3, rfl, H3, hm3⟩
  have k1 := hm3.blk k1 n1
  have k2 := hm3.blk k2 n2
  have k3 := hm3.blk k3 n3
  have d1 : w3.cell? ⟨B1, 0, none⟩ = some (.int .i64 turn) := blk_cell k1 0
  have d2 : w3.cell? ⟨B2, 0, none⟩ = some (.int .i64 ref) := blk_cell k2 0
  have d3 : w3.cell? ⟨B3, 0, none⟩ = some (.int .i64 now) := blk_cell k3 0
  have c3 : w3.cell? ⟨X, 3, none⟩ = some (.int .i64 S.n) := H3.cell 3
  have H3 := Lib.hid H3
  have hm3 := Lib.hid hm3
  go_wp2_with (fail)
  go_region
  go_wp2_with (fail)
  go_ret2
  have hb4 : Below w3.heap.size w3 (w3.alloc (.cells (outCells (lateOut S ref turn now) (.slice none 0 0)).toArray 40)).drew := below_drew (below_alloc (Below.refl _ _) _)
  exact ⟨lv3, _, rfl, OutRow.one (v := .slice none 0 0) (o := lateOut S ref turn now) (blk_new w3 _) (Byt.none _), FlowAt.below H3 hb4, (Mod.of_below hb2).trans (Mod.trans hm3 (Mod.of_below hb4))⟩

theorem enter_of {g : FuncId} {fn : Func} (hf : Try.prog.funcs[g]? = some fn) (hb : fn.body.isSome = true) (hn : (fn.name == "runtime.NumGoroutine") = false) : ∀ (args : Array Value) (w : World), (callFunc g args).run Try.prog w = .ok (.enter g args) w := by
  intro args w
  obtain ⟨b, hb⟩ := Option.isSome_iff_exists.1 hb
  have hn' : fn.name ≠ "runtime.NumGoroutine" := by simpa using hn
  simp [callFunc, hf, hb, hn']

theorem Did.pre {w w0 : World} {F M : Nat} {os : List OutE} {err : Int} {S' : St} {e : Ending} {w' : World} (h : Did w0 F M os err S' e w') (hb : Below w.heap.size w w0) : Did w F M os err S' e w' := by
  obtain ⟨M', lv', v', he, h1, h2, h3, h4⟩ := h
  exact ⟨M', lv', v', he, h1, h2, (Mod.of_below hb).trans h3, h4.imp id (fun h => Nat.le_trans hb.size h)⟩

set_option maxHeartbeats 8000000 in
theorem decides_ok (w : World) (F M : Nat) (lv : Value) (S : St) (h : FlowAt w F M lv S) (hL : S.L.length ≤ 4095) (ref turn now : Int) (hr : rightOf S.L 0 now = true) (hs : statusOf S.L = 1) (ht : decide (turn < 0) = false) (hw : wantsTask S ref turn = true) :
    Calls Try.prog 12 #[.pointer (some ⟨F, 0, none⟩), .int .i64 ref, .int .i64 turn, .int .i64 now] w (Did w F M [lateOut S ref turn now] 0 (decided0 S ref now)) := by
  have H := Lib.hid h
  have hcf := enter_of Try.func41 (by kernel_rfl) (by kernel_rfl)
  clear h
  go_enter Try.func12, Try.ntmps12
  go_wp2_with (fail)
  have hB : Below w.heap.size w (((w.alloc (.cells #[.int .i64 ref] 3)).alloc (.cells #[.int .i64 turn] 3)).alloc (.cells #[.int .i64 now] 3)) := below_alloc (below_alloc (below_alloc (Below.refl _ _) _) _) _
  have k1 : (((w.alloc (.cells #[.int .i64 ref] 3)).alloc (.cells #[.int .i64 turn] 3)).alloc (.cells #[.int .i64 now] 3)).heap[w.heap.size + 1]? = some (.cells #[.int .i64 turn] 3 (0, 0)) := by
    refine (Below.heap_alloc _ _ _ (by simp)).trans ?_
    simpa using blk_new (w.alloc (.cells #[.int .i64 ref] 3)) (.cells #[.int .i64 turn] 3)
  have k2 : (((w.alloc (.cells #[.int .i64 ref] 3)).alloc (.cells #[.int .i64 turn] 3)).alloc (.cells #[.int .i64 now] 3)).heap[w.heap.size]? = some (.cells #[.int .i64 ref] 3 (0, 0)) := by
    refine ((Below.heap_alloc _ _ _ (by simp; omega)).trans (Below.heap_alloc _ _ _ (by simp))).trans ?_
    exact blk_new w (.cells #[.int .i64 ref] 3)
  have k3 : (((w.alloc (.cells #[.int .i64 ref] 3)).alloc (.cells #[.int .i64 turn] 3)).alloc (.cells #[.int .i64 now] 3)).heap[w.heap.size + 1 + 1]? = some (.cells #[.int .i64 now] 3 (0, 0)) := by
    simpa using blk_new ((w.alloc (.cells #[.int .i64 ref] 3)).alloc (.cells #[.int .i64 turn] 3)) (.cells #[.int .i64 now] 3)
  have HB := FlowAt.below H hB
  refine (try_ok _ F M lv S HB (.slice none 0 0) [] (Byt.none _) now 41 _ hcf hr hs _ 0 _ (decides_do _ lv S (by omega) ref turn now ht hw _ _ _ k1 k2 k3) (Or.inl rfl) (by simp [decided0]; omega)).mono ?_
  intro e w' hd
  obtain ⟨M', lv', v', rfl, r1, r2, r3, r4⟩ := Did.pre hd hB
  have r1 := Lib.hid r1
  have r2 := Lib.hid r2
  have r3 := Lib.hid r3
  have r4 := Lib.hid r4
  clear hd hB k1 k2 k3 HB
  go_wp2_with (fail)
  go_ret2
  exact ⟨M', lv', v', rfl, r1, r2, r3, r4⟩

end Go.Proofs.Ytedpeambmmhcnaa.Base

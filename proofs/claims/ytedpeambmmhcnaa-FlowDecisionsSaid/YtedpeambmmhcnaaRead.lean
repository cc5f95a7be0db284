/- The readers of a workflow: what its status is, whether a call may be. Conditions: those at each theorem. -/
import Derived.Test.YtedpeambmmhcnaaBase
import Derived.BigQuiet
import Derived.Deep.QuietTactic
set_option maxRecDepth 100000
namespace Go.Proofs.Ytedpeambmmhcnaa.Base
open Go.RowKit Go.Maps Go.Proofs.YtedpeambmmhcnaaW.PrintWords Go.Proofs.Ytedpeambmmhcnaa.Kit

def statusKind (k : Int) : Int := if k = 19 then 6 else if k = 20 then 2 else if k = 21 then 3 else if k = 22 then 4 else if k = 23 then 5 else 1

def statusOf (L : List Ev) : Int := match L.getLast? with
  | none => 0
  | some e => statusKind e.kind

theorem last_split (L : List Ev) : L = [] ∨ ∃ k e, L.length = k + 1 ∧ L.getLast? = some e ∧ L[k]? = some e := by
  rcases List.eq_nil_or_concat L with h | ⟨l, e, rfl⟩
  · exact .inl h
  · exact .inr ⟨l.length, e, by simp, by simp, by simp⟩

set_option maxHeartbeats 4000000 in
theorem status_any (w : World) (v : Value) (L : List Ev) (h : EvRow w v L) (hf : L.length ≤ 8192) :
    Calls Try.prog 49 #[v] w fun e w' => e = .returned (.int .i64 (statusOf L)) ∧ Below w.heap.size w w' := by
  rcases last_split L with rfl | ⟨k, e, hk, hl, hg⟩
  · obtain ⟨a, cap, rfl⟩ := h.len
    clear h
    go_enter Try.func49, Try.ntmps49
    go_wp2_with (fail)
    go_ret
    exact ⟨rfl, Below.refl _ _⟩
  · obtain ⟨A, cap, u, rfl, _, hc⟩ := h.get hg
    have c0 : w.cell? ⟨A, k * 7, none⟩ = some (.int .i64 e.kind) := by simpa using hc 0 _ rfl
    have hs : statusOf L = statusKind e.kind := by simp [statusOf, hl]
    rw [hs, hk]
    rw [hk] at hf
    clear hc h hs hl hg hk
    generalize e.kind = q at *
    have hS := Lib.hid (show statusKind q = _ from rfl)
    go_enter Try.func49, Try.ntmps49
    go_wp2_with (fail)
    all_goals (go_ret; refine ⟨?_, Below.refl _ _⟩; simp_all [statusKind])

set_option maxHeartbeats 4000000 in
theorem fstatus (w : World) (F M : Nat) (lv : Value) (S : St) (h : FlowAt w F M lv S) :
    Calls Try.prog 16 #[.pointer (some ⟨F, 0, none⟩)] w fun e w' => e = .returned (.int .i64 (statusOf S.L)) ∧ Below w.heap.size w w' := by
  have c4 := h.cl
  have hr := Lib.hid h.row
  have hf := Lib.hid h.few
  clear h
  go_enter Try.func16, Try.ntmps16
  go_wp2_with (fail)
  refine (status_any _ _ _ hr hf).mono ?_
  rintro e w' ⟨rfl, hb⟩
  go_wp2_with (fail)
  go_ret
  exact ⟨rfl, hb⟩

set_option maxHeartbeats 4000000 in
theorem flen (w : World) (F M : Nat) (lv : Value) (S : St) (h : FlowAt w F M lv S) :
    Calls Try.prog 21 #[.pointer (some ⟨F, 0, none⟩)] w fun e w' => e = .returned (.int .i64 S.L.length) ∧ Below w.heap.size w w' := by
  obtain ⟨a, cap, rfl⟩ := h.lv
  have c4 := h.cl
  clear h
  go_enter Try.func21, Try.ntmps21
  go_wp2_with (fail)
  go_ret
  exact ⟨rfl, Below.refl _ _⟩

/-- May a call be, with bytes of this length, now? -/
def rightOf (L : List Ev) (n now : Int) : Bool :=
  decide (n ≤ 4096) && decide (0 ≤ now) && decide (now ≤ 1099511627776) && (match L.getLast? with | none => true | some e => decide (e.time ≤ now))

set_option maxHeartbeats 8000000 in
theorem right_any (w : World) (F M : Nat) (lv : Value) (S : St) (h : FlowAt w F M lv S) (v : Value) (bs : List Int) (hv : Byt w v bs) (now : Int) :
    Calls Try.prog 37 #[.pointer (some ⟨F, 0, none⟩), v, .int .i64 now] w fun e w' => e = .returned (.bool (rightOf S.L bs.length now)) ∧ Below w.heap.size w w' := by
  obtain ⟨a, cap, rfl⟩ := hv.len
  have hn := hv.1
  have c4 := h.cl
  have hf := h.few
  rcases last_split S.L with hL | ⟨k, e, hk, hl, hg⟩
  · obtain ⟨b, cap', rfl⟩ := h.lv
    have hR : rightOf S.L bs.length now = (decide ((bs.length : Int) ≤ 4096) && decide (0 ≤ now) && decide (now ≤ 1099511627776)) := by simp [rightOf, hL]
    rw [hR]
    rw [hL] at c4
    clear h hR hL hf hv
    generalize bs.length = n at *
    cases h1 : decide ((n : Int) ≤ 4096) <;> cases h2 : decide (0 ≤ now) <;> cases h3 : decide (now ≤ 1099511627776)
    all_goals
      go_enter Try.func37, Try.ntmps37
      go_wp2_with (fail)
      go_quiet (fail)
      go_wp2_with (fail)
      go_ret
      exact ⟨rfl, pw_below_drewN (Below.refl _ _) _⟩
  · obtain ⟨A, cap', u, rfl, _, hc⟩ := h.row.get hg
    have c0 : w.cell? ⟨A, k * 7 + 1, none⟩ = some (.int .i64 e.time) := hc 1 _ rfl
    have hR : rightOf S.L bs.length now = (decide ((bs.length : Int) ≤ 4096) && decide (0 ≤ now) && decide (now ≤ 1099511627776) && decide (e.time ≤ now)) := by simp [rightOf, hl]
    rw [hR]
    rw [hk] at c4 hf
    clear h hR hk hl hg hc hv
    generalize bs.length = n at *
    generalize e.time = q at *
    have hz : ((k : Int) + 1 == 0) = false := by simp; omega
    cases h1 : decide ((n : Int) ≤ 4096) <;> cases h2 : decide (0 ≤ now) <;> cases h3 : decide (now ≤ 1099511627776) <;> cases h4 : decide (q ≤ now)
    all_goals
      go_enter Try.func37, Try.ntmps37
      go_wp2_with (fail)
      go_quiet (fail)
      go_wp2_with (fail)
      go_ret
      exact ⟨rfl, pw_below_drewN (Below.refl _ _) _⟩

end Go.Proofs.Ytedpeambmmhcnaa.Base

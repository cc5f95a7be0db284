/- One decision, of a run with nothing open: taken, refused, too late. Conditions: those at each theorem. -/
import Derived.Test.YtedpeambmmhcnaaDecideOk
import Derived.Test.YtedpeambmmhcnaaDoneClose
import Derived.Test.YtedpeambmmhcnaaBad1
set_option maxRecDepth 100000
namespace Go.Proofs.Ytedpeambmmhcnaa.Base
open Go.RowKit Go.Maps Go.Proofs.YtedpeambmmhcnaaW.PrintWords Go.Proofs.Ytedpeambmmhcnaa.Kit Go.Proofs.Ytedpeambmmhcnaa.MayLaw

def doneK (kd : Int) : Int := if kd = 5 then 20 else if kd = 6 then 21 else if kd = 7 then 22 else 19

def dnClose (now : Int) (S : St) (d : Dec) : St × List OutE := (closed S (doneK d.kind) now d.data, [closeOut (doneK d.kind) d.data])

theorem done_close (now : Int) (S : St) (hL : S.L.length ≤ 8000) (d : Dec) (hk : d.kind = 5 ∨ d.kind = 6 ∨ d.kind = 7 ∨ d.kind = 8) : DoneIs now S d (dnClose now S d) := by
  intro w F M lv v H hv
  obtain ⟨kd, di, dl, dn, bs⟩ := d
  simp only at hk hv
  rcases hk with rfl | rfl | rfl | rfl
  · exact done_5 w F M lv S H hL di dl dn now bs v hv
  · exact done_6 w F M lv S H hL di dl dn now bs v hv
  · exact done_7 w F M lv S H hL di dl dn now bs v hv
  · exact done_8 w F M lv S H hL di dl dn now bs v hv

theorem bad_is_one (N : Nat) (S : St) (ho : S.o = fun _ => none) (d : Dec) (hk : d.kind < 1 ∨ 5 ≤ d.kind) : BadIs N S [d] (bad1 S d.kind d.id d.list d.n d.data.length) := by
  intro w F M lv v H hd hN
  obtain ⟨A, off, cap, u, rfl, hu, d0, d1, d2, d3, d4⟩ := hd.get (i := 0) (d := d) rfl
  simp only [Nat.zero_mul, Nat.add_zero] at d0 d1 d2 d3 d4
  exact bad_one w F M lv S H ho d.kind d.id d.list d.n u d.data hu A off cap d0 d1 d2 d3 d4 (by simp; omega) (by simp; omega) (by simp; omega) (by simp; omega)

theorem decide_one_ok (w : World) (F M : Nat) (lv : Value) (S : St) (h : FlowAt w F M lv S) (hL : S.L.length ≤ 4000) (ho : S.o = fun _ => none) (ref turn now : Int) (hr : rightOf S.L 0 now = true) (hs : statusOf S.L = 1) (ht : S.task = 2) (hf : S.time = ref) (hn : S.turn = turn)
    (d : Dec) (v : Value) (hd : Decs w.heap.size w v [d]) (hk : d.kind = 5 ∨ d.kind = 6 ∨ d.kind = 7 ∨ d.kind = 8) (hm : bad1 S d.kind d.id d.list d.n d.data.length = false) (hl : S.late = false) :
    Calls Try.prog 15 #[.pointer (some ⟨F, 0, none⟩), .int .i64 ref, .int .i64 turn, v, .int .i64 now] w (Did w F M [closeOut (doneK d.kind) d.data] 0 (closed (decided1 S now) (doneK d.kind) now d.data)) := by
  obtain ⟨a, cap, rfl⟩ := hd.len
  refine decide_any w F M lv S h ref turn now a _ cap hr hs _ _ _ ?_ (Or.inl rfl) (by simp [closed, decided1]; omega)
  intro w0 B1 B2 B3 B4 hb hc
  have hbad := bad_is_one w0.heap.size S ho d (by omega)
  rw [hm] at hbad
  have hgo : goneSt (dnClose now) S [d] now = (closed (decided1 S now) (doneK d.kind) now d.data, [closeOut (doneK d.kind) d.data]) := by simp [goneSt, hl, runDs, dnClose]
  have hD : Decs w0.heap.size w0 (.slice a [d].length cap) [d] := by
    rcases hd.below hb (Nat.le_refl _) with h | ⟨A, off, c, hv, hA, hc⟩
    · exact .inl h
    · exact .inr ⟨A, off, c, hv, fun h => Nat.lt_of_lt_of_le (hA h) hb.size, hc⟩
  have := decide_go_do (dnClose now) w0 lv S (by omega) ref turn now ht hf hn _ [d] hD (by simp) B1 B2 B3 B4 hc hbad (by simp [lateBad, hl]) ?_ (fun _ _ => by simp [dnClose]) (by simp [runDs, dnClose, closed, decided1]; omega)
  · rw [hgo] at this
    exact this
  · intro k d' hd'
    rcases k with _ | k
    · simp at hd'
      subst hd'
      exact done_close now _ (by simp [runDs, decided1]; omega) d hk
    · simp at hd'

theorem decide_one_bad (w : World) (F M : Nat) (lv : Value) (S : St) (h : FlowAt w F M lv S) (hL : S.L.length ≤ 4000) (ho : S.o = fun _ => none) (ref turn now : Int) (hr : rightOf S.L 0 now = true) (hs : statusOf S.L = 1) (ht : S.task = 2) (hf : S.time = ref) (hn : S.turn = turn)
    (d : Dec) (v : Value) (hd : Decs w.heap.size w v [d]) (hk : d.kind < 1 ∨ 5 ≤ d.kind) (hm : bad1 S d.kind d.id d.list d.n d.data.length = true) :
    Calls Try.prog 15 #[.pointer (some ⟨F, 0, none⟩), .int .i64 ref, .int .i64 turn, v, .int .i64 now] w (Did w F M [taskOut (fault1 S 1 now)] 22 (sched (fault1 S 1 now) now)) := by
  obtain ⟨a, cap, rfl⟩ := hd.len
  refine decide_any w F M lv S h ref turn now a _ cap hr hs _ _ _ ?_ (Or.inr (by simp [sched, fault1])) (by simp [sched, fault1]; omega)
  intro w0 B1 B2 B3 B4 hb hc
  have hbad := bad_is_one w0.heap.size S ho d hk
  rw [hm] at hbad
  have hD : Decs w0.heap.size w0 (.slice a [d].length cap) [d] := by
    rcases hd.below hb (Nat.le_refl _) with h | ⟨A, off, c, hv, hA, hc⟩
    · exact .inl h
    · exact .inr ⟨A, off, c, hv, fun h => Nat.lt_of_lt_of_le (hA h) hb.size, hc⟩
  exact decide_bad_do w0 lv S (by omega) ref turn now ht hf hn _ [d] hD B1 B2 B3 B4 hc hbad

theorem decide_one_late (w : World) (F M : Nat) (lv : Value) (S : St) (h : FlowAt w F M lv S) (hL : S.L.length ≤ 4000) (ho : S.o = fun _ => none) (ref turn now : Int) (hr : rightOf S.L 0 now = true) (hs : statusOf S.L = 1) (ht : S.task = 2) (hf : S.time = ref) (hn : S.turn = turn)
    (d : Dec) (v : Value) (hd : Decs w.heap.size w v [d]) (hk : 5 ≤ d.kind) (hm : bad1 S d.kind d.id d.list d.n d.data.length = false) (hl : S.late = true) :
    Calls Try.prog 15 #[.pointer (some ⟨F, 0, none⟩), .int .i64 ref, .int .i64 turn, v, .int .i64 now] w (Did w F M [taskOut (fault1 S 2 now)] 23 (sched (fault1 S 2 now) now)) := by
  obtain ⟨a, cap, rfl⟩ := hd.len
  refine decide_any w F M lv S h ref turn now a _ cap hr hs _ _ _ ?_ (Or.inr (by simp [sched, fault1])) (by simp [sched, fault1]; omega)
  intro w0 B1 B2 B3 B4 hb hc
  have hbad := bad_is_one w0.heap.size S ho d (.inr hk)
  rw [hm] at hbad
  have hD : Decs w0.heap.size w0 (.slice a [d].length cap) [d] := by
    rcases hd.below hb (Nat.le_refl _) with h | ⟨A, off, c, hv, hA, hc⟩
    · exact .inl h
    · exact .inr ⟨A, off, c, hv, fun h => Nat.lt_of_lt_of_le (hA h) hb.size, hc⟩
  exact decide_late_do w0 lv S (by omega) ref turn now ht hf hn _ [d] hD (by simp) B1 B2 B3 B4 hc hbad (by simpa [lateBad, hl] using hk)

end Go.Proofs.Ytedpeambmmhcnaa.Base

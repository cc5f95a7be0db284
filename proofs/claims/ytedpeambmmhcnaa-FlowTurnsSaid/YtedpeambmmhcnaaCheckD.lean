/- event.Check on a history whose events open nothing and all fit: it finds no fault. Conditions: those at each theorem. -/
import Derived.Test.YtedpeambmmhcnaaCheckC
set_option maxRecDepth 100000
namespace Go.Proofs.Ytedpeambmmhcnaa.Base
open Go.RowKit Go.Maps Go.Proofs.YtedpeambmmhcnaaW.PrintWords Go.Proofs.Ytedpeambmmhcnaa.Kit

def hs0 : Hs := ⟨0, 0, 0, 0, false⟩

set_option maxHeartbeats 4000000 in
theorem begin_ok (w : World) : Calls Try.prog 77 #[] w fun e w' => ∃ h, e = .returned (.pointer (some ⟨h, 0, none⟩)) ∧ w.heap.size ≤ h ∧ HsAt w' h hs0 ∧ Below w.heap.size w w' := by
  have hmm := @run_makeMap Try.prog
  go_enter Try.func77, Try.ntmps77
  go_wp2_with (fail)
  go_ret
  have hk := heap_alloc_new ((((w.alloc (.map #[] 0)).alloc (.map #[] 0)).alloc (.map #[] 0)).alloc (.map #[] 0)) (.cells (hsCells hs0 (some w.heap.size) (some (w.heap.size + 1)) (some (w.heap.size + 1 + 1)) (some (w.heap.size + 1 + 1 + 1))) 134)
  refine ⟨_, rfl, by omega, ⟨some w.heap.size, some (w.heap.size + 1), some (w.heap.size + 1 + 1), some (w.heap.size + 1 + 1 + 1), by simpa [hsCells, hs0] using hk⟩, ?_⟩
  exact below_alloc (below_alloc (below_alloc (below_alloc (below_alloc (Below.refl _ _) _) _) _) _) _

/-- Does an event that opens nothing fit? -/
def Fits (H : Hs) (e : Ev) : Prop :=
  EvOk e ∧ H.time ≤ e.time ∧ H.closed = 0 ∧ 0 ≤ H.n ∧ H.n ≤ 10000 ∧
    ((e.kind = 1 ∧ H.n = 0 ∧ e.ref = 0) ∨ (e.kind = 2 ∧ H.n ≠ 0 ∧ H.task = 0 ∧ e.ref = 0) ∨ (e.kind = 3 ∧ H.n ≠ 0 ∧ H.task ≠ 0 ∧ H.begun = false ∧ e.ref = H.task) ∨
      ((e.kind = 4 ∨ e.kind = 5 ∨ e.kind = 6) ∧ H.n ≠ 0 ∧ H.task ≠ 0 ∧ H.begun = true ∧ e.ref = H.task) ∨ (e.kind = 20 ∧ H.n ≠ 0 ∧ e.ref = 0))

theorem add_fits (w : World) (h : Nat) (H : Hs) (hh : HsAt w h H) (e : Ev) (a : Option Addr) (cap : Nat) (hv : Byt w (.slice a e.data.length cap) e.data) (hf : Fits H e) :
    Calls Try.prog 78 #[.pointer (some ⟨h, 0, none⟩), .agg #[.int .i64 e.kind, .int .i64 e.time, .int .i64 e.ref, .int .i64 e.id, .int .i64 e.list, .int .i64 e.n, .slice a e.data.length cap]] w fun e' w' =>
      e' = .returned (.tuple #[.string { data := #[] }, .bool true]) ∧ HsAt w' h (stepH H e) ∧ Mod (fun b => b = h) w w' := by
  obtain ⟨kd, ti, rf, id, li, nn, bs⟩ := e
  obtain ⟨ho, htm, hcl, hn0, hn1, hk⟩ := hf
  simp only at htm hk hv
  have ht : decide (ti < H.time) = false := by simp; omega
  rcases hk with ⟨rfl, hn, hr⟩ | ⟨rfl, hn, ht2, hr⟩ | ⟨rfl, hn, h5, h6, hr⟩ | ⟨rfl | rfl | rfl, hn, h5, h6, hr⟩ | ⟨rfl, hn, hr⟩
  · exact add_1 w h H hh hn0 hn1 ti rf id li nn bs a cap hv ho hn ht hcl hr
  · exact add_2 w h H hh hn0 hn1 ti rf id li nn bs a cap hv ho (by simpa using hn) ht hcl hr ht2
  · exact add_3 w h H hh hn0 hn1 ti rf id li nn bs a cap hv ho (by simpa using hn) ht hcl (by simpa using h5) h6 hr
  · exact add_4 w h H hh hn0 hn1 ti rf id li nn bs a cap hv ho (by simpa using hn) ht hcl (by simpa using h5) h6 hr
  · exact add_5 w h H hh hn0 hn1 ti rf id li nn bs a cap hv ho (by simpa using hn) ht hcl (by simpa using h5) h6 hr
  · exact add_6 w h H hh hn0 hn1 ti rf id li nn bs a cap hv ho (by simpa using hn) ht hcl (by simpa using h5) h6 hr
  · exact add_20 w h H hh hn0 hn1 ti rf id li nn bs a cap hv ho (by simpa using hn) ht hcl hr

def runH (L : List Ev) : Hs := L.foldl stepH hs0

theorem runH_snoc (L : List Ev) (e : Ev) : runH (L ++ [e]) = stepH (runH L) e := by simp [runH]

set_option maxHeartbeats 8000000 in
theorem check_ok (w : World) (v : Value) (L : List Ev) (hrow : EvRow w v L) (hfew : L.length ≤ 8192) (hfit : ∀ k e, L[k]? = some e → Fits (runH (L.take k)) e) :
    Calls Try.prog 30 #[v] w fun e w' => e = .returned .nilIface ∧ Below w.heap.size w w' := by
  obtain ⟨la, lcap, rfl⟩ := hrow.len
  have hrow := Lib.hid hrow
  have hfit := Lib.hid hfit
  have hu := Try.underlying79
  go_enter Try.func30, Try.ntmps30
  go_wp2_with (fail)
  refine (begin_ok _).mono ?_
  rintro e w1 ⟨h, rfl, hh, HH, hb1⟩
  have HH := Lib.hid HH
  have hb1 := Lib.hid hb1
  have hh := Lib.hid hh
  go_wp2_with (fail)
  go_loopg [11] L.length (fun m i wr => ∃ k : Nat, m = L.length - k ∧ k ≤ L.length ∧ i = .int .i64 k ∧ Hid (HsAt wr h (runH (L.take k))) ∧ Hid (Below w.heap.size w wr))
  case atStart => exact ⟨0, rfl, Nat.zero_le _, rfl, HH, hb1⟩
  case round =>
    obtain ⟨k, rfl, hk, rfl, HH, HB⟩ := hrel
    by_cases hlt : k < L.length
    · obtain ⟨e, he⟩ : ∃ e, L[k]? = some e := ⟨_, List.getElem?_eq_getElem hlt⟩
      obtain ⟨A, cap, u, hv, hu2, hc⟩ := (EvRow.below hrow.out HB.out).get he
      simp only [Value.slice.injEq] at hv
      obtain ⟨rfl, _, rfl⟩ := hv
      obtain ⟨ua, uc, rfl⟩ := hu2.len
      have c0 : wr.cell? ⟨A, k * 7, none⟩ = some (.int .i64 e.kind) := hc 0 _ rfl
      have c1 : wr.cell? ⟨A, k * 7 + 1, none⟩ = some (.int .i64 e.time) := hc 1 _ rfl
      have c2 : wr.cell? ⟨A, k * 7 + 2, none⟩ = some (.int .i64 e.ref) := hc 2 _ rfl
      have c3 : wr.cell? ⟨A, k * 7 + 3, none⟩ = some (.int .i64 e.id) := hc 3 _ rfl
      have c4 : wr.cell? ⟨A, k * 7 + 4, none⟩ = some (.int .i64 e.list) := hc 4 _ rfl
      have c5 : wr.cell? ⟨A, k * 7 + 5, none⟩ = some (.int .i64 e.n) := hc 5 _ rfl
      have c6 : wr.cell? ⟨A, k * 7 + 6, none⟩ = some (.slice ua e.data.length uc) := hc 6 _ rfl
      have hst := Lib.hid (show runH (L.take (k + 1)) = stepH (runH (L.take k)) e from by rw [List.take_add_one, he]; exact runH_snoc _ _)
      have hba := below_alloc (Below.refl wr.heap.size wr) (.cells #[.int .i64 e.kind, .int .i64 e.time, .int .i64 e.ref, .int .i64 e.id, .int .i64 e.list, .int .i64 e.n, .slice ua e.data.length uc] 79)
      have hadd := Lib.hid (add_fits _ h _ (HH.out.below hba) e ua uc (hu2.below hba) (hfit.out k e he))
      have HB := Lib.hid (below_step HB.out hba)
      have hu2 := Lib.hid hu2
      clear hc he hba
      go_wp2_with (fail)
      refine Calls.mono hadd.out ?_
      rintro e2 w2 ⟨rfl, HH2, hm2⟩
      rw [← hst.out] at HH2
      have HB2 := Lib.hid (hm2.below HB.out (fun q hq => by rw [hq]; exact hh.out))
      have HH2 := Lib.hid HH2
      clear hm2 hadd c0 c1 c2 c3 c4 c5 c6
      go_wp2_with (fail)
      go_roundg (L.length - (k + 1))
      case measure => omega
      case rel => exact ⟨k + 1, rfl, by omega, by go_num, HH2, HB2⟩
    · go_wp2_with (fail)
      go_ret
      exact ⟨rfl, HB.out⟩

end Go.Proofs.Ytedpeambmmhcnaa.Base

/- The law FlowTurns by a walk: for every number of turns, faulty or missed, it returns true, and nothing that was there is changed. Conditions: those at each theorem. -/
import Derived.Test.YtedpeambmmhcnaaKnown
import Derived.Test.YtedpeambmmhcnaaTurnsKit
import Derived.Test.YtedpeambmmhcnaaEvOuts
import Derived.Test.YtedpeambmmhcnaaCheckD
import Derived.Deep.Slices
import Derived.ChangeArms
set_option maxRecDepth 100000
namespace Go.Proofs.Ytedpeambmmhcnaa.Turns
open Go.RowKit Go.Maps Go.ChangeShapes Go.Proofs.YtedpeambmmhcnaaW.PrintWords Go.Proofs.Ytedpeambmmhcnaa.Kit Go.Proofs.Ytedpeambmmhcnaa.Base Go.Proofs.Ytedpeambmmhcnaa.MayLaw

/-- Bools that came in. -/
def Bools (w : World) (a : Option Addr) (n : Nat) : Prop := ∀ i, i < n → ∃ b off bl, a = some ⟨b, off, none⟩ ∧ b < w.heap.size ∧ w.cell? ⟨b, off + i, none⟩ = some (.bool bl)

theorem Bools.below {w w' : World} {a : Option Addr} {n : Nat} (h : Bools w a n) (hb : Below w.heap.size w w') : Bools w' a n := fun i hi => by
  obtain ⟨b, off, bl, ha, hlt, hc⟩ := h i hi
  exact ⟨b, off, bl, ha, Nat.lt_of_lt_of_le hlt hb.size, (hb.cell (p := ⟨b, off + i, none⟩) hlt).trans hc⟩

theorem bools_open {H : Type} {enc : TypeId × Value → H} {W : World} {base : Nat} {spare : Nat → Bool} {held : Bool} {v : Value} {d : DataW H} {ps : List MemPlace} {a : Option Addr} {n cap : Nat} (hv : v = .slice a n cap) (h : DataW.Trod enc Try.prog W base spare held 62 v d ps) : n ≤ maxLen ∧ Bools W a n := by
  subst hv
  obtain ⟨fuel, hf⟩ := h
  rcases Go.Deep.open_slice1 Try.underlying62 (by kernel_rfl) hf with ⟨hcs, _⟩ | ⟨ad, len, c, m, k, V, D, Pl, hcs, _, hl, hm, hmm, _, hx⟩
  · simp [Value.cells] at hcs
    obtain ⟨rfl, rfl, rfl⟩ := hcs
    exact ⟨Nat.zero_le _, fun i hi => absurd hi (Nat.not_lt_zero _)⟩
  · simp [Value.cells] at hcs
    obtain ⟨rfl, rfl, rfl⟩ := hcs
    have hle : n ≤ m := by
      rw [hmm]
      split <;> omega
    refine ⟨Nat.le_trans hl hm, fun i hi => ?_⟩
    obtain ⟨hc0, _⟩ := hx 0 (by omega)
    obtain ⟨b, off, spot⟩ := ad
    have hspot : spot = none := by simpa [Addr.add] using World.cell?_spot hc0
    subst hspot
    obtain ⟨hc, ht⟩ := hx i (by omega)
    obtain ⟨bl, hb, _⟩ := DataW.trod_bool Try.underlying4 ht
    simp only [List.cons.injEq, and_true] at hb
    rw [hb, Go.WideShapes.add_plain] at hc
    exact ⟨b, off, bl, rfl, World.block_lt_of_cell? W _ hc, hc⟩

/-! ### The plain law: what the run is -/
def Hist (L : List Ev) (H : Hs) : Prop := runH L = H ∧ ∀ k e, L[k]? = some e → Fits (runH (L.take k)) e

theorem Hist.snoc {L : List Ev} {H : Hs} {e : Ev} (h : Hist L H) (hf : Fits H e) : Hist (L ++ [e]) (stepH H e) := by
  obtain ⟨h1, h2⟩ := h
  refine ⟨by rw [runH_snoc, h1], fun k x hx => ?_⟩
  by_cases hk : k < L.length
  · rw [List.getElem?_append_left hk] at hx
    rw [List.take_append_of_le_length (by omega)]
    exact h2 k x hx
  · have hke : k = L.length := by
      have := (List.getElem?_eq_some_iff.1 hx).1
      simp at this
      omega
    subst hke
    simp at hx
    subst hx
    rw [List.take_left', h1]
    · exact hf
    · rfl

structure Ts (S : St) (t : Nat) : Prop where
  len : S.L.length = 2 + 3 * t
  st : statusOf S.L = 1
  task : S.task = 1
  time : S.time = ((2 + 3 * t : Nat) : Int)
  turn : S.turn = (t : Int)
  list : S.list = 0
  o : S.o = fun _ => none
  hist : ∃ tm : Int, 0 ≤ tm ∧ tm ≤ t ∧ Hist S.L ⟨((2 + 3 * t : Nat) : Int), tm, 0, ((2 + 3 * t : Nat) : Int), false⟩
  right : ∀ x : Int, 0 ≤ x → (t : Int) - 1 ≤ x → x ≤ 1099511627776 → rightOf S.L 0 x = true

structure Tb (S : St) (t : Nat) : Prop where
  len : S.L.length = 3 + 3 * t
  st : statusOf S.L = 1
  task : S.task = 2
  time : S.time = ((2 + 3 * t : Nat) : Int)
  begun : S.begun = ((3 + 3 * t : Nat) : Int)
  turn : S.turn = (t : Int)
  list : S.list = 0
  late : S.late = false
  o : S.o = fun _ => none
  hist : Hist S.L ⟨((3 + 3 * t : Nat) : Int), t, 0, ((3 + 3 * t : Nat) : Int), true⟩
  right : ∀ x : Int, (t : Int) ≤ x → x ≤ 1099511627776 → rightOf S.L 0 x = true

theorem right_of {L : List Ev} {e : Ev} (he : L.getLast? = some e) (b : Int) (h0 : 0 ≤ b) (ht : e.time ≤ b) : ∀ t : Int, b ≤ t → t ≤ 1099511627776 → rightOf L 0 t = true := by
  intro t h2 h3
  have h4 : 0 ≤ t := by omega
  have h5 : e.time ≤ t := by omega
  simp [rightOf, he, h3, h4, h5]

def t0 : St := newSt 3 1 0 7 [] 0

theorem ts_start : Ts t0 0 := by
  refine ⟨rfl, rfl, rfl, rfl, rfl, rfl, rfl, ⟨0, by decide, by decide, ?_⟩, fun x h0 _ h2 => right_of (e := ⟨2, 0, 0, 0, 0, 0, []⟩) rfl 0 (by decide) (by decide) x h0 h2⟩
  have h0 : Hist [] hs0 := ⟨rfl, fun k e h => by simp at h⟩
  have h1 := h0.snoc (e := ⟨1, 0, 0, 0, 0, 7, []⟩) ⟨⟨by decide, by decide, by decide, by decide, by decide, by decide, by decide, by decide, by decide, by decide, by decide⟩, by decide, rfl, by decide, by decide, .inl ⟨rfl, rfl, rfl⟩⟩
  exact h1.snoc (e := ⟨2, 0, 0, 0, 0, 0, []⟩) ⟨⟨by decide, by decide, by decide, by decide, by decide, by decide, by decide, by decide, by decide, by decide, by decide⟩, by decide, rfl, by decide, by decide, .inr (.inl ⟨rfl, by decide, rfl, rfl⟩)⟩

theorem ts_begun {S : St} {t : Nat} (h : Ts S t) (ht : t ≤ 40) : Tb (decided0 S ((2 + 3 * t : Nat) : Int) t) t := by
  have hl : (decided0 S ((2 + 3 * t : Nat) : Int) t).L.getLast? = some ⟨3, t, ((2 + 3 * t : Nat) : Int), 0, 0, 0, []⟩ := by simp [decided0]
  obtain ⟨tm, h0, h1, hh⟩ := h.hist
  refine ⟨by simp [decided0, h.len]; omega, by unfold statusOf; rw [hl]; rfl, rfl, h.time, by simp [decided0, h.len]; omega, h.turn, h.list, rfl, h.o, ?_, right_of hl t (by omega) (by simp)⟩
  have := hh.snoc (e := ⟨3, t, ((2 + 3 * t : Nat) : Int), 0, 0, 0, []⟩) ⟨⟨by simp, by simp; omega, by simp; omega, by simp; omega, by simp, by simp, by simp, by simp, by simp, by simp, by simp⟩, by simpa using h1, rfl, by simp; omega, by simp; omega,
    .inr (.inr (.inl ⟨rfl, by simp; omega, by simp; omega, rfl, rfl⟩))⟩
  have he : stepH ⟨((2 + 3 * t : Nat) : Int), tm, 0, ((2 + 3 * t : Nat) : Int), false⟩ ⟨3, t, ((2 + 3 * t : Nat) : Int), 0, 0, 0, []⟩ = ⟨((3 + 3 * t : Nat) : Int), t, 0, ((3 + 3 * t : Nat) : Int), true⟩ := by
    simp [stepH]; omega
  rw [he] at this
  exact this

theorem ts_fault {S : St} {t : Nat} (h : Tb S t) (ht : t ≤ 40) : Ts (sched (fault1 S 1 t) t) (t + 1) ∧ taskOut (fault1 S 1 t) = ⟨1, 0, ((2 + 3 * (t + 1) : Nat) : Int), (t : Int) + 1, 0, 0, 0, []⟩ := by
  have hw : wrap64 (S.turn + 1) = (t : Int) + 1 := by rw [h.turn]; unfold wrap64; omega
  have hl : (sched (fault1 S 1 t) t).L.getLast? = some ⟨2, t, 0, 0, S.list, wrap64 (S.turn + 1), []⟩ := by simp [sched, fault1]
  refine ⟨⟨by simp [sched, fault1, h.len]; omega, by unfold statusOf; rw [hl]; rfl, rfl, by simp [sched, fault1, h.len]; omega, by simp [sched, fault1, hw], h.list, h.o, ⟨t, by omega, by omega, ?_⟩, ?_⟩, ?_⟩
  · have h1 := h.hist.snoc (e := ⟨6, t, S.begun, 0, 0, 1, []⟩) ⟨⟨by simp, by simp; omega, by simp only [h.begun]; omega, by simp only [h.begun]; omega, by simp, by simp, by simp, by simp, by simp, by simp, by simp⟩, by simp, rfl, by simp; omega, by simp; omega,
      .inr (.inr (.inr (.inl ⟨by simp, by simp; omega, by simp; omega, rfl, h.begun⟩)))⟩
    have h2 := h1.snoc (e := ⟨2, t, 0, 0, S.list, wrap64 (S.turn + 1), []⟩) ⟨⟨by simp, by simp; omega, by simp, by simp, by simp, by simp, by simp [h.list], by simp [h.list], by simp only [hw]; omega, by simp only [hw]; omega, by simp⟩, by simp [stepH], by simp [stepH], by simp [stepH]; omega, by simp [stepH]; omega,
      .inr (.inl ⟨rfl, by simp [stepH]; omega, by simp [stepH], rfl⟩)⟩
    have he : stepH (stepH ⟨((3 + 3 * t : Nat) : Int), t, 0, ((3 + 3 * t : Nat) : Int), true⟩ ⟨6, t, S.begun, 0, 0, 1, []⟩) ⟨2, t, 0, 0, S.list, wrap64 (S.turn + 1), []⟩ = ⟨((2 + 3 * (t + 1) : Nat) : Int), t, 0, ((2 + 3 * (t + 1) : Nat) : Int), false⟩ := by
      simp [stepH]; omega
    rw [he] at h2
    exact h2
  · intro x _ h1 h2
    exact right_of hl t (by omega) (by simp) x (by omega) h2
  · simp [taskOut, fault1, h.len, hw, h.list]
    omega

theorem ts_miss {S : St} {t : Nat} (h : Tb S t) (ht : t ≤ 40) : Ts (sched (miss1 S t) t) (t + 1) ∧ taskOut (miss1 S t) = ⟨1, 0, ((2 + 3 * (t + 1) : Nat) : Int), (t : Int) + 1, 0, 0, 0, []⟩ := by
  have hw : wrap64 (S.turn + 1) = (t : Int) + 1 := by rw [h.turn]; unfold wrap64; omega
  have hl : (sched (miss1 S t) t).L.getLast? = some ⟨2, t, 0, 0, S.list, wrap64 (S.turn + 1), []⟩ := by simp [sched, miss1]
  refine ⟨⟨by simp [sched, miss1, h.len]; omega, by unfold statusOf; rw [hl]; rfl, rfl, by simp [sched, miss1, h.len]; omega, by simp [sched, miss1, hw], h.list, h.o, ⟨t, by omega, by omega, ?_⟩, ?_⟩, ?_⟩
  · have h1 := h.hist.snoc (e := ⟨5, t, S.begun, 0, 0, 0, []⟩) ⟨⟨by simp, by simp; omega, by simp only [h.begun]; omega, by simp only [h.begun]; omega, by simp, by simp, by simp, by simp, by simp, by simp, by simp⟩, by simp, rfl, by simp; omega, by simp; omega,
      .inr (.inr (.inr (.inl ⟨by simp, by simp; omega, by simp; omega, rfl, h.begun⟩)))⟩
    have h2 := h1.snoc (e := ⟨2, t, 0, 0, S.list, wrap64 (S.turn + 1), []⟩) ⟨⟨by simp, by simp; omega, by simp, by simp, by simp, by simp, by simp [h.list], by simp [h.list], by simp only [hw]; omega, by simp only [hw]; omega, by simp⟩, by simp [stepH], by simp [stepH], by simp [stepH]; omega, by simp [stepH]; omega,
      .inr (.inl ⟨rfl, by simp [stepH]; omega, by simp [stepH], rfl⟩)⟩
    have he : stepH (stepH ⟨((3 + 3 * t : Nat) : Int), t, 0, ((3 + 3 * t : Nat) : Int), true⟩ ⟨5, t, S.begun, 0, 0, 0, []⟩) ⟨2, t, 0, 0, S.list, wrap64 (S.turn + 1), []⟩ = ⟨((2 + 3 * (t + 1) : Nat) : Int), t, 0, ((2 + 3 * (t + 1) : Nat) : Int), false⟩ := by
      simp [stepH]; omega
    rw [he] at h2
    exact h2
  · intro x _ h1 h2
    exact right_of hl t (by omega) (by simp) x (by omega) h2
  · simp [taskOut, miss1, h.len, hw, h.list]
    omega

theorem not_wanted {S : St} {t : Nat} (h : Ts S (t + 1)) : wantsTask S ((2 + 3 * t : Nat) : Int) t = false := by
  have h1 : (S.time == ((2 + 3 * t : Nat) : Int)) = false := by rw [h.time]; simp; omega
  unfold wantsTask
  rw [h1]
  simp

theorem wanted {S : St} {t : Nat} (h : Ts S t) : wantsTask S ((2 + 3 * t : Nat) : Int) t = true := by
  simp [wantsTask, h.task, h.time, h.turn]

theorem last_ok {S : St} {t : Nat} (h : Tb S t) (ht : t ≤ 40) : (closed (decided1 S t) 20 t []).L.length = 5 + 3 * t ∧ statusOf (closed (decided1 S t) 20 t []).L = 2 ∧ ∀ k e, (closed (decided1 S t) 20 t []).L[k]? = some e → Fits (runH ((closed (decided1 S t) 20 t []).L.take k)) e := by
  have h1 := h.hist.snoc (e := ⟨4, t, S.begun, 0, 0, 0, []⟩) ⟨⟨by simp, by simp; omega, by simp only [h.begun]; omega, by simp only [h.begun]; omega, by simp, by simp, by simp, by simp, by simp, by simp, by simp⟩, by simp, rfl, by simp; omega, by simp; omega,
      .inr (.inr (.inr (.inl ⟨by simp, by simp; omega, by simp; omega, rfl, h.begun⟩)))⟩
  have h2 := h1.snoc (e := ⟨20, t, 0, 0, 0, 0, []⟩) ⟨⟨by simp, by simp; omega, by simp, by simp, by simp, by simp, by simp, by simp, by simp, by simp, by simp⟩, by simp [stepH], by simp [stepH], by simp [stepH]; omega, by simp [stepH]; omega,
      .inr (.inr (.inr (.inr ⟨rfl, by simp [stepH]; omega, rfl⟩)))⟩
  refine ⟨by simp [closed, decided1, h.len]; omega, by simp [statusOf, closed, statusKind], h2.2⟩

theorem row1 {w : World} {v : Value} {o : OutE} (h : OutRow w v [o]) : ∃ A cap, v = .slice (some ⟨A, 0, none⟩) 1 cap ∧ w.cell? ⟨A, 0, none⟩ = some (.int .i64 o.kind) ∧ w.cell? ⟨A, 2, none⟩ = some (.int .i64 o.ref) ∧ w.cell? ⟨A, 3, none⟩ = some (.int .i64 o.turn) := by
  obtain ⟨A, cap, u, rfl, _, hc⟩ := h.head
  exact ⟨A, cap, rfl, hc 0 _ rfl, hc 2 _ rfl, hc 3 _ rfl⟩

theorem row1_at {w : World} {A cap : Nat} {o : OutE} (h : OutRow w (.slice (some ⟨A, 0, none⟩) 1 cap) [o]) : w.cell? ⟨A, 0, none⟩ = some (.int .i64 o.kind) ∧ w.cell? ⟨A, 2, none⟩ = some (.int .i64 o.ref) ∧ w.cell? ⟨A, 3, none⟩ = some (.int .i64 o.turn) := by
  obtain ⟨A', cap', hv, h⟩ := row1 h
  simp only [Value.slice.injEq, Option.some.injEq, Addr.mk.injEq, and_true] at hv
  obtain ⟨rfl, _⟩ := hv
  exact h

set_option maxHeartbeats 32000000 in
theorem all (ni : Int) (a : Option Addr) (m c : Nat) (w : World) (hm : m ≤ maxLen) (hbl : Bools w a m) : Calls Try.prog 7 #[.int .i64 ni, .slice a m c] w (Yes w) := by
  unfold maxLen at hm
  have hbl := Lib.hid hbl
  go_enter Try.func7, Try.ntmps7
  go_wp2_with (fail)
  refine (known_ok _).mono ?_
  rintro e w1 ⟨rfl, hb1⟩
  have hb1 := Lib.hid hb1
  by_cases h0 : ni < 1
  · go_wp2_with (fail)
    go_ret
    exact ⟨rfl, hb1⟩
  by_cases h40 : 40 < ni
  · go_wp2_with (fail)
    go_ret
    exact ⟨rfl, hb1⟩
  by_cases h100 : (100 : Int) < m
  · go_wp2_with (fail)
    go_ret
    exact ⟨rfl, hb1⟩
  obtain ⟨n, rfl⟩ : ∃ n : Nat, ni = n := ⟨ni.toNat, by omega⟩
  have hn : n ≤ 40 := by omega
  have hn1 : 1 ≤ n := by omega
  go_wp2_with (fail)
  refine (new_ok w1 3 1 0 7 _ [] (Byt.none _) 0 rfl rfl rfl rfl rfl).mono ?_
  rintro e w2 ⟨F, M, lv, v2, rfl, hF, hM, ho, H, hb⟩
  obtain ⟨A, cap, rfl, x0, x2, x3⟩ := row1 ho
  simp only at x0 x2 x3
  have H := Lib.hid (show FlowAt w2 F M lv t0 from H)
  have hF := Lib.hid (Nat.le_trans hb1.out.size hF)
  have hM := Lib.hid (Nat.le_trans hb1.out.size hM)
  have hb := Lib.hid (below_step hb1.out hb)
  clear ho h0 h40
  go_wp2_with (fail)
  clear x0 x2 x3
  go_loopg [8, 9] n (fun q at_ i wr => ∃ (t M : Nat) (lv : Value) (S : St), q = n - t ∧ t ≤ n ∧ at_ = .int .i64 ((2 + 3 * t : Nat) : Int) ∧ i = .int .i64 t ∧ Hid (Ts S t) ∧ Hid (FlowAt wr F M lv S) ∧ Hid (w.heap.size ≤ M) ∧ Hid (Below w.heap.size w wr))
  case atStart => exact ⟨0, M, lv, t0, rfl, Nat.zero_le _, rfl, rfl, Lib.hid ts_start, H, hM, hb⟩
  case round =>
    obtain ⟨t, Ma, lva, S, rfl, htn, rfl, rfl, HS, HF, hMa, HB⟩ := hrel
    clear H hM hb
    by_cases hlt : t < n
    · have ht40 : t ≤ 40 := by omega
      go_wp2_with (fail)
      refine (decides_ok wr F Ma lva S HF.out (by rw [HS.out.len]; omega) ((2 + 3 * t : Nat) : Int) t t (HS.out.right t (by omega) (by omega) (by omega)) HS.out.st (by simp) (wanted HS.out)).mono ?_
      rintro e w3 ⟨M3, lv3, v3, rfl, hr3, H3, hm3, hM3⟩
      obtain ⟨v3a, v3c, rfl⟩ := hr3.len
      have HS3 := Lib.hid (ts_begun HS.out ht40)
      have hB3 := Lib.hid (Mod.below hm3 HB.out (own_ge hF.out hMa.out))
      have hMb : Hid (w.heap.size ≤ M3) := Lib.hid (hM3.elim (fun h => by rw [h]; exact hMa.out) (fun h => Nat.le_trans HB.out.size h))
      have H3 := Lib.hid H3
      clear hm3 hM3 hr3 HS HF HB hMa
      generalize decided0 S ((2 + 3 * t : Nat) : Int) t = S3 at *
      by_cases htm : t < m
      · obtain ⟨b, off, bl, rfl, _, hbc⟩ := (Bools.below hbl.out hB3.out) t htm
        cases bl
        · go_wp2_with (fail)
          have hl : S3.L.length ≤ 4000 := by rw [HS3.out.len]; omega
          refine (fire_late w3 F M3 lv3 S3 H3.out hl ((2 + 3 * t : Nat) : Int) t t (HS3.out.right t (by omega) (by omega)) HS3.out.st HS3.out.task HS3.out.time HS3.out.turn).mono ?_
          rintro e w6 ⟨M6, lv6, v6, rfl, ho6, H6, hm6, hM6⟩
          have HX := ts_miss HS3.out (by omega)
          rw [HX.2] at ho6
          obtain ⟨A6, cap6, rfl, y0, y2, y3⟩ := row1 ho6
          simp only at y0 y2 y3
          have ho6 := Lib.hid ho6
          have hB6 := Lib.hid (Mod.below hm6 hB3.out (own_ge hF.out hMb.out))
          have hMc : Hid (w.heap.size ≤ M6) := Lib.hid (hM6.elim (fun h => by rw [h]; exact hMb.out) (fun h => Nat.le_trans hB3.out.size h))
          have H6 := Lib.hid H6
          have HS6 := Lib.hid HX.1
          clear hl hm6 hM6 HX
          generalize sched (miss1 S3 t) t = S6 at *
          go_wp2_with (fail)
          refine (decides_stale w6 F M6 lv6 S6 H6.out ((2 + 3 * t : Nat) : Int) t t (HS6.out.right t (by omega) (by omega) (by omega)) HS6.out.st (by simp) (not_wanted HS6.out)).mono ?_
          rintro e w7 ⟨M7, lv7, v7, rfl, hr7, H7, hm7, hM7⟩
          obtain ⟨v7a, v7c, rfl⟩ := hr7.len
          have ho7 := ho6.out.mod hm7 (FlowAt.noBytes H6.out) (FlowAt.noOuts H6.out)
          obtain ⟨y0, y2, y3⟩ := row1_at ho7
          simp only at y0 y2 y3
          have hB7 := Lib.hid (Mod.below hm7 hB6.out (own_ge hF.out hMc.out))
          have hMd : Hid (w.heap.size ≤ M7) := Lib.hid (hM7.elim (fun h => by rw [h]; exact hMc.out) (fun h => Nat.le_trans hB6.out.size h))
          have H7 := Lib.hid H7
          clear hm7 hM7 ho7 ho6 H6 hr7
          go_wp2_with (fail)
          go_roundg (n - (t + 1))
          case measure => omega
          case rel => exact ⟨t + 1, M7, lv7, S6, rfl, by omega, by go_num, by go_num, HS6, H7, hMd, hB7⟩
        · go_wp2_with (fail)
          have hba := below_alloc (Below.refl w3.heap.size w3) (.cells #[.int .i64 99, .int .i64 0, .int .i64 0, .int .i64 0, .slice none 0 0] 24)
          have hd := decs_made (w := w3.alloc (.cells #[.int .i64 99, .int .i64 0, .int .i64 0, .int .i64 0, .slice none 0 0] 24)) (g := w3.heap.size) (d := ⟨99, 0, 0, 0, []⟩) (u := .slice none 0 0) (heap_alloc_new w3 _) (Byt.none _)
          have hl : S3.L.length ≤ 4000 := by rw [HS3.out.len]; omega
          refine (decide_one_bad _ F M3 lv3 S3 (FlowAt.below H3.out hba) hl HS3.out.o ((2 + 3 * t : Nat) : Int) t t (HS3.out.right t (by omega) (by omega)) HS3.out.st HS3.out.task HS3.out.time HS3.out.turn ⟨99, 0, 0, 0, []⟩ _ hd (.inr (by decide)) rfl).mono ?_
          rintro e w6 ⟨M6, lv6, v6, rfl, ho6, H6, hm6, hM6⟩
          have HX := ts_fault HS3.out (by omega)
          rw [HX.2] at ho6
          obtain ⟨A6, cap6, rfl, y0, y2, y3⟩ := row1 ho6
          simp only at y0 y2 y3
          have ho6 := Lib.hid ho6
          have hB6 := Lib.hid (Mod.below hm6 (below_step hB3.out hba) (own_ge hF.out hMb.out))
          have hMc : Hid (w.heap.size ≤ M6) := Lib.hid (hM6.elim (fun h => by rw [h]; exact hMb.out) (fun h => Nat.le_trans hB3.out.size (Nat.le_trans hba.size h)))
          have H6 := Lib.hid H6
          have HS6 := Lib.hid HX.1
          clear hba hd hl hm6 hM6 HX
          generalize sched (fault1 S3 1 t) t = S6 at *
          go_wp2_with (fail)
          refine (decides_stale w6 F M6 lv6 S6 H6.out ((2 + 3 * t : Nat) : Int) t t (HS6.out.right t (by omega) (by omega) (by omega)) HS6.out.st (by simp) (not_wanted HS6.out)).mono ?_
          rintro e w7 ⟨M7, lv7, v7, rfl, hr7, H7, hm7, hM7⟩
          obtain ⟨v7a, v7c, rfl⟩ := hr7.len
          have ho7 := ho6.out.mod hm7 (FlowAt.noBytes H6.out) (FlowAt.noOuts H6.out)
          obtain ⟨y0, y2, y3⟩ := row1_at ho7
          simp only at y0 y2 y3
          have hB7 := Lib.hid (Mod.below hm7 hB6.out (own_ge hF.out hMc.out))
          have hMd : Hid (w.heap.size ≤ M7) := Lib.hid (hM7.elim (fun h => by rw [h]; exact hMc.out) (fun h => Nat.le_trans hB6.out.size h))
          have H7 := Lib.hid H7
          clear hm7 hM7 ho7 ho6 H6 hr7
          go_wp2_with (fail)
          go_roundg (n - (t + 1))
          case measure => omega
          case rel => exact ⟨t + 1, M7, lv7, S6, rfl, by omega, by go_num, by go_num, HS6, H7, hMd, hB7⟩
      · go_wp2_with (fail)
        have hl : S3.L.length ≤ 4000 := by rw [HS3.out.len]; omega
        refine (fire_late w3 F M3 lv3 S3 H3.out hl ((2 + 3 * t : Nat) : Int) t t (HS3.out.right t (by omega) (by omega)) HS3.out.st HS3.out.task HS3.out.time HS3.out.turn).mono ?_
        rintro e w6 ⟨M6, lv6, v6, rfl, ho6, H6, hm6, hM6⟩
        have HX := ts_miss HS3.out (by omega)
        rw [HX.2] at ho6
        obtain ⟨A6, cap6, rfl, y0, y2, y3⟩ := row1 ho6
        simp only at y0 y2 y3
        have ho6 := Lib.hid ho6
        have hB6 := Lib.hid (Mod.below hm6 hB3.out (own_ge hF.out hMb.out))
        have hMc : Hid (w.heap.size ≤ M6) := Lib.hid (hM6.elim (fun h => by rw [h]; exact hMb.out) (fun h => Nat.le_trans hB3.out.size h))
        have H6 := Lib.hid H6
        have HS6 := Lib.hid HX.1
        clear hl hm6 hM6 HX
        generalize sched (miss1 S3 t) t = S6 at *
        go_wp2_with (fail)
        refine (decides_stale w6 F M6 lv6 S6 H6.out ((2 + 3 * t : Nat) : Int) t t (HS6.out.right t (by omega) (by omega) (by omega)) HS6.out.st (by simp) (not_wanted HS6.out)).mono ?_
        rintro e w7 ⟨M7, lv7, v7, rfl, hr7, H7, hm7, hM7⟩
        obtain ⟨v7a, v7c, rfl⟩ := hr7.len
        have ho7 := ho6.out.mod hm7 (FlowAt.noBytes H6.out) (FlowAt.noOuts H6.out)
        obtain ⟨y0, y2, y3⟩ := row1_at ho7
        simp only at y0 y2 y3
        have hB7 := Lib.hid (Mod.below hm7 hB6.out (own_ge hF.out hMc.out))
        have hMd : Hid (w.heap.size ≤ M7) := Lib.hid (hM7.elim (fun h => by rw [h]; exact hMc.out) (fun h => Nat.le_trans hB6.out.size h))
        have H7 := Lib.hid H7
        clear hm7 hM7 ho7 ho6 H6 hr7
        go_wp2_with (fail)
        go_roundg (n - (t + 1))
        case measure => omega
        case rel => exact ⟨t + 1, M7, lv7, S6, rfl, by omega, by go_num, by go_num, HS6, H7, hMd, hB7⟩
    · obtain rfl : t = n := by omega
      have ht40 : t ≤ 40 := hn
      go_wp2_with (fail)
      refine (decides_ok wr F Ma lva S HF.out (by rw [HS.out.len]; omega) ((2 + 3 * t : Nat) : Int) t t (HS.out.right t (by omega) (by omega) (by omega)) HS.out.st (by simp) (wanted HS.out)).mono ?_
      rintro e w3 ⟨M3, lv3, v3, rfl, hr3, H3, hm3, hM3⟩
      obtain ⟨v3a, v3c, rfl⟩ := hr3.len
      have HS3 := Lib.hid (ts_begun HS.out ht40)
      have hB3 := Lib.hid (Mod.below hm3 HB.out (own_ge hF.out hMa.out))
      have hMb : Hid (w.heap.size ≤ M3) := Lib.hid (hM3.elim (fun h => by rw [h]; exact hMa.out) (fun h => Nat.le_trans HB.out.size h))
      have H3 := Lib.hid H3
      clear hm3 hM3 hr3 HS HF HB hMa
      generalize decided0 S ((2 + 3 * t : Nat) : Int) t = S3 at *
      go_wp2_with (fail)
      have hba := below_alloc (Below.refl w3.heap.size w3) (.cells #[.int .i64 5, .int .i64 0, .int .i64 0, .int .i64 0, .slice none 0 0] 24)
      have hd := decs_made (w := w3.alloc (.cells #[.int .i64 5, .int .i64 0, .int .i64 0, .int .i64 0, .slice none 0 0] 24)) (g := w3.heap.size) (d := ⟨5, 0, 0, 0, []⟩) (u := .slice none 0 0) (heap_alloc_new w3 _) (Byt.none _)
      have hl : S3.L.length ≤ 4000 := by rw [HS3.out.len]; omega
      refine (decide_one_ok _ F M3 lv3 S3 (FlowAt.below H3.out hba) hl HS3.out.o ((2 + 3 * t : Nat) : Int) t t (HS3.out.right t (by omega) (by omega)) HS3.out.st HS3.out.task HS3.out.time HS3.out.turn ⟨5, 0, 0, 0, []⟩ _ hd (.inl rfl) (by simp [bad1, mayB]) HS3.out.late).mono ?_
      rintro e w6 ⟨M6, lv6, v6, rfl, ho6, H6, hm6, hM6⟩
      obtain ⟨v6a, v6c, rfl⟩ := ho6.len
      have HX := last_ok HS3.out ht40
      have hB6 := Lib.hid (Mod.below hm6 (below_step hB3.out hba) (own_ge hF.out hMb.out))
      have H6 : FlowAt w6 F M6 lv6 (closed (decided1 S3 t) 20 t []) := H6
      have H6 := Lib.hid H6
      have HX := Lib.hid HX
      clear hba hd hl hm6 hM6 ho6
      generalize closed (decided1 S3 t) 20 t [] = S6 at *
      go_wp2_with (fail)
      refine (fstatus w6 F M6 lv6 S6 H6.out).mono ?_
      rintro e w7 ⟨rfl, hb7⟩
      rw [HX.out.2.1]
      have H7 := Lib.hid (FlowAt.below H6.out hb7)
      have hB7 := Lib.hid (below_step hB6.out hb7)
      clear hb7
      go_wp2_with (fail)
      refine (flen w7 F M6 lv6 S6 H7.out).mono ?_
      rintro e w8 ⟨rfl, hb8⟩
      rw [HX.out.1]
      have H8 := Lib.hid (FlowAt.below H7.out hb8)
      have hB8 := Lib.hid (below_step hB7.out hb8)
      clear hb8
      go_wp2_with (fail)
      refine (events_all w8 F M6 lv6 S6 H8.out (by rw [HX.out.1]; omega)).mono ?_
      rintro e w9 ⟨v9, rfl, hr9, hb9⟩
      have hB9 := Lib.hid (below_step hB8.out hb9)
      have hr9 := Lib.hid hr9
      clear hb9
      go_wp2_with (fail)
      refine (check_ok w9 v9 S6.L hr9.out (by rw [HX.out.1]; omega) HX.out.2.2).mono ?_
      rintro e w10 ⟨rfl, hb10⟩
      have hB10 := Lib.hid (below_step hB9.out hb10)
      clear hb10
      go_wp2_with (fail)
      go_ret
      exact ⟨rfl, hB10.out⟩

end Go.Proofs.Ytedpeambmmhcnaa.Turns

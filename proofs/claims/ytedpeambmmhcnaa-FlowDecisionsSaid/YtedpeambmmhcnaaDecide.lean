/- Decide's closure: a task's decisions are taken, or refused. Conditions: those at each theorem. -/
import Derived.Test.YtedpeambmmhcnaaDecs
set_option maxRecDepth 100000
namespace Go.Proofs.Ytedpeambmmhcnaa.Base
open Go.RowKit Go.Maps Go.Proofs.YtedpeambmmhcnaaW.PrintWords Go.Proofs.Ytedpeambmmhcnaa.Kit

/-- What the closure of Decide has caught. -/
structure Caught (w : World) (B1 B2 B3 B4 : Nat) (ref turn now : Int) (v : Value) : Prop where
  k1 : w.heap[B1]? = some (.cells #[.int .i64 ref] 3 (0, 0))
  k2 : w.heap[B2]? = some (.cells #[.int .i64 turn] 3 (0, 0))
  k3 : w.heap[B3]? = some (.cells #[v] 37 (0, 0))
  k4 : w.heap[B4]? = some (.cells #[.int .i64 now] 3 (0, 0))

theorem Caught.mod {w w' : World} {S : Nat → Prop} {N B1 B2 B3 B4 : Nat} {ref turn now : Int} {v : Value} (h : Caught w B1 B2 B3 B4 ref turn now v) (hm : Mod S w w') (hk : ∀ k, S k → N ≤ k) (hB : B1 < N ∧ B2 < N ∧ B3 < N ∧ B4 < N) : Caught w' B1 B2 B3 B4 ref turn now v :=
  ⟨hm.blk h.k1 (fun hs => by have := hk _ hs; omega), hm.blk h.k2 (fun hs => by have := hk _ hs; omega), hm.blk h.k3 (fun hs => by have := hk _ hs; omega), hm.blk h.k4 (fun hs => by have := hk _ hs; omega)⟩

theorem Caught.below {w w' : World} {B1 B2 B3 B4 : Nat} {ref turn now : Int} {v : Value} (h : Caught w B1 B2 B3 B4 ref turn now v) (hb : Below w.heap.size w w') : Caught w' B1 B2 B3 B4 ref turn now v :=
  ⟨blk_below h.k1 hb, blk_below h.k2 hb, blk_below h.k3 hb, blk_below h.k4 hb⟩

theorem Caught.lt {w : World} {B1 B2 B3 B4 : Nat} {ref turn now : Int} {v : Value} (h : Caught w B1 B2 B3 B4 ref turn now v) : B1 < w.heap.size ∧ B2 < w.heap.size ∧ B3 < w.heap.size ∧ B4 < w.heap.size := ⟨blk_lt h.k1, blk_lt h.k2, blk_lt h.k3, blk_lt h.k4⟩

theorem Caught.cells {w : World} {B1 B2 B3 B4 : Nat} {ref turn now : Int} {v : Value} (h : Caught w B1 B2 B3 B4 ref turn now v) :
    w.cell? ⟨B1, 0, none⟩ = some (.int .i64 ref) ∧ w.cell? ⟨B2, 0, none⟩ = some (.int .i64 turn) ∧ w.cell? ⟨B3, 0, none⟩ = some v ∧ w.cell? ⟨B4, 0, none⟩ = some (.int .i64 now) := ⟨blk_cell h.k1 0, blk_cell h.k2 0, blk_cell h.k3 0, blk_cell h.k4 0⟩

def caps (B1 B2 B3 B4 : Nat) : Array Value := #[.pointer (some ⟨B1, 0, none⟩), .pointer (some ⟨B2, 0, none⟩), .pointer (some ⟨B3, 0, none⟩), .pointer (some ⟨B4, 0, none⟩)]

set_option maxHeartbeats 8000000 in
theorem decide_bad_do (w : World) (lv : Value) (S : St) (hL : S.L.length ≤ 7000) (ref turn now : Int) (ht : S.task = 2) (hr : S.time = ref) (hn : S.turn = turn) (v : Value) (ds : List Dec) (hd : Decs w.heap.size w v ds) (B1 B2 B3 B4 : Nat) (hc : Caught w B1 B2 B3 B4 ref turn now v)
    (hbad : BadIs w.heap.size S ds true) : Does w 45 (caps B1 B2 B3 B4) lv S [taskOut (fault1 S 1 now)] 22 (sched (fault1 S 1 now) now) := by
  intro w1 X M1 hX hM hb H
  obtain ⟨da, dcap, rfl⟩ := hd.len
  obtain ⟨q1, q2, q3, q4⟩ := (hc.below hb).cells
  obtain ⟨c0, c1, c2, c3, c4, c5, c6, c7, c8, c9, c10, c11⟩ := H.cells
  rw [ht] at c5
  rw [hr] at c6
  rw [hn] at c8
  have hc := Lib.hid (hc.below hb)
  have hd1 := hd.below hb (Nat.le_refl _)
  have hcall : Hid (∀ n, Calls Try.prog 46 #[.pointer (some ⟨X, 0, none⟩), .slice da ds.length dcap] (w1.drewN n) fun e w' => e = .returned (.bool true) ∧ Below w1.heap.size w1 w') := by
    intro n
    have hbn : Below w1.heap.size w1 (w1.drewN n) := pw_below_drewN (Below.refl _ _) n
    refine (hbad (w1.drewN n) X M1 lv _ (H.below hbn) (hd1.below hbn hb.size) hb.size).mono ?_
    rintro e w' ⟨rfl, hb2⟩
    exact ⟨rfl, below_step hbn hb2⟩
  have H := Lib.hid H
  clear c0 c1 c2 c3 c4 c7 c9 c10 c11 hd hd1 ht hr hn hb hbad
  show Calls Try.prog 45 #[.pointer (some ⟨X, 0, none⟩), .pointer (some ⟨B1, 0, none⟩), .pointer (some ⟨B2, 0, none⟩), .pointer (some ⟨B3, 0, none⟩), .pointer (some ⟨B4, 0, none⟩)] w1 _
  go_enter Try.func45, Try.ntmps45
  go_wp2_with (fail)
  go_quiet (fail)
  go_wp2_with (fail)
  refine Calls.mono (hcall.out _) ?_
  rintro e w2 ⟨rfl, hb2⟩
  have H2 := Lib.hid (FlowAt.below H hb2)
  obtain ⟨q1, q2, q3, q4⟩ := (Caught.below hc hb2).cells
  have hb2 := Lib.hid hb2
  go_wp2_with (fail)
  refine (faulty_any w2 X M1 lv S H2 hL 1 now).mono ?_
  rintro e w3 ⟨lv3, v3, rfl, ho, H3, hm3⟩
  have ho := Lib.hid ho
  have H3 := Lib.hid H3
  have hm3 := Lib.hid ((Mod.of_below hb2.out).trans hm3)
  go_wp2_with (fail)
  go_ret2
  exact ⟨lv3, v3, rfl, ho, H3, hm3⟩

set_option maxHeartbeats 8000000 in
theorem decide_late_do (w : World) (lv : Value) (S : St) (hL : S.L.length ≤ 7000) (ref turn now : Int) (ht : S.task = 2) (hr : S.time = ref) (hn : S.turn = turn) (v : Value) (ds : List Dec) (hd : Decs w.heap.size w v ds) (hdl : ds.length ≤ 1000) (B1 B2 B3 B4 : Nat) (hc : Caught w B1 B2 B3 B4 ref turn now v)
    (hbad : BadIs w.heap.size S ds false) (hlt : lateBad S ds = true) : Does w 45 (caps B1 B2 B3 B4) lv S [taskOut (fault1 S 2 now)] 23 (sched (fault1 S 2 now) now) := by
  intro w1 X M1 hX hM hb H
  obtain ⟨da, dcap, rfl⟩ := hd.len
  obtain ⟨q1, q2, q3, q4⟩ := (hc.below hb).cells
  obtain ⟨c0, c1, c2, c3, c4, c5, c6, c7, c8, c9, c10, c11⟩ := H.cells
  rw [ht] at c5
  rw [hr] at c6
  rw [hn] at c8
  have hc0 := Lib.hid hc
  have hc := Lib.hid (hc.below hb)
  have hd1 := Lib.hid (hd.below hb (Nat.le_refl _))
  have hcall : Hid (∀ n, Calls Try.prog 46 #[.pointer (some ⟨X, 0, none⟩), .slice da ds.length dcap] (w1.drewN n) fun e w' => e = .returned (.bool false) ∧ Below w1.heap.size w1 w') := by
    intro n
    have hbn : Below w1.heap.size w1 (w1.drewN n) := pw_below_drewN (Below.refl _ _) n
    refine (hbad (w1.drewN n) X M1 lv _ (H.below hbn) (hd1.out.below hbn hb.size) hb.size).mono ?_
    rintro e w' ⟨rfl, hb2⟩
    exact ⟨rfl, below_step hbn hb2⟩
  have H := Lib.hid H
  have hN := Lib.hid hb.size
  have hX := Lib.hid hX
  have hM := Lib.hid hM
  have hlt := Lib.hid hlt
  have hdl := Lib.hid hdl
  clear c0 c1 c2 c3 c4 c7 c9 c10 c11 hd ht hr hn hb hbad
  show Calls Try.prog 45 #[.pointer (some ⟨X, 0, none⟩), .pointer (some ⟨B1, 0, none⟩), .pointer (some ⟨B2, 0, none⟩), .pointer (some ⟨B3, 0, none⟩), .pointer (some ⟨B4, 0, none⟩)] w1 _
  go_enter Try.func45, Try.ntmps45
  go_wp2_with (fail)
  go_quiet (fail)
  go_wp2_with (fail)
  refine Calls.mono (hcall.out _) ?_
  rintro e w2 ⟨rfl, hb2⟩
  have H2 := Lib.hid (FlowAt.below H hb2)
  have hc2 := Lib.hid (Caught.below hc hb2)
  have hd2 := Lib.hid (hd1.out.below hb2 hN.out)
  obtain ⟨q1, q2, q3, q4⟩ := hc2.out.cells
  have hN1 := hN
  have hN := Lib.hid (Nat.le_trans hN.out hb2.size)
  have hb2 := Lib.hid hb2
  obtain ⟨hl1, d, hdl2, h5⟩ : S.late = true ∧ ∃ d, ds.getLast? = some d ∧ decide (5 ≤ d.kind) = true := by
    have hlt := hlt.out
    unfold lateBad at hlt
    cases h1 : S.late
    · simp [h1] at hlt
    · cases h2 : ds.getLast? with
      | none => simp [h2] at hlt
      | some d => exact ⟨rfl, d, rfl, by simpa [h1, h2] using hlt⟩
  obtain ⟨k, hk, hkd⟩ : ∃ k, ds.length = k + 1 ∧ ds[k]? = some d := by
    rcases List.eq_nil_or_concat ds with h | ⟨l, e, rfl⟩
    · simp [h] at hdl2
    · simp at hdl2
      exact ⟨l.length, by simp, by simp [hdl2]⟩
  have hdl := hdl.out
  obtain ⟨A, off, cap, u, hv, _, d0, _⟩ := hd2.out.get hkd
  simp only [Value.slice.injEq] at hv
  obtain ⟨rfl, _, rfl⟩ := hv
  have c9 : w2.cell? ⟨X, 9, none⟩ = some (.bool S.late) := H2.out.cell 9
  rw [hl1] at c9
  rw [hk] at q3 hdl
  have hl1 := Lib.hid hl1
  have hk := Lib.hid hk
  have hkd := Lib.hid hkd
  generalize d.kind = dk at *
  go_wp2_with (fail)
  refine (faulty_any w2 X M1 lv S H2 hL 2 now).mono ?_
  rintro e w3 ⟨lv3, v3, rfl, ho, H3, hm3⟩
  have ho := Lib.hid ho
  have H3 := Lib.hid H3
  have hm3 := Lib.hid ((Mod.of_below hb2.out).trans hm3)
  go_wp2_with (fail)
  go_ret2
  exact ⟨lv3, v3, rfl, ho, H3, hm3⟩

theorem own_ge {X M n : Nat} (hX : n ≤ X) (hM : n ≤ M) : ∀ b, Own X M b → n ≤ b := by
  rintro b (rfl | rfl)
  · exact hX
  · exact hM

theorem Mod.fresh {S T : Nat → Prop} {a b c : World} (h : Mod S a b) (k : Mod T b c) (hT : ∀ i, T i → a.heap.size ≤ i) : Mod S a c :=
  ⟨k.os.trans h.os, k.tape.trans h.tape, k.output.trans h.output, Nat.le_trans h.size k.size, fun i hi hn => (k.block i (Nat.lt_of_lt_of_le hi h.size) (fun ht => Nat.lt_irrefl _ (Nat.lt_of_lt_of_le hi (hT i ht)))).trans (h.block i hi hn)⟩

theorem runDs_few (dn : St → Dec → St × List OutE) (hone : ∀ S d, (dn S d).2.length ≤ 1) : ∀ (ds : List Dec) (S : St), (runDs dn S ds).2.length ≤ ds.length
  | [], S => by simp [runDs]
  | d :: ds, S => by
    have h1 := hone S d
    have h2 := runDs_few dn hone ds (dn S d).1
    simp [runDs]
    omega

/-- What the loop over the decisions holds. -/
structure Loop (w0 w1 wr : World) (X M1 B1 B2 B3 B4 : Nat) (ref turn now : Int) (v : Value) (ds : List Dec) (R : St × List OutE) (lvk out : Value) : Prop where
  flow : FlowAt wr X M1 lvk R.1
  outs : OutRowB w1.heap.size wr out R.2
  mod : Mod (Own X M1) w1 wr
  caught : Caught wr B1 B2 B3 B4 ref turn now v
  decs : Decs w0.heap.size wr v ds

/-- What decisions that may be leave. -/
def goneSt (dn : St → Dec → St × List OutE) (S : St) (ds : List Dec) (now : Int) : St × List OutE :=
  let r := runDs dn (decided1 S now) ds
  if S.late && statusOf r.1.L == 1 then (sched r.1 now, r.2 ++ [taskOut r.1]) else r

set_option maxHeartbeats 16000000 in
theorem decide_go_do (dn : St → Dec → St × List OutE) (w : World) (lv : Value) (S : St) (hL : S.L.length ≤ 7000) (ref turn now : Int) (ht : S.task = 2) (hr : S.time = ref) (hn : S.turn = turn) (v : Value) (ds : List Dec) (hd : Decs w.heap.size w v ds) (hdl : ds.length ≤ 1000) (B1 B2 B3 B4 : Nat) (hc : Caught w B1 B2 B3 B4 ref turn now v)
    (hbad : BadIs w.heap.size S ds false) (hlt : lateBad S ds = false) (hdone : ∀ k d, ds[k]? = some d → DoneIs now (runDs dn (decided1 S now) (ds.take k)).1 d (dn (runDs dn (decided1 S now) (ds.take k)).1 d)) (hone : ∀ S d, (dn S d).2.length ≤ 1) (hlen : (runDs dn (decided1 S now) ds).1.L.length ≤ 8000) :
    Does w 45 (caps B1 B2 B3 B4) lv S (goneSt dn S ds now).2 0 (goneSt dn S ds now).1 := by
  intro w1 X M1 hX hM hb H
  obtain ⟨da, dcap, rfl⟩ := hd.len
  obtain ⟨q1, q2, q3, q4⟩ := (hc.below hb).cells
  obtain ⟨c0, c1, c2, c3, c4, c5, c6, c7, c8, c9, c10, c11⟩ := H.cells
  rw [ht] at c5
  rw [hr] at c6
  rw [hn] at c8
  have hc0 := Lib.hid hc
  have hc := Lib.hid (hc.below hb)
  have hd1 := Lib.hid (hd.below hb (Nat.le_refl _))
  have hcall : Hid (∀ n, Calls Try.prog 46 #[.pointer (some ⟨X, 0, none⟩), .slice da ds.length dcap] (w1.drewN n) fun e w' => e = .returned (.bool false) ∧ Below w1.heap.size w1 w') := by
    intro n
    have hbn : Below w1.heap.size w1 (w1.drewN n) := pw_below_drewN (Below.refl _ _) n
    refine (hbad (w1.drewN n) X M1 lv _ (H.below hbn) (hd1.out.below hbn hb.size) hb.size).mono ?_
    rintro e w' ⟨rfl, hb2⟩
    exact ⟨rfl, below_step hbn hb2⟩
  have H := Lib.hid H
  have hN := Lib.hid hb.size
  have hX := Lib.hid hX
  have hM := Lib.hid hM
  have hlt := Lib.hid hlt
  have hdl := Lib.hid hdl
  have hdone := Lib.hid hdone
  have hone := Lib.hid hone
  have hlen := Lib.hid hlen
  clear c0 c1 c2 c3 c4 c7 c9 c10 c11 hd ht hr hn hb hbad
  show Calls Try.prog 45 #[.pointer (some ⟨X, 0, none⟩), .pointer (some ⟨B1, 0, none⟩), .pointer (some ⟨B2, 0, none⟩), .pointer (some ⟨B3, 0, none⟩), .pointer (some ⟨B4, 0, none⟩)] w1 _
  go_enter Try.func45, Try.ntmps45
  go_wp2_with (fail)
  go_quiet (fail)
  go_wp2_with (fail)
  refine Calls.mono (hcall.out _) ?_
  rintro e w2 ⟨rfl, hb2⟩
  have H2 := Lib.hid (FlowAt.below H hb2)
  have hc2 := Lib.hid (Caught.below hc hb2)
  have hd2 := Lib.hid (hd1.out.below hb2 hN.out)
  obtain ⟨q1, q2, q3, q4⟩ := hc2.out.cells
  have hN1 := hN
  have hN := Lib.hid (Nat.le_trans hN.out hb2.size)
  have hb2 := Lib.hid hb2
  have c9 : w2.cell? ⟨X, 9, none⟩ = some (.bool S.late) := H2.out.cell 9
  go_upto_region 5 with (fail)
  go_cut [41] (fun u wx => u = .bool false ∧ wx = w2)
  case first =>
    cases hl1 : S.late
    · rw [hl1] at c9
      go_wp2_with (fail)
      go_meet
      exact ⟨rfl, rfl⟩
    · rw [hl1] at c9
      have hl2 := Lib.hid hl1
      clear hl1
      rcases List.eq_nil_or_concat ds with h | ⟨l, d, h⟩
      · have hl0 : ds.length = 0 := by simp [h]
        rw [hl0] at q3
        clear h hl0
        go_wp2_with (fail)
        go_meet
        exact ⟨rfl, rfl⟩
      · have hk : ds.length = l.length + 1 := by simp [h]
        have hkd : ds[l.length]? = some d := by simp [h]
        have h5 : decide (5 ≤ d.kind) = false := by
          have := hlt.out
          simpa [lateBad, hl2.out, h] using this
        obtain ⟨A, off, cap, u, hv, _, d0, _⟩ := hd2.out.get hkd
        simp only [Value.slice.injEq] at hv
        obtain ⟨rfl, _, rfl⟩ := hv
        have hdl := hdl.out
        rw [hk] at q3 hdl
        clear h hkd hk
        generalize l.length = k at *
        generalize d.kind = dk at *
        go_wp2_with (fail)
        go_meet
        exact ⟨rfl, rfl⟩
  case rest =>
    obtain ⟨rfl, rfl⟩ := hcut
    have c7 : wc.cell? ⟨X, 7, none⟩ = some (.int .i64 S.begun) := H2.out.cell 7
    go_wp2_with (fail)
    go_still_tail 7, (by kernel_rfl)
    change wpList _ _ _ _ _ wc.drew
    have hwd : Below wc.heap.size wc wc.drew := below_drew (Below.refl _ _)
    have H3 := Lib.hid (FlowAt.below H2 hwd)
    have hb3 := Lib.hid (below_step hb2 hwd)
    have hc3 := Lib.hid (Caught.below hc2 hwd)
    have hd3 := Lib.hid (hd2.out.below hwd hN.out)
    have hN := Lib.hid (show w.heap.size ≤ wc.drew.heap.size from hN.out)
    clear hwd c7 c9 q1 q2 q3 q4 H2 hb2 hc2 hd2
    generalize wc.drew = w4 at *
    go_wp2_with (fail)
    refine (put_4 w4 X M1 lv S H3 (by omega) now S.begun 0 0 0 [] _ (Byt.none _)).mono ?_
    rintro e w5 ⟨lv5, rfl, H5, hm5⟩
    have hOwn : Hid (∀ b, Own X M1 b → w.heap.size ≤ b) := Lib.hid (own_ge hX.out hM.out)
    have hN1 : Hid (w.heap.size ≤ w1.heap.size) := hN1
    have hL5 : Hid (Loop w w1 w5 X M1 B1 B2 B3 B4 ref turn now (.slice da ds.length dcap) ds (runDs dn (decided1 S now) (ds.take 0)) lv5 (.slice none 0 0)) :=
      Lib.hid ⟨H5, OutRowB.nil _ _, (Mod.of_below hb3.out).trans hm5, hc3.out.mod hm5 hOwn.out hc0.out.lt, hd3.out.mod hm5 (FlowAt.noBytes H3) hN.out hOwn.out⟩
    have q3 := (hL5.out.caught).cells.2.2.1
    clear H3 hm5 hb3 hc3 hd3 hN H5
    go_wp2_with (fail)
    clear q3
    go_loopg [9, 78] ds.length (fun m out i wr => ∃ (k : Nat) (a : Option Addr) (n c : Nat) (lvk : Value), m = ds.length - k ∧ k ≤ ds.length ∧ i = .int .i64 k ∧ out = .slice a n c ∧ Hid (Loop w w1 wr X M1 B1 B2 B3 B4 ref turn now (.slice da ds.length dcap) ds (runDs dn (decided1 S now) (ds.take k)) lvk (.slice a n c)))
    case atStart => exact ⟨0, none, 0, 0, lv5, rfl, Nat.zero_le _, rfl, rfl, hL5⟩
    case round =>
      obtain ⟨k, a, n, c, lvk, rfl, hk, rfl, rfl, HL⟩ := hrel
      clear hL5
      by_cases hlt2 : k < ds.length
      · obtain ⟨d, hd⟩ : ∃ d, ds[k]? = some d := ⟨_, List.getElem?_eq_getElem hlt2⟩
        obtain ⟨A, off, cap, u, hv, hu, d0, d1, d2, d3, d4⟩ := HL.out.decs.get hd
        simp only [Value.slice.injEq] at hv
        obtain ⟨rfl, _, rfl⟩ := hv
        obtain ⟨ua, uc, rfl⟩ := hu.len
        have hdl1 := hdl.out
        have hu := Lib.hid hu
        have hstep := Lib.hid (runDs_step dn (decided1 S now) ds hd)
        have hdone1 := Lib.hid (hdone.out k d hd)
        have hfew := Lib.hid (Nat.le_trans (runDs_few dn hone.out (ds.take k) (decided1 S now)) (List.length_take_le _ _))
        have hone1 := Lib.hid (hone.out (runDs dn (decided1 S now) (ds.take k)).1 d)
        have hd := Lib.hid hd
        have g4 := HL.out.caught.cells.2.2.2
        have g4' : ∀ o, (wr.alloc o).cell? ⟨B4, 0, none⟩ = some (.int .i64 now) := fun o => Lib.cell?_alloc_some _ g4
        go_wp2_with (fail)
        have hba := below_alloc (Below.refl wr.heap.size wr) (.cells #[.int .i64 d.kind, .int .i64 d.id, .int .i64 d.list, .int .i64 d.n, .slice ua d.data.length uc] 24)
        have HF := FlowAt.below HL.out.flow hba
        have HO := Lib.hid (HL.out.outs.below hba)
        have HM := Lib.hid (Mod.trans HL.out.mod (Mod.of_below hba))
        have HC := Lib.hid (HL.out.caught.below hba)
        have HD := Lib.hid (HL.out.decs.below hba (Nat.le_trans hN1.out HL.out.mod.size))
        have hu := Lib.hid (Byt.below hu hba)
        refine (hdone1.out _ X M1 lvk _ HF hu).mono ?_
        have HF := Lib.hid HF
        clear hba g4 g4' d0 d1 d2 d3 d4 HL
        generalize wr.alloc (.cells #[.int .i64 d.kind, .int .i64 d.id, .int .i64 d.list, .int .i64 d.n, .slice ua d.data.length uc] 24) = wa at *
        rintro e w6 ⟨lv6, v6, rfl, ho6, H6, hm6⟩
        have hl6 := HM.out.size
        have HO6 := Lib.hid (HO.out.mod hm6 (FlowAt.noBytes HF) (FlowAt.noOuts HF))
        have HC6 := Lib.hid (HC.out.mod hm6 hOwn.out hc0.out.lt)
        have HD6 := Lib.hid (HD.out.mod hm6 (FlowAt.noBytes HF) (Nat.le_trans hN1.out hl6) hOwn.out)
        have HM6 := Lib.hid (Mod.trans HM.out hm6)
        have hN6 := Lib.hid (HM6.out.size)
        have H6 := Lib.hid H6
        obtain ⟨a6, c6', rfl⟩ := ho6.len
        have ho6 := Lib.hid ho6
        clear hl6 hm6 HO HC HD HM HF
        go_wp2_with (at_builtin; refine wpList_outs rfl _ _ rfl rfl rfl HO6.out ho6.out hN6.out (by have := hfew.out; have := hone1.out; have := hlt2; omega) ?_; intro a7 c7' w7 ho7 hm7)
        have hrow : ∀ b, OwnRow (.slice a6 (dn (runDs dn (decided1 S now) (ds.take k)).1 d).2.length c6') b → True := fun _ _ => trivial
        have hge : ∀ b, OwnRow (.slice a n c) b → w1.heap.size ≤ b := fun b hb => (HO6.out.at_ hb).1
        have HL7 : Loop w w1 w7 X M1 B1 B2 B3 B4 ref turn now (.slice (some ⟨A, off, none⟩) ds.length dcap) ds (runDs dn (decided1 S now) (ds.take (k + 1))) lv6 (.slice a7 ((runDs dn (decided1 S now) (ds.take k)).2 ++ (dn (runDs dn (decided1 S now) (ds.take k)).1 d).2).length c7') := by
          rw [hstep.out]
          exact ⟨FlowAt.other H6.out HO6.out hm7, ho7, Mod.fresh HM6.out hm7 hge, HC6.out.mod hm7 (fun b hb => Nat.le_trans hN1.out (hge b hb)) hc0.out.lt, HD6.out.mod hm7 HO6.out.noBytes (Nat.le_trans hN1.out hN6.out) (fun b hb => Nat.le_trans hN1.out (hge b hb))⟩
        clear hrow
        go_roundg (ds.length - (k + 1))
        case measure => omega
        case rel => exact ⟨k + 1, a7, _, c7', lv6, rfl, by omega, by go_num, rfl, Lib.hid (by have h := HL7; rw [List.length_append] at h; exact h)⟩
      · have hke : k = ds.length := by omega
        subst hke
        have ht := Lib.hid (List.take_length (l := ds))
        have hgo := Lib.hid (show goneSt dn S ds now = _ from rfl)
        have HL : Hid (Loop w w1 wr X M1 B1 B2 B3 B4 ref turn now (.slice da ds.length dcap) ds (runDs dn (decided1 S now) ds) lvk (.slice a n c)) := by
          have := HL.out
          rw [List.take_length] at this
          exact Lib.hid this
        have q4 := HL.out.caught.cells.2.2.2
        have hlt9 : ∃ b, S.late = b := ⟨_, rfl⟩
        obtain ⟨b, hb9⟩ := hlt9
        have hfew := Lib.hid (runDs_few dn hone.out ds (decided1 S now))
        cases b
        · have hgo2 : goneSt dn S ds now = runDs dn (decided1 S now) ds := by simp [goneSt, hb9]
          rw [hb9]
          have hb9 := Lib.hid hb9
          have hgo2 := Lib.hid hgo2
          go_wp2_with (fail)
          go_ret2
          try rw [hgo2.out]
          exact ⟨lvk, _, rfl, HL.out.outs.row, HL.out.flow, HL.out.mod⟩
        · rw [hb9]
          have hb9 := Lib.hid hb9
          go_wp2_with (fail)
          refine (fstatus wr X M1 lvk _ HL.out.flow).mono ?_
          rintro e w6 ⟨rfl, hb6⟩
          have HF6 := Lib.hid (FlowAt.below HL.out.flow hb6)
          have HO6 := Lib.hid (HL.out.outs.below hb6)
          have HM6 := Lib.hid (Mod.trans HL.out.mod (Mod.of_below hb6))
          have q4 := (HL.out.caught.below hb6).cells.2.2.2
          clear HL hb6
          cases hst : (statusOf (runDs dn (decided1 S now) ds).1.L == 1)
          · have hgo2 : goneSt dn S ds now = runDs dn (decided1 S now) ds := by simp [goneSt, hb9.out, hst]
            have hgo2 := Lib.hid hgo2
            go_wp2_with (fail)
            go_ret2
            try rw [hgo2.out]
            exact ⟨lvk, _, rfl, HO6.out.row, HF6.out, HM6.out⟩
          · have hgo2 : goneSt dn S ds now = (sched (runDs dn (decided1 S now) ds).1 now, (runDs dn (decided1 S now) ds).2 ++ [taskOut (runDs dn (decided1 S now) ds).1]) := by simp [goneSt, hb9.out, hst]
            have hgo2 := Lib.hid hgo2
            have hN6 := Lib.hid (HM6.out.size)
            go_wp2_with (fail)
            refine (schedule_any w6 X M1 lvk _ HF6 hlen.out now).mono ?_
            rintro e w7 ⟨lv7, v7, rfl, ho7, H7, hm7⟩
            have HO7 := Lib.hid (HO6.out.mod hm7 (FlowAt.noBytes HF6) (FlowAt.noOuts HF6))
            have HM7 := Lib.hid (Mod.trans HM6.out hm7)
            have hN7 := Lib.hid (HM7.out.size)
            have H7 := Lib.hid H7
            obtain ⟨a7, c7', rfl⟩ := ho7.len
            have ho7 := Lib.hid ho7
            clear hm7 HO6 HM6 HF6 hN6
            go_wp2_with (at_builtin; refine wpList_outs rfl _ _ rfl rfl rfl HO7.out ho7.out hN7.out (by have := hfew.out; have := hdl.out; simp; omega) ?_; intro a8 c8' w8 ho8 hm8)
            have hge : ∀ b, OwnRow (.slice a n c) b → w1.heap.size ≤ b := fun b hb => (HO7.out.at_ hb).1
            have HR : FlowAt w8 X M1 lv7 (sched (runDs dn (decided1 S now) ds).1 now) ∧ Mod (Own X M1) w1 w8 := ⟨FlowAt.other H7.out HO7.out hm8, Mod.fresh HM7.out hm8 hge⟩
            have HR := Lib.hid HR
            rw [List.length_append] at ho8
            have ho8 := Lib.hid ho8
            clear hge hm8
            go_wp2_with (fail)
            go_ret2
            try rw [hgo2.out]
            exact ⟨lv7, _, rfl, ho8.out.row, HR.out.1, HR.out.2⟩

end Go.Proofs.Ytedpeambmmhcnaa.Base

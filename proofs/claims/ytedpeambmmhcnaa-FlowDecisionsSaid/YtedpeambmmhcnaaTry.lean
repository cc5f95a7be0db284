/- A call on a run that is open: what the closure does, or nothing. Conditions: those at each theorem. -/
import Derived.Test.YtedpeambmmhcnaaSched
import Derived.Deep.CutBlock
set_option maxRecDepth 100000
namespace Go.Proofs.Ytedpeambmmhcnaa.Base
open Go.RowKit Go.Maps Go.Proofs.YtedpeambmmhcnaaW.PrintWords Go.Proofs.Ytedpeambmmhcnaa.Kit

/-- What a call leaves. -/
def Did (w : World) (F M : Nat) (os : List OutE) (err : Int) (S' : St) (e : Ending) (w' : World) : Prop :=
  ∃ M' lv' v', e = .returned (.tuple #[v', .int .i64 err]) ∧ OutRow w' v' os ∧ FlowAt w' F M' lv' S' ∧ Mod (Own F M) w w' ∧ (M' = M ∨ w.heap.size ≤ M')

/-- What the closure does to a twin. -/
def Does (w : World) (g : FuncId) (caps : Array Value) (lv : Value) (S : St) (os : List OutE) (err : Int) (S1 : St) : Prop :=
  ∀ w1 X M1, w.heap.size ≤ X → w.heap.size ≤ M1 → Below w.heap.size w w1 → FlowAt w1 X M1 lv S →
    Calls Try.prog g (#[.pointer (some ⟨X, 0, none⟩)] ++ caps) w1 fun e w2 => ∃ lv2 v2, e = .returned (.tuple #[v2, .int .i64 err]) ∧ OutRow w2 v2 os ∧ FlowAt w2 X M1 lv2 S1 ∧ Mod (Own X M1) w1 w2

set_option maxHeartbeats 4000000 in
theorem try_arg (w : World) (F M : Nat) (lv : Value) (S : St) (h : FlowAt w F M lv S) (v : Value) (bs : List Int) (hv : Byt w v bs) (now : Int) (f : Value) (hr : rightOf S.L bs.length now = false) :
    Calls Try.prog 40 #[.pointer (some ⟨F, 0, none⟩), v, .int .i64 now, f] w (Did w F M [] 1 S) := by
  have H := Lib.hid h
  have hv := Lib.hid hv
  clear h
  go_enter Try.func40, Try.ntmps40
  go_wp2_with (fail)
  refine (right_any w F M lv S H v bs hv now).mono ?_
  rintro e w2 ⟨rfl, hb⟩
  rw [hr]
  go_wp2_with (fail)
  go_ret2
  exact ⟨M, lv, _, rfl, OutRow.nil _, FlowAt.below H hb, Mod.of_below hb, Or.inl rfl⟩

set_option maxHeartbeats 4000000 in
theorem try_closed (w : World) (F M : Nat) (lv : Value) (S : St) (h : FlowAt w F M lv S) (v : Value) (bs : List Int) (hv : Byt w v bs) (now : Int) (f : Value) (hr : rightOf S.L bs.length now = true) (hs : (statusOf S.L == 1) = false) :
    Calls Try.prog 40 #[.pointer (some ⟨F, 0, none⟩), v, .int .i64 now, f] w (Did w F M [] 20 S) := by
  have H := Lib.hid h
  have hv := Lib.hid hv
  clear h
  go_enter Try.func40, Try.ntmps40
  go_wp2_with (fail)
  refine (right_any w F M lv S H v bs hv now).mono ?_
  rintro e w2 ⟨rfl, hb⟩
  rw [hr]
  have H2 := Lib.hid (FlowAt.below H hb)
  have hb := Lib.hid hb
  go_wp2_with (fail)
  refine (fstatus w2 F M lv S H2).mono ?_
  rintro e w3 ⟨rfl, hb3⟩
  go_wp2_with (fail)
  go_ret2
  exact ⟨M, lv, _, rfl, OutRow.nil _, FlowAt.below H2 hb3, Mod.of_below (below_step hb hb3), Or.inl rfl⟩

theorem try_end {w w5 w6 : World} {F M X M1 : Nat} {lv lv2 v2 : Value} {S S1 : St} {os : List OutE} (HF5 : FlowAt w5 F M lv S) (HX5 : FlowAt w5 X M1 lv2 S1) (hos : OutRow w5 v2 os) (hm : Mod (Own F M) w w5) (hm6 : Mod (fun k => k = F) w5 w6)
    (hblk : w6.heap[F]? = some (.cells (flowCells S1 lv2 M1) 75 (0, 0))) : OutRow w6 v2 os ∧ FlowAt w6 F M1 lv2 S1 ∧ Mod (Own F M) w w6 := by
  have n1 : NoBytes w5 (fun k => k = F) := fun k hk => HF5.noBytes k (Or.inl hk)
  have n2 : NoEvs w5 (fun k => k = F) := fun k hk => HF5.noEvs k (Or.inl hk)
  have n3 : NoOuts w5 (fun k => k = F) := fun k hk => HF5.noOuts k (Or.inl hk)
  have hne : M1 ≠ F := by
    intro e
    obtain ⟨es, clock, hb⟩ := HX5.map.blk
    rw [e, HF5.blk] at hb
    simp at hb
  exact ⟨hos.mod hm6 n1 n3, ⟨hblk, HX5.row.mod hm6 n1 n2, HX5.map.mod hm6 hne, HX5.few⟩, hm.trans (hm6.mono (fun k hk => Or.inl hk))⟩

/-- A run laid over another. -/
def laid (W : World) (F : Nat) (S1 : St) (lv1 : Value) (M1 : Nat) : World := (((((((((((W.setCell ⟨F, 0, none⟩ (.int .i64 S1.id)).setCell ⟨F, 1, none⟩ (.int .i64 S1.run)).setCell ⟨F, 2, none⟩ (.int .i64 S1.list)).setCell ⟨F, 3, none⟩ (.int .i64 S1.n)).setCell ⟨F, 4, none⟩ (lv1)).setCell ⟨F, 5, none⟩ (.int .i64 S1.task)).setCell ⟨F, 6, none⟩ (.int .i64 S1.time)).setCell ⟨F, 7, none⟩ (.int .i64 S1.begun)).setCell ⟨F, 8, none⟩ (.int .i64 S1.turn)).setCell ⟨F, 9, none⟩ (.bool S1.late)).setCell ⟨F, 10, none⟩ (.bool S1.asked)).setCell ⟨F, 11, none⟩ (.map (some M1))

theorem laid_blk {W : World} {F M : Nat} {S : St} {lv : Value} (h : W.heap[F]? = some (.cells (flowCells S lv M) 75 (0, 0))) (S1 : St) (lv1 : Value) (M1 : Nat) : (laid W F S1 lv1 M1).heap[F]? = some (.cells (flowCells S1 lv1 M1) 75 (0, 0)) := by
  unfold laid
  simpa [flowCells] using blk_set (blk_set (blk_set (blk_set (blk_set (blk_set (blk_set (blk_set (blk_set (blk_set (blk_set (blk_set h 0 _) 1 _) 2 _) 3 _) 4 _) 5 _) 6 _) 7 _) 8 _) 9 _) 10 _) 11 _

theorem laid_mod (W : World) (F : Nat) (S1 : St) (lv1 : Value) (M1 : Nat) : Mod (fun k => k = F) W (laid W F S1 lv1 M1) := by
  unfold laid
  exact (Mod.set (S := fun k => k = F) (Mod.set (S := fun k => k = F) (Mod.set (S := fun k => k = F) (Mod.set (S := fun k => k = F) (Mod.set (S := fun k => k = F) (Mod.set (S := fun k => k = F) (Mod.set (S := fun k => k = F) (Mod.set (S := fun k => k = F) (Mod.set (S := fun k => k = F) (Mod.set (S := fun k => k = F) (Mod.set (S := fun k => k = F) (Mod.set (S := fun k => k = F) (Mod.refl _ _) rfl _ _) rfl _ _) rfl _ _) rfl _ _) rfl _ _) rfl _ _) rfl _ _) rfl _ _) rfl _ _) rfl _ _) rfl _ _) rfl _ _)

set_option maxHeartbeats 8000000 in
theorem try_ok (w : World) (F M : Nat) (lv : Value) (S : St) (h : FlowAt w F M lv S) (v : Value) (bs : List Int) (hv : Byt w v bs) (now : Int) (g : FuncId) (caps : Array Value) (hcf : ∀ args w, (callFunc g args).run Try.prog w = .ok (.enter g args) w) (hr : rightOf S.L bs.length now = true) (hs : statusOf S.L = 1)
    (os : List OutE) (err : Int) (S1 : St) (hdo : Does w g caps lv S os err S1) (ho : err = 0 ∨ S1.L.length ≠ S.L.length) (hn : S1.L.length ≤ 4096) :
    Calls Try.prog 40 #[.pointer (some ⟨F, 0, none⟩), v, .int .i64 now, .func (.func g) #[] caps] w (Did w F M os err S1) := by
  have H := Lib.hid h
  have hv := Lib.hid hv
  have hdo := Lib.hid hdo
  have hs1 : (statusOf S.L == 1) = true := by simp [hs]
  clear h
  go_enter Try.func40, Try.ntmps40
  go_wp2_with (fail)
  refine (right_any w F M lv S H v bs hv now).mono ?_
  rintro e w2 ⟨rfl, hb⟩
  rw [hr]
  have H2 := Lib.hid (FlowAt.below H hb)
  have hb := Lib.hid hb
  go_wp2_with (fail)
  refine (fstatus w2 F M lv S H2).mono ?_
  rintro e w3 ⟨rfl, hb3⟩
  have H3 := Lib.hid (FlowAt.below H2 hb3)
  have hb3 := Lib.hid (below_step hb hb3)
  go_wp2_with (fail)
  refine (twin_any w3 F M lv S H3).mono ?_
  rintro e w4 ⟨X, M1, rfl, hX, hM1, HX, hb4⟩
  have H4 := Lib.hid (FlowAt.below H3 hb4)
  have hb4 := Lib.hid (below_step hb3 hb4)
  have hX := Lib.hid hX
  have hM1 := Lib.hid hM1
  have HX := Lib.hid HX
  go_wp2_with (fail)
  refine (hdo w4 X M1 (Nat.le_trans hb3.size hX) (Nat.le_trans hb3.size hM1) hb4 HX).mono ?_
  rintro e w5 ⟨lv2, v2, rfl, hos, HX5, hm5⟩
  have hne : F ≠ X := fun e => by
    have h1 : F < w3.heap.size := blk_lt (FlowAt.blk H3)
    have h2 : w3.heap.size ≤ X := hX
    omega
  have hneM : M ≠ M1 := fun e => by
    obtain ⟨es, clock, hb⟩ := (FlowAt.map H3).blk
    have h1 : M < w3.heap.size := (Array.getElem?_eq_some_iff.1 hb).1
    have h2 : w3.heap.size ≤ M1 := hM1
    omega
  have HF5 : FlowAt w5 F M lv S := FlowAt.apart H4 HX hm5 hne hneM
  have hb5 : Below w.heap.size w w5 := hm5.below hb4 (by
    intro k hk
    rcases hk with rfl | rfl
    · exact Nat.le_trans hb3.size hX
    · exact Nat.le_trans hb3.size hM1)
  have hb5 := Lib.hid hb5
  obtain ⟨xa, xcap, rfl⟩ := HX5.lv
  obtain ⟨a, cap, rfl⟩ := HF5.lv
  obtain ⟨c0, c1, c2, c3, c4, c5, c6, c7, c8, c9, c10, c11⟩ := HX5.cells
  have f4 := HF5.cl
  have hos := Lib.hid hos
  have HX5 := Lib.hid HX5
  have HF5 := Lib.hid HF5
  have hm5 := Lib.hid hm5
  have hne := Lib.hid hne
  have hneM := Lib.hid hneM
  have z := fun j => blk_frozen (FlowAt.blk HF5) j
  obtain ⟨d0, d1, d2, d3, d4, d5, d6, d7, d8, d9, d10, d11⟩ := FlowAt.cells HF5
  clear f4
  have hlen : (err != 0) = false ∨ ((err != 0) = true ∧ ((S1.L.length : Int) == (S.L.length : Int)) = false) := by
    rcases ho with h | h
    · exact Or.inl (by simp [h])
    · by_cases he : err = 0
      · exact Or.inl (by simp [he])
      · exact Or.inr ⟨by simp [he], by simp; omega⟩
  clear ho
  go_wp2_with (fail)
  go_cut [31] (fun u wx => u = .bool false ∧ ∃ n, wx = w5.drewN n)
  case first =>
    rcases hlen with he | ⟨he, hl⟩
    · go_quiet (fail)
      go_wp2_with (fail)
      go_meet
      exact ⟨rfl, _, rfl⟩
    · go_quiet (fail)
      go_wp2_with (fail)
      go_meet
      exact ⟨rfl, _, rfl⟩
  case rest =>
    obtain ⟨rfl, n, rfl⟩ := hcut
    have hgt : decide ((4096 : Int) < (S1.L.length : Int)) = false := by simp; omega
    go_wp2_with (fail)
    go_ret2
    have hm6 : Mod (fun k => k = F) w5 (laid (w5.drewN n) F S1 (.slice xa S1.L.length xcap) M1) := (Mod.drewN (Mod.refl _ _) n).trans (laid_mod _ _ _ _ _)
    have hblk : (laid (w5.drewN n) F S1 (.slice xa S1.L.length xcap) M1).heap[F]? = some (.cells (flowCells S1 (.slice xa S1.L.length xcap) M1) 75 (0, 0)) := laid_blk (W := w5.drewN n) (show w5.heap[F]? = _ from FlowAt.blk (show FlowAt w5 F M _ S from HF5)) S1 _ M1
    have hE := try_end HF5 HX5 hos (Mod.of_below (show Below w.heap.size w w5 from hb5)) hm6 hblk
    exact ⟨M1, _, _, rfl, hE.1, hE.2.1, hE.2.2, Or.inr (Nat.le_trans hb3.size hM1)⟩

end Go.Proofs.Ytedpeambmmhcnaa.Base

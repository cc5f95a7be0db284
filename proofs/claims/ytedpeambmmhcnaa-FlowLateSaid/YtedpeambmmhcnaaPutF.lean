/- An event of kind 16 is put. Conditions: those at each theorem. -/
import Derived.Test.YtedpeambmmhcnaaPutHead
import Derived.StillTailTactics
set_option maxRecDepth 100000
namespace Go.Proofs.Ytedpeambmmhcnaa.Base
open Go.RowKit Go.Maps Go.Proofs.YtedpeambmmhcnaaW.PrintWords Go.Proofs.Ytedpeambmmhcnaa.Kit

set_option maxHeartbeats 8000000 in
theorem put_16 (w : World) (F M : Nat) (lv : Value) (S : St) (h : FlowAt w F M lv S) (hL : S.L.length ≤ 8000) (ti rf id li nn : Int) (bs : List Int) (v : Value) (hv : Byt w v bs) (hrf : Base.W rf) :
    Calls Try.prog 38 #[.pointer (some ⟨F, 0, none⟩), .agg #[.int .i64 16, .int .i64 ti, .int .i64 rf, .int .i64 id, .int .i64 li, .int .i64 nn, v]] w fun e w' => ∃ lv', e = .returned (.int .i64 (S.L.length + 1)) ∧
      FlowAt w' F M lv' { S with L := S.L ++ [⟨16, ti, rf, id, li, nn, bs⟩], late := S.late || S.task == 2, asked := true, o := fun j => if j = rf then none else S.o j } ∧ Mod (Own F M) w w' := by
  refine put_head w F M lv S h hL 16 ti rf id li nn bs v hv _ ?_
  clear h hv
  intro X _ hne u1 u6 u7 u8 u9 u10 u11 u12 u13 u14 u15 u16 u17 u18 u19 u20 wc hcut r hr
  obtain ⟨ra, rb, rc, hr⟩ := hr
  simp only [Try.f38, Option.some.injEq, Code.seq.injEq] at hr
  obtain ⟨_, _, _, rfl⟩ := hr
  obtain ⟨g, cap, v9, hF, hrow, hmap, hbox, hmod⟩ := hcut
  have q0 : wc.cell? ⟨X, 0, none⟩ = some (.int .i64 16) := blk_cell hbox 0
  have q2 : wc.cell? ⟨X, 2, none⟩ = some (.int .i64 rf) := blk_cell hbox 2
  have q3 : wc.cell? ⟨X, 3, none⟩ = some (.int .i64 id) := blk_cell hbox 3
  have q4 : wc.cell? ⟨X, 4, none⟩ = some (.int .i64 li) := blk_cell hbox 4
  have q5 : wc.cell? ⟨X, 5, none⟩ = some (.int .i64 nn) := blk_cell hbox 5
  have x2 : wc.cell? ⟨F, 2, none⟩ = some (.int .i64 S.list) := blk_cell hF 2
  have x3 : wc.cell? ⟨F, 3, none⟩ = some (.int .i64 S.n) := blk_cell hF 3
  have x4 : wc.cell? ⟨F, 4, none⟩ = some (.slice (some ⟨g, 0, none⟩) (S.L.length + 1) cap) := blk_cell hF 4
  have x5 : wc.cell? ⟨F, 5, none⟩ = some (.int .i64 S.task) := blk_cell hF 5
  have x6 : wc.cell? ⟨F, 6, none⟩ = some (.int .i64 S.time) := blk_cell hF 6
  have x7 : wc.cell? ⟨F, 7, none⟩ = some (.int .i64 S.begun) := blk_cell hF 7
  have x8 : wc.cell? ⟨F, 8, none⟩ = some (.int .i64 S.turn) := blk_cell hF 8
  have x9 : wc.cell? ⟨F, 9, none⟩ = some (.bool S.late) := blk_cell hF 9
  have x10 : wc.cell? ⟨F, 10, none⟩ = some (.bool S.asked) := blk_cell hF 10
  have x11 : wc.cell? ⟨F, 11, none⟩ = some (.map (some M)) := blk_cell hF 11
  have z2 := blk_frozen hF 2
  have z3 := blk_frozen hF 3
  have z5 := blk_frozen hF 5
  have z6 := blk_frozen hF 6
  have z7 := blk_frozen hF 7
  have z8 := blk_frozen hF 8
  have z9 := blk_frozen hF 9
  have z10 := blk_frozen hF 10
  have hF := Lib.hid hF
  have hrow := Lib.hid hrow
  have hmap := Lib.hid hmap
  have hbox := Lib.hid hbox
  have hmod := Lib.hid hmod
  have hMF : F ≠ M := by
    intro e
    obtain ⟨es, clock, hb⟩ := (show Omap wc M _ S.o from hmap).blk
    rw [← e, (show _ from hF)] at hb
    simp at hb
  have hFM := Lib.hid (fun e : M = F => hMF e.symm)
  have hMF := Lib.hid hMF
  have kA := blk_set (show _ from hF) 10 (.bool true)
  have mA : Omap (wc.setCell ⟨F, 10, none⟩ (.bool true)) M _ S.o := Omap.mod hmap (Mod.set (S := fun k => k = F) (Mod.refl _ _) rfl _ _) hFM.out
  have mA := Lib.hid mA
  have hA : Mod (Own F M) wc (wc.setCell ⟨F, 10, none⟩ (.bool true)) := Mod.set (S := Own F M) (Mod.refl _ _) (Or.inl rfl) _ _
  have a2 : (wc.setCell ⟨F, 10, none⟩ (.bool true)).cell? ⟨X, 2, none⟩ = some (.int .i64 rf) := by
    have hx : (wc.setCell ⟨F, 10, none⟩ (.bool true)).heap[X]? = wc.heap[X]? := Below.heap_setCell _ _ _ _ hne.symm
    exact blk_cell (hx.trans hbox.out) 2
  have a11 : (wc.setCell ⟨F, 10, none⟩ (.bool true)).cell? ⟨F, 11, none⟩ = some (.map (some M)) := blk_cell kA 11
  have kA := Lib.hid kA
  have hA := Lib.hid hA
  go_wp2_with (fail)
  generalize wc.setCell ⟨F, 10, none⟩ (.bool true) = wA at *
  go_still_tail 6, (by kernel_rfl)
  change wpList _ _ _ _ _ wA.drew
  refine wpList_odel rfl _ _ rfl (show Omap wA.drew M _ S.o from mA) rf hrf rfl rfl ?_
  intro w1 hmap1 hm1
  have k1 := (hm1.block F (blk_lt kA.out) hMF.out).trans kA.out
  have y5 : w1.cell? ⟨F, 5, none⟩ = some (.int .i64 S.task) := blk_cell k1 5
  have y9 : w1.cell? ⟨F, 9, none⟩ = some (.bool S.late) := blk_cell k1 9
  have v9' := blk_frozen k1 9
  have k1 := Lib.hid k1
  have hmap1 := Lib.hid hmap1
  have hm1 := Lib.hid hm1
  clear x2 x3 x4 x5 x6 x7 x8 x9 x10 x11 z2 z3 z5 z6 z7 z8 z9 z10 q0 q2 q3 q4 q5
  cases hlt : S.late <;> cases htk : (S.task == 2)
  all_goals
    rw [hlt] at y9
    go_wp2_with (fail)
    go_ret
    exact ⟨_, rfl, mid_end2 (show _ from hF) ⟨_, _, _, rfl⟩ hrow hmap (Omap.mod hmap1.out (Mod.set (S := fun k => k = F) (Mod.refl _ _) rfl _ _) hFM.out) hmod (Mod.set (S := Own F M) (Mod.trans hA.out (Mod.mono (Mod.trans (Mod.drew (Mod.refl _ _)) hm1.out) (fun k hk => Or.inr hk))) (Or.inl rfl) _ _)
      (by simpa [flowCells, hlt, htk] using (blk_set k1.out 9 _)) rfl (by simp) (by simp; omega) rfl⟩

end Go.Proofs.Ytedpeambmmhcnaa.Base

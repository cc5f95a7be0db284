/- What stands behind an event that is put. Conditions: those at each theorem. -/
import Derived.Test.YtedpeambmmhcnaaPutHead
set_option maxRecDepth 100000
namespace Go.Proofs.Ytedpeambmmhcnaa.Base
open Go.RowKit Go.Maps Go.Proofs.YtedpeambmmhcnaaW.PrintWords Go.Proofs.Ytedpeambmmhcnaa.Kit

theorem mid_end2 {w0 wc w' : World} {F M n : Nat} {S S' : St} {lv : Value} {L' : List Ev} {o' : Int → Option Opn} (hF : wc.heap[F]? = some (.cells (flowCells S lv M) 75 (0, 0))) (hlv : ∃ a n cap, lv = .slice a n cap) (hrow : EvRow wc lv L')
    (hmap0 : Omap wc M n S.o) (hmap : Omap w' M n o') (hmod : Mod (Own F M) w0 wc) (hm : Mod (Own F M) wc w') (hblk : w'.heap[F]? = some (.cells (flowCells S' lv M) 75 (0, 0))) (hL : S'.L = L') (hLn : n ≤ L'.length) (hfew : L'.length ≤ 8192) (ho : S'.o = o') :
    FlowAt w' F M lv S' ∧ Mod (Own F M) w0 w' := by
  subst hL ho
  refine ⟨⟨hblk, hrow.mod hm ?_ ?_, hmap.mono hLn, hfew⟩, hmod.trans hm⟩
  · intro k hk i q hc
    rcases hk with rfl | rfl
    · obtain ⟨a, n, cap, rfl⟩ := hlv
      rw [blk_cell hF i] at hc
      unfold flowCells at hc
      rcases i with _|_|_|_|_|_|_|_|_|_|_|_|i <;> simp at hc
    · obtain ⟨es, clock, hb⟩ := hmap0.blk
      unfold World.cell? at hc
      rw [hb] at hc
      simp at hc
  · intro k hk cur hc
    rcases hk with rfl | rfl
    · rw [hF] at hc; simp at hc
    · obtain ⟨es, clock, hb⟩ := hmap0.blk
      rw [hb] at hc; simp at hc

theorem mid_end {w0 wc w' : World} {F M n : Nat} {S S' : St} {lv : Value} {L' : List Ev} (hF : wc.heap[F]? = some (.cells (flowCells S lv M) 75 (0, 0))) (hlv : ∃ a n cap, lv = .slice a n cap) (hrow : EvRow wc lv L')
    (hmap : Omap wc M n S.o) (hmod : Mod (Own F M) w0 wc) (hm : Mod (fun k => k = F) wc w') (hblk : w'.heap[F]? = some (.cells (flowCells S' lv M) 75 (0, 0))) (hL : S'.L = L') (hLn : n ≤ L'.length) (hfew : L'.length ≤ 8192) (ho : S'.o = S.o) :
    FlowAt w' F M lv S' ∧ Mod (Own F M) w0 w' := by
  have hne : M ≠ F := by
    intro e
    obtain ⟨es, clock, hb⟩ := hmap.blk
    rw [e, hF] at hb
    simp at hb
  exact mid_end2 hF hlv hrow hmap (hmap.mod hm hne) hmod (hm.mono (fun k hk => Or.inl hk)) hblk hL hLn hfew ho

theorem run_clear {w : World} {M : Nat} {es : Array MapEntry} {clock : Nat} (hb : w.heap[M]? = some (.map es clock)) (ty : TypeId) :
    (Builtin.clear_ #[73] ty #[.map (some M)]).run Try.prog w = .ok (.tuple #[]) (ChangeMaps.setBlock w M (.map #[] clock)) := by
  simp [Builtin.clear_, run_underlying u73, MapKept.run_getObj_map hb, MapKept.run_setObj_map _ hb, Result.andThen, ChangeMaps.setBlock]

theorem omap_cleared {w : World} {M : Nat} {es : Array MapEntry} {clock : Nat} (hb : w.heap[M]? = some (.map es clock)) : Omap (ChangeMaps.setBlock w M (.map #[] clock)) M 0 (fun _ => none) :=
  ⟨.map [], ⟨#[], clock, ChangeMaps.heap_setBlock_same hb _, ⟨by simp, MapKept.stamped_empty clock, by simp⟩, Nat.le_refl _, rfl⟩, View.empty⟩

theorem mod_setBlock {S : Nat → Prop} {w w' : World} (h : Mod S w w') {g : Nat} (hg : S g) {es : Array MapEntry} {clock : Nat} (hb : w'.heap[g]? = some (.map es clock)) (o : Obj) : Mod S w (ChangeMaps.setBlock w' g o) :=
  ⟨h.os, h.tape, h.output, by simpa [ChangeMaps.setBlock] using h.size, fun k hk hn => (ChangeMaps.heap_setBlock_other hb o (fun e => hn (by rw [e]; exact hg))).trans (h.block k hk hn)⟩

end Go.Proofs.Ytedpeambmmhcnaa.Base

/- An event is put: the run is what it says. Conditions: those at each theorem. -/
import Derived.Test.YtedpeambmmhcnaaCore
import Derived.Deep.RegionLawGrows
import Derived.Deep.AppendLies
import Derived.Deep.CutRange
import Derived.Deep.DeepCutAuto
set_option maxRecDepth 100000
namespace Go.Proofs.Ytedpeambmmhcnaa.Base
open Go.RowKit Go.Maps Go.Proofs.YtedpeambmmhcnaaW.PrintWords Go.Proofs.Ytedpeambmmhcnaa.Kit

set_option maxHeartbeats 2000000 in
theorem clip_any (w : World) (a : Option Addr) (n cap : Nat) (hc : n ≤ cap) :
    Calls Try.prog 79 #[.slice a n cap] w fun e w' => e = .returned (.slice a n n) ∧ w' = w := by
  go_enter Try.func79, Try.ntmps79
  go_wp2_with (fail)
  go_ret
  exact ⟨rfl, rfl⟩

theorem EvRow.form {w : World} {v : Value} {L : List Ev} (h : EvRow w v L) : ∃ (a : Option Addr) (cap : Nat) (vs : List Value), v = .slice a L.length cap ∧ L.length ≤ cap ∧ (a = none → L.length = 0 ∧ L.length = 0) ∧ vs.length = L.length ∧
    (∀ (i : Nat) (e : Ev) (u : Value), L[i]? = some e → vs[i]? = some u → Byt w u e.data) ∧ (∀ b, a = some b → b.block < w.heap.size ∧ ∀ (w' : World), w'.heap[b.block]? = w.heap[b.block]? → ∀ (j : Nat) (u : Value), (rowOf L vs)[j]? = some u → w'.cell? (b.add j) = some u) := by
  obtain ⟨vs, hl, h, hb⟩ := h
  rcases h.2 with ⟨rfl, h0⟩ | ⟨g, cap, cur, rfl, h1, hg, h2, h3⟩
  · exact ⟨none, 0, vs, by rw [h0], by omega, fun _ => ⟨h0, h0⟩, hl, hb, fun b hb => by cases hb⟩
  · refine ⟨some ⟨g, 0, none⟩, cap, vs, rfl, h2, (fun e => by cases e), hl, hb, fun b hb => ?_⟩
    cases hb
    refine ⟨(Array.getElem?_eq_some_iff.1 hg).1, fun w' he j u hu => ?_⟩
    have := h.cells (g := g) rfl j u hu
    rw [World.cell?_of_block (a := (⟨g, 0, none⟩ : Addr).add j) (w := w) (by rw [Addr.add_lit]; exact he)]
    exact this

theorem EvRow.push {w' : World} {L : List Ev} {vs : List Value} {v v' : Value} {e : Ev} (hl : vs.length = L.length) (hb : ∀ (i : Nat) (x : Ev) (u : Value), L[i]? = some x → vs[i]? = some u → Byt w' u x.data) (hv : Byt w' v e.data)
    {base : Nat} (h : w'.ownsRow base 79 7 v' (L.length + 1) (rowOf L vs ++ evCells e v)) : EvRow w' v' (L ++ [e]) := by
  refine ⟨vs ++ [v], by simp [hl], ?_, ?_⟩
  · rw [rowOf_snoc e v L vs hl]
    have hlen : (L ++ [e]).length = L.length + 1 := by simp
    rw [hlen]
    refine ⟨h.1, ?_⟩
    rcases h.2 with h0 | ⟨g, cap, cur, hv, h1, hr⟩
    · exact .inl h0
    · exact .inr ⟨g, cap, cur, hv, Nat.zero_le _, hr⟩
  · intro i x u hx hu
    by_cases hi : i < L.length
    · rw [List.getElem?_append_left hi] at hx
      rw [List.getElem?_append_left (by omega)] at hu
      exact hb i x u hx hu
    · have : i = L.length := by
        have := (List.getElem?_eq_some_iff.1 hx).1
        simp at this
        omega
      subst this
      simp at hx
      rw [← hl] at hu
      simp at hu
      rw [← hx, ← hu]
      exact hv

theorem set_below {w w1 : World} {X : Nat} (hX : w.heap.size = X) (h : Below X w w1) (j : Nat) (v : Value) : Below w.heap.size w (w1.setCell ⟨X, j, none⟩ v) := by
  subst hX
  exact below_set h (Nat.le_refl _)

/-- A run with an event more, the rest as it was: what stands behind the append. -/
def Mid (w0 : World) (F M X : Nat) (S : St) (e : Ev) (wx : World) : Prop :=
  ∃ g cap v', wx.heap[F]? = some (.cells (flowCells S (.slice (some ⟨g, 0, none⟩) (S.L.length + 1) cap) M) 75 (0, 0)) ∧ EvRow wx (.slice (some ⟨g, 0, none⟩) (S.L.length + 1) cap) (S.L ++ [e]) ∧ Omap wx M S.L.length S.o ∧
    wx.heap[X]? = some (.cells (evCells e v').toArray 79 (0, 0)) ∧ Mod (Own F M) w0 wx

theorem mid_of {w0 W w2 : World} {F M X : Nat} {S : St} {e : Ev} {lv v' : Value} {vs : List Value} {g cap base : Nat} {o : Obj} (HW : FlowAt W F M lv S) (hl : vs.length = S.L.length)
    (hb : ∀ (i : Nat) (x : Ev) (u : Value), S.L[i]? = some x → vs[i]? = some u → Byt W u x.data) (hv : Byt W v' e.data) (hX : W.heap[X]? = some (.cells (evCells e v').toArray 79 (0, 0))) (hne : F ≠ X)
    (hm : Mod (fun _ => False) w0 W) (hgrow : (W.alloc o).drew.grownBy w2 none) (hown : w2.ownsRow base 79 7 (.slice (some ⟨g, 0, none⟩) (S.L.length + 1) cap) (S.L.length + 1) (rowOf S.L vs ++ evCells e v')) :
    Mid w0 F M X S e (w2.setCell ⟨F, 4, none⟩ (.slice (some ⟨g, 0, none⟩) (S.L.length + 1) cap)) := by
  have hbW : Below W.heap.size W w2 := by
    have h1 : Below W.heap.size W (W.alloc o).drew := below_drew (below_alloc (Below.refl _ _) o)
    exact grown_below h1 hgrow (fun k hk => by cases hk)
  have H2 := HW.below hbW
  have hmF : Mod (Own F M) w2 (w2.setCell ⟨F, 4, none⟩ (.slice (some ⟨g, 0, none⟩) (S.L.length + 1) cap)) := Mod.set (S := Own F M) (Mod.refl _ _) (Or.inl rfl) _ _
  have hmF1 : Mod (fun k => k = F) w2 (w2.setCell ⟨F, 4, none⟩ (.slice (some ⟨g, 0, none⟩) (S.L.length + 1) cap)) := Mod.set (S := fun k => k = F) (Mod.refl _ _) rfl _ _
  have hrow : EvRow w2 (.slice (some ⟨g, 0, none⟩) (S.L.length + 1) cap) (S.L ++ [e]) := EvRow.push hl (fun i x u hx hu => (hb i x u hx hu).below hbW) (hv.below hbW) hown
  refine ⟨g, cap, v', blk_set H2.blk 4 _, hrow.mod hmF H2.noBytes H2.noEvs, H2.map.mod hmF1 (fun h => H2.ne h.symm), ?_, ?_⟩
  · exact hmF1.blk (blk_below hX hbW) (fun h => hne h.symm)
  · exact ((hm.mono (fun k hk => hk.elim)).trans (Mod.of_below hbW)).trans hmF

set_option maxHeartbeats 8000000 in
theorem put_head (w : World) (F M : Nat) (lv : Value) (S : St) (h : FlowAt w F M lv S) (hL : S.L.length ≤ 8000) (kd ti rf id li nn : Int) (bs : List Int) (v : Value) (hv : Byt w v bs) (Post : Ending → World → Prop)
    (tail : Hid (∀ X, w.heap.size ≤ X → F ≠ X → ∀ (u1 u6 u7 u8 u9 u10 u11 u12 u13 u14 u15 u16 u17 u18 u19 u20 : Value) (wc : World), Mid w F M X S ⟨kd, ti, rf, id, li, nn, bs⟩ wc →
      ∀ r, (∃ a b c, Try.f38.body = some (.seq a (.seq b (.seq c r)))) → Code.wp Try.prog r (bodyPost Try.prog Try.f38 Post) { tmps := #[.pointer (some ⟨F, 0, none⟩), u1, undef, .pointer (some ⟨X, 0, none⟩), .int .i64 0, undef, u6, u7, u8, u9, u10, u11, u12, u13, u14, u15, u16, u17, u18, u19, u20, undef, undef, undef, undef, undef, undef, undef, undef, undef, undef, undef, undef, undef, undef, undef, undef, undef, undef, undef, undef, undef, undef, undef, undef, undef, undef, undef, undef, undef, undef, undef, undef, undef, undef, undef, undef, undef, undef, undef, undef, undef, undef, undef, undef, undef, undef, undef, undef, undef, undef, undef, undef, undef, undef, undef, undef, undef, undef, undef, undef, undef, undef, undef, undef, undef, undef, undef, undef, undef, undef, undef, undef, undef, undef, undef, undef, undef, undef, undef, undef, undef, undef, undef, undef, undef, undef, undef, undef, undef, undef, undef, undef, undef, undef, undef, undef, undef, undef, undef, undef, undef, undef, undef, undef, undef, undef, undef, undef, undef, undef, undef, undef, undef, undef, undef, undef, undef, undef, undef, undef, undef, undef, undef, undef, undef, undef, undef, undef, undef, undef, undef, undef, undef, undef, undef, undef, undef, undef, undef, undef, undef, undef, undef, undef, undef, undef, undef, undef, undef, undef, undef, undef, undef, undef, undef, undef, undef, undef, undef, undef, undef, undef, undef, undef, undef, undef, undef, undef, undef, undef, undef], defers := [] } wc)) :
    Calls Try.prog 38 #[.pointer (some ⟨F, 0, none⟩), .agg #[.int .i64 kd, .int .i64 ti, .int .i64 rf, .int .i64 id, .int .i64 li, .int .i64 nn, v]] w Post := by
  obtain ⟨i0, hi, hz0, hz1, hz2⟩ := info_parts info79
  obtain ⟨va, vcap, rfl⟩ := hv.len
  have H := Lib.hid h
  have hFlt := Lib.hid (blk_lt h.blk)
  have hu := Try.underlying79
  have kb := Lib.hid (blk_new w (.cells (evCells ⟨kd, ti, rf, id, li, nn, bs⟩ (.slice va bs.length vcap)).toArray 79))
  have hB := Lib.hid (below_alloc (Below.refl w.heap.size w) (.cells (evCells ⟨kd, ti, rf, id, li, nn, bs⟩ (.slice va bs.length vcap)).toArray 79))
  have hv2 := Lib.hid (hv.below (below_alloc (Below.refl w.heap.size w) (.cells (evCells ⟨kd, ti, rf, id, li, nn, bs⟩ (.slice va bs.length vcap)).toArray 79)))
  clear h hv
  go_enter Try.func38, Try.ntmps38
  go_wp2_with (fail)
  refine (clone_any _ _ _ hv2).mono ?_
  rintro e w1 ⟨v', rfl, hv1, hb1⟩
  have hB1 := Lib.hid (below_step (show Below _ w _ from hB) hb1)
  have k1 := blk_below (show _ from kb) hb1
  have hX : w.heap.size ≤ w.heap.size := Nat.le_refl _
  have hv3 := Lib.hid hv1
  have hlt : w.heap.size < w1.heap.size := Nat.lt_of_lt_of_le (by simp) hb1.size
  clear hb1 kb hB hv2 hv1
  obtain ⟨va', vcap', rfl⟩ := Byt.len hv3
  generalize hXe : w.heap.size = X at *
  have b6 := blk_cell k1 6
  have f6 := blk_frozen k1 6
  have k1 := Lib.hid k1
  go_wp2_with (fail)
  have k6 := blk_set (show _ from k1) 6 (.slice va' bs.length vcap')
  have hne : F ≠ X := Nat.ne_of_lt hFlt
  have HW : FlowAt (w1.setCell ⟨X, 6, none⟩ (.slice va' bs.length vcap')) F M lv S := FlowAt.below H (set_below hXe hB1 _ _)
  have hv4 : Byt (w1.setCell ⟨X, 6, none⟩ (.slice va' bs.length vcap')) (.slice va' bs.length vcap') bs := by
    refine Byt.mod (S := fun k => k = X) hv3 (Mod.set (S := fun k => k = X) (Mod.refl _ _) rfl _ _) ?_
    intro k hk i q hc
    subst hk
    rw [blk_cell (show _ from k1) i] at hc
    simp [evCells] at hc
    rcases i with _|_|_|_|_|_|_|i <;> simp at hc
  have hX6 : X < (w1.setCell ⟨X, 6, none⟩ (.slice va' bs.length vcap')).heap.size := by simpa using hlt
  have hB6 : Mod (fun _ => False) w (w1.setCell ⟨X, 6, none⟩ (.slice va' bs.length vcap')) := Mod.of_below (set_below hXe hB1 _ _)
  clear b6 f6 k1 hv3 hB1 hlt H
  generalize w1.setCell ⟨X, 6, none⟩ (.slice va' bs.length vcap') = W at *
  obtain ⟨la, lcap, vs, rfl, hcap, hnone, hvl, hvb, hcells⟩ := HW.row.form
  have c4 := HW.cl
  have c4' : ∀ o, (W.alloc o).cell? ⟨F, 4, none⟩ = some (.slice la S.L.length lcap) := fun o => Lib.cell?_alloc_some _ c4
  have HW := Lib.hid HW
  have hvb := Lib.hid hvb
  have hcells := Lib.hid hcells
  have hlo : (rowOf S.L vs).length = S.L.length * 7 := rowOf_len _ _ hvl
  have b0 : W.cell? ⟨X, 0, none⟩ = some (.int .i64 kd) := blk_cell k6 0
  have b1 : W.cell? ⟨X, 1, none⟩ = some (.int .i64 ti) := blk_cell k6 1
  have b2 : W.cell? ⟨X, 2, none⟩ = some (.int .i64 rf) := blk_cell k6 2
  have b3 : W.cell? ⟨X, 3, none⟩ = some (.int .i64 id) := blk_cell k6 3
  have b4 : W.cell? ⟨X, 4, none⟩ = some (.int .i64 li) := blk_cell k6 4
  have b5 : W.cell? ⟨X, 5, none⟩ = some (.int .i64 nn) := blk_cell k6 5
  have b6 : W.cell? ⟨X, 6, none⟩ = some (.slice va' bs.length vcap') := blk_cell k6 6
  have hv4 := Lib.hid hv4
  have k6 := Lib.hid k6
  have hB6 := Lib.hid hB6
  have hq := u66
  have HA : Hid (∀ b, la = some b → ∀ (j : Nat) (u : Value), (rowOf S.L vs)[j]? = some u → (W.alloc (.cells #[.int .i64 kd, .int .i64 ti, .int .i64 rf, .int .i64 id, .int .i64 li, .int .i64 nn, .slice va' bs.length vcap'] 79)).drew.cell? (b.add j) = some u) := by
    intro b hb
    exact ((show _ from hcells) b hb).2 _ (Below.heap_alloc W _ _ ((show _ from hcells) b hb).1)
  have HN : Hid (∀ (j : Nat) (u : Value), (evCells ⟨kd, ti, rf, id, li, nn, bs⟩ (.slice va' bs.length vcap'))[j]? = some u → (W.alloc (.cells #[.int .i64 kd, .int .i64 ti, .int .i64 rf, .int .i64 id, .int .i64 li, .int .i64 nn, .slice va' bs.length vcap'] 79)).drew.cell? ((⟨W.heap.size, 0, none⟩ : Addr).add j) = some u) := by
    intro j u hu
    rw [Addr.add_lit, Nat.zero_add]
    show (W.alloc _).cell? _ = _
    rw [blk_cell (blk_new W _) j]
    simpa [evCells] using hu
  have H1 : Hid (∀ u ∈ evCells ⟨kd, ti, rf, id, li, nn, bs⟩ (.slice va' bs.length vcap'), u.oneCell' = true) := by
    intro u hu
    simp only [evCells, List.mem_cons, List.not_mem_nil, or_false] at hu
    rcases hu with rfl | rfl | rfl | rfl | rfl | rfl | rfl <;> rfl
  have hm1 : S.L.length + 1 ≤ maxLen := by unfold maxLen; omega
  have hm2 : (S.L.length + 1) * 72 ≤ 140737488355328 := by omega
  have hFW := Lib.hid (blk_lt HW.out.blk)
  have hFb := Lib.hid HW.out.blk
  have hvl := Lib.hid hvl
  have hne := Lib.hid hne
  go_cut [] from 10 to 20 (fun wx => Mid w F M X S ⟨kd, ti, rf, id, li, nn, bs⟩ wx)
  case first =>
    go_region_law (first
      | (go_simp; go_at_call 79; refine (clip_any _ _ _ _ hcap).mono ?_; rintro e1 w2 ⟨rfl, rfl⟩)
      | (refine step_append_grows rfl (.tmp 15) (.tmp 17) 66 rfl 79 i0 _ 7 72 u66 hi hz0 hz1 hz2 rfl (by decide) la S.L.length S.L.length (rowOf S.L vs) (by simp [Act.eval]) hnone hlo HA ⟨W.heap.size, 0, none⟩ 1 1 (evCells ⟨kd, ti, rf, id, li, nn, bs⟩ (.slice va' bs.length vcap')) (by simp [Act.eval]) rfl HN H1 (by omega) hm1 hm2 ?_
         intro lv2 w2 hown hgrow
         obtain ⟨g, cap2, hlv2, hg1, hg2⟩ := hown.form (by omega)
         subst hlv2
         have kF := (hgrow.block F (by simpa using Nat.lt_succ_of_lt hFW) (by simp)).trans ((Below.heap_alloc W _ F hFW).trans hFb)
         have c42 : w2.cell? ⟨F, 4, none⟩ = some (.slice la S.L.length lcap) := blk_cell kF 4
         have f42 := blk_frozen kF 4
         have hmid := Lib.hid (mid_of (e := ⟨kd, ti, rf, id, li, nn, bs⟩) HW hvl hvb hv4 k6 hne hB6 hgrow hown)
         clear kF hown hgrow))
    all_goals (go_wp2_with (fail); go_meet; exact hmid)
  case rest =>
    rename (∀ (a : Act) (w : World), Code.wp Try.prog _ _ a w → _) => aK
    refine aK _ _ ?_
    exact (show _ from tail) X (Nat.le_refl _) hne _ _ _ _ _ _ _ _ _ _ _ _ _ _ _ _ wc hcut _ ⟨_, _, _, rfl⟩

end Go.Proofs.Ytedpeambmmhcnaa.Base

/- What stands behind an event that is put. Conditions: those at each theorem. -/
namespace Go.Proofs.Ytedpeambmmhcnaa.Base
open Go.RowKit Go.Maps Go.Proofs.YtedpeambmmhcnaaW.PrintWords Go.Proofs.Ytedpeambmmhcnaa.Kit

theorem mid_end2 {w0 wc w' : World} {F M n : Nat} {S S' : St} {lv : Value} {L' : List Ev} {o' : Int → Option Opn} (hF : wc.heap[F]? = some (.cells (flowCells S lv M) 75 (0, 0))) (hlv : ∃ a n cap, lv = .slice a n cap) (hrow : EvRow wc lv L')
    (hmap0 : Omap wc M n S.o) (hmap : Omap w' M n o') (hmod : Mod (Own F M) w0 wc) (hm : Mod (Own F M) wc w') (hblk : w'.heap[F]? = some (.cells (flowCells S' lv M) 75 (0, 0))) (hL : S'.L = L') (hLn : n ≤ L'.length) (hfew : L'.length ≤ 8192) (ho : S'.o = o') :
    FlowAt w' F M lv S' ∧ Mod (Own F M) w0 w' := by
  subst hL ho
  refine ⟨⟨hblk, hrow.mod hm ?_ ?_, hmap.mono hLn, hfew⟩, hmod.trans hm⟩
  · intro k hk i q hc
    rcases hk with rfl | rfl
    · obtain ⟨a, n, cap, rfl⟩ := hlv
      rw [blk_cell hF i] at hc
      unfold flowCells at hc
      rcases i with _|_|_|_|_|_|_|_|_|_|_|_|i <;> simp at hc
    · obtain ⟨es, clock, hb⟩ := hmap0.blk
      unfold World.cell? at hc
      rw [hb] at hc
      simp at hc
  · intro k hk cur hc
    rcases hk with rfl | rfl
    · rw [hF] at hc; simp at hc
    · obtain ⟨es, clock, hb⟩ := hmap0.blk
      rw [hb] at hc; simp at hc

theorem mid_end {w0 wc w' : World} {F M n : Nat} {S S' : St} {lv : Value} {L' : List Ev} (hF : wc.heap[F]? = some (.cells (flowCells S lv M) 75 (0, 0))) (hlv : ∃ a n cap, lv = .slice a n cap) (hrow : EvRow wc lv L')
    (hmap : Omap wc M n S.o) (hmod : Mod (Own F M) w0 wc) (hm : Mod (fun k => k = F) wc w') (hblk : w'.heap[F]? = some (.cells (flowCells S' lv M) 75 (0, 0))) (hL : S'.L = L') (hLn : n ≤ L'.length) (hfew : L'.length ≤ 8192) (ho : S'.o = S.o) :
    FlowAt w' F M lv S' ∧ Mod (Own F M) w0 w' := by
  have hne : M ≠ F := by
    intro e
    obtain ⟨es, clock, hb⟩ := hmap.blk
    rw [e, hF] at hb
    simp at hb
  exact mid_end2 hF hlv hrow hmap (hmap.mod hm hne) hmod (hm.mono (fun k hk => Or.inl hk)) hblk hL hLn hfew ho

theorem run_clear {w : World} {M : Nat} {es : Array MapEntry} {clock : Nat} (hb : w.heap[M]? = some (.map es clock)) (ty : TypeId) :
    (Builtin.clear_ #[73] ty #[.map (some M)]).run Try.prog w = .ok (.tuple #[]) (ChangeMaps.setBlock w M (.map #[] clock)) := by
  simp [Builtin.clear_, run_underlying u73, MapKept.run_getObj_map hb, MapKept.run_setObj_map _ hb, Result.andThen, ChangeMaps.setBlock]

theorem omap_cleared {w : World} {M : Nat} {es : Array MapEntry} {clock : Nat} (hb : w.heap[M]? = some (.map es clock)) : Omap (ChangeMaps.setBlock w M (.map #[] clock)) M 0 (fun _ => none) :=
  ⟨.map [], ⟨#[], clock, ChangeMaps.heap_setBlock_same hb _, ⟨by simp, MapKept.stamped_empty clock, by simp⟩, Nat.le_refl _, rfl⟩, View.empty⟩

theorem mod_setBlock {S : Nat → Prop} {w w' : World} (h : Mod S w w') {g : Nat} (hg : S g) {es : Array MapEntry} {clock : Nat} (hb : w'.heap[g]? = some (.map es clock)) (o : Obj) : Mod S w (ChangeMaps.setBlock w' g o) :=
  ⟨h.os, h.tape, h.output, by simpa [ChangeMaps.setBlock] using h.size, fun k hk hn => (ChangeMaps.heap_setBlock_other hb o (fun e => hn (by rw [e]; exact hg))).trans (h.block k hk hn)⟩

end Go.Proofs.Ytedpeambmmhcnaa.Base

/- What is open, as a map in memory: an entry goes, an entry comes, one is looked up. Conditions: those at each theorem. -/
namespace Go.Proofs.Ytedpeambmmhcnaa.Base
open Go.RowKit Go.Maps Go.Proofs.YtedpeambmmhcnaaW.PrintWords Go.Proofs.Ytedpeambmmhcnaa.Kit

theorem wf_len {n : Nat} (h : n ≤ 8000) : Base.W ((n : Int) + 1) := by
  unfold Base.W
  exact WalkArith.wf_i64 (by omega)

theorem wpList_odel {w : World} {ops : Array Oper} {rest : List Oper} {o : Oper} {act : Act} {Q : Exit → Act → World → Prop} (hg : o.guard = none) (m x : Operand)
    (hop : o.op = Op.call { callee := Callee.builtin Builtin.delete, args := #[m, x], argTypes := #[73, 3] }) {M n : Nat} {om : Int → Option Opn} (h : Omap w M n om) (k : Int) (hk : W k) (hm : act.eval m = .map (some M)) (hx : act.eval x = .int .i64 k)
    (hK : ∀ w', Omap w' M n (fun j => if j = k then none else om j) → Mod (fun b => b = M) w w' → wpList Try.prog ops Q rest (act.put o.dst (.tuple #[])) w') : wpList Try.prog ops Q (o :: rest) act w := by
  obtain ⟨D, hown, hv⟩ := h
  exact wpList_delete_own w hg m x 73 3 hop 101 K3 u73 openElem M n D hm hown _ (key k) hx (key_of k hk) fun w' h1 h2 => hK w' ⟨_, h1, hv.del k⟩ (mod_of_turned h2)

theorem wpList_oput {w : World} {ops : Array Oper} {rest : List Oper} {o : Oper} {act : Act} {Q : Exit → Act → World → Prop} (hg : o.guard = none) (m x v : Operand) (hop : o.op = Op.mapUpdate 73 m x v) {M n : Nat} {om : Int → Option Opn} (h : Omap w M n om) (hn : n ≤ 10000)
    (k a b c : Int) (hk : W k) (ha : W a) (hb : W b) (hc : W c) (hm : act.eval m = .map (some M)) (hx : act.eval x = .int .i64 k) (hv : act.eval v = .agg #[.int .i64 a, .int .i64 b, .int .i64 c])
    (hK : ∀ w', Omap w' M (n + 1) (fun j => if j = k then some (a, b, c) else om j) → Mod (fun b => b = M) w w' → wpList Try.prog ops Q rest (act.put o.dst undef) w') : wpList Try.prog ops Q (o :: rest) act w := by
  obtain ⟨D, hown, hview⟩ := h
  exact wpList_mapUpdate_in w hg m x v 73 hop 3 101 K3 u73 openElem M n D hm hown (by unfold maxLen; omega) _ _ (key k) hx hv (key_of k hk) (openOf (a, b, c)) [] (openElem_mk (a, b, c) ha hb hc) fun w' h1 h2 => hK w' ⟨_, h1, hview.put hown.isMap k (a, b, c) hk ha hb hc⟩ (mod_of_turned h2)

/-- What a look-up hands back. -/
def lookVal (om : Int → Option Opn) (k : Int) : Value := match om k with
  | none => .tuple #[.agg #[.int .i64 0, .int .i64 0, .int .i64 0], .bool false]
  | some x => .tuple #[.agg #[.int .i64 x.1, .int .i64 x.2.1, .int .i64 x.2.2], .bool true]

theorem zero101 (w : World) : (zeroValue 101).run Try.prog w = .ok (openVal (0, 0, 0)) w := by
  have h : Try.t101.zero = some (openVal (0, 0, 0)) := by kernel_rfl
  unfold zeroValue
  simp [h]

theorem look_any {w : World} {M n : Nat} {om : Int → Option Opn} (h : Omap w M n om) (k : Int) (hk : W k) : (Instr.lookup 73 (.map (some M)) (.int .i64 k) true).run Try.prog w = .ok (lookVal om k) w := by
  obtain ⟨D, hown, hv⟩ := h
  obtain ⟨v, ps, hrun, hR⟩ := hown.look_ok K3 u73 (zero101 w) (openElem_mk (0, 0, 0) (by decide) (by decide) (by decide)) (key_of k hk)
  rw [hrun]
  unfold lookVal
  cases ho : om k with
  | none =>
    have hh := hv.none k hk ho
    rw [hh]
    obtain ⟨x, rfl, he, _⟩ := openElem_inv hR
    have hat : D.atKey (key k) (openOf (0, 0, 0)) = openOf (0, 0, 0) := by
      exact atKey_of_not_has hh _
    rw [hat] at he
    simp only [Prod.mk.injEq] at he
    have := openOf_inj he.1
    subst this
    rfl
  | some x =>
    obtain ⟨hh, hat, _⟩ := hv.some k x ho
    rw [hh]
    obtain ⟨y, rfl, he, _⟩ := openElem_inv hR
    rw [hat] at he
    simp only [Prod.mk.injEq] at he
    have := openOf_inj he.1
    subst this
    rfl

end Go.Proofs.Ytedpeambmmhcnaa.Base

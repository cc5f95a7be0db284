/- A run is closed. Conditions: those at each theorem. -/
import Derived.Test.YtedpeambmmhcnaaRun
import Derived.Test.YtedpeambmmhcnaaPutB
import Derived.Test.YtedpeambmmhcnaaPutC
import Derived.Maps.AppendAt
import Derived.Laws.AppendOwnNone
set_option maxRecDepth 100000
namespace Go.Proofs.Ytedpeambmmhcnaa.Base
open Go.RowKit Go.Maps Go.Proofs.YtedpeambmmhcnaaW.PrintWords Go.Proofs.Ytedpeambmmhcnaa.Kit

/-- A run when it is closed. -/
def closed (S : St) (k now : Int) (bs : List Int) : St := { S with L := S.L ++ [⟨k, now, 0, 0, 0, 0, bs⟩], task := 0, o := fun _ => none }

theorem put_close (k : Int) (hk : k = 19 ∨ k = 20 ∨ k = 21 ∨ k = 22 ∨ k = 23) (w : World) (F M : Nat) (lv : Value) (S : St) (h : FlowAt w F M lv S) (hL : S.L.length ≤ 8000) (now : Int) (bs : List Int) (v : Value) (hv : Byt w v bs) :
    Calls Try.prog 38 #[.pointer (some ⟨F, 0, none⟩), .agg #[.int .i64 k, .int .i64 now, .int .i64 0, .int .i64 0, .int .i64 0, .int .i64 0, v]] w fun e w' => ∃ lv', e = .returned (.int .i64 (S.L.length + 1)) ∧
      FlowAt w' F M lv' (closed S k now bs) ∧ Mod (Own F M) w w' := by
  rcases hk with rfl | rfl | rfl | rfl | rfl
  · exact put_19 w F M lv S h hL now 0 0 0 0 bs v hv
  · exact put_20 w F M lv S h hL now 0 0 0 0 bs v hv
  · exact put_21 w F M lv S h hL now 0 0 0 0 bs v hv
  · exact put_22 w F M lv S h hL now 0 0 0 0 bs v hv
  · exact put_23 w F M lv S h hL now 0 0 0 0 bs v hv

def closeOut (k : Int) (bs : List Int) : OutE := if k = 19 then ⟨8, 0, 0, 0, 0, 0, 0, bs⟩ else ⟨7, 0, 0, 0, 0, 0, statusKind k, bs⟩

set_option maxHeartbeats 8000000 in
theorem close_any (w : World) (F M : Nat) (lv : Value) (S : St) (h : FlowAt w F M lv S) (hL : S.L.length ≤ 8000) (k : Int) (hk : k = 19 ∨ k = 20 ∨ k = 21 ∨ k = 22 ∨ k = 23) (now : Int) (bs : List Int) (v : Value) (hv : Byt w v bs) :
    Calls Try.prog 71 #[.pointer (some ⟨F, 0, none⟩), .int .i64 k, v, .int .i64 now] w fun e w' => ∃ lv' v', e = .returned v' ∧ OutRow w' v' [closeOut k bs] ∧ FlowAt w' F M lv' (closed S k now bs) ∧ Mod (Own F M) w w' := by
  obtain ⟨va, vcap, rfl⟩ := hv.len
  have hpt := put_close k hk w F M lv S h hL now bs _ hv
  have nb := Lib.hid h.noBytes
  have hst : statusOf (closed S k now bs).L = statusKind k := by simp [statusOf, closed]
  have hv := Lib.hid hv
  have hpt := Lib.hid hpt
  clear h
  by_cases h19 : k = 19
  · have hb : (k == 19) = true := by simp [h19]
    have ho : closeOut k bs = ⟨8, 0, 0, 0, 0, 0, 0, bs⟩ := by simp [closeOut, h19]
    rw [ho]
    clear ho h19 hk
    go_enter Try.func71, Try.ntmps71
    go_wp2_with (fail)
    refine Calls.mono hpt ?_
    rintro e w2 ⟨lv2, rfl, H2, hm2⟩
    have hv2 := Lib.hid (Byt.mod hv hm2 nb)
    have H2 := Lib.hid H2
    have hm2 := Lib.hid hm2
    go_wp2_with (fail)
    refine (clone_any w2 _ _ hv2).mono ?_
    rintro e w3 ⟨v3, rfl, hv3, hb3⟩
    obtain ⟨va3, vcap3, rfl⟩ := hv3.len
    have hv3 := Lib.hid hv3
    have hb3 := Lib.hid hb3
    go_wp2_with (fail)
    go_ret
    have hb4 : Below w3.heap.size w3 (w3.alloc (.cells (outCells ⟨8, 0, 0, 0, 0, 0, 0, bs⟩ (.slice va3 bs.length vcap3)).toArray 40)) := below_alloc (Below.refl _ _) _
    exact ⟨lv2, _, rfl, OutRow.one (o := ⟨8, 0, 0, 0, 0, 0, 0, bs⟩) (blk_new w3 _) (Byt.below hv3 hb4), FlowAt.below H2 (below_step hb3 hb4), Mod.trans hm2 (Mod.of_below (below_step hb3 hb4))⟩
  · have hb : (k == 19) = false := by simp [h19]
    have ho : closeOut k bs = ⟨7, 0, 0, 0, 0, 0, statusKind k, bs⟩ := by simp [closeOut, h19]
    rw [ho]
    clear ho h19 hk
    go_enter Try.func71, Try.ntmps71
    go_wp2_with (fail)
    refine Calls.mono hpt ?_
    rintro e w2 ⟨lv2, rfl, H2, hm2⟩
    have hv2 := Lib.hid (Byt.mod hv hm2 nb)
    have H2 := Lib.hid H2
    have hm2 := Lib.hid hm2
    go_wp2_with (fail)
    refine (fstatus w2 F M lv2 _ H2).mono ?_
    rintro e w9 ⟨rfl, hb9⟩
    rw [hst]
    have hv9 := Lib.hid (Byt.below hv2 hb9)
    have hb9 := Lib.hid hb9
    go_wp2_with (fail)
    refine (clone_any w9 _ _ hv9).mono ?_
    rintro e w3 ⟨v3, rfl, hv3, hb3⟩
    obtain ⟨va3, vcap3, rfl⟩ := hv3.len
    have hv3 := Lib.hid hv3
    have hb3 := Lib.hid (below_step hb9 hb3)
    go_wp2_with (fail)
    go_ret
    have hb4 : Below w3.heap.size w3 (w3.alloc (.cells (outCells ⟨7, 0, 0, 0, 0, 0, statusKind k, bs⟩ (.slice va3 bs.length vcap3)).toArray 40)) := below_alloc (Below.refl _ _) _
    exact ⟨lv2, _, rfl, OutRow.one (o := ⟨7, 0, 0, 0, 0, 0, statusKind k, bs⟩) (blk_new w3 _) (Byt.below hv3 hb4), FlowAt.below H2 (below_step hb3 hb4), Mod.trans hm2 (Mod.of_below (below_step hb3 hb4))⟩

end Go.Proofs.Ytedpeambmmhcnaa.Base

/- A faulty decision: the task is scheduled anew; a decision that closes. Conditions: those at each theorem. -/
namespace Go.Proofs.Ytedpeambmmhcnaa.Base
open Go.RowKit Go.Maps Go.Proofs.YtedpeambmmhcnaaW.PrintWords Go.Proofs.Ytedpeambmmhcnaa.Kit

/-- A run when a task was faulty. -/
def fault1 (S : St) (n now : Int) : St := { S with L := S.L ++ [⟨6, now, S.begun, 0, 0, n, []⟩], task := 0, turn := wrap64 (S.turn + 1) }

set_option maxHeartbeats 4000000 in
theorem faulty_any (w : World) (F M : Nat) (lv : Value) (S : St) (h : FlowAt w F M lv S) (hL : S.L.length ≤ 7000) (n now : Int) :
    Calls Try.prog 47 #[.pointer (some ⟨F, 0, none⟩), .int .i64 n, .int .i64 now] w fun e w' => ∃ lv' v, e = .returned v ∧ OutRow w' v [taskOut (fault1 S n now)] ∧ FlowAt w' F M lv' (sched (fault1 S n now) now) ∧ Mod (Own F M) w w' := by
  have H := Lib.hid h
  obtain ⟨c0, c1, c2, c3, c4, c5, c6, c7, c8, c9, c10, c11⟩ := h.cells
  clear h c0 c1 c2 c3 c4 c5 c6 c8 c9 c10 c11
  go_enter Try.func47, Try.ntmps47
  go_wp2_with (fail)
  refine (put_6 w F M lv S H (by omega) _ _ _ _ _ [] _ (Byt.none _)).mono ?_
  rintro e w2 ⟨lv2, rfl, H2, hm2⟩
  have H2 := Lib.hid H2
  have hm2 := Lib.hid hm2
  go_wp2_with (fail)
  refine (schedule_any w2 F M lv2 (fault1 S n now) H2 (by simp [fault1]; omega) now).mono ?_
  rintro e w3 ⟨lv3, v3, rfl, ho, H3, hm3⟩
  have ho := Lib.hid ho
  have H3 := Lib.hid H3
  have hm3 := Lib.hid (Mod.trans hm2 hm3)
  go_wp2_with (fail)
  go_ret
  exact ⟨lv3, v3, rfl, ho, H3, hm3⟩

end Go.Proofs.Ytedpeambmmhcnaa.Base

/- What comes out grows: one row of outs behind another. Conditions: those at each theorem. -/
namespace Go.Proofs.Ytedpeambmmhcnaa.Base
open Go.RowKit Go.Maps Go.Proofs.YtedpeambmmhcnaaW.PrintWords Go.Proofs.Ytedpeambmmhcnaa.Kit

/-- No byte lies in the row's own block. -/
def PlainRow (w : World) (v : Value) : Prop := ∀ g cur, v.ownBlock = some g → w.heap[g]? = some (.cells cur 40 (0, 0)) → ∀ u ∈ cur.toList, ∀ q, u ≠ .int .u8 q

/-- A row of outs that the call owns; its block lies at N or behind. -/
def OutRowB (N : Nat) (w : World) (v : Value) (L : List OutE) : Prop :=
  (∃ vs : List Value, vs.length = L.length ∧ w.ownsRow N 40 8 v L.length (outRowOf L vs) ∧ ∀ (i : Nat) (o : OutE) (u : Value), L[i]? = some o → vs[i]? = some u → Byt w u o.data) ∧ PlainRow w v

def OwnRow (v : Value) : Nat → Prop := fun k => v.ownBlock = some k

theorem OutRowB.nil (N : Nat) (w : World) : OutRowB N w (.slice none 0 0) [] := ⟨⟨[], rfl, World.ownsRow_nil _ _ _ _, fun i e u h => by simp at h⟩, fun g cur h => by simp [Value.ownBlock] at h⟩

theorem OutRowB.row {N : Nat} {w : World} {v : Value} {L : List OutE} (h : OutRowB N w v L) : OutRow w v L := by
  obtain ⟨⟨vs, hl, h, hb⟩, _⟩ := h
  refine ⟨vs, hl, ⟨h.1, ?_⟩, hb⟩
  rcases h.2 with h0 | ⟨g, cap, cur, hv, h1, hr⟩
  · exact .inl h0
  · exact .inr ⟨g, cap, cur, hv, Nat.zero_le _, hr⟩

theorem OutRowB.at_ {N : Nat} {w : World} {v : Value} {L : List OutE} (h : OutRowB N w v L) {k : Nat} (hk : OwnRow v k) : N ≤ k ∧ ∃ cur, w.heap[k]? = some (.cells cur 40 (0, 0)) := by
  obtain ⟨⟨vs, hl, h, hb⟩, _⟩ := h
  rcases h.2 with ⟨rfl, _⟩ | ⟨g, cap, cur, rfl, h1, hg, _⟩
  · simp [OwnRow, Value.ownBlock] at hk
  · simp [OwnRow, Value.ownBlock] at hk
    subst hk
    exact ⟨h1, cur, hg⟩

theorem OutRowB.noBytes {N : Nat} {w : World} {v : Value} {L : List OutE} (h : OutRowB N w v L) : NoBytes w (OwnRow v) := by
  intro k hk i q hc
  obtain ⟨_, cur, hg⟩ := h.at_ hk
  rw [blk_cell hg i] at hc
  exact h.2 k cur hk hg _ (by simpa using Array.mem_of_getElem? hc) q rfl

theorem OutRowB.noEvs {N : Nat} {w : World} {v : Value} {L : List OutE} (h : OutRowB N w v L) : NoEvs w (OwnRow v) := by
  intro k hk cur hc
  obtain ⟨_, cur', hg⟩ := h.at_ hk
  rw [hg] at hc
  simp at hc

theorem OutRowB.mod {N : Nat} {w w' : World} {S : Nat → Prop} {v : Value} {L : List OutE} (h : OutRowB N w v L) (hm : Mod S w w') (hS : NoBytes w S) (hE : NoOuts w S) : OutRowB N w' v L := by
  have hk : ∀ k, OwnRow v k → w'.heap[k]? = w.heap[k]? := by
    intro k hk
    obtain ⟨_, cur, hg⟩ := h.at_ hk
    exact hm.block k (Array.getElem?_eq_some_iff.1 hg).1 (fun hs => hE k hs _ hg)
  obtain ⟨⟨vs, hl, h, hb⟩, hp⟩ := h
  refine ⟨⟨vs, hl, ⟨h.1, ?_⟩, fun i e u he hu => (hb i e u he hu).mod hm hS⟩, fun g cur hg hc => hp g cur hg ((hk g hg).symm.trans hc)⟩
  rcases h.2 with h0 | ⟨g, cap, cur, hv, h1, hg, hr⟩
  · exact .inl h0
  · exact .inr ⟨g, cap, cur, hv, h1, (hk g (by rw [hv]; rfl)).trans hg, hr⟩

theorem OutRowB.below {N : Nat} {w w' : World} {v : Value} {L : List OutE} (h : OutRowB N w v L) (hb : Below w.heap.size w w') : OutRowB N w' v L :=
  h.mod (S := fun _ => False) (Mod.of_below hb) (fun _ hk => hk.elim) (fun _ hk => hk.elim)

theorem OutRowB.len {N : Nat} {w : World} {v : Value} {L : List OutE} (h : OutRowB N w v L) : ∃ a cap, v = .slice a L.length cap := h.row.len

theorem FlowAt.other {w w' : World} {F M : Nat} {lv v : Value} {S : St} {N : Nat} {L : List OutE} (h : FlowAt w F M lv S) (ho : OutRowB N w v L) (hm : Mod (OwnRow v) w w') : FlowAt w' F M lv S := by
  have n1 : ¬ OwnRow v F := fun hk => by
    obtain ⟨_, cur, hg⟩ := ho.at_ hk
    rw [h.blk] at hg
    simp at hg
  have n2 : ¬ OwnRow v M := fun hk => by
    obtain ⟨_, cur, hg⟩ := ho.at_ hk
    obtain ⟨es, clock, hb⟩ := h.map.blk
    rw [hb] at hg
    simp at hg
  exact ⟨hm.blk h.blk n1, h.row.mod hm ho.noBytes ho.noEvs, h.map.mod hm n2, h.few⟩

theorem outRowOf_len : ∀ (L : List OutE) (vs : List Value), vs.length = L.length → (outRowOf L vs).length = L.length * 8
  | [], [], _ => rfl
  | [], _ :: _, h => by simp at h
  | _ :: _, [], h => by simp at h
  | e :: L, v :: vs, h => by
    have := outRowOf_len L vs (by simpa using h)
    simp [outRowOf, outCells, this]
    omega

theorem outRowOf_append : ∀ (L : List OutE) (vs : List Value) (L' : List OutE) (vs' : List Value), vs.length = L.length → outRowOf (L ++ L') (vs ++ vs') = outRowOf L vs ++ outRowOf L' vs'
  | [], [], _, _, _ => by simp [outRowOf]
  | [], _ :: _, _, _, h => by simp at h
  | _ :: _, [], _, _, h => by simp at h
  | e :: L, v :: vs, L', vs', h => by
    have := outRowOf_append L vs L' vs' (by simpa using h)
    simp [outRowOf, this]

theorem outRowOf_one : ∀ (L : List OutE) (vs : List Value), (∀ u ∈ vs, ∃ a n c, u = .slice a n c) → ∀ u ∈ outRowOf L vs, u.oneCell' = true ∧ ∀ q, u ≠ .int .u8 q
  | [], _, _ => by simp [outRowOf]
  | _ :: _, [], _ => by simp [outRowOf]
  | e :: L, v :: vs, h => by
    intro u hu
    obtain ⟨a, n, c, rfl⟩ := h v (List.mem_cons_self ..)
    simp only [outRowOf, List.mem_append] at hu
    rcases hu with hu | hu
    · simp only [outCells, List.mem_cons, List.not_mem_nil, or_false] at hu
      rcases hu with rfl | rfl | rfl | rfl | rfl | rfl | rfl | rfl <;> exact ⟨rfl, fun q h => by cases h⟩
    · exact outRowOf_one L vs (fun u hu => h u (List.mem_cons_of_mem _ hu)) u hu

theorem zeros_plain (n : Nat) : ∀ u ∈ (Builtin.zeroCells (Value.agg #[.int .i64 0, .int .i64 0, .int .i64 0, .int .i64 0, .int .i64 0, .int .i64 0, .int .i64 0, .slice none 0 0]).cells n).toList, ∀ q, u ≠ .int .u8 q := by
  intro u hu q he
  subst he
  simp only [Builtin.zeroCells, Array.toList_map, List.mem_map] at hu
  obtain ⟨i, _, hi⟩ := hu
  have hlt := Nat.mod_lt i (show 0 < 8 by decide)
  revert hi
  show (#[Value.int .i64 0, .int .i64 0, .int .i64 0, .int .i64 0, .int .i64 0, .int .i64 0, .int .i64 0, .slice none 0 0] : Array Value)[i % 8]! ≠ _
  generalize i % 8 = j at hlt
  rcases j with _|_|_|_|_|_|_|_|j
  all_goals first
    | omega
    | (intro h; cases h)

/-- The row that append makes holds no byte. -/
theorem plain_append {w w' : World} {N : Nat} {v v' : Value} {n m c ty : Nat} {xs news : List Value} {ad : Addr} (hown : w.ownsRow N 40 8 v n xs) (hp : PlainRow w v) (hl : news.length = m * 8)
    (hnews : ∀ j u, news[j]? = some u → w.cell? (ad.add j) = some u) (h1 : ∀ u ∈ news, u.oneCell' = true ∧ ∀ q, u ≠ .int .u8 q) (hle : n + m ≤ 10000)
    (hrun : (Builtin.append_ #[28, 28] ty #[v, .slice (some ad) m c]).run Try.prog w = .ok v' w') (hnil : v' = .slice none 0 0 ↔ v = .slice none 0 0 ∧ m = 0) : PlainRow w' v' := by
  obtain ⟨i0, hi, hz0, hz1, hz2⟩ := info_parts info40
  have hx : ∀ u ∈ xs, ∀ q, u ≠ .int .u8 q := by
    intro u hu
    rcases hown.2 with ⟨rfl, rfl⟩ | ⟨g, cap, cur, rfl, _, hg, _, _, _, htake⟩
    · have : xs = [] := List.eq_nil_of_length_eq_zero (by simpa using hown.1)
      subst this
      simp at hu
    · rw [← htake] at hu
      exact hp g cur rfl hg u (List.mem_of_mem_take hu)
  intro g cur hb hg u hu q
  have grown : ∀ (k : Nat), w' = w.drew.alloc (.cells (xs.toArray ++ news.toArray ++ Builtin.zeroCells (Value.agg #[.int .i64 0, .int .i64 0, .int .i64 0, .int .i64 0, .int .i64 0, .int .i64 0, .int .i64 0, .slice none 0 0]).cells k) 40) → g = w.heap.size → u ≠ .int .u8 q := by
    intro k hw hgs
    subst hw hgs
    rw [show (w.drew.alloc (.cells (xs.toArray ++ news.toArray ++ Builtin.zeroCells (Value.agg #[.int .i64 0, .int .i64 0, .int .i64 0, .int .i64 0, .int .i64 0, .int .i64 0, .int .i64 0, .slice none 0 0]).cells k) 40)).heap[w.heap.size]? = _ from blk_new w.drew _] at hg
    simp only [Option.some.injEq, Obj.cells.injEq, and_true] at hg
    subst hg
    simp only [Array.toList_append, List.mem_append] at hu
    rcases hu with (hu | hu) | hu
    · exact hx u (by simpa using hu) q
    · exact (h1 u (by simpa using hu)).2 q
    · exact zeros_plain _ u hu q
  have hs8 : i0.size = 8 := hz1
  rcases hown.2 with ⟨rfl, rfl⟩ | ⟨g', cap, cur', rfl, _, hg', hnc, hcm, hcs, htake⟩
  · have hxs : xs = [] := List.eq_nil_of_length_eq_zero (by simpa using hown.1)
    subst hxs
    by_cases hm : m = 0
    · have := hnil.2 ⟨rfl, hm⟩
      subst this
      simp [Value.ownBlock] at hb
    · have hr := run_append_nil (P := Try.prog) w 28 ty 40 i0 _ u28 hi hz0 ad m c news (by rw [hs8]; exact hl) hnews (by omega) (by omega) (by rw [hz2]; omega)
      rw [hr] at hrun
      simp only [Result.ok.injEq] at hrun
      obtain ⟨rfl, rfl⟩ := hrun
      simp [Value.ownBlock] at hb
      exact grown (grownCap w m 0 40 - m) (by simp) hb.symm
  · by_cases hroom : n + m ≤ cap
    · have hfit : n * i0.size + news.length ≤ cur'.size := by rw [hl, hcs, hs8, ← Nat.add_mul]; exact Nat.mul_le_mul_right _ hroom
      have hr := run_append_room (P := Try.prog) w 28 ty 40 i0 u28 hi g' n cap cur' hg' ad m c news (by rw [hs8]; exact hl) hnews (fun u hu => (h1 u hu).1) hroom hfit
      rw [hr] at hrun
      simp only [Result.ok.injEq] at hrun
      obtain ⟨rfl, rfl⟩ := hrun
      simp [Value.ownBlock] at hb
      subst hb
      rw [setRow_heap w g' cur' _ 40 _ hg'] at hg
      simp only [Option.some.injEq, Obj.cells.injEq, and_true] at hg
      subst hg
      simp only [List.mem_append] at hu
      rcases hu with (hu | hu) | hu
      · exact hp g' cur' rfl hg' u (List.mem_of_mem_take hu) q
      · exact (h1 u hu).2 q
      · exact hp g' cur' rfl hg' u (List.mem_of_mem_drop hu) q
    · have holds : ∀ j u, xs[j]? = some u → w.cell? ((⟨g', 0, none⟩ : Addr).add j) = some u := hown.cells (g := g') rfl
      have hr := run_append_grow (P := Try.prog) w 28 ty 40 i0 _ u28 hi hz0 ⟨g', 0, none⟩ n cap xs (by rw [hs8]; exact hown.1) holds ad m c news (by rw [hs8]; exact hl) hnews (by omega) (by omega) (by rw [hz2]; exact growslice_fits (by omega) (by omega))
      rw [hr] at hrun
      simp only [Result.ok.injEq] at hrun
      obtain ⟨rfl, rfl⟩ := hrun
      simp [Value.ownBlock] at hb
      exact grown (grownCap w (n + m) cap 40 - (n + m)) rfl hb.symm

theorem outs_vals {w : World} {L : List OutE} {vs : List Value} (hl : vs.length = L.length) (hb : ∀ (i : Nat) (o : OutE) (u : Value), L[i]? = some o → vs[i]? = some u → Byt w u o.data) : ∀ u ∈ vs, ∃ a n c, u = .slice a n c := by
  intro u hu
  obtain ⟨i, hi⟩ := List.mem_iff_getElem?.1 hu
  have hlt : i < L.length := by
    have := (List.getElem?_eq_some_iff.1 hi).1
    omega
  obtain ⟨a, c, h⟩ := (hb i _ u (List.getElem?_eq_getElem hlt) hi).len
  exact ⟨a, _, c, h⟩

theorem run_outs {w : World} {N : Nat} {v v2 : Value} {L1 L2 : List OutE} (h1 : OutRowB N w v L1) (h2 : OutRow w v2 L2) (hN : N ≤ w.heap.size) (hlen : L1.length + L2.length ≤ 10000) (ty : Nat) :
    ∃ v' w', (Builtin.append_ #[28, 28] ty #[v, v2]).run Try.prog w = .ok v' w' ∧ OutRowB N w' v' (L1 ++ L2) ∧ Mod (OwnRow v) w w' := by
  obtain ⟨i0, hi, hz0, hz1, hz2⟩ := info_parts info40
  have hnb := h1.noBytes
  obtain ⟨⟨vs1, hl1, own1, hb1⟩, hp⟩ := h1
  obtain ⟨vs2, hl2, own2, hb2⟩ := h2
  obtain ⟨a, cap, rfl⟩ : ∃ a cap, v2 = .slice a L2.length cap := OutRow.len ⟨vs2, hl2, own2, hb2⟩
  have hmix : ∀ w', Mod (OwnRow v) w w' → ∀ (i : Nat) (o : OutE) (u : Value), (L1 ++ L2)[i]? = some o → (vs1 ++ vs2)[i]? = some u → Byt w' u o.data := by
    intro w' hm i o u ho hu
    by_cases hlt : i < L1.length
    · rw [List.getElem?_append_left hlt] at ho
      rw [List.getElem?_append_left (by omega)] at hu
      exact (hb1 i o u ho hu).mod hm hnb
    · rw [List.getElem?_append_right (by omega)] at ho
      rw [List.getElem?_append_right (by omega), hl1] at hu
      exact (hb2 _ o u ho hu).mod hm hnb
  rcases a with _ | ad
  · have h0 : L2.length = 0 ∧ cap = 0 := by
      rcases own2.2 with ⟨he, h0⟩ | ⟨g, c, cur, he, _⟩
      · simp at he
        exact ⟨h0, he.2⟩
      · simp at he
    obtain ⟨hL2, rfl⟩ := h0
    have hL2' : L2 = [] := List.eq_nil_of_length_eq_zero hL2
    subst hL2'
    have hvs : vs2 = [] := List.eq_nil_of_length_eq_zero (by simpa using hl2)
    subst hvs
    refine ⟨v, w, ?_, ⟨⟨vs1, by simpa using hl1, by simpa using own1, by simpa using hb1⟩, hp⟩, Mod.refl _ _⟩
    exact run_append_owned_none (P := Try.prog) (w := w) N 28 ty 40 i0 8 u28 hi v L1.length _ own1
  · have hq := outRowOf_one L2 vs2 (outs_vals hl2 hb2)
    have hc : ∀ j u, (outRowOf L2 vs2)[j]? = some u → w.cell? (ad.add j) = some u := by
      rcases own2.2 with ⟨he, _⟩ | ⟨g, c, cur, he, _, hg, _⟩
      · simp at he
      · have hc := own2.cells (g := g) (by rw [he]; rfl)
        simp at he
        rw [he.1]
        exact hc
    obtain ⟨v', w', hrun, hown, hgr, hnil, hblk⟩ := run_append_own_at (P := Try.prog) w N 28 ty 40 i0 _ 8 80 u28 hi hz0 hz1 hz2 rfl (by decide) v L1.length _ own1 ad L2.length cap (outRowOf L2 vs2) (outRowOf_len L2 vs2 hl2) hc (fun u hu => (hq u hu).1) (by unfold maxLen; omega) (by omega) hN
    have hm : Mod (OwnRow v) w w' := ⟨hgr.os, hgr.tape, hgr.output, hgr.size, fun k hk hn => hgr.block k hk (fun e => hn e.symm)⟩
    refine ⟨v', w', hrun, ⟨⟨vs1 ++ vs2, by simp [hl1, hl2], ?_, hmix w' hm⟩, ?_⟩, hm⟩
    · rw [outRowOf_append L1 vs1 L2 vs2 hl1, List.length_append]
      exact hown
    · exact plain_append own1 hp (outRowOf_len L2 vs2 hl2) hc hq hlen hrun hnil

theorem wpList_outs {w : World} {ops : Array Oper} {rest : List Oper} {o : Oper} {act : Act} {Q : Exit → Act → World → Prop} (hgd : o.guard = none) (s x : Operand)
    (ho : o.op = .call { callee := .builtin .append, args := #[s, x], argTypes := #[28, 28] }) {N : Nat} {v v2 : Value} {L1 L2 : List OutE} (hs : act.eval s = v) (hx : act.eval x = v2)
    (h1 : OutRowB N w v L1) (h2 : OutRow w v2 L2) (hN : N ≤ w.heap.size) (hlen : L1.length + L2.length ≤ 10000)
    (h : ∀ a c w', OutRowB N w' (.slice a (L1 ++ L2).length c) (L1 ++ L2) → Mod (OwnRow v) w w' → wpList Try.prog ops Q rest (act.put o.dst (.slice a (L1 ++ L2).length c)) w') : wpList Try.prog ops Q (o :: rest) act w := by
  refine wpList_plain hgd fun K hK => ?_
  obtain ⟨v', w', hr, h3, h4⟩ := run_outs h1 h2 hN hlen o.type
  obtain ⟨a, c, rfl⟩ := h3.len
  unfold Oper.wp execOp
  simp only [ho, resolve, invoke, builtin, Sem.run_bind, Sem.run_pure, Result.andThen_ok, List.map_toArray, List.map_cons, List.map_nil, hs, hx, hr]
  exact hK _ _ (h a c w' h3 h4)

end Go.Proofs.Ytedpeambmmhcnaa.Base

/- A list of decisions in memory, and what the decisions of a list do one behind the other. Conditions: those at each theorem. -/
namespace Go.Proofs.Ytedpeambmmhcnaa.Base
open Go.RowKit Go.Maps Go.Proofs.YtedpeambmmhcnaaW.PrintWords Go.Proofs.Ytedpeambmmhcnaa.Kit

structure Dec where
  kind : Int
  id : Int
  list : Int
  n : Int
  data : List Int

def decCells (d : Dec) (u : Value) : List Value := [.int .i64 d.kind, .int .i64 d.id, .int .i64 d.list, .int .i64 d.n, u]

/-- A slice of decisions whose block lies ahead of N. -/
def Decs (N : Nat) (w : World) (v : Value) (ds : List Dec) : Prop :=
  (v = .slice none 0 0 ∧ ds = []) ∨ ∃ A off cap, v = .slice (some ⟨A, off, none⟩) ds.length cap ∧ (ds ≠ [] → A < N) ∧ ∀ i d, ds[i]? = some d → ∃ u, Byt w u d.data ∧ ∀ j x, (decCells d u)[j]? = some x → w.cell? ⟨A, off + i * 5 + j, none⟩ = some x

theorem Decs.nil (N : Nat) (w : World) : Decs N w (.slice none 0 0) [] := .inl ⟨rfl, rfl⟩

theorem Decs.mod {N : Nat} {w w' : World} {S : Nat → Prop} {v : Value} {ds : List Dec} (h : Decs N w v ds) (hm : Mod S w w') (hS : NoBytes w S) (hN : N ≤ w.heap.size) (hk : ∀ k, S k → N ≤ k) : Decs N w' v ds := by
  rcases h with h | ⟨A, off, cap, hv, hA, hc⟩
  · exact .inl h
  · refine .inr ⟨A, off, cap, hv, hA, fun i d hd => ?_⟩
    obtain ⟨u, hu, hx⟩ := hc i d hd
    have hAN : A < N := hA (fun e => by rw [e] at hd; simp at hd)
    refine ⟨u, hu.mod hm hS, fun j x hj => ?_⟩
    rw [World.cell?_of_block (a := ⟨A, off + i * 5 + j, none⟩) (w := w) (hm.block A (by omega) (fun hs => by have := hk A hs; omega))]
    exact hx j x hj

theorem Decs.below {N : Nat} {w w' : World} {v : Value} {ds : List Dec} (h : Decs N w v ds) (hb : Below w.heap.size w w') (hN : N ≤ w.heap.size) : Decs N w' v ds :=
  h.mod (S := fun _ => False) (Mod.of_below hb) (fun _ hk => hk.elim) hN (fun _ hk => hk.elim)

theorem Decs.len {N : Nat} {w : World} {v : Value} {ds : List Dec} (h : Decs N w v ds) : ∃ a cap, v = .slice a ds.length cap := by
  rcases h with ⟨rfl, rfl⟩ | ⟨A, off, cap, hv, _⟩
  · exact ⟨_, _, rfl⟩
  · exact ⟨_, _, hv⟩

theorem Decs.get {N : Nat} {w : World} {v : Value} {ds : List Dec} (h : Decs N w v ds) {i : Nat} {d : Dec} (hd : ds[i]? = some d) :
    ∃ A off cap u, v = .slice (some ⟨A, off, none⟩) ds.length cap ∧ Byt w u d.data ∧ w.cell? ⟨A, off + i * 5, none⟩ = some (.int .i64 d.kind) ∧ w.cell? ⟨A, off + i * 5 + 1, none⟩ = some (.int .i64 d.id) ∧ w.cell? ⟨A, off + i * 5 + 2, none⟩ = some (.int .i64 d.list) ∧
      w.cell? ⟨A, off + i * 5 + 3, none⟩ = some (.int .i64 d.n) ∧ w.cell? ⟨A, off + i * 5 + 4, none⟩ = some u := by
  rcases h with ⟨_, rfl⟩ | ⟨A, off, cap, hv, _, hc⟩
  · simp at hd
  · obtain ⟨u, hu, hx⟩ := hc i d hd
    exact ⟨A, off, cap, u, hv, hu, hx 0 _ rfl, hx 1 _ rfl, hx 2 _ rfl, hx 3 _ rfl, hx 4 _ rfl⟩

/-- Whether these decisions may not be, of this run. -/
def BadIs (N : Nat) (S : St) (ds : List Dec) (b : Bool) : Prop :=
  ∀ w F M lv v, FlowAt w F M lv S → Decs N w v ds → N ≤ w.heap.size → Calls Try.prog 46 #[.pointer (some ⟨F, 0, none⟩), v] w fun e w' => e = .returned (.bool b) ∧ Below w.heap.size w w'

/-- What a decision does to a run. -/
def DoneIs (now : Int) (S : St) (d : Dec) (r : St × List OutE) : Prop :=
  ∀ w F M lv v, FlowAt w F M lv S → Byt w v d.data → Calls Try.prog 48 #[.pointer (some ⟨F, 0, none⟩), .agg #[.int .i64 d.kind, .int .i64 d.id, .int .i64 d.list, .int .i64 d.n, v], .int .i64 now] w fun e w' =>
    ∃ lv' v', e = .returned v' ∧ OutRow w' v' r.2 ∧ FlowAt w' F M lv' r.1 ∧ Mod (Own F M) w w'

def runDs (dn : St → Dec → St × List OutE) : St → List Dec → St × List OutE
  | S, [] => (S, [])
  | S, d :: ds => ((runDs dn (dn S d).1 ds).1, (dn S d).2 ++ (runDs dn (dn S d).1 ds).2)

theorem runDs_snoc (dn : St → Dec → St × List OutE) (d : Dec) : ∀ (ds : List Dec) (S : St), runDs dn S (ds ++ [d]) = ((dn (runDs dn S ds).1 d).1, (runDs dn S ds).2 ++ (dn (runDs dn S ds).1 d).2)
  | [], S => by simp [runDs]
  | x :: ds, S => by
    have := runDs_snoc dn d ds (dn S x).1
    simp [runDs, this]

theorem runDs_step (dn : St → Dec → St × List OutE) (S : St) (ds : List Dec) {k : Nat} {d : Dec} (hd : ds[k]? = some d) : runDs dn S (ds.take (k + 1)) = ((dn (runDs dn S (ds.take k)).1 d).1, (runDs dn S (ds.take k)).2 ++ (dn (runDs dn S (ds.take k)).1 d).2) := by
  rw [List.take_add_one, hd]
  exact runDs_snoc dn d _ S

/-- A run when its decisions are taken, ahead of what they do. -/
def decided1 (S : St) (now : Int) : St := { S with L := S.L ++ [⟨4, now, S.begun, 0, 0, 0, []⟩], task := 0, turn := 0 }

/-- Do decisions come too late? -/
def lateBad (S : St) (ds : List Dec) : Bool := S.late && (match ds.getLast? with | none => false | some d => decide (5 ≤ d.kind))

end Go.Proofs.Ytedpeambmmhcnaa.Base

/- Decide's closure: a task's decisions are taken, or refused. Conditions: those at each theorem. -/
namespace Go.Proofs.Ytedpeambmmhcnaa.Base
open Go.RowKit Go.Maps Go.Proofs.YtedpeambmmhcnaaW.PrintWords Go.Proofs.Ytedpeambmmhcnaa.Kit

/-- What the closure of Decide has caught. -/
structure Caught (w : World) (B1 B2 B3 B4 : Nat) (ref turn now : Int) (v : Value) : Prop where
  k1 : w.heap[B1]? = some (.cells #[.int .i64 ref] 3 (0, 0))
  k2 : w.heap[B2]? = some (.cells #[.int .i64 turn] 3 (0, 0))
  k3 : w.heap[B3]? = some (.cells #[v] 37 (0, 0))
  k4 : w.heap[B4]? = some (.cells #[.int .i64 now] 3 (0, 0))

theorem Caught.mod {w w' : World} {S : Nat → Prop} {N B1 B2 B3 B4 : Nat} {ref turn now : Int} {v : Value} (h : Caught w B1 B2 B3 B4 ref turn now v) (hm : Mod S w w') (hk : ∀ k, S k → N ≤ k) (hB : B1 < N ∧ B2 < N ∧ B3 < N ∧ B4 < N) : Caught w' B1 B2 B3 B4 ref turn now v :=
  ⟨hm.blk h.k1 (fun hs => by have := hk _ hs; omega), hm.blk h.k2 (fun hs => by have := hk _ hs; omega), hm.blk h.k3 (fun hs => by have := hk _ hs; omega), hm.blk h.k4 (fun hs => by have := hk _ hs; omega)⟩

theorem Caught.below {w w' : World} {B1 B2 B3 B4 : Nat} {ref turn now : Int} {v : Value} (h : Caught w B1 B2 B3 B4 ref turn now v) (hb : Below w.heap.size w w') : Caught w' B1 B2 B3 B4 ref turn now v :=
  ⟨blk_below h.k1 hb, blk_below h.k2 hb, blk_below h.k3 hb, blk_below h.k4 hb⟩

theorem Caught.lt {w : World} {B1 B2 B3 B4 : Nat} {ref turn now : Int} {v : Value} (h : Caught w B1 B2 B3 B4 ref turn now v) : B1 < w.heap.size ∧ B2 < w.heap.size ∧ B3 < w.heap.size ∧ B4 < w.heap.size := ⟨blk_lt h.k1, blk_lt h.k2, blk_lt h.k3, blk_lt h.k4⟩

theorem Caught.cells {w : World} {B1 B2 B3 B4 : Nat} {ref turn now : Int} {v : Value} (h : Caught w B1 B2 B3 B4 ref turn now v) :
    w.cell? ⟨B1, 0, none⟩ = some (.int .i64 ref) ∧ w.cell? ⟨B2, 0, none⟩ = some (.int .i64 turn) ∧ w.cell? ⟨B3, 0, none⟩ = some v ∧ w.cell? ⟨B4, 0, none⟩ = some (.int .i64 now) := ⟨blk_cell h.k1 0, blk_cell h.k2 0, blk_cell h.k3 0, blk_cell h.k4 0⟩

def caps (B1 B2 B3 B4 : Nat) : Array Value := #[.pointer (some ⟨B1, 0, none⟩), .pointer (some ⟨B2, 0, none⟩), .pointer (some ⟨B3, 0, none⟩), .pointer (some ⟨B4, 0, none⟩)]

set_option maxHeartbeats 8000000 in
theorem decide_bad_do (w : World) (lv : Value) (S : St) (hL : S.L.length ≤ 7000) (ref turn now : Int) (ht : S.task = 2) (hr : S.time = ref) (hn : S.turn = turn) (v : Value) (ds : List Dec) (hd : Decs w.heap.size w v ds) (B1 B2 B3 B4 : Nat) (hc : Caught w B1 B2 B3 B4 ref turn now v)
    (hbad : BadIs w.heap.size S ds true) : Does w 45 (caps B1 B2 B3 B4) lv S [taskOut (fault1 S 1 now)] 22 (sched (fault1 S 1 now) now) := by
  intro w1 X M1 hX hM hb H
  obtain ⟨da, dcap, rfl⟩ := hd.len
  obtain ⟨q1, q2, q3, q4⟩ := (hc.below hb).cells
  obtain ⟨c0, c1, c2, c3, c4, c5, c6, c7, c8, c9, c10, c11⟩ := H.cells
  rw [ht] at c5
  rw [hr] at c6
  rw [hn] at c8
  have hc := Lib.hid (hc.below hb)
  have hd1 := hd.below hb (Nat.le_refl _)
  have hcall : Hid (∀ n, Calls Try.prog 46 #[.pointer (some ⟨X, 0, none⟩), .slice da ds.length dcap] (w1.drewN n) fun e w' => e = .returned (.bool true) ∧ Below w1.heap.size w1 w') := by
    intro n
    have hbn : Below w1.heap.size w1 (w1.drewN n) := pw_below_drewN (Below.refl _ _) n
    refine (hbad (w1.drewN n) X M1 lv _ (H.below hbn) (hd1.below hbn hb.size) hb.size).mono ?_
    rintro e w' ⟨rfl, hb2⟩
    exact ⟨rfl, below_step hbn hb2⟩
  have H := Lib.hid H
  clear c0 c1 c2 c3 c4 c7 c9 c10 c11 hd hd1 ht hr hn hb hbad
  show Calls Try.prog 45 #[.pointer (some ⟨X, 0, none⟩), .pointer (some ⟨B1, 0, none⟩), .pointer (some ⟨B2, 0, none⟩), .pointer (some ⟨B3, 0, none⟩), .pointer (some ⟨B4, 0, none⟩)] w1 _
  go_enter Try.func45, Try.ntmps45
  go_wp2_with (fail)
  go_quiet (fail)
  go_wp2_with (fail)
  refine Calls.mono (hcall.out _) ?_
  rintro e w2 ⟨rfl, hb2⟩
  have H2 := Lib.hid (FlowAt.below H hb2)
  obtain ⟨q1, q2, q3, q4⟩ := (Caught.below hc hb2).cells
  have hb2 := Lib.hid hb2
  go_wp2_with (fail)
  refine (faulty_any w2 X M1 lv S H2 hL 1 now).mono ?_
  rintro e w3 ⟨lv3, v3, rfl, ho, H3, hm3⟩
  have ho := Lib.hid ho
  have H3 := Lib.hid H3
  have hm3 := Lib.hid ((Mod.of_below hb2.out).trans hm3)
  go_wp2_with (fail)
  go_ret2
  exact ⟨lv3, v3, rfl, ho, H3, hm3⟩

set_option maxHeartbeats 8000000 in
theorem decide_late_do (w : World) (lv : Value) (S : St) (hL : S.L.length ≤ 7000) (ref turn now : Int) (ht : S.task = 2) (hr : S.time = ref) (hn : S.turn = turn) (v : Value) (ds : List Dec) (hd : Decs w.heap.size w v ds) (hdl : ds.length ≤ 1000) (B1 B2 B3 B4 : Nat) (hc : Caught w B1 B2 B3 B4 ref turn now v)
    (hbad : BadIs w.heap.size S ds false) (hlt : lateBad S ds = true) : Does w 45 (caps B1 B2 B3 B4) lv S [taskOut (fault1 S 2 now)] 23 (sched (fault1 S 2 now) now) := by
  intro w1 X M1 hX hM hb H
  obtain ⟨da, dcap, rfl⟩ := hd.len
  obtain ⟨q1, q2, q3, q4⟩ := (hc.below hb).cells
  obtain ⟨c0, c1, c2, c3, c4, c5, c6, c7, c8, c9, c10, c11⟩ := H.cells
  rw [ht] at c5
  rw [hr] at c6
  rw [hn] at c8
  have hc0 := Lib.hid hc
  have hc := Lib.hid (hc.below hb)
  have hd1 := Lib.hid (hd.below hb (Nat.le_refl _))
  have hcall : Hid (∀ n, Calls Try.prog 46 #[.pointer (some ⟨X, 0, none⟩), .slice da ds.length dcap] (w1.drewN n) fun e w' => e = .returned (.bool false) ∧ Below w1.heap.size w1 w') := by
    intro n
    have hbn : Below w1.heap.size w1 (w1.drewN n) := pw_below_drewN (Below.refl _ _) n
    refine (hbad (w1.drewN n) X M1 lv _ (H.below hbn) (hd1.out.below hbn hb.size) hb.size).mono ?_
    rintro e w' ⟨rfl, hb2⟩
    exact ⟨rfl, below_step hbn hb2⟩
  have H := Lib.hid H
  have hN := Lib.hid hb.size
  have hX := Lib.hid hX
  have hM := Lib.hid hM
  have hlt := Lib.hid hlt
  have hdl := Lib.hid hdl
  clear c0 c1 c2 c3 c4 c7 c9 c10 c11 hd ht hr hn hb hbad
  show Calls Try.prog 45 #[.pointer (some ⟨X, 0, none⟩), .pointer (some ⟨B1, 0, none⟩), .pointer (some ⟨B2, 0, none⟩), .pointer (some ⟨B3, 0, none⟩), .pointer (some ⟨B4, 0, none⟩)] w1 _
  go_enter Try.func45, Try.ntmps45
  go_wp2_with (fail)
  go_quiet (fail)
  go_wp2_with (fail)
  refine Calls.mono (hcall.out _) ?_
  rintro e w2 ⟨rfl, hb2⟩
  have H2 := Lib.hid (FlowAt.below H hb2)
  have hc2 := Lib.hid (Caught.below hc hb2)
  have hd2 := Lib.hid (hd1.out.below hb2 hN.out)
  obtain ⟨q1, q2, q3, q4⟩ := hc2.out.cells
  have hN1 := hN
  have hN := Lib.hid (Nat.le_trans hN.out hb2.size)
  have hb2 := Lib.hid hb2
  obtain ⟨hl1, d, hdl2, h5⟩ : S.late = true ∧ ∃ d, ds.getLast? = some d ∧ decide (5 ≤ d.kind) = true := by
    have hlt := hlt.out
    unfold lateBad at hlt
    cases h1 : S.late
    · simp [h1] at hlt
    · cases h2 : ds.getLast? with
      | none => simp [h2] at hlt
      | some d => exact ⟨rfl, d, rfl, by simpa [h1, h2] using hlt⟩
  obtain ⟨k, hk, hkd⟩ : ∃ k, ds.length = k + 1 ∧ ds[k]? = some d := by
    rcases List.eq_nil_or_concat ds with h | ⟨l, e, rfl⟩
    · simp [h] at hdl2
    · simp at hdl2
      exact ⟨l.length, by simp, by simp [hdl2]⟩
  have hdl := hdl.out
  obtain ⟨A, off, cap, u, hv, _, d0, _⟩ := hd2.out.get hkd
  simp only [Value.slice.injEq] at hv
  obtain ⟨rfl, _, rfl⟩ := hv
  have c9 : w2.cell? ⟨X, 9, none⟩ = some (.bool S.late) := H2.out.cell 9
  rw [hl1] at c9
  rw [hk] at q3 hdl
  have hl1 := Lib.hid hl1
  have hk := Lib.hid hk
  have hkd := Lib.hid hkd
  generalize d.kind = dk at *
  go_wp2_with (fail)
  refine (faulty_any w2 X M1 lv S H2 hL 2 now).mono ?_
  rintro e w3 ⟨lv3, v3, rfl, ho, H3, hm3⟩
  have ho := Lib.hid ho
  have H3 := Lib.hid H3
  have hm3 := Lib.hid ((Mod.of_below hb2.out).trans hm3)
  go_wp2_with (fail)
  go_ret2
  exact ⟨lv3, v3, rfl, ho, H3, hm3⟩

theorem own_ge {X M n : Nat} (hX : n ≤ X) (hM : n ≤ M) : ∀ b, Own X M b → n ≤ b := by
  rintro b (rfl | rfl)
  · exact hX
  · exact hM

theorem Mod.fresh {S T : Nat → Prop} {a b c : World} (h : Mod S a b) (k : Mod T b c) (hT : ∀ i, T i → a.heap.size ≤ i) : Mod S a c :=
  ⟨k.os.trans h.os, k.tape.trans h.tape, k.output.trans h.output, Nat.le_trans h.size k.size, fun i hi hn => (k.block i (Nat.lt_of_lt_of_le hi h.size) (fun ht => Nat.lt_irrefl _ (Nat.lt_of_lt_of_le hi (hT i ht)))).trans (h.block i hi hn)⟩

theorem runDs_few (dn : St → Dec → St × List OutE) (hone : ∀ S d, (dn S d).2.length ≤ 1) : ∀ (ds : List Dec) (S : St), (runDs dn S ds).2.length ≤ ds.length
  | [], S => by simp [runDs]
  | d :: ds, S => by
    have h1 := hone S d
    have h2 := runDs_few dn hone ds (dn S d).1
    simp [runDs]
    omega

/-- What the loop over the decisions holds. -/
structure Loop (w0 w1 wr : World) (X M1 B1 B2 B3 B4 : Nat) (ref turn now : Int) (v : Value) (ds : List Dec) (R : St × List OutE) (lvk out : Value) : Prop where
  flow : FlowAt wr X M1 lvk R.1
  outs : OutRowB w1.heap.size wr out R.2
  mod : Mod (Own X M1) w1 wr
  caught : Caught wr B1 B2 B3 B4 ref turn now v
  decs : Decs w0.heap.size wr v ds

/-- What decisions that may be leave. -/
def goneSt (dn : St → Dec → St × List OutE) (S : St) (ds : List Dec) (now : Int) : St × List OutE :=
  let r := runDs dn (decided1 S now) ds
  if S.late && statusOf r.1.L == 1 then (sched r.1 now, r.2 ++ [taskOut r.1]) else r

set_option maxHeartbeats 16000000 in
theorem decide_go_do (dn : St → Dec → St × List OutE) (w : World) (lv : Value) (S : St) (hL : S.L.length ≤ 7000) (ref turn now : Int) (ht : S.task = 2) (hr : S.time = ref) (hn : S.turn = turn) (v : Value) (ds : List Dec) (hd : Decs w.heap.size w v ds) (hdl : ds.length ≤ 1000) (B1 B2 B3 B4 : Nat) (hc : Caught w B1 B2 B3 B4 ref turn now v)
    (hbad : BadIs w.heap.size S ds false) (hlt : lateBad S ds = false) (hdone : ∀ k d, ds[k]? = some d → DoneIs now (runDs dn (decided1 S now) (ds.take k)).1 d (dn (runDs dn (decided1 S now) (ds.take k)).1 d)) (hone : ∀ S d, (dn S d).2.length ≤ 1) (hlen : (runDs dn (decided1 S now) ds).1.L.length ≤ 8000) :
    Does w 45 (caps B1 B2 B3 B4) lv S (goneSt dn S ds now).2 0 (goneSt dn S ds now).1 := by
  intro w1 X M1 hX hM hb H
  obtain ⟨da, dcap, rfl⟩ := hd.len
  obtain ⟨q1, q2, q3, q4⟩ := (hc.below hb).cells
  obtain ⟨c0, c1, c2, c3, c4, c5, c6, c7, c8, c9, c10, c11⟩ := H.cells
  rw [ht] at c5
  rw [hr] at c6
  rw [hn] at c8
  have hc0 := Lib.hid hc
  have hc := Lib.hid (hc.below hb)
  have hd1 := Lib.hid (hd.below hb (Nat.le_refl _))
  have hcall : Hid (∀ n, Calls Try.prog 46 #[.pointer (some ⟨X, 0, none⟩), .slice da ds.length dcap] (w1.drewN n) fun e w' => e = .returned (.bool false) ∧ Below w1.heap.size w1 w') := by
    intro n
    have hbn : Below w1.heap.size w1 (w1.drewN n) := pw_below_drewN (Below.refl _ _) n
    refine (hbad (w1.drewN n) X M1 lv _ (H.below hbn) (hd1.out.below hbn hb.size) hb.size).mono ?_
    rintro e w' ⟨rfl, hb2⟩
    exact ⟨rfl, below_step hbn hb2⟩
  have H := Lib.hid H
  have hN := Lib.hid hb.size
  have hX := Lib.hid hX
  have hM := Lib.hid hM
  have hlt := Lib.hid hlt
  have hdl := Lib.hid hdl
  have hdone := Lib.hid hdone
  have hone := Lib.hid hone
  have hlen := Lib.hid hlen
  clear c0 c1 c2 c3 c4 c7 c9 c10 c11 hd ht hr hn hb hbad
  show Calls Try.prog 45 #[.pointer (some ⟨X, 0, none⟩), .pointer (some ⟨B1, 0, none⟩), .pointer (some ⟨B2, 0, none⟩), .pointer (some ⟨B3, 0, none⟩), .pointer (some ⟨B4, 0, none⟩)] w1 _
  go_enter Try.func45, Try.ntmps45
  go_wp2_with (fail)
  go_quiet (fail)
  go_wp2_with (fail)
  refine Calls.mono (hcall.out _) ?_
  rintro e w2 ⟨rfl, hb2⟩
  have H2 := Lib.hid (FlowAt.below H hb2)
  have hc2 := Lib.hid (Caught.below hc hb2)
  have hd2 := Lib.hid (hd1.out.below hb2 hN.out)
  obtain ⟨q1, q2, q3, q4⟩ := hc2.out.cells
  have hN1 := hN
  have hN := Lib.hid (Nat.le_trans hN.out hb2.size)
  have hb2 := Lib.hid hb2
  have c9 : w2.cell? ⟨X, 9, none⟩ = some (.bool S.late) := H2.out.cell 9
  go_upto_region 5 with (fail)
  go_cut [41] (fun u wx => u = .bool false ∧ wx = w2)
  case first =>
    cases hl1 : S.late
    · rw [hl1] at c9
      go_wp2_with (fail)
      go_meet
      exact ⟨rfl, rfl⟩
    · rw [hl1] at c9
      have hl2 := Lib.hid hl1
      clear hl1
      rcases List.eq_nil_or_concat ds with h | ⟨l, d, h⟩
      · have hl0 : ds.length = 0 := by simp [h]
        rw [hl0] at q3
        clear h hl0
        go_wp2_with (fail)
        go_meet
        exact ⟨rfl, rfl⟩
      · have hk : ds.length = l.length + 1 := by simp [h]
        have hkd : ds[l.length]? = some d := by simp [h]
        have h5 : decide (5 ≤ d.kind) = false := by
          have := hlt.out
          simpa [lateBad, hl2.out, h] using this
        obtain ⟨A, off, cap, u, hv, _, d0, _⟩ := hd2.out.get hkd
        simp only [Value.slice.injEq] at hv
        obtain ⟨rfl, _, rfl⟩ := hv
        have hdl := hdl.out
        rw [hk] at q3 hdl
        clear h hkd hk
        generalize l.length = k at *
        generalize d.kind = dk at *
        go_wp2_with (fail)
        go_meet
        exact ⟨rfl, rfl⟩
  case rest =>
    obtain ⟨rfl, rfl⟩ := hcut
    have c7 : wc.cell? ⟨X, 7, none⟩ = some (.int .i64 S.begun) := H2.out.cell 7
    go_wp2_with (fail)
    go_still_tail 7, (by kernel_rfl)
    change wpList _ _ _ _ _ wc.drew
    have hwd : Below wc.heap.size wc wc.drew := below_drew (Below.refl _ _)
    have H3 := Lib.hid (FlowAt.below H2 hwd)
    have hb3 := Lib.hid (below_step hb2 hwd)
    have hc3 := Lib.hid (Caught.below hc2 hwd)
    have hd3 := Lib.hid (hd2.out.below hwd hN.out)
    have hN := Lib.hid (show w.heap.size ≤ wc.drew.heap.size from hN.out)
    clear hwd c7 c9 q1 q2 q3 q4 H2 hb2 hc2 hd2
    generalize wc.drew = w4 at *
    go_wp2_with (fail)
    refine (put_4 w4 X M1 lv S H3 (by omega) now S.begun 0 0 0 [] _ (Byt.none _)).mono ?_
    rintro e w5 ⟨lv5, rfl, H5, hm5⟩
    have hOwn : Hid (∀ b, Own X M1 b → w.heap.size ≤ b) := Lib.hid (own_ge hX.out hM.out)
    have hN1 : Hid (w.heap.size ≤ w1.heap.size) := hN1
    have hL5 : Hid (Loop w w1 w5 X M1 B1 B2 B3 B4 ref turn now (.slice da ds.length dcap) ds (runDs dn (decided1 S now) (ds.take 0)) lv5 (.slice none 0 0)) :=
      Lib.hid ⟨H5, OutRowB.nil _ _, (Mod.of_below hb3.out).trans hm5, hc3.out.mod hm5 hOwn.out hc0.out.lt, hd3.out.mod hm5 (FlowAt.noBytes H3) hN.out hOwn.out⟩
    have q3 := (hL5.out.caught).cells.2.2.1
    clear H3 hm5 hb3 hc3 hd3 hN H5
    go_wp2_with (fail)
    clear q3
    go_loopg [9, 78] ds.length (fun m out i wr => ∃ (k : Nat) (a : Option Addr) (n c : Nat) (lvk : Value), m = ds.length - k ∧ k ≤ ds.length ∧ i = .int .i64 k ∧ out = .slice a n c ∧ Hid (Loop w w1 wr X M1 B1 B2 B3 B4 ref turn now (.slice da ds.length dcap) ds (runDs dn (decided1 S now) (ds.take k)) lvk (.slice a n c)))
    case atStart => exact ⟨0, none, 0, 0, lv5, rfl, Nat.zero_le _, rfl, rfl, hL5⟩
    case round =>
      obtain ⟨k, a, n, c, lvk, rfl, hk, rfl, rfl, HL⟩ := hrel
      clear hL5
      by_cases hlt2 : k < ds.length
      · obtain ⟨d, hd⟩ : ∃ d, ds[k]? = some d := ⟨_, List.getElem?_eq_getElem hlt2⟩
        obtain ⟨A, off, cap, u, hv, hu, d0, d1, d2, d3, d4⟩ := HL.out.decs.get hd
        simp only [Value.slice.injEq] at hv
        obtain ⟨rfl, _, rfl⟩ := hv
        obtain ⟨ua, uc, rfl⟩ := hu.len
        have hdl1 := hdl.out
        have hu := Lib.hid hu
        have hstep := Lib.hid (runDs_step dn (decided1 S now) ds hd)
        have hdone1 := Lib.hid (hdone.out k d hd)
        have hfew := Lib.hid (Nat.le_trans (runDs_few dn hone.out (ds.take k) (decided1 S now)) (List.length_take_le _ _))
        have hone1 := Lib.hid (hone.out (runDs dn (decided1 S now) (ds.take k)).1 d)
        have hd := Lib.hid hd
        have g4 := HL.out.caught.cells.2.2.2
        have g4' : ∀ o, (wr.alloc o).cell? ⟨B4, 0, none⟩ = some (.int .i64 now) := fun o => Lib.cell?_alloc_some _ g4
        go_wp2_with (fail)
        have hba := below_alloc (Below.refl wr.heap.size wr) (.cells #[.int .i64 d.kind, .int .i64 d.id, .int .i64 d.list, .int .i64 d.n, .slice ua d.data.length uc] 24)
        have HF := FlowAt.below HL.out.flow hba
        have HO := Lib.hid (HL.out.outs.below hba)
        have HM := Lib.hid (Mod.trans HL.out.mod (Mod.of_below hba))
        have HC := Lib.hid (HL.out.caught.below hba)
        have HD := Lib.hid (HL.out.decs.below hba (Nat.le_trans hN1.out HL.out.mod.size))
        have hu := Lib.hid (Byt.below hu hba)
        refine (hdone1.out _ X M1 lvk _ HF hu).mono ?_
        have HF := Lib.hid HF
        clear hba g4 g4' d0 d1 d2 d3 d4 HL
        generalize wr.alloc (.cells #[.int .i64 d.kind, .int .i64 d.id, .int .i64 d.list, .int .i64 d.n, .slice ua d.data.length uc] 24) = wa at *
        rintro e w6 ⟨lv6, v6, rfl, ho6, H6, hm6⟩
        have hl6 := HM.out.size
        have HO6 := Lib.hid (HO.out.mod hm6 (FlowAt.noBytes HF) (FlowAt.noOuts HF))
        have HC6 := Lib.hid (HC.out.mod hm6 hOwn.out hc0.out.lt)
        have HD6 := Lib.hid (HD.out.mod hm6 (FlowAt.noBytes HF) (Nat.le_trans hN1.out hl6) hOwn.out)
        have HM6 := Lib.hid (Mod.trans HM.out hm6)
        have hN6 := Lib.hid (HM6.out.size)
        have H6 := Lib.hid H6
        obtain ⟨a6, c6', rfl⟩ := ho6.len
        have ho6 := Lib.hid ho6
        clear hl6 hm6 HO HC HD HM HF
        go_wp2_with (at_builtin; refine wpList_outs rfl _ _ rfl rfl rfl HO6.out ho6.out hN6.out (by have := hfew.out; have := hone1.out; have := hlt2; omega) ?_; intro a7 c7' w7 ho7 hm7)
        have hrow : ∀ b, OwnRow (.slice a6 (dn (runDs dn (decided1 S now) (ds.take k)).1 d).2.length c6') b → True := fun _ _ => trivial
        have hge : ∀ b, OwnRow (.slice a n c) b → w1.heap.size ≤ b := fun b hb => (HO6.out.at_ hb).1
        have HL7 : Loop w w1 w7 X M1 B1 B2 B3 B4 ref turn now (.slice (some ⟨A, off, none⟩) ds.length dcap) ds (runDs dn (decided1 S now) (ds.take (k + 1))) lv6 (.slice a7 ((runDs dn (decided1 S now) (ds.take k)).2 ++ (dn (runDs dn (decided1 S now) (ds.take k)).1 d).2).length c7') := by
          rw [hstep.out]
          exact ⟨FlowAt.other H6.out HO6.out hm7, ho7, Mod.fresh HM6.out hm7 hge, HC6.out.mod hm7 (fun b hb => Nat.le_trans hN1.out (hge b hb)) hc0.out.lt, HD6.out.mod hm7 HO6.out.noBytes (Nat.le_trans hN1.out hN6.out) (fun b hb => Nat.le_trans hN1.out (hge b hb))⟩
        clear hrow
        go_roundg (ds.length - (k + 1))
        case measure => omega
        case rel => exact ⟨k + 1, a7, _, c7', lv6, rfl, by omega, by go_num, rfl, Lib.hid (by have h := HL7; rw [List.length_append] at h; exact h)⟩
      · have hke : k = ds.length := by omega
        subst hke
        have ht := Lib.hid (List.take_length (l := ds))
        have hgo := Lib.hid (show goneSt dn S ds now = _ from rfl)
        have HL : Hid (Loop w w1 wr X M1 B1 B2 B3 B4 ref turn now (.slice da ds.length dcap) ds (runDs dn (decided1 S now) ds) lvk (.slice a n c)) := by
          have := HL.out
          rw [List.take_length] at this
          exact Lib.hid this
        have q4 := HL.out.caught.cells.2.2.2
        have hlt9 : ∃ b, S.late = b := ⟨_, rfl⟩
        obtain ⟨b, hb9⟩ := hlt9
        have hfew := Lib.hid (runDs_few dn hone.out ds (decided1 S now))
        cases b
        · have hgo2 : goneSt dn S ds now = runDs dn (decided1 S now) ds := by simp [goneSt, hb9]
          rw [hb9]
          have hb9 := Lib.hid hb9
          have hgo2 := Lib.hid hgo2
          go_wp2_with (fail)
          go_ret2
          try rw [hgo2.out]
          exact ⟨lvk, _, rfl, HL.out.outs.row, HL.out.flow, HL.out.mod⟩
        · rw [hb9]
          have hb9 := Lib.hid hb9
          go_wp2_with (fail)
          refine (fstatus wr X M1 lvk _ HL.out.flow).mono ?_
          rintro e w6 ⟨rfl, hb6⟩
          have HF6 := Lib.hid (FlowAt.below HL.out.flow hb6)
          have HO6 := Lib.hid (HL.out.outs.below hb6)
          have HM6 := Lib.hid (Mod.trans HL.out.mod (Mod.of_below hb6))
          have q4 := (HL.out.caught.below hb6).cells.2.2.2
          clear HL hb6
          cases hst : (statusOf (runDs dn (decided1 S now) ds).1.L == 1)
          · have hgo2 : goneSt dn S ds now = runDs dn (decided1 S now) ds := by simp [goneSt, hb9.out, hst]
            have hgo2 := Lib.hid hgo2
            go_wp2_with (fail)
            go_ret2
            try rw [hgo2.out]
            exact ⟨lvk, _, rfl, HO6.out.row, HF6.out, HM6.out⟩
          · have hgo2 : goneSt dn S ds now = (sched (runDs dn (decided1 S now) ds).1 now, (runDs dn (decided1 S now) ds).2 ++ [taskOut (runDs dn (decided1 S now) ds).1]) := by simp [goneSt, hb9.out, hst]
            have hgo2 := Lib.hid hgo2
            have hN6 := Lib.hid (HM6.out.size)
            go_wp2_with (fail)
            refine (schedule_any w6 X M1 lvk _ HF6 hlen.out now).mono ?_
            rintro e w7 ⟨lv7, v7, rfl, ho7, H7, hm7⟩
            have HO7 := Lib.hid (HO6.out.mod hm7 (FlowAt.noBytes HF6) (FlowAt.noOuts HF6))
            have HM7 := Lib.hid (Mod.trans HM6.out hm7)
            have hN7 := Lib.hid (HM7.out.size)
            have H7 := Lib.hid H7
            obtain ⟨a7, c7', rfl⟩ := ho7.len
            have ho7 := Lib.hid ho7
            clear hm7 HO6 HM6 HF6 hN6
            go_wp2_with (at_builtin; refine wpList_outs rfl _ _ rfl rfl rfl HO7.out ho7.out hN7.out (by have := hfew.out; have := hdl.out; simp; omega) ?_; intro a8 c8' w8 ho8 hm8)
            have hge : ∀ b, OwnRow (.slice a n c) b → w1.heap.size ≤ b := fun b hb => (HO7.out.at_ hb).1
            have HR : FlowAt w8 X M1 lv7 (sched (runDs dn (decided1 S now) ds).1 now) ∧ Mod (Own X M1) w1 w8 := ⟨FlowAt.other H7.out HO7.out hm8, Mod.fresh HM7.out hm8 hge⟩
            have HR := Lib.hid HR
            rw [List.length_append] at ho8
            have ho8 := Lib.hid ho8
            clear hge hm8
            go_wp2_with (fail)
            go_ret2
            try rw [hgo2.out]
            exact ⟨lv7, _, rfl, ho8.out.row, HR.out.1, HR.out.2⟩

end Go.Proofs.Ytedpeambmmhcnaa.Base

/- Decide, over its closure. Conditions: those at each theorem. -/
namespace Go.Proofs.Ytedpeambmmhcnaa.Base
open Go.RowKit Go.Maps Go.Proofs.YtedpeambmmhcnaaW.PrintWords Go.Proofs.Ytedpeambmmhcnaa.Kit

set_option maxHeartbeats 8000000 in
theorem decide_any (w : World) (F M : Nat) (lv : Value) (S : St) (h : FlowAt w F M lv S) (ref turn now : Int) (a : Option Addr) (n cap : Nat) (hr : rightOf S.L 0 now = true) (hs : statusOf S.L = 1) (os : List OutE) (err : Int) (S1 : St)
    (hdo : ∀ w0 B1 B2 B3 B4, Below w.heap.size w w0 → Caught w0 B1 B2 B3 B4 ref turn now (.slice a n cap) → Does w0 45 (caps B1 B2 B3 B4) lv S os err S1) (ho : err = 0 ∨ S1.L.length ≠ S.L.length) (hn : S1.L.length ≤ 4096) :
    Calls Try.prog 15 #[.pointer (some ⟨F, 0, none⟩), .int .i64 ref, .int .i64 turn, .slice a n cap, .int .i64 now] w (Did w F M os err S1) := by
  have H := Lib.hid h
  have hcf := enter_of Try.func45 (by kernel_rfl) (by kernel_rfl)
  have hdo := Lib.hid hdo
  have ho := Lib.hid ho
  clear h
  go_enter Try.func15, Try.ntmps15
  go_wp2_with (fail)
  have hB : Below w.heap.size w ((((w.alloc (.cells #[.int .i64 ref] 3)).alloc (.cells #[.int .i64 turn] 3)).alloc (.cells #[.slice a n cap] 37)).alloc (.cells #[.int .i64 now] 3)) := below_alloc (below_alloc (below_alloc (below_alloc (Below.refl _ _) _) _) _) _
  have k1 := blk_alloc (blk_alloc (blk_alloc (blk_new w (.cells #[.int .i64 ref] 3)) (.cells #[.int .i64 turn] 3)) (.cells #[.slice a n cap] 37)) (.cells #[.int .i64 now] 3)
  have k2 := blk_alloc (blk_alloc (blk_new (w.alloc (.cells #[.int .i64 ref] 3)) (.cells #[.int .i64 turn] 3)) (.cells #[.slice a n cap] 37)) (.cells #[.int .i64 now] 3)
  have k3 := blk_alloc (blk_new ((w.alloc (.cells #[.int .i64 ref] 3)).alloc (.cells #[.int .i64 turn] 3)) (.cells #[.slice a n cap] 37)) (.cells #[.int .i64 now] 3)
  have k4 := blk_new (((w.alloc (.cells #[.int .i64 ref] 3)).alloc (.cells #[.int .i64 turn] 3)).alloc (.cells #[.slice a n cap] 37)) (.cells #[.int .i64 now] 3)
  have hC : Caught ((((w.alloc (.cells #[.int .i64 ref] 3)).alloc (.cells #[.int .i64 turn] 3)).alloc (.cells #[.slice a n cap] 37)).alloc (.cells #[.int .i64 now] 3)) w.heap.size (w.heap.size + 1) (w.heap.size + 1 + 1) (w.heap.size + 1 + 1 + 1) ref turn now (.slice a n cap) :=
    ⟨k1, by simpa using k2, by simpa using k3, by simpa using k4⟩
  have HB := FlowAt.below H hB
  refine (try_ok _ F M lv S HB (.slice none 0 0) [] (Byt.none _) now 45 _ hcf hr hs _ err _ (hdo.out _ _ _ _ _ hB hC) ho.out hn).mono ?_
  intro e w' hd
  obtain ⟨M', lv', v', rfl, r1, r2, r3, r4⟩ := Did.pre hd hB
  have r1 := Lib.hid r1
  have r2 := Lib.hid r2
  have r3 := Lib.hid r3
  have r4 := Lib.hid r4
  clear hd hB k1 k2 k3 k4 hC HB
  go_wp2_with (fail)
  go_ret2
  exact ⟨M', lv', v', rfl, r1, r2, r3, r4⟩

end Go.Proofs.Ytedpeambmmhcnaa.Base

/- A decision that closes is done. Conditions: those at each theorem. -/
namespace Go.Proofs.Ytedpeambmmhcnaa.Base
open Go.RowKit Go.Maps Go.Proofs.YtedpeambmmhcnaaW.PrintWords Go.Proofs.Ytedpeambmmhcnaa.Kit

set_option maxHeartbeats 8000000 in
theorem done_5 (w : World) (F M : Nat) (lv : Value) (S : St) (h : FlowAt w F M lv S) (hL : S.L.length ≤ 8000) (di dl dn now : Int) (bs : List Int) (v : Value) (hv : Byt w v bs) :
    Calls Try.prog 48 #[.pointer (some ⟨F, 0, none⟩), .agg #[.int .i64 5, .int .i64 di, .int .i64 dl, .int .i64 dn, v], .int .i64 now] w fun e w' => ∃ lv' v', e = .returned v' ∧ OutRow w' v' [closeOut 20 bs] ∧ FlowAt w' F M lv' (closed S 20 now bs) ∧ Mod (Own F M) w w' := by
  obtain ⟨va, vcap, rfl⟩ := hv.len
  have hB := below_alloc (Below.refl w.heap.size w) (.cells #[.int .i64 5, .int .i64 di, .int .i64 dl, .int .i64 dn, .slice va bs.length vcap] 24)
  have H := Lib.hid (FlowAt.below h hB)
  have hv1 := Lib.hid (hv.below hB)
  have kb := Lib.hid (blk_new w (.cells #[.int .i64 5, .int .i64 di, .int .i64 dl, .int .i64 dn, .slice va bs.length vcap] 24))
  have hB := Lib.hid hB
  clear h hv
  go_enter Try.func48, Try.ntmps48
  go_wp2_with (fail)
  refine (clone_any _ _ _ hv1).mono ?_
  rintro e w1 ⟨v1, rfl, hv2, hb1⟩
  obtain ⟨va1, vcap1, rfl⟩ := hv2.len
  have k1 := blk_below (show _ from kb) hb1
  have H1 := Lib.hid (FlowAt.below H hb1)
  have hv2 := Lib.hid hv2
  have hB1 := Lib.hid (below_step hB hb1)
  clear hb1 kb hv1 hB H
  generalize w.heap.size = X at k1 ⊢
  have b0 : w1.cell? ⟨X, 0, none⟩ = some (.int .i64 5) := blk_cell k1 0
  have b1 : w1.cell? ⟨X, 1, none⟩ = some (.int .i64 di) := blk_cell k1 1
  have b2 : w1.cell? ⟨X, 2, none⟩ = some (.int .i64 dl) := blk_cell k1 2
  have b3 : w1.cell? ⟨X, 3, none⟩ = some (.int .i64 dn) := blk_cell k1 3
  have b0' : ∀ o, (w1.alloc o).cell? ⟨X, 0, none⟩ = some (.int .i64 5) := fun o => Lib.cell?_alloc_some _ b0
  have b0'' : ∀ o o', ((w1.alloc o).alloc o').cell? ⟨X, 0, none⟩ = some (.int .i64 5) := fun o o' => Lib.cell?_alloc_some _ (b0' o)
  go_wp2_with (fail)
  have hB2 : Below w1.heap.size w1 ((w1.alloc (.cells #[.int .i64 0, .int .i64 now, .int .i64 0, .int .i64 di, .int .i64 dl, .int .i64 dn, .slice va1 bs.length vcap1] 79)).alloc (.cells #[.int .i64 0, .int .i64 0, .int .i64 0, .int .i64 0, .int .i64 0, .int .i64 20, .int .i64 21, .int .i64 22, .int .i64 19] 122)) := below_alloc (below_alloc (Below.refl _ _) _) _
  refine (close_any _ F M lv S (FlowAt.below H1 hB2) hL 20 (by simp) now bs _ (Byt.below hv2 hB2)).mono ?_
  rintro e w4 ⟨lv4, v4, rfl, ho, H4, hm4⟩
  have ho := Lib.hid ho
  have H4 := Lib.hid H4
  have hm4 := Lib.hid ((Mod.of_below (below_step hB1 hB2)).trans hm4)
  clear hB2
  go_wp2_with (fail)
  go_ret
  exact ⟨lv4, v4, rfl, ho, H4, hm4⟩

set_option maxHeartbeats 8000000 in
theorem done_6 (w : World) (F M : Nat) (lv : Value) (S : St) (h : FlowAt w F M lv S) (hL : S.L.length ≤ 8000) (di dl dn now : Int) (bs : List Int) (v : Value) (hv : Byt w v bs) :
    Calls Try.prog 48 #[.pointer (some ⟨F, 0, none⟩), .agg #[.int .i64 6, .int .i64 di, .int .i64 dl, .int .i64 dn, v], .int .i64 now] w fun e w' => ∃ lv' v', e = .returned v' ∧ OutRow w' v' [closeOut 21 bs] ∧ FlowAt w' F M lv' (closed S 21 now bs) ∧ Mod (Own F M) w w' := by
  obtain ⟨va, vcap, rfl⟩ := hv.len
  have hB := below_alloc (Below.refl w.heap.size w) (.cells #[.int .i64 6, .int .i64 di, .int .i64 dl, .int .i64 dn, .slice va bs.length vcap] 24)
  have H := Lib.hid (FlowAt.below h hB)
  have hv1 := Lib.hid (hv.below hB)
  have kb := Lib.hid (blk_new w (.cells #[.int .i64 6, .int .i64 di, .int .i64 dl, .int .i64 dn, .slice va bs.length vcap] 24))
  have hB := Lib.hid hB
  clear h hv
  go_enter Try.func48, Try.ntmps48
  go_wp2_with (fail)
  refine (clone_any _ _ _ hv1).mono ?_
  rintro e w1 ⟨v1, rfl, hv2, hb1⟩
  obtain ⟨va1, vcap1, rfl⟩ := hv2.len
  have k1 := blk_below (show _ from kb) hb1
  have H1 := Lib.hid (FlowAt.below H hb1)
  have hv2 := Lib.hid hv2
  have hB1 := Lib.hid (below_step hB hb1)
  clear hb1 kb hv1 hB H
  generalize w.heap.size = X at k1 ⊢
  have b0 : w1.cell? ⟨X, 0, none⟩ = some (.int .i64 6) := blk_cell k1 0
  have b1 : w1.cell? ⟨X, 1, none⟩ = some (.int .i64 di) := blk_cell k1 1
  have b2 : w1.cell? ⟨X, 2, none⟩ = some (.int .i64 dl) := blk_cell k1 2
  have b3 : w1.cell? ⟨X, 3, none⟩ = some (.int .i64 dn) := blk_cell k1 3
  have b0' : ∀ o, (w1.alloc o).cell? ⟨X, 0, none⟩ = some (.int .i64 6) := fun o => Lib.cell?_alloc_some _ b0
  have b0'' : ∀ o o', ((w1.alloc o).alloc o').cell? ⟨X, 0, none⟩ = some (.int .i64 6) := fun o o' => Lib.cell?_alloc_some _ (b0' o)
  go_wp2_with (fail)
  have hB2 : Below w1.heap.size w1 ((w1.alloc (.cells #[.int .i64 0, .int .i64 now, .int .i64 0, .int .i64 di, .int .i64 dl, .int .i64 dn, .slice va1 bs.length vcap1] 79)).alloc (.cells #[.int .i64 0, .int .i64 0, .int .i64 0, .int .i64 0, .int .i64 0, .int .i64 20, .int .i64 21, .int .i64 22, .int .i64 19] 122)) := below_alloc (below_alloc (Below.refl _ _) _) _
  refine (close_any _ F M lv S (FlowAt.below H1 hB2) hL 21 (by simp) now bs _ (Byt.below hv2 hB2)).mono ?_
  rintro e w4 ⟨lv4, v4, rfl, ho, H4, hm4⟩
  have ho := Lib.hid ho
  have H4 := Lib.hid H4
  have hm4 := Lib.hid ((Mod.of_below (below_step hB1 hB2)).trans hm4)
  clear hB2
  go_wp2_with (fail)
  go_ret
  exact ⟨lv4, v4, rfl, ho, H4, hm4⟩

set_option maxHeartbeats 8000000 in
theorem done_7 (w : World) (F M : Nat) (lv : Value) (S : St) (h : FlowAt w F M lv S) (hL : S.L.length ≤ 8000) (di dl dn now : Int) (bs : List Int) (v : Value) (hv : Byt w v bs) :
    Calls Try.prog 48 #[.pointer (some ⟨F, 0, none⟩), .agg #[.int .i64 7, .int .i64 di, .int .i64 dl, .int .i64 dn, v], .int .i64 now] w fun e w' => ∃ lv' v', e = .returned v' ∧ OutRow w' v' [closeOut 22 bs] ∧ FlowAt w' F M lv' (closed S 22 now bs) ∧ Mod (Own F M) w w' := by
  obtain ⟨va, vcap, rfl⟩ := hv.len
  have hB := below_alloc (Below.refl w.heap.size w) (.cells #[.int .i64 7, .int .i64 di, .int .i64 dl, .int .i64 dn, .slice va bs.length vcap] 24)
  have H := Lib.hid (FlowAt.below h hB)
  have hv1 := Lib.hid (hv.below hB)
  have kb := Lib.hid (blk_new w (.cells #[.int .i64 7, .int .i64 di, .int .i64 dl, .int .i64 dn, .slice va bs.length vcap] 24))
  have hB := Lib.hid hB
  clear h hv
  go_enter Try.func48, Try.ntmps48
  go_wp2_with (fail)
  refine (clone_any _ _ _ hv1).mono ?_
  rintro e w1 ⟨v1, rfl, hv2, hb1⟩
  obtain ⟨va1, vcap1, rfl⟩ := hv2.len
  have k1 := blk_below (show _ from kb) hb1
  have H1 := Lib.hid (FlowAt.below H hb1)
  have hv2 := Lib.hid hv2
  have hB1 := Lib.hid (below_step hB hb1)
  clear hb1 kb hv1 hB H
  generalize w.heap.size = X at k1 ⊢
  have b0 : w1.cell? ⟨X, 0, none⟩ = some (.int .i64 7) := blk_cell k1 0
  have b1 : w1.cell? ⟨X, 1, none⟩ = some (.int .i64 di) := blk_cell k1 1
  have b2 : w1.cell? ⟨X, 2, none⟩ = some (.int .i64 dl) := blk_cell k1 2
  have b3 : w1.cell? ⟨X, 3, none⟩ = some (.int .i64 dn) := blk_cell k1 3
  have b0' : ∀ o, (w1.alloc o).cell? ⟨X, 0, none⟩ = some (.int .i64 7) := fun o => Lib.cell?_alloc_some _ b0
  have b0'' : ∀ o o', ((w1.alloc o).alloc o').cell? ⟨X, 0, none⟩ = some (.int .i64 7) := fun o o' => Lib.cell?_alloc_some _ (b0' o)
  go_wp2_with (fail)
  have hB2 : Below w1.heap.size w1 ((w1.alloc (.cells #[.int .i64 0, .int .i64 now, .int .i64 0, .int .i64 di, .int .i64 dl, .int .i64 dn, .slice va1 bs.length vcap1] 79)).alloc (.cells #[.int .i64 0, .int .i64 0, .int .i64 0, .int .i64 0, .int .i64 0, .int .i64 20, .int .i64 21, .int .i64 22, .int .i64 19] 122)) := below_alloc (below_alloc (Below.refl _ _) _) _
  refine (close_any _ F M lv S (FlowAt.below H1 hB2) hL 22 (by simp) now bs _ (Byt.below hv2 hB2)).mono ?_
  rintro e w4 ⟨lv4, v4, rfl, ho, H4, hm4⟩
  have ho := Lib.hid ho
  have H4 := Lib.hid H4
  have hm4 := Lib.hid ((Mod.of_below (below_step hB1 hB2)).trans hm4)
  clear hB2
  go_wp2_with (fail)
  go_ret
  exact ⟨lv4, v4, rfl, ho, H4, hm4⟩

set_option maxHeartbeats 8000000 in
theorem done_8 (w : World) (F M : Nat) (lv : Value) (S : St) (h : FlowAt w F M lv S) (hL : S.L.length ≤ 8000) (di dl dn now : Int) (bs : List Int) (v : Value) (hv : Byt w v bs) :
    Calls Try.prog 48 #[.pointer (some ⟨F, 0, none⟩), .agg #[.int .i64 8, .int .i64 di, .int .i64 dl, .int .i64 dn, v], .int .i64 now] w fun e w' => ∃ lv' v', e = .returned v' ∧ OutRow w' v' [closeOut 19 bs] ∧ FlowAt w' F M lv' (closed S 19 now bs) ∧ Mod (Own F M) w w' := by
  obtain ⟨va, vcap, rfl⟩ := hv.len
  have hB := below_alloc (Below.refl w.heap.size w) (.cells #[.int .i64 8, .int .i64 di, .int .i64 dl, .int .i64 dn, .slice va bs.length vcap] 24)
  have H := Lib.hid (FlowAt.below h hB)
  have hv1 := Lib.hid (hv.below hB)
  have kb := Lib.hid (blk_new w (.cells #[.int .i64 8, .int .i64 di, .int .i64 dl, .int .i64 dn, .slice va bs.length vcap] 24))
  have hB := Lib.hid hB
  clear h hv
  go_enter Try.func48, Try.ntmps48
  go_wp2_with (fail)
  refine (clone_any _ _ _ hv1).mono ?_
  rintro e w1 ⟨v1, rfl, hv2, hb1⟩
  obtain ⟨va1, vcap1, rfl⟩ := hv2.len
  have k1 := blk_below (show _ from kb) hb1
  have H1 := Lib.hid (FlowAt.below H hb1)
  have hv2 := Lib.hid hv2
  have hB1 := Lib.hid (below_step hB hb1)
  clear hb1 kb hv1 hB H
  generalize w.heap.size = X at k1 ⊢
  have b0 : w1.cell? ⟨X, 0, none⟩ = some (.int .i64 8) := blk_cell k1 0
  have b1 : w1.cell? ⟨X, 1, none⟩ = some (.int .i64 di) := blk_cell k1 1
  have b2 : w1.cell? ⟨X, 2, none⟩ = some (.int .i64 dl) := blk_cell k1 2
  have b3 : w1.cell? ⟨X, 3, none⟩ = some (.int .i64 dn) := blk_cell k1 3
  have b0' : ∀ o, (w1.alloc o).cell? ⟨X, 0, none⟩ = some (.int .i64 8) := fun o => Lib.cell?_alloc_some _ b0
  have b0'' : ∀ o o', ((w1.alloc o).alloc o').cell? ⟨X, 0, none⟩ = some (.int .i64 8) := fun o o' => Lib.cell?_alloc_some _ (b0' o)
  go_wp2_with (fail)
  have hB2 : Below w1.heap.size w1 ((w1.alloc (.cells #[.int .i64 0, .int .i64 now, .int .i64 0, .int .i64 di, .int .i64 dl, .int .i64 dn, .slice va1 bs.length vcap1] 79)).alloc (.cells #[.int .i64 0, .int .i64 0, .int .i64 0, .int .i64 0, .int .i64 0, .int .i64 20, .int .i64 21, .int .i64 22, .int .i64 19] 122)) := below_alloc (below_alloc (Below.refl _ _) _) _
  refine (close_any _ F M lv S (FlowAt.below H1 hB2) hL 19 (by simp) now bs _ (Byt.below hv2 hB2)).mono ?_
  rintro e w4 ⟨lv4, v4, rfl, ho, H4, hm4⟩
  have ho := Lib.hid ho
  have H4 := Lib.hid H4
  have hm4 := Lib.hid ((Mod.of_below (below_step hB1 hB2)).trans hm4)
  clear hB2
  go_wp2_with (fail)
  go_ret
  exact ⟨lv4, v4, rfl, ho, H4, hm4⟩

end Go.Proofs.Ytedpeambmmhcnaa.Base

/- What comes out grows: one row of outs behind another. Conditions: those at each theorem. -/
import Derived.Test.YtedpeambmmhcnaaSched
import Derived.Maps.AppendAt
import Derived.Laws.AppendOwnNone
set_option maxRecDepth 100000
namespace Go.Proofs.Ytedpeambmmhcnaa.Base
open Go.RowKit Go.Maps Go.Proofs.YtedpeambmmhcnaaW.PrintWords Go.Proofs.Ytedpeambmmhcnaa.Kit

/-- No byte lies in the row's own block. -/
def PlainRow (w : World) (v : Value) : Prop := ∀ g cur, v.ownBlock = some g → w.heap[g]? = some (.cells cur 40 (0, 0)) → ∀ u ∈ cur.toList, ∀ q, u ≠ .int .u8 q

/-- A row of outs that the call owns; its block lies at N or behind. -/
def OutRowB (N : Nat) (w : World) (v : Value) (L : List OutE) : Prop :=
  (∃ vs : List Value, vs.length = L.length ∧ w.ownsRow N 40 8 v L.length (outRowOf L vs) ∧ ∀ (i : Nat) (o : OutE) (u : Value), L[i]? = some o → vs[i]? = some u → Byt w u o.data) ∧ PlainRow w v

def OwnRow (v : Value) : Nat → Prop := fun k => v.ownBlock = some k

theorem OutRowB.nil (N : Nat) (w : World) : OutRowB N w (.slice none 0 0) [] := ⟨⟨[], rfl, World.ownsRow_nil _ _ _ _, fun i e u h => by simp at h⟩, fun g cur h => by simp [Value.ownBlock] at h⟩

theorem OutRowB.row {N : Nat} {w : World} {v : Value} {L : List OutE} (h : OutRowB N w v L) : OutRow w v L := by
  obtain ⟨⟨vs, hl, h, hb⟩, _⟩ := h
  refine ⟨vs, hl, ⟨h.1, ?_⟩, hb⟩
  rcases h.2 with h0 | ⟨g, cap, cur, hv, h1, hr⟩
  · exact .inl h0
  · exact .inr ⟨g, cap, cur, hv, Nat.zero_le _, hr⟩

theorem OutRowB.at_ {N : Nat} {w : World} {v : Value} {L : List OutE} (h : OutRowB N w v L) {k : Nat} (hk : OwnRow v k) : N ≤ k ∧ ∃ cur, w.heap[k]? = some (.cells cur 40 (0, 0)) := by
  obtain ⟨⟨vs, hl, h, hb⟩, _⟩ := h
  rcases h.2 with ⟨rfl, _⟩ | ⟨g, cap, cur, rfl, h1, hg, _⟩
  · simp [OwnRow, Value.ownBlock] at hk
  · simp [OwnRow, Value.ownBlock] at hk
    subst hk
    exact ⟨h1, cur, hg⟩

theorem OutRowB.noBytes {N : Nat} {w : World} {v : Value} {L : List OutE} (h : OutRowB N w v L) : NoBytes w (OwnRow v) := by
  intro k hk i q hc
  obtain ⟨_, cur, hg⟩ := h.at_ hk
  rw [blk_cell hg i] at hc
  exact h.2 k cur hk hg _ (by simpa using Array.mem_of_getElem? hc) q rfl

theorem OutRowB.noEvs {N : Nat} {w : World} {v : Value} {L : List OutE} (h : OutRowB N w v L) : NoEvs w (OwnRow v) := by
  intro k hk cur hc
  obtain ⟨_, cur', hg⟩ := h.at_ hk
  rw [hg] at hc
  simp at hc

theorem OutRowB.mod {N : Nat} {w w' : World} {S : Nat → Prop} {v : Value} {L : List OutE} (h : OutRowB N w v L) (hm : Mod S w w') (hS : NoBytes w S) (hE : NoOuts w S) : OutRowB N w' v L := by
  have hk : ∀ k, OwnRow v k → w'.heap[k]? = w.heap[k]? := by
    intro k hk
    obtain ⟨_, cur, hg⟩ := h.at_ hk
    exact hm.block k (Array.getElem?_eq_some_iff.1 hg).1 (fun hs => hE k hs _ hg)
  obtain ⟨⟨vs, hl, h, hb⟩, hp⟩ := h
  refine ⟨⟨vs, hl, ⟨h.1, ?_⟩, fun i e u he hu => (hb i e u he hu).mod hm hS⟩, fun g cur hg hc => hp g cur hg ((hk g hg).symm.trans hc)⟩
  rcases h.2 with h0 | ⟨g, cap, cur, hv, h1, hg, hr⟩
  · exact .inl h0
  · exact .inr ⟨g, cap, cur, hv, h1, (hk g (by rw [hv]; rfl)).trans hg, hr⟩

theorem OutRowB.below {N : Nat} {w w' : World} {v : Value} {L : List OutE} (h : OutRowB N w v L) (hb : Below w.heap.size w w') : OutRowB N w' v L :=
  h.mod (S := fun _ => False) (Mod.of_below hb) (fun _ hk => hk.elim) (fun _ hk => hk.elim)

theorem OutRowB.len {N : Nat} {w : World} {v : Value} {L : List OutE} (h : OutRowB N w v L) : ∃ a cap, v = .slice a L.length cap := h.row.len

theorem FlowAt.other {w w' : World} {F M : Nat} {lv v : Value} {S : St} {N : Nat} {L : List OutE} (h : FlowAt w F M lv S) (ho : OutRowB N w v L) (hm : Mod (OwnRow v) w w') : FlowAt w' F M lv S := by
  have n1 : ¬ OwnRow v F := fun hk => by
    obtain ⟨_, cur, hg⟩ := ho.at_ hk
    rw [h.blk] at hg
    simp at hg
  have n2 : ¬ OwnRow v M := fun hk => by
    obtain ⟨_, cur, hg⟩ := ho.at_ hk
    obtain ⟨es, clock, hb⟩ := h.map.blk
    rw [hb] at hg
    simp at hg
  exact ⟨hm.blk h.blk n1, h.row.mod hm ho.noBytes ho.noEvs, h.map.mod hm n2, h.few⟩

theorem outRowOf_len : ∀ (L : List OutE) (vs : List Value), vs.length = L.length → (outRowOf L vs).length = L.length * 8
  | [], [], _ => rfl
  | [], _ :: _, h => by simp at h
  | _ :: _, [], h => by simp at h
  | e :: L, v :: vs, h => by
    have := outRowOf_len L vs (by simpa using h)
    simp [outRowOf, outCells, this]
    omega

theorem outRowOf_append : ∀ (L : List OutE) (vs : List Value) (L' : List OutE) (vs' : List Value), vs.length = L.length → outRowOf (L ++ L') (vs ++ vs') = outRowOf L vs ++ outRowOf L' vs'
  | [], [], _, _, _ => by simp [outRowOf]
  | [], _ :: _, _, _, h => by simp at h
  | _ :: _, [], _, _, h => by simp at h
  | e :: L, v :: vs, L', vs', h => by
    have := outRowOf_append L vs L' vs' (by simpa using h)
    simp [outRowOf, this]

theorem outRowOf_one : ∀ (L : List OutE) (vs : List Value), (∀ u ∈ vs, ∃ a n c, u = .slice a n c) → ∀ u ∈ outRowOf L vs, u.oneCell' = true ∧ ∀ q, u ≠ .int .u8 q
  | [], _, _ => by simp [outRowOf]
  | _ :: _, [], _ => by simp [outRowOf]
  | e :: L, v :: vs, h => by
    intro u hu
    obtain ⟨a, n, c, rfl⟩ := h v (List.mem_cons_self ..)
    simp only [outRowOf, List.mem_append] at hu
    rcases hu with hu | hu
    · simp only [outCells, List.mem_cons, List.not_mem_nil, or_false] at hu
      rcases hu with rfl | rfl | rfl | rfl | rfl | rfl | rfl | rfl <;> exact ⟨rfl, fun q h => by cases h⟩
    · exact outRowOf_one L vs (fun u hu => h u (List.mem_cons_of_mem _ hu)) u hu

theorem zeros_plain (n : Nat) : ∀ u ∈ (Builtin.zeroCells (Value.agg #[.int .i64 0, .int .i64 0, .int .i64 0, .int .i64 0, .int .i64 0, .int .i64 0, .int .i64 0, .slice none 0 0]).cells n).toList, ∀ q, u ≠ .int .u8 q := by
  intro u hu q he
  subst he
  simp only [Builtin.zeroCells, Array.toList_map, List.mem_map] at hu
  obtain ⟨i, _, hi⟩ := hu
  have hlt := Nat.mod_lt i (show 0 < 8 by decide)
  revert hi
  show (#[Value.int .i64 0, .int .i64 0, .int .i64 0, .int .i64 0, .int .i64 0, .int .i64 0, .int .i64 0, .slice none 0 0] : Array Value)[i % 8]! ≠ _
  generalize i % 8 = j at hlt
  rcases j with _|_|_|_|_|_|_|_|j
  all_goals first
    | omega
    | (intro h; cases h)

/-- The row that append makes holds no byte. -/
theorem plain_append {w w' : World} {N : Nat} {v v' : Value} {n m c ty : Nat} {xs news : List Value} {ad : Addr} (hown : w.ownsRow N 40 8 v n xs) (hp : PlainRow w v) (hl : news.length = m * 8)
    (hnews : ∀ j u, news[j]? = some u → w.cell? (ad.add j) = some u) (h1 : ∀ u ∈ news, u.oneCell' = true ∧ ∀ q, u ≠ .int .u8 q) (hle : n + m ≤ 10000)
    (hrun : (Builtin.append_ #[28, 28] ty #[v, .slice (some ad) m c]).run Try.prog w = .ok v' w') (hnil : v' = .slice none 0 0 ↔ v = .slice none 0 0 ∧ m = 0) : PlainRow w' v' := by
  obtain ⟨i0, hi, hz0, hz1, hz2⟩ := info_parts info40
  have hx : ∀ u ∈ xs, ∀ q, u ≠ .int .u8 q := by
    intro u hu
    rcases hown.2 with ⟨rfl, rfl⟩ | ⟨g, cap, cur, rfl, _, hg, _, _, _, htake⟩
    · have : xs = [] := List.eq_nil_of_length_eq_zero (by simpa using hown.1)
      subst this
      simp at hu
    · rw [← htake] at hu
      exact hp g cur rfl hg u (List.mem_of_mem_take hu)
  intro g cur hb hg u hu q
  have grown : ∀ (k : Nat), w' = w.drew.alloc (.cells (xs.toArray ++ news.toArray ++ Builtin.zeroCells (Value.agg #[.int .i64 0, .int .i64 0, .int .i64 0, .int .i64 0, .int .i64 0, .int .i64 0, .int .i64 0, .slice none 0 0]).cells k) 40) → g = w.heap.size → u ≠ .int .u8 q := by
    intro k hw hgs
    subst hw hgs
    rw [show (w.drew.alloc (.cells (xs.toArray ++ news.toArray ++ Builtin.zeroCells (Value.agg #[.int .i64 0, .int .i64 0, .int .i64 0, .int .i64 0, .int .i64 0, .int .i64 0, .int .i64 0, .slice none 0 0]).cells k) 40)).heap[w.heap.size]? = _ from blk_new w.drew _] at hg
    simp only [Option.some.injEq, Obj.cells.injEq, and_true] at hg
    subst hg
    simp only [Array.toList_append, List.mem_append] at hu
    rcases hu with (hu | hu) | hu
    · exact hx u (by simpa using hu) q
    · exact (h1 u (by simpa using hu)).2 q
    · exact zeros_plain _ u hu q
  have hs8 : i0.size = 8 := hz1
  rcases hown.2 with ⟨rfl, rfl⟩ | ⟨g', cap, cur', rfl, _, hg', hnc, hcm, hcs, htake⟩
  · have hxs : xs = [] := List.eq_nil_of_length_eq_zero (by simpa using hown.1)
    subst hxs
    by_cases hm : m = 0
    · have := hnil.2 ⟨rfl, hm⟩
      subst this
      simp [Value.ownBlock] at hb
    · have hr := run_append_nil (P := Try.prog) w 28 ty 40 i0 _ u28 hi hz0 ad m c news (by rw [hs8]; exact hl) hnews (by omega) (by omega) (by rw [hz2]; omega)
      rw [hr] at hrun
      simp only [Result.ok.injEq] at hrun
      obtain ⟨rfl, rfl⟩ := hrun
      simp [Value.ownBlock] at hb
      exact grown (grownCap w m 0 40 - m) (by simp) hb.symm
  · by_cases hroom : n + m ≤ cap
    · have hfit : n * i0.size + news.length ≤ cur'.size := by rw [hl, hcs, hs8, ← Nat.add_mul]; exact Nat.mul_le_mul_right _ hroom
      have hr := run_append_room (P := Try.prog) w 28 ty 40 i0 u28 hi g' n cap cur' hg' ad m c news (by rw [hs8]; exact hl) hnews (fun u hu => (h1 u hu).1) hroom hfit
      rw [hr] at hrun
      simp only [Result.ok.injEq] at hrun
      obtain ⟨rfl, rfl⟩ := hrun
      simp [Value.ownBlock] at hb
      subst hb
      rw [setRow_heap w g' cur' _ 40 _ hg'] at hg
      simp only [Option.some.injEq, Obj.cells.injEq, and_true] at hg
      subst hg
      simp only [List.mem_append] at hu
      rcases hu with (hu | hu) | hu
      · exact hp g' cur' rfl hg' u (List.mem_of_mem_take hu) q
      · exact (h1 u hu).2 q
      · exact hp g' cur' rfl hg' u (List.mem_of_mem_drop hu) q
    · have holds : ∀ j u, xs[j]? = some u → w.cell? ((⟨g', 0, none⟩ : Addr).add j) = some u := hown.cells (g := g') rfl
      have hr := run_append_grow (P := Try.prog) w 28 ty 40 i0 _ u28 hi hz0 ⟨g', 0, none⟩ n cap xs (by rw [hs8]; exact hown.1) holds ad m c news (by rw [hs8]; exact hl) hnews (by omega) (by omega) (by rw [hz2]; exact growslice_fits (by omega) (by omega))
      rw [hr] at hrun
      simp only [Result.ok.injEq] at hrun
      obtain ⟨rfl, rfl⟩ := hrun
      simp [Value.ownBlock] at hb
      exact grown (grownCap w (n + m) cap 40 - (n + m)) rfl hb.symm

theorem outs_vals {w : World} {L : List OutE} {vs : List Value} (hl : vs.length = L.length) (hb : ∀ (i : Nat) (o : OutE) (u : Value), L[i]? = some o → vs[i]? = some u → Byt w u o.data) : ∀ u ∈ vs, ∃ a n c, u = .slice a n c := by
  intro u hu
  obtain ⟨i, hi⟩ := List.mem_iff_getElem?.1 hu
  have hlt : i < L.length := by
    have := (List.getElem?_eq_some_iff.1 hi).1
    omega
  obtain ⟨a, c, h⟩ := (hb i _ u (List.getElem?_eq_getElem hlt) hi).len
  exact ⟨a, _, c, h⟩

theorem run_outs {w : World} {N : Nat} {v v2 : Value} {L1 L2 : List OutE} (h1 : OutRowB N w v L1) (h2 : OutRow w v2 L2) (hN : N ≤ w.heap.size) (hlen : L1.length + L2.length ≤ 10000) (ty : Nat) :
    ∃ v' w', (Builtin.append_ #[28, 28] ty #[v, v2]).run Try.prog w = .ok v' w' ∧ OutRowB N w' v' (L1 ++ L2) ∧ Mod (OwnRow v) w w' := by
  obtain ⟨i0, hi, hz0, hz1, hz2⟩ := info_parts info40
  have hnb := h1.noBytes
  obtain ⟨⟨vs1, hl1, own1, hb1⟩, hp⟩ := h1
  obtain ⟨vs2, hl2, own2, hb2⟩ := h2
  obtain ⟨a, cap, rfl⟩ : ∃ a cap, v2 = .slice a L2.length cap := OutRow.len ⟨vs2, hl2, own2, hb2⟩
  have hmix : ∀ w', Mod (OwnRow v) w w' → ∀ (i : Nat) (o : OutE) (u : Value), (L1 ++ L2)[i]? = some o → (vs1 ++ vs2)[i]? = some u → Byt w' u o.data := by
    intro w' hm i o u ho hu
    by_cases hlt : i < L1.length
    · rw [List.getElem?_append_left hlt] at ho
      rw [List.getElem?_append_left (by omega)] at hu
      exact (hb1 i o u ho hu).mod hm hnb
    · rw [List.getElem?_append_right (by omega)] at ho
      rw [List.getElem?_append_right (by omega), hl1] at hu
      exact (hb2 _ o u ho hu).mod hm hnb
  rcases a with _ | ad
  · have h0 : L2.length = 0 ∧ cap = 0 := by
      rcases own2.2 with ⟨he, h0⟩ | ⟨g, c, cur, he, _⟩
      · simp at he
        exact ⟨h0, he.2⟩
      · simp at he
    obtain ⟨hL2, rfl⟩ := h0
    have hL2' : L2 = [] := List.eq_nil_of_length_eq_zero hL2
    subst hL2'
    have hvs : vs2 = [] := List.eq_nil_of_length_eq_zero (by simpa using hl2)
    subst hvs
    refine ⟨v, w, ?_, ⟨⟨vs1, by simpa using hl1, by simpa using own1, by simpa using hb1⟩, hp⟩, Mod.refl _ _⟩
    exact run_append_owned_none (P := Try.prog) (w := w) N 28 ty 40 i0 8 u28 hi v L1.length _ own1
  · have hq := outRowOf_one L2 vs2 (outs_vals hl2 hb2)
    have hc : ∀ j u, (outRowOf L2 vs2)[j]? = some u → w.cell? (ad.add j) = some u := by
      rcases own2.2 with ⟨he, _⟩ | ⟨g, c, cur, he, _, hg, _⟩
      · simp at he
      · have hc := own2.cells (g := g) (by rw [he]; rfl)
        simp at he
        rw [he.1]
        exact hc
    obtain ⟨v', w', hrun, hown, hgr, hnil, hblk⟩ := run_append_own_at (P := Try.prog) w N 28 ty 40 i0 _ 8 80 u28 hi hz0 hz1 hz2 rfl (by decide) v L1.length _ own1 ad L2.length cap (outRowOf L2 vs2) (outRowOf_len L2 vs2 hl2) hc (fun u hu => (hq u hu).1) (by unfold maxLen; omega) (by omega) hN
    have hm : Mod (OwnRow v) w w' := ⟨hgr.os, hgr.tape, hgr.output, hgr.size, fun k hk hn => hgr.block k hk (fun e => hn e.symm)⟩
    refine ⟨v', w', hrun, ⟨⟨vs1 ++ vs2, by simp [hl1, hl2], ?_, hmix w' hm⟩, ?_⟩, hm⟩
    · rw [outRowOf_append L1 vs1 L2 vs2 hl1, List.length_append]
      exact hown
    · exact plain_append own1 hp (outRowOf_len L2 vs2 hl2) hc hq hlen hrun hnil

theorem wpList_outs {w : World} {ops : Array Oper} {rest : List Oper} {o : Oper} {act : Act} {Q : Exit → Act → World → Prop} (hgd : o.guard = none) (s x : Operand)
    (ho : o.op = .call { callee := .builtin .append, args := #[s, x], argTypes := #[28, 28] }) {N : Nat} {v v2 : Value} {L1 L2 : List OutE} (hs : act.eval s = v) (hx : act.eval x = v2)
    (h1 : OutRowB N w v L1) (h2 : OutRow w v2 L2) (hN : N ≤ w.heap.size) (hlen : L1.length + L2.length ≤ 10000)
    (h : ∀ a c w', OutRowB N w' (.slice a (L1 ++ L2).length c) (L1 ++ L2) → Mod (OwnRow v) w w' → wpList Try.prog ops Q rest (act.put o.dst (.slice a (L1 ++ L2).length c)) w') : wpList Try.prog ops Q (o :: rest) act w := by
  refine wpList_plain hgd fun K hK => ?_
  obtain ⟨v', w', hr, h3, h4⟩ := run_outs h1 h2 hN hlen o.type
  obtain ⟨a, c, rfl⟩ := h3.len
  unfold Oper.wp execOp
  simp only [ho, resolve, invoke, builtin, Sem.run_bind, Sem.run_pure, Result.andThen_ok, List.map_toArray, List.map_cons, List.map_nil, hs, hx, hr]
  exact hK _ _ (h a c w' h3 h4)

end Go.Proofs.Ytedpeambmmhcnaa.Base

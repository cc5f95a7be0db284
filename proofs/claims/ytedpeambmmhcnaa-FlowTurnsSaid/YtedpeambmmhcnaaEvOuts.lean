/- Events as a run tells them: a row of events behind another. Conditions: those at each theorem. -/
import Derived.Test.YtedpeambmmhcnaaDecide
set_option maxRecDepth 100000
namespace Go.Proofs.Ytedpeambmmhcnaa.Base
open Go.RowKit Go.Maps Go.Proofs.YtedpeambmmhcnaaW.PrintWords Go.Proofs.Ytedpeambmmhcnaa.Kit

/-- No byte lies in the row's own block. -/
def PlainEv (w : World) (v : Value) : Prop := ∀ g cur, v.ownBlock = some g → w.heap[g]? = some (.cells cur 79 (0, 0)) → ∀ u ∈ cur.toList, ∀ q, u ≠ .int .u8 q

/-- A row of outs that the call owns; its block lies at N or behind. -/
def EvRowB (N : Nat) (w : World) (v : Value) (L : List Ev) : Prop :=
  (∃ vs : List Value, vs.length = L.length ∧ w.ownsRow N 79 7 v L.length (rowOf L vs) ∧ ∀ (i : Nat) (o : Ev) (u : Value), L[i]? = some o → vs[i]? = some u → Byt w u o.data) ∧ PlainEv w v

theorem EvRowB.nil (N : Nat) (w : World) : EvRowB N w (.slice none 0 0) [] := ⟨⟨[], rfl, World.ownsRow_nil _ _ _ _, fun i e u h => by simp at h⟩, fun g cur h => by simp [Value.ownBlock] at h⟩

theorem EvRowB.row {N : Nat} {w : World} {v : Value} {L : List Ev} (h : EvRowB N w v L) : EvRow w v L := by
  obtain ⟨⟨vs, hl, h, hb⟩, _⟩ := h
  refine ⟨vs, hl, ⟨h.1, ?_⟩, hb⟩
  rcases h.2 with h0 | ⟨g, cap, cur, hv, h1, hr⟩
  · exact .inl h0
  · exact .inr ⟨g, cap, cur, hv, Nat.zero_le _, hr⟩

theorem EvRowB.at_ {N : Nat} {w : World} {v : Value} {L : List Ev} (h : EvRowB N w v L) {k : Nat} (hk : OwnRow v k) : N ≤ k ∧ ∃ cur, w.heap[k]? = some (.cells cur 79 (0, 0)) := by
  obtain ⟨⟨vs, hl, h, hb⟩, _⟩ := h
  rcases h.2 with ⟨rfl, _⟩ | ⟨g, cap, cur, rfl, h1, hg, _⟩
  · simp [OwnRow, Value.ownBlock] at hk
  · simp [OwnRow, Value.ownBlock] at hk
    subst hk
    exact ⟨h1, cur, hg⟩

theorem EvRowB.noBytes {N : Nat} {w : World} {v : Value} {L : List Ev} (h : EvRowB N w v L) : NoBytes w (OwnRow v) := by
  intro k hk i q hc
  obtain ⟨_, cur, hg⟩ := h.at_ hk
  rw [blk_cell hg i] at hc
  exact h.2 k cur hk hg _ (by simpa using Array.mem_of_getElem? hc) q rfl

theorem EvRowB.mod {N : Nat} {w w' : World} {S : Nat → Prop} {v : Value} {L : List Ev} (h : EvRowB N w v L) (hm : Mod S w w') (hS : NoBytes w S) (hE : NoEvs w S) : EvRowB N w' v L := by
  have hk : ∀ k, OwnRow v k → w'.heap[k]? = w.heap[k]? := by
    intro k hk
    obtain ⟨_, cur, hg⟩ := h.at_ hk
    exact hm.block k (Array.getElem?_eq_some_iff.1 hg).1 (fun hs => hE k hs _ hg)
  obtain ⟨⟨vs, hl, h, hb⟩, hp⟩ := h
  refine ⟨⟨vs, hl, ⟨h.1, ?_⟩, fun i e u he hu => (hb i e u he hu).mod hm hS⟩, fun g cur hg hc => hp g cur hg ((hk g hg).symm.trans hc)⟩
  rcases h.2 with h0 | ⟨g, cap, cur, hv, h1, hg, hr⟩
  · exact .inl h0
  · exact .inr ⟨g, cap, cur, hv, h1, (hk g (by rw [hv]; rfl)).trans hg, hr⟩

theorem EvRowB.mod2 {N : Nat} {w w' : World} {S : Nat → Prop} {v : Value} {L : List Ev} (h : EvRowB N w v L) (hm : Mod S w w') (hS : NoBytes w S) (hE : ∀ k, OwnRow v k → ¬ S k) : EvRowB N w' v L := by
  have hk : ∀ k, OwnRow v k → w'.heap[k]? = w.heap[k]? := by
    intro k hk
    obtain ⟨_, cur, hg⟩ := h.at_ hk
    exact hm.block k (Array.getElem?_eq_some_iff.1 hg).1 (hE k hk)
  obtain ⟨⟨vs, hl, h, hb⟩, hp⟩ := h
  refine ⟨⟨vs, hl, ⟨h.1, ?_⟩, fun i e u he hu => (hb i e u he hu).mod hm hS⟩, fun g cur hg hc => hp g cur hg ((hk g hg).symm.trans hc)⟩
  rcases h.2 with h0 | ⟨g, cap, cur, hv, h1, hg, hr⟩
  · exact .inl h0
  · exact .inr ⟨g, cap, cur, hv, h1, (hk g (by rw [hv]; rfl)).trans hg, hr⟩

theorem EvRowB.own_lt {N : Nat} {w : World} {v : Value} {L : List Ev} (h : EvRowB N w v L) : ∀ k, OwnRow v k → k < w.heap.size := fun k hk => by
  obtain ⟨_, cur, hg⟩ := h.at_ hk
  exact (Array.getElem?_eq_some_iff.1 hg).1

theorem EvRowB.below {N : Nat} {w w' : World} {v : Value} {L : List Ev} (h : EvRowB N w v L) (hb : Below w.heap.size w w') : EvRowB N w' v L :=
  h.mod (S := fun _ => False) (Mod.of_below hb) (fun _ hk => hk.elim) (fun _ hk => hk.elim)

theorem EvRowB.len {N : Nat} {w : World} {v : Value} {L : List Ev} (h : EvRowB N w v L) : ∃ a cap, v = .slice a L.length cap := h.row.len

theorem rowOf_append : ∀ (L : List Ev) (vs : List Value) (L' : List Ev) (vs' : List Value), vs.length = L.length → rowOf (L ++ L') (vs ++ vs') = rowOf L vs ++ rowOf L' vs'
  | [], [], _, _, _ => by simp [rowOf]
  | [], _ :: _, _, _, h => by simp at h
  | _ :: _, [], _, _, h => by simp at h
  | e :: L, v :: vs, L', vs', h => by
    have := rowOf_append L vs L' vs' (by simpa using h)
    simp [rowOf, this]

theorem rowOf_one : ∀ (L : List Ev) (vs : List Value), (∀ u ∈ vs, ∃ a n c, u = .slice a n c) → ∀ u ∈ rowOf L vs, u.oneCell' = true ∧ ∀ q, u ≠ .int .u8 q
  | [], _, _ => by simp [rowOf]
  | _ :: _, [], _ => by simp [rowOf]
  | e :: L, v :: vs, h => by
    intro u hu
    obtain ⟨a, n, c, rfl⟩ := h v (List.mem_cons_self ..)
    simp only [rowOf, List.mem_append] at hu
    rcases hu with hu | hu
    · simp only [evCells, List.mem_cons, List.not_mem_nil, or_false] at hu
      rcases hu with rfl | rfl | rfl | rfl | rfl | rfl | rfl <;> exact ⟨rfl, fun q h => by cases h⟩
    · exact rowOf_one L vs (fun u hu => h u (List.mem_cons_of_mem _ hu)) u hu

theorem zeros_plain79 (n : Nat) : ∀ u ∈ (Builtin.zeroCells (Value.agg #[.int .i64 0, .int .i64 0, .int .i64 0, .int .i64 0, .int .i64 0, .int .i64 0, .slice none 0 0]).cells n).toList, ∀ q, u ≠ .int .u8 q := by
  intro u hu q he
  subst he
  simp only [Builtin.zeroCells, Array.toList_map, List.mem_map] at hu
  obtain ⟨i, _, hi⟩ := hu
  have hlt := Nat.mod_lt i (show 0 < 7 by decide)
  revert hi
  show (#[Value.int .i64 0, .int .i64 0, .int .i64 0, .int .i64 0, .int .i64 0, .int .i64 0, .slice none 0 0] : Array Value)[i % 7]! ≠ _
  generalize i % 7 = j at hlt
  rcases j with _|_|_|_|_|_|_|j
  all_goals first
    | omega
    | (intro h; cases h)

/-- The row that append makes holds no byte. -/
theorem plain_append79 {w w' : World} {N : Nat} {v v' : Value} {n m c ty : Nat} {xs news : List Value} {ad : Addr} (hown : w.ownsRow N 79 7 v n xs) (hp : PlainEv w v) (hl : news.length = m * 7)
    (hnews : ∀ j u, news[j]? = some u → w.cell? (ad.add j) = some u) (h1 : ∀ u ∈ news, u.oneCell' = true ∧ ∀ q, u ≠ .int .u8 q) (hle : n + m ≤ 10000)
    (hrun : (Builtin.append_ #[66, 66] ty #[v, .slice (some ad) m c]).run Try.prog w = .ok v' w') (hnil : v' = .slice none 0 0 ↔ v = .slice none 0 0 ∧ m = 0) : PlainEv w' v' := by
  obtain ⟨i0, hi, hz0, hz1, hz2⟩ := info_parts info79
  have hx : ∀ u ∈ xs, ∀ q, u ≠ .int .u8 q := by
    intro u hu
    rcases hown.2 with ⟨rfl, rfl⟩ | ⟨g, cap, cur, rfl, _, hg, _, _, _, htake⟩
    · have : xs = [] := List.eq_nil_of_length_eq_zero (by simpa using hown.1)
      subst this
      simp at hu
    · rw [← htake] at hu
      exact hp g cur rfl hg u (List.mem_of_mem_take hu)
  intro g cur hb hg u hu q
  have grown : ∀ (k : Nat), w' = w.drew.alloc (.cells (xs.toArray ++ news.toArray ++ Builtin.zeroCells (Value.agg #[.int .i64 0, .int .i64 0, .int .i64 0, .int .i64 0, .int .i64 0, .int .i64 0, .slice none 0 0]).cells k) 79) → g = w.heap.size → u ≠ .int .u8 q := by
    intro k hw hgs
    subst hw hgs
    rw [show (w.drew.alloc (.cells (xs.toArray ++ news.toArray ++ Builtin.zeroCells (Value.agg #[.int .i64 0, .int .i64 0, .int .i64 0, .int .i64 0, .int .i64 0, .int .i64 0, .slice none 0 0]).cells k) 79)).heap[w.heap.size]? = _ from blk_new w.drew _] at hg
    simp only [Option.some.injEq, Obj.cells.injEq, and_true] at hg
    subst hg
    simp only [Array.toList_append, List.mem_append] at hu
    rcases hu with (hu | hu) | hu
    · exact hx u (by simpa using hu) q
    · exact (h1 u (by simpa using hu)).2 q
    · exact zeros_plain79 _ u hu q
  have hs7 : i0.size = 7 := hz1
  rcases hown.2 with ⟨rfl, rfl⟩ | ⟨g', cap, cur', rfl, _, hg', hnc, hcm, hcs, htake⟩
  · have hxs : xs = [] := List.eq_nil_of_length_eq_zero (by simpa using hown.1)
    subst hxs
    by_cases hm : m = 0
    · have := hnil.2 ⟨rfl, hm⟩
      subst this
      simp [Value.ownBlock] at hb
    · have hr := run_append_nil (P := Try.prog) w 66 ty 79 i0 _ u66 hi hz0 ad m c news (by rw [hs7]; exact hl) hnews (by omega) (by omega) (by rw [hz2]; omega)
      rw [hr] at hrun
      simp only [Result.ok.injEq] at hrun
      obtain ⟨rfl, rfl⟩ := hrun
      simp [Value.ownBlock] at hb
      exact grown (grownCap w m 0 79 - m) (by simp) hb.symm
  · by_cases hroom : n + m ≤ cap
    · have hfit : n * i0.size + news.length ≤ cur'.size := by rw [hl, hcs, hs7, ← Nat.add_mul]; exact Nat.mul_le_mul_right _ hroom
      have hr := run_append_room (P := Try.prog) w 66 ty 79 i0 u66 hi g' n cap cur' hg' ad m c news (by rw [hs7]; exact hl) hnews (fun u hu => (h1 u hu).1) hroom hfit
      rw [hr] at hrun
      simp only [Result.ok.injEq] at hrun
      obtain ⟨rfl, rfl⟩ := hrun
      simp [Value.ownBlock] at hb
      subst hb
      rw [setRow_heap w g' cur' _ 79 _ hg'] at hg
      simp only [Option.some.injEq, Obj.cells.injEq, and_true] at hg
      subst hg
      simp only [List.mem_append] at hu
      rcases hu with (hu | hu) | hu
      · exact hp g' cur' rfl hg' u (List.mem_of_mem_take hu) q
      · exact (h1 u hu).2 q
      · exact hp g' cur' rfl hg' u (List.mem_of_mem_drop hu) q
    · have holds : ∀ j u, xs[j]? = some u → w.cell? ((⟨g', 0, none⟩ : Addr).add j) = some u := hown.cells (g := g') rfl
      have hr := run_append_grow (P := Try.prog) w 66 ty 79 i0 _ u66 hi hz0 ⟨g', 0, none⟩ n cap xs (by rw [hs7]; exact hown.1) holds ad m c news (by rw [hs7]; exact hl) hnews (by omega) (by omega) (by rw [hz2]; exact growslice_fits (by omega) (by omega))
      rw [hr] at hrun
      simp only [Result.ok.injEq] at hrun
      obtain ⟨rfl, rfl⟩ := hrun
      simp [Value.ownBlock] at hb
      exact grown (grownCap w (n + m) cap 79 - (n + m)) rfl hb.symm

theorem evs_vals {w : World} {L : List Ev} {vs : List Value} (hl : vs.length = L.length) (hb : ∀ (i : Nat) (o : Ev) (u : Value), L[i]? = some o → vs[i]? = some u → Byt w u o.data) : ∀ u ∈ vs, ∃ a n c, u = .slice a n c := by
  intro u hu
  obtain ⟨i, hi⟩ := List.mem_iff_getElem?.1 hu
  have hlt : i < L.length := by
    have := (List.getElem?_eq_some_iff.1 hi).1
    omega
  obtain ⟨a, c, h⟩ := (hb i _ u (List.getElem?_eq_getElem hlt) hi).len
  exact ⟨a, _, c, h⟩

theorem run_evs {w : World} {N : Nat} {v v2 : Value} {L1 L2 : List Ev} (h1 : EvRowB N w v L1) (h2 : EvRow w v2 L2) (hN : N ≤ w.heap.size) (hlen : L1.length + L2.length ≤ 10000) (ty : Nat) :
    ∃ v' w', (Builtin.append_ #[66, 66] ty #[v, v2]).run Try.prog w = .ok v' w' ∧ EvRowB N w' v' (L1 ++ L2) ∧ Mod (OwnRow v) w w' := by
  obtain ⟨i0, hi, hz0, hz1, hz2⟩ := info_parts info79
  have hnb := h1.noBytes
  obtain ⟨⟨vs1, hl1, own1, hb1⟩, hp⟩ := h1
  obtain ⟨vs2, hl2, own2, hb2⟩ := h2
  obtain ⟨a, cap, rfl⟩ : ∃ a cap, v2 = .slice a L2.length cap := EvRow.len ⟨vs2, hl2, own2, hb2⟩
  have hmix : ∀ w', Mod (OwnRow v) w w' → ∀ (i : Nat) (o : Ev) (u : Value), (L1 ++ L2)[i]? = some o → (vs1 ++ vs2)[i]? = some u → Byt w' u o.data := by
    intro w' hm i o u ho hu
    by_cases hlt : i < L1.length
    · rw [List.getElem?_append_left hlt] at ho
      rw [List.getElem?_append_left (by omega)] at hu
      exact (hb1 i o u ho hu).mod hm hnb
    · rw [List.getElem?_append_right (by omega)] at ho
      rw [List.getElem?_append_right (by omega), hl1] at hu
      exact (hb2 _ o u ho hu).mod hm hnb
  rcases a with _ | ad
  · have h0 : L2.length = 0 ∧ cap = 0 := by
      rcases own2.2 with ⟨he, h0⟩ | ⟨g, c, cur, he, _⟩
      · simp at he
        exact ⟨h0, he.2⟩
      · simp at he
    obtain ⟨hL2, rfl⟩ := h0
    have hL2' : L2 = [] := List.eq_nil_of_length_eq_zero hL2
    subst hL2'
    have hvs : vs2 = [] := List.eq_nil_of_length_eq_zero (by simpa using hl2)
    subst hvs
    refine ⟨v, w, ?_, ⟨⟨vs1, by simpa using hl1, by simpa using own1, by simpa using hb1⟩, hp⟩, Mod.refl _ _⟩
    exact run_append_owned_none (P := Try.prog) (w := w) N 66 ty 79 i0 7 u66 hi v L1.length _ own1
  · have hq := rowOf_one L2 vs2 (evs_vals hl2 hb2)
    have hc : ∀ j u, (rowOf L2 vs2)[j]? = some u → w.cell? (ad.add j) = some u := by
      rcases own2.2 with ⟨he, _⟩ | ⟨g, c, cur, he, _, hg, _⟩
      · simp at he
      · have hc := own2.cells (g := g) (by rw [he]; rfl)
        simp at he
        rw [he.1]
        exact hc
    obtain ⟨v', w', hrun, hown, hgr, hnil, hblk⟩ := run_append_own_at (P := Try.prog) w N 66 ty 79 i0 _ 7 72 u66 hi hz0 hz1 hz2 rfl (by decide) v L1.length _ own1 ad L2.length cap (rowOf L2 vs2) (rowOf_len L2 vs2 hl2) hc (fun u hu => (hq u hu).1) (by unfold maxLen; omega) (by omega) hN
    have hm : Mod (OwnRow v) w w' := ⟨hgr.os, hgr.tape, hgr.output, hgr.size, fun k hk hn => hgr.block k hk (fun e => hn e.symm)⟩
    refine ⟨v', w', hrun, ⟨⟨vs1 ++ vs2, by simp [hl1, hl2], ?_, hmix w' hm⟩, ?_⟩, hm⟩
    · rw [rowOf_append L1 vs1 L2 vs2 hl1, List.length_append]
      exact hown
    · exact plain_append79 own1 hp (rowOf_len L2 vs2 hl2) hc hq hlen hrun hnil

theorem wpList_evs {w : World} {ops : Array Oper} {rest : List Oper} {o : Oper} {act : Act} {Q : Exit → Act → World → Prop} (hgd : o.guard = none) (s x : Operand)
    (ho : o.op = .call { callee := .builtin .append, args := #[s, x], argTypes := #[66, 66] }) {N : Nat} {v v2 : Value} {L1 L2 : List Ev} (hs : act.eval s = v) (hx : act.eval x = v2)
    (h1 : EvRowB N w v L1) (h2 : EvRow w v2 L2) (hN : N ≤ w.heap.size) (hlen : L1.length + L2.length ≤ 10000)
    (h : ∀ a c w', EvRowB N w' (.slice a (L1 ++ L2).length c) (L1 ++ L2) → Mod (OwnRow v) w w' → wpList Try.prog ops Q rest (act.put o.dst (.slice a (L1 ++ L2).length c)) w') : wpList Try.prog ops Q (o :: rest) act w := by
  refine wpList_plain hgd fun K hK => ?_
  obtain ⟨v', w', hr, h3, h4⟩ := run_evs h1 h2 hN hlen o.type
  obtain ⟨a, c, rfl⟩ := h3.len
  unfold Oper.wp execOp
  simp only [ho, resolve, invoke, builtin, Sem.run_bind, Sem.run_pure, Result.andThen_ok, List.map_toArray, List.map_cons, List.map_nil, hs, hx, hr]
  exact hK _ _ (h a c w' h3 h4)

theorem EvRow.one {w : World} {g : Nat} {e : Ev} {v : Value} (hg : w.heap[g]? = some (.cells (evCells e v).toArray 79 (0, 0))) (hv : Byt w v e.data) : EvRow w (.slice (some ⟨g, 0, none⟩) 1 1) [e] := by
  refine ⟨[v], rfl, ⟨rfl, .inr ⟨g, 1, _, rfl, Nat.zero_le _, hg, Nat.le_refl _, by decide, rfl, by simp [evCells, rowOf]⟩⟩, ?_⟩
  intro i o' u h1 h2
  rcases i with _ | i
  · simp at h1 h2
    subst h1 h2
    exact hv
  · simp at h1

theorem take_step {α : Type} {L : List α} {k : Nat} {e : α} (h : L[k]? = some e) : L.take (k + 1) = L.take k ++ [e] := by
  rw [List.take_add_one, h]
  rfl

theorem grown_fresh {w0 w w' : World} {S : Nat → Prop} (h0 : Below w0.heap.size w0 w) (h : Mod S w w') (hS : ∀ k, S k → w0.heap.size ≤ k) : Below w0.heap.size w0 w' := h.below h0 hS

set_option maxHeartbeats 16000000 in
/-- Events from the first on: a copy of all. -/
theorem events_all (w : World) (F M : Nat) (lv : Value) (S : St) (h : FlowAt w F M lv S) (h1 : 1 ≤ S.L.length) :
    Calls Try.prog 31 #[.pointer (some ⟨F, 0, none⟩), .int .i64 1] w fun e w' => ∃ v, e = .returned v ∧ EvRow w' v S.L ∧ Below w.heap.size w w' := by
  obtain ⟨la, lcap, rfl⟩ := h.lv
  have c4 := h.cl
  have hrow := Lib.hid h.row
  have hfew := h.few
  have hu := Try.underlying79
  clear h
  generalize S.L = L at *
  have hz : decide ((L.length : Int) < 1) = false := by simp; omega
  go_enter Try.func31, Try.ntmps31
  go_wp2_with (fail)
  go_loopg [5, 24] L.length (fun m out i wr => ∃ (k : Nat) (a : Option Addr) (n c : Nat), m = L.length - k ∧ k ≤ L.length ∧ i = .int .i64 k ∧ out = .slice a n c ∧ Hid (EvRowB w.heap.size wr (.slice a n c) (L.take k)) ∧ Hid (Below w.heap.size w wr))
  case atStart => exact ⟨0, none, 0, 0, rfl, Nat.zero_le _, rfl, rfl, Lib.hid (EvRowB.nil _ _), Lib.hid (Below.refl _ _)⟩
  case round =>
    obtain ⟨k, a, n, c, rfl, hk, rfl, rfl, HO, HB⟩ := hrel
    by_cases hlt : k < L.length
    · obtain ⟨e, he⟩ : ∃ e, L[k]? = some e := ⟨_, List.getElem?_eq_getElem hlt⟩
      obtain ⟨A, cap, u, hv, hu, hc⟩ := (EvRow.below hrow.out HB.out).get he
      simp only [Value.slice.injEq] at hv
      obtain ⟨rfl, _, rfl⟩ := hv
      obtain ⟨ua, uc, rfl⟩ := hu.len
      have c0 : wr.cell? ⟨A, k * 7, none⟩ = some (.int .i64 e.kind) := hc 0 _ rfl
      have c1 : wr.cell? ⟨A, k * 7 + 1, none⟩ = some (.int .i64 e.time) := hc 1 _ rfl
      have c2 : wr.cell? ⟨A, k * 7 + 2, none⟩ = some (.int .i64 e.ref) := hc 2 _ rfl
      have c3 : wr.cell? ⟨A, k * 7 + 3, none⟩ = some (.int .i64 e.id) := hc 3 _ rfl
      have c4' : wr.cell? ⟨A, k * 7 + 4, none⟩ = some (.int .i64 e.list) := hc 4 _ rfl
      have c5 : wr.cell? ⟨A, k * 7 + 5, none⟩ = some (.int .i64 e.n) := hc 5 _ rfl
      have c6 : wr.cell? ⟨A, k * 7 + 6, none⟩ = some (.slice ua e.data.length uc) := hc 6 _ rfl
      have hu := Lib.hid hu
      have hstep := Lib.hid (take_step he)
      have hfew1 := hfew
      have hba := below_alloc (Below.refl wr.heap.size wr) (.cells #[.int .i64 e.kind, .int .i64 e.time, .int .i64 e.ref, .int .i64 e.id, .int .i64 e.list, .int .i64 e.n, .slice ua e.data.length uc] 79)
      have kb := blk_new wr (.cells #[.int .i64 e.kind, .int .i64 e.time, .int .i64 e.ref, .int .i64 e.id, .int .i64 e.list, .int .i64 e.n, .slice ua e.data.length uc] 79)
      have hu := Lib.hid (Byt.below hu hba)
      have hown := Lib.hid HO.out.own_lt
      have HO := Lib.hid (HO.out.below hba)
      have HB := Lib.hid (below_step HB.out hba)
      have hXw := Lib.hid HB.out.size
      clear hc he hba
      go_wp2_with (fail)
      refine (clone_any _ _ _ hu.out).mono ?_
      rintro e2 w2 ⟨v2, rfl, hv2, hb2⟩
      obtain ⟨va, vc, rfl⟩ := hv2.len
      have kb := blk_below kb hb2
      have HO := Lib.hid (HO.out.below hb2)
      have hlt2 : wr.heap.size < w2.heap.size := Nat.lt_of_lt_of_le (by simp) hb2.size
      have HB := Lib.hid (below_step HB.out hb2)
      have hv2 := Lib.hid hv2
      have hX0 : Hid (w.heap.size ≤ wr.heap.size) := Lib.hid ‹Hid (Below w.heap.size w wr)›.out.size
      clear hb2 hu c0 c1 c2 c3 c4' c5 c6
      generalize wr.heap.size = X at *
      have f6 := blk_frozen kb 6
      have b0 : w2.cell? ⟨X, 0, none⟩ = some (.int .i64 e.kind) := blk_cell kb 0
      have b1 : w2.cell? ⟨X, 1, none⟩ = some (.int .i64 e.time) := blk_cell kb 1
      have b2 : w2.cell? ⟨X, 2, none⟩ = some (.int .i64 e.ref) := blk_cell kb 2
      have b3 : w2.cell? ⟨X, 3, none⟩ = some (.int .i64 e.id) := blk_cell kb 3
      have b4 : w2.cell? ⟨X, 4, none⟩ = some (.int .i64 e.list) := blk_cell kb 4
      have b5 : w2.cell? ⟨X, 5, none⟩ = some (.int .i64 e.n) := blk_cell kb 5
      have b6 : w2.cell? ⟨X, 6, none⟩ = some (.slice ua e.data.length uc) := blk_cell kb 6
      have k6 := Lib.hid (blk_set kb 6 (.slice va e.data.length vc))
      have hnb : NoBytes w2 (fun q => q = X) := by
        rintro q rfl i p hc
        rw [blk_cell kb i] at hc
        rcases i with _|_|_|_|_|_|_|i <;> simp at hc
      have hXlt : X < w2.heap.size := hlt2
      have hm6 : Mod (fun q => q = X) w2 (w2.setCell ⟨X, 6, none⟩ (.slice va e.data.length vc)) := Mod.set (S := fun q => q = X) (Mod.refl _ _) rfl _ _
      have HB6 := Lib.hid (Mod.below hm6 HB.out (fun q hq => by rw [hq]; exact hX0.out))
      have hv6 := Lib.hid (Byt.mod hv2.out hm6 hnb)
      have hm6 := Lib.hid hm6
      have hnb := Lib.hid hnb
      have hXlt := Lib.hid hXlt
      have HO6 := HO.out.mod2 hm6 hnb (fun q hq e => Nat.lt_irrefl X (e ▸ hown.out q hq))
      have hb9 := below_alloc (Below.refl (w2.setCell ⟨X, 6, none⟩ (.slice va e.data.length vc)).heap.size (w2.setCell ⟨X, 6, none⟩ (.slice va e.data.length vc))) (.cells #[.int .i64 e.kind, .int .i64 e.time, .int .i64 e.ref, .int .i64 e.id, .int .i64 e.list, .int .i64 e.n, .slice va e.data.length vc] 79)
      have HO9 := Lib.hid (HO6.below hb9)
      have hrow9 := EvRow.one (e := e) (v := .slice va e.data.length vc) (heap_alloc_new (w2.setCell ⟨X, 6, none⟩ (.slice va e.data.length vc)) (.cells #[.int .i64 e.kind, .int .i64 e.time, .int .i64 e.ref, .int .i64 e.id, .int .i64 e.list, .int .i64 e.n, .slice va e.data.length vc] 79)) (Byt.below hv6.out hb9)
      have hsz : (w2.setCell ⟨X, 6, none⟩ (.slice va e.data.length vc)).heap.size = w2.heap.size := by simp
      rw [hsz] at hrow9
      have hrow9 := Lib.hid hrow9
      have HB9 := Lib.hid (below_step HB6.out hb9)
      have hN9 := Lib.hid HB9.out.size
      have hln9 : Hid ((L.take k).length + [e].length ≤ 10000) := Lib.hid (by simp; omega)
      clear hb9 HO6 hsz
      go_wp2_with (at_builtin; refine wpList_evs rfl _ _ rfl rfl rfl HO9.out hrow9.out hN9.out hln9.out ?_; intro a7 c7 w7 ho7 hm7)
      rw [← hstep.out, show (L.take (k + 1)).length = k + 1 from by simp; omega] at ho7
      have hB7 := Lib.hid (hm7.below HB9.out (fun q hq => (HO9.out.at_ hq).1))
      go_roundg (L.length - (k + 1))
      case measure => omega
      case rel => exact ⟨k + 1, a7, _, c7, rfl, by omega, by go_num, rfl, Lib.hid ho7, hB7⟩
    · have hke : k = L.length := by omega
      subst hke
      have HO : Hid (EvRowB w.heap.size wr (.slice a n c) L) := by
        have := HO.out
        rw [List.take_length] at this
        exact Lib.hid this
      go_wp2_with (fail)
      go_ret
      exact ⟨_, rfl, HO.out.row, HB.out⟩

end Go.Proofs.Ytedpeambmmhcnaa.Base

/- The law FenceLeases by a walk: for every list of acts it returns true, and nothing that was there is changed. Conditions: none. -/
import Derived.Test.YtgalahnockmgpaaActs
import Derived.Deep.RegionHeld3
import Derived.Deep.DeepCutAuto
namespace Go.Proofs.Ytgalahnockmgpaa.Leases
open Go.RowKit Go.Proofs.YtgalahnockmgpaaW.PrintWords Go.Proofs.Ytgalahnockmgpaa.Kit Go.Proofs.Ytgalahnockmgpaa.Maps

theorem until_after {g gl gu : Nat} {fs : List (Int × Int)} {us : List Int} (s : Int) {W : World} (h : At 65 25 g gl gu fs us W) (q : After W) {v : Int} (hv : untilOf us s = v) :
    Calls Try.prog 18 #[.pointer (some ⟨g, 0, none⟩), .int .i64 s] q.now fun e w'' => e = .returned (.int .i64 v) ∧ ∃ q' : After W, w'' = q'.now :=
  after_calls q ((fence_until_t s _ (h.below q.bel)).mono fun e w' hh => by
    obtain ⟨h1, rfl⟩ := hh
    rw [hv] at h1
    exact ⟨h1, Below.refl _ _⟩)

theorem set_cases (fs : List (Int × Int)) (us : List Int) (s r o : Int) (hl : us.length = fs.length) :
    ((setOf fs us s r o).1 ≠ 0 ∧ untilOf (setOf fs us s r o).2.2 s = untilOf us s) ∨ ((setOf fs us s r o).1 = 0 ∧ r = (getOf fs s).1.1 ∧ untilOf (setOf fs us s r o).2.2 s = untilOf us s) ∨ ((setOf fs us s r o).1 = 0 ∧ r ≠ (getOf fs s).1.1 ∧ untilOf (setOf fs us s r o).2.2 s = 0) := by
  unfold setOf getOf
  by_cases h : 0 ≤ s ∧ s < fs.length
  · rw [if_pos h, if_pos h]
    by_cases h1 : r < (fs.getD s.toNat (0, 0)).1
    · rw [if_pos h1]
      exact Or.inl ⟨by simp, rfl⟩
    · rw [if_neg h1]
      by_cases h2 : r = (fs.getD s.toNat (0, 0)).1
      · rw [if_pos h2]
        exact Or.inr (Or.inl ⟨rfl, h2, rfl⟩)
      · rw [if_neg h2]
        refine Or.inr (Or.inr ⟨rfl, h2, ?_⟩)
        unfold untilOf
        simp only [List.length_set]
        rw [if_pos (by omega)]
        rw [List.getD_eq_getElem?_getD, List.getElem?_set_self (by omega)]
        rfl
  · rw [if_neg h, if_neg h]
    exact Or.inl ⟨by simp, rfl⟩

theorem lease_cases (fs : List (Int × Int)) (us : List Int) (s ow now ti : Int) (hl : us.length = fs.length) :
    ((leaseOf fs us s ow now ti).2.1 ≠ 0 ∧ untilOf (leaseOf fs us s ow now ti).2.2 s = untilOf us s) ∨
    ((leaseOf fs us s ow now ti).2.1 = 0 ∧ (getOf fs s).2 = true ∧ (getOf fs s).1.2 = ow ∧ (getOf fs s).1.1 ≠ 0 ∧ ¬ (leaseOf fs us s ow now ti).1 < untilOf us s ∧ ¬ (leaseOf fs us s ow now ti).1 < wrap64 (now + ti) ∧ untilOf (leaseOf fs us s ow now ti).2.2 s = (leaseOf fs us s ow now ti).1) := by
  unfold leaseOf getOf
  by_cases h : 0 ≤ s ∧ s < fs.length
  · rw [if_pos h, if_pos h]
    by_cases h1 : 0 ≤ now ∧ 1 ≤ ti ∧ ti ≤ 1048576 ∧ now ≤ 1099511627776
    · rw [if_pos h1]
      by_cases h2 : (fs.getD s.toNat (0, 0)).2 = ow ∧ (fs.getD s.toNat (0, 0)).1 ≠ 0
      · rw [if_pos h2]
        have e : wrap64 (now + ti) = now + ti := by unfold wrap64; omega
        have u : untilOf us s = us.getD s.toNat 0 := by
          unfold untilOf
          rw [if_pos (by omega)]
        rw [e, u]
        refine Or.inr ⟨rfl, rfl, h2.1, h2.2, ?_, ?_, ?_⟩
        · show ¬ (if us.getD s.toNat 0 < now + ti then now + ti else us.getD s.toNat 0) < us.getD s.toNat 0
          split <;> omega
        · show ¬ (if us.getD s.toNat 0 < now + ti then now + ti else us.getD s.toNat 0) < now + ti
          split <;> omega
        · unfold untilOf
          simp only [List.length_set]
          rw [if_pos (by omega), List.getD_eq_getElem?_getD, List.getElem?_set_self (by omega)]
          rfl
      · rw [if_neg h2]
        exact Or.inl ⟨by simp, rfl⟩
    · rw [if_neg h1]
      exact Or.inl ⟨by simp, rfl⟩
  · rw [if_neg h, if_neg h]
    exact Or.inl ⟨by simp, rfl⟩

theorem until_same {g gl gu : Nat} {fs : List (Int × Int)} {us : List Int} (s : Int) {W : World} (h : At 65 25 g gl gu fs us W) {v : Int} (hv : untilOf us s = v) :
    Calls Try.prog 18 #[.pointer (some ⟨g, 0, none⟩), .int .i64 s] W fun e w'' => e = .returned (.int .i64 v) ∧ W = w'' := by
  subst hv
  exact fence_until_t s W h

set_option maxRecDepth 100000 in
set_option maxHeartbeats 4000000 in
theorem law (a : Option Addr) (ca : Nat) (xs : List ActV) (w : World) (hx : Acts w a xs) (lx : xs.length ≤ 250) :
    Calls Try.prog 5 #[.slice a xs.length ca] w (Yes w) := by
  have hu25 := Try.underlying25
  have HX := Lib.hid hx
  clear hx
  go_enter Try.func5, Try.ntmps5
  go_wp2_with (fail)
  refine (PFenceOne.teasellaw17_known.calls 1 true _ One.known_true).mono ?_
  rintro e w1 ⟨rfl, hb⟩
  have B1 := Lib.hid (below_step (Below.refl w.heap.size w) hb)
  clear hb
  go_wp2_with (fail)
  refine (fence_new 3 (by decide) (by decide) _).mono ?_
  rintro e w2 ⟨g, gl, gu, rfl, M, hb, l1, l2, l3⟩
  have B2 := Lib.hid (below_step B1.out hb)
  have G := Lib.hid (show w.heap.size ≤ g ∧ w.heap.size ≤ gl ∧ w.heap.size ≤ gu from ⟨Nat.le_trans B1.out.size l1, Nat.le_trans B1.out.size l2, Nat.le_trans B1.out.size l3⟩)
  have M2 := Lib.hid M
  clear hb B1 l1 l2 l3 M w1
  go_wp2_with (fail)
  go_loopg [5] xs.length (fun m i wr => ∃ (k : Nat) (fs : List (Int × Int)) (us : List Int), m = xs.length - k ∧ k ≤ xs.length ∧ i = .int .i64 k ∧ fs.length = 3 ∧ Hid (At 65 25 g gl gu fs us wr) ∧ Hid (Below w.heap.size w wr))
  case atStart => exact ⟨0, _, _, rfl, Nat.zero_le _, rfl, rfl, M2, B2⟩
  case round =>
    obtain ⟨k, fs, us, rfl, hk, rfl, h3, M, HB⟩ := hrel
    clear M2 B2
    by_cases hlt : k < xs.length
    · obtain ⟨b, off, rfl, hbb, hc⟩ := HX.out k hlt
      generalize xs[k] = x at hc
      obtain ⟨op, sh, ow, now, ti, r, o⟩ := x
      have HC := Lib.hid (fun j hj => (HB.out.cell (p := ⟨b, off + k * 7 + j, none⟩) hbb).trans (hc j hj))
      clear hc
      have q0 := HC.out 0 (by decide)
      have q1 := HC.out 1 (by decide)
      have q2 := HC.out 2 (by decide)
      have q3 := HC.out 3 (by decide)
      have q4 := HC.out 4 (by decide)
      have q5 := HC.out 5 (by decide)
      have q6 := HC.out 6 (by decide)
      simp only [ActV.cells, Nat.add_zero] at q0 q1 q2 q3 q4 q5 q6
      go_wp2_with (fail)
      have H := Lib.hid ((Holds.start w).step HB.out |>.alloc (.cells #[.int .i64 op, .int .i64 sh, .int .i64 ow, .int .i64 now, .int .i64 ti, .int .i64 r, .int .i64 o] 46))
      have M1 := Lib.hid (M.out.below (below_alloc (Below.refl _ _) (.cells #[.int .i64 op, .int .i64 sh, .int .i64 ow, .int .i64 now, .int .i64 ti, .int .i64 r, .int .i64 o] 46)))
      have NA := Lib.hid (show wr.heap.size ≠ gl ∧ wr.heap.size ≠ gu from ⟨Nat.ne_of_gt (blk_lt M.out.l), Nat.ne_of_gt (blk_lt M.out.u)⟩)
      clear q0 q1 q2 q3 q4 q5 q6 M HB HC
      generalize wr.heap.size = ga at H NA ⊢
      generalize wr.alloc (.cells #[.int .i64 op, .int .i64 sh, .int .i64 ow, .int .i64 now, .int .i64 ti, .int .i64 r, .int .i64 o] 46) = wa at H M1 ⊢
      refine (fence_until_t sh _ M1.out).mono ?_
      rintro e w1 ⟨rfl, rfl⟩
      have ca := fun j => blk_cell (H.out.get 0 rfl) j
      go_wp2_with (fail)
      refine (fence_get_t sh _ M1.out).mono ?_
      rintro e w1 ⟨rfl, hb⟩
      have H2 := Lib.hid ((H.out.step hb).alloc (.cells #[.int .i64 (getOf fs sh).1.1, .int .i64 (getOf fs sh).1.2] 25))
      have M2 := Lib.hid ((M1.out.below hb).below (below_alloc (Below.refl _ _) (.cells #[.int .i64 (getOf fs sh).1.1, .int .i64 (getOf fs sh).1.2] 25)))
      have NF := Lib.hid (show w1.heap.size ≠ gl ∧ w1.heap.size ≠ gu from ⟨Nat.ne_of_gt (blk_lt (M1.out.below hb).l), Nat.ne_of_gt (blk_lt (M1.out.below hb).u)⟩)
      clear hb H M1 ca
      have ca := fun j => blk_cell (H2.out.get 1 rfl) j
      have h1 : op = 1 ∨ op = 2 ∨ (op ≠ 1 ∧ op ≠ 2) := by omega
      rcases h1 with rfl | rfl | ⟨n1, n2⟩
      · go_wp2_with (fail)
        generalize w1.heap.size = gf at H2 NF ⊢
        refine calls_gen (fun W => Holds w [(gf, .cells #[.int .i64 (getOf fs sh).1.1, .int .i64 (getOf fs sh).1.2] 25), (ga, .cells #[.int .i64 1, .int .i64 sh, .int .i64 ow, .int .i64 now, .int .i64 ti, .int .i64 r, .int .i64 o] 46)] W ∧ At 65 25 g gl gu fs us W) ⟨H2.out, M2.out⟩ ?_
        clear H2 M2 ca
        rintro W ⟨H2, M2⟩
        refine (fence_set_t sh r o _ M2).mono ?_
        rintro e w3 ⟨rfl, M3, hm⟩
        have H3 := Lib.hid (H2.mod hm (fun k hk => hk.elim (fun h => by rw [h]; exact G.out.2.1) (fun h => by rw [h]; exact G.out.2.2)) (fun p hp => by
          rcases List.mem_cons.1 hp with rfl | hp
          · exact fun h => h.elim NF.out.1 NF.out.2
          · obtain rfl := List.mem_singleton.1 hp
            exact fun h => h.elim NA.out.1 NA.out.2))
        have M4 := Lib.hid M3
        have L4 := Lib.hid ((setOf_len fs us sh r o).trans h3)
        have SC := Lib.hid (set_cases fs us sh r o M2.len)
        clear H2 M2 hm M3
        have sc := SC.out
        clear SC
        generalize (setOf fs us sh r o).2.1 = fs' at M4 L4
        generalize (setOf fs us sh r o).2.2 = us' at M4 sc
        generalize (setOf fs us sh r o).1 = E at sc ⊢
        generalize hU' : untilOf us' sh = U' at sc
        have HU := Lib.hid hU'
        clear hU'
        generalize untilOf us sh = U at sc ⊢
        generalize (getOf fs sh).1.1 = F at sc H3 ⊢
        have ways : ((E == 0) = false ∧ (E != 0) = true ∧ (U' != U) = false) ∨ ((E == 0) = true ∧ (E != 0) = false ∧ (r != F) = false ∧ (U' == 0) = false) ∨ ((E == 0) = true ∧ (E != 0) = false ∧ (r != F) = false ∧ (U' == 0) = true ∧ decide (0 < U) = false) ∨ ((E == 0) = true ∧ (E != 0) = false ∧ (r != F) = true ∧ (U' == 0) = true) := by
          rcases sc with ⟨a1, a2⟩ | ⟨a1, a2, a3⟩ | ⟨a1, a2, a3⟩
          · exact Or.inl ⟨by simpa using a1, by simpa using a1, by simpa using a2⟩
          · by_cases hz : U' = 0
            · exact Or.inr (Or.inr (Or.inl ⟨by simpa using a1, by simpa using a1, by simpa using a2, by simpa using hz, by simp; omega⟩))
            · exact Or.inr (Or.inl ⟨by simpa using a1, by simpa using a1, by simpa using a2, by simpa using hz⟩)
          · exact Or.inr (Or.inr (Or.inr ⟨by simpa using a1, by simpa using a1, by simpa using a2, by simpa using a3⟩))
        clear sc
        have WS := Lib.hid ways
        clear ways
        go_wp2_with (fail)
        have q1 := fun (q : After w3) => after_cell (H3.out.get 0 rfl) q
        have q2 := fun (q : After w3) => after_cell (H3.out.get 1 rfl) q
        rcases WS.out with ⟨b1, b2, b3⟩ | ⟨b1, b2, b3, b4⟩ | ⟨b1, b2, b3, b4, b5⟩ | ⟨b1, b2, b3, b4⟩
        all_goals
          refine wp_region_after (by kernel_rfl) (by kernel_rfl) ?_
          repeat (go_big_quiet_step (first | (go_at_call 18; with_reducible refine until_after sh M4.out _ HU.out)))
          refine wpQuiet_nil ?_
          rintro _ ⟨q, rfl⟩
          go_wp2_with (fail)
          go_roundg (xs.length - (k + 1))
          case measure => omega
          case rel => exact ⟨k + 1, fs', us', rfl, by omega, by go_num, L4.out, M4.out.below q.bel, (H3.out.step q.bel).bel⟩
      · go_wp2_with (fail)
        generalize w1.heap.size = gf at H2 NF ⊢
        refine calls_gen (fun W => Holds w [(gf, .cells #[.int .i64 (getOf fs sh).1.1, .int .i64 (getOf fs sh).1.2] 25), (ga, .cells #[.int .i64 2, .int .i64 sh, .int .i64 ow, .int .i64 now, .int .i64 ti, .int .i64 r, .int .i64 o] 46)] W ∧ At 65 25 g gl gu fs us W) ⟨H2.out, M2.out⟩ ?_
        clear H2 M2 ca
        rintro W ⟨H2, M2⟩
        refine (fence_lease_t sh ow now ti _ M2).mono ?_
        rintro e w3 ⟨rfl, M3, hm⟩
        have H3 := Lib.hid (H2.mod hm (fun k hk => hk.elim (fun h => by rw [h]; exact G.out.2.1) (fun h => by rw [h]; exact G.out.2.2)) (fun p hp => by
          rcases List.mem_cons.1 hp with rfl | hp
          · exact fun h => h.elim NF.out.1 NF.out.2
          · obtain rfl := List.mem_singleton.1 hp
            exact fun h => h.elim NA.out.1 NA.out.2))
        have M4 := Lib.hid M3
        have SC := Lib.hid (lease_cases fs us sh ow now ti M2.len)
        clear H2 M2 hm M3
        have sc := SC.out
        clear SC
        generalize (leaseOf fs us sh ow now ti).2.2 = us' at M4 sc
        generalize (leaseOf fs us sh ow now ti).2.1 = E at sc ⊢
        generalize (leaseOf fs us sh ow now ti).1 = N at sc ⊢
        generalize hU' : untilOf us' sh = U' at sc
        have HU := Lib.hid hU'
        clear hU'
        generalize untilOf us sh = U at sc ⊢
        generalize (getOf fs sh).1.1 = F at sc H3 ⊢
        generalize (getOf fs sh).1.2 = O at sc H3 ⊢
        generalize (getOf fs sh).2 = I at sc ⊢
        have ways : ((E == 0) = false ∧ (E != 0) = true ∧ (U' != U) = false) ∨ ((E == 0) = true ∧ (E != 0) = false ∧ I = true ∧ (O != ow) = false ∧ (F == 0) = false ∧ decide (N < U) = false ∧ decide (N < wrap64 (now + ti)) = false ∧ (U' != N) = false) := by
          rcases sc with ⟨a1, a2⟩ | ⟨a1, a2, a3, a4, a5, a6, a7⟩
          · exact Or.inl ⟨by simpa using a1, by simpa using a1, by simpa using a2⟩
          · exact Or.inr ⟨by simpa using a1, by simpa using a1, a2, by simpa using a3, by simpa using a4, decide_eq_false a5, decide_eq_false a6, by simpa using a7⟩
        clear sc
        have WS := Lib.hid ways
        clear ways
        have ca := fun j => blk_cell (H3.out.get 1 rfl) j
        have cf := fun j => blk_cell (H3.out.get 0 rfl) j
        rcases WS.out with ⟨b1, b2, b3⟩ | ⟨b1, b2, rfl, b4, b5, b6, b7, b8⟩
        all_goals
          clear WS
          go_wp2_with (go_at_call 18; with_reducible refine (until_same sh M4.out HU.out).mono ?_; rintro e w5 ⟨rfl, rfl⟩)
          go_roundg (xs.length - (k + 1))
          case measure => omega
          case rel => exact ⟨k + 1, fs, us', rfl, by omega, by go_num, h3, M4, H3.out.bel⟩
      · have n3 : (op == 1) = false := by simpa using n1
        have n4 : (op == 2) = false := by simpa using n2
        clear n1 n2
        go_wp2_with (fail)
        go_roundg (xs.length - (k + 1))
        case measure => omega
        case rel => exact ⟨k + 1, fs, us, rfl, by omega, by go_num, h3, M2, H2.out.bel⟩
    · obtain rfl : k = xs.length := by omega
      go_wp2_with (fail)
      go_ret
      exact ⟨by simp, HB.out⟩

set_option maxRecDepth 100000 in
set_option maxHeartbeats 1000000 in
theorem long (a : Option Addr) (ca n : Nat) (w : World) (h : 250 < n) : Calls Try.prog 5 #[.slice a n ca] w (Yes w) := by
  have hd : decide (250 < (n : Int)) = true := by simp; omega
  clear h
  go_enter Try.func5, Try.ntmps5
  go_wp2_with (fail)
  refine (PFenceOne.teasellaw17_known.calls 1 true _ One.known_true).mono ?_
  rintro e w1 ⟨rfl, hb⟩
  have B1 := Lib.hid (below_step (Below.refl w.heap.size w) hb)
  clear hb
  go_wp2_with (fail)
  go_ret
  exact ⟨by simp, B1.out⟩

theorem all (a : Option Addr) (ca : Nat) (xs : List ActV) (w : World) (hx : Acts w a xs) : Calls Try.prog 5 #[.slice a xs.length ca] w (Yes w) := by
  by_cases h : xs.length ≤ 250
  · exact law a ca xs w hx h
  · exact long a ca _ w (by omega)

end Go.Proofs.Ytgalahnockmgpaa.Leases

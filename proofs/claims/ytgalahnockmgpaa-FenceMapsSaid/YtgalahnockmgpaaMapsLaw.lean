/- The law FenceMaps by a walk: for every number of groups and every list of acts it returns true, and nothing that was there is changed. Conditions: none. -/
import Derived.Test.YtgalahnockmgpaaLeases
import Derived.Deep.RegionHeld3
import Derived.Deep.DeepCutAuto
import Derived.Deep.CutBlock
namespace Go.Proofs.Ytgalahnockmgpaa.MapsLaw
open Go.RowKit Go.Proofs.YtgalahnockmgpaaW.PrintWords Go.Proofs.Ytgalahnockmgpaa.Kit Go.Proofs.Ytgalahnockmgpaa.Maps Go.Proofs.Ytgalahnockmgpaa.Leases

theorem at_mod {tm tf : TypeId} {g gl gu : Nat} {fs : List (Int × Int)} {us : List Int} {W W' : World} {S : Nat → Prop} (h : At tm tf g gl gu fs us W) (hm : Mod S W W') (hs : ¬ S g ∧ ¬ S gl ∧ ¬ S gu) : At tm tf g gl gu fs us W' :=
  ⟨hm.blk h.m hs.1, hm.blk h.l hs.2.1, hm.blk h.u hs.2.2, h.len, h.few, h.gm⟩

theorem own_ints {w : World} {base n : Nat} {v : Value} {xs : List Int} (h : w.ownsRow base 3 1 v n (ints xs)) : n = xs.length ∧ ∃ a cap, v = .slice a n cap ∧ Ints w .i64 a xs := by
  have hn : n = xs.length := by
    have := h.1
    simp [ints] at this
    omega
  refine ⟨hn, ?_⟩
  rcases h.2 with ⟨rfl, h0⟩ | ⟨g, cap, cur, rfl, _, hb, hc, _, hsz, ht⟩
  · refine ⟨none, 0, by rw [h0], fun i hi => ?_⟩
    omega
  · refine ⟨some ⟨g, 0, none⟩, cap, rfl, fun i hi => ⟨g, 0, rfl, blk_lt hb, ?_⟩⟩
    rw [Nat.zero_add, blk_cell hb]
    have e : cur.toList[i]? = (ints xs)[i]? := by
      rw [← ht, List.getElem?_take_of_lt (by omega)]
    rw [← Array.getElem?_toList, e]
    simp [ints, hi]

theorem runtil_after {g gl gu : Nat} {fs : List (Int × Int)} {us : List Int} (s : Int) {W : World} (h : At 69 31 g gl gu fs us W) (q : After W) {v : Int} (hv : untilOf us s = v) :
    Calls Try.prog 28 #[.pointer (some ⟨g, 0, none⟩), .int .i64 s] q.now fun e w'' => e = .returned (.int .i64 v) ∧ ∃ q' : After W, w'' = q'.now :=
  after_calls q ((ref_until_t s _ (h.below q.bel)).mono fun e w' hh => by
    obtain ⟨h1, rfl⟩ := hh
    rw [hv] at h1
    exact ⟨h1, Below.refl _ _⟩)

theorem ints_below {w W : World} {k : IntKind} {a : Option Addr} {xs : List Int} (h : Ints w k a xs) (hb : Below w.heap.size w W) : Ints W k a xs := fun i hi =>
  match h i hi with
  | ⟨b, off, e1, e2, e3⟩ => ⟨b, off, e1, Nat.lt_of_lt_of_le e2 hb.size, (hb.cell e2).trans e3⟩

/-- The two maps and where they lie. -/
structure Both (w : World) (N g gl gu h hl hu : Nat) (fs : List (Int × Int)) (us : List Int) (W : World) : Prop where
  go : At 65 25 g gl gu fs us W
  rf : At 69 31 h hl hu fs us W
  bel : Below w.heap.size w W
  lo : w.heap.size ≤ g ∧ w.heap.size ≤ gl ∧ w.heap.size ≤ gu
  mid : g < N ∧ gl < N ∧ gu < N
  hi : N ≤ h ∧ N ≤ hl ∧ N ≤ hu

theorem Both.below {w W W' : World} {N g gl gu h hl hu : Nat} {fs : List (Int × Int)} {us : List Int} (b : Both w N g gl gu h hl hu fs us W) (hb : Below W.heap.size W W') : Both w N g gl gu h hl hu fs us W' :=
  ⟨b.go.below hb, b.rf.below hb, below_step b.bel hb, b.lo, b.mid, b.hi⟩

theorem Both.setGo {w W W' : World} {N g gl gu h hl hu : Nat} {fs : List (Int × Int)} {us : List Int} (b : Both w N g gl gu h hl hu fs us W) (hm : Mod (fun k => k = gl ∨ k = gu) W W') :
    At 69 31 h hl hu fs us W' ∧ Below w.heap.size w W' := by
  obtain ⟨m1, m2, m3⟩ := b.mid
  obtain ⟨h1, h2, h3⟩ := b.hi
  obtain ⟨l1, l2, l3⟩ := b.lo
  exact ⟨at_mod b.rf hm ⟨by omega, by omega, by omega⟩, hm.below b.bel (fun k hk => by omega)⟩

theorem both_of {w W W1 W2 : World} {N g gl gu h hl hu : Nat} {fs fs' : List (Int × Int)} {us us' : List Int} (b : Both w N g gl gu h hl hu fs us W) (hg : At 65 25 g gl gu fs' us' W1) (hb : Below w.heap.size w W1) (hr : At 69 31 h hl hu fs' us' W2) (hm : Mod (fun k => k = hl ∨ k = hu) W1 W2) :
    Both w N g gl gu h hl hu fs' us' W2 := by
  obtain ⟨m1, m2, m3⟩ := b.mid
  obtain ⟨h1, h2, h3⟩ := b.hi
  obtain ⟨l1, l2, l3⟩ := b.lo
  exact ⟨at_mod hg hm ⟨by omega, by omega, by omega⟩, hr, hm.below hb (fun k hk => by omega), b.lo, b.mid, b.hi⟩

def act (op sh ow now ti r o : Int) : Obj := .cells #[.int .i64 op, .int .i64 sh, .int .i64 ow, .int .i64 now, .int .i64 ti, .int .i64 r, .int .i64 o] 46

set_option maxRecDepth 100000 in
set_option maxHeartbeats 8000000 in
theorem law (n : Nat) (h1 : 1 ≤ n) (h8 : n ≤ 8) (a : Option Addr) (ca : Nat) (xs : List ActV) (w : World) (hx : Acts w a xs) (lx : xs.length ≤ 250) :
    Calls Try.prog 6 #[.int .i64 n, .slice a xs.length ca] w (Yes w) := by
  have hu25 := Try.underlying25
  have hu31 := Try.underlying31
  have HX := Lib.hid hx
  clear hx
  go_enter Try.func6, Try.ntmps6
  go_wp2_with (fail)
  refine (PFenceOne.teasellaw17_known.calls 1 true _ One.known_true).mono ?_
  rintro e w1 ⟨rfl, hb⟩
  have B1 := Lib.hid (below_step (Below.refl w.heap.size w) hb)
  clear hb
  go_wp2_with (fail)
  refine (fence_new n h1 h8 _).mono ?_
  rintro e w2 ⟨g, gl, gu, rfl, M, hb, l1, l2, l3⟩
  have B2 := Lib.hid (below_step B1.out hb)
  have G := Lib.hid (show w.heap.size ≤ g ∧ w.heap.size ≤ gl ∧ w.heap.size ≤ gu from ⟨Nat.le_trans B1.out.size l1, Nat.le_trans B1.out.size l2, Nat.le_trans B1.out.size l3⟩)
  have M2 := Lib.hid M
  clear hb B1 l1 l2 l3 M w1
  go_wp2_with (fail)
  refine (ref_new n h1 h8 _).mono ?_
  rintro e w3 ⟨h, hl, hu, rfl, R, hb, l1, l2, l3⟩
  have BB := Lib.hid (show Both w w2.heap.size g gl gu h hl hu (List.replicate n (0, 0)) (List.replicate n 0) w3 from ⟨M2.out.below hb, R, below_step B2.out hb, G.out, ⟨blk_lt M2.out.m, blk_lt M2.out.l, blk_lt M2.out.u⟩, l1, l2, l3⟩)
  clear hb B2 l1 l2 l3 R M2 G h1 h8
  generalize w2.heap.size = N at BB
  go_wp2_with (fail)
  go_loopg [9] xs.length (fun m i wr => ∃ (k : Nat) (fs : List (Int × Int)) (us : List Int), m = xs.length - k ∧ k ≤ xs.length ∧ i = .int .i64 k ∧ Hid (Both w N g gl gu h hl hu fs us wr))
  case atStart => exact ⟨0, _, _, rfl, Nat.zero_le _, rfl, BB⟩
  case round =>
    obtain ⟨k, fs, us, rfl, hk, rfl, B⟩ := hrel
    clear BB
    by_cases hlt : k < xs.length
    · obtain ⟨b, off, rfl, hbb, hc⟩ := HX.out k hlt
      generalize xs[k] = x at hc
      obtain ⟨op, sh, ow, now, ti, r, o⟩ := x
      have HC := Lib.hid (fun j hj => (B.out.bel.cell (p := ⟨b, off + k * 7 + j, none⟩) hbb).trans (hc j hj))
      clear hc
      have q0 := HC.out 0 (by decide)
      have q1 := HC.out 1 (by decide)
      have q2 := HC.out 2 (by decide)
      have q3 := HC.out 3 (by decide)
      have q4 := HC.out 4 (by decide)
      have q5 := HC.out 5 (by decide)
      have q6 := HC.out 6 (by decide)
      simp only [ActV.cells, Nat.add_zero] at q0 q1 q2 q3 q4 q5 q6
      have H := Lib.hid ((Holds.start w).step B.out.bel |>.alloc (act op sh ow now ti r o))
      have B1 := Lib.hid (B.out.below (below_alloc (Below.refl _ _) (act op sh ow now ti r o)))
      have NA := Lib.hid (show (wr.heap.size ≠ gl ∧ wr.heap.size ≠ gu) ∧ wr.heap.size ≠ hl ∧ wr.heap.size ≠ hu from ⟨⟨Nat.ne_of_gt (blk_lt B.out.go.l), Nat.ne_of_gt (blk_lt B.out.go.u)⟩, Nat.ne_of_gt (blk_lt B.out.rf.l), Nat.ne_of_gt (blk_lt B.out.rf.u)⟩)
      go_upto_block 2 with (fail)
      clear q0 q1 q2 q3 q4 q5 q6 HC B
      generalize wr.heap.size = ga at H NA ⊢
      have e : wr.alloc (.cells #[.int .i64 op, .int .i64 sh, .int .i64 ow, .int .i64 now, .int .i64 ti, .int .i64 r, .int .i64 o] 46) = wr.alloc (act op sh ow now ti r o) := rfl
      rw [e]
      clear e
      generalize wr.alloc (act op sh ow now ti r o) = wa at H B1 ⊢
      go_cut [11] (fun v11 wc => ∃ (fs' : List (Int × Int)) (us' : List Int), Hid (Both w N g gl gu h hl hu fs' us' wc) ∧ Hid (Holds w [(ga, act op sh ow now ti r o)] wc))
      case first =>
        have ca := fun j => blk_cell (H.out.get 0 rfl) j
        have h1 : op = 1 ∨ op = 2 ∨ (op ≠ 1 ∧ op ≠ 2) := by omega
        rcases h1 with rfl | rfl | ⟨n1, n2⟩
        · go_wp2_with (fail)
          clear ca
          have sat : ∀ w', Holds w [(ga, act 1 sh ow now ti r o)] w' → Hid (Holds w [(ga, act 1 sh ow now ti r o)] w') ∧ w'.cell? ⟨ga, 1, none⟩ = some (.int .i64 sh) ∧ w'.cell? ⟨ga, 5, none⟩ = some (.int .i64 r) ∧ w'.cell? ⟨ga, 6, none⟩ = some (.int .i64 o) := fun w' hh =>
            ⟨hh, blk_cell (hh.get 0 rfl) 1, blk_cell (hh.get 0 rfl) 5, blk_cell (hh.get 0 rfl) 6⟩
          have sl := B1.out.lo
          have sm := B1.out.mid
          have sh' := B1.out.hi
          have ds : ∀ p ∈ [(ga, act 1 sh ow now ti r o)], ¬ (p.1 = gl ∨ p.1 = gu) := fun p hp => by
            obtain rfl := List.mem_singleton.1 hp
            exact fun hh => hh.elim NA.out.1.1 NA.out.1.2
          have ds' : ∀ p ∈ [(ga, act 1 sh ow now ti r o)], ¬ (p.1 = hl ∨ p.1 = hu) := fun p hp => by
            obtain rfl := List.mem_singleton.1 hp
            exact fun hh => hh.elim NA.out.2.1 NA.out.2.2
          have lo1 := Lib.hid (show ∀ k, k = gl ∨ k = gu → w.heap.size ≤ k from fun k hk => by omega)
          have lo2 := Lib.hid (show ∀ k, k = hl ∨ k = hu → w.heap.size ≤ k from fun k hk => by omega)
          have DS := Lib.hid ds
          have DS' := Lib.hid ds'
          clear sl sm sh' ds ds'
          go_region_held3 (fun w' => Hid (Holds w [(ga, act 1 sh ow now ti r o)] w') ∧ w'.cell? ⟨ga, 1, none⟩ = some (.int .i64 sh) ∧ w'.cell? ⟨ga, 5, none⟩ = some (.int .i64 r) ∧ w'.cell? ⟨ga, 6, none⟩ = some (.int .i64 o))
            (first
              | exact sat _ (H.out.step (below_drew (Below.refl _ _)))
              | exact sat _ K3.out
              | exact sat _ K4.out
              | exact sat _ K5.out)
            (first
              | (go_at_call 20; refine (fence_set_t sh r o _ (B1.out.go.drew)).mono ?_; rintro e w3 ⟨rfl, M3, hm⟩; have K3 := Lib.hid ((H.out.step (below_drew (Below.refl _ _))).mod hm lo1.out DS.out); have R3 := Lib.hid ((B1.out.below (below_drew (Below.refl _ _))).setGo hm); have G3 := Lib.hid M3; clear hm M3)
              | (go_at_call 10; refine (PFenceOne.teasellaw17_of.calls r o r o _ rfl).mono ?_; rintro e w4 ⟨rfl, hb4⟩; have K4 := Lib.hid (K3.out.step hb4); have R4 := Lib.hid (R3.out.1.below hb4); have L4 := Lib.hid (below_step R3.out.2 hb4); have G4 := Lib.hid (G3.out.below hb4); clear hb4)
              | (go_at_call 23; refine (ref_set_t sh r o _ R4.out).mono ?_; rintro e w5 ⟨rfl, M5, hm5⟩; have K5 := Lib.hid (K4.out.mod hm5 lo2.out DS'.out); have G5 := Lib.hid (both_of (B1.out.below (below_drew (Below.refl _ _))) G4.out L4.out M5 hm5); clear hm5 M5))
          go_wp2_with (fail)
          go_meet
          case rel => exact ⟨_, _, G5, K5⟩
        · go_wp2_with (fail)
          clear ca
          have sl := B1.out.lo
          have sm := B1.out.mid
          have sh' := B1.out.hi
          have ds : ∀ p ∈ [(ga, act 2 sh ow now ti r o)], ¬ (p.1 = gl ∨ p.1 = gu) := fun p hp => by
            obtain rfl := List.mem_singleton.1 hp
            exact fun hh => hh.elim NA.out.1.1 NA.out.1.2
          have ds' : ∀ p ∈ [(ga, act 2 sh ow now ti r o)], ¬ (p.1 = hl ∨ p.1 = hu) := fun p hp => by
            obtain rfl := List.mem_singleton.1 hp
            exact fun hh => hh.elim NA.out.2.1 NA.out.2.2
          have lo1 := Lib.hid (show ∀ k, k = gl ∨ k = gu → w.heap.size ≤ k from fun k hk => by omega)
          have lo2 := Lib.hid (show ∀ k, k = hl ∨ k = hu → w.heap.size ≤ k from fun k hk => by omega)
          have DS := Lib.hid ds
          have DS' := Lib.hid ds'
          clear sl sm sh' ds ds'
          refine (fence_lease_t sh ow now ti _ B1.out.go).mono ?_
          rintro e w3 ⟨rfl, M3, hm⟩
          have K3 := Lib.hid (H.out.mod hm lo1.out DS.out)
          have R3 := Lib.hid (B1.out.setGo hm)
          have G3 := Lib.hid M3
          clear hm M3
          have ca := fun j => blk_cell (K3.out.get 0 rfl) j
          go_wp2_with (fail)
          refine (ref_lease_t sh ow now ti _ R3.out.1).mono ?_
          rintro e w5 ⟨rfl, M5, hm5⟩
          have K5 := Lib.hid (K3.out.mod hm5 lo2.out DS'.out)
          have G5 := Lib.hid (both_of B1.out G3.out R3.out.2 M5 hm5)
          clear hm5 M5 ca
          go_wp2_with (fail)
          go_meet
          case rel => exact ⟨_, _, G5, K5⟩
        · have n3 : (op == 1) = false := by simpa using n1
          have n4 : (op == 2) = false := by simpa using n2
          clear n1 n2
          go_wp2_with (fail)
          go_meet
          case rel => exact ⟨fs, us, B1, H⟩
      case rest =>
        obtain ⟨fs', us', B2, H2⟩ := hcut
        clear H B1 NA
        have ca := fun j => blk_cell (H2.out.get 0 rfl) j
        go_wp2_with (fail)
        obtain ⟨F, O, I, hG⟩ : ∃ F O I, getOf fs' sh = ((F, O), I) := ⟨_, _, _, rfl⟩
        have hgo := fun W hh => fence_get_t (g := g) (gl := gl) (gu := gu) (fs := fs') (us := us') sh W hh
        have hrf := fun W hh => ref_get_t (g := h) (gl := hl) (gu := hu) (fs := fs') (us := us') sh W hh
        rw [hG] at hgo hrf
        have HGO := Lib.hid hgo
        have HRF := Lib.hid hrf
        clear hG hgo hrf
        refine (HGO.out _ B2.out.go).mono ?_
        rintro e w3 ⟨rfl, hb⟩
        have H3 := Lib.hid ((H2.out.step hb).alloc (.cells #[.int .i64 F, .int .i64 O] 25))
        have B3 := Lib.hid ((B2.out.below hb).below (below_alloc (Below.refl _ _) (.cells #[.int .i64 F, .int .i64 O] 25)))
        clear hb ca H2 B2 HGO
        have ca := fun j => blk_cell (H3.out.get 1 rfl) j
        go_wp2_with (fail)
        generalize w3.heap.size = gf at H3 ⊢
        generalize w3.alloc (.cells #[.int .i64 F, .int .i64 O] 25) = w4 at H3 B3 ca ⊢
        refine (HRF.out _ B3.out.rf).mono ?_
        rintro e w5 ⟨rfl, hb⟩
        have H5 := Lib.hid ((H3.out.step hb).alloc (.cells #[.int .i64 F, .int .i64 O] 31))
        have B5 := Lib.hid ((B3.out.below hb).below (below_alloc (Below.refl _ _) (.cells #[.int .i64 F, .int .i64 O] 31)))
        clear hb ca H3 B3 HRF
        have ca := fun j => blk_cell (H5.out.get 2 rfl) j
        go_wp2_with (fail)
        generalize w5.heap.size = gr at H5 ⊢
        generalize w5.alloc (.cells #[.int .i64 F, .int .i64 O] 31) = w6 at H5 B5 ca ⊢
        refine (fence_of ow _ B5.out.go).mono ?_
        rintro e w7 ⟨v, rfl, own, hb⟩
        obtain ⟨hn, oa, ocap, rfl, hI⟩ := own_ints own
        have H7 := Lib.hid (H5.out.step hb)
        have B7 := Lib.hid (B5.out.below hb)
        have I7 := Lib.hid hI
        clear hb ca H5 B5 own hn hI
        have ca := fun j => blk_cell (H7.out.get 2 rfl) j
        go_wp2_with (fail)
        refine (ref_of ow _ B7.out.rf).mono ?_
        rintro e w8 ⟨v, rfl, own, hb⟩
        obtain ⟨hn, pa, pcap, rfl, hI⟩ := own_ints own
        have H8 := Lib.hid (H7.out.step hb)
        have B8 := Lib.hid (B7.out.below hb)
        have I8 := Lib.hid hI
        have I9 := Lib.hid (ints_below I7.out hb)
        have LL := Lib.hid (Nat.le_trans (ofs_len ow fs' fs'.length) B8.out.go.few)
        clear hb ca H7 B7 own hn hI I7
        generalize ofs ow fs' fs'.length = ls at I8 I9 LL ⊢
        generalize hU : untilOf us' sh = U
        have HU := Lib.hid hU
        clear hU
        go_wp2_with (fail)
        have c0 := fun (q : After w8) => after_cell (H8.out.get 0 rfl) q
        have c1 := fun (q : After w8) => after_cell (H8.out.get 1 rfl) q
        have c2 := fun (q : After w8) => after_cell (H8.out.get 2 rfl) q
        refine wp_region_after (by kernel_rfl) (by kernel_rfl) ?_
        repeat (go_big_quiet_step (first
          | (go_at_call 10; with_reducible refine after_calls _ (PFenceOne.teasellaw17_of.calls F O F O _ rfl))
          | (go_at_call 18; with_reducible refine until_after sh B8.out.go _ HU.out)
          | (go_at_call 28; with_reducible refine runtil_after sh B8.out.rf _ HU.out)))
        refine wpQuiet_nil ?_
        rintro _ ⟨q, rfl⟩
        go_wp2_with (fail)
        have B9 := Lib.hid (B8.out.below q.bel)
        have IA := Lib.hid (ints_below I9.out q.bel)
        have IB := Lib.hid (ints_below I8.out q.bel)
        clear c0 c1 c2 H8 B8 I8 I9 HU
        obtain ⟨wq, hwq⟩ : ∃ wq, q.now = wq := ⟨_, rfl⟩
        rw [hwq] at B9 IA IB ⊢
        clear hwq q
        go_loopg [21] ls.length (fun m i wz => ∃ j : Nat, m = ls.length - j ∧ j ≤ ls.length ∧ i = .int .i64 j ∧ Hid (Below wq.heap.size wq wz))
        case atStart => exact ⟨0, rfl, Nat.zero_le _, rfl, Below.refl _ _⟩
        case round =>
          obtain ⟨j, rfl, hj, rfl, HZ⟩ := hrel
          have lb := LL.out
          by_cases hjl : j < ls.length
          · obtain ⟨b1, o1, rfl, e2, e3⟩ := IA.out j hjl
            obtain ⟨b2, o2, rfl, e5, e6⟩ := IB.out j hjl
            rename_i wz
            have z1 := (HZ.out.cell (p := ⟨b1, o1 + j, none⟩) e2).trans e3
            have z2 := (HZ.out.cell (p := ⟨b2, o2 + j, none⟩) e5).trans e6
            have jl : (j : Int) < (ls.length : Int) := by omega
            have j0 : (0 : Int) ≤ (j : Int) := by omega
            clear e2 e3 e5 e6
            go_wp2_with (fail)
            go_quiet (fail)
            go_wp2_with (fail)
            go_roundg (ls.length - (j + 1))
            case measure => omega
            case rel => exact ⟨j + 1, rfl, by omega, by go_num, pw_below_drewN HZ.out _⟩
          · go_wp2_with (fail)
            go_roundg (xs.length - (k + 1))
            case measure => omega
            case rel => exact ⟨k + 1, fs', us', rfl, by omega, by go_num, B9.out.below HZ.out⟩
    · obtain rfl : k = xs.length := by omega
      go_wp2_with (fail)
      go_ret
      exact ⟨by simp, B.out.bel⟩

set_option maxRecDepth 100000 in
set_option maxHeartbeats 1000000 in
theorem long (g : Int) (a : Option Addr) (ca n : Nat) (w : World) (h : 250 < n) : Calls Try.prog 6 #[.int .i64 g, .slice a n ca] w (Yes w) := by
  have hd : decide (250 < (n : Int)) = true := by simp; omega
  clear h
  go_enter Try.func6, Try.ntmps6
  go_wp2_with (fail)
  refine (PFenceOne.teasellaw17_known.calls 1 true _ One.known_true).mono ?_
  rintro e w1 ⟨rfl, hb⟩
  have B1 := Lib.hid (below_step (Below.refl w.heap.size w) hb)
  clear hb
  go_wp2_with (fail)
  go_ret
  exact ⟨by simp, B1.out⟩

set_option maxRecDepth 100000 in
set_option maxHeartbeats 1000000 in
theorem none (g : Int) (hg : ¬ (1 ≤ g ∧ g ≤ 8)) (a : Option Addr) (ca n : Nat) (w : World) (h : n ≤ 250) : Calls Try.prog 6 #[.int .i64 g, .slice a n ca] w (Yes w) := by
  have hd : decide (250 < (n : Int)) = false := by simp; omega
  have HG := Lib.hid hg
  clear h hg
  go_enter Try.func6, Try.ntmps6
  go_wp2_with (fail)
  refine (PFenceOne.teasellaw17_known.calls 1 true _ One.known_true).mono ?_
  rintro e w1 ⟨rfl, hb⟩
  have B1 := Lib.hid (below_step (Below.refl w.heap.size w) hb)
  clear hb
  go_wp2_with (fail)
  refine (fence_new_no g HG.out _).mono ?_
  rintro e w2 ⟨rfl, rfl⟩
  go_wp2_with (fail)
  refine (ref_new_no g HG.out _).mono ?_
  rintro e w2 ⟨rfl, rfl⟩
  go_wp2_with (fail)
  go_ret
  exact ⟨by simp, B1.out⟩

theorem all (g : Int) (a : Option Addr) (ca : Nat) (xs : List ActV) (w : World) (hx : Acts w a xs) : Calls Try.prog 6 #[.int .i64 g, .slice a xs.length ca] w (Yes w) := by
  by_cases h : xs.length ≤ 250
  · by_cases hg : 1 ≤ g ∧ g ≤ 8
    · obtain ⟨n, rfl⟩ := Int.eq_ofNat_of_zero_le (show 0 ≤ g by omega)
      exact law n (by omega) (by omega) a ca xs w hx h
    · exact none g hg a ca _ w h
  · exact long g a ca _ w (by omega)

end Go.Proofs.Ytgalahnockmgpaa.MapsLaw

/- The methods of a fence.Map and of the reference's come to the same plain functions. Conditions: those at each theorem. -/
import Derived.Test.YtgalahnockmgpaaMapsB
namespace Go.Proofs.Ytgalahnockmgpaa.Maps
open Go.RowKit Go.Proofs.YtgalahnockmgpaaW.PrintWords Go.Proofs.Ytgalahnockmgpaa.Kit

/-! ### What the methods answer, as plain functions -/
def untilOf (us : List Int) (s : Int) : Int := if 0 ≤ s ∧ s < us.length then us.getD s.toNat 0 else 0
def getOf (fs : List (Int × Int)) (s : Int) : (Int × Int) × Bool := if 0 ≤ s ∧ s < fs.length then (fs.getD s.toNat (0, 0), true) else ((0, 0), false)
def setOf (fs : List (Int × Int)) (us : List Int) (s r o : Int) : Int × List (Int × Int) × List Int :=
  if 0 ≤ s ∧ s < fs.length then
    if r < (fs.getD s.toNat (0, 0)).1 then (25, fs, us)
    else (0, fs.set s.toNat (r, o), if r = (fs.getD s.toNat (0, 0)).1 then us else us.set s.toNat 0)
  else (2, fs, us)
def leaseOf (fs : List (Int × Int)) (us : List Int) (s ow now ti : Int) : Int × Int × List Int :=
  if 0 ≤ s ∧ s < fs.length then
    if 0 ≤ now ∧ 1 ≤ ti ∧ ti ≤ 1048576 ∧ now ≤ 1099511627776 then
      if (fs.getD s.toNat (0, 0)).2 = ow ∧ (fs.getD s.toNat (0, 0)).1 ≠ 0 then
        (if us.getD s.toNat 0 < now + ti then now + ti else us.getD s.toNat 0, 0, us.set s.toNat (if us.getD s.toNat 0 < now + ti then now + ti else us.getD s.toNat 0))
      else (0, 25, us)
    else (0, 1, us)
  else (0, 2, us)

theorem setOf_len (fs : List (Int × Int)) (us : List Int) (s r o : Int) : (setOf fs us s r o).2.1.length = fs.length := by
  unfold setOf
  split
  · split
    · rfl
    · simp
  · rfl

theorem fence_until_t {g gl gu : Nat} {fs : List (Int × Int)} {us : List Int} (s : Int) (w : World) (h : At 65 25 g gl gu fs us w) :
    Calls Try.prog 18 #[.pointer (some ⟨g, 0, none⟩), .int .i64 s] w fun e w' => e = .returned (.int .i64 (untilOf us s)) ∧ w = w' := by
  unfold untilOf
  by_cases hs : 0 ≤ s ∧ s < fs.length
  · obtain ⟨n, rfl⟩ := Int.eq_ofNat_of_zero_le hs.1
    have hn : n < us.length := by have := h.len; omega
    rw [if_pos (by have := h.len; omega)]
    rw [Int.toNat_natCast, List.getD_eq_getElem?_getD, List.getElem?_eq_getElem hn]
    exact fence_until n w h hn
  · rw [if_neg (by rw [h.len]; exact hs)]
    exact fence_until_no s w h hs

theorem fence_get_t {g gl gu : Nat} {fs : List (Int × Int)} {us : List Int} (s : Int) (w : World) (h : At 65 25 g gl gu fs us w) :
    Calls Try.prog 19 #[.pointer (some ⟨g, 0, none⟩), .int .i64 s] w fun e w' => e = .returned (.tuple #[.agg #[.int .i64 (getOf fs s).1.1, .int .i64 (getOf fs s).1.2], .bool (getOf fs s).2]) ∧ Below w.heap.size w w' := by
  unfold getOf
  by_cases hs : 0 ≤ s ∧ s < fs.length
  · rw [if_pos hs]
    obtain ⟨n, rfl⟩ := Int.eq_ofNat_of_zero_le hs.1
    have hn : n < fs.length := by omega
    rw [Int.toNat_natCast, List.getD_eq_getElem?_getD, List.getElem?_eq_getElem hn]
    exact fence_get n w h hn
  · rw [if_neg hs]
    exact fence_get_no s w h hs

theorem fence_set_t {g gl gu : Nat} {fs : List (Int × Int)} {us : List Int} (s r o : Int) (w : World) (h : At 65 25 g gl gu fs us w) :
    Calls Try.prog 20 #[.pointer (some ⟨g, 0, none⟩), .int .i64 s, .agg #[.int .i64 r, .int .i64 o]] w fun e w' => e = .returned (.int .i64 (setOf fs us s r o).1) ∧ At 65 25 g gl gu (setOf fs us s r o).2.1 (setOf fs us s r o).2.2 w' ∧ Mod (fun k => k = gl ∨ k = gu) w w' := by
  unfold setOf
  by_cases hs : 0 ≤ s ∧ s < fs.length
  · rw [if_pos hs]
    obtain ⟨n, rfl⟩ := Int.eq_ofNat_of_zero_le hs.1
    have hn : n < fs.length := by omega
    have e : fs.getD n (0, 0) = fs[n] := by rw [List.getD_eq_getElem?_getD, List.getElem?_eq_getElem hn]; rfl
    rw [Int.toNat_natCast, e]
    by_cases h1 : r < fs[n].1
    · rw [if_pos h1]
      exact (fence_set_low n r o w h hn h1).mono fun e w' hh => ⟨hh.1, h.below hh.2, Mod.of_below hh.2⟩
    · rw [if_neg h1]
      by_cases h2 : r = fs[n].1
      · rw [if_pos h2]
        subst h2
        exact fence_set_same n o w h hn
      · rw [if_neg h2]
        exact fence_set_new n r o w h hn (by omega)
  · rw [if_neg hs]
    exact (fence_set_no s r o w h hs).mono fun e w' hh => ⟨hh.1, h.below hh.2, Mod.of_below hh.2⟩

theorem fence_lease_t {g gl gu : Nat} {fs : List (Int × Int)} {us : List Int} (s ow now ti : Int) (w : World) (h : At 65 25 g gl gu fs us w) :
    Calls Try.prog 21 #[.pointer (some ⟨g, 0, none⟩), .int .i64 s, .int .i64 ow, .int .i64 now, .int .i64 ti] w fun e w' => e = .returned (.tuple #[.int .i64 (leaseOf fs us s ow now ti).1, .int .i64 (leaseOf fs us s ow now ti).2.1]) ∧ At 65 25 g gl gu fs (leaseOf fs us s ow now ti).2.2 w' ∧ Mod (fun k => k = gl ∨ k = gu) w w' := by
  unfold leaseOf
  by_cases hs : 0 ≤ s ∧ s < fs.length
  · rw [if_pos hs]
    obtain ⟨n, rfl⟩ := Int.eq_ofNat_of_zero_le hs.1
    have hn : n < fs.length := by omega
    have hu : n < us.length := by have := h.len; omega
    have e : fs.getD n (0, 0) = fs[n] := by rw [List.getD_eq_getElem?_getD, List.getElem?_eq_getElem hn]; rfl
    have e2 : us.getD n 0 = us[n] := by rw [List.getD_eq_getElem?_getD, List.getElem?_eq_getElem hu]; rfl
    rw [Int.toNat_natCast, e, e2]
    by_cases h1 : 0 ≤ now ∧ 1 ≤ ti ∧ ti ≤ 1048576 ∧ now ≤ 1099511627776
    · rw [if_pos h1]
      by_cases h2 : fs[n].2 = ow ∧ fs[n].1 ≠ 0
      · rw [if_pos h2]
        obtain ⟨rfl, h3⟩ := h2
        exact fence_lease_ok n now ti w h hn hu h1.1 h1.2.1 h1.2.2.1 h1.2.2.2 h3
      · rw [if_neg h2]
        have h3 : fs[n].2 ≠ ow ∨ fs[n].1 = 0 := by
          by_cases h4 : fs[n].2 = ow
          · exact Or.inr (by by_cases h5 : fs[n].1 = 0; exact h5; exact absurd ⟨h4, h5⟩ h2)
          · exact Or.inl h4
        exact (fence_lease_fenced n ow now ti w h hn h1.1 h1.2.1 h1.2.2.1 h1.2.2.2 h3).mono fun e w' hh => ⟨hh.1, h.below hh.2, Mod.of_below hh.2⟩
    · rw [if_neg h1]
      exact (fence_lease_arg n ow now ti w h hn h1).mono fun e w' hh => ⟨hh.1, h.below hh.2, Mod.of_below hh.2⟩
  · rw [if_neg hs]
    exact (fence_lease_no s ow now ti w h hs).mono fun e w' hh => ⟨hh.1, h.below hh.2, Mod.of_below hh.2⟩

theorem ref_until_t {g gl gu : Nat} {fs : List (Int × Int)} {us : List Int} (s : Int) (w : World) (h : At 69 31 g gl gu fs us w) :
    Calls Try.prog 28 #[.pointer (some ⟨g, 0, none⟩), .int .i64 s] w fun e w' => e = .returned (.int .i64 (untilOf us s)) ∧ w = w' := by
  unfold untilOf
  by_cases hs : 0 ≤ s ∧ s < fs.length
  · obtain ⟨n, rfl⟩ := Int.eq_ofNat_of_zero_le hs.1
    have hn : n < us.length := by have := h.len; omega
    rw [if_pos (by have := h.len; omega)]
    rw [Int.toNat_natCast, List.getD_eq_getElem?_getD, List.getElem?_eq_getElem hn]
    exact ref_until n w h hn
  · rw [if_neg (by rw [h.len]; exact hs)]
    exact ref_until_no s w h hs

theorem ref_get_t {g gl gu : Nat} {fs : List (Int × Int)} {us : List Int} (s : Int) (w : World) (h : At 69 31 g gl gu fs us w) :
    Calls Try.prog 25 #[.pointer (some ⟨g, 0, none⟩), .int .i64 s] w fun e w' => e = .returned (.tuple #[.agg #[.int .i64 (getOf fs s).1.1, .int .i64 (getOf fs s).1.2], .bool (getOf fs s).2]) ∧ Below w.heap.size w w' := by
  unfold getOf
  by_cases hs : 0 ≤ s ∧ s < fs.length
  · rw [if_pos hs]
    obtain ⟨n, rfl⟩ := Int.eq_ofNat_of_zero_le hs.1
    have hn : n < fs.length := by omega
    rw [Int.toNat_natCast, List.getD_eq_getElem?_getD, List.getElem?_eq_getElem hn]
    exact ref_get n w h hn
  · rw [if_neg hs]
    exact ref_get_no s w h hs

theorem ref_set_t {g gl gu : Nat} {fs : List (Int × Int)} {us : List Int} (s r o : Int) (w : World) (h : At 69 31 g gl gu fs us w) :
    Calls Try.prog 23 #[.pointer (some ⟨g, 0, none⟩), .int .i64 s, .agg #[.int .i64 r, .int .i64 o]] w fun e w' => e = .returned (.int .i64 (setOf fs us s r o).1) ∧ At 69 31 g gl gu (setOf fs us s r o).2.1 (setOf fs us s r o).2.2 w' ∧ Mod (fun k => k = gl ∨ k = gu) w w' := by
  unfold setOf
  by_cases hs : 0 ≤ s ∧ s < fs.length
  · rw [if_pos hs]
    obtain ⟨n, rfl⟩ := Int.eq_ofNat_of_zero_le hs.1
    have hn : n < fs.length := by omega
    have e : fs.getD n (0, 0) = fs[n] := by rw [List.getD_eq_getElem?_getD, List.getElem?_eq_getElem hn]; rfl
    rw [Int.toNat_natCast, e]
    by_cases h1 : r < fs[n].1
    · rw [if_pos h1]
      exact (ref_set_low n r o w h hn h1).mono fun e w' hh => ⟨hh.1, h.below hh.2, Mod.of_below hh.2⟩
    · rw [if_neg h1]
      by_cases h2 : r = fs[n].1
      · rw [if_pos h2]
        subst h2
        exact ref_set_same n o w h hn
      · rw [if_neg h2]
        exact ref_set_new n r o w h hn (by omega)
  · rw [if_neg hs]
    exact (ref_set_no s r o w h hs).mono fun e w' hh => ⟨hh.1, h.below hh.2, Mod.of_below hh.2⟩

theorem ref_lease_t {g gl gu : Nat} {fs : List (Int × Int)} {us : List Int} (s ow now ti : Int) (w : World) (h : At 69 31 g gl gu fs us w) :
    Calls Try.prog 24 #[.pointer (some ⟨g, 0, none⟩), .int .i64 s, .int .i64 ow, .int .i64 now, .int .i64 ti] w fun e w' => e = .returned (.tuple #[.int .i64 (leaseOf fs us s ow now ti).1, .int .i64 (leaseOf fs us s ow now ti).2.1]) ∧ At 69 31 g gl gu fs (leaseOf fs us s ow now ti).2.2 w' ∧ Mod (fun k => k = gl ∨ k = gu) w w' := by
  unfold leaseOf
  by_cases hs : 0 ≤ s ∧ s < fs.length
  · rw [if_pos hs]
    obtain ⟨n, rfl⟩ := Int.eq_ofNat_of_zero_le hs.1
    have hn : n < fs.length := by omega
    have hu : n < us.length := by have := h.len; omega
    have e : fs.getD n (0, 0) = fs[n] := by rw [List.getD_eq_getElem?_getD, List.getElem?_eq_getElem hn]; rfl
    have e2 : us.getD n 0 = us[n] := by rw [List.getD_eq_getElem?_getD, List.getElem?_eq_getElem hu]; rfl
    rw [Int.toNat_natCast, e, e2]
    by_cases h1 : 0 ≤ now ∧ 1 ≤ ti ∧ ti ≤ 1048576 ∧ now ≤ 1099511627776
    · rw [if_pos h1]
      by_cases h2 : fs[n].2 = ow ∧ fs[n].1 ≠ 0
      · rw [if_pos h2]
        obtain ⟨rfl, h3⟩ := h2
        exact ref_lease_ok n now ti w h hn hu h1.1 h1.2.1 h1.2.2.1 h1.2.2.2 h3
      · rw [if_neg h2]
        have h3 : fs[n].2 ≠ ow ∨ fs[n].1 = 0 := by
          by_cases h4 : fs[n].2 = ow
          · exact Or.inr (by by_cases h5 : fs[n].1 = 0; exact h5; exact absurd ⟨h4, h5⟩ h2)
          · exact Or.inl h4
        exact (ref_lease_fenced n ow now ti w h hn h1.1 h1.2.1 h1.2.2.1 h1.2.2.2 h3).mono fun e w' hh => ⟨hh.1, h.below hh.2, Mod.of_below hh.2⟩
    · rw [if_neg h1]
      exact (ref_lease_arg n ow now ti w h hn h1).mono fun e w' hh => ⟨hh.1, h.below hh.2, Mod.of_below hh.2⟩
  · rw [if_neg hs]
    exact (ref_lease_no s ow now ti w h hs).mono fun e w' hh => ⟨hh.1, h.below hh.2, Mod.of_below hh.2⟩

end Go.Proofs.Ytgalahnockmgpaa.Maps

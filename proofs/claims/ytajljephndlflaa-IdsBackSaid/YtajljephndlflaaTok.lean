/- Plain laws on tokens: what Token, Of and Less come to. Conditions: those at each theorem. -/
import Derived.Test.YtajljephndlflaaPIdsTokensx2
namespace Go.Proofs.Ytajljephndlflaa.Tok
open Go.RowKit Go.Proofs.Ytajljephndlflaa.PIdsTokens Go.Proofs.YtajljephndlflaaW.PrintWords Go.Proofs.YtajljephndlflaaW.PrintLast

theorem wrap_u64 (n : Int) : IntKind.u64.wrap n = n % 18446744073709551616 := by simp [IntKind.wrap, IntKind.bits, IntKind.signed]

theorem u64_in (n : Int) (h0 : 0 ≤ n) (h1 : n < 2 ^ 64) : IntKind.u64.wrap n = n := by rw [wrap_u64]; omega

theorem join (i : Nat) (x y : Int) (hi : i ≤ 64) (hx0 : 0 ≤ x) (hx : x % 2 ^ i = 0) (hx1 : x < 18446744073709551616) (hy0 : 0 ≤ y) (hy : y < 2 ^ i) : bits .or .u64 x y = x + y := by
  have hp : (2 : Int) ^ i ≤ 2 ^ 64 := by
    have : (2 : Nat) ^ i ≤ 2 ^ 64 := Nat.pow_le_pow_right (by decide) hi
    exact_mod_cast this
  exact bits_join .u64 64 (by decide) u64_in i x y hx0 hx (by simpa using hx1) hy0 hy (Int.lt_of_lt_of_le hy hp)

theorem mask (v : Int) (k : Nat) (hk : k ≤ 63) (h0 : 0 ≤ v) (h1 : v < 18446744073709551616) : wrap64 (bits .and .u64 v (2 ^ k - 1)) = v % 2 ^ k := by
  rw [bits_mask .u64 64 (by decide) u64_in k (by omega) v h0 (by simpa using h1)]
  have hp : (2 : Int) ^ k ≤ 2 ^ 63 := by
    have : (2 : Nat) ^ k ≤ 2 ^ 63 := Nat.pow_le_pow_right (by decide) hk
    exact_mod_cast this
  have hq : (0 : Int) < 2 ^ k := by
    have : 0 < (2 : Nat) ^ k := Nat.two_pow_pos k
    exact_mod_cast this
  have a := Int.emod_nonneg v (Int.ne_of_gt hq)
  have b := Int.emod_lt_of_pos v hq
  unfold wrap64
  omega

/-- What a token's number is, if its numbers fit. -/
def fit (f r e t : Int) : Prop := (0 ≤ f ∧ f < 1048576) ∧ (0 ≤ r ∧ r < 65536) ∧ (0 ≤ e ∧ e < 65536) ∧ 0 ≤ t ∧ t < 4096

instance (f r e t : Int) : Decidable (fit f r e t) := by unfold fit; infer_instance

def num (f r e t : Int) : Int := f * 17592186044416 + r * 268435456 + e * 4096 + t

def tok (f r e t : Int) : Int := if (f = 0 ∧ r = 0) ∨ ¬ fit f r e t then 0 else num f r e t

theorem fits_20 (a : Int) : ids_fits.f a 20 = some (decide (0 ≤ a ∧ a < 1048576)) := by
  unfold ids_fits.f
  have e : shl .i64 1 20 = 1048576 := by decide +kernel
  by_cases h : a ≥ 0
  · rw [if_pos h, if_pos (by decide), e]; simp; omega
  · rw [if_neg h]; simp; omega
theorem fits_16 (a : Int) : ids_fits.f a 16 = some (decide (0 ≤ a ∧ a < 65536)) := by
  unfold ids_fits.f
  have e : shl .i64 1 16 = 65536 := by decide +kernel
  by_cases h : a ≥ 0
  · rw [if_pos h, if_pos (by decide), e]; simp; omega
  · rw [if_neg h]; simp; omega
theorem fits_12 (a : Int) : ids_fits.f a 12 = some (decide (0 ≤ a ∧ a < 4096)) := by
  unfold ids_fits.f
  have e : shl .i64 1 12 = 4096 := by decide +kernel
  by_cases h : a ≥ 0
  · rw [if_pos h, if_pos (by decide), e]; simp; omega
  · rw [if_neg h]; simp; omega

theorem rfits (a b : Int) : teaselref2_fits.f a b = ids_fits.f a b := rfl

theorem ors (f r e t : Int) (h : fit f r e t) : Go.bits .or .u64 (IntKind.u64.wrap ((Go.bits .or .u64 (IntKind.u64.wrap ((Go.bits .or .u64 (IntKind.u64.wrap ((IntKind.u64.wrap f) * 65536)) (IntKind.u64.wrap r)) * 65536)) (IntKind.u64.wrap e)) * 4096)) (IntKind.u64.wrap t) = num f r e t := by
  obtain ⟨⟨a0, a1⟩, ⟨b0, b1⟩, ⟨c0, c1⟩, d0, d1⟩ := h
  rw [u64_in f (by omega) (by omega), u64_in r (by omega) (by omega), u64_in e (by omega) (by omega), u64_in t (by omega) (by omega)]
  rw [u64_in (f * 65536) (by omega) (by omega), join 16 (f * 65536) r (by omega) (by omega) (by omega) (by omega) (by omega) (by omega)]
  rw [u64_in ((f * 65536 + r) * 65536) (by omega) (by omega), join 16 ((f * 65536 + r) * 65536) e (by omega) (by omega) (by omega) (by omega) (by omega) (by omega)]
  rw [u64_in (((f * 65536 + r) * 65536 + e) * 4096) (by omega) (by omega), join 12 (((f * 65536 + r) * 65536 + e) * 4096) t (by omega) (by omega) (by omega) (by omega) (by omega) (by omega)]
  unfold num
  omega

theorem ors2 (f r e t : Int) (h : fit f r e t) : Go.bits .or .u64 (Go.bits .or .u64 (Go.bits .or .u64 (IntKind.u64.wrap ((IntKind.u64.wrap f) * 17592186044416)) (IntKind.u64.wrap ((IntKind.u64.wrap r) * 268435456))) (IntKind.u64.wrap ((IntKind.u64.wrap e) * 4096))) (IntKind.u64.wrap t) = num f r e t := by
  obtain ⟨⟨a0, a1⟩, ⟨b0, b1⟩, ⟨c0, c1⟩, d0, d1⟩ := h
  rw [u64_in f (by omega) (by omega), u64_in r (by omega) (by omega), u64_in e (by omega) (by omega), u64_in t (by omega) (by omega)]
  rw [u64_in (f * 17592186044416) (by omega) (by omega), u64_in (r * 268435456) (by omega) (by omega), u64_in (e * 4096) (by omega) (by omega)]
  rw [join 44 (f * 17592186044416) (r * 268435456) (by omega) (by omega) (by omega) (by omega) (by omega) (by omega)]
  rw [join 28 (f * 17592186044416 + r * 268435456) (e * 4096) (by omega) (by omega) (by omega) (by omega) (by omega) (by omega)]
  rw [join 12 (f * 17592186044416 + r * 268435456 + e * 4096) t (by omega) (by omega) (by omega) (by omega) (by omega) (by omega)]
  rfl

theorem token_eq (f r e t : Int) : ids_Token.f f r e t = some (tok f r e t) := by
  unfold ids_Token.f tok
  rw [fits_20, fits_16, fits_16, fits_12]
  by_cases hz : f = 0 ∧ r = 0
  · obtain ⟨rfl, rfl⟩ := hz
    simp
  · have hz' : ¬ (f == 0 && (r == 0)) = true := by simp; omega
    rw [if_neg hz']
    simp only [Option.bind_some]
    by_cases h1 : 0 ≤ f ∧ f < 1048576
    · rw [decide_eq_true h1, if_pos rfl]
      by_cases h2 : 0 ≤ r ∧ r < 65536
      · rw [decide_eq_true h2, if_pos rfl]
        by_cases h3 : 0 ≤ e ∧ e < 65536
        · rw [decide_eq_true h3, if_pos rfl]
          by_cases h4 : 0 ≤ t ∧ t < 4096
          · rw [decide_eq_true h4, if_pos rfl, ors f r e t ⟨h1, h2, h3, h4⟩, if_neg]
            exact fun h => h.elim hz (fun h => h ⟨h1, h2, h3, h4⟩)
          · rw [decide_eq_false h4, if_pos (Or.inr (fun h => h4 h.2.2.2))]; rfl
        · rw [decide_eq_false h3, if_pos (Or.inr (fun h => h3 h.2.2.1))]; rfl
      · rw [decide_eq_false h2, if_pos (Or.inr (fun h => h2 h.2.1))]; rfl
    · rw [decide_eq_false h1, if_pos (Or.inr (fun h => h1 h.1))]; rfl

theorem rtoken_eq (f r e t : Int) : teaselref2_Token.f f r e t = some (tok f r e t) := by
  unfold teaselref2_Token.f tok
  rw [rfits, rfits, rfits, rfits, fits_20, fits_16, fits_16, fits_12]
  simp only [Option.bind_some]
  by_cases h1 : 0 ≤ f ∧ f < 1048576
  · rw [decide_eq_true h1, if_pos rfl]
    by_cases h2 : 0 ≤ r ∧ r < 65536
    · rw [decide_eq_true h2, if_pos rfl]
      by_cases h3 : 0 ≤ e ∧ e < 65536
      · rw [decide_eq_true h3, if_pos rfl]
        by_cases h4 : 0 ≤ t ∧ t < 4096
        · rw [decide_eq_true h4, if_pos rfl, ors2 f r e t ⟨h1, h2, h3, h4⟩]
          by_cases hf : f = 0
          · rw [if_pos hf]
            by_cases hr : r = 0
            · rw [if_pos hr, if_pos (Or.inl ⟨hf, hr⟩)]
            · rw [if_neg hr, if_neg]
              exact fun h => h.elim (fun h => hr h.2) (fun h => h ⟨h1, h2, h3, h4⟩)
          · rw [if_neg hf, if_neg]
            exact fun h => h.elim (fun h => hf h.1) (fun h => h ⟨h1, h2, h3, h4⟩)
        · rw [decide_eq_false h4, if_pos (Or.inr (fun h => h4 h.2.2.2))]; rfl
      · rw [decide_eq_false h3, if_pos (Or.inr (fun h => h3 h.2.2.1))]; rfl
    · rw [decide_eq_false h2, if_pos (Or.inr (fun h => h2 h.2.1))]; rfl
  · rw [decide_eq_false h1, if_pos (Or.inr (fun h => h1 h.1))]; rfl

theorem rof_eq (v : Int) (h0 : 0 ≤ v) (h1 : v < 18446744073709551616) : teaselref2_Of.f v =
    some (if v / 17592186044416 = 0 ∧ v / 268435456 % 65536 = 0 then (0, 0, 0, 0, 8) else (v / 17592186044416, v / 268435456 % 65536, v / 4096 % 65536, v % 4096, 0)) := by
  unfold teaselref2_Of.f
  have e1 : wrap64 (v / 17592186044416) = v / 17592186044416 := by unfold wrap64; omega
  have e2 : wrap64 (Go.bits .and .u64 (v / 268435456) 65535) = v / 268435456 % 65536 := mask (v / 268435456) 16 (by omega) (by omega) (by omega)
  have e3 : wrap64 (Go.bits .and .u64 (v / 4096) 65535) = v / 4096 % 65536 := mask (v / 4096) 16 (by omega) (by omega) (by omega)
  have e4 : wrap64 (Go.bits .and .u64 v 4095) = v % 4096 := mask v 12 (by omega) (by omega) (by omega)
  rw [e1, e2, e3, e4, rtoken_eq]
  simp only [Option.bind_some]
  by_cases hz : v / 17592186044416 = 0 ∧ v / 268435456 % 65536 = 0
  · rw [if_pos hz]
    by_cases hv : v = 0
    · rw [if_pos hv]
    · have : tok (v / 17592186044416) (v / 268435456 % 65536) (v / 4096 % 65536) (v % 4096) = 0 := if_pos (Or.inl hz)
      rw [if_neg hv, this, if_neg (fun h => hv h.symm)]
  · have hf : fit (v / 17592186044416) (v / 268435456 % 65536) (v / 4096 % 65536) (v % 4096) := by unfold fit; omega
    have : tok (v / 17592186044416) (v / 268435456 % 65536) (v / 4096 % 65536) (v % 4096) = v := by
      unfold tok
      rw [if_neg (fun h => h.elim hz (fun h => h hf))]
      unfold num
      omega
    rw [if_neg hz, if_neg (show ¬ v = 0 by omega), this, if_pos rfl]

theorem rless_eq (a b c d e f g h : Int) : teaselref2_Less.f a b c d e f g h = ids_Less.f a b c d e f g h := rfl

def less (a b c d e f g h : Int) : Bool := if a = e then (if b = f then (if c = g then decide (d < h) else decide (c < g)) else decide (b < f)) else decide (a < e)

theorem less_eq (a b c d e f g h : Int) : ids_Less.f a b c d e f g h = some (less a b c d e f g h) := by
  unfold ids_Less.f less
  by_cases h1 : a = e
  · rw [if_pos h1, if_pos h1]
    by_cases h2 : b = f
    · rw [if_pos h2, if_pos h2]
      by_cases h3 : c = g
      · rw [if_pos h3, if_pos h3]
      · rw [if_neg h3, if_neg h3]
    · rw [if_neg h2, if_neg h2]
  · rw [if_neg h1, if_neg h1]

theorem tok_lt (f r e t : Int) : 0 ≤ tok f r e t ∧ tok f r e t < 18446744073709551616 := by
  unfold tok
  by_cases h : (f = 0 ∧ r = 0) ∨ ¬ fit f r e t
  · rw [if_pos h]; omega
  · rw [if_neg h]
    have hf : fit f r e t := by
      by_cases hh : fit f r e t
      · exact hh
      · exact absurd (Or.inr hh) h
    unfold num
    unfold fit at hf
    omega

theorem known_true : teasellaw2_known.f = some true := by decide +kernel

/-- A token whose number is not 0 fits, and it is no other's. -/
theorem tok_fit {f r e t : Int} (h : tok f r e t ≠ 0) : fit f r e t ∧ ¬ (f = 0 ∧ r = 0) ∧ tok f r e t = num f r e t := by
  unfold tok at h ⊢
  by_cases hc : (f = 0 ∧ r = 0) ∨ ¬ fit f r e t
  · rw [if_pos hc] at h; exact absurd rfl h
  · rw [if_neg hc]
    refine ⟨?_, fun hz => hc (Or.inl hz), rfl⟩
    by_cases hh : fit f r e t
    · exact hh
    · exact absurd (Or.inr hh) hc

theorem back (f r e t : Int) (h : tok f r e t ≠ 0) : teaselref2_Of.f (tok f r e t) = some (f, r, e, t, 0) := by
  obtain ⟨hf, hz, hn⟩ := tok_fit h
  have hl := tok_lt f r e t
  rw [rof_eq _ hl.1 hl.2, hn]
  unfold fit at hf
  have e1 : num f r e t / 17592186044416 = f := by unfold num; omega
  have e2 : num f r e t / 268435456 % 65536 = r := by unfold num; omega
  have e3 : num f r e t / 4096 % 65536 = e := by unfold num; omega
  have e4 : num f r e t % 4096 = t := by unfold num; omega
  rw [e1, e2, e3, e4, if_neg hz]

theorem order (a b c d e f g h : Int) (h1 : tok a b c d ≠ 0) (h2 : tok e f g h ≠ 0) : decide (tok a b c d < tok e f g h) = less a b c d e f g h := by
  obtain ⟨hf, _, hn⟩ := tok_fit h1
  obtain ⟨hf', _, hn'⟩ := tok_fit h2
  rw [hn, hn']
  unfold fit at hf hf'
  unfold less num
  by_cases q1 : a = e
  · rw [if_pos q1]
    by_cases q2 : b = f
    · rw [if_pos q2]
      by_cases q3 : c = g
      · rw [if_pos q3]
        exact decide_eq_decide.2 (by omega)
      · rw [if_neg q3]
        exact decide_eq_decide.2 (by omega)
    · rw [if_neg q2]
      exact decide_eq_decide.2 (by omega)
  · rw [if_neg q1]
    exact decide_eq_decide.2 (by omega)

end Go.Proofs.Ytajljephndlflaa.Tok

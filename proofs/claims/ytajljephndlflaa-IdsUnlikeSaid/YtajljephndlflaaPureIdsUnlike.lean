/- For all numbers a, b and every turn: the hashes of a and b are the same exactly if a and b are, and turning one bit of a turns the hash. Conditions: none (every int a, b; every uint turn). -/
import Derived.Test.YtajljephndlflaaPIdsUnlikex2
namespace Go.Proofs.Ytajljephndlflaa.Pure
open Go.RowKit Go.Proofs.Ytajljephndlflaa.PIdsUnlike Go.Proofs.YtajljephndlflaaW.PrintWords Go.Proofs.YtajljephndlflaaW.PrintLast

def uu (v : BitVec 64) : Int := (v.toNat : Int)

theorem wrap_u64 (n : Int) : IntKind.u64.wrap n = n % 18446744073709551616 := by simp [IntKind.wrap, IntKind.bits, IntKind.signed]

theorem uu_lt (v : BitVec 64) : 0 ≤ uu v ∧ uu v < 18446744073709551616 := by
  unfold uu
  have := v.isLt
  omega

theorem uu_inj {x y : BitVec 64} (h : uu x = uu y) : x = y := by
  unfold uu at h
  exact BitVec.eq_of_toNat_eq (by omega)

theorem of_uu (x : BitVec 64) : BitVec.ofInt 64 (uu x) = x := by
  unfold uu
  simp

theorem wrap_uu (a : Int) : IntKind.u64.wrap a = uu (BitVec.ofInt 64 a) := by
  rw [wrap_u64]
  unfold uu
  rw [BitVec.toNat_ofInt]
  omega

theorem xor_uu (x y : BitVec 64) : Go.bits .xor .u64 (uu x) (uu y) = uu (x ^^^ y) := by
  have h := uu_lt (x ^^^ y)
  have h2 : Go.bits .xor .u64 (uu x) (uu y) = IntKind.u64.wrap (uu (BitVec.ofInt 64 (uu x) ^^^ BitVec.ofInt 64 (uu y))) := rfl
  rw [h2, of_uu, of_uu, wrap_u64]
  omega

theorem div_uu (x : BitVec 64) (k : Nat) : uu x / ((2 ^ k : Nat) : Int) = uu (x >>> k) := by
  unfold uu
  rw [BitVec.toNat_ushiftRight, Nat.shiftRight_eq_div_pow]
  omega

theorem mul_uu (x : BitVec 64) (c : Nat) : IntKind.u64.wrap (uu x * (c : Int)) = uu (x * BitVec.ofNat 64 c) := by
  rw [wrap_u64]
  unfold uu
  rw [BitVec.toNat_mul, BitVec.toNat_ofNat, Nat.mul_mod, Nat.mod_mod, ← Nat.mul_mod]
  omega

def mix1 (k : Nat) (v : BitVec 64) : BitVec 64 := v ^^^ v >>> k

def mix (v : BitVec 64) : BitVec 64 := mix1 31 (mix1 27 (mix1 30 v * 13787848793156543929#64) * 10723151780598845931#64)

theorem mix1_inj (k : Nat) (hk : 0 < k) {x y : BitVec 64} (h : mix1 k x = mix1 k y) : x = y := by
  unfold mix1 at h
  have hd : x ^^^ y = (x ^^^ y) >>> k := by
    rw [BitVec.ushiftRight_xor_distrib]
    have h1 : x = (y ^^^ y >>> k) ^^^ x >>> k := by rw [← h, BitVec.xor_assoc, BitVec.xor_self, BitVec.xor_zero]
    calc x ^^^ y = ((y ^^^ y >>> k) ^^^ x >>> k) ^^^ y := by rw [← h1]
      _ = x >>> k ^^^ y >>> k := by
        rw [BitVec.xor_assoc, BitVec.xor_assoc, BitVec.xor_comm y, BitVec.xor_assoc, BitVec.xor_assoc, BitVec.xor_self, BitVec.xor_zero, BitVec.xor_comm]
  have hn : (x ^^^ y).toNat = (x ^^^ y).toNat / 2 ^ k := by
    have h3 := congrArg BitVec.toNat hd
    rw [BitVec.toNat_ushiftRight, Nat.shiftRight_eq_div_pow] at h3
    exact h3
  have h2 : 2 ≤ 2 ^ k := by
    calc 2 = 2 ^ 1 := rfl
      _ ≤ 2 ^ k := Nat.pow_le_pow_right (by decide) hk
  have h0 : (x ^^^ y).toNat = 0 := by
    by_cases hz : (x ^^^ y).toNat = 0
    · exact hz
    · have := Nat.div_lt_self (Nat.pos_of_ne_zero hz) (show 1 < 2 ^ k by omega)
      omega
  have hx : x ^^^ y = 0#64 := BitVec.eq_of_toNat_eq (by rw [h0]; rfl)
  calc x = x ^^^ y ^^^ y := by rw [BitVec.xor_assoc, BitVec.xor_self, BitVec.xor_zero]
    _ = y := by rw [hx, BitVec.zero_xor]

theorem mul_inj (c d : BitVec 64) (hc : c * d = 1#64) {x y : BitVec 64} (h : x * c = y * c) : x = y := by
  calc x = x * c * d := by rw [BitVec.mul_assoc, hc, BitVec.mul_one]
    _ = y * c * d := by rw [h]
    _ = y := by rw [BitVec.mul_assoc, hc, BitVec.mul_one]

theorem mix_inj {x y : BitVec 64} (h : mix x = mix y) : x = y := by
  unfold mix at h
  have h1 := mix1_inj 31 (by decide) h
  have h2 := mul_inj _ 3573116690164977347#64 (by decide +kernel) h1
  have h3 := mix1_inj 27 (by decide) h2
  have h4 := mul_inj _ 10871156337175269513#64 (by decide +kernel) h3
  exact mix1_inj 30 (by decide) h4

theorem hash_mix (a : Int) : ids_Hash.f a = some (uu (mix (BitVec.ofInt 64 a))) := by
  unfold ids_Hash.f mix
  have m1 : ∀ x : BitVec 64, IntKind.u64.wrap (uu x * 13787848793156543929) = uu (x * 13787848793156543929#64) := fun x => mul_uu x 13787848793156543929
  have m2 : ∀ x : BitVec 64, IntKind.u64.wrap (uu x * 10723151780598845931) = uu (x * 10723151780598845931#64) := fun x => mul_uu x 10723151780598845931
  have e1 : ∀ x : BitVec 64, uu x / (1073741824 : Int) = uu (x >>> 30) := fun x => div_uu x 30
  have e2 : ∀ x : BitVec 64, uu x / (134217728 : Int) = uu (x >>> 27) := fun x => div_uu x 27
  have e3 : ∀ x : BitVec 64, uu x / (2147483648 : Int) = uu (x >>> 31) := fun x => div_uu x 31
  rw [wrap_uu a]
  simp only [e1, xor_uu, m1, e2, m2, e3]
  rfl

theorem known_true : teasellaw2_known.f = some true := by decide +kernel

theorem of_inj {a b : Int} (wa : (Lit.int .i64 a).wf = true) (wb : (Lit.int .i64 b).wf = true) (h : BitVec.ofInt 64 a = BitVec.ofInt 64 b) : a = b := by
  simp [Lit.wf, IntKind.min, IntKind.max, IntKind.bits, IntKind.signed] at wa wb
  have := congrArg BitVec.toNat h
  rw [BitVec.toNat_ofInt, BitVec.toNat_ofInt] at this
  omega

theorem hash_eq {a b : Int} (wa : (Lit.int .i64 a).wf = true) (wb : (Lit.int .i64 b).wf = true) (h : uu (mix (BitVec.ofInt 64 a)) = uu (mix (BitVec.ofInt 64 b))) : a = b :=
  of_inj wa wb (mix_inj (uu_inj h))

theorem of_wrap (n : Int) : BitVec.ofInt 64 (IntKind.i64.wrap n) = BitVec.ofInt 64 n := by
  apply BitVec.eq_of_toNat_eq
  rw [BitVec.toNat_ofInt, BitVec.toNat_ofInt, IntKind.wrap_i64]
  omega

theorem wrap_wf (n : Int) : (Lit.int .i64 (IntKind.i64.wrap n)).wf = true := by
  rw [IntKind.wrap_i64]
  simp [Lit.wf, IntKind.min, IntKind.max, IntKind.bits, IntKind.signed]
  omega

theorem and63 (t : Int) : 0 ≤ Go.bits .and .u64 t 63 ∧ Go.bits .and .u64 t 63 < 64 := by
  have h2 : Go.bits .and .u64 t 63 = IntKind.u64.wrap (uu (BitVec.ofInt 64 t &&& 63#64)) := rfl
  have h3 : (BitVec.ofInt 64 t &&& 63#64).toNat ≤ 63 := by
    rw [BitVec.toNat_and]
    exact Nat.and_le_right
  rw [h2, wrap_u64]
  unfold uu
  omega

theorem turned (a t : Int) (h0 : 0 ≤ t) (h1 : t < 64) : BitVec.ofInt 64 (Go.bits .xor .i64 a (shl .i64 1 t)) ≠ BitVec.ofInt 64 a := by
  have h2 : Go.bits .xor .i64 a (shl .i64 1 t) = IntKind.i64.wrap (uu (BitVec.ofInt 64 a ^^^ BitVec.ofInt 64 (shl .i64 1 t))) := rfl
  rw [h2, of_wrap, of_uu]
  unfold shl
  rw [of_wrap]
  obtain ⟨n, rfl⟩ := Int.eq_ofNat_of_zero_le h0
  have hm : min ((n : Int)).toNat IntKind.i64.bits = n := by
    have : IntKind.i64.bits = 64 := rfl
    omega
  rw [hm]
  intro h
  have hz : BitVec.ofInt 64 (1 * 2 ^ n) = 0#64 := by
    calc BitVec.ofInt 64 (1 * 2 ^ n) = BitVec.ofInt 64 a ^^^ (BitVec.ofInt 64 a ^^^ BitVec.ofInt 64 (1 * 2 ^ n)) := by rw [← BitVec.xor_assoc, BitVec.xor_self, BitVec.zero_xor]
      _ = 0#64 := by rw [h, BitVec.xor_self]
  have hn := congrArg BitVec.toNat hz
  rw [BitVec.toNat_ofInt] at hn
  have hp : (1 * 2 ^ n : Int) = ((2 ^ n : Nat) : Int) := by simp
  have hl : 2 ^ n < 2 ^ 64 := Nat.pow_lt_pow_right (by decide) (by omega)
  have hq : 0 < 2 ^ n := Nat.two_pow_pos n
  rw [hp] at hn
  simp at hn
  omega

theorem same_hash {a b : Int} (wa : (Lit.int .i64 a).wf = true) (wb : (Lit.int .i64 b).wf = true) : ((uu (mix (BitVec.ofInt 64 a)) == uu (mix (BitVec.ofInt 64 b))) == (a == b)) = true := by
  by_cases h : a = b
  · subst h
    rw [beq_self_eq_true, beq_self_eq_true]
    rfl
  · have h4 : uu (mix (BitVec.ofInt 64 a)) ≠ uu (mix (BitVec.ofInt 64 b)) := fun e => h (hash_eq wa wb e)
    rw [beq_eq_false_iff_ne.2 h, beq_eq_false_iff_ne.2 h4]
    rfl

theorem turned_hash (a t : Int) (h0 : 0 ≤ t) (h1 : t < 64) : (uu (mix (BitVec.ofInt 64 a)) != uu (mix (BitVec.ofInt 64 (Go.bits .xor .i64 a (shl .i64 1 t))))) = true := by
  rw [bne_iff_ne]
  intro e
  exact turned a t h0 h1 (mix_inj (uu_inj e)).symm

theorem of_parts (kn : Option Bool) (h : Int → Option Int) (a b t s x : Int) (ha hb hs : Int) (h1 : kn = some true) (h2 : h a = some ha) (h3 : h b = some hb) (h4 : h s = some hs) (h5 : 0 ≤ t) (h6 : ((ha == hb) == (a == b)) = true) (h7 : (ha != hs) = true) (hx : x = s) :
    (kn.bind fun t116 => (if t116 = true then (if 0 ≤ t then ((h a).bind fun t117 => ((h b).bind fun t118 => (if ((t117 == t118) == (a == b)) = true then ((h a).bind fun t119 => ((h x).bind fun t120 => (some (t119 != t120)))) else (some false)))) else (none)) else (some false))) = some true := by
  subst hx
  rw [h1]
  simp only [Option.bind_some, if_true, h2, h3, h4]
  rw [if_pos h5, if_pos h6, h7]

theorem IdsUnlike : teasellaw2_IdsUnlike.Pure := fun a b t wa wb _ =>
  of_parts teasellaw2_known.f ids_Hash.f a b (Go.bits .and .u64 t 63) (Go.bits .xor .i64 a (shl .i64 1 (Go.bits .and .u64 t 63))) _ _ _ _ known_true (hash_mix a) (hash_mix b) (hash_mix _) (and63 t).1 (same_hash wa wb) (turned_hash a _ (and63 t).1 (and63 t).2) rfl

end Go.Proofs.Ytajljephndlflaa.Pure

/- For all numbers: Hash, Shard, ListShard, Block and Owner answer as the reference does. Conditions: none (every int). -/
import Derived.Test.YtajljephndlflaaPIdsNumbersx3
namespace Go.Proofs.Ytajljephndlflaa.Pure
open Go.RowKit Go.Proofs.Ytajljephndlflaa.PIdsNumbers Go.Proofs.YtajljephndlflaaW.PrintWords Go.Proofs.YtajljephndlflaaW.PrintLast

theorem wrap_u64 (n : Int) : IntKind.u64.wrap n = n % 18446744073709551616 := by simp [IntKind.wrap, IntKind.bits, IntKind.signed]

theorem known_true : teasellaw2_known.f = some true := by decide +kernel

theorem u64_ne (g : Int) (g0 : 1 ≤ g) (g1 : g ≤ 9223372036854775807) : IntKind.u64.wrap g ≠ 0 := by rw [wrap_u64]; omega

theorem hash_same (a : Int) : ∃ h, ids_Hash.f a = some h ∧ teaselref2_Hash.f a = some h := ⟨_, rfl, rfl⟩

theorem of_rest (hf : Int → Option Int) (a g h : Int) (hh : hf a = some h) (g1 : ¬ g < 1 → IntKind.u64.wrap g ≠ 0) :
    (if g < 1 then (some 0) else ((hf a).bind fun t116 => (if (IntKind.u64.wrap (g)) = 0 then (none) else (some (wrap64 (Int.tmod t116 (IntKind.u64.wrap (g)))))))) = some (if g < 1 then 0 else wrap64 (Int.tmod h (IntKind.u64.wrap g))) := by
  by_cases g0 : g < 1
  · rw [if_pos g0, if_pos g0]
  · rw [if_neg g0, if_neg g0, hh]
    simp only [Option.bind_some]
    rw [if_neg (g1 g0)]

theorem shard_same (a g : Int) (g1 : ¬ g < 1 → IntKind.u64.wrap g ≠ 0) : ∃ s, ids_Shard.f a g = some s ∧ teaselref2_Shard.f a g = some s := by
  obtain ⟨h, h1, h2⟩ := hash_same a
  exact ⟨_, of_rest ids_Hash.f a g h h1 g1, of_rest teaselref2_Hash.f a g h h2 g1⟩

theorem list_of (x g : Int) (g1 : ¬ g < 1 → IntKind.u64.wrap g ≠ 0) :
    (if g < 1 then (some 0) else (if (IntKind.u64.wrap (g)) = 0 then (none) else (some (wrap64 (Int.tmod x (IntKind.u64.wrap (g))))))) = some (if g < 1 then 0 else wrap64 (Int.tmod x (IntKind.u64.wrap g))) := by
  by_cases g0 : g < 1
  · rw [if_pos g0, if_pos g0]
  · rw [if_neg g0, if_neg g0, if_neg (g1 g0)]

theorem list_same (a b g : Int) (g1 : ¬ g < 1 → IntKind.u64.wrap g ≠ 0) : ∃ s, ids_ListShard.f a b g = some s ∧ teaselref2_ListShard.f a b g = some s :=
  ⟨_, list_of _ g g1, list_of _ g g1⟩

theorem right_of (n : Int) : ids_right.f n = some (decide (1 ≤ n ∧ n ≤ 1048576)) ∧ teaselref2_right.f n = some (decide (1 ≤ n ∧ n ≤ 1048576)) := by
  unfold ids_right.f teaselref2_right.f
  by_cases h : n ≥ 1
  · have : 1 ≤ n := h
    simp [h]
  · have : ¬ 1 ≤ n := h
    simp [h]

theorem block_sum (r n : Int) (r0 : 0 ≤ r) (r1 : r ≤ 1099511627776) (n0 : 1 ≤ n) (n1 : n ≤ 1048576) : wrap64 (wrap64 (r + 1) * n) = wrap64 (wrap64 (r * n) + n) := by
  have h1 : 0 ≤ r * n := Int.mul_nonneg r0 (by omega)
  have h2 : r * n ≤ 1099511627776 * 1048576 := Int.mul_le_mul r1 n1 (by omega) (by omega)
  have e1 : wrap64 (r + 1) = r + 1 := by unfold wrap64; omega
  have e2 : wrap64 (r * n) = r * n := by unfold wrap64; omega
  rw [e1, e2, Int.add_mul, Int.one_mul]

theorem block_same (r n : Int) : ∃ x, ids_Block.f r n = some x ∧ teaselref2_Block.f r n = some x := by
  unfold ids_Block.f teaselref2_Block.f
  rw [(right_of n).1, (right_of n).2]
  simp only [Option.bind_some]
  by_cases h : r < 0
  · exact ⟨_, if_pos h, if_pos h⟩
  · rw [if_neg h, if_neg h]
    by_cases h2 : 1 ≤ n ∧ n ≤ 1048576
    · rw [decide_eq_true h2, if_pos rfl, if_pos rfl]
      by_cases h3 : r > 1099511627776
      · exact ⟨_, if_pos h3, if_pos h3⟩
      · rw [if_neg h3, if_neg h3, block_sum r n (by omega) (by omega) h2.1 h2.2]
        exact ⟨_, rfl, rfl⟩
    · rw [decide_eq_false h2]
      exact ⟨_, rfl, rfl⟩

theorem owner_same (r n : Int) : ∃ x, ids_Owner.f r n = some x ∧ teaselref2_Owner.f r n = some x := by
  unfold ids_Owner.f teaselref2_Owner.f
  rw [(right_of n).1, (right_of n).2]
  simp only [Option.bind_some]
  by_cases h : r < 0
  · exact ⟨_, if_pos h, if_pos h⟩
  · rw [if_neg h]
    by_cases h2 : 1 ≤ n ∧ n ≤ 1048576
    · rw [decide_eq_true h2, if_pos rfl, if_neg (show ¬ n = 0 by omega)]
      by_cases h3 : wrap64 (Int.tdiv r n) > 1099511627776
      · exact ⟨_, if_pos h3, if_pos h3⟩
      · exact ⟨_, if_neg h3, if_neg h3⟩
    · rw [decide_eq_false h2]
      exact ⟨_, rfl, rfl⟩

theorem law_of (known : Option Bool) (b1 b2 : Option (Int × Int × Int)) (o1 o2 : Option (Int × Int)) (h1 h2 s1 s2 l1 l2 : Option Int) (b : Int × Int × Int) (o : Int × Int) (h s l : Int)
    (hkn : known = some true) (e1 : b1 = some b) (e2 : b2 = some b) (e3 : o1 = some o) (e4 : o2 = some o) (e5 : h1 = some h) (e6 : h2 = some h) (e7 : s1 = some s) (e8 : s2 = some s) (e9 : l1 = some l) (e10 : l2 = some l) :
    (known.bind fun t121 => (if t121 = true then (b1.bind fun bt122 => (b2.bind fun bt125 => (o1.bind fun bt128 => (o2.bind fun bt130 => (h1.bind fun t132 => (h2.bind fun t133 => (if t132 = t133 then (s1.bind fun t134 => (s2.bind fun t135 => (if t134 = t135 then (l1.bind fun t136 => (l2.bind fun t137 => (if t136 = t137 then (if bt122.1 = bt125.1 then (if bt122.2.1 = bt125.2.1 then (if bt122.2.2 = bt125.2.2 then (if bt128.1 = bt130.1 then (some (bt128.2 == bt130.2)) else (some false)) else (some false)) else (some false)) else (some false)) else (some false)))) else (some false)))) else (some false)))))))) else (some false))) = some true := by
  subst hkn e1 e2 e3 e4 e5 e6 e7 e8 e9 e10
  simp

theorem IdsNumbers : teasellaw2_IdsNumbers.Pure := by
  intro a t g r n _ _ wg _ _
  have g1 : ¬ g < 1 → IntKind.u64.wrap g ≠ 0 := by
    intro g0
    simp [Lit.wf, IntKind.min, IntKind.max, IntKind.bits, IntKind.signed] at wg
    exact u64_ne g (by omega) (by omega)
  obtain ⟨b, e1, e2⟩ := block_same r n
  obtain ⟨o, e3, e4⟩ := owner_same a n
  obtain ⟨h, e5, e6⟩ := hash_same a
  obtain ⟨s, e7, e8⟩ := shard_same a g g1
  obtain ⟨l, e9, e10⟩ := list_same a t g g1
  exact law_of _ _ _ _ _ _ _ _ _ _ _ b o h s l known_true e1 e2 e3 e4 e5 e6 e7 e8 e9 e10

end Go.Proofs.Ytajljephndlflaa.Pure

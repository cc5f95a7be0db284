/- For all numbers: Shard and ListShard answer 0 where there are no groups, else a number from 0 on below groups. Conditions: none (every int). -/
import Derived.Test.YtajljephndlflaaPIdsShardsx2
namespace Go.Proofs.Ytajljephndlflaa.Pure
open Go.RowKit Go.Proofs.Ytajljephndlflaa.PIdsShards Go.Proofs.YtajljephndlflaaW.PrintWords Go.Proofs.YtajljephndlflaaW.PrintLast

theorem wrap_u64 (n : Int) : IntKind.u64.wrap n = n % 18446744073709551616 := by simp [IntKind.wrap, IntKind.bits, IntKind.signed]

theorem bits_lo (op : BinOp) (x y : Int) : 0 ≤ Go.bits op .u64 x y ∧ Go.bits op .u64 x y < 18446744073709551616 := by
  unfold Go.bits
  rw [wrap_u64]
  omega

theorem hash_some (a : Int) : ∃ h, ids_Hash.f a = some h ∧ 0 ≤ h ∧ h < 18446744073709551616 :=
  ⟨_, rfl, bits_lo _ _ _⟩

theorem known_true : teasellaw2_known.f = some true := by decide +kernel

theorem rest_in (h g : Int) (h0 : 0 ≤ h) (g0 : 1 ≤ g) (g1 : g ≤ 9223372036854775807) : IntKind.u64.wrap g ≠ 0 ∧ 0 ≤ wrap64 (Int.tmod h (IntKind.u64.wrap g)) ∧ wrap64 (Int.tmod h (IntKind.u64.wrap g)) < g := by
  have e : IntKind.u64.wrap g = g := by rw [wrap_u64]; omega
  rw [e, Int.tmod_eq_emod_of_nonneg h0]
  have h1 := Int.emod_nonneg h (show g ≠ 0 by omega)
  have h2 := Int.emod_lt_of_pos h (show 0 < g by omega)
  unfold wrap64
  omega

theorem shard_none (a g : Int) (hg : g < 1) : ids_Shard.f a g = some 0 := if_pos hg

theorem list_none (a b g : Int) (hg : g < 1) : ids_ListShard.f a b g = some 0 := if_pos hg

theorem shard_of (hf : Int → Option Int) (a g h : Int) (hh : hf a = some h) (g0 : ¬ g < 1) (g1 : IntKind.u64.wrap g ≠ 0) :
    (if g < 1 then (some 0) else ((hf a).bind fun t116 => (if (IntKind.u64.wrap (g)) = 0 then (none) else (some (wrap64 (Int.tmod t116 (IntKind.u64.wrap (g)))))))) = some (wrap64 (Int.tmod h (IntKind.u64.wrap g))) := by
  rw [if_neg g0, hh]
  simp only [Option.bind_some]
  rw [if_neg g1]

theorem shard_some (a g : Int) (g0 : 1 ≤ g) (g1 : g ≤ 9223372036854775807) : ∃ s, ids_Shard.f a g = some s ∧ 0 ≤ s ∧ s < g := by
  obtain ⟨h, hh, h0, _⟩ := hash_some a
  have r := rest_in h g h0 g0 g1
  exact ⟨_, shard_of ids_Hash.f a g h hh (by omega) r.1, r.2⟩

theorem list_of (x g : Int) (g0 : ¬ g < 1) (g1 : IntKind.u64.wrap g ≠ 0) :
    (if g < 1 then (some 0) else (if (IntKind.u64.wrap (g)) = 0 then (none) else (some (wrap64 (Int.tmod x (IntKind.u64.wrap (g))))))) = some (wrap64 (Int.tmod x (IntKind.u64.wrap g))) := by
  rw [if_neg g0, if_neg g1]

theorem list_some (a b g : Int) (g0 : 1 ≤ g) (g1 : g ≤ 9223372036854775807) : ∃ s, ids_ListShard.f a b g = some s ∧ 0 ≤ s ∧ s < g := by
  have hx : 0 ≤ IntKind.u64.wrap ((IntKind.u64.wrap a) + (IntKind.u64.wrap b)) := by rw [wrap_u64]; omega
  have r := rest_in _ g hx g0 g1
  exact ⟨_, list_of _ g (by omega) r.1, r.2⟩

theorem law_of (s k : Option Int) (known : Option Bool) (x y g : Int) (hkn : known = some true) (hs : s = some x) (hk : k = some y) (h0 : g < 1 → x = 0 ∧ y = 0) (h1 : ¬ g < 1 → 0 ≤ x ∧ x < g ∧ 0 ≤ y ∧ y < g) :
    ((known).bind fun t117 => (if t117 = true then (if g < 1 then (s.bind fun t118 => (if t118 = 0 then (k.bind fun t119 => (some (t119 == 0))) else (some false))) else (s.bind fun t120 => (k.bind fun t121 => (if t120 ≥ 0 then (if t120 < g then (if t121 ≥ 0 then (if t121 < g then (if g = 1 then (if t120 = 0 then (some (t121 == 0)) else (some false)) else (some true)) else (some false)) else (some false)) else (some false)) else (some false))))) else (some false))) = some true := by
  subst hkn hs hk
  simp only [Option.bind_some, if_true]
  by_cases g0 : g < 1
  · obtain ⟨rfl, rfl⟩ := h0 g0
    rw [if_pos g0]
    rfl
  · obtain ⟨a, b, c, d⟩ := h1 g0
    rw [if_neg g0, if_pos a, if_pos b, if_pos c, if_pos d]
    by_cases e : g = 1
    · obtain rfl : x = 0 := by omega
      obtain rfl : y = 0 := by omega
      rw [if_pos e]
      rfl
    · rw [if_neg e]

theorem IdsShards : teasellaw2_IdsShards.Pure := by
  intro a b t g _ _ _ wg
  have g1 : g ≤ 9223372036854775807 := by
    simp [Lit.wf, IntKind.min, IntKind.max, IntKind.bits, IntKind.signed] at wg
    omega
  by_cases g0 : g < 1
  · exact law_of _ _ _ 0 0 g known_true (shard_none a g g0) (list_none b t g g0) (fun _ => ⟨rfl, rfl⟩) (fun h => absurd g0 h)
  · obtain ⟨x, hx, x0, x1⟩ := shard_some a g (by omega) g1
    obtain ⟨y, hy, y0, y1⟩ := list_some b t g (by omega) g1
    exact law_of _ _ _ x y g known_true hx hy (fun h => absurd h g0) (fun _ => ⟨x0, x1, y0, y1⟩)

end Go.Proofs.Ytajljephndlflaa.Pure

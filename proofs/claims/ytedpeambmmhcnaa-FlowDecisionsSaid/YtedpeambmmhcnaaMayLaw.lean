/- May and the reference's May answer alike: the plain law. Conditions: none. -/
import Derived.Test.YtedpeambmmhcnaaPFlowDecisionsx2
import Derived.Test.YtedpeambmmhcnaaPFlowDecisionsx4
namespace Go.Proofs.Ytedpeambmmhcnaa.MayLaw
open Go.Proofs.Ytedpeambmmhcnaa.PFlowDecisions

/-- May a decision be, with so many bytes? -/
def mayB (kd di dl dn : Int) (n : Nat) : Bool :=
  decide (1 ≤ kd ∧ kd ≤ 8) && decide (kd ≤ 4 ∨ di = 0) && decide (kd = 1 ∨ kd = 4 ∨ dl = 0) && decide (kd = 1 ∨ kd = 2 ∨ kd = 4 ∨ dn = 0) && decide (kd = 1 ∨ kd = 4 ∨ kd = 5 ∨ kd = 6 ∨ kd = 8 ∨ n = 0) &&
    decide (0 ≤ di ∧ di ≤ 1048576) && decide (0 ≤ dl ∧ dl ≤ 1048576) && decide ((kd ≠ 1 ∧ kd ≠ 2 ∧ kd ≠ 4) ∨ (1 ≤ dn ∧ dn ≤ 1048576)) && decide (n ≤ 4096)

theorem kinds (kd : Int) : kd = 1 ∨ kd = 2 ∨ kd = 3 ∨ kd = 4 ∨ kd = 5 ∨ kd = 6 ∨ kd = 7 ∨ kd = 8 ∨ kd < 1 ∨ 8 < kd := by omega

theorem j1_any (k : Nat) (x : Bool) (kd di dl dn : Int) (l : List Int) (a b c d : Bool) : flow_May.j1 (k + 1) x kd di dl dn l a b c d = some (!x && decide (0 ≤ di ∧ di ≤ 1048576) && decide (0 ≤ dl ∧ dl ≤ 1048576) && (!c || decide (1 ≤ dn ∧ dn ≤ 1048576)) && decide (l.length ≤ 4096)) := by
  have hl : decide ((l.length : Int) ≤ 4096) = decide (l.length ≤ 4096) := by
    by_cases h : l.length ≤ 4096 <;> simp [h] <;> omega
  simp only [flow_May.j1, flow_flowNumber.f, flow_ticks.f, hl]
  cases x <;> cases c <;> by_cases h1 : 0 ≤ di <;> by_cases h2 : di ≤ 1048576 <;> by_cases h3 : 0 ≤ dl <;> by_cases h4 : dl ≤ 1048576 <;> by_cases h5 : 1 ≤ dn <;> by_cases h6 : dn ≤ 1048576 <;> simp [h1, h2, h3, h4, h5, h6]

theorem j0_any (k : Nat) (x : Bool) (kd di dl dn : Int) (l : List Int) (a b c d : Bool) : flow_May.j0 (k + 2) x kd di dl dn l a b c d = some (!x && (a || decide (di = 0)) && (b || decide (dl = 0)) && (c || decide (dn = 0)) && (d || decide (l.length = 0)) &&
    decide (0 ≤ di ∧ di ≤ 1048576) && decide (0 ≤ dl ∧ dl ≤ 1048576) && (!c || decide (1 ≤ dn ∧ dn ≤ 1048576)) && decide (l.length ≤ 4096)) := by
  have hl : decide ((l.length : Int) > 0) = !decide (l.length = 0) := by
    by_cases h : l.length = 0 <;> simp [h]
    omega
  simp only [flow_May.j0, j1_any, hl]
  generalize decide (l.length = 0) = z
  generalize decide (l.length ≤ 4096) = y
  generalize decide (0 ≤ di ∧ di ≤ 1048576) = u
  generalize decide (0 ≤ dl ∧ dl ≤ 1048576) = v
  generalize decide (1 ≤ dn ∧ dn ≤ 1048576) = t
  by_cases h1 : di = 0 <;> by_cases h2 : dl = 0 <;> by_cases h3 : dn = 0 <;> cases x <;> cases a <;> cases b <;> cases c <;> cases d <;> simp [h1, h2, h3]

theorem may_f (kd di dl dn : Int) (l : List Int) : flow_May.f 2 kd di dl dn l = some (mayB kd di dl dn l.length) := by
  simp only [flow_May.f, mayB]
  rcases kinds kd with rfl | rfl | rfl | rfl | rfl | rfl | rfl | rfl | h | h
  all_goals first
    | (simp [flow_hasOf.f, flow_hasOf.j0, j0_any 0]; done)
    | (have h1 : kd ≠ 1 := by omega
       have h2 : kd ≠ 2 := by omega
       have h3 : kd ≠ 3 := by omega
       have h4 : kd ≠ 4 := by omega
       have h5 : kd ≠ 5 := by omega
       have h6 : kd ≠ 6 := by omega
       have h8 : kd ≠ 8 := by omega
       have h9 : ¬ (1 ≤ kd ∧ kd ≤ 8) := by omega
       by_cases h7 : kd < 1
       · simp [flow_hasOf.f, flow_hasOf.j0, j0_any 0, h1, h2, h3, h4, h5, h6, h7, h8, h9]
       · have h10 : 8 < kd := by omega
         simp [flow_hasOf.f, flow_hasOf.j0, j0_any 0, h1, h2, h3, h4, h5, h6, h7, h8, h9, h10])

theorem r4_any (k : Nat) (c x : Bool) (kd di dl dn : Int) (l : List Int) : teaselref13_May.j4 (k + 1) c x kd di dl dn l = some (!x && decide (0 ≤ di ∧ di ≤ 1048576) && decide (0 ≤ dl ∧ dl ≤ 1048576) && (!c || decide (1 ≤ dn ∧ dn ≤ 1048576)) && decide (l.length ≤ 4096)) := by
  have hl : decide ((l.length : Int) ≤ 4096) = decide (l.length ≤ 4096) := by
    by_cases h : l.length ≤ 4096 <;> simp [h] <;> omega
  simp only [teaselref13_May.j4, teaselref13_flowNumber.f, teaselref13_ticks.f, hl]
  cases x <;> cases c <;> by_cases h1 : 0 ≤ di <;> by_cases h2 : di ≤ 1048576 <;> by_cases h3 : 0 ≤ dl <;> by_cases h4 : dl ≤ 1048576 <;> by_cases h5 : 1 ≤ dn <;> by_cases h6 : dn ≤ 1048576 <;> simp [h1, h2, h3, h4, h5, h6]

theorem r3_any (k : Nat) (a b c d : Bool) (kd di dl dn : Int) (l : List Int) : teaselref13_May.j3 (k + 2) a b c d kd di dl dn l = some (decide (1 ≤ kd ∧ kd ≤ 8) && (a || decide (di = 0)) && (b || decide (dl = 0)) && (c || decide (dn = 0)) && (d || decide (l.length = 0)) &&
    decide (0 ≤ di ∧ di ≤ 1048576) && decide (0 ≤ dl ∧ dl ≤ 1048576) && (!c || decide (1 ≤ dn ∧ dn ≤ 1048576)) && decide (l.length ≤ 4096)) := by
  have hl : decide ((l.length : Int) > 0) = !decide (l.length = 0) := by
    by_cases h : l.length = 0 <;> simp [h]
    omega
  simp only [teaselref13_May.j3, r4_any, hl]
  generalize decide (l.length = 0) = z
  generalize decide (l.length ≤ 4096) = y
  generalize decide (0 ≤ di ∧ di ≤ 1048576) = u
  generalize decide (0 ≤ dl ∧ dl ≤ 1048576) = v
  generalize decide (1 ≤ dn ∧ dn ≤ 1048576) = t
  by_cases h7 : kd < 1
  · have h9 : ¬ (1 ≤ kd ∧ kd ≤ 8) := by omega
    simp [h7, h9]
  · by_cases h8 : kd > 8
    · have h9 : ¬ (1 ≤ kd ∧ kd ≤ 8) := by omega
      simp [h7, h8, h9]
    · have h9 : 1 ≤ kd ∧ kd ≤ 8 := by omega
      simp only [h7, h8, h9, if_false]
      by_cases h1 : di = 0 <;> by_cases h2 : dl = 0 <;> by_cases h3 : dn = 0 <;> cases a <;> cases b <;> cases c <;> cases d <;> simp [h1, h2, h3]

theorem may_ref (kd di dl dn : Int) (l : List Int) : teaselref13_May.f 5 kd di dl dn l = some (mayB kd di dl dn l.length) := by
  simp only [teaselref13_May.f, mayB, teaselref13_May.j0, teaselref13_May.j1, teaselref13_May.j2, r3_any 0]
  rcases kinds kd with rfl | rfl | rfl | rfl | rfl | rfl | rfl | rfl | h | h
  all_goals first
    | (simp; done)
    | (have h1 : kd ≠ 1 := by omega
       have h4 : kd ≠ 4 := by omega
       have h5 : kd ≠ 5 := by omega
       have h6 : kd ≠ 6 := by omega
       have h9 : decide (1 ≤ kd ∧ kd ≤ 8) = false := by simp; omega
       simp only [h9, Bool.false_and]
       by_cases h7 : 1 ≤ kd <;> simp [h1, h4, h5, h6, h7])

end Go.Proofs.Ytedpeambmmhcnaa.MayLaw

/- For every number of turns, missed or faulty: a decision task that is missed, or faulty, so many times, has so many more turns; each is stale when the next one is there. Conditions: none (every input that can be read). -/
import Derived.Test.YtedpeambmmhcnaaRows
import Derived.Test.YtedpeambmmhcnaaTurns
import Derived.WalkKit
import Derived.ProofKit
import Derived.OpenShut
import Derived.ShutString
import Derived.ChangeOld
import Derived.Below
import Derived.SizedLaws
import Derived.Lib.SmallJoins
namespace Go.Proofs.Ytedpeambmmhcnaa.LawTurns
open Go.ChangeShapes Go.WideShapes Go.ChangeAt Go.RowKit Go.Joins

theorem own : ownKnob Try.prog.godebug = none := by kernel_rfl
theorem laid : laidOutB Try.prog = true := by kernel_rfl
theorem rowsIn : (Try.f7.params.toList.all fun t => Try.prog.readableRec t && decide (t < Try.prog.types.size)) = true := by kernel_rfl

set_option maxRecDepth 100000 in
theorem lifted (os : Os) (started : os.Started) (H : Type) (enc : TypeId × Value → H) :
    ReturnsInHanded {} Try.checked os 7 .any (Rows.flowTurnsSpec.pre6 enc Try.prog Try.f7 Rows.flowTurnsRow.domain false) (Rows.flowTurnsSpec.post enc Try.prog Try.f7 false true false false) := by
  refine returnsInHanded_of_change_sized (C := Try.checked) own started (by kernel_rfl) Try.func7
    (ChangeSpec.witness6 (enc := enc) (C := Try.checked) false ⟨#[], #[.int .i64 0, .slice none 0 0], []⟩ 8 (by kernel_rfl) (by kernel_rfl) (by kernel_rfl) (by kernel_rfl)) ?_
  intro W base args ds gs before hval0 hW hcnd hsz0 _
  have hval : ∀ (j : Nat) t v, Try.f7.params[j]? = some t → args[j]? = some v → Value.okWide Try.prog W .any base t v := hval0
  have hW' := hW
  obtain ⟨p, q, hA0, hV, rfl, hfz, hnd⟩ := hW
  have hA : DataW.TrodAll enc Try.prog W 0 (fun _ => true) true Try.f7.params.toList args.toList ds p := hA0
  have keep := fun W' (hb : Below W.heap.size W W') => Kit.trodAll_after laid hb rowsIn hA
  rw [Try.params7] at hA hval keep
  obtain ⟨zv0, zvs0, zd0, zds0, zp0, zq0, hargs, rfl, rfl, zh0, zr0⟩ := trodAll_cons hA
  obtain ⟨zv1, zvs1, zd1, zds1, zp1, zq1, rfl, rfl, rfl, zh1, zr1⟩ := trodAll_cons zr0
  obtain ⟨rfl, rfl, rfl⟩ := trodAll_nil zr1
  obtain rfl : args = #[zv0, zv1] := by cases args; simp_all
  obtain ⟨rfl, rfl⟩ := trodVars_none hV
  obtain ⟨ni, rfl, rfl, rfl, zw0⟩ := open_int Try.underlying3 (hval 0 3 zv0 rfl rfl) zh0
  obtain ⟨ba, bn, bc, rfl⟩ := okWide_slice Try.underlying62 (hval 1 62 zv1 rfl rfl)
  obtain ⟨hb1, hb2⟩ := Turns.bools_open rfl zh1
  clear hA0 hval0 hsz0
  refine (Turns.all ni ba bn bc W hb1 hb2).mono fun e W' ⟨he, bel⟩ => ?_
  subst he
  exact ⟨_, rfl, _, _, _, [], _, [], hW', trodAll_mk1 (shut_bool Try.underlying4 _), keep W' bel, rfl, bel.frame _, fun h => by cases h⟩

theorem over : Rows.flowTurnsRow.holds Try.pinned (OpenSpec.ofChange Rows.flowTurnsSpec) :=
  OpenClaim.holds_of_wide 7 Try.f7 rfl rfl rfl rfl rfl rfl rfl ⟨rfl, rfl, rfl, rfl, rfl⟩ rfl rfl rfl rfl rfl (by kernel_rfl) Try.func7 (by kernel_rfl)
    (of_decide_eq_true (by kernel_rfl)) (by unfold Func.isWrapper; first | (rw [if_pos (by decide +kernel)]; kernel_rfl) | (rw [if_neg (by decide +kernel)]; exact ⟨rfl, rfl⟩))
    (fun os started H enc _ => lifted os started H enc)
end Go.Proofs.Ytedpeambmmhcnaa.LawTurns
namespace Go.Proofs.Ytedpeambmmhcnaa
theorem flowTurns_holds : Rows.FlowTurnsSaid := LawTurns.over
#print axioms flowTurns_holds
end Go.Proofs.Ytedpeambmmhcnaa

/- For every decision: whether it may be is as the reference says. Conditions: none (every input that can be read). -/
import Derived.Test.YtedpeambmmhcnaaRows
import Derived.Test.YtedpeambmmhcnaaDecisions
import Derived.WalkKit
import Derived.ProofKit
import Derived.OpenShut
import Derived.ShutString
import Derived.ChangeOld
import Derived.Below
import Derived.SizedLaws
import Derived.Lib.SmallJoins
namespace Go.Proofs.Ytedpeambmmhcnaa.LawDecisions
open Go.ChangeShapes Go.WideShapes Go.ChangeAt Go.RowKit Go.Joins

theorem own : ownKnob Try.prog.godebug = none := by kernel_rfl
theorem laid : laidOutB Try.prog = true := by kernel_rfl
theorem rowsIn : (Try.f3.params.toList.all fun t => Try.prog.readableRec t && decide (t < Try.prog.types.size)) = true := by kernel_rfl

set_option maxRecDepth 100000 in
theorem lifted (os : Os) (started : os.Started) (H : Type) (enc : TypeId × Value → H) :
    ReturnsInHanded {} Try.checked os 3 .any (Rows.flowDecisionsSpec.pre6 enc Try.prog Try.f3 Rows.flowDecisionsRow.domain false) (Rows.flowDecisionsSpec.post enc Try.prog Try.f3 false true false false) := by
  refine returnsInHanded_of_change_sized (C := Try.checked) own started (by kernel_rfl) Try.func3
    (ChangeSpec.witness6 (enc := enc) (C := Try.checked) false ⟨#[], #[.agg #[.int .i64 0, .int .i64 0, .int .i64 0, .int .i64 0, .slice none 0 0]], []⟩ 8 (by kernel_rfl) (by kernel_rfl) (by kernel_rfl) (by kernel_rfl)) ?_
  intro W base args ds gs before hval0 hW hcnd hsz0 _
  have hval : ∀ (j : Nat) t v, Try.f3.params[j]? = some t → args[j]? = some v → Value.okWide Try.prog W .any base t v := hval0
  have hW' := hW
  obtain ⟨p, q, hA0, hV, rfl, hfz, hnd⟩ := hW
  have hA : DataW.TrodAll enc Try.prog W 0 (fun _ => true) true Try.f3.params.toList args.toList ds p := hA0
  have keep := fun W' (hb : Below W.heap.size W W') => Kit.trodAll_after laid hb rowsIn hA
  rw [Try.params3] at hA hval keep
  obtain ⟨zv0, zvs0, zd0, zds0, zp0, zq0, hargs, rfl, rfl, zh0, zr0⟩ := trodAll_cons hA
  obtain ⟨rfl, rfl, rfl⟩ := trodAll_nil zr0
  obtain rfl : args = #[zv0] := by cases args; simp_all
  obtain ⟨rfl, rfl⟩ := trodVars_none hV
  obtain ⟨kd, di, dl, dn, sa, sn, sc, bs, rfl, hl1, hl2, hl3⟩ := Decisions.dec_open (hval 0 24 zv0 rfl rfl) zh0
  clear hA0 hval0 hsz0
  refine (Decisions.all kd di dl dn sa sn sc bs W hl1 hl2 hl3).mono fun e W' ⟨he, bel⟩ => ?_
  subst he
  exact ⟨_, rfl, _, _, _, [], _, [], hW', trodAll_mk1 (shut_bool Try.underlying4 _), keep W' bel, rfl, bel.frame _, fun h => by cases h⟩

theorem over : Rows.flowDecisionsRow.holds Try.pinned (OpenSpec.ofChange Rows.flowDecisionsSpec) :=
  OpenClaim.holds_of_wide 3 Try.f3 rfl rfl rfl rfl rfl rfl rfl ⟨rfl, rfl, rfl, rfl, rfl⟩ rfl rfl rfl rfl rfl (by kernel_rfl) Try.func3 (by kernel_rfl)
    (of_decide_eq_true (by kernel_rfl)) (by unfold Func.isWrapper; first | (rw [if_pos (by decide +kernel)]; kernel_rfl) | (rw [if_neg (by decide +kernel)]; exact ⟨rfl, rfl⟩))
    (fun os started H enc _ => lifted os started H enc)
end Go.Proofs.Ytedpeambmmhcnaa.LawDecisions
namespace Go.Proofs.Ytedpeambmmhcnaa
theorem flowDecisions_holds : Rows.FlowDecisionsSaid := LawDecisions.over
#print axioms flowDecisions_holds
end Go.Proofs.Ytedpeambmmhcnaa

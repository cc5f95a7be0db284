/- For every list of acts: a lease never grows shorter, but ends with another range; none but the owner has one. Conditions: none (every input that can be read). -/
import Derived.Test.YtgalahnockmgpaaRows
import Derived.Test.YtgalahnockmgpaaLeases
import Derived.WalkKit
import Derived.ProofKit
import Derived.OpenShut
import Derived.ShutString
import Derived.ChangeOld
import Derived.Below
import Derived.SizedLaws
import Derived.Lib.SmallJoins
namespace Go.Proofs.Ytgalahnockmgpaa.LawLeases
open Go.ChangeShapes Go.WideShapes Go.ChangeAt Go.RowKit Go.Joins

theorem own : ownKnob Try.prog.godebug = none := by kernel_rfl
theorem laid : laidOutB Try.prog = true := by kernel_rfl
theorem rowsIn : (Try.f5.params.toList.all fun t => Try.prog.readableRec t && decide (t < Try.prog.types.size)) = true := by kernel_rfl

set_option maxRecDepth 100000 in
theorem lifted (os : Os) (started : os.Started) (H : Type) (enc : TypeId × Value → H) :
    ReturnsInHanded {} Try.checked os 5 .any (Rows.fenceLeasesSpec.pre6 enc Try.prog Try.f5 Rows.fenceLeasesRow.domain false) (Rows.fenceLeasesSpec.post enc Try.prog Try.f5 false true false false) := by
  refine returnsInHanded_of_change_sized (C := Try.checked) own started (by kernel_rfl) Try.func5
    (ChangeSpec.witness6 (enc := enc) (C := Try.checked) false ⟨#[], #[.slice none 0 0], []⟩ 8 (by kernel_rfl) (by kernel_rfl) (by kernel_rfl) (by kernel_rfl)) ?_
  intro W base args ds gs before hval0 hW hcnd hsz0 _
  have hval : ∀ (j : Nat) t v, Try.f5.params[j]? = some t → args[j]? = some v → Value.okWide Try.prog W .any base t v := hval0
  have hW' := hW
  obtain ⟨p, q, hA0, hV, rfl, hfz, hnd⟩ := hW
  have hA : DataW.TrodAll enc Try.prog W 0 (fun _ => true) true Try.f5.params.toList args.toList ds p := hA0
  have keep := fun W' (hb : Below W.heap.size W W') => Kit.trodAll_after laid hb rowsIn hA
  rw [Try.params5] at hA hval keep
  obtain ⟨zv0, zvs0, zd0, zds0, zp0, zq0, hargs, rfl, rfl, zh0, zr0⟩ := trodAll_cons hA
  obtain ⟨rfl, rfl, rfl⟩ := trodAll_nil zr0
  obtain rfl : args = #[zv0] := by cases args; simp_all
  obtain ⟨rfl, rfl⟩ := trodVars_none hV
  obtain ⟨xsa, xsn, xsc, rfl⟩ := okWide_slice Try.underlying41 (hval 0 41 zv0 rfl rfl)
  obtain ⟨xs, rfl, xsh⟩ := Leases.acts_open zh0
  clear hA0 hval0 hsz0
  refine (Leases.all xsa xsc xs W xsh).mono fun e W' ⟨he, bel⟩ => ?_
  subst he
  exact ⟨_, rfl, _, _, _, [], _, [], hW', trodAll_mk1 (shut_bool Try.underlying4 _), keep W' bel, rfl, bel.frame _, fun h => by cases h⟩

theorem over : Rows.fenceLeasesRow.holds Try.pinned (OpenSpec.ofChange Rows.fenceLeasesSpec) :=
  OpenClaim.holds_of_wide 5 Try.f5 rfl rfl rfl rfl rfl rfl rfl ⟨rfl, rfl, rfl, rfl, rfl⟩ rfl rfl rfl rfl rfl (by kernel_rfl) Try.func5 (by kernel_rfl)
    (of_decide_eq_true (by kernel_rfl)) (by unfold Func.isWrapper; first | (rw [if_pos (by decide +kernel)]; kernel_rfl) | (rw [if_neg (by decide +kernel)]; exact ⟨rfl, rfl⟩))
    (fun os started H enc _ => lifted os started H enc)
end Go.Proofs.Ytgalahnockmgpaa.LawLeases
namespace Go.Proofs.Ytgalahnockmgpaa
theorem fenceLeases_holds : Rows.FenceLeasesSaid := LawLeases.over
#print axioms fenceLeases_holds
end Go.Proofs.Ytgalahnockmgpaa

/- For all fences f, g and all owners and ranges: Acquire, Release, Check and Against answer as the reference does. Conditions: none (every input that can be read). -/
import Derived.Test.YtgalahnockmgpaaRows
import Derived.Test.YtgalahnockmgpaaOne
import Derived.WalkKit
import Derived.ProofKit
import Derived.OpenShut
import Derived.ShutString
import Derived.ChangeOld
import Derived.Below
import Derived.SizedLaws
import Derived.Lib.SmallJoins
namespace Go.Proofs.Ytgalahnockmgpaa.LawOne
open Go.ChangeShapes Go.WideShapes Go.ChangeAt Go.RowKit Go.Joins

theorem own : ownKnob Try.prog.godebug = none := by kernel_rfl
theorem laid : laidOutB Try.prog = true := by kernel_rfl
theorem rowsIn : (Try.f4.params.toList.all fun t => Try.prog.readableRec t && decide (t < Try.prog.types.size)) = true := by kernel_rfl
theorem cells25 : Try.prog.cellsOf 25 = 2 := by kernel_rfl
theorem open25 {H : Type} {enc : TypeId × Value → H} {W : World} {base : Nat} {spare : Nat → Bool} {r : Reach} {b : Nat} {v : Value} {d : DataW H} {p : List MemPlace} (hv : Value.okWide Try.prog W r b 25 v) (h : DataW.Trod enc Try.prog W base spare true 25 v d p) :
    ∃ x0 x1 : Int, v = .agg #[.int .i64 x0, .int .i64 x1] := by
  obtain ⟨c0, c1, y0, y1, m, rfl, _, _, g0, g1⟩ := open_agg2 Try.underlying25 (by kernel_rfl) cells25 hv h
  obtain ⟨a0, e0, _, _⟩ := DataW.trod_int Try.underlying3 g0
  obtain ⟨a1, e1, _, _⟩ := DataW.trod_int Try.underlying3 g1
  simp only [List.cons.injEq, and_true] at e0 e1
  subst e0 e1
  exact ⟨a0, a1, rfl⟩

set_option maxRecDepth 100000 in
theorem lifted (os : Os) (started : os.Started) (H : Type) (enc : TypeId × Value → H) :
    ReturnsInHanded {} Try.checked os 4 .any (Rows.fenceOneSpec.pre6 enc Try.prog Try.f4 Rows.fenceOneRow.domain false) (Rows.fenceOneSpec.post enc Try.prog Try.f4 false true false false) := by
  refine returnsInHanded_of_change_sized (C := Try.checked) own started (by kernel_rfl) Try.func4
    (ChangeSpec.witness6 (enc := enc) (C := Try.checked) false ⟨#[], #[.agg #[.int .i64 0, .int .i64 0], .agg #[.int .i64 0, .int .i64 0], .int .i64 0, .int .i64 0, .int .i64 0], []⟩ 8 (by kernel_rfl) (by kernel_rfl) (by kernel_rfl) (by kernel_rfl)) ?_
  intro W base args ds gs before hval0 hW hcnd hsz0 _
  have hval : ∀ (j : Nat) t v, Try.f4.params[j]? = some t → args[j]? = some v → Value.okWide Try.prog W .any base t v := hval0
  have hW' := hW
  obtain ⟨p, q, hA0, hV, rfl, hfz, hnd⟩ := hW
  have hA : DataW.TrodAll enc Try.prog W 0 (fun _ => true) true Try.f4.params.toList args.toList ds p := hA0
  have keep := fun W' (hb : Below W.heap.size W W') => Kit.trodAll_after laid hb rowsIn hA
  rw [Try.params4] at hA hval keep
  obtain ⟨zv0, zvs0, zd0, zds0, zp0, zq0, hargs, rfl, rfl, zh0, zr0⟩ := trodAll_cons hA
  obtain ⟨zv1, zvs1, zd1, zds1, zp1, zq1, rfl, rfl, rfl, zh1, zr1⟩ := trodAll_cons zr0
  obtain ⟨zv2, zvs2, zd2, zds2, zp2, zq2, rfl, rfl, rfl, zh2, zr2⟩ := trodAll_cons zr1
  obtain ⟨zv3, zvs3, zd3, zds3, zp3, zq3, rfl, rfl, rfl, zh3, zr3⟩ := trodAll_cons zr2
  obtain ⟨zv4, zvs4, zd4, zds4, zp4, zq4, rfl, rfl, rfl, zh4, zr4⟩ := trodAll_cons zr3
  obtain ⟨rfl, rfl, rfl⟩ := trodAll_nil zr4
  obtain rfl : args = #[zv0, zv1, zv2, zv3, zv4] := by cases args; simp_all
  obtain ⟨rfl, rfl⟩ := trodVars_none hV
  obtain ⟨r, o, rfl⟩ := open25 (hval 0 25 zv0 rfl rfl) zh0
  obtain ⟨r2, o2, rfl⟩ := open25 (hval 1 25 zv1 rfl rfl) zh1
  obtain ⟨ow, rfl, rfl, rfl, zw2⟩ := open_int Try.underlying3 (hval 2 3 zv2 rfl rfl) zh2
  obtain ⟨se, rfl, rfl, rfl, zw3⟩ := open_int Try.underlying3 (hval 3 3 zv3 rfl rfl) zh3
  obtain ⟨idn, rfl, rfl, rfl, zw4⟩ := open_int Try.underlying3 (hval 4 3 zv4 rfl rfl) zh4
  clear hA0 hval0 hsz0
  refine (One.law r o r2 o2 ow se idn W).mono fun e W' ⟨he, bel⟩ => ?_
  subst he
  exact ⟨_, rfl, _, _, _, [], _, [], hW', trodAll_mk1 (shut_bool Try.underlying4 _), keep W' bel, rfl, bel.frame _, fun h => by cases h⟩

theorem over : Rows.fenceOneRow.holds Try.pinned (OpenSpec.ofChange Rows.fenceOneSpec) :=
  OpenClaim.holds_of_wide 4 Try.f4 rfl rfl rfl rfl rfl rfl rfl ⟨rfl, rfl, rfl, rfl, rfl⟩ rfl rfl rfl rfl rfl (by kernel_rfl) Try.func4 (by kernel_rfl)
    (of_decide_eq_true (by kernel_rfl)) (by unfold Func.isWrapper; first | (rw [if_pos (by decide +kernel)]; kernel_rfl) | (rw [if_neg (by decide +kernel)]; exact ⟨rfl, rfl⟩))
    (fun os started H enc _ => lifted os started H enc)
end Go.Proofs.Ytgalahnockmgpaa.LawOne
namespace Go.Proofs.Ytgalahnockmgpaa
theorem fenceOne_holds : Rows.FenceOneSaid := LawOne.over
#print axioms fenceOne_holds
end Go.Proofs.Ytgalahnockmgpaa

/- For all tokens t, u and all numbers: a token's number is that token again, in the same order; each number of a block is owned by its range. Conditions: none (every input that can be read). -/
import Derived.Test.YtajljephndlflaaRows
import Derived.Test.YtajljephndlflaaBack
import Derived.WalkKit
import Derived.ProofKit
import Derived.OpenShut
import Derived.ShutString
import Derived.ChangeOld
import Derived.Below
import Derived.SizedLaws
import Derived.Lib.SmallJoins
namespace Go.Proofs.Ytajljephndlflaa.LawBack
open Go.ChangeShapes Go.WideShapes Go.ChangeAt Go.RowKit Go.Joins

theorem right_of (n : Int) : PIdsBack.ids_right.f n = some (decide (1 ≤ n ∧ n ≤ 1048576)) := by
  unfold PIdsBack.ids_right.f
  by_cases h : n ≥ 1
  · have : 1 ≤ n := h
    simp [h]
  · have : ¬ 1 ≤ n := h
    simp [h]

theorem block_of (r n : Int) : ∃ A B E, PIdsBack.ids_Block.f r n = some (A, B, E) ∧ (E ≠ 0 → A = 0 ∧ B = 0) ∧ (E = 0 → (1 ≤ n ∧ n ≤ 1048576) ∧ (0 ≤ r ∧ r ≤ 1099511627776) ∧ A = r * n ∧ B = r * n + n ∧ 0 ≤ r * n ∧ r * n ≤ 1152921504606846976) := by
  unfold PIdsBack.ids_Block.f
  rw [right_of n]
  simp only [Option.bind_some]
  by_cases h : r < 0
  · exact ⟨0, 0, 1, if_pos h, fun _ => ⟨rfl, rfl⟩, fun h => by omega⟩
  · rw [if_neg h]
    by_cases h2 : 1 ≤ n ∧ n ≤ 1048576
    · rw [decide_eq_true h2, if_pos rfl]
      by_cases h3 : r > 1099511627776
      · exact ⟨0, 0, 1, if_pos h3, fun _ => ⟨rfl, rfl⟩, fun h => by omega⟩
      · have q1 : 0 ≤ r * n := Int.mul_nonneg (by omega) (by omega)
        have q2 : r * n ≤ 1099511627776 * 1048576 := Int.mul_le_mul (by omega) h2.2 (by omega) (by omega)
        have e1 : wrap64 (r * n) = r * n := by unfold wrap64; omega
        have e2 : wrap64 (r + 1) = r + 1 := by unfold wrap64; omega
        have e4 : (r + 1) * n = r * n + n := by rw [Int.add_mul, Int.one_mul]
        have e3 : wrap64 ((r + 1) * n) = r * n + n := by rw [e4]; unfold wrap64; omega
        rw [if_neg h3, e2, e1, e3]
        exact ⟨_, _, _, rfl, fun h => absurd rfl h, fun _ => ⟨h2, by omega, rfl, rfl, q1, by omega⟩⟩
    · rw [decide_eq_false h2]
      exact ⟨0, 0, 1, rfl, fun _ => ⟨rfl, rfl⟩, fun h => by omega⟩

theorem owner_of (r n x q : Int) (hq : q = r * n) (h0 : 0 ≤ x) (h1 : x < n) (hn : 1 ≤ n ∧ n ≤ 1048576) (hr : 0 ≤ r ∧ r ≤ 1099511627776) (q0 : 0 ≤ q) (q1 : q ≤ 1152921504606846976) : PIdsBack.ids_Owner.f (wrap64 (q + x)) n = some (r, 0) := by
  have e : wrap64 (q + x) = q + x := by unfold wrap64; omega
  have d : Int.tdiv (q + x) n = r := by
    rw [Int.tdiv_eq_ediv_of_nonneg (by omega), hq, Int.add_comm, Int.add_mul_ediv_right _ _ (by omega), Int.ediv_eq_zero_of_lt h0 h1]
    omega
  have w : wrap64 r = r := by unfold wrap64; omega
  unfold PIdsBack.ids_Owner.f
  rw [e, right_of n, d, w, if_neg (by omega)]
  simp only [Option.bind_some]
  rw [decide_eq_true hn, if_pos rfl, if_neg (by omega), if_neg (by omega)]

theorem known (t0 t1 t2 t3 u0 u1 u2 u3 r n m : Int) : ∃ X Y A B E, Back.Know t0 t1 t2 t3 u0 u1 u2 u3 r n m X Y A B E := by
  obtain ⟨A, B, E, hb, hbad, hgood⟩ := block_of r n
  refine ⟨Tok.tok t0 t1 t2 t3, Tok.tok u0 u1 u2 u3, A, B, E, ⟨Tok.token_eq _ _ _ _, Tok.token_eq _ _ _ _, (Tok.tok_lt _ _ _ _).1, (Tok.tok_lt _ _ _ _).2, Tok.back _ _ _ _, fun h1 h2 => ?_, hb, hbad, fun h => (hgood h).1, fun h => ?_, fun h hm => ?_⟩⟩
  · rw [Tok.less_eq, Tok.order _ _ _ _ _ _ _ _ h1 h2]
  · obtain ⟨hn, hr, rfl, rfl, q0, q1⟩ := hgood h
    unfold wrap64
    omega
  · obtain ⟨hn, hr, rfl, rfl, q0, q1⟩ := hgood h
    exact owner_of r n (m % n) (r * n) rfl (Int.emod_nonneg _ (by omega)) (Int.emod_lt_of_pos _ (by omega)) hn hr q0 q1

theorem own : ownKnob Try.prog.godebug = none := by kernel_rfl
theorem cells41 : Try.prog.cellsOf 41 = 4 := by kernel_rfl
theorem laid : laidOutB Try.prog = true := by kernel_rfl
theorem rows7 : (Try.f7.params.toList.all fun t => Try.prog.readableRec t && decide (t < Try.prog.types.size)) = true := by kernel_rfl

theorem trodAll_after {H : Type} {enc : TypeId × Value → H} {P : Program} (hl : laidOutB P = true) {W W' : World} (hb : Below W.heap.size W W') :
    ∀ {ts : List TypeId} {vs : List Value} {ds : List (DataW H)} {ps : List MemPlace}, (ts.all fun t => P.readableRec t && decide (t < P.types.size)) = true → DataW.TrodAll enc P W 0 (fun _ => true) true ts vs ds ps →
      DataW.TrodAll enc P W' 0 (fun b => decide (b < W.heap.size)) true ts vs ds ps
  | [], [], [], _, _, h => h
  | _ :: ts, v :: vs, d :: ds, ps, hr, h => by
    have hlt := h.lt
    obtain ⟨p, q, h0, h1, rfl⟩ := h
    simp only [List.all_cons, Bool.and_eq_true, decide_eq_true_eq] at hr
    exact ⟨p, q, Below.trod hl hr.1.1 hr.1.2 h0 hb (fun x hx => hlt x (by simp [hx])), trodAll_after hl hb hr.2 h1, rfl⟩
  | [], _ :: _, _, _, _, h => h.elim
  | [], [], _ :: _, _, _, h => h.elim
  | _ :: _, [], _, _, _, h => h.elim
  | _ :: _, _ :: _, [], _, _, h => h.elim

theorem token_open {H : Type} {enc : TypeId × Value → H} {W : World} {base : Nat} {spare : Nat → Bool} {r : Reach} {b : Nat} {v : Value} {d : DataW H} {p : List MemPlace} (hv : Value.okWide Try.prog W r b 41 v) (h : DataW.Trod enc Try.prog W base spare true 41 v d p) :
    ∃ t0 t1 t2 t3 : Int, v = .agg #[.int .i64 t0, .int .i64 t1, .int .i64 t2, .int .i64 t3] := by
  obtain ⟨c0, c1, c2, c3, y0, y1, y2, y3, m, rfl, _, _, g0, g1, g2, g3⟩ := open_agg4 Try.underlying41 (by kernel_rfl) cells41 hv h
  obtain ⟨a0, e0, _, _⟩ := DataW.trod_int Try.underlying3 g0
  obtain ⟨a1, e1, _, _⟩ := DataW.trod_int Try.underlying3 g1
  obtain ⟨a2, e2, _, _⟩ := DataW.trod_int Try.underlying3 g2
  obtain ⟨a3, e3, _, _⟩ := DataW.trod_int Try.underlying3 g3
  simp only [List.cons.injEq, and_true] at e0 e1 e2 e3
  subst e0 e1 e2 e3
  exact ⟨a0, a1, a2, a3, rfl⟩

set_option maxRecDepth 100000 in
theorem lifted (os : Os) (started : os.Started) (H : Type) (enc : TypeId × Value → H) :
    ReturnsInHanded {} Try.checked os 7 .any (Rows.idsBackSpec.pre6 enc Try.prog Try.f7 Rows.idsBackRow.domain false) (Rows.idsBackSpec.post enc Try.prog Try.f7 false true false false) := by
  refine returnsInHanded_of_change_sized (C := Try.checked) own started (by kernel_rfl) Try.func7
    (ChangeSpec.witness6 (enc := enc) (C := Try.checked) false ⟨#[], #[.agg #[.int .i64 0, .int .i64 0, .int .i64 0, .int .i64 0], .agg #[.int .i64 0, .int .i64 0, .int .i64 0, .int .i64 0], .int .i64 0, .int .i64 0, .int .i64 0], []⟩ 8 (by kernel_rfl) (by kernel_rfl) (by kernel_rfl) (by kernel_rfl)) ?_
  intro W base args ds gs before hval0 hW hcnd hsz0 _
  clear hsz0 hcnd
  have hval : ∀ (j : Nat) t v, Try.f7.params[j]? = some t → args[j]? = some v → Value.okWide Try.prog W .any base t v := hval0
  have hW' := hW
  obtain ⟨p, q, hA0, hV, rfl, hfz, hnd⟩ := hW
  have hA : DataW.TrodAll enc Try.prog W 0 (fun _ => true) true Try.f7.params.toList args.toList ds p := hA0
  have keep := fun W' (hb : Below W.heap.size W W') => trodAll_after laid hb rows7 hA
  rw [Try.params7] at hA hval keep
  obtain ⟨v0, vs0, d0, ds0, p0, q0, hargs, rfl, rfl, h0, r0⟩ := trodAll_cons hA
  obtain ⟨v1, vs1, d1, ds1, p1, q1, rfl, rfl, rfl, h1, r1⟩ := trodAll_cons r0
  obtain ⟨v2, vs2, d2, ds2, p2, q2, rfl, rfl, rfl, h2, r2⟩ := trodAll_cons r1
  obtain ⟨v3, vs3, d3, ds3, p3, q3, rfl, rfl, rfl, h3, r3⟩ := trodAll_cons r2
  obtain ⟨v4, vs4, d4, ds4, p4, q4, rfl, rfl, rfl, h4, r4⟩ := trodAll_cons r3
  obtain ⟨rfl, rfl, rfl⟩ := trodAll_nil r4
  obtain rfl : args = #[v0, v1, v2, v3, v4] := by cases args; simp_all
  obtain ⟨rfl, rfl⟩ := trodVars_none hV
  obtain ⟨t0, t1, t2, t3, rfl⟩ := token_open (hval 0 41 v0 rfl rfl) h0
  obtain ⟨u0, u1, u2, u3, rfl⟩ := token_open (hval 1 41 v1 rfl rfl) h1
  obtain ⟨a2, rfl, rfl, rfl, w2⟩ := open_int Try.underlying3 (hval 2 3 v2 rfl rfl) h2
  obtain ⟨a3, rfl, rfl, rfl, w3⟩ := open_int Try.underlying3 (hval 3 3 v3 rfl rfl) h3
  obtain ⟨a4, rfl, rfl, rfl, w4⟩ := open_int Try.underlying3 (hval 4 3 v4 rfl rfl) h4
  clear hA0 hval0
  obtain ⟨X, Y, A, B, E, hk⟩ := known t0 t1 t2 t3 u0 u1 u2 u3 a2 a3 a4
  refine (Back.walk t0 t1 t2 t3 u0 u1 u2 u3 a2 a3 a4 X Y A B E W hk).mono fun e W' ⟨he, bel⟩ => ?_
  subst he
  exact ⟨_, rfl, _, _, _, [], _, [], hW', trodAll_mk1 (shut_bool Try.underlying4 _), keep W' bel, rfl, bel.frame _, fun h => by cases h⟩

theorem over : Rows.idsBackRow.holds Try.pinned (OpenSpec.ofChange Rows.idsBackSpec) :=
  OpenClaim.holds_of_wide 7 Try.f7 rfl rfl rfl rfl rfl rfl rfl ⟨rfl, rfl, rfl, rfl, rfl⟩ rfl rfl rfl rfl rfl (by kernel_rfl) Try.func7 (by kernel_rfl)
    (of_decide_eq_true (by kernel_rfl)) (by unfold Func.isWrapper; first | (rw [if_pos (by decide +kernel)]; kernel_rfl) | (rw [if_neg (by decide +kernel)]; exact ⟨rfl, rfl⟩))
    (fun os started H enc _ => lifted os started H enc)
end Go.Proofs.Ytajljephndlflaa.LawBack
namespace Go.Proofs.Ytajljephndlflaa
theorem idsBack_holds : Rows.IdsBackSaid := LawBack.over
#print axioms idsBack_holds
end Go.Proofs.Ytajljephndlflaa

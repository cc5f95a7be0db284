/- Lists of acts that came in: what their places hold. Conditions: those at each theorem. -/
import Derived.Test.YtgalahnockmgpaaMapsT
import Derived.Deep.Slices
import Derived.ChangeArms
namespace Go.Proofs.Ytgalahnockmgpaa.Leases
open Go.RowKit Go.ChangeShapes Go.WideShapes Go.Deep Go.Proofs.YtgalahnockmgpaaW.PrintWords Go.Proofs.Ytgalahnockmgpaa.Kit

structure ActV where
  op : Int
  shard : Int
  owner : Int
  now : Int
  ticks : Int
  r : Int
  o : Int

def ActV.cells (x : ActV) : List Value := [.int .i64 x.op, .int .i64 x.shard, .int .i64 x.owner, .int .i64 x.now, .int .i64 x.ticks, .int .i64 x.r, .int .i64 x.o]

def Acts (w : World) (a : Option Addr) (xs : List ActV) : Prop := ∀ i, (hi : i < xs.length) → ∃ b off, a = some ⟨b, off, none⟩ ∧ b < w.heap.size ∧ ∀ j, j < 7 → w.cell? ⟨b, off + i * 7 + j, none⟩ = xs[i].cells[j]?

theorem cells46 : Try.prog.cellsOf 46 = 7 := by kernel_rfl
theorem cells25 : Try.prog.cellsOf 25 = 2 := by kernel_rfl
theorem cells3 : Try.prog.cellsOf 3 = 1 := by kernel_rfl

theorem one_of {cs : List Value} {j : Nat} {v : Value} (h : (cs.drop j).take 1 = [v]) : cs[j]? = some v := by
  have e : ((cs.drop j).take 1)[0]? = some v := by rw [h]; rfl
  rw [List.getElem?_take_of_lt (by decide), List.getElem?_drop] at e
  simpa using e

section
variable {H : Type} {enc : TypeId × Value → H} {w : World} {base : Nat} {spare : Nat → Bool} {held : Bool}

theorem int_of {n : Nat} {cs : List Value} {y : DataW H × List MemPlace} (h : DataW.trod enc Try.prog w base spare held n 3 cs = some y) : ∃ v : Int, cs = [.int .i64 v] := by
  obtain ⟨v, e, _, _⟩ := DataW.trod_int Try.underlying3 h
  exact ⟨v, e⟩

theorem act_of {n : Nat} {cs : List Value} {y : DataW H × List MemPlace} (h : DataW.trod enc Try.prog w base spare held n 46 cs = some y) : ∃ x : ActV, cs = x.cells := by
  obtain ⟨xs, m, _, _, hl, hx, hf⟩ := DataW.trod_struct Try.underlying46 h
  rw [cells46] at hl
  have get : ∀ j (hj : j < xs.length), xs[j]? = some xs[j] := fun j hj => List.getElem?_eq_getElem hj
  have hx6 : xs.length = 6 := hx
  have g0 : DataW.trod enc Try.prog w base spare held m 3 ((cs.drop 0).take (Try.prog.cellsOf 3)) = xs[0]? := hf 0 _ rfl
  have g1 : DataW.trod enc Try.prog w base spare held m 3 ((cs.drop 1).take (Try.prog.cellsOf 3)) = xs[1]? := hf 1 _ rfl
  have g2 : DataW.trod enc Try.prog w base spare held m 3 ((cs.drop 2).take (Try.prog.cellsOf 3)) = xs[2]? := hf 2 _ rfl
  have g3 : DataW.trod enc Try.prog w base spare held m 3 ((cs.drop 3).take (Try.prog.cellsOf 3)) = xs[3]? := hf 3 _ rfl
  have g4 : DataW.trod enc Try.prog w base spare held m 3 ((cs.drop 4).take (Try.prog.cellsOf 3)) = xs[4]? := hf 4 _ rfl
  have g5 : DataW.trod enc Try.prog w base spare held m 25 ((cs.drop 5).take (Try.prog.cellsOf 25)) = xs[5]? := hf 5 _ rfl
  rw [get 0 (by omega)] at g0
  rw [get 1 (by omega)] at g1
  rw [get 2 (by omega)] at g2
  rw [get 3 (by omega)] at g3
  rw [get 4 (by omega)] at g4
  rw [get 5 (by omega)] at g5
  rw [cells3] at g0 g1 g2 g3 g4
  rw [cells25] at g5
  obtain ⟨v0, e0⟩ := int_of g0
  obtain ⟨v1, e1⟩ := int_of g1
  obtain ⟨v2, e2⟩ := int_of g2
  obtain ⟨v3, e3⟩ := int_of g3
  obtain ⟨v4, e4⟩ := int_of g4
  obtain ⟨ys, m', _, _, hl', hx', hf'⟩ := DataW.trod_struct Try.underlying25 g5
  have get' : ∀ j (hj : j < ys.length), ys[j]? = some ys[j] := fun j hj => List.getElem?_eq_getElem hj
  have hx2 : ys.length = 2 := hx'
  have k0 : DataW.trod enc Try.prog w base spare held m' 3 ((((cs.drop 5).take 2).drop 0).take (Try.prog.cellsOf 3)) = ys[0]? := hf' 0 _ rfl
  have k1 : DataW.trod enc Try.prog w base spare held m' 3 ((((cs.drop 5).take 2).drop 1).take (Try.prog.cellsOf 3)) = ys[1]? := hf' 1 _ rfl
  rw [get' 0 (by omega)] at k0
  rw [get' 1 (by omega)] at k1
  rw [cells3] at k0 k1
  obtain ⟨v5, e5⟩ := int_of k0
  obtain ⟨v6, e6⟩ := int_of k1
  have r0 := one_of e0
  have r1 := one_of e1
  have r2 := one_of e2
  have r3 := one_of e3
  have r4 := one_of e4
  have r5 := one_of e5
  have r6 := one_of e6
  rw [List.getElem?_take_of_lt (by decide), List.getElem?_drop] at r5 r6
  refine ⟨⟨v0, v1, v2, v3, v4, v5, v6⟩, List.ext_getElem? fun j => ?_⟩
  match j with
  | 0 => exact r0
  | 1 => exact r1
  | 2 => exact r2
  | 3 => exact r3
  | 4 => exact r4
  | 5 => exact r5
  | 6 => exact r6
  | j + 7 => rw [List.getElem?_eq_none (by omega)]; rfl

theorem acts_open {a : Option Addr} {len cap : Nat} {d : DataW H} {ps : List MemPlace} (h : DataW.Trod enc Try.prog w base spare held 41 (.slice a len cap) d ps) : ∃ xs : List ActV, xs.length = len ∧ Acts w a xs := by
  obtain ⟨fuel, hf⟩ := h
  rcases open_slice Try.underlying41 hf with ⟨hcs, _⟩ | ⟨ad, l, c, m, n, D, Pl, hcs, _, hl, _, hm, _, hi⟩
  · simp [Value.cells] at hcs
    obtain ⟨rfl, rfl, rfl⟩ := hcs
    exact ⟨[], rfl, fun i hi => absurd hi (Nat.not_lt_zero _)⟩
  · simp [Value.cells] at hcs
    obtain ⟨rfl, rfl, rfl⟩ := hcs
    have hlm : len ≤ m := by
      rw [hm]
      split <;> omega
    have each : ∀ i, ∃ x : ActV, i < len → ∀ j, j < 7 → w.cell? (ad.add (i * 7 + j)) = x.cells[j]? := by
      intro i
      by_cases hil : i < len
      · obtain ⟨cs', hc, ht⟩ := hi i (by omega)
        obtain ⟨x, rfl⟩ := act_of ht
        rw [cells46] at hc
        obtain ⟨_, _, hat⟩ := World.cells?_some hc
        exact ⟨x, fun _ j hj => by rw [← hat j hj, Go.Deep.add_add]⟩
      · exact ⟨⟨0, 0, 0, 0, 0, 0, 0⟩, fun h => absurd h hil⟩
    obtain ⟨f, hf⟩ := Classical.axiomOfChoice each
    refine ⟨(List.range len).map f, by simp, fun i hi' => ?_⟩
    have hil : i < len := by simpa using hi'
    have h0 := hf 0 (by omega) 0 (by decide)
    obtain ⟨b, off, spot⟩ := ad
    have hspot : spot = none := by simpa [Addr.add] using World.cell?_spot h0
    subst hspot
    refine ⟨b, off, rfl, ?_, fun j hj => ?_⟩
    · have h1 : w.cell? ((⟨b, off, none⟩ : Addr).add (0 * 7 + 0)) = some (.int .i64 (f 0).op) := h0
      rw [Nat.zero_mul, Go.WideShapes.add_plain] at h1
      unfold World.cell? at h1
      cases hh : w.heap[b]? with
      | none => rw [show (⟨b, off + (0 + 0), none⟩ : Addr).block = b from rfl, hh] at h1; simp at h1
      | some o => exact (Array.getElem?_eq_some_iff.1 hh).1
    · have h1 := hf i hil j hj
      rw [Go.WideShapes.add_plain] at h1
      rw [Nat.add_assoc, h1]
      simp
end
end Go.Proofs.Ytgalahnockmgpaa.Leases

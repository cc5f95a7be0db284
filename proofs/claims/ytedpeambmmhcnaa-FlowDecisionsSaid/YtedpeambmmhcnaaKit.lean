/- Small laws of my own on worlds, readings and regions that draw their order; they speak of no program. Conditions: those at each theorem. -/
import Derived.Test.YtedpeambmmhcnaaWMore
import Derived.Test.YtedpeambmmhcnaaWLast
import Derived.WalkKit
import Derived.BigQuiet
import Derived.Deep.QuietTactic
import Derived.Lib.Hide
import Derived.Carry
import Derived.ChangeOld
import Derived.ChangeSlices
import Derived.OpenShut
namespace Go.Proofs.Ytedpeambmmhcnaa.Kit
open Go.RowKit Go.ChangeShapes Go.Proofs.YtedpeambmmhcnaaW.PrintWords

/-! ### The class of the worlds behind W: what lay there lies there unchanged -/
structure After (W : World) where
  now : World
  bel : Below W.heap.size W now

instance (W : World) : Nonempty (After W) := ⟨⟨W, Below.refl _ _⟩⟩

theorem After.size {W : World} (q : After W) : W.heap.size ≤ q.now.heap.size := q.bel.size

theorem after_blk {W : World} {g : Nat} {o : Obj} (h : W.heap[g]? = some o) (q : After W) : q.now.heap[g]? = some o := blk_below h q.bel

theorem after_cell {W : World} {g : Nat} {t : TypeId} {cs : Array Value} (h : W.heap[g]? = some (.cells cs t (0, 0))) (q : After W) (i : Nat) : q.now.cell? ⟨g, i, none⟩ = cs[i]? := blk_cell (after_blk h q) i

theorem after_cell_of {W : World} {a : Addr} {v : Value} (h : W.cell? a = some v) (q : After W) : q.now.cell? a = some v := by
  have hlt : a.block < W.heap.size := by
    unfold World.cell? at h
    cases hh : W.heap[a.block]? with
    | none => rw [hh] at h; simp at h
    | some o => exact (Array.getElem?_eq_some_iff.1 hh).1
  rw [q.bel.cell hlt]
  exact h

theorem after_calls {P : Program} {f : FuncId} {args : Array Value} {W : World} (q : After W) {v : Value} (h : Calls P f args q.now fun e w' => e = .returned v ∧ Below q.now.heap.size q.now w') :
    Calls P f args q.now fun e w'' => e = .returned v ∧ ∃ q' : After W, w'' = q'.now :=
  h.mono fun _ w' ⟨he, hb⟩ => ⟨he, ⟨w', below_then q.bel q.bel.size hb⟩, rfl⟩

theorem wp_region_after {P : Program} {id : Nat} {Q : Exit → Act → World → Prop} {a : Act} {W : World} {l : List Oper} (hm : P.follows .mixedOrders = true) (hB : Region.lexB .any l.toArray = true)
    (h : wpQuiet P l.toArray (fun w' => ∃ q : After W, w' = q.now) (fun a' => ∀ w', (∃ q : After W, w' = q.now) → Q .normal a' w') l a) : (Code.region id l.toArray true).wp P Q a W :=
  wp_region_quiet (C := fun w' => ∃ q : After W, w' = q.now) hm hB ⟨⟨_, below_drew (Below.refl _ _)⟩, rfl⟩ (by simpa using h)

/-! ### A call's world under another name -/
theorem calls_gen {P : Program} {f : FuncId} {args : Array Value} {w : World} {Q : Ending → World → Prop} (F : World → Prop) (hF : F w) (h : ∀ W, F W → Calls P f args W Q) : Calls P f args w Q := h w hF

/-! ### What a walk holds: some blocks, and that nothing below has changed -/
structure Holds (w : World) (L : List (Nat × Obj)) (W : World) : Prop where
  blk : ∀ p ∈ L, W.heap[p.1]? = some p.2
  bel : Below w.heap.size w W

theorem Holds.start (w : World) : Holds w [] w := ⟨fun _ h => (List.not_mem_nil h).elim, Below.refl _ _⟩

theorem Holds.step {w W W' : World} {L : List (Nat × Obj)} (h : Holds w L W) (hb : Below W.heap.size W W') : Holds w L W' :=
  ⟨fun p hp => blk_below (h.blk p hp) hb, below_step h.bel hb⟩

theorem Holds.alloc {w W : World} {L : List (Nat × Obj)} (h : Holds w L W) (o : Obj) : Holds w ((W.heap.size, o) :: L) (W.alloc o) :=
  ⟨fun p hp => by
    rcases List.mem_cons.1 hp with rfl | hp
    · exact blk_new W o
    · exact blk_alloc (h.blk p hp) o, below_alloc h.bel o⟩

theorem Holds.get {w W : World} {L : List (Nat × Obj)} (h : Holds w L W) (i : Nat) {g : Nat} {o : Obj} (hi : L[i]? = some (g, o)) : W.heap[g]? = some o := h.blk _ (List.mem_of_getElem? hi)

theorem Holds.sub {w W : World} {L L' : List (Nat × Obj)} (h : Holds w L W) (hs : ∀ p ∈ L', p ∈ L) : Holds w L' W := ⟨fun p hp => h.blk p (hs p hp), h.bel⟩

theorem Holds.add {w W : World} {L : List (Nat × Obj)} (h : Holds w L W) {g : Nat} {o : Obj} (hg : W.heap[g]? = some o) : Holds w ((g, o) :: L) W :=
  ⟨fun p hp => by
    rcases List.mem_cons.1 hp with rfl | hp
    · exact hg
    · exact h.blk p hp, h.bel⟩

theorem Holds.far {w W : World} {L : List (Nat × Obj)} (h : Holds w L W) {g : Nat} (hg : w.heap.size ≤ g) (hL : ∀ p ∈ L, p.1 ≠ g) (j : Nat) (v : Value) : Holds w L (W.setCell ⟨g, j, none⟩ v) :=
  ⟨fun p hp => (Below.heap_setCell _ _ _ _ (hL p hp)).trans (h.blk p hp), below_set h.bel hg⟩

theorem Holds.put {w W : World} {L : List (Nat × Obj)} {g : Nat} {cs : Array Value} {t : TypeId} (h : Holds w ((g, .cells cs t (0, 0)) :: L) W) (hg : w.heap.size ≤ g) (hL : ∀ p ∈ L, p.1 ≠ g) (j : Nat) (v : Value) :
    Holds w ((g, .cells (cs.setIfInBounds j v) t (0, 0)) :: L) (W.setCell ⟨g, j, none⟩ v) :=
  ⟨fun p hp => by
    rcases List.mem_cons.1 hp with rfl | hp
    · exact blk_set (h.get 0 rfl) j v
    · exact (Below.heap_setCell _ _ _ _ (hL p hp)).trans (h.blk p (List.mem_cons_of_mem _ hp)), below_set h.bel hg⟩

/-- A slice of whole numbers that came in: what its places hold. -/
def Ints (w : World) (k : IntKind) (a : Option Addr) (xs : List Int) : Prop := ∀ i, (hi : i < xs.length) → ∃ b off, a = some ⟨b, off, none⟩ ∧ b < w.heap.size ∧ w.cell? ⟨b, off + i, none⟩ = some (.int k xs[i])

theorem ints_open {H : Type} {enc : TypeId × Value → H} {P : Program} {W : World} {base : Nat} {spare : Nat → Bool} {held : Bool} {t e : TypeId} {k : IntKind} {a : Option Addr} {len cap : Nat} {d : DataW H} {ps : List MemPlace}
    (hu : P.underlying t = some (.slice e)) (he : P.underlying e = some (.int k)) (hc : P.cellsOf e = 1) (h : DataW.Trod enc P W base spare held t (.slice a len cap) d ps) :
    ∃ xs : List Int, xs.length = len ∧ Ints W k a xs ∧ ∀ n ∈ xs, (Lit.int k n).wf = true := by
  obtain ⟨fuel, hf⟩ := h
  rcases open_ints hu he hc hf with ⟨hcs, _⟩ | ⟨x, l, c, zs, hcs, _, hl, hm, hz, _, hcell, hwz⟩
  · simp [Value.cells] at hcs
    obtain ⟨rfl, rfl, rfl⟩ := hcs
    exact ⟨[], rfl, fun i hi => absurd hi (Nat.not_lt_zero _), fun n hn => (List.not_mem_nil hn).elim⟩
  · simp [Value.cells] at hcs
    obtain ⟨rfl, rfl, rfl⟩ := hcs
    have hlz : len ≤ zs.length := by
      rw [hz]
      split <;> omega
    refine ⟨zs.take len, by simp; omega, fun i hi => ?_, fun n hn => hwz n (List.mem_of_mem_take hn)⟩
    have hi' : i < len := by
      rw [List.length_take] at hi
      omega
    obtain ⟨b, off, rfl, hcc⟩ := ints_at hcell (by omega)
    have hci := hcc i (by omega)
    refine ⟨b, off, rfl, ?_, ?_⟩
    · unfold World.cell? at hci
      cases hh : W.heap[b]? with
      | none => rw [hh] at hci; simp at hci
      | some o => exact (Array.getElem?_eq_some_iff.1 hh).1
    · rw [hci]
      simp [List.getD, List.getElem?_eq_getElem (show i < zs.length by omega)]

/-! ### The arguments read behind the call as they did before -/
theorem trodAll_after {H : Type} {enc : TypeId × Value → H} {P : Program} (hl : laidOutB P = true) {W W' : World} (hb : Below W.heap.size W W') :
    ∀ {ts : List TypeId} {vs : List Value} {ds : List (DataW H)} {ps : List MemPlace}, (ts.all fun t => P.readableRec t && decide (t < P.types.size)) = true → DataW.TrodAll enc P W 0 (fun _ => true) true ts vs ds ps →
      DataW.TrodAll enc P W' 0 (fun b => decide (b < W.heap.size)) true ts vs ds ps
  | [], [], [], _, _, h => h
  | _ :: ts, v :: vs, d :: ds, ps, hr, h => by
    have hlt := h.lt
    obtain ⟨p, q, h0, h1, rfl⟩ := h
    simp only [List.all_cons, Bool.and_eq_true, decide_eq_true_eq] at hr
    exact ⟨p, q, Below.trod hl hr.1.1 hr.1.2 h0 hb (fun x hx => hlt x (by simp [hx])), trodAll_after hl hb hr.2 h1, rfl⟩
  | [], _ :: _, _, _, _, h => h.elim
  | [], [], _ :: _, _, _, h => h.elim
  | _ :: _, [], _, _, _, h => h.elim
  | _ :: _, _ :: _, [], _, _, h => h.elim

/-! ### What a call may change: the blocks of S, of those that lay there -/
structure Mod (S : Nat → Prop) (w w' : World) : Prop where
  os : w'.os = w.os
  tape : w'.tape = w.tape
  output : w'.output = w.output
  size : w.heap.size ≤ w'.heap.size
  block : ∀ k, k < w.heap.size → ¬ S k → w'.heap[k]? = w.heap[k]?

theorem Mod.refl (S : Nat → Prop) (w : World) : Mod S w w := ⟨rfl, rfl, rfl, Nat.le_refl _, fun _ _ _ => rfl⟩
theorem Mod.of_below {S : Nat → Prop} {w w' : World} (h : Below w.heap.size w w') : Mod S w w' := ⟨h.os, h.tape, h.output, h.size, fun k hk _ => h.block k hk⟩
theorem Mod.trans {S : Nat → Prop} {a b c : World} (h : Mod S a b) (k : Mod S b c) : Mod S a c :=
  ⟨k.os.trans h.os, k.tape.trans h.tape, k.output.trans h.output, Nat.le_trans h.size k.size, fun i hi hn => (k.block i (Nat.lt_of_lt_of_le hi h.size) hn).trans (h.block i hi hn)⟩
theorem Mod.mono {S S' : Nat → Prop} {w w' : World} (h : Mod S w w') (hs : ∀ k, S k → S' k) : Mod S' w w' := ⟨h.os, h.tape, h.output, h.size, fun k hk hn => h.block k hk (fun hh => hn (hs k hh))⟩
theorem Mod.set {S : Nat → Prop} {w w' : World} (h : Mod S w w') {g : Nat} (hg : S g) (j : Nat) (v : Value) : Mod S w (w'.setCell ⟨g, j, none⟩ v) :=
  ⟨h.os, h.tape, h.output, by simpa using h.size, fun k hk hn => (Below.heap_setCell _ _ _ _ (fun e => hn (by rw [e]; exact hg))).trans (h.block k hk hn)⟩
theorem Mod.drew {S : Nat → Prop} {w w' : World} (h : Mod S w w') : Mod S w w'.drew := ⟨h.os, h.tape, h.output, h.size, h.block⟩
theorem Mod.drewN {S : Nat → Prop} {w w' : World} (h : Mod S w w') (n : Nat) : Mod S w (w'.drewN n) := ⟨h.os, h.tape, h.output, h.size, h.block⟩
theorem Mod.alloc {S : Nat → Prop} {w w' : World} (h : Mod S w w') (o : Obj) : Mod S w (w'.alloc o) := h.trans (Mod.of_below (below_alloc (Below.refl _ _) o))
theorem Mod.step {S : Nat → Prop} {w w' w2 : World} (h : Mod S w w') (hb : Below w'.heap.size w' w2) : Mod S w w2 := h.trans (Mod.of_below hb)
theorem Mod.below {S : Nat → Prop} {w w0 w' : World} (h : Mod S w w') (h0 : Below w0.heap.size w0 w) (hs : ∀ k, S k → w0.heap.size ≤ k) : Below w0.heap.size w0 w' :=
  ⟨h.os.trans h0.os, h.tape.trans h0.tape, h.output.trans h0.output, Nat.le_trans h0.size h.size, fun k hk => (h.block k (Nat.lt_of_lt_of_le hk h0.size) (fun hh => Nat.lt_irrefl _ (Nat.lt_of_lt_of_le hk (hs k hh)))).trans (h0.block k hk)⟩
theorem Mod.blk {S : Nat → Prop} {w w' : World} (h : Mod S w w') {g : Nat} {o : Obj} (hb : w.heap[g]? = some o) (hn : ¬ S g) : w'.heap[g]? = some o := (h.block g (blk_lt hb) hn).trans hb
theorem Holds.mod {w W W' : World} {L : List (Nat × Obj)} {S : Nat → Prop} (h : Holds w L W) (hm : Mod S W W') (hs : ∀ k, S k → w.heap.size ≤ k) (hL : ∀ p ∈ L, ¬ S p.1) : Holds w L W' :=
  ⟨fun p hp => hm.blk (h.blk p hp) (hL p hp), hm.below h.bel hs⟩

/-- What a law's walk ends with. -/
def Yes (w : World) (e : Ending) (w' : World) : Prop := e = .returned (.bool true) ∧ Below w.heap.size w w'

end Go.Proofs.Ytedpeambmmhcnaa.Kit

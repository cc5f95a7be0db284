/- Small laws of my own on worlds, readings and regions that draw their order; they speak of no program. Conditions: those at each theorem. -/
import Derived.Test.YtedpeambmmhcnaaWMore
import Derived.Test.YtedpeambmmhcnaaWLast
import Derived.WalkKit
import Derived.BigQuiet
import Derived.Deep.QuietTactic
import Derived.Lib.Hide
import Derived.Carry
import Derived.ChangeOld
import Derived.ChangeSlices
import Derived.OpenShut
import Derived.Test.YtedpeambmmhcnaaProg
import Derived.RegionTactic
import Derived.BigRegion
import Derived.Laws.MakeOwn
import Derived.Laws.BytesString
import Derived.Maps.OwnSet
import Derived.Maps.RangeWalk
import Derived.Shelf.SlMaps.Clone
import Derived.Lib.SliceRun
import Derived.StillTailTactics
namespace Go.Proofs.Ytedpeambmmhcnaa.Kit
open Go.RowKit Go.ChangeShapes Go.Proofs.YtedpeambmmhcnaaW.PrintWords

/-! ### The class of the worlds behind W: what lay there lies there unchanged -/
structure After (W : World) where
  now : World
  bel : Below W.heap.size W now

instance (W : World) : Nonempty (After W) := ⟨⟨W, Below.refl _ _⟩⟩

theorem After.size {W : World} (q : After W) : W.heap.size ≤ q.now.heap.size := q.bel.size

theorem after_blk {W : World} {g : Nat} {o : Obj} (h : W.heap[g]? = some o) (q : After W) : q.now.heap[g]? = some o := blk_below h q.bel

theorem after_cell {W : World} {g : Nat} {t : TypeId} {cs : Array Value} (h : W.heap[g]? = some (.cells cs t (0, 0))) (q : After W) (i : Nat) : q.now.cell? ⟨g, i, none⟩ = cs[i]? := blk_cell (after_blk h q) i

theorem after_cell_of {W : World} {a : Addr} {v : Value} (h : W.cell? a = some v) (q : After W) : q.now.cell? a = some v := by
  have hlt : a.block < W.heap.size := by
    unfold World.cell? at h
    cases hh : W.heap[a.block]? with
    | none => rw [hh] at h; simp at h
    | some o => exact (Array.getElem?_eq_some_iff.1 hh).1
  rw [q.bel.cell hlt]
  exact h

theorem after_calls {P : Program} {f : FuncId} {args : Array Value} {W : World} (q : After W) {v : Value} (h : Calls P f args q.now fun e w' => e = .returned v ∧ Below q.now.heap.size q.now w') :
    Calls P f args q.now fun e w'' => e = .returned v ∧ ∃ q' : After W, w'' = q'.now :=
  h.mono fun _ w' ⟨he, hb⟩ => ⟨he, ⟨w', below_then q.bel q.bel.size hb⟩, rfl⟩

theorem wp_region_after {P : Program} {id : Nat} {Q : Exit → Act → World → Prop} {a : Act} {W : World} {l : List Oper} (hm : P.follows .mixedOrders = true) (hB : Region.lexB .any l.toArray = true)
    (h : wpQuiet P l.toArray (fun w' => ∃ q : After W, w' = q.now) (fun a' => ∀ w', (∃ q : After W, w' = q.now) → Q .normal a' w') l a) : (Code.region id l.toArray true).wp P Q a W :=
  wp_region_quiet (C := fun w' => ∃ q : After W, w' = q.now) hm hB ⟨⟨_, below_drew (Below.refl _ _)⟩, rfl⟩ (by simpa using h)

/-! ### A call's world under another name -/
theorem calls_gen {P : Program} {f : FuncId} {args : Array Value} {w : World} {Q : Ending → World → Prop} (F : World → Prop) (hF : F w) (h : ∀ W, F W → Calls P f args W Q) : Calls P f args w Q := h w hF

/-! ### What a walk holds: some blocks, and that nothing below has changed -/
structure Holds (w : World) (L : List (Nat × Obj)) (W : World) : Prop where
  blk : ∀ p ∈ L, W.heap[p.1]? = some p.2
  bel : Below w.heap.size w W

theorem Holds.start (w : World) : Holds w [] w := ⟨fun _ h => (List.not_mem_nil h).elim, Below.refl _ _⟩

theorem Holds.step {w W W' : World} {L : List (Nat × Obj)} (h : Holds w L W) (hb : Below W.heap.size W W') : Holds w L W' :=
  ⟨fun p hp => blk_below (h.blk p hp) hb, below_step h.bel hb⟩

theorem Holds.alloc {w W : World} {L : List (Nat × Obj)} (h : Holds w L W) (o : Obj) : Holds w ((W.heap.size, o) :: L) (W.alloc o) :=
  ⟨fun p hp => by
    rcases List.mem_cons.1 hp with rfl | hp
    · exact blk_new W o
    · exact blk_alloc (h.blk p hp) o, below_alloc h.bel o⟩

theorem Holds.get {w W : World} {L : List (Nat × Obj)} (h : Holds w L W) (i : Nat) {g : Nat} {o : Obj} (hi : L[i]? = some (g, o)) : W.heap[g]? = some o := h.blk _ (List.mem_of_getElem? hi)

theorem Holds.sub {w W : World} {L L' : List (Nat × Obj)} (h : Holds w L W) (hs : ∀ p ∈ L', p ∈ L) : Holds w L' W := ⟨fun p hp => h.blk p (hs p hp), h.bel⟩

theorem Holds.add {w W : World} {L : List (Nat × Obj)} (h : Holds w L W) {g : Nat} {o : Obj} (hg : W.heap[g]? = some o) : Holds w ((g, o) :: L) W :=
  ⟨fun p hp => by
    rcases List.mem_cons.1 hp with rfl | hp
    · exact hg
    · exact h.blk p hp, h.bel⟩

theorem Holds.far {w W : World} {L : List (Nat × Obj)} (h : Holds w L W) {g : Nat} (hg : w.heap.size ≤ g) (hL : ∀ p ∈ L, p.1 ≠ g) (j : Nat) (v : Value) : Holds w L (W.setCell ⟨g, j, none⟩ v) :=
  ⟨fun p hp => (Below.heap_setCell _ _ _ _ (hL p hp)).trans (h.blk p hp), below_set h.bel hg⟩

theorem Holds.put {w W : World} {L : List (Nat × Obj)} {g : Nat} {cs : Array Value} {t : TypeId} (h : Holds w ((g, .cells cs t (0, 0)) :: L) W) (hg : w.heap.size ≤ g) (hL : ∀ p ∈ L, p.1 ≠ g) (j : Nat) (v : Value) :
    Holds w ((g, .cells (cs.setIfInBounds j v) t (0, 0)) :: L) (W.setCell ⟨g, j, none⟩ v) :=
  ⟨fun p hp => by
    rcases List.mem_cons.1 hp with rfl | hp
    · exact blk_set (h.get 0 rfl) j v
    · exact (Below.heap_setCell _ _ _ _ (hL p hp)).trans (h.blk p (List.mem_cons_of_mem _ hp)), below_set h.bel hg⟩

/-- A slice of whole numbers that came in: what its places hold. -/
def Ints (w : World) (k : IntKind) (a : Option Addr) (xs : List Int) : Prop := ∀ i, (hi : i < xs.length) → ∃ b off, a = some ⟨b, off, none⟩ ∧ b < w.heap.size ∧ w.cell? ⟨b, off + i, none⟩ = some (.int k xs[i])

theorem ints_open {H : Type} {enc : TypeId × Value → H} {P : Program} {W : World} {base : Nat} {spare : Nat → Bool} {held : Bool} {t e : TypeId} {k : IntKind} {a : Option Addr} {len cap : Nat} {d : DataW H} {ps : List MemPlace}
    (hu : P.underlying t = some (.slice e)) (he : P.underlying e = some (.int k)) (hc : P.cellsOf e = 1) (h : DataW.Trod enc P W base spare held t (.slice a len cap) d ps) :
    ∃ xs : List Int, xs.length = len ∧ Ints W k a xs ∧ ∀ n ∈ xs, (Lit.int k n).wf = true := by
  obtain ⟨fuel, hf⟩ := h
  rcases open_ints hu he hc hf with ⟨hcs, _⟩ | ⟨x, l, c, zs, hcs, _, hl, hm, hz, _, hcell, hwz⟩
  · simp [Value.cells] at hcs
    obtain ⟨rfl, rfl, rfl⟩ := hcs
    exact ⟨[], rfl, fun i hi => absurd hi (Nat.not_lt_zero _), fun n hn => (List.not_mem_nil hn).elim⟩
  · simp [Value.cells] at hcs
    obtain ⟨rfl, rfl, rfl⟩ := hcs
    have hlz : len ≤ zs.length := by
      rw [hz]
      split <;> omega
    refine ⟨zs.take len, by simp; omega, fun i hi => ?_, fun n hn => hwz n (List.mem_of_mem_take hn)⟩
    have hi' : i < len := by
      rw [List.length_take] at hi
      omega
    obtain ⟨b, off, rfl, hcc⟩ := ints_at hcell (by omega)
    have hci := hcc i (by omega)
    refine ⟨b, off, rfl, ?_, ?_⟩
    · unfold World.cell? at hci
      cases hh : W.heap[b]? with
      | none => rw [hh] at hci; simp at hci
      | some o => exact (Array.getElem?_eq_some_iff.1 hh).1
    · rw [hci]
      simp [List.getD, List.getElem?_eq_getElem (show i < zs.length by omega)]

/-! ### The arguments read behind the call as they did before -/
theorem trodAll_after {H : Type} {enc : TypeId × Value → H} {P : Program} (hl : laidOutB P = true) {W W' : World} (hb : Below W.heap.size W W') :
    ∀ {ts : List TypeId} {vs : List Value} {ds : List (DataW H)} {ps : List MemPlace}, (ts.all fun t => P.readableRec t && decide (t < P.types.size)) = true → DataW.TrodAll enc P W 0 (fun _ => true) true ts vs ds ps →
      DataW.TrodAll enc P W' 0 (fun b => decide (b < W.heap.size)) true ts vs ds ps
  | [], [], [], _, _, h => h
  | _ :: ts, v :: vs, d :: ds, ps, hr, h => by
    have hlt := h.lt
    obtain ⟨p, q, h0, h1, rfl⟩ := h
    simp only [List.all_cons, Bool.and_eq_true, decide_eq_true_eq] at hr
    exact ⟨p, q, Below.trod hl hr.1.1 hr.1.2 h0 hb (fun x hx => hlt x (by simp [hx])), trodAll_after hl hb hr.2 h1, rfl⟩
  | [], _ :: _, _, _, _, h => h.elim
  | [], [], _ :: _, _, _, h => h.elim
  | _ :: _, [], _, _, _, h => h.elim
  | _ :: _, _ :: _, [], _, _, h => h.elim

/-! ### What a call may change: the blocks of S, of those that lay there -/
structure Mod (S : Nat → Prop) (w w' : World) : Prop where
  os : w'.os = w.os
  tape : w'.tape = w.tape
  output : w'.output = w.output
  size : w.heap.size ≤ w'.heap.size
  block : ∀ k, k < w.heap.size → ¬ S k → w'.heap[k]? = w.heap[k]?

theorem Mod.refl (S : Nat → Prop) (w : World) : Mod S w w := ⟨rfl, rfl, rfl, Nat.le_refl _, fun _ _ _ => rfl⟩
theorem Mod.of_below {S : Nat → Prop} {w w' : World} (h : Below w.heap.size w w') : Mod S w w' := ⟨h.os, h.tape, h.output, h.size, fun k hk _ => h.block k hk⟩
theorem Mod.trans {S : Nat → Prop} {a b c : World} (h : Mod S a b) (k : Mod S b c) : Mod S a c :=
  ⟨k.os.trans h.os, k.tape.trans h.tape, k.output.trans h.output, Nat.le_trans h.size k.size, fun i hi hn => (k.block i (Nat.lt_of_lt_of_le hi h.size) hn).trans (h.block i hi hn)⟩
theorem Mod.mono {S S' : Nat → Prop} {w w' : World} (h : Mod S w w') (hs : ∀ k, S k → S' k) : Mod S' w w' := ⟨h.os, h.tape, h.output, h.size, fun k hk hn => h.block k hk (fun hh => hn (hs k hh))⟩
theorem Mod.set {S : Nat → Prop} {w w' : World} (h : Mod S w w') {g : Nat} (hg : S g) (j : Nat) (v : Value) : Mod S w (w'.setCell ⟨g, j, none⟩ v) :=
  ⟨h.os, h.tape, h.output, by simpa using h.size, fun k hk hn => (Below.heap_setCell _ _ _ _ (fun e => hn (by rw [e]; exact hg))).trans (h.block k hk hn)⟩
theorem Mod.drew {S : Nat → Prop} {w w' : World} (h : Mod S w w') : Mod S w w'.drew := ⟨h.os, h.tape, h.output, h.size, h.block⟩
theorem Mod.drewN {S : Nat → Prop} {w w' : World} (h : Mod S w w') (n : Nat) : Mod S w (w'.drewN n) := ⟨h.os, h.tape, h.output, h.size, h.block⟩
theorem Mod.alloc {S : Nat → Prop} {w w' : World} (h : Mod S w w') (o : Obj) : Mod S w (w'.alloc o) := h.trans (Mod.of_below (below_alloc (Below.refl _ _) o))
theorem Mod.step {S : Nat → Prop} {w w' w2 : World} (h : Mod S w w') (hb : Below w'.heap.size w' w2) : Mod S w w2 := h.trans (Mod.of_below hb)
theorem Mod.below {S : Nat → Prop} {w w0 w' : World} (h : Mod S w w') (h0 : Below w0.heap.size w0 w) (hs : ∀ k, S k → w0.heap.size ≤ k) : Below w0.heap.size w0 w' :=
  ⟨h.os.trans h0.os, h.tape.trans h0.tape, h.output.trans h0.output, Nat.le_trans h0.size h.size, fun k hk => (h.block k (Nat.lt_of_lt_of_le hk h0.size) (fun hh => Nat.lt_irrefl _ (Nat.lt_of_lt_of_le hk (hs k hh)))).trans (h0.block k hk)⟩
theorem Mod.blk {S : Nat → Prop} {w w' : World} (h : Mod S w w') {g : Nat} {o : Obj} (hb : w.heap[g]? = some o) (hn : ¬ S g) : w'.heap[g]? = some o := (h.block g (blk_lt hb) hn).trans hb
theorem Holds.mod {w W W' : World} {L : List (Nat × Obj)} {S : Nat → Prop} (h : Holds w L W) (hm : Mod S W W') (hs : ∀ k, S k → w.heap.size ≤ k) (hL : ∀ p ∈ L, ¬ S p.1) : Holds w L W' :=
  ⟨fun p hp => hm.blk (h.blk p hp) (hL p hp), hm.below h.bel hs⟩

/-- What a law's walk ends with. -/
def Yes (w : World) (e : Ending) (w' : World) : Prop := e = .returned (.bool true) ∧ Below w.heap.size w w'

end Go.Proofs.Ytedpeambmmhcnaa.Kit

/- A workflow in memory: its bytes, its events, what is open. Conditions: those at each theorem. -/
set_option maxRecDepth 100000
namespace Go.Proofs.Ytedpeambmmhcnaa.Base
open Go.RowKit Go.Maps Go.Proofs.YtedpeambmmhcnaaW.PrintWords Go.Proofs.Ytedpeambmmhcnaa.Kit

theorem u22 : Try.prog.underlying 22 = some (.slice 5) := by kernel_rfl
theorem u5 : Try.prog.underlying 5 = some (.int .u8) := by kernel_rfl
theorem u3 : Try.prog.underlying 3 = some (.int .i64) := by kernel_rfl
theorem u66 : Try.prog.underlying 66 = some (.slice 79) := by kernel_rfl
theorem u28 : Try.prog.underlying 28 = some (.slice 40) := by kernel_rfl
theorem u73 : Try.prog.underlying 73 = some (.map 3 101) := by kernel_rfl
theorem info5 : (Try.prog.info? 5).map (fun i => (i.zero, i.size, i.bytes)) = some (some (.int .u8 0), 1, 1) := by kernel_rfl
theorem info79 : (Try.prog.info? 79).map (fun i => (i.zero, i.size, i.bytes)) = some (some (.agg #[.int .i64 0, .int .i64 0, .int .i64 0, .int .i64 0, .int .i64 0, .int .i64 0, .slice none 0 0]), 7, 72) := by kernel_rfl
theorem info40 : (Try.prog.info? 40).map (fun i => (i.zero, i.size, i.bytes)) = some (some (.agg #[.int .i64 0, .int .i64 0, .int .i64 0, .int .i64 0, .int .i64 0, .int .i64 0, .int .i64 0, .slice none 0 0]), 8, 80) := by kernel_rfl

/-! ### Bytes -/
def Byt (w : World) (v : Value) (bs : List Int) : Prop :=
  bs.length ≤ 140737488351232 ∧ ((v = .slice none 0 0 ∧ bs = []) ∨ ∃ ad cap, v = .slice (some ad) bs.length cap ∧ bs.length ≤ cap ∧ (bs ≠ [] → ∃ b off, ad = ⟨b, off, none⟩ ∧ b < w.heap.size ∧ ∀ i (h : i < bs.length), w.cell? ⟨b, off + i, none⟩ = some (.int .u8 bs[i])))

/-- None of these blocks holds bytes. -/
def NoBytes (w : World) (S : Nat → Prop) : Prop := ∀ k, S k → ∀ i q, w.cell? ⟨k, i, none⟩ ≠ some (.int .u8 q)

theorem Byt.mod {w w' : World} {S : Nat → Prop} {v : Value} {bs : List Int} (h : Byt w v bs) (hm : Mod S w w') (hS : NoBytes w S) : Byt w' v bs := by
  refine ⟨h.1, ?_⟩
  rcases h.2 with h | ⟨ad, cap, hv, hcap, hp⟩
  · exact .inl h
  · refine .inr ⟨ad, cap, hv, hcap, fun hne => ?_⟩
    obtain ⟨b, off, rfl, hb, hc⟩ := hp hne
    refine ⟨b, off, rfl, Nat.lt_of_lt_of_le hb hm.size, fun i hi => ?_⟩
    have hn : ¬ S b := fun hs => hS b hs _ _ (hc i hi)
    rw [World.cell?_of_block (a := ⟨b, off + i, none⟩) (hm.block b hb hn)]
    exact hc i hi

theorem Byt.below {w w' : World} {v : Value} {bs : List Int} (h : Byt w v bs) (hb : Below w.heap.size w w') : Byt w' v bs :=
  h.mod (S := fun _ => False) (Mod.of_below hb) (fun _ hk => hk.elim)

theorem Byt.none (w : World) : Byt w (.slice none 0 0) [] := ⟨by simp, .inl ⟨rfl, rfl⟩⟩

theorem Byt.len {w : World} {v : Value} {bs : List Int} (h : Byt w v bs) : ∃ a cap, v = .slice a bs.length cap := by
  rcases h.2 with ⟨rfl, rfl⟩ | ⟨ad, cap, rfl, _⟩
  · exact ⟨_, _, rfl⟩
  · exact ⟨_, _, rfl⟩

theorem Byt.lenc {w : World} {v : Value} {bs : List Int} (h : Byt w v bs) : ∃ a cap, v = .slice a bs.length cap ∧ bs.length ≤ cap := by
  rcases h.2 with ⟨rfl, rfl⟩ | ⟨ad, cap, rfl, hc, _⟩
  · exact ⟨_, _, rfl, Nat.le_refl _⟩
  · exact ⟨_, _, rfl, hc⟩

theorem Byt.of_row {w : World} {base : Nat} {v : Value} {bs : List Int} (hl : bs.length ≤ 140737488351232) (h : w.ownsRow base 5 1 v bs.length (bs.map (.int .u8))) : Byt w v bs := by
  refine ⟨hl, ?_⟩
  rcases h.2 with ⟨rfl, hn⟩ | ⟨g, cap, cur, rfl, _, hg, hcap, _⟩
  · exact .inl ⟨rfl, List.eq_nil_of_length_eq_zero hn⟩
  · refine .inr ⟨⟨g, 0, Option.none⟩, cap, rfl, hcap, fun _ => ⟨g, 0, rfl, (Array.getElem?_eq_some_iff.1 hg).1, fun i hi => ?_⟩⟩
    have := h.cells (g := g) rfl i (.int .u8 bs[i]) (by simp [hi])
    rw [Addr.add_lit] at this
    exact this

theorem grown_below {w0 w w' : World} {row : Option Nat} (h0 : Below w0.heap.size w0 w) (h : w.grownBy w' row) (hr : ∀ k, row = some k → w0.heap.size ≤ k) : Below w0.heap.size w0 w' :=
  ⟨h.os.trans h0.os, h.tape.trans h0.tape, h.output.trans h0.output, Nat.le_trans h0.size h.size, fun k hk => (h.block k (Nat.lt_of_lt_of_le hk h0.size) (fun e => Nat.lt_irrefl _ (Nat.lt_of_lt_of_le hk (hr k e.symm)))).trans (h0.block k hk)⟩

theorem q22 (w : World) (a : Option Addr) (n c n' c' : Nat) : (binOp .eql 22 (.slice a n c) (.slice none n' c')).run Try.prog w = .ok (.bool a.isNone) w := Lib.run_eql_slice_nil w _ _ a n c n' c' u22

set_option maxHeartbeats 2000000 in
theorem clone_any (w : World) (v : Value) (bs : List Int) (hv : Byt w v bs) :
    Calls Try.prog 72 #[v] w fun e w' => ∃ v', e = .returned v' ∧ Byt w' v' bs ∧ Below w.heap.size w w' := by
  have hq := q22
  obtain ⟨i0, hi, hz0, hz1, hz2⟩ := info_parts info5
  have hlen := hv.1
  rcases hv.2 with ⟨rfl, rfl⟩ | ⟨ad, cap, rfl, _, hp⟩
  · go_enter Try.func72, Try.ntmps72
    go_wp2_with (fail)
    go_ret
    exact ⟨_, rfl, Byt.none _, Below.refl _ _⟩
  · generalize hn : bs.length = n at hlen
    have hC : ∀ j u, (bs.map (Value.int .u8))[j]? = some u → w.cell? (ad.add j) = some u := by
      intro j u hj
      have hlt : j < bs.length := by simpa using (List.getElem?_eq_some_iff.1 hj).1
      obtain ⟨b, off, rfl, hb, hc⟩ := hp (fun e => by rw [e] at hlt; simp at hlt)
      rw [Addr.add_lit, hc j hlt]
      simpa [hlt] using hj
    have hN : (bs.map (Value.int .u8)).length = n := by simp [hn]
    have hB : Hid (∀ w1 v', w1.ownsRow w.heap.size 5 1 v' n (bs.map (Value.int .u8)) → Byt w1 v' bs) := by
      intro w1 v' h
      rw [← hn] at h
      exact Byt.of_row hv.1 h
    clear hp hv
    have hK := Lib.hid hC
    clear hC
    go_enter Try.func72, Try.ntmps72
    go_wp2_with (at_builtin; refine wpList_append_own _ rfl _ _ 22 rfl w.heap.size 5 i0 (.int .u8 0) 1 1 u22 hi hz0 hz1 hz2 rfl (by decide) _ _ _ rfl (World.ownsRow_made w #[] 0 (Nat.le_refl _) (Nat.zero_le _) rfl) ad n cap (bs.map (Value.int .u8)) rfl ?qc1 ?qc2 ?qc3 ?qc4 ?qc5 ?qc6 ?_)
    case qc1 => simpa using hN
    case qc2 =>
      intro j u hj
      exact Lib.cell?_alloc_some _ ((show _ from hK) j u hj)
    case qc3 => intro u hu; obtain ⟨x, _, rfl⟩ := List.mem_map.1 hu; rfl
    case qc4 => unfold maxLen; omega
    case qc5 => omega
    case qc6 => simp
    intro v' w1 hown hgrow hnil
    go_wp2_with (fail)
    go_ret
    refine ⟨v', rfl, (show _ from hB) _ _ (by simpa using hown), grown_below (below_alloc (Below.refl _ _) _) hgrow ?_⟩
    intro k hk
    cases hk
    exact Nat.le_refl _

/-! ### Events -/
structure Ev where
  kind : Int
  time : Int
  ref : Int
  id : Int
  list : Int
  n : Int
  data : List Int

def evCells (e : Ev) (v : Value) : List Value := [.int .i64 e.kind, .int .i64 e.time, .int .i64 e.ref, .int .i64 e.id, .int .i64 e.list, .int .i64 e.n, v]

def rowOf : List Ev → List Value → List Value
  | e :: L, v :: vs => evCells e v ++ rowOf L vs
  | _, _ => []

theorem rowOf_len : ∀ (L : List Ev) (vs : List Value), vs.length = L.length → (rowOf L vs).length = L.length * 7
  | [], [], _ => rfl
  | [], _ :: _, h => by simp at h
  | _ :: _, [], h => by simp at h
  | e :: L, v :: vs, h => by
    have := rowOf_len L vs (by simpa using h)
    simp [rowOf, evCells, this]
    omega

theorem rowOf_at : ∀ (L : List Ev) (vs : List Value) (i j : Nat) (e : Ev) (v : Value), L[i]? = some e → vs[i]? = some v → j < 7 → (rowOf L vs)[i * 7 + j]? = (evCells e v)[j]?
  | [], _, _, _, _, _, h, _, _ => by simp at h
  | _ :: _, [], _, _, _, _, _, h, _ => by simp at h
  | e :: L, v :: vs, 0, j, e', v', h, h', hj => by
    simp at h h'
    subst h h'
    simp only [rowOf, Nat.zero_mul, Nat.zero_add]
    exact List.getElem?_append_left (by simpa [evCells] using hj)
  | e :: L, v :: vs, i + 1, j, e', v', h, h', hj => by
    have := rowOf_at L vs i j e' v' (by simpa using h) (by simpa using h') hj
    simp only [rowOf]
    rw [List.getElem?_append_right (by simp [evCells]; omega), ← this]
    congr 1
    simp [evCells]
    omega

theorem rowOf_snoc (e : Ev) (v : Value) : ∀ (L : List Ev) (vs : List Value), vs.length = L.length → rowOf (L ++ [e]) (vs ++ [v]) = rowOf L vs ++ evCells e v
  | [], [], _ => by simp [rowOf]
  | [], _ :: _, h => by simp at h
  | _ :: _, [], h => by simp at h
  | e' :: L, v' :: vs, h => by
    have := rowOf_snoc e v L vs (by simpa using h)
    simp [rowOf, this]

/-- A slice of events in memory. -/
def EvRow (w : World) (v : Value) (L : List Ev) : Prop :=
  ∃ vs : List Value, vs.length = L.length ∧ w.ownsRow 0 79 7 v L.length (rowOf L vs) ∧ ∀ (i : Nat) (e : Ev) (u : Value), L[i]? = some e → vs[i]? = some u → Byt w u e.data

theorem EvRow.nil (w : World) : EvRow w (.slice none 0 0) [] := ⟨[], rfl, World.ownsRow_nil _ _ _ _, fun i e u h => by simp at h⟩

theorem EvRow.len {w : World} {v : Value} {L : List Ev} (h : EvRow w v L) : ∃ a cap, v = .slice a L.length cap := by
  obtain ⟨vs, _, h, _⟩ := h
  rcases h.2 with ⟨rfl, h0⟩ | ⟨g, cap, cur, rfl, _⟩
  · rw [h0]; exact ⟨_, _, rfl⟩
  · exact ⟨_, _, rfl⟩

/-- One event of a slice. -/
theorem EvRow.get {w : World} {v : Value} {L : List Ev} (h : EvRow w v L) {i : Nat} {e : Ev} (he : L[i]? = some e) :
    ∃ A cap u, v = .slice (some ⟨A, 0, none⟩) L.length cap ∧ Byt w u e.data ∧ ∀ j x, (evCells e u)[j]? = some x → w.cell? ⟨A, i * 7 + j, none⟩ = some x := by
  obtain ⟨vs, hl, h, hb⟩ := h
  have hi : i < L.length := (List.getElem?_eq_some_iff.1 he).1
  have hu : vs[i]? = some (vs[i]'(by omega)) := List.getElem?_eq_getElem (by omega)
  rcases h.2 with ⟨_, h0⟩ | ⟨g, cap, cur, rfl, h1, hg, h2, h3⟩
  · omega
  · refine ⟨g, cap, _, rfl, hb i e _ he hu, fun j x hj => ?_⟩
    have hj7 : j < 7 := by
      have := (List.getElem?_eq_some_iff.1 hj).1
      simpa [evCells] using this
    have := h.cells (g := g) rfl (i * 7 + j) x (by rw [rowOf_at L vs i j e _ he hu hj7, hj])
    rw [Addr.add_lit, Nat.zero_add] at this
    exact this

/-- None of these blocks holds events. -/
def NoEvs (w : World) (S : Nat → Prop) : Prop := ∀ k, S k → ∀ cur, w.heap[k]? ≠ some (.cells cur 79 (0, 0))

theorem EvRow.mod {w w' : World} {S : Nat → Prop} {v : Value} {L : List Ev} (h : EvRow w v L) (hm : Mod S w w') (hS : NoBytes w S) (hE : NoEvs w S) : EvRow w' v L := by
  obtain ⟨vs, hl, h, hb⟩ := h
  refine ⟨vs, hl, ⟨h.1, ?_⟩, fun i e u he hu => (hb i e u he hu).mod hm hS⟩
  rcases h.2 with h0 | ⟨g, cap, cur, hv, h1, hg, hr⟩
  · exact .inl h0
  · exact .inr ⟨g, cap, cur, hv, h1, (hm.block g (Array.getElem?_eq_some_iff.1 hg).1 (fun hs => hE g hs _ hg)).trans hg, hr⟩

theorem EvRow.below {w w' : World} {v : Value} {L : List Ev} (h : EvRow w v L) (hb : Below w.heap.size w w') : EvRow w' v L :=
  h.mod (S := fun _ => False) (Mod.of_below hb) (fun _ hk => hk.elim) (fun _ hk => hk.elim)

/-! ### What is open -/
def W (a : Int) : Prop := (Lit.int .i64 a).wf = true

instance (a : Int) : Decidable (W a) := by unfold W; infer_instance

abbrev Opn := Int × Int × Int

def openOf (x : Opn) : DataW Empty := .agg [.lit (.int .i64 x.1), .lit (.int .i64 x.2.1), .lit (.int .i64 x.2.2)]
def openVal (x : Opn) : Value := .agg #[.int .i64 x.1, .int .i64 x.2.1, .int .i64 x.2.2]

def openElem (v : Value) : Option (DataW Empty × List MemPlace) :=
  match v with
  | .agg cs => match cs.toList with
    | [.int .i64 a, .int .i64 b, .int .i64 c] => if W a ∧ W b ∧ W c then some (openOf (a, b, c), []) else none
    | _ => none
  | _ => none

theorem openElem_mk (x : Opn) (h1 : W x.1) (h2 : W x.2.1) (h3 : W x.2.2) : openElem (openVal x) = some (openOf x, []) := by
  simp [openElem, openVal, h1, h2, h3]

theorem openElem_inv {v : Value} {y : DataW Empty × List MemPlace} (h : openElem v = some y) : ∃ x : Opn, v = openVal x ∧ y = (openOf x, []) ∧ W x.1 ∧ W x.2.1 ∧ W x.2.2 := by
  unfold openElem at h
  split at h
  · rename_i cs
    split at h
    · rename_i a b c hcs
      split at h
      · rename_i hw
        cases h
        have : cs = #[.int .i64 a, .int .i64 b, .int .i64 c] := by
          apply Array.ext'
          simpa using hcs
        exact ⟨(a, b, c), by rw [this]; rfl, rfl, hw⟩
      · cases h
    · cases h
  · cases h

theorem openOf_inj {x y : Opn} (h : openOf x = openOf y) : x = y := by
  obtain ⟨a, b, c⟩ := x
  obtain ⟨a', b', c'⟩ := y
  simp [openOf] at h
  simp [h]

def key (k : Int) : Lit := .int .i64 k

/-- A map as read, as a function. -/
structure View (D : DataW Empty) (o : Int → Option Opn) : Prop where
  out : ∀ k, ¬ W k → o k = none
  none : ∀ k, W k → o k = none → Maps.has D (key k) = false
  some : ∀ k x, o k = some x → Maps.has D (key k) = true ∧ (∀ zd, D.atKey (key k) zd = openOf x) ∧ W x.1 ∧ W x.2.1 ∧ W x.2.2

def Omap (w : World) (M n : Nat) (o : Int → Option Opn) : Prop := ∃ D, w.ownsMap Try.prog 3 openElem M n D ∧ View D o

theorem K3 : Keyed Try.prog 3 := int_keyed u3

theorem key_of (k : Int) (h : W k) : keyOf Try.prog 3 (.int .i64 k) = some (key k) := keyOf_int_mk u3 h

theorem key_ne {a b : Int} (h : a ≠ b) : key a ≠ key b := fun e => h (by simpa [key] using e)

theorem View.empty : View (.map []) (fun _ => Option.none) := ⟨fun _ _ => rfl, fun _ _ _ => rfl, fun _ _ h => by cases h⟩

theorem View.put {D : DataW Empty} {o : Int → Option Opn} (h : View D o) (hD : IsMap D) (k : Int) (x : Opn) (hk : W k) (h1 : W x.1) (h2 : W x.2.1) (h3 : W x.2.2) :
    View (D.put (key k) (openOf x)) (fun j => if j = k then Option.some x else o j) := by
  refine ⟨fun j hj => ?_, fun j hj hn => ?_, fun j y hy => ?_⟩
  · have : j ≠ k := fun e => hj (e ▸ hk)
    simp [this, h.out j hj]
  · by_cases e : j = k
    · simp [e] at hn
    · simp only [e, if_false] at hn
      rw [has_put_other (key_ne e)]
      exact h.none j hj hn
  · by_cases e : j = k
    · simp only [e, if_true] at hy
      cases hy
      subst e
      exact ⟨has_put_same hD (K3.key (key_of j hk)) _, fun zd => atKey_put_same hD (K3.key (key_of j hk)) _ _, h1, h2, h3⟩
    · simp only [e, if_false] at hy
      obtain ⟨a, b, c⟩ := h.some j y hy
      rw [has_put_other (key_ne e)]
      exact ⟨a, fun zd => by rw [atKey_put_other (key_ne e)]; exact b zd, c⟩

theorem View.del {D : DataW Empty} {o : Int → Option Opn} (h : View D o) (k : Int) : View (D.del (key k)) (fun j => if j = k then Option.none else o j) := by
  refine ⟨fun j hj => ?_, fun j hj hn => ?_, fun j y hy => ?_⟩
  · by_cases e : j = k <;> simp [e, h.out j hj]
  · by_cases e : j = k
    · subst e; exact has_del_same
    · simp only [e, if_false] at hn
      rw [has_del_other (key_ne e)]
      exact h.none j hj hn
  · by_cases e : j = k
    · simp [e] at hy
    · simp only [e, if_false] at hy
      obtain ⟨a, b, c⟩ := h.some j y hy
      rw [has_del_other (key_ne e)]
      exact ⟨a, fun zd => by rw [atKey_del_other (key_ne e)]; exact b zd, c⟩

theorem Omap.mod {w w' : World} {S : Nat → Prop} {M n : Nat} {o : Int → Option Opn} (h : Omap w M n o) (hm : Mod S w w') (hS : ¬ S M) : Omap w' M n o := by
  obtain ⟨D, hown, hv⟩ := h
  obtain ⟨es, clock, hb, hr⟩ := hown
  exact ⟨D, ⟨es, clock, (hm.block M (Array.getElem?_eq_some_iff.1 hb).1 hS).trans hb, hr⟩, hv⟩

theorem Omap.blk {w : World} {M n : Nat} {o : Int → Option Opn} (h : Omap w M n o) : ∃ es clock, w.heap[M]? = some (.map es clock) := by
  obtain ⟨D, ⟨es, clock, hb, _⟩, _⟩ := h
  exact ⟨es, clock, hb⟩

theorem Omap.mono {w : World} {M n n' : Nat} {o : Int → Option Opn} (h : Omap w M n o) (hn : n ≤ n') : Omap w M n' o := by
  obtain ⟨D, hown, hv⟩ := h
  exact ⟨D, hown.mono hn, hv⟩

theorem mod_of_grown {w w' : World} {b : Nat} (h : w.grownBy w' (some b)) : Mod (fun k => k = b) w w' :=
  ⟨h.os, h.tape, h.output, h.size, fun k hk hn => h.block k hk (fun e => hn (Option.some.inj e))⟩

theorem mod_of_turned {w w' : World} {b : Nat} (h : w.mapTurned w' b) : Mod (fun k => k = b) w w' := mod_of_grown h.grown

/-! ### A workflow -/
structure St where
  id : Int
  run : Int
  list : Int
  n : Int
  L : List Ev
  task : Int
  time : Int
  begun : Int
  turn : Int
  late : Bool
  asked : Bool
  o : Int → Option Opn

def flowCells (S : St) (lv : Value) (M : Nat) : Array Value :=
  #[.int .i64 S.id, .int .i64 S.run, .int .i64 S.list, .int .i64 S.n, lv, .int .i64 S.task, .int .i64 S.time, .int .i64 S.begun, .int .i64 S.turn, .bool S.late, .bool S.asked, .map (some M)]

structure FlowAt (w : World) (F M : Nat) (lv : Value) (S : St) : Prop where
  blk : w.heap[F]? = some (.cells (flowCells S lv M) 75 (0, 0))
  row : EvRow w lv S.L
  map : Omap w M S.L.length S.o
  few : S.L.length ≤ 8192

/-- The blocks that a workflow's calls may change. -/
def Own (F M : Nat) : Nat → Prop := fun k => k = F ∨ k = M

theorem FlowAt.lv {w : World} {F M : Nat} {lv : Value} {S : St} (h : FlowAt w F M lv S) : ∃ a cap, lv = .slice a S.L.length cap := h.row.len

theorem FlowAt.noBytes {w : World} {F M : Nat} {lv : Value} {S : St} (h : FlowAt w F M lv S) : NoBytes w (Own F M) := by
  intro k hk i q hc
  rcases hk with rfl | rfl
  · obtain ⟨a, cap, rfl⟩ := h.lv
    rw [blk_cell h.blk i] at hc
    unfold flowCells at hc
    rcases i with _|_|_|_|_|_|_|_|_|_|_|_|i <;> simp at hc
  · obtain ⟨es, clock, hb⟩ := h.map.blk
    unfold World.cell? at hc
    rw [hb] at hc
    simp at hc

theorem FlowAt.noEvs {w : World} {F M : Nat} {lv : Value} {S : St} (h : FlowAt w F M lv S) : NoEvs w (Own F M) := by
  intro k hk cur hc
  rcases hk with rfl | rfl
  · rw [h.blk] at hc; simp at hc
  · obtain ⟨es, clock, hb⟩ := h.map.blk
    rw [hb] at hc; simp at hc

theorem FlowAt.ne {w : World} {F M : Nat} {lv : Value} {S : St} (h : FlowAt w F M lv S) : F ≠ M := by
  intro e
  obtain ⟨es, clock, hb⟩ := h.map.blk
  rw [← e, h.blk] at hb
  simp at hb

theorem FlowAt.below {w w' : World} {F M : Nat} {lv : Value} {S : St} (h : FlowAt w F M lv S) (hb : Below w.heap.size w w') : FlowAt w' F M lv S :=
  ⟨blk_below h.blk hb, h.row.below hb, h.map.mod (S := fun _ => False) (Mod.of_below hb) id, h.few⟩

/-- Another workflow's calls leave this one. -/
theorem FlowAt.apart {w w' : World} {F M F' M' : Nat} {lv lv' : Value} {S S' : St} (h : FlowAt w F M lv S) (h' : FlowAt w F' M' lv' S') (hm : Mod (Own F' M') w w') (hF : F ≠ F') (hM : M ≠ M') : FlowAt w' F M lv S := by
  have n1 : ¬ Own F' M' F := by
    rintro (e | e)
    · exact hF e
    · subst e
      obtain ⟨es, clock, hb⟩ := h'.map.blk
      rw [h.blk] at hb
      simp at hb
  have n2 : ¬ Own F' M' M := by
    rintro (e | e)
    · subst e
      obtain ⟨es, clock, hb⟩ := h.map.blk
      rw [h'.blk] at hb
      simp at hb
    · exact hM e
  exact ⟨hm.blk h.blk n1, h.row.mod hm h'.noBytes h'.noEvs, h.map.mod hm n2, h.few⟩

theorem FlowAt.cell {w : World} {F M : Nat} {lv : Value} {S : St} (h : FlowAt w F M lv S) (i : Nat) : w.cell? ⟨F, i, none⟩ = (flowCells S lv M)[i]? := blk_cell h.blk i
theorem FlowAt.cl {w : World} {F M : Nat} {lv : Value} {S : St} (h : FlowAt w F M lv S) : w.cell? ⟨F, 4, none⟩ = some lv := h.cell 4

theorem FlowAt.cells {w : World} {F M : Nat} {lv : Value} {S : St} (h : FlowAt w F M lv S) :
    w.cell? ⟨F, 0, none⟩ = some (.int .i64 S.id) ∧ w.cell? ⟨F, 1, none⟩ = some (.int .i64 S.run) ∧ w.cell? ⟨F, 2, none⟩ = some (.int .i64 S.list) ∧ w.cell? ⟨F, 3, none⟩ = some (.int .i64 S.n) ∧ w.cell? ⟨F, 4, none⟩ = some (lv) ∧ w.cell? ⟨F, 5, none⟩ = some (.int .i64 S.task) ∧ w.cell? ⟨F, 6, none⟩ = some (.int .i64 S.time) ∧ w.cell? ⟨F, 7, none⟩ = some (.int .i64 S.begun) ∧ w.cell? ⟨F, 8, none⟩ = some (.int .i64 S.turn) ∧ w.cell? ⟨F, 9, none⟩ = some (.bool S.late) ∧ w.cell? ⟨F, 10, none⟩ = some (.bool S.asked) ∧ w.cell? ⟨F, 11, none⟩ = some (.map (some M)) :=
  ⟨h.cell 0, h.cell 1, h.cell 2, h.cell 3, h.cell 4, h.cell 5, h.cell 6, h.cell 7, h.cell 8, h.cell 9, h.cell 10, h.cell 11⟩

theorem wrapW (a : Int) (h : -9223372036854775808 ≤ a ∧ a ≤ 9223372036854775807) : IntKind.i64.wrap a = a := by
  simp [IntKind.wrap, IntKind.signed, IntKind.bits]; omega

end Go.Proofs.Ytedpeambmmhcnaa.Base

/- The readers of a workflow: what its status is, whether a call may be. Conditions: those at each theorem. -/
namespace Go.Proofs.Ytedpeambmmhcnaa.Base
open Go.RowKit Go.Maps Go.Proofs.YtedpeambmmhcnaaW.PrintWords Go.Proofs.Ytedpeambmmhcnaa.Kit

def statusKind (k : Int) : Int := if k = 19 then 6 else if k = 20 then 2 else if k = 21 then 3 else if k = 22 then 4 else if k = 23 then 5 else 1

def statusOf (L : List Ev) : Int := match L.getLast? with
  | none => 0
  | some e => statusKind e.kind

theorem last_split (L : List Ev) : L = [] ∨ ∃ k e, L.length = k + 1 ∧ L.getLast? = some e ∧ L[k]? = some e := by
  rcases List.eq_nil_or_concat L with h | ⟨l, e, rfl⟩
  · exact .inl h
  · exact .inr ⟨l.length, e, by simp, by simp, by simp⟩

set_option maxHeartbeats 4000000 in
theorem status_any (w : World) (v : Value) (L : List Ev) (h : EvRow w v L) (hf : L.length ≤ 8192) :
    Calls Try.prog 49 #[v] w fun e w' => e = .returned (.int .i64 (statusOf L)) ∧ Below w.heap.size w w' := by
  rcases last_split L with rfl | ⟨k, e, hk, hl, hg⟩
  · obtain ⟨a, cap, rfl⟩ := h.len
    clear h
    go_enter Try.func49, Try.ntmps49
    go_wp2_with (fail)
    go_ret
    exact ⟨rfl, Below.refl _ _⟩
  · obtain ⟨A, cap, u, rfl, _, hc⟩ := h.get hg
    have c0 : w.cell? ⟨A, k * 7, none⟩ = some (.int .i64 e.kind) := by simpa using hc 0 _ rfl
    have hs : statusOf L = statusKind e.kind := by simp [statusOf, hl]
    rw [hs, hk]
    rw [hk] at hf
    clear hc h hs hl hg hk
    generalize e.kind = q at *
    have hS := Lib.hid (show statusKind q = _ from rfl)
    go_enter Try.func49, Try.ntmps49
    go_wp2_with (fail)
    all_goals (go_ret; refine ⟨?_, Below.refl _ _⟩; simp_all [statusKind])

set_option maxHeartbeats 4000000 in
theorem fstatus (w : World) (F M : Nat) (lv : Value) (S : St) (h : FlowAt w F M lv S) :
    Calls Try.prog 16 #[.pointer (some ⟨F, 0, none⟩)] w fun e w' => e = .returned (.int .i64 (statusOf S.L)) ∧ Below w.heap.size w w' := by
  have c4 := h.cl
  have hr := Lib.hid h.row
  have hf := Lib.hid h.few
  clear h
  go_enter Try.func16, Try.ntmps16
  go_wp2_with (fail)
  refine (status_any _ _ _ hr hf).mono ?_
  rintro e w' ⟨rfl, hb⟩
  go_wp2_with (fail)
  go_ret
  exact ⟨rfl, hb⟩

set_option maxHeartbeats 4000000 in
theorem flen (w : World) (F M : Nat) (lv : Value) (S : St) (h : FlowAt w F M lv S) :
    Calls Try.prog 21 #[.pointer (some ⟨F, 0, none⟩)] w fun e w' => e = .returned (.int .i64 S.L.length) ∧ Below w.heap.size w w' := by
  obtain ⟨a, cap, rfl⟩ := h.lv
  have c4 := h.cl
  clear h
  go_enter Try.func21, Try.ntmps21
  go_wp2_with (fail)
  go_ret
  exact ⟨rfl, Below.refl _ _⟩

/-- May a call be, with bytes of this length, now? -/
def rightOf (L : List Ev) (n now : Int) : Bool :=
  decide (n ≤ 4096) && decide (0 ≤ now) && decide (now ≤ 1099511627776) && (match L.getLast? with | none => true | some e => decide (e.time ≤ now))

set_option maxHeartbeats 8000000 in
theorem right_any (w : World) (F M : Nat) (lv : Value) (S : St) (h : FlowAt w F M lv S) (v : Value) (bs : List Int) (hv : Byt w v bs) (now : Int) :
    Calls Try.prog 37 #[.pointer (some ⟨F, 0, none⟩), v, .int .i64 now] w fun e w' => e = .returned (.bool (rightOf S.L bs.length now)) ∧ Below w.heap.size w w' := by
  obtain ⟨a, cap, rfl⟩ := hv.len
  have hn := hv.1
  have c4 := h.cl
  have hf := h.few
  rcases last_split S.L with hL | ⟨k, e, hk, hl, hg⟩
  · obtain ⟨b, cap', rfl⟩ := h.lv
    have hR : rightOf S.L bs.length now = (decide ((bs.length : Int) ≤ 4096) && decide (0 ≤ now) && decide (now ≤ 1099511627776)) := by simp [rightOf, hL]
    rw [hR]
    rw [hL] at c4
    clear h hR hL hf hv
    generalize bs.length = n at *
    cases h1 : decide ((n : Int) ≤ 4096) <;> cases h2 : decide (0 ≤ now) <;> cases h3 : decide (now ≤ 1099511627776)
    all_goals
      go_enter Try.func37, Try.ntmps37
      go_wp2_with (fail)
      go_quiet (fail)
      go_wp2_with (fail)
      go_ret
      exact ⟨rfl, pw_below_drewN (Below.refl _ _) _⟩
  · obtain ⟨A, cap', u, rfl, _, hc⟩ := h.row.get hg
    have c0 : w.cell? ⟨A, k * 7 + 1, none⟩ = some (.int .i64 e.time) := hc 1 _ rfl
    have hR : rightOf S.L bs.length now = (decide ((bs.length : Int) ≤ 4096) && decide (0 ≤ now) && decide (now ≤ 1099511627776) && decide (e.time ≤ now)) := by simp [rightOf, hl]
    rw [hR]
    rw [hk] at c4 hf
    clear h hR hk hl hg hc hv
    generalize bs.length = n at *
    generalize e.time = q at *
    have hz : ((k : Int) + 1 == 0) = false := by simp; omega
    cases h1 : decide ((n : Int) ≤ 4096) <;> cases h2 : decide (0 ≤ now) <;> cases h3 : decide (now ≤ 1099511627776) <;> cases h4 : decide (q ≤ now)
    all_goals
      go_enter Try.func37, Try.ntmps37
      go_wp2_with (fail)
      go_quiet (fail)
      go_wp2_with (fail)
      go_ret
      exact ⟨rfl, pw_below_drewN (Below.refl _ _) _⟩

end Go.Proofs.Ytedpeambmmhcnaa.Base

/- A workflow's twin, and what a run ended with. Conditions: those at each theorem. -/
namespace Go.Proofs.Ytedpeambmmhcnaa.Base
open Go.RowKit Go.Maps Go.Proofs.YtedpeambmmhcnaaW.PrintWords Go.Proofs.Ytedpeambmmhcnaa.Kit

set_option maxHeartbeats 4000000 in
theorem result_open (w : World) (F M : Nat) (lv : Value) (S : St) (h : FlowAt w F M lv S) (hs : statusOf S.L = 1) :
    Calls Try.prog 27 #[.pointer (some ⟨F, 0, none⟩)] w fun e w' => e = .returned (.slice none 0 0) ∧ Below w.heap.size w w' := by
  have H := Lib.hid h
  clear h
  go_enter Try.func27, Try.ntmps27
  go_wp2_with (fail)
  refine (fstatus _ _ _ _ _ H).mono ?_
  rintro e w' ⟨rfl, hb⟩
  rw [hs]
  go_wp2_with (fail)
  go_ret
  exact ⟨rfl, hb⟩

set_option maxHeartbeats 4000000 in
theorem result_any (w : World) (F M : Nat) (lv : Value) (S : St) (h : FlowAt w F M lv S) (e : Ev) (he : S.L.getLast? = some e) (hs : statusOf S.L ≠ 1) :
    Calls Try.prog 27 #[.pointer (some ⟨F, 0, none⟩)] w fun e' w' => ∃ v, e' = .returned v ∧ Byt w' v e.data ∧ Below w.heap.size w w' := by
  have H := Lib.hid h
  have hf := h.few
  rcases last_split S.L with hL | ⟨k, e', hk, hl, hg⟩
  · simp [hL] at he
  rw [he] at hl
  cases hl
  obtain ⟨A, cap', u, rfl, hu, hc⟩ := h.row.get hg
  rw [hk] at hf
  have hs2 : (statusOf S.L == 1) = false := by simpa using hs
  clear h hs
  go_enter Try.func27, Try.ntmps27
  go_wp2_with (fail)
  refine (fstatus _ _ _ _ _ H).mono ?_
  rintro e1 w1 ⟨rfl, hb⟩
  go_wp2_with (fail)
  have H1 : FlowAt w1 F M _ S := FlowAt.below H hb
  have c4 := H1.cl
  obtain ⟨A', cap2, u', hA, hu', hc'⟩ := H1.row.get hg
  cases hA
  have c6 : w1.cell? ⟨A, k * 7 + 6, none⟩ = some u' := hc' 6 _ rfl
  rw [hk] at c4
  have hu2 := Lib.hid hu'
  have hb1 := Lib.hid hb
  clear H1 hc hc' hu' hb H
  have hw : IntKind.i64.wrap (k : Int) = k := by simp [IntKind.wrap, IntKind.signed, IntKind.bits]; omega
  have hi1 : (k : Int) < (k : Int) + 1 := by omega
  have hi0 : ¬ ((k : Int) < 0) := by omega
  go_still_tail 13, (by kernel_rfl)
  change wpList _ _ _ _ _ w1.drew
  have hu3 : Byt w1.drew u' e.data := hu2
  go_wp2_with (fail)
  refine (clone_any _ _ _ hu3).mono ?_
  rintro e2 w2 ⟨v', rfl, hv', hb2⟩
  go_wp2_with (fail)
  go_ret
  exact ⟨v', rfl, hv', below_step (below_drew hb1) hb2⟩

/-! ### The map's clone, the workflow's twin -/
theorem eqlMapNil (w : World) (p : Option Nat) : (binOp .eql 73 (.map p) (.map none)).run Try.prog w = .ok (.bool p.isNone) w := run_eql_map_nil_sl w 73 _ _ p u73

set_option maxHeartbeats 2000000 in
theorem maps_clone (w : World) (M n : Nat) (o : Int → Option Opn) (h : Omap w M n o) :
    Calls Try.prog 63 #[.map (some M)] w fun e w' => e = .returned (.map (some w.heap.size)) ∧ Omap w' w.heap.size n o ∧ w'.heap.size = w.heap.size + 1 ∧ Below w.heap.size w w' := by
  obtain ⟨D, ⟨es, clock, hb, F, hs, hD⟩, hv⟩ := h
  have hm := Lib.hid (show Omap (w.alloc (.map es clock)) w.heap.size n o from ⟨D, ⟨es, clock, (MapKept.heap_alloc w _).1, F, hs, hD⟩, hv⟩)
  have hq := eqlMapNil
  clear F hs hD hv
  go_enter Try.func63, Try.ntmps63
  go_wp2_with (fail)
  rw [run_callFunc_extern Try.func94 (by kernel_rfl) (by kernel_rfl) (by kernel_rfl) (e := Extern.MapsClone.clone) (by kernel_rfl), run_maps_clone_sl w 73 hb]
  simp only [Result.andThen]
  rw [Oper.upon_value]
  go_wp2_with (fail)
  rw [run_typeAssert_map_sl _ 73 20 _ _ _ u73]
  simp only [Result.andThen]
  rw [Oper.upon_value]
  go_wp2_with (fail)
  go_ret
  exact ⟨rfl, hm, by simp, below_alloc (Below.refl _ _) _⟩

set_option maxHeartbeats 4000000 in
theorem twin_any (w : World) (F M : Nat) (lv : Value) (S : St) (h : FlowAt w F M lv S) :
    Calls Try.prog 22 #[.pointer (some ⟨F, 0, none⟩)] w fun e w' => ∃ X M', e = .returned (.pointer (some ⟨X, 0, none⟩)) ∧ w.heap.size ≤ X ∧ w.heap.size ≤ M' ∧ FlowAt w' X M' lv S ∧ Below w.heap.size w w' := by
  obtain ⟨a, cap, rfl⟩ := h.lv
  have H := Lib.hid h
  have hu := Try.underlying75
  obtain ⟨c0, c1, c2, c3, c4, c5, c6, c7, c8, c9, c10, c11⟩ := h.cells
  have c11' : ∀ o, (w.alloc o).cell? ⟨F, 11, none⟩ = some (.map (some M)) := fun o => Lib.cell?_alloc_some _ c11
  have hmap := Lib.hid h.map
  have hrow := Lib.hid h.row
  have hfew := Lib.hid h.few
  clear h
  have kb := Lib.hid (blk_new w (.cells (flowCells S (.slice a S.L.length cap) M) 75))
  have hB := Lib.hid (below_alloc (Below.refl w.heap.size w) (.cells (flowCells S (.slice a S.L.length cap) M) 75))
  go_enter Try.func22, Try.ntmps22
  go_wp2_with (fail)
  have hm : Omap (w.alloc (.cells (flowCells S (.slice a S.L.length cap) M) 75)) M S.L.length S.o := Omap.mod (S := fun _ => False) hmap (Mod.of_below hB) id
  refine (maps_clone (w.alloc (.cells (flowCells S (.slice a S.L.length cap) M) 75)) M _ _ hm).mono ?_
  rintro e w1 ⟨rfl, hm1, _, hb1⟩
  have hM : w.heap.size < (w.alloc (.cells (flowCells S (.slice a S.L.length cap) M) 75)).heap.size := by simp
  have hb2 := Lib.hid (below_step hB hb1)
  have kx := blk_below (show _ from kb) hb1
  have hm2 := Lib.hid hm1
  clear hm hm1 c0 c1 c2 c3 c4 c5 c6 c7 c8 c9 c10 c11 c11' hB kb hb1
  generalize (w.alloc (.cells (flowCells S (.slice a S.L.length cap) M) 75)).heap.size = M' at *
  have hM := Lib.hid hM
  generalize hX : w.heap.size = X at *
  have hX := Lib.hid hX
  have x11 : w1.cell? ⟨X, 11, none⟩ = some (.map (some M)) := blk_cell kx 11
  have f11 := blk_frozen kx 11
  have kx := Lib.hid kx
  go_wp2_with (fail)
  go_ret
  obtain rfl : w.heap.size = X := hX
  have hb3 : Below w.heap.size w (w1.setCell ⟨w.heap.size, 11, none⟩ (.map (some M'))) := below_set (show _ from hb2) (Nat.le_refl _)
  have hMM : Mod (fun k => k = w.heap.size) w1 (w1.setCell ⟨w.heap.size, 11, none⟩ (.map (some M'))) := Mod.set (S := fun k => k = w.heap.size) (Mod.refl _ _) rfl _ _
  exact ⟨w.heap.size, M', rfl, Nat.le_refl _, Nat.le_of_lt hM, ⟨blk_set (show _ from kx) 11 (.map (some M')), EvRow.below hrow hb3, Omap.mod hm2 hMM (Nat.ne_of_gt hM), hfew⟩, hb3⟩

end Go.Proofs.Ytedpeambmmhcnaa.Base

/- A list of decisions in memory, and what the decisions of a list do one behind the other. Conditions: those at each theorem. -/
import Derived.Test.YtedpeambmmhcnaaOuts
import Derived.Test.YtedpeambmmhcnaaFaulty
import Derived.Test.YtedpeambmmhcnaaTry
set_option maxRecDepth 100000
namespace Go.Proofs.Ytedpeambmmhcnaa.Base
open Go.RowKit Go.Maps Go.Proofs.YtedpeambmmhcnaaW.PrintWords Go.Proofs.Ytedpeambmmhcnaa.Kit

structure Dec where
  kind : Int
  id : Int
  list : Int
  n : Int
  data : List Int

def decCells (d : Dec) (u : Value) : List Value := [.int .i64 d.kind, .int .i64 d.id, .int .i64 d.list, .int .i64 d.n, u]

/-- A slice of decisions whose block lies ahead of N. -/
def Decs (N : Nat) (w : World) (v : Value) (ds : List Dec) : Prop :=
  (v = .slice none 0 0 ∧ ds = []) ∨ ∃ A off cap, v = .slice (some ⟨A, off, none⟩) ds.length cap ∧ (ds ≠ [] → A < N) ∧ ∀ i d, ds[i]? = some d → ∃ u, Byt w u d.data ∧ ∀ j x, (decCells d u)[j]? = some x → w.cell? ⟨A, off + i * 5 + j, none⟩ = some x

theorem Decs.nil (N : Nat) (w : World) : Decs N w (.slice none 0 0) [] := .inl ⟨rfl, rfl⟩

theorem Decs.mod {N : Nat} {w w' : World} {S : Nat → Prop} {v : Value} {ds : List Dec} (h : Decs N w v ds) (hm : Mod S w w') (hS : NoBytes w S) (hN : N ≤ w.heap.size) (hk : ∀ k, S k → N ≤ k) : Decs N w' v ds := by
  rcases h with h | ⟨A, off, cap, hv, hA, hc⟩
  · exact .inl h
  · refine .inr ⟨A, off, cap, hv, hA, fun i d hd => ?_⟩
    obtain ⟨u, hu, hx⟩ := hc i d hd
    have hAN : A < N := hA (fun e => by rw [e] at hd; simp at hd)
    refine ⟨u, hu.mod hm hS, fun j x hj => ?_⟩
    rw [World.cell?_of_block (a := ⟨A, off + i * 5 + j, none⟩) (w := w) (hm.block A (by omega) (fun hs => by have := hk A hs; omega))]
    exact hx j x hj

theorem Decs.below {N : Nat} {w w' : World} {v : Value} {ds : List Dec} (h : Decs N w v ds) (hb : Below w.heap.size w w') (hN : N ≤ w.heap.size) : Decs N w' v ds :=
  h.mod (S := fun _ => False) (Mod.of_below hb) (fun _ hk => hk.elim) hN (fun _ hk => hk.elim)

theorem Decs.len {N : Nat} {w : World} {v : Value} {ds : List Dec} (h : Decs N w v ds) : ∃ a cap, v = .slice a ds.length cap := by
  rcases h with ⟨rfl, rfl⟩ | ⟨A, off, cap, hv, _⟩
  · exact ⟨_, _, rfl⟩
  · exact ⟨_, _, hv⟩

theorem Decs.get {N : Nat} {w : World} {v : Value} {ds : List Dec} (h : Decs N w v ds) {i : Nat} {d : Dec} (hd : ds[i]? = some d) :
    ∃ A off cap u, v = .slice (some ⟨A, off, none⟩) ds.length cap ∧ Byt w u d.data ∧ w.cell? ⟨A, off + i * 5, none⟩ = some (.int .i64 d.kind) ∧ w.cell? ⟨A, off + i * 5 + 1, none⟩ = some (.int .i64 d.id) ∧ w.cell? ⟨A, off + i * 5 + 2, none⟩ = some (.int .i64 d.list) ∧
      w.cell? ⟨A, off + i * 5 + 3, none⟩ = some (.int .i64 d.n) ∧ w.cell? ⟨A, off + i * 5 + 4, none⟩ = some u := by
  rcases h with ⟨_, rfl⟩ | ⟨A, off, cap, hv, _, hc⟩
  · simp at hd
  · obtain ⟨u, hu, hx⟩ := hc i d hd
    exact ⟨A, off, cap, u, hv, hu, hx 0 _ rfl, hx 1 _ rfl, hx 2 _ rfl, hx 3 _ rfl, hx 4 _ rfl⟩

/-- Whether these decisions may not be, of this run. -/
def BadIs (N : Nat) (S : St) (ds : List Dec) (b : Bool) : Prop :=
  ∀ w F M lv v, FlowAt w F M lv S → Decs N w v ds → N ≤ w.heap.size → Calls Try.prog 46 #[.pointer (some ⟨F, 0, none⟩), v] w fun e w' => e = .returned (.bool b) ∧ Below w.heap.size w w'

/-- What a decision does to a run. -/
def DoneIs (now : Int) (S : St) (d : Dec) (r : St × List OutE) : Prop :=
  ∀ w F M lv v, FlowAt w F M lv S → Byt w v d.data → Calls Try.prog 48 #[.pointer (some ⟨F, 0, none⟩), .agg #[.int .i64 d.kind, .int .i64 d.id, .int .i64 d.list, .int .i64 d.n, v], .int .i64 now] w fun e w' =>
    ∃ lv' v', e = .returned v' ∧ OutRow w' v' r.2 ∧ FlowAt w' F M lv' r.1 ∧ Mod (Own F M) w w'

def runDs (dn : St → Dec → St × List OutE) : St → List Dec → St × List OutE
  | S, [] => (S, [])
  | S, d :: ds => ((runDs dn (dn S d).1 ds).1, (dn S d).2 ++ (runDs dn (dn S d).1 ds).2)

theorem runDs_snoc (dn : St → Dec → St × List OutE) (d : Dec) : ∀ (ds : List Dec) (S : St), runDs dn S (ds ++ [d]) = ((dn (runDs dn S ds).1 d).1, (runDs dn S ds).2 ++ (dn (runDs dn S ds).1 d).2)
  | [], S => by simp [runDs]
  | x :: ds, S => by
    have := runDs_snoc dn d ds (dn S x).1
    simp [runDs, this]

theorem runDs_step (dn : St → Dec → St × List OutE) (S : St) (ds : List Dec) {k : Nat} {d : Dec} (hd : ds[k]? = some d) : runDs dn S (ds.take (k + 1)) = ((dn (runDs dn S (ds.take k)).1 d).1, (runDs dn S (ds.take k)).2 ++ (dn (runDs dn S (ds.take k)).1 d).2) := by
  rw [List.take_add_one, hd]
  exact runDs_snoc dn d _ S

/-- A run when its decisions are taken, ahead of what they do. -/
def decided1 (S : St) (now : Int) : St := { S with L := S.L ++ [⟨4, now, S.begun, 0, 0, 0, []⟩], task := 0, turn := 0 }

/-- Do decisions come too late? -/
def lateBad (S : St) (ds : List Dec) : Bool := S.late && (match ds.getLast? with | none => false | some d => decide (5 ≤ d.kind))

end Go.Proofs.Ytedpeambmmhcnaa.Base

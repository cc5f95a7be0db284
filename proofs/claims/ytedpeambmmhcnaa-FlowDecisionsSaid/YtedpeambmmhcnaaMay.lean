/- May, over my own words. Conditions: those at each theorem. -/
import Derived.Test.YtedpeambmmhcnaaBase
import Derived.Test.YtedpeambmmhcnaaPFlowDecisionsx2
set_option maxRecDepth 100000
namespace Go.Proofs.Ytedpeambmmhcnaa.Base
open Go.RowKit Go.Maps Go.Proofs.YtedpeambmmhcnaaW.PrintWords Go.Proofs.Ytedpeambmmhcnaa.Kit

theorem kdC_of_byt {w : World} {a : Option Addr} {cap : Nat} {bs : List Int} (h : Byt w (.slice a bs.length cap) bs) : Kd.C (Kd.int .u8) w a bs.length bs := by
  refine ⟨rfl, by have := h.1; omega, fun h0 => ?_⟩
  rcases h.2 with ⟨_, rfl⟩ | ⟨ad, c, hv, _, hp⟩
  · simp at h0
  · simp only [Value.slice.injEq] at hv
    obtain ⟨rfl, _, _⟩ := hv
    obtain ⟨b, off, rfl, _, hc⟩ := hp (fun e => by subst e; simp at h0)
    refine ⟨_, rfl, fun j p hp => ⟨[.int .u8 p], rfl, rfl, fun i u hu => ?_⟩⟩
    obtain ⟨hj, hp⟩ := List.getElem?_eq_some_iff.1 hp
    rcases i with _ | i
    · simp at hu
      subst hu
      rw [Addr.add_lit]
      have := hc j hj
      rw [hp] at this
      simpa [Kd.int, Kd.scalar] using this
    · simp at hu

end Go.Proofs.Ytedpeambmmhcnaa.Base

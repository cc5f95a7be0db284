/- A workflow that completes: known returns true. Conditions: none. -/
import Derived.Test.YtedpeambmmhcnaaOneDec
import Derived.Test.YtedpeambmmhcnaaNew
import Derived.Lib.SmallJoins
set_option maxRecDepth 100000
namespace Go.Proofs.Ytedpeambmmhcnaa.Base
open Go.RowKit Go.Maps Go.Proofs.YtedpeambmmhcnaaW.PrintWords Go.Proofs.Ytedpeambmmhcnaa.Kit Go.Proofs.Ytedpeambmmhcnaa.MayLaw

theorem byt_made {w : World} {g : Nat} {bs : List Int} {fr : Nat × Nat} (hl : bs.length ≤ 140737488351232) (hg : w.heap[g]? = some (.cells (bs.map (.int .u8)).toArray 5 fr)) : Byt w (.slice (some ⟨g, 0, none⟩) bs.length bs.length) bs := by
  refine ⟨hl, .inr ⟨⟨g, 0, none⟩, _, rfl, Nat.le_refl _, fun _ => ⟨g, 0, rfl, (Array.getElem?_eq_some_iff.1 hg).1, fun i hi => ?_⟩⟩⟩
  simp [World.cell?, hg, hi]

theorem decs_made {w : World} {g : Nat} {d : Dec} {u : Value} (hg : w.heap[g]? = some (.cells (decCells d u).toArray 24 (0, 0))) (hu : Byt w u d.data) : Decs w.heap.size w (.slice (some ⟨g, 0, none⟩) 1 1) [d] := by
  refine .inr ⟨g, 0, 1, rfl, fun _ => blk_lt hg, fun i d' hd => ?_⟩
  rcases i with _ | i
  · simp at hd
    subst hd
    refine ⟨u, hu, fun j x hj => ?_⟩
    simp only [Nat.zero_mul, Nat.zero_add]
    rw [blk_cell hg]
    simpa using hj
  · simp at hd

theorem sz_alloc (w : World) (o : Obj) : (w.alloc o).heap.size = w.heap.size + 1 := by simp

theorem str_empty (w : World) (ad : Addr) (cap : Nat) : (convert 22 9 (.slice (some ad) 0 cap)).run Try.prog w = .ok (.string (strOfNums [])) w := by
  rw [run_convert_bytes_string w 22 9 5 (some ad) 0 cap u22 u5 (by kernel_rfl), run_bytesToString w ad 0 cap [] (by simp [loadCells, loadCellsFrom])]
  rfl

theorem Byt.str {w : World} {v : Value} {bs : List Int} (h : Byt w v bs) : (convert 22 9 v).run Try.prog w = .ok (.string (strOfNums bs)) w := by
  rcases h.2 with ⟨rfl, rfl⟩ | ⟨ad, cap, rfl, _, hp⟩
  · exact run_convert_bytes_nil w 22 5 u22 u5 0 0 9 (by kernel_rfl)
  · by_cases hne : bs = []
    · subst hne
      exact str_empty w ad cap
    · obtain ⟨b, off, rfl, _, hc⟩ := hp hne
      exact run_convert_bytes_arg w 22 5 u22 u5 b off bs.length cap bs rfl (fun i hi => by rw [hc i hi]; simp [List.getD, hi]) 9 (by kernel_rfl)

def s2 : St := newSt 1 1 2 10 [105, 110] 0
def s3 : St := decided0 s2 2 1
def s4 : St := closed (decided1 s3 3) 20 3 [111, 117, 116]

set_option maxHeartbeats 8000000 in
theorem known_ok (w : World) : Calls Try.prog 8 #[] w fun e w' => e = .returned (.bool true) ∧ Below w.heap.size w w' := by
  have hcv := Lib.run_convert_bytes_const (P := Try.prog) w 22 5 #[.int .u8 105, .int .u8 110] 2 2 u22 u5
  have hB0 := Lib.hid (below_alloc (Below.refl w.heap.size w) (.cells #[.int .u8 105, .int .u8 110] 5 (2, 3)))
  have hv0 := Lib.hid (byt_made (w := w.alloc (.cells #[.int .u8 105, .int .u8 110] 5 (2, 3))) (g := w.heap.size) (bs := [105, 110]) (by decide) (heap_alloc_new w _))
  go_enter Try.func8, Try.ntmps8
  go_wp2_with (fail)
  refine (new_ok _ 1 1 2 10 _ [105, 110] hv0.out 0 rfl rfl rfl rfl rfl).mono ?_
  rintro e w1 ⟨F, M, lv, v1, rfl, hF, hM, ho, H, hb⟩
  obtain ⟨A, cap, u, rfl, _, hc⟩ := ho.head
  have x0 : w1.cell? ⟨A, 0, none⟩ = some (.int .i64 1) := hc 0 _ rfl
  have x2 : w1.cell? ⟨A, 2, none⟩ = some (.int .i64 2) := hc 2 _ rfl
  have H := Lib.hid (show FlowAt w1 F M lv s2 from H)
  have hF := Lib.hid hF
  have hM := Lib.hid hM
  have hb := Lib.hid (below_step hB0.out hb)
  clear ho hc hB0 hv0 hcv
  go_wp2_with (fail)
  refine (decides_ok w1 F M lv s2 H (by decide) 2 0 1 rfl rfl rfl rfl).mono ?_
  rintro e w2 ⟨M2, lv2, v2, rfl, _, H2, hm2, hM2⟩
  have H2 := Lib.hid (show FlowAt w2 F M2 lv2 s3 from H2)
  have hcv := Lib.run_convert_bytes_const (P := Try.prog) w2 22 5 #[.int .u8 111, .int .u8 117, .int .u8 116] 3 3 u22 u5
  have hB3 := below_alloc (below_alloc (Below.refl w2.heap.size w2) (.cells #[.int .u8 111, .int .u8 117, .int .u8 116] 5 (3, 4))) (.cells #[.int .i64 5, .int .i64 0, .int .i64 0, .int .i64 0, .slice (some ⟨w2.heap.size, 0, none⟩) 3 3] 24)
  have hv3 := byt_made (w := w2.alloc (.cells #[.int .u8 111, .int .u8 117, .int .u8 116] 5 (3, 4))) (g := w2.heap.size) (bs := [111, 117, 116]) (by decide) (heap_alloc_new w2 _)
  have hk3 := heap_alloc_new (w2.alloc (.cells #[.int .u8 111, .int .u8 117, .int .u8 116] 5 (3, 4))) (.cells #[.int .i64 5, .int .i64 0, .int .i64 0, .int .i64 0, .slice (some ⟨w2.heap.size, 0, none⟩) 3 3] 24)
  rw [sz_alloc] at hk3
  have hd3 := decs_made (d := ⟨5, 0, 0, 0, [111, 117, 116]⟩) (u := .slice (some ⟨w2.heap.size, 0, none⟩) 3 3) hk3 (hv3.below (below_alloc (Below.refl _ _) _))
  have hd3 := Lib.hid hd3
  have H3 := Lib.hid (FlowAt.below H2 hB3)
  have hB3 := Lib.hid hB3
  have hm2 := Lib.hid hm2
  clear hv3 hk3
  go_wp2_with (fail)
  refine (decide_one_ok _ F M2 lv2 s3 H3 (by decide) rfl 2 0 3 rfl rfl rfl rfl rfl ⟨5, 0, 0, 0, [111, 117, 116]⟩ _ hd3.out (.inl rfl) (by decide) rfl).mono ?_
  rintro e w5 ⟨M5, lv5, v5, rfl, ho5, H5, hm5, hM5⟩
  obtain ⟨A5, cap5, u5, rfl, _, hc5⟩ := ho5.head
  have y0 : w5.cell? ⟨A5, 0, none⟩ = some (.int .i64 7) := hc5 0 _ rfl
  have H5 := Lib.hid (show FlowAt w5 F M5 lv5 s4 from H5)
  have hlast : s4.L.getLast? = some ⟨20, 3, 0, 0, 0, 0, [111, 117, 116]⟩ := rfl
  have hst : statusOf s4.L = 2 := rfl
  have hln : s4.L.length = 5 := rfl
  have hst := Lib.hid hst
  have hln := Lib.hid hln
  have hlast := Lib.hid hlast
  have hF2 : w.heap.size ≤ F := by have h := hF.out; rw [sz_alloc] at h; omega
  have hM1 : w.heap.size ≤ M := by have h := hM.out; rw [sz_alloc] at h; omega
  have hb2 : Below w.heap.size w w2 := Mod.below hm2.out hb.out (own_ge hF2 hM1)
  have hM2 : w.heap.size ≤ M2 := by
    rcases hM2 with rfl | h
    · exact hM1
    · exact Nat.le_trans hb.out.size h
  have hb5 := Lib.hid (Mod.below hm5 (below_step hb2 hB3.out) (own_ge hF2 hM2))
  clear hm5 hM5 hb2 hM2 hM1 hF2 hc5 ho5 x0 x2 hcv
  go_wp2_with (fail)
  refine (fstatus w5 F M5 lv5 s4 H5).mono ?_
  rintro e w6 ⟨rfl, hb6⟩
  rw [hst.out]
  have H6 := Lib.hid (FlowAt.below H5 hb6)
  have hb6 := Lib.hid (below_step hb5.out hb6)
  go_wp2_with (fail)
  refine (result_any w6 F M5 lv5 s4 H6 _ hlast.out (by rw [hst.out]; decide)).mono ?_
  rintro e w7 ⟨v7, rfl, hv7, hb7⟩
  obtain ⟨a7, cap7, rfl⟩ := hv7.len
  have hsn : strOfNums [111, 117, 116] = { data := #[111, 117, 116] } := by decide
  have hstr : (convert 22 9 (.slice a7 3 cap7)).run Try.prog w7 = .ok (.string { data := #[111, 117, 116] }) w7 := by
    rw [← hsn]
    exact hv7.str
  clear hsn
  have hv7 := Lib.hid hv7
  have H7 := Lib.hid (FlowAt.below H6 hb7)
  have hb7 := Lib.hid (below_step hb6.out hb7)
  go_wp2_with (fail)
  refine (flen w7 F M5 lv5 s4 H7).mono ?_
  rintro e w8 ⟨rfl, hb8⟩
  rw [hln.out]
  have hb8 := Lib.hid (below_step hb7.out hb8)
  go_wp2_with (fail)
  go_ret
  exact ⟨rfl, hb8⟩

end Go.Proofs.Ytedpeambmmhcnaa.Base

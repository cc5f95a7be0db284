/- The law FlowLate by a walk: for every number of signals, asked or not, every kind it returns true, and nothing that was there is changed. Conditions: none. -/
import Derived.Test.YtedpeambmmhcnaaKnown
import Derived.Test.YtedpeambmmhcnaaSignal
set_option maxRecDepth 100000
namespace Go.Proofs.Ytedpeambmmhcnaa.Late
open Go.RowKit Go.Maps Go.Proofs.YtedpeambmmhcnaaW.PrintWords Go.Proofs.Ytedpeambmmhcnaa.Kit Go.Proofs.Ytedpeambmmhcnaa.Base Go.Proofs.Ytedpeambmmhcnaa.MayLaw

/-- A run whose task has begun, with some events behind that. -/
structure Ls (S : St) (i : Nat) (a : Bool) : Prop where
  len : S.L.length = 3 + i
  st : statusOf S.L = 1
  task : S.task = 2
  time : S.time = 2
  turn : S.turn = 0
  o : S.o = fun _ => none
  late : S.late = decide (0 < i)
  asked : S.asked = a
  right : ∀ k t : Int, k ≤ 4096 → 1 ≤ t → t ≤ 1099511627776 → rightOf S.L k t = true

theorem right_of {L : List Ev} {e : Ev} (he : L.getLast? = some e) (ht : e.time ≤ 1) : ∀ k t : Int, k ≤ 4096 → 1 ≤ t → t ≤ 1099511627776 → rightOf L k t = true := by
  intro k t h1 h2 h3
  have h4 : 0 ≤ t := by omega
  have h5 : e.time ≤ t := by omega
  simp [rightOf, he, h1, h3, h4, h5]

def s0 : St := newSt 3 1 0 7 [] 0
def s1 : St := decided0 s0 2 0

theorem ls_start : Ls s1 0 false := ⟨rfl, rfl, rfl, rfl, rfl, rfl, rfl, rfl, right_of (e := ⟨3, 0, 2, 0, 0, 0, []⟩) rfl (by decide)⟩

theorem ls_told {S : St} {i : Nat} {a : Bool} (h : Ls S i a) (bs : List Int) : Ls (woken (told S 1 bs) 1) (i + 1) a ∧ wakeOut (told S 1 bs) = [] := by
  have ht : (told S 1 bs).task = 2 := h.task
  have hw : woken (told S 1 bs) 1 = told S 1 bs := by simp [woken, ht]
  have hl : (told S 1 bs).L.getLast? = some ⟨15, 1, 0, 0, 0, 0, bs⟩ := by simp [told]
  rw [hw]
  refine ⟨⟨by simp [told, h.len]; omega, by simp [statusOf, hl, statusKind], ht, h.time, h.turn, h.o, by simp [told, h.task], h.asked, right_of hl (by simp)⟩, by simp [wakeOut, ht]⟩

theorem ls_asked {S : St} {i : Nat} {a : Bool} (h : Ls S i a) : Ls (woken (asked1 S 1) 1) (i + 1) true ∧ wakeOut (asked1 S 1) = [] := by
  have ht : (asked1 S 1).task = 2 := h.task
  have hw : woken (asked1 S 1) 1 = asked1 S 1 := by simp [woken, ht]
  have hl : (asked1 S 1).L.getLast? = some ⟨16, 1, 0, 0, 0, 0, []⟩ := by simp [asked1]
  rw [hw]
  refine ⟨⟨by simp [asked1, h.len]; omega, by simp [statusOf, hl, statusKind], ht, h.time, h.turn, by funext j; simp [asked1, h.o], by simp [asked1, h.task], rfl, right_of hl (by decide)⟩, by simp [wakeOut, ht]⟩

/-- A run that is scheduled anew. -/
structure Fs (S : St) (n : Nat) (r : Int) (a : Bool) : Prop where
  len : S.L.length = n
  st : statusOf S.L = 1
  task : S.task = 1
  time : S.time = r
  turn : S.turn = 1
  o : S.o = fun _ => none
  asked : S.asked = a
  right : ∀ k t : Int, k ≤ 4096 → 2 ≤ t → t ≤ 1099511627776 → rightOf S.L k t = true

theorem right_of2 {L : List Ev} {e : Ev} (he : L.getLast? = some e) (b : Int) (h0 : 0 ≤ b) (ht : e.time ≤ b) : ∀ k t : Int, k ≤ 4096 → b ≤ t → t ≤ 1099511627776 → rightOf L k t = true := by
  intro k t h1 h2 h3
  have h4 : 0 ≤ t := by omega
  have h5 : e.time ≤ t := by omega
  simp [rightOf, he, h1, h3, h4, h5]

theorem fs_of {S : St} {i : Nat} {a : Bool} (h : Ls S i a) : Fs (sched (fault1 S 2 2) 2) (5 + i) ((5 + i : Nat) : Int) a ∧ taskOut (fault1 S 2 2) = ⟨1, S.list, ((5 + i : Nat) : Int), 1, 0, 0, 0, []⟩ := by
  have hl : (sched (fault1 S 2 2) 2).L.getLast? = some ⟨2, 2, 0, 0, S.list, wrap64 (S.turn + 1), []⟩ := by simp [sched, fault1]
  have ht : wrap64 (S.turn + 1) = 1 := by rw [h.turn]; unfold wrap64; omega
  refine ⟨⟨by simp [sched, fault1, h.len]; omega, by simp [statusOf, hl, statusKind], rfl, by simp [sched, fault1, h.len]; omega, ht, h.o, h.asked, right_of2 hl 2 (by decide) (by simp)⟩, ?_⟩
  simp [taskOut, fault1, h.len, ht]
  omega

theorem bad1_ok (S : St) {kd : Int} (hk : kd = 5 ∨ kd = 6 ∨ kd = 7 ∨ kd = 8) (h : S.asked = true ∨ kd ≠ 7) : bad1 S kd 0 0 0 0 = false := by
  unfold bad1
  rcases hk with rfl | rfl | rfl | rfl
  · rfl
  · rfl
  · rcases h with h | h
    · rw [h]; rfl
    · exact absurd rfl h
  · rfl

theorem doneK_of {kd : Int} (hk : kd = 5 ∨ kd = 6 ∨ kd = 7 ∨ kd = 8) (S : St) (now : Int) : (statusOf (closed (decided1 S now) (doneK kd) now []).L == 1) = false := by
  have : statusOf (closed (decided1 S now) (doneK kd) now []).L = statusKind (doneK kd) := by simp [statusOf, closed]
  rw [this]
  rcases hk with rfl | rfl | rfl | rfl <;> rfl

theorem row1 {w : World} {v : Value} {o : OutE} (h : OutRow w v [o]) : ∃ A cap, v = .slice (some ⟨A, 0, none⟩) 1 cap ∧ w.cell? ⟨A, 0, none⟩ = some (.int .i64 o.kind) ∧ w.cell? ⟨A, 2, none⟩ = some (.int .i64 o.ref) ∧ w.cell? ⟨A, 3, none⟩ = some (.int .i64 o.turn) := by
  obtain ⟨A, cap, u, rfl, _, hc⟩ := h.head
  exact ⟨A, cap, rfl, hc 0 _ rfl, hc 2 _ rfl, hc 3 _ rfl⟩

theorem row1_at {w : World} {A cap : Nat} {o : OutE} (h : OutRow w (.slice (some ⟨A, 0, none⟩) 1 cap) [o]) : w.cell? ⟨A, 0, none⟩ = some (.int .i64 o.kind) ∧ w.cell? ⟨A, 2, none⟩ = some (.int .i64 o.ref) ∧ w.cell? ⟨A, 3, none⟩ = some (.int .i64 o.turn) := by
  obtain ⟨A', cap', hv, h⟩ := row1 h
  simp only [Value.slice.injEq, Option.some.injEq, Addr.mk.injEq, and_true] at hv
  obtain ⟨rfl, _⟩ := hv
  exact h

theorem i64_and3 (n : Int) : bits .and .i64 n 3 = n % 4 := by
  have h3 : (BitVec.ofInt 64 3).toNat = 2 ^ 2 - 1 := by decide
  show IntKind.i64.wrap ((BitVec.ofInt 64 n &&& BitVec.ofInt 64 3).toNat : Nat) = n % 4
  rw [BitVec.toNat_and, h3, Nat.and_two_pow_sub_one_eq_mod, BitVec.toNat_ofInt, IntKind.wrap_i64]
  omega

theorem kind_of (ki : Int) : ∃ kd, wrap64 (5 + bits .and .i64 ki 3) = kd ∧ (kd = 5 ∨ kd = 6 ∨ kd = 7 ∨ kd = 8) := by
  refine ⟨_, rfl, ?_⟩
  rw [i64_and3]
  have h : wrap64 (5 + ki % 4) = 5 + ki % 4 := by unfold wrap64; omega
  rw [h]
  omega

set_option maxHeartbeats 16000000 in
theorem all (si : Int) (asked : Bool) (ki : Int) (w : World) : Calls Try.prog 4 #[.int .i64 si, .bool asked, .int .i64 ki] w (Yes w) := by
  go_enter Try.func4, Try.ntmps4
  go_wp2_with (fail)
  refine (known_ok _).mono ?_
  rintro e w1 ⟨rfl, hb1⟩
  have hb1 := Lib.hid hb1
  by_cases h0 : si < 0
  · go_wp2_with (fail)
    go_ret
    exact ⟨rfl, hb1⟩
  · by_cases h30 : 30 < si
    · go_wp2_with (fail)
      go_ret
      exact ⟨rfl, hb1⟩
    · obtain ⟨n, rfl⟩ : ∃ n : Nat, si = n := ⟨si.toNat, by omega⟩
      have hn : n ≤ 30 := by omega
      clear h0 h30
      obtain ⟨kd, hkd, hk⟩ := kind_of ki
      have hk := Lib.hid hk
      have hkd := Lib.hid hkd
      go_wp2_with (fail)
      rw [hkd.out]
      clear hkd
      generalize bits BinOp.and IntKind.i64 ki 3 = kb
      refine (new_ok w1 3 1 0 7 _ [] (Byt.none _) 0 rfl rfl rfl rfl rfl).mono ?_
      rintro e w2 ⟨F, M, lv, v2, rfl, hF, hM, ho, H, hb⟩
      obtain ⟨A, cap, u, rfl, _, _⟩ := ho.head
      have H := Lib.hid (show FlowAt w2 F M lv s0 from H)
      have hF := Lib.hid (Nat.le_trans hb1.out.size hF)
      have hM := Lib.hid (Nat.le_trans hb1.out.size hM)
      have hb := Lib.hid (below_step hb1.out hb)
      clear ho
      go_wp2_with (fail)
      refine (decides_ok w2 F M lv s0 H (by decide) 2 0 0 rfl rfl rfl rfl).mono ?_
      rintro e w3 ⟨M3, lv3, v3, rfl, _, H3, hm3, hM3⟩
      have H3 := Lib.hid (show FlowAt w3 F M3 lv3 s1 from H3)
      have hb3 := Lib.hid (Mod.below hm3 hb.out (own_ge hF.out hM.out))
      have hM3 : Hid (w.heap.size ≤ M3) := Lib.hid (hM3.elim (fun h => by rw [h]; exact hM.out) (fun h => Nat.le_trans hb.out.size h))
      clear hm3 H
      go_wp2_with (fail)
      go_loopg [10] n (fun m i wr => ∃ (k M : Nat) (lv : Value) (S : St), m = n - k ∧ k ≤ n ∧ i = .int .i64 k ∧ Hid (Ls S k false) ∧ Hid (FlowAt wr F M lv S) ∧ Hid (w.heap.size ≤ M) ∧ Hid (Below w.heap.size w wr))
      case atStart => exact ⟨0, M3, lv3, s1, rfl, Nat.zero_le _, rfl, Lib.hid ls_start, H3, hM3, hb3⟩
      case round =>
        obtain ⟨k, M4, lv4, S, rfl, hkn, rfl, HS, HF, HM, HB⟩ := hrel
        clear H3 hM3 hb3
        by_cases hlt : k < n
        · go_wp2_with (fail)
          have hba := below_alloc (Below.refl wr.heap.size wr) (.cells #[.int .u8 (k : Int)] 5)
          have hv := byt_made (w := wr.alloc (.cells #[.int .u8 (k : Int)] 5)) (g := wr.heap.size) (bs := [(k : Int)]) (by simp) (heap_alloc_new wr _)
          have hl : S.L.length ≤ 4000 := by rw [HS.out.len]; omega
          refine (signal_ok _ F M4 lv4 S (FlowAt.below HF.out hba) hl [(k : Int)] _ hv 1 (HS.out.right 1 1 (by decide) (by decide) (by decide)) HS.out.st).mono ?_
          rintro e w5 ⟨M5, lv5, v5, rfl, _, H5, hm5, hM5⟩
          have hS5 := Lib.hid (ls_told HS.out [(k : Int)]).1
          have hB5 := Lib.hid (Mod.below hm5 (below_step HB.out hba) (own_ge hF.out HM.out))
          have hM6 : Hid (w.heap.size ≤ M5) := Lib.hid (hM5.elim (fun h => by rw [h]; exact HM.out) (fun h => Nat.le_trans HB.out.size (Nat.le_trans hba.size h)))
          have H5 := Lib.hid H5
          clear hba hv hl hm5 hM5
          go_wp2_with (fail)
          go_roundg (n - (k + 1))
          case measure => omega
          case rel => exact ⟨k + 1, M5, lv5, _, rfl, by omega, by go_num, hS5, H5, hM6, hB5⟩
        · obtain rfl : k = n := by omega
          clear hkn
          by_cases hq : asked = true ∨ kd = 7
          · have hc : asked = true ∨ (asked = false ∧ (kd == 7) = true) := by
              rcases hq with h | h
              · exact .inl h
              · cases asked
                · exact .inr ⟨rfl, by simp [h]⟩
                · exact .inl rfl
            clear hq
            rcases hc with rfl | ⟨rfl, h7⟩
            all_goals
              go_wp2_with (fail)
              refine (cancel_ok wr F M4 lv4 S HF.out (by rw [HS.out.len]; omega) HS.out.asked 1 (HS.out.right 0 1 (by decide) (by decide) (by decide)) HS.out.st).mono ?_
              rintro e wz ⟨Mz, lvz, vz, rfl, _, HFz, hmz, hMz⟩
              have HSz := Lib.hid (ls_asked HS.out).1
              have HBz := Lib.hid (Mod.below hmz HB.out (own_ge hF.out HM.out))
              have HMz : Hid (w.heap.size ≤ Mz) := Lib.hid (hMz.elim (fun h => by rw [h]; exact HM.out) (fun h => Nat.le_trans HB.out.size h))
              have HFz := Lib.hid HFz
              have hask : Hid ((woken (asked1 S 1) 1).asked = true ∨ kd ≠ 7) := Lib.hid (.inl HSz.out.asked)
              generalize woken (asked1 S 1) 1 = Sz at *
              clear hmz hMz HF HS HB HM
              go_wp2_with (fail)
              have hba := below_alloc (Below.refl wz.heap.size wz) (.cells #[.int .i64 kd, .int .i64 0, .int .i64 0, .int .i64 0, .slice none 0 0] 24)
              have hd := decs_made (w := wz.alloc (.cells #[.int .i64 kd, .int .i64 0, .int .i64 0, .int .i64 0, .slice none 0 0] 24)) (g := wz.heap.size) (d := ⟨kd, 0, 0, 0, []⟩) (u := .slice none 0 0) (heap_alloc_new wz _) (Byt.none _)
              have hl : Sz.L.length ≤ 4000 := by rw [HSz.out.len]; omega
              refine (decide_one_late _ F Mz lvz Sz (FlowAt.below HFz.out hba) hl HSz.out.o 2 0 2 (HSz.out.right 0 2 (by decide) (by decide) (by decide)) HSz.out.st HSz.out.task HSz.out.time HSz.out.turn ⟨kd, 0, 0, 0, []⟩ _ hd (by have := hk.out; simp; omega) (bad1_ok Sz hk.out hask.out) (by rw [HSz.out.late]; simp)).mono ?_
              rintro e w6 ⟨M6, lv6, v6, rfl, ho6, H6, hm6, hM6⟩
              have HX := fs_of HSz.out
              rw [HX.2] at ho6
              have HS6 := HX.1
              have H6 := Lib.hid H6
              have hB6 := Lib.hid (Mod.below hm6 (below_step HBz.out hba) (own_ge hF.out HMz.out))
              have hM7 : Hid (w.heap.size ≤ M6) := Lib.hid (hM6.elim (fun h => by rw [h]; exact HMz.out) (fun h => Nat.le_trans HBz.out.size (Nat.le_trans hba.size h)))
              have hN6 : Hid ((5 + (k + 1)) ≤ 4000) := Lib.hid (by omega)
              generalize sched (fault1 Sz 2 2) 2 = S6 at *
              generalize Sz.list = sl at *
              generalize hNN : (5 + (k + 1)) = N6 at *
              have hNN := Lib.hid hNN
              have HS6 := Lib.hid HS6
              clear hba hd hl hm6 hM6 HX
              obtain ⟨A6, cap6, rfl, y0, y2, y3⟩ := row1 ho6
              have ho6 := Lib.hid ho6
              simp only at y0 y2 y3
              go_wp2_with (fail)
              refine (fstatus w6 F M6 lv6 S6 H6.out).mono ?_
              rintro e w7 ⟨rfl, hb7⟩
              rw [HS6.out.st]
              have H7 := Lib.hid (FlowAt.below H6.out hb7)
              have ho7 := ho6.out.below hb7
              obtain ⟨y0, y2, y3⟩ := row1_at ho7
              simp only at y0 y2 y3
              have ho7 := Lib.hid ho7
              have hB7 := Lib.hid (below_step hB6.out hb7)
              clear hb7 H6 hB6 ho6
              go_wp2_with (fail)
              refine (decides_ok w7 F M6 lv6 S6 H7.out (by rw [HS6.out.len]; have := hN6.out; omega) (N6 : Int) 1 3 (HS6.out.right 0 3 (by decide) (by decide) (by decide)) HS6.out.st rfl (by simp [wantsTask, HS6.out.task, HS6.out.time, HS6.out.turn])).mono ?_
              rintro e w8 ⟨M8, lv8, v8, rfl, _, H8, hm8, hM8⟩
              have ho8 := ho7.out.mod hm8 (FlowAt.noBytes H7.out) (FlowAt.noOuts H7.out)
              obtain ⟨y0, y2, y3⟩ := row1_at ho8
              simp only at y0 y2 y3
              have hB8 := Lib.hid (Mod.below hm8 hB7.out (own_ge hF.out hM7.out))
              have hM9 : Hid (w.heap.size ≤ M8) := Lib.hid (hM8.elim (fun h => by rw [h]; exact hM7.out) (fun h => Nat.le_trans hB7.out.size h))
              have H8 := Lib.hid H8
              clear hm8 hM8 ho7 H7 hB7 ho8
              go_wp2_with (fail)
              have hba := below_alloc (Below.refl w8.heap.size w8) (.cells #[.int .i64 kd, .int .i64 0, .int .i64 0, .int .i64 0, .slice none 0 0] 24)
              have hd := decs_made (w := w8.alloc (.cells #[.int .i64 kd, .int .i64 0, .int .i64 0, .int .i64 0, .slice none 0 0] 24)) (g := w8.heap.size) (d := ⟨kd, 0, 0, 0, []⟩) (u := .slice none 0 0) (heap_alloc_new w8 _) (Byt.none _)
              have hl : (decided0 S6 (N6 : Int) 3).L.length ≤ 4000 := by simp [decided0, HS6.out.len]; have := hN6.out; omega
              refine (decide_one_ok _ F M8 lv8 (decided0 S6 (N6 : Int) 3) (FlowAt.below H8.out hba) hl HS6.out.o (N6 : Int) 1 3 (right_of2 (e := ⟨3, 3, (N6 : Int), 0, 0, 0, []⟩) (by simp [decided0]) 3 (by decide) (by simp) 0 3 (by decide) (by decide) (by decide)) (by simp [decided0, statusOf, statusKind]) rfl HS6.out.time HS6.out.turn ⟨kd, 0, 0, 0, []⟩ _ hd hk.out (bad1_ok _ hk.out (.inl HS6.out.asked)) rfl).mono ?_
              rintro e w9 ⟨M9, lv9, v9, rfl, _, H9, hm9, hM10⟩
              have hst := doneK_of hk.out (decided0 S6 (N6 : Int) 3) 3
              have hB9 := Lib.hid (Mod.below hm9 (below_step hB8.out hba) (own_ge hF.out hM9.out))
              have H9 := Lib.hid H9
              have hst := Lib.hid hst
              obtain ⟨v9a, v9n, v9c, rfl⟩ : ∃ a n c, v9 = .slice a n c := by
                rename OutRow w9 v9 _ => hr9
                obtain ⟨a, c, h⟩ := hr9.len
                exact ⟨a, _, c, h⟩
              clear hm9 hM10 hba hd hl
              go_wp2_with (fail)
              refine (fstatus w9 F M9 lv9 _ H9.out).mono ?_
              rintro e w10 ⟨rfl, hb10⟩
              have hst' := hst.out
              have hB10 := Lib.hid (below_step hB9.out hb10)
              clear hb10
              generalize statusOf (closed (decided1 (decided0 S6 (N6 : Int) 3) 3) (doneK kd) 3 []).L = sx at *
              have hsn : (sx != 1) = true := by
                have := hst'
                simp at this
                simpa using this
              go_wp2_with (fail)
              go_ret
              exact ⟨by simp, hB10.out⟩

          · have hca : asked = false := by
              cases asked
              · rfl
              · exact absurd (.inl rfl) hq
            have hne : Hid (kd ≠ 7) := Lib.hid (fun h => hq (.inr h))
            have h7 : (kd == 7) = false := by simpa using hne.out
            subst hca
            have hask : Hid (S.asked = true ∨ kd ≠ 7) := Lib.hid (.inr hne.out)
            clear hq
            by_cases hk0 : k = 0
            · subst hk0
              go_wp2_with (fail)
              have hba := below_alloc (Below.refl wr.heap.size wr) (.cells #[.int .i64 kd, .int .i64 0, .int .i64 0, .int .i64 0, .slice none 0 0] 24)
              have hd := decs_made (w := wr.alloc (.cells #[.int .i64 kd, .int .i64 0, .int .i64 0, .int .i64 0, .slice none 0 0] 24)) (g := wr.heap.size) (d := ⟨kd, 0, 0, 0, []⟩) (u := .slice none 0 0) (heap_alloc_new wr _) (Byt.none _)
              have hl : S.L.length ≤ 4000 := by rw [HS.out.len]; omega
              refine (decide_one_ok _ F M4 lv4 S (FlowAt.below HF.out hba) hl HS.out.o 2 0 2 (HS.out.right 0 2 (by decide) (by decide) (by decide)) HS.out.st HS.out.task HS.out.time HS.out.turn ⟨kd, 0, 0, 0, []⟩ _ hd hk.out (bad1_ok S hk.out hask.out) HS.out.late).mono ?_
              rintro e w9 ⟨M9, lv9, v9, rfl, hr9, H9, hm9, _⟩
              have hst := doneK_of hk.out S 2
              have hB9 := Lib.hid (Mod.below hm9 (below_step HB.out hba) (own_ge hF.out HM.out))
              have H9 := Lib.hid H9
              have hst := Lib.hid hst
              obtain ⟨v9a, v9c, rfl⟩ := hr9.len
              clear hm9 hba hd hl hr9
              go_wp2_with (fail)
              refine (fstatus w9 F M9 lv9 _ H9.out).mono ?_
              rintro e w10 ⟨rfl, hb10⟩
              have hst' := hst.out
              have hB10 := Lib.hid (below_step hB9.out hb10)
              clear hb10
              generalize statusOf (closed (decided1 S 2) (doneK kd) 2 []).L = sx at *
              have hsn : (sx != 1) = true := by
                have := hst'
                simp at this
                simpa using this
              go_wp2_with (fail)
              go_ret
              exact ⟨by simp, hB10.out⟩
            · go_wp2_with (fail)
              have hba := below_alloc (Below.refl wr.heap.size wr) (.cells #[.int .i64 kd, .int .i64 0, .int .i64 0, .int .i64 0, .slice none 0 0] 24)
              have hd := decs_made (w := wr.alloc (.cells #[.int .i64 kd, .int .i64 0, .int .i64 0, .int .i64 0, .slice none 0 0] 24)) (g := wr.heap.size) (d := ⟨kd, 0, 0, 0, []⟩) (u := .slice none 0 0) (heap_alloc_new wr _) (Byt.none _)
              have hl : S.L.length ≤ 4000 := by rw [HS.out.len]; omega
              refine (decide_one_late _ F M4 lv4 S (FlowAt.below HF.out hba) hl HS.out.o 2 0 2 (HS.out.right 0 2 (by decide) (by decide) (by decide)) HS.out.st HS.out.task HS.out.time HS.out.turn ⟨kd, 0, 0, 0, []⟩ _ hd (by have := hk.out; simp; omega) (bad1_ok S hk.out hask.out) (by rw [HS.out.late]; simp; omega)).mono ?_
              rintro e w6 ⟨M6, lv6, v6, rfl, ho6, H6, hm6, hM6⟩
              have HX := fs_of HS.out
              rw [HX.2] at ho6
              have HS6 := HX.1
              have H6 := Lib.hid H6
              have hB6 := Lib.hid (Mod.below hm6 (below_step HB.out hba) (own_ge hF.out HM.out))
              have hM7 : Hid (w.heap.size ≤ M6) := Lib.hid (hM6.elim (fun h => by rw [h]; exact HM.out) (fun h => Nat.le_trans HB.out.size (Nat.le_trans hba.size h)))
              have hN6 : Hid ((5 + k) ≤ 4000) := Lib.hid (by omega)
              generalize sched (fault1 S 2 2) 2 = S6 at *
              generalize S.list = sl at *
              generalize hNN : (5 + k) = N6 at *
              have hNN := Lib.hid hNN
              have HS6 := Lib.hid HS6
              clear hba hd hl hm6 hM6 HX
              obtain ⟨A6, cap6, rfl, y0, y2, y3⟩ := row1 ho6
              have ho6 := Lib.hid ho6
              simp only at y0 y2 y3
              go_wp2_with (fail)
              refine (fstatus w6 F M6 lv6 S6 H6.out).mono ?_
              rintro e w7 ⟨rfl, hb7⟩
              rw [HS6.out.st]
              have H7 := Lib.hid (FlowAt.below H6.out hb7)
              have ho7 := ho6.out.below hb7
              obtain ⟨y0, y2, y3⟩ := row1_at ho7
              simp only at y0 y2 y3
              have ho7 := Lib.hid ho7
              have hB7 := Lib.hid (below_step hB6.out hb7)
              clear hb7 H6 hB6 ho6
              go_wp2_with (fail)
              refine (decides_ok w7 F M6 lv6 S6 H7.out (by rw [HS6.out.len]; have := hN6.out; omega) (N6 : Int) 1 3 (HS6.out.right 0 3 (by decide) (by decide) (by decide)) HS6.out.st rfl (by simp [wantsTask, HS6.out.task, HS6.out.time, HS6.out.turn])).mono ?_
              rintro e w8 ⟨M8, lv8, v8, rfl, _, H8, hm8, hM8⟩
              have ho8 := ho7.out.mod hm8 (FlowAt.noBytes H7.out) (FlowAt.noOuts H7.out)
              obtain ⟨y0, y2, y3⟩ := row1_at ho8
              simp only at y0 y2 y3
              have hB8 := Lib.hid (Mod.below hm8 hB7.out (own_ge hF.out hM7.out))
              have hM9 : Hid (w.heap.size ≤ M8) := Lib.hid (hM8.elim (fun h => by rw [h]; exact hM7.out) (fun h => Nat.le_trans hB7.out.size h))
              have H8 := Lib.hid H8
              clear hm8 hM8 ho7 H7 hB7 ho8
              go_wp2_with (fail)
              have hba := below_alloc (Below.refl w8.heap.size w8) (.cells #[.int .i64 kd, .int .i64 0, .int .i64 0, .int .i64 0, .slice none 0 0] 24)
              have hd := decs_made (w := w8.alloc (.cells #[.int .i64 kd, .int .i64 0, .int .i64 0, .int .i64 0, .slice none 0 0] 24)) (g := w8.heap.size) (d := ⟨kd, 0, 0, 0, []⟩) (u := .slice none 0 0) (heap_alloc_new w8 _) (Byt.none _)
              have hl : (decided0 S6 (N6 : Int) 3).L.length ≤ 4000 := by simp [decided0, HS6.out.len]; have := hN6.out; omega
              refine (decide_one_ok _ F M8 lv8 (decided0 S6 (N6 : Int) 3) (FlowAt.below H8.out hba) hl HS6.out.o (N6 : Int) 1 3 (right_of2 (e := ⟨3, 3, (N6 : Int), 0, 0, 0, []⟩) (by simp [decided0]) 3 (by decide) (by simp) 0 3 (by decide) (by decide) (by decide)) (by simp [decided0, statusOf, statusKind]) rfl HS6.out.time HS6.out.turn ⟨kd, 0, 0, 0, []⟩ _ hd hk.out (bad1_ok _ hk.out (.inr hne.out)) rfl).mono ?_
              rintro e w9 ⟨M9, lv9, v9, rfl, _, H9, hm9, hM10⟩
              have hst := doneK_of hk.out (decided0 S6 (N6 : Int) 3) 3
              have hB9 := Lib.hid (Mod.below hm9 (below_step hB8.out hba) (own_ge hF.out hM9.out))
              have H9 := Lib.hid H9
              have hst := Lib.hid hst
              obtain ⟨v9a, v9n, v9c, rfl⟩ : ∃ a n c, v9 = .slice a n c := by
                rename OutRow w9 v9 _ => hr9
                obtain ⟨a, c, h⟩ := hr9.len
                exact ⟨a, _, c, h⟩
              clear hm9 hM10 hba hd hl
              go_wp2_with (fail)
              refine (fstatus w9 F M9 lv9 _ H9.out).mono ?_
              rintro e w10 ⟨rfl, hb10⟩
              have hst' := hst.out
              have hB10 := Lib.hid (below_step hB9.out hb10)
              clear hb10
              generalize statusOf (closed (decided1 (decided0 S6 (N6 : Int) 3) 3) (doneK kd) 3 []).L = sx at *
              have hsn : (sx != 1) = true := by
                have := hst'
                simp at this
                simpa using this
              go_wp2_with (fail)
              go_ret
              exact ⟨by simp, hB10.out⟩

end Go.Proofs.Ytedpeambmmhcnaa.Late

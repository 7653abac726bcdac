/-
  ArenaBack, walked.
-/
import Derived.Test.YtejhknboiacgeaaAry
import Derived.Deep.CutRange
import Derived.Deep.CutBlock
set_option linter.unusedSimpArgs false
set_option linter.unusedVariables false
namespace Go.Proofs.Ytejhknboiacgeaa
open Go Go.RowKit
attribute [local go_sem] via_cell via_frozen

theorem cn_bounds (S : List (Int × Int)) (t : Int) (m : Nat) (hm : S.length = m) : 0 ≤ cn S t ∧ cn S t ≤ m := by
  unfold cn
  have := ents_length S t
  split <;> omega

set_option maxRecDepth 100000 in
set_option maxHeartbeats 4000000 in
theorem Back_walk (A0 : Option Addr) (c0 n0 : Nat) (many : Int) (xs : List (Int × Int)) (W : World) (h0 : Rd W W.heap.size 2 A0 n0 (Cs encE xs)) (hx0 : xs.length = n0) (hu : ∀ e ∈ xs, U64 e.2) (hn0 : n0 ≤ c0) (hm0 : c0 ≤ 9223372036854775807) :
    Calls Try.prog 4 #[.agg #[.slice A0 n0 c0], .int .i64 many] W fun e W' => e = .returned (.bool true) ∧ Below W.heap.size W W' := by
  obtain ⟨m, hm⟩ : ∃ m, min n0 130 = m := ⟨_, rfl⟩
  obtain ⟨S, hS⟩ : ∃ S, xs.take m = S := ⟨_, rfl⟩
  have hm130 : m ≤ 130 := by omega
  have hSl : S.length = m := by rw [← hS, List.length_take]; omega
  have HSL := hide hSl
  have HUS := hide (show ∀ e ∈ S, U64 e.2 from fun e he => hu e (by rw [← hS] at he; exact List.mem_of_mem_take he))
  have HOWN := hide (own_any A0 c0 n0 xs)
  have HOWN : Hid (∀ w, Below W.heap.size W w → Calls Try.prog 8 #[.agg #[.slice A0 n0 c0]] w fun e W' => ∃ A' c', e = .returned (.agg #[.slice A' m c']) ∧ m ≤ c' ∧ c' ≤ 9223372036854775807 ∧ Rd W' W'.heap.size 2 A' m (Cs encE S) ∧ (∀ p, A' = some p → w.heap.size ≤ p.block) ∧ Below w.heap.size w W') := hide (fun w hb => by
    have h := own_any A0 c0 n0 xs w ((h0.below hb).more hb.size) hx0 hn0 hm0 m hm
    rw [hS] at h
    exact h)
  have hcb0 := cn_bounds S 0 m hSl
  have hcb1 := cn_bounds S 1 m hSl
  have hcb2 := cn_bounds S 2 m hSl
  have HE0 := hide (tk_no S many)
  have HY0 := hide (tk_yes S many)
  have HBF := hide (fun ho j hj => back_facts S ho j hj)
  have HCE := hide (show arOk S = true → cn S 0 = (ents S 0).length from fun ho => by unfold cn; rw [if_pos ho])
  obtain ⟨f, hf⟩ : ∃ f, cn S 0 = f := ⟨_, rfl⟩
  obtain ⟨v, hv⟩ : ∃ f, cn S 1 = f := ⟨_, rfl⟩
  obtain ⟨r, hr⟩ : ∃ f, cn S 2 = f := ⟨_, rfl⟩
  rw [hf] at hcb0 HE0 HCE HBF
  rw [hv] at hcb1 HBF
  rw [hr] at hcb2 HBF
  obtain ⟨f0, f1⟩ := hcb0
  obtain ⟨v0, v1⟩ := hcb1
  obtain ⟨r0, r1⟩ := hcb2
  have HF := hide hf
  have HV := hide hv
  have HR := hide hr
  have HW := hide (fun w => wakes_any w)
  have HB := hide (((Below.refl W.heap.size W).alloc (Nat.le_refl _) (.cells #[.slice A0 n0 c0] 24)))
  have R2 := hide (RowAt.new W 24 #[.slice A0 n0 c0])
  clear hm hS hu h0 hn0 hm0 hSl hf hv hr
  obtain ⟨E, hE⟩ : ∃ E, tkE S many = E := ⟨_, rfl⟩
  rw [hE] at HE0 HY0
  have HE := hide hE
  clear hE
  by_cases hE1 : E = 0
  · subst hE1
    obtain ⟨ho, j, rfl, hj⟩ := HY0.out rfl
    obtain ⟨T, R, l, BF⟩ := HBF.out ho j hj
    have hjf : (j : Int) ≤ f := by rw [HCE.out ho]; omega
    have BFH := hide BF
    clear BF ho hj HE0 HY0 HBF HCE
    go_enter Try.func4, Try.ntmps4
    go_wp2_with fail
    generalize (W.alloc (.cells #[.slice A0 n0 c0] 24)) = w0 at *
    refine (HW.out _).mono ?_
    rintro e w1 ⟨rfl, hb⟩
    replace R2 := hide (R2.out.below hb)
    replace HB := hide (HB.out.trans (hb.mono HB.out.size))
    clear hb HW
    have qR2 := row1 R2.out
    have lR2 := R2.out.lt
    go_wp2_with fail
    clear qR2 lR2
    refine (HOWN.out _ HB.out).mono ?_
    rintro e w2 ⟨A5, c5, rfl, hc5, hcm5, hrd, hfr, hb⟩
    replace R2 := hide (R2.out.below hb)
    replace HB := hide (HB.out.trans (hb.mono HB.out.size))
    have HA := hide hrd
    clear hrd hfr hb HOWN
    obtain ⟨g5, hg5⟩ : ∃ g, w2.heap.size = g := ⟨_, rfl⟩
    have hbx : Below w2.heap.size w2 (w2.alloc (.cells #[.slice A5 m c5] 24)) := (Below.refl _ _).alloc (Nat.le_refl _) _
    have R5 : Hid (RowAt (w2.alloc (.cells #[.slice A5 m c5] 24)) g5 24 #[.slice A5 m c5]) := hide (by have h := RowAt.new w2 24 #[.slice A5 m c5]; rw [hg5] at h; exact h)
    have hs_w3 : Hid ((w2.alloc (.cells #[.slice A5 m c5] 24)).heap.size = g5 + 1) := hide (by rw [World.size_alloc, hg5])
    replace HA := hide ((HA.out.below hbx).more hbx.size)
    replace R2 := hide (R2.out.below hbx)
    replace HB := hide (HB.out.trans (hbx.mono HB.out.size))
    clear hbx
    have qR2 := row1 R2.out
    have lR2 := R2.out.lt
    have qR5 := row1 R5.out
    have lR5 := R5.out.lt
    go_wp2_with fail
    (try rw [hg5])
    clear hg5
    clear qR2 lR2 qR5 lR5
    generalize (w2.alloc (.cells #[.slice A5 m c5] 24)) = w3 at *
    with_reducible refine (counts_any A5 c5 m S w3 HA.out HSL.out (by omega) f v r HF.out HV.out HR.out).mono ?_
    rintro e w4 ⟨rfl, hb⟩
    replace HA := hide ((HA.out.below hb).more hb.size)
    replace R2 := hide (R2.out.below hb)
    replace R5 := hide (R5.out.below hb)
    replace HB := hide (HB.out.trans (hb.mono HB.out.size))
    clear hb hs_w3
    have qR2 := row1 R2.out
    have lR2 := R2.out.lt
    have qR5 := row1 R5.out
    have lR5 := R5.out.lt
    go_wp2_with fail
    clear qR2 lR2 qR5 lR5
    with_reducible refine (TakeK A5 c5 m (j : Int) S w4 HA.out HSL.out (by omega) 0 T l m j HE.out BFH.out.hT BFH.out.hL (BFH.out.tl.trans HSL.out) BFH.out.ll).mono ?_
    rintro e w5 ⟨A9, c9, A10, c10, rfl, hc9, hc10, hout, hl, hlf, hb⟩
    replace HA := hide ((HA.out.below hb).more hb.size)
    replace R2 := hide (R2.out.below hb)
    replace R5 := hide (R5.out.below hb)
    replace HB := hide (HB.out.trans (hb.mono HB.out.size))
    have HT := hide hout.rd
    have HL := hide hl
    clear hout hl hlf hb
    obtain ⟨g9, hg9⟩ : ∃ g, w5.heap.size = g := ⟨_, rfl⟩
    have hbx : Below w5.heap.size w5 (w5.alloc (.cells #[.slice A9 m c9] 24)) := (Below.refl _ _).alloc (Nat.le_refl _) _
    have R9 : Hid (RowAt (w5.alloc (.cells #[.slice A9 m c9] 24)) g9 24 #[.slice A9 m c9]) := hide (by have h := RowAt.new w5 24 #[.slice A9 m c9]; rw [hg9] at h; exact h)
    have hs_w6 : Hid ((w5.alloc (.cells #[.slice A9 m c9] 24)).heap.size = g9 + 1) := hide (by rw [World.size_alloc, hg9])
    replace HT := hide ((HT.out.below hbx).more hbx.size)
    replace HL := hide ((HL.out.below hbx).more hbx.size)
    replace HB := hide (HB.out.trans (hbx.mono HB.out.size))
    clear hbx
    have qR9 := row1 R9.out
    have lR9 := R9.out.lt
    go_wp2_with fail
    (try rw [hg9])
    clear hg9
    clear qR9 lR9
    generalize (w5.alloc (.cells #[.slice A9 m c9] 24)) = w6 at *
    with_reducible refine (counts_any A9 c9 m T w6 HT.out (BFH.out.tl.trans HSL.out) (by omega) (f - j) (v + j) r BFH.out.c0 BFH.out.c1 BFH.out.c2).mono ?_
    rintro e w7 ⟨rfl, hb⟩
    replace HT := hide ((HT.out.below hb).more hb.size)
    replace HL := hide ((HL.out.below hb).more hb.size)
    replace R9 := hide (R9.out.below hb)
    replace HB := hide (HB.out.trans (hb.mono HB.out.size))
    clear hb hs_w6
    have qR9 := row1 R9.out
    have lR9 := R9.out.lt
    go_wp2_with fail
    clear qR9 lR9
    with_reducible refine (RetireK A9 c9 m A10 c10 j T l _ HT.out (BFH.out.tl.trans HSL.out) (by omega) HL.out BFH.out.ll (by omega) 0 R m BFH.out.hRE BFH.out.hR (BFH.out.rl.trans HSL.out)).mono ?_
    rintro e w8 ⟨A15, c15, rfl, hc15, hout, hb⟩
    replace HT := hide ((HT.out.below hb).more hb.size)
    replace HL := hide ((HL.out.below hb).more hb.size)
    replace R9 := hide (R9.out.below hb)
    replace HB := hide (HB.out.trans (hb.mono HB.out.size))
    have HRT := hide hout.rd
    clear hout hb
    obtain ⟨g15, hg15⟩ : ∃ g, w8.heap.size = g := ⟨_, rfl⟩
    have hbx : Below w8.heap.size w8 (w8.alloc (.cells #[.slice A15 m c15] 24)) := (Below.refl _ _).alloc (Nat.le_refl _) _
    have R15 : Hid (RowAt (w8.alloc (.cells #[.slice A15 m c15] 24)) g15 24 #[.slice A15 m c15]) := hide (by have h := RowAt.new w8 24 #[.slice A15 m c15]; rw [hg15] at h; exact h)
    have hs_w9 : Hid ((w8.alloc (.cells #[.slice A15 m c15] 24)).heap.size = g15 + 1) := hide (by rw [World.size_alloc, hg15])
    replace HT := hide ((HT.out.below hbx).more hbx.size)
    replace HL := hide ((HL.out.below hbx).more hbx.size)
    replace HRT := hide ((HRT.out.below hbx).more hbx.size)
    replace R9 := hide (R9.out.below hbx)
    replace HB := hide (HB.out.trans (hbx.mono HB.out.size))
    clear hbx
    have qR9 := row1 R9.out
    have lR9 := R9.out.lt
    have qR15 := row1 R15.out
    have lR15 := R15.out.lt
    go_wp2_with fail
    (try rw [hg15])
    clear hg15
    clear qR9 lR9 qR15 lR15
    generalize (w8.alloc (.cells #[.slice A15 m c15] 24)) = w9 at *
    with_reducible refine (counts_any A15 c15 m R w9 HRT.out (BFH.out.rl.trans HSL.out) (by omega) (f - j) v (r + j) BFH.out.d0 BFH.out.d1 BFH.out.d2).mono ?_
    rintro e w10 ⟨rfl, hb⟩
    replace HT := hide ((HT.out.below hb).more hb.size)
    replace HL := hide ((HL.out.below hb).more hb.size)
    replace HRT := hide ((HRT.out.below hb).more hb.size)
    replace R9 := hide (R9.out.below hb)
    replace R15 := hide (R15.out.below hb)
    replace HB := hide (HB.out.trans (hb.mono HB.out.size))
    clear hb hs_w9
    have qR9 := row1 R9.out
    have lR9 := R9.out.lt
    have qR15 := row1 R15.out
    have lR15 := R15.out.lt
    go_wp2_with fail
    clear qR9 lR9 qR15 lR15
    go_loopw [124] (fun i wr => ∃ k : Nat, k ≤ j ∧ i = .int .i64 k ∧ (∀ e ∈ l.take k, e.2 ≠ 1099511627775) ∧ Below w10.heap.size w10 wr) (fun i _ => j - (intOf i).toNat)
    case atStart => exact ⟨0, Nat.zero_le _, rfl, by simp, Below.refl _ _⟩
    case round =>
      obtain ⟨k, hk, rfl, hpre, hbr⟩ := hrel
      have HP := hide hpre
      have HBR := hide hbr
      replace HT := hide ((HT.out.below hbr).more hbr.size)
      replace HL := hide ((HL.out.below hbr).more hbr.size)
      replace HRT := hide ((HRT.out.below hbr).more hbr.size)
      replace R9 := hide (R9.out.below hbr)
      replace R15 := hide (R15.out.below hbr)
      replace HB := hide (HB.out.trans (hbr.mono HB.out.size))
      clear hpre hbr
      by_cases hlt : k < j
      · have hlz : k < l.length := by rw [BFH.out.ll]; exact hlt
        obtain ⟨b1, o1, rfl, hb1, hc1⟩ := (show Rd wr wr.heap.size 2 A10 l.length (Cs encE l) by rw [BFH.out.ll]; exact HL.out).elem encE_len hlz
        have hd10 := hc1 0 _ (by omega) rfl
        have hd11 := hc1 1 _ (by omega) rfl
        simp only [Nat.add_zero] at hd10
        have hbs : b1 < wr.heap.size := hb1
        have HT1 := hide (List.take_succ_eq_append_getElem hlz)
        clear hc1
        generalize l[k] = x at *
        obtain ⟨s, g⟩ := x
        dsimp only at hd10 hd11
        by_cases hg : g = 1099511627775
        · subst hg
          go_wp2_with fail
          go_ret
          exact ⟨rfl, HB.out.alloc HB.out.size _⟩
        · have hgb : (g == 1099511627775) = false := by simpa using hg
          have HG := hide hg
          clear hg
          go_wp2_with fail
          go_roundw
          case rel =>
            refine ⟨k + 1, by omega, by go_num, ?_, HBR.out.alloc HBR.out.size _⟩
            rw [HT1.out]
            intro e he
            rcases List.mem_append.1 he with he | he
            · exact HP.out e he
            · simp at he; subst he; exact HG.out
          case measure => simp [intOf]; omega
      · have hall : ∀ e ∈ l, e.2 < 1099511627775 := fun e he => by
          have h1 := HP.out e (by rw [List.take_of_length_le (by have := BFH.out.ll; omega)]; exact he)
          have h2 := BFH.out.gen e he
          omega
        have hul : ∀ e ∈ l, U64 e.2 := fun e he => by
          have h1 := HUS.out
          have h2 : e ∈ tkL S (j : Int) := by rw [BFH.out.hL]; exact he
          unfold tkL at h2
          split at h2
          · obtain ⟨_, _, h3⟩ := ents_mem (List.mem_of_mem_take h2)
            exact (h1 (0, e.2) (List.mem_of_getElem? h3))
          · cases h2
        obtain ⟨G, a1, a2, a3, a4, a5, a6, a7, a8⟩ := BFH.out.give hall
        have HG1 := hide a1
        have HG2 := hide a2
        have HG3 := hide a3
        have HG4 := hide a4
        have HG5 := hide (a5.trans HSL.out)
        have HG6 := hide a6
        have HG7 := hide a7
        have HG8 := hide a8
        have HUL := hide hul
        clear a1 a2 a3 a4 a5 a6 a7 a8 hall hul HP
        have qR9 := row1 R9.out
        have lR9 := R9.out.lt
        have qR15 := row1 R15.out
        have lR15 := R15.out.lt
        go_wp2_with fail
        clear qR9 lR9 qR15 lR15
        with_reducible refine (GiveK A15 c15 m A10 c10 j R l _ HRT.out (BFH.out.rl.trans HSL.out) (by omega) HL.out BFH.out.ll (by omega) HUL.out 0 G m HG2.out HG1.out HG5.out).mono ?_
        rintro e w11 ⟨A21, c21, rfl, hc21, hout, hb⟩
        replace HT := hide ((HT.out.below hb).more hb.size)
        replace HL := hide ((HL.out.below hb).more hb.size)
        replace HRT := hide ((HRT.out.below hb).more hb.size)
        replace R9 := hide (R9.out.below hb)
        replace R15 := hide (R15.out.below hb)
        replace HB := hide (HB.out.trans (hb.mono HB.out.size))
        have HG21 := hide hout.rd
        clear hout hb
        obtain ⟨g21, hg21⟩ : ∃ g, w11.heap.size = g := ⟨_, rfl⟩
        have hbx : Below w11.heap.size w11 (w11.alloc (.cells #[.slice A21 m c21] 24)) := (Below.refl _ _).alloc (Nat.le_refl _) _
        have R21 : Hid (RowAt (w11.alloc (.cells #[.slice A21 m c21] 24)) g21 24 #[.slice A21 m c21]) := hide (by have h := RowAt.new w11 24 #[.slice A21 m c21]; rw [hg21] at h; exact h)
        have hs_w12 : Hid ((w11.alloc (.cells #[.slice A21 m c21] 24)).heap.size = g21 + 1) := hide (by rw [World.size_alloc, hg21])
        replace HT := hide ((HT.out.below hbx).more hbx.size)
        replace HL := hide ((HL.out.below hbx).more hbx.size)
        replace HRT := hide ((HRT.out.below hbx).more hbx.size)
        replace HG21 := hide ((HG21.out.below hbx).more hbx.size)
        replace R9 := hide (R9.out.below hbx)
        replace R15 := hide (R15.out.below hbx)
        replace HB := hide (HB.out.trans (hbx.mono HB.out.size))
        clear hbx
        have qR9 := row1 R9.out
        have lR9 := R9.out.lt
        have qR15 := row1 R15.out
        have lR15 := R15.out.lt
        have qR21 := row1 R21.out
        have lR21 := R21.out.lt
        go_wp2_with fail
        (try rw [hg21])
        clear hg21
        clear qR9 lR9 qR15 lR15 qR21 lR21
        generalize (w11.alloc (.cells #[.slice A21 m c21] 24)) = w12 at *
        with_reducible refine (GiveK A9 c9 m A10 c10 j T l _ HT.out (BFH.out.tl.trans HSL.out) (by omega) HL.out BFH.out.ll (by omega) HUL.out 0 G m HG4.out HG3.out HG5.out).mono ?_
        rintro e w13 ⟨A22, c22, rfl, hc22, hout, hb⟩
        replace HT := hide ((HT.out.below hb).more hb.size)
        replace HL := hide ((HL.out.below hb).more hb.size)
        replace HRT := hide ((HRT.out.below hb).more hb.size)
        replace HG21 := hide ((HG21.out.below hb).more hb.size)
        replace R9 := hide (R9.out.below hb)
        replace R15 := hide (R15.out.below hb)
        replace R21 := hide (R21.out.below hb)
        replace HB := hide (HB.out.trans (hb.mono HB.out.size))
        have HG22 := hide hout.rd
        clear hout hb
        obtain ⟨g22, hg22⟩ : ∃ g, w13.heap.size = g := ⟨_, rfl⟩
        have hbx : Below w13.heap.size w13 (w13.alloc (.cells #[.slice A22 m c22] 24)) := (Below.refl _ _).alloc (Nat.le_refl _) _
        have R22 : Hid (RowAt (w13.alloc (.cells #[.slice A22 m c22] 24)) g22 24 #[.slice A22 m c22]) := hide (by have h := RowAt.new w13 24 #[.slice A22 m c22]; rw [hg22] at h; exact h)
        have hs_w14 : Hid ((w13.alloc (.cells #[.slice A22 m c22] 24)).heap.size = g22 + 1) := hide (by rw [World.size_alloc, hg22])
        replace HT := hide ((HT.out.below hbx).more hbx.size)
        replace HL := hide ((HL.out.below hbx).more hbx.size)
        replace HRT := hide ((HRT.out.below hbx).more hbx.size)
        replace HG21 := hide ((HG21.out.below hbx).more hbx.size)
        replace HG22 := hide ((HG22.out.below hbx).more hbx.size)
        replace R9 := hide (R9.out.below hbx)
        replace R15 := hide (R15.out.below hbx)
        replace R21 := hide (R21.out.below hbx)
        replace HB := hide (HB.out.trans (hbx.mono HB.out.size))
        clear hbx
        have qR9 := row1 R9.out
        have lR9 := R9.out.lt
        have qR15 := row1 R15.out
        have lR15 := R15.out.lt
        have qR21 := row1 R21.out
        have lR21 := R21.out.lt
        have qR22 := row1 R22.out
        have lR22 := R22.out.lt
        go_wp2_with fail
        (try rw [hg22])
        clear hg22
        clear qR9 lR9 qR15 lR15 qR21 lR21 qR22 lR22
        generalize (w13.alloc (.cells #[.slice A22 m c22] 24)) = w14 at *
        with_reducible refine (same_any A21 A22 c21 c22 m m G G _ HG21.out HG22.out HG5.out HG5.out (by omega) (by omega) true (by simp)).mono ?_
        rintro e w15 ⟨rfl, hb⟩
        replace HT := hide ((HT.out.below hb).more hb.size)
        replace HL := hide ((HL.out.below hb).more hb.size)
        replace HRT := hide ((HRT.out.below hb).more hb.size)
        replace HG21 := hide ((HG21.out.below hb).more hb.size)
        replace HG22 := hide ((HG22.out.below hb).more hb.size)
        replace R9 := hide (R9.out.below hb)
        replace R15 := hide (R15.out.below hb)
        replace R21 := hide (R21.out.below hb)
        replace R22 := hide (R22.out.below hb)
        replace HB := hide (HB.out.trans (hb.mono HB.out.size))
        clear hb
        have qR9 := row1 R9.out
        have lR9 := R9.out.lt
        have qR15 := row1 R15.out
        have lR15 := R15.out.lt
        have qR21 := row1 R21.out
        have lR21 := R21.out.lt
        have qR22 := row1 R22.out
        have lR22 := R22.out.lt
        go_wp2_with fail
        clear qR9 lR9 qR15 lR15 qR21 lR21 qR22 lR22
        with_reducible refine (counts_any A21 c21 m G _ HG21.out HG5.out (by omega) f v r HG6.out HG7.out HG8.out).mono ?_
        rintro e w16 ⟨rfl, hb⟩
        have HBZ := hide (HB.out.trans (hb.mono HB.out.size))
        clear hb
        go_wp2_with fail
        go_ret
        exact ⟨rfl, HBZ.out⟩
  · obtain ⟨y1, y2, y3⟩ := HE0.out hE1
    have Y1 := hide y1
    have Y2 := hide y2
    have hEb : (E != 0) = true := by simpa using hE1
    clear y1 y2 hE1 HE0 HY0 HBF HCE
    go_enter Try.func4, Try.ntmps4
    go_wp2_with fail
    generalize (W.alloc (.cells #[.slice A0 n0 c0] 24)) = w0 at *
    refine (HW.out _).mono ?_
    rintro e w1 ⟨rfl, hb⟩
    replace R2 := hide (R2.out.below hb)
    replace HB := hide (HB.out.trans (hb.mono HB.out.size))
    clear hb HW
    have qR2 := row1 R2.out
    have lR2 := R2.out.lt
    go_wp2_with fail
    clear qR2 lR2
    refine (HOWN.out _ HB.out).mono ?_
    rintro e w2 ⟨A5, c5, rfl, hc5, hcm5, hrd, hfr, hb⟩
    replace R2 := hide (R2.out.below hb)
    replace HB := hide (HB.out.trans (hb.mono HB.out.size))
    have HA := hide hrd
    clear hrd hfr hb HOWN
    obtain ⟨g5, hg5⟩ : ∃ g, w2.heap.size = g := ⟨_, rfl⟩
    have hbx : Below w2.heap.size w2 (w2.alloc (.cells #[.slice A5 m c5] 24)) := (Below.refl _ _).alloc (Nat.le_refl _) _
    have R5 : Hid (RowAt (w2.alloc (.cells #[.slice A5 m c5] 24)) g5 24 #[.slice A5 m c5]) := hide (by have h := RowAt.new w2 24 #[.slice A5 m c5]; rw [hg5] at h; exact h)
    have hs_w3 : Hid ((w2.alloc (.cells #[.slice A5 m c5] 24)).heap.size = g5 + 1) := hide (by rw [World.size_alloc, hg5])
    replace HA := hide ((HA.out.below hbx).more hbx.size)
    replace R2 := hide (R2.out.below hbx)
    replace HB := hide (HB.out.trans (hbx.mono HB.out.size))
    clear hbx
    have qR2 := row1 R2.out
    have lR2 := R2.out.lt
    have qR5 := row1 R5.out
    have lR5 := R5.out.lt
    go_wp2_with fail
    (try rw [hg5])
    clear hg5
    clear qR2 lR2 qR5 lR5
    generalize (w2.alloc (.cells #[.slice A5 m c5] 24)) = w3 at *
    with_reducible refine (counts_any A5 c5 m S w3 HA.out HSL.out (by omega) f v r HF.out HV.out HR.out).mono ?_
    rintro e w4 ⟨rfl, hb⟩
    replace HA := hide ((HA.out.below hb).more hb.size)
    replace R2 := hide (R2.out.below hb)
    replace R5 := hide (R5.out.below hb)
    replace HB := hide (HB.out.trans (hb.mono HB.out.size))
    clear hb hs_w3
    have qR2 := row1 R2.out
    have lR2 := R2.out.lt
    have qR5 := row1 R5.out
    have lR5 := R5.out.lt
    go_wp2_with fail
    clear qR2 lR2 qR5 lR5
    with_reducible refine (TakeK A5 c5 m many S w4 HA.out HSL.out (by omega) E [] [] 0 0 HE.out Y1.out Y2.out rfl rfl).mono ?_
    rintro e w5 ⟨A9, c9, A10, c10, rfl, hc9, hc10, hout, hl, hlf, hb⟩
    replace HB := hide (HB.out.trans (hb.mono HB.out.size))
    clear hout hl hlf hb
    have HBZ := hide (HB.out.alloc HB.out.size (.cells #[.slice A9 0 c9] 24))
    by_cases h6 : E = 6
    · subst h6
      have h7 : f < many := by omega
      clear y3
      go_wp2_with fail
      go_ret
      exact ⟨rfl, HBZ.out⟩
    · have h6b : (E != 6) = true := by simpa using h6
      clear y3 h6
      go_wp2_with fail
      go_ret
      exact ⟨rfl, HBZ.out⟩
end Go.Proofs.Ytejhknboiacgeaa

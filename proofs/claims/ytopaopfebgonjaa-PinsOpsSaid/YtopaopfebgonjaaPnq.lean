/-
  PinsOps, walked.
-/
import Derived.Test.YtopaopfebgonjaaPnn
import Derived.IntWalk
set_option linter.unusedSimpArgs false
set_option linter.unusedVariables false
namespace Go.Proofs.Ytopaopfebgonjaa
open Go Go.RowKit
attribute [local go_sem] via_cell via_frozen

theorem PnOut.below {W w w' : World} {A : Option Addr} {n : Nat} {ys : List Int} (h : PnOut W A n ys w) (hb : Below w.heap.size w w') : PnOut W A n ys w' :=
  ⟨h.len, fun hn => by obtain ⟨gs, h1, h2, h3⟩ := h.own hn; exact ⟨gs, h1, h2, h3.below hb⟩⟩
theorem spoilP {W : World} (A : Option Addr) (c n : Nat) (e : Int) (ys : List Int) (w : World) (h : PnOut W A n ys w) (hn : n ≤ 4096) (hW : W.heap.size ≤ w.heap.size) :
    Calls Try.prog 15 #[.agg #[.int .u64 e, .slice A n c]] w fun x w' => x = .returned (.tuple #[]) ∧ Below W.heap.size w w' := by
  rcases Nat.eq_zero_or_pos n with h0 | h0
  · refine (spoil_any A c n w.heap.size e ys w h.len hn (fun hh => absurd hh (by omega))).mono ?_
    rintro x w' ⟨rfl, hp⟩
    exact ⟨rfl, hp.os, hp.tape, hp.output, hp.size, fun j hj => hp.block j (by omega) (by omega) (by omega)⟩
  · obtain ⟨gs, h1, h2, h3⟩ := h.own h0
    refine (spoil_any A c n gs e ys w h.len hn (fun _ => ⟨h1, h3⟩)).mono ?_
    rintro x w' ⟨rfl, hp⟩
    exact ⟨rfl, hp.os, hp.tape, hp.output, hp.size, fun j hj => hp.block j (by omega) (by omega) (by omega)⟩
theorem doNo {e : Int} {S : List Int} (h : pOk e S = false) (k g b : Int) : doE e S k g b = 230 ∧ doX e S k g b = 0 ∧ doS e S k g b = [] := by
  have h1 : doE e S k g b = 230 := by unfold doE; rw [h]; rfl
  exact ⟨h1, by unfold doX; rw [h1]; rfl, by unfold doS; rw [h1]; rfl⟩

set_option maxRecDepth 100000 in
set_option maxHeartbeats 8000000 in
theorem Ops_walk (A0 : Option Addr) (c0 n0 : Nat) (e : Int) (A1 : Option Addr) (c1 n1 : Nat) (xs : List Int) (ys : List (Int × Int × Int)) (W : World) (h0 : Rd W W.heap.size 1 A0 n0 (Cs encW xs)) (h1 : Rd W W.heap.size 3 A1 n1 (Cs encO ys)) (hx0 : xs.length = n0) (hx1 : ys.length = n1)
    (hu : ∀ s ∈ xs, U64 s) (hu1 : ∀ o ∈ ys, 0 ≤ o.2.2) (hn0 : n0 ≤ c0) (hn1 : n1 ≤ c1) (hm0 : c0 ≤ 9223372036854775807) (hm1 : c1 ≤ 9223372036854775807) (he : U64 e) :
    Calls Try.prog 3 #[.agg #[.int .u64 e, .slice A0 n0 c0], .slice A1 n1 c1] W fun x W' => x = .returned (.bool true) ∧ Below W.heap.size W W' := by
  obtain ⟨k, hk⟩ : ∃ k, min n1 16 = k := ⟨_, rfl⟩
  obtain ⟨L, hL⟩ : ∃ L, ys.take k = L := ⟨_, rfl⟩
  have hk16 : k ≤ 16 := by omega
  have hkn : k ≤ n1 := by omega
  have hkI : min (n1 : Int) 16 = (k : Int) := by omega
  have hkc : (k : Int) ≤ (c1 : Int) := by omega
  have hnc1 : (n1 : Int) ≤ (c1 : Int) := by omega
  have hcm1 : (c1 : Int) ≤ 9223372036854775807 := by omega
  have HLL := hide (show L.length = k by rw [← hL, List.length_take]; omega)
  have HLU := hide (show ∀ o ∈ L, 0 ≤ o.2.2 from fun o ho => hu1 o (by rw [← hL] at ho; exact List.mem_of_mem_take ho))
  have HRY : Hid (Rd W W.heap.size 3 A1 k (Cs encO L)) := hide (by
    have h := h1.take hkn
    rw [← Cs_take encO_len, hL] at h
    exact h)
  clear hk hL h1 hu1 hx1 hm1
  obtain ⟨m, hm⟩ : ∃ m, min n0 10 = m := ⟨_, rfl⟩
  obtain ⟨S, hS⟩ : ∃ S, xs.take m = S := ⟨_, rfl⟩
  have hm10 : m ≤ 10 := by omega
  have HSL := hide (show S.length = m by rw [← hS, List.length_take]; omega)
  have HU := hide (show ∀ s ∈ S, U64 s from fun s hs => hu s (by rw [← hS] at hs; exact List.mem_of_mem_take hs))
  have HOWN : Hid (∀ w, Below W.heap.size W w → Calls Try.prog 9 #[.agg #[.int .u64 e, .slice A0 n0 c0]] w (LownRes w e m S)) := hide (fun w hb => by
    have h := lown_any A0 c0 n0 e xs w ((h0.below hb).more hb.size) hx0 hn0 hm0 m hm
    rw [hS] at h
    exact h)
  have HW := hide (fun w => wakes_any w)
  have HB := hide (Below.refl W.heap.size W)
  have he0 : 0 ≤ e := he.1
  have HE64 := hide he
  clear hm hS hu h0 he hx0
  go_enter Try.func3, Try.ntmps3
  go_wp2_with fail
  obtain ⟨g3, hg3⟩ : ∃ g, W.heap.size = g := ⟨_, rfl⟩
  have hWg3 : W.heap.size ≤ g3 := by rw [← hg3]; exact HB.out.size
  have hbx : Below W.heap.size W (W.alloc (.cells #[.int .u64 e, .slice A0 n0 c0] 25)) := (Below.refl _ _).alloc (Nat.le_refl _) _
  have hrx := RowAt.new W 25 #[.int .u64 e, .slice A0 n0 c0]
  rw [hg3] at hrx
  replace HB := hide (HB.out.trans (hbx.mono HB.out.size))
  have hs1 : (W.alloc (.cells #[.int .u64 e, .slice A0 n0 c0] 25)).heap.size = g3 + 1 := by rw [World.size_alloc, hg3]
  have R3 := hide hrx
  clear hbx hrx
  generalize W.alloc (.cells #[.int .u64 e, .slice A0 n0 c0] 25) = w2 at *
  (try rw [hg3])
  clear hg3 hs1
  with_reducible refine (HW.out _).mono ?_
  rintro e w3 ⟨rfl, hb⟩
  replace R3 := hide (R3.out.below hb)
  replace HB := hide (HB.out.trans (hb.mono HB.out.size))
  clear hb HW
  have qR3_0 := row20 R3.out
  have qR3_1 := row21 R3.out
  have lR3 := R3.out.lt
  go_wp2_with fail
  clear qR3_0 qR3_1 lR3
  with_reducible refine (HOWN.out _ HB.out).mono ?_
  rintro e w4 ⟨A7, c7, rfl, hc7, hcm7, hrd, hfr, hb⟩
  replace R3 := hide (R3.out.below hb)
  replace HB := hide (HB.out.trans (hb.mono HB.out.size))
  have HA := hide (hrd)
  clear hb hrd hfr
  go_wp2_with fail
  obtain ⟨g7, hg7⟩ : ∃ g, w4.heap.size = g := ⟨_, rfl⟩
  have hWg7 : W.heap.size ≤ g7 := by rw [← hg7]; exact HB.out.size
  have hbx : Below w4.heap.size w4 (w4.alloc (.cells #[.int .u64 e, .slice A7 m c7] 25)) := (Below.refl _ _).alloc (Nat.le_refl _) _
  have hrx := RowAt.new w4 25 #[.int .u64 e, .slice A7 m c7]
  rw [hg7] at hrx
  replace HA := hide ((HA.out.below hbx).more hbx.size)
  replace R3 := hide (R3.out.below hbx)
  replace HB := hide (HB.out.trans (hbx.mono HB.out.size))
  have hs5 : (w4.alloc (.cells #[.int .u64 e, .slice A7 m c7] 25)).heap.size = g7 + 1 := by rw [World.size_alloc, hg7]
  have R7 := hide hrx
  clear hbx hrx
  generalize w4.alloc (.cells #[.int .u64 e, .slice A7 m c7] 25) = w6 at *
  (try rw [hg7])
  clear hg7 hs5
  obtain ⟨r, hr⟩ : ∃ r, pOk e S = r := ⟨_, rfl⟩
  have HRI := hide (fun w (h : Rd w w.heap.size 1 A7 m (Cs encW S)) => rright_any A7 c7 m e S w h HSL.out (by omega) he0 HU.out r hr)
  have HR := hide hr
  clear hr
  have qR7_0 := row20 R7.out
  have qR7_1 := row21 R7.out
  have lR7 := R7.out.lt
  go_wp2_with fail
  clear qR7_0 qR7_1 lR7
  with_reducible refine (HRI.out _ HA.out).mono ?_
  rintro e w7 ⟨rfl, hb⟩
  replace HA := hide ((HA.out.below hb).more hb.size)
  replace R3 := hide (R3.out.below hb)
  replace R7 := hide (R7.out.below hb)
  replace HB := hide (HB.out.trans (hb.mono HB.out.size))
  clear hb HRI
  go_wp2_with fail
  with_reducible refine (CloneO W.heap.size A1 k c1 (Cs encO L) w7 (HRY.out.below HB.out) HB.out.size (Cs_one_cell encO_one _) (by omega)).mono ?_
  rintro e w8 ⟨v, rfl, hown, hb⟩
  replace HA := hide ((HA.out.below hb).more hb.size)
  replace R3 := hide (R3.out.below hb)
  replace R7 := hide (R7.out.below hb)
  replace HB := hide (HB.out.trans (hb.mono HB.out.size))
  clear hb
  obtain ⟨A8, c8, rfl, hc8, hcm8⟩ := own_form2 hown
  have HL8 := hide (Rd.of_own hown)
  clear hown
  cases r
  · skip
    go_wp2_with fail
    obtain ⟨lo, hlo⟩ : ∃ l, w8.heap.size = l := ⟨_, rfl⟩
    go_loopw [33] (fun i wr => ∃ (j : Nat), j ≤ k ∧ i = .int .i64 j ∧ Below w8.heap.size w8 wr) (fun i _ => k - (intOf i).toNat)
    case atStart => exact ⟨0, by omega, rfl, Below.refl _ _⟩
    case round =>
      obtain ⟨j, hj, rfl, hbr⟩ := hrel
      have HBr := hide hbr
      clear hbr
      by_cases hlt : j < k
      · skip
        have hL8 := HL8.out.below HBr.out
        rw [← HLL.out] at hL8
        obtain ⟨b1, o1, hA8, hb1, hc1⟩ := hL8.elem encO_len (by rw [HLL.out]; exact hlt)
        have hd10 := hc1 0 _ (by omega) rfl
        have hd11 := hc1 1 _ (by omega) rfl
        have hd12 := hc1 2 _ (by omega) rfl
        simp only [Nat.add_zero] at hd10
        subst hA8
        have hbl1 : b1 < wr.heap.size := by have := HBr.out.size; omega
        have HBj := hide (HLU.out _ (List.getElem_mem (show j < L.length by rw [HLL.out]; exact hlt)))
        clear hc1 hL8
        have hjL : j < L.length := by rw [HLL.out]; exact hlt
        generalize L[j] = q at *
        obtain ⟨ka, ga, ba⟩ := q
        dsimp only at hd10 hd11 hd12 HBj
        obtain ⟨E1, hE1⟩ : ∃ E, doE e S ka ga ba = E := ⟨_, rfl⟩
        obtain ⟨X1, hX1⟩ : ∃ E, doX e S ka ga ba = E := ⟨_, rfl⟩
        obtain ⟨Y1, hY1⟩ : ∃ E, doS e S ka ga ba = E := ⟨_, rfl⟩
        obtain ⟨m1, hm1⟩ : ∃ E, Y1.length = E := ⟨_, rfl⟩
        have hm1l : m1 ≤ 4096 := by
          have := doS_length e S ka ga ba
          rw [hY1, hm1, HSL.out] at this
          omega
        have HDO := hide (fun w (hr : Rd w w.heap.size 1 A7 m (Cs encW S)) => Do_any A7 c7 m e S ka ga ba w hr HSL.out he0 HU.out HBj.out (by omega) E1 X1 Y1 m1 hE1 hX1 hY1 hm1)
        obtain ⟨z1, z2, z3⟩ := doNo HR.out ka ga ba
        rw [hE1] at z1
        rw [hX1] at z2
        rw [hY1] at z3
        have z4 : m1 = 0 := by rw [← hm1, z3]; rfl
        have HM1 := hide hm1
        clear hE1 hX1 hY1 hm1
        subst z1 z2 z3 z4
        have qR7_0 := row20 (R7.out.below HBr.out)
        have qR7_1 := row21 (R7.out.below HBr.out)
        have lR7 := (R7.out.below HBr.out).lt
        go_wp2_with fail
        clear qR7_0 qR7_1 lR7
        clear hd10 hd11 hd12 hbl1
        obtain ⟨gO, hgO⟩ : ∃ g, wr.heap.size = g := ⟨_, rfl⟩
        have hWgO : w8.heap.size ≤ gO := by rw [← hgO]; exact HBr.out.size
        have hbx : Below wr.heap.size wr (wr.alloc (.cells #[.int .i64 ka, .int .i64 ga, .int .u64 ba] 32)) := (Below.refl _ _).alloc (Nat.le_refl _) _
        have hrx := RowAt.new wr 32 #[.int .i64 ka, .int .i64 ga, .int .u64 ba]
        rw [hgO] at hrx
        replace HBr := hide (HBr.out.trans (hbx.mono HBr.out.size))
        have hs101 : (wr.alloc (.cells #[.int .i64 ka, .int .i64 ga, .int .u64 ba] 32)).heap.size = gO + 1 := by rw [World.size_alloc, hgO]
        have RO := hide hrx
        clear hbx hrx
        generalize wr.alloc (.cells #[.int .i64 ka, .int .i64 ga, .int .u64 ba] 32) = w102 at *
        (try rw [hgO])
        clear hgO hs101
        have LD := hide HBr.out.size
        with_reducible refine (HDO.out _ ((HA.out.below HBr.out).more HBr.out.size)).mono ?_
        rintro e w103 ⟨A9, c9, rfl, hc9, hcm9, hout, hb⟩
        replace RO := hide (RO.out.below hb)
        replace HBr := hide (HBr.out.trans (hb.mono HBr.out.size))
        have HO := hide (hout)
        have LE := hide (hb.size)
        clear hb hout HDO
        have qRO_0 := row30 RO.out
        have qRO_1 := row31 RO.out
        have qRO_2 := row32 RO.out
        have lRO := RO.out.lt
        have qR7_0 := row20 (R7.out.below HBr.out)
        have qR7_1 := row21 (R7.out.below HBr.out)
        have lR7 := (R7.out.below HBr.out).lt
        go_wp2_with fail
        clear qRO_0 qRO_1 qRO_2 lRO qR7_0 qR7_1 lR7
        obtain ⟨g9, hg9⟩ : ∃ g, w103.heap.size = g := ⟨_, rfl⟩
        have hWg9 : w8.heap.size ≤ g9 := by rw [← hg9]; exact HBr.out.size
        have hbx : Below w103.heap.size w103 (w103.alloc (.cells #[.int .u64 0, .slice A9 0 c9] 25)) := (Below.refl _ _).alloc (Nat.le_refl _) _
        have hrx := RowAt.new w103 25 #[.int .u64 0, .slice A9 0 c9]
        rw [hg9] at hrx
        replace RO := hide (RO.out.below hbx)
        replace HO := hide (HO.out.below hbx)
        replace LE := hide (Nat.le_trans LE.out hbx.size)
        replace HBr := hide (HBr.out.trans (hbx.mono HBr.out.size))
        have hs104 : (w103.alloc (.cells #[.int .u64 0, .slice A9 0 c9] 25)).heap.size = g9 + 1 := by rw [World.size_alloc, hg9]
        have R9 := hide hrx
        clear hbx hrx
        generalize w103.alloc (.cells #[.int .u64 0, .slice A9 0 c9] 25) = w105 at *
        have hbx : Below w105.heap.size w105 (w105.alloc (.cells #[.int .u64 0, .slice none 0 0] 25)) := (Below.refl _ _).alloc (Nat.le_refl _) _
        have hrx := RowAt.new w105 25 #[.int .u64 0, .slice none 0 0]
        rw [hs104] at hrx
        replace RO := hide (RO.out.below hbx)
        replace R9 := hide (R9.out.below hbx)
        replace HO := hide (HO.out.below hbx)
        replace LE := hide (Nat.le_trans LE.out hbx.size)
        replace HBr := hide (HBr.out.trans (hbx.mono HBr.out.size))
        have hs106 : (w105.alloc (.cells #[.int .u64 0, .slice none 0 0] 25)).heap.size = g9 + 1 + 1 := by rw [World.size_alloc, hs104]
        have R11 := hide hrx
        clear hbx hrx
        generalize w105.alloc (.cells #[.int .u64 0, .slice none 0 0] 25) = w107 at *
        (try rw [hg9])
        clear hg9 hs104 hs106
        have qR9_0 := row20 R9.out
        have qR9_1 := row21 R9.out
        have lR9 := R9.out.lt
        have qR11_0 := row20 R11.out
        have qR11_1 := row21 R11.out
        have lR11 := R11.out.lt
        go_wp2_with fail
        clear qR9_0 qR9_1 lR9 qR11_0 qR11_1 lR11
        with_reducible refine (rsame_any A9 none c9 0 0 0 0 0 [] [] _ HO.out.rd Rd.none_ rfl rfl (by omega) (by omega) true (by simp)).mono ?_
        rintro e w108 ⟨rfl, hb⟩
        replace RO := hide (RO.out.below hb)
        replace R9 := hide (R9.out.below hb)
        replace R11 := hide (R11.out.below hb)
        replace HO := hide (HO.out.below hb)
        replace LE := hide (Nat.le_trans LE.out hb.size)
        replace HBr := hide (HBr.out.trans (hb.mono HBr.out.size))
        clear hb
        have qR9_0 := row20 R9.out
        have qR9_1 := row21 R9.out
        have lR9 := R9.out.lt
        go_wp2_with fail
        clear qR9_0 qR9_1 lR9
        refine (spoilP A9 c9 0 0 [] _ HO.out (by omega) LE.out).mono ?_
        rintro x w99 ⟨rfl, hbs⟩
        replace HBr := hide (HBr.out.trans (hbs.mono LD.out))
        clear hbs
        go_wp2_with fail
        go_roundw
        case rel => exact ⟨j + 1, by omega, by go_num, HBr.out⟩
        case measure => simp [intOf]; omega
      · skip
        clear hlo
        have hbr := HBr.out
        replace HA := hide ((HA.out.below hbr).more hbr.size)
        replace HL8 := hide ((HL8.out.below hbr).more hbr.size)
        replace R3 := hide (R3.out.below hbr)
        replace R7 := hide (R7.out.below hbr)
        replace HB := hide (HB.out.trans (hbr.mono HB.out.size))
        clear hbr HBr
        obtain ⟨E2, hE2⟩ : ∃ E, rnE e S L = E := ⟨_, rfl⟩
        obtain ⟨⟨X2, Y2, O2⟩, hR2⟩ : ∃ E, rnR e S L = E := ⟨_, rfl⟩
        obtain ⟨m2, hm2⟩ : ∃ E, Y2.length = E := ⟨_, rfl⟩
        have HRUN := hide (fun w (h1 : Rd w w.heap.size 1 A7 m (Cs encW S)) (h2 : Rd w w.heap.size 3 A8 k (Cs encO L)) => Run_any A7 c7 m e S A8 c8 k L w h1 HSL.out (by omega) h2 HLL.out (by omega) HLU.out he0 HU.out E2 X2 Y2 O2 m2 hE2 hR2 hm2)
        have z1 : E2 = 230 := by rw [← hE2]; unfold rnE; rw [HR.out]; rfl
        have z2 : (X2, Y2, O2) = (0, [], 0) := by rw [← hR2]; unfold rnR; rw [HR.out]; rfl
        injection z2 with z2 z3
        injection z3 with z3 z4
        have z5 : m2 = 0 := by rw [← hm2, z3]; rfl
        clear hE2 hR2 hm2
        subst z1 z2 z3 z4 z5
        have qR7_0 := row20 R7.out
        have qR7_1 := row21 R7.out
        have lR7 := R7.out.lt
        go_wp2_with fail
        clear qR7_0 qR7_1 lR7
        obtain ⟨lo, hlo⟩ : ∃ l, wr.heap.size = l := ⟨_, rfl⟩
        have HAb : Hid (Rd wr lo 1 A7 m (Cs encW S)) := hide (by rw [← hlo]; exact HA.out)
        have LO : Hid (lo ≤ wr.heap.size) := hide (Nat.le_of_eq hlo.symm)
        have hl3 : g3 < lo := by rw [← hlo]; exact R3.out.lt
        have hl7 : g7 < lo := by rw [← hlo]; exact R7.out.lt
        have hlW : W.heap.size ≤ lo := by rw [← hlo]; exact HB.out.size
        have HLO := hide hlo
        clear hlo
        with_reducible refine (HRUN.out _ HA.out HL8.out).mono ?_
        rintro e w201 ⟨A13, c13, rfl, hc13, hcm13, hout, hb⟩
        replace HA := hide ((HA.out.below hb).more hb.size)
        replace HL8 := hide ((HL8.out.below hb).more hb.size)
        replace HAb := hide (HAb.out.below (hb.mono LO.out))
        replace R3 := hide (R3.out.below hb)
        replace R7 := hide (R7.out.below hb)
        replace LO := hide (Nat.le_trans LO.out hb.size)
        replace HB := hide (HB.out.trans (hb.mono HB.out.size))
        have HO2 := hide (hout)
        have LE2 := hide (hb.size)
        clear hb hout HRUN
        have qR7_0 := row20 R7.out
        have qR7_1 := row21 R7.out
        have lR7 := R7.out.lt
        go_wp2_with fail
        clear qR7_0 qR7_1 lR7
        obtain ⟨g13, hg13⟩ : ∃ g, w201.heap.size = g := ⟨_, rfl⟩
        have hWg13 : W.heap.size ≤ g13 := by rw [← hg13]; exact HB.out.size
        have hbx : Below w201.heap.size w201 (w201.alloc (.cells #[.int .u64 0, .slice A13 0 c13] 25)) := (Below.refl _ _).alloc (Nat.le_refl _) _
        have hrx := RowAt.new w201 25 #[.int .u64 0, .slice A13 0 c13]
        rw [hg13] at hrx
        replace HA := hide ((HA.out.below hbx).more hbx.size)
        replace HL8 := hide ((HL8.out.below hbx).more hbx.size)
        replace HAb := hide (HAb.out.below (hbx.mono LO.out))
        replace R3 := hide (R3.out.below hbx)
        replace R7 := hide (R7.out.below hbx)
        replace HO2 := hide (HO2.out.below hbx)
        replace LO := hide (Nat.le_trans LO.out hbx.size)
        replace LE2 := hide (Nat.le_trans LE2.out hbx.size)
        replace HB := hide (HB.out.trans (hbx.mono HB.out.size))
        have hs202 : (w201.alloc (.cells #[.int .u64 0, .slice A13 0 c13] 25)).heap.size = g13 + 1 := by rw [World.size_alloc, hg13]
        have R13 := hide hrx
        clear hbx hrx
        generalize w201.alloc (.cells #[.int .u64 0, .slice A13 0 c13] 25) = w203 at *
        have hbx : Below w203.heap.size w203 (w203.alloc (.cells #[.int .u64 0, .slice none 0 0] 25)) := (Below.refl _ _).alloc (Nat.le_refl _) _
        have hrx := RowAt.new w203 25 #[.int .u64 0, .slice none 0 0]
        rw [hs202] at hrx
        replace HA := hide ((HA.out.below hbx).more hbx.size)
        replace HL8 := hide ((HL8.out.below hbx).more hbx.size)
        replace HAb := hide (HAb.out.below (hbx.mono LO.out))
        replace R3 := hide (R3.out.below hbx)
        replace R7 := hide (R7.out.below hbx)
        replace R13 := hide (R13.out.below hbx)
        replace HO2 := hide (HO2.out.below hbx)
        replace LO := hide (Nat.le_trans LO.out hbx.size)
        replace LE2 := hide (Nat.le_trans LE2.out hbx.size)
        replace HB := hide (HB.out.trans (hbx.mono HB.out.size))
        have hs204 : (w203.alloc (.cells #[.int .u64 0, .slice none 0 0] 25)).heap.size = g13 + 1 + 1 := by rw [World.size_alloc, hs202]
        have R16 := hide hrx
        clear hbx hrx
        generalize w203.alloc (.cells #[.int .u64 0, .slice none 0 0] 25) = w205 at *
        (try rw [hg13])
        clear hg13 hs202 hs204
        clear HA HL8
        have qR13_0 := row20 R13.out
        have qR13_1 := row21 R13.out
        have lR13 := R13.out.lt
        have qR16_0 := row20 R16.out
        have qR16_1 := row21 R16.out
        have lR16 := R16.out.lt
        go_wp2_with fail
        clear qR13_0 qR13_1 lR13 qR16_0 qR16_1 lR16
        with_reducible refine (rsame_any A13 none c13 0 0 0 0 0 [] [] _ HO2.out.rd Rd.none_ rfl rfl (by omega) (by omega) true (by simp)).mono ?_
        rintro e w206 ⟨rfl, hb⟩
        replace HAb := hide (HAb.out.below (hb.mono LO.out))
        replace R3 := hide (R3.out.below hb)
        replace R7 := hide (R7.out.below hb)
        replace R13 := hide (R13.out.below hb)
        replace R16 := hide (R16.out.below hb)
        replace HO2 := hide (HO2.out.below hb)
        replace LO := hide (Nat.le_trans LO.out hb.size)
        replace LE2 := hide (Nat.le_trans LE2.out hb.size)
        replace HB := hide (HB.out.trans (hb.mono HB.out.size))
        clear hb
        have qR13_0 := row20 R13.out
        have qR13_1 := row21 R13.out
        have lR13 := R13.out.lt
        go_wp2_with fail
        clear qR13_0 qR13_1 lR13
        clear R16 R13
        refine (spoilP A13 c13 0 0 [] _ HO2.out (by omega) LE2.out).mono ?_
        rintro x w999 ⟨rfl, hbs⟩
        rw [HLO.out] at hbs
        clear HO2 LE2
        replace R3 := hide (R3.out.belowB (by omega) hbs)
        replace R7 := hide (R7.out.belowB (by omega) hbs)
        replace HAb := hide (HAb.out.below (hbs.mono (by omega)))
        replace LO := hide (Nat.le_trans LO.out hbs.size)
        replace HB := hide (HB.out.trans (hbs.mono (by omega)))
        clear hbs
        have QX : Hid (∀ w, Below w999.heap.size w999 w → Calls Try.prog 9 #[.agg #[.int .u64 e, .slice A0 n0 c0]] w fun e' W' => ∃ A' c', e' = .returned (.agg #[.int .u64 e, .slice A' m c']) ∧ Rd W' W'.heap.size 1 A' m (Cs encW S) ∧ Below w.heap.size w W') := hide (fun w hw => (HOWN.out w (HB.out.trans (hw.mono HB.out.size))).mono fun e' W' ⟨A', c', e1, _, _, e3, _, e5⟩ => ⟨A', c', e1, e3, e5⟩)
        have QS : Hid (∀ w A' c', Below w999.heap.size w999 w → Rd w w.heap.size 1 A' m (Cs encW S) → Calls Try.prog 14 #[.agg #[.int .u64 e, .slice A7 m c7], .agg #[.int .u64 e, .slice A' m c']] w fun e W' => e = .returned (.bool true) ∧ Below w.heap.size w W') := hide (fun w A' c' hw hr => rsame_any A7 A' c7 c' m m e e S S w ((HAb.out.below (hw.mono LO.out)).more (Nat.le_trans LO.out hw.size)) hr HSL.out HSL.out (by omega) (by omega) true (by simp))
        have qR7_0 := row20 R7.out
        have qR7_1 := row21 R7.out
        have lR7 := R7.out.lt
        have qR3_0 := row20 R3.out
        have qR3_1 := row21 R3.out
        have lR3 := R3.out.lt
        have HS : Hid (∀ w w', (Below w999.heap.size w999 w ∧ w.cell? ⟨g7, 0, none⟩ = some (.int .u64 e) ∧ w.cell? ⟨g7, 1, none⟩ = some (.slice A7 m c7) ∧ w.cell? ⟨g3, 0, none⟩ = some (.int .u64 e) ∧ w.cell? ⟨g3, 1, none⟩ = some (.slice A0 n0 c0)) → Below w.heap.size w w' → (Below w999.heap.size w999 w' ∧ w'.cell? ⟨g7, 0, none⟩ = some (.int .u64 e) ∧ w'.cell? ⟨g7, 1, none⟩ = some (.slice A7 m c7) ∧ w'.cell? ⟨g3, 0, none⟩ = some (.int .u64 e) ∧ w'.cell? ⟨g3, 1, none⟩ = some (.slice A0 n0 c0))) := hide (fun w w' h hb => ⟨h.1.trans (hb.mono h.1.size), kept hb h.2.1, kept hb h.2.2.1, kept hb h.2.2.2.1, kept hb h.2.2.2.2⟩)
        go_wp2_with fail
        have hbd0 : Below w999.heap.size w999 w999.drew := (Below.refl _ _).drew
        go_region_held3 (fun wX => Below w999.heap.size w999 wX ∧ wX.cell? ⟨g7, 0, none⟩ = some (.int .u64 e) ∧ wX.cell? ⟨g7, 1, none⟩ = some (.slice A7 m c7) ∧ wX.cell? ⟨g3, 0, none⟩ = some (.int .u64 e) ∧ wX.cell? ⟨g3, 1, none⟩ = some (.slice A0 n0 c0))
          (first | exact HS.out _ _ ‹_› hb | exact ⟨hbd0, qR7_0, qR7_1, qR3_0, qR3_1⟩ | go_keep)
          (first
            | (go_at_call 9; with_reducible refine (QX.out _ (And.left ‹Below w999.heap.size w999 _ ∧ _›)).mono ?_; rintro e wq ⟨Ay, cy, rfl, hrdy, hb⟩)
            | (go_at_call 14; with_reducible refine (QS.out _ _ _ (And.left ‹Below w999.heap.size w999 _ ∧ _›) hrdy).mono ?_; rintro e wq ⟨rfl, hb⟩))
        have hbd := And.left ‹Below w999.heap.size w999 _ ∧ _›
        clear qR7_0 qR7_1 lR7 qR3_0 qR3_1 lR3 HS
        go_wp2_with fail
        go_ret
        exact ⟨rfl, HB.out.trans (hbd.mono HB.out.size)⟩
  · skip
    go_wp2_with fail
    obtain ⟨lo, hlo⟩ : ∃ l, w8.heap.size = l := ⟨_, rfl⟩
    go_loopw [33] (fun i wr => ∃ (j : Nat), j ≤ k ∧ i = .int .i64 j ∧ Below w8.heap.size w8 wr) (fun i _ => k - (intOf i).toNat)
    case atStart => exact ⟨0, by omega, rfl, Below.refl _ _⟩
    case round =>
      obtain ⟨j, hj, rfl, hbr⟩ := hrel
      have HBr := hide hbr
      clear hbr
      by_cases hlt : j < k
      · skip
        have hL8 := HL8.out.below HBr.out
        rw [← HLL.out] at hL8
        obtain ⟨b1, o1, hA8, hb1, hc1⟩ := hL8.elem encO_len (by rw [HLL.out]; exact hlt)
        have hd10 := hc1 0 _ (by omega) rfl
        have hd11 := hc1 1 _ (by omega) rfl
        have hd12 := hc1 2 _ (by omega) rfl
        simp only [Nat.add_zero] at hd10
        subst hA8
        have hbl1 : b1 < wr.heap.size := by have := HBr.out.size; omega
        have HBj := hide (HLU.out _ (List.getElem_mem (show j < L.length by rw [HLL.out]; exact hlt)))
        clear hc1 hL8
        have hjL : j < L.length := by rw [HLL.out]; exact hlt
        generalize L[j] = q at *
        obtain ⟨ka, ga, ba⟩ := q
        dsimp only at hd10 hd11 hd12 HBj
        obtain ⟨E1, hE1⟩ : ∃ E, doE e S ka ga ba = E := ⟨_, rfl⟩
        obtain ⟨X1, hX1⟩ : ∃ E, doX e S ka ga ba = E := ⟨_, rfl⟩
        obtain ⟨Y1, hY1⟩ : ∃ E, doS e S ka ga ba = E := ⟨_, rfl⟩
        obtain ⟨m1, hm1⟩ : ∃ E, Y1.length = E := ⟨_, rfl⟩
        have hm1l : m1 ≤ 4096 := by
          have := doS_length e S ka ga ba
          rw [hY1, hm1, HSL.out] at this
          omega
        have HDO := hide (fun w (hr : Rd w w.heap.size 1 A7 m (Cs encW S)) => Do_any A7 c7 m e S ka ga ba w hr HSL.out he0 HU.out HBj.out (by omega) E1 X1 Y1 m1 hE1 hX1 hY1 hm1)
        have HRDO := hide (fun w (hr : Rd w w.heap.size 1 A7 m (Cs encW S)) => rDo_any A7 c7 m e S ka ga ba w hr HSL.out he0 HU.out HBj.out HR.out E1 X1 Y1 m1 hE1 hX1 hY1 hm1)
        have HM1 := hide hm1
        clear hE1 hX1 hY1 hm1
        have qR7_0 := row20 (R7.out.below HBr.out)
        have qR7_1 := row21 (R7.out.below HBr.out)
        have lR7 := (R7.out.below HBr.out).lt
        go_wp2_with fail
        clear qR7_0 qR7_1 lR7
        clear hd10 hd11 hd12 hbl1
        obtain ⟨gO, hgO⟩ : ∃ g, wr.heap.size = g := ⟨_, rfl⟩
        have hWgO : w8.heap.size ≤ gO := by rw [← hgO]; exact HBr.out.size
        have hbx : Below wr.heap.size wr (wr.alloc (.cells #[.int .i64 ka, .int .i64 ga, .int .u64 ba] 32)) := (Below.refl _ _).alloc (Nat.le_refl _) _
        have hrx := RowAt.new wr 32 #[.int .i64 ka, .int .i64 ga, .int .u64 ba]
        rw [hgO] at hrx
        replace HBr := hide (HBr.out.trans (hbx.mono HBr.out.size))
        have hs101 : (wr.alloc (.cells #[.int .i64 ka, .int .i64 ga, .int .u64 ba] 32)).heap.size = gO + 1 := by rw [World.size_alloc, hgO]
        have RO := hide hrx
        clear hbx hrx
        generalize wr.alloc (.cells #[.int .i64 ka, .int .i64 ga, .int .u64 ba] 32) = w102 at *
        (try rw [hgO])
        clear hgO hs101
        have LD := hide HBr.out.size
        with_reducible refine (HDO.out _ ((HA.out.below HBr.out).more HBr.out.size)).mono ?_
        rintro e w103 ⟨A9, c9, rfl, hc9, hcm9, hout, hb⟩
        replace RO := hide (RO.out.below hb)
        replace HBr := hide (HBr.out.trans (hb.mono HBr.out.size))
        have HO := hide (hout)
        have LE := hide (hb.size)
        clear hb hout HDO
        have qRO_0 := row30 RO.out
        have qRO_1 := row31 RO.out
        have qRO_2 := row32 RO.out
        have lRO := RO.out.lt
        have qR7_0 := row20 (R7.out.below HBr.out)
        have qR7_1 := row21 (R7.out.below HBr.out)
        have lR7 := (R7.out.below HBr.out).lt
        go_wp2_with fail
        clear qRO_0 qRO_1 qRO_2 lRO qR7_0 qR7_1 lR7
        obtain ⟨g9, hg9⟩ : ∃ g, w103.heap.size = g := ⟨_, rfl⟩
        have hWg9 : w8.heap.size ≤ g9 := by rw [← hg9]; exact HBr.out.size
        have HGS1 := hide (fun gs (hn : 0 < m1) (h : A9 = some (⟨gs, 0, none⟩ : Addr)) => (show gs < g9 from by
          obtain ⟨gs2, h1, h2, h3⟩ := HO.out.own hn
          rw [h] at h1
          injection h1 with h1
          injection h1 with h1
          have := h3.lt
          omega))
        have hbx : Below w103.heap.size w103 (w103.alloc (.cells #[.int .u64 X1, .slice A9 m1 c9] 25)) := (Below.refl _ _).alloc (Nat.le_refl _) _
        have hrx := RowAt.new w103 25 #[.int .u64 X1, .slice A9 m1 c9]
        rw [hg9] at hrx
        replace RO := hide (RO.out.below hbx)
        replace HO := hide (HO.out.below hbx)
        replace LE := hide (Nat.le_trans LE.out hbx.size)
        replace HBr := hide (HBr.out.trans (hbx.mono HBr.out.size))
        have hs104 : (w103.alloc (.cells #[.int .u64 X1, .slice A9 m1 c9] 25)).heap.size = g9 + 1 := by rw [World.size_alloc, hg9]
        have R9 := hide hrx
        clear hbx hrx
        generalize w103.alloc (.cells #[.int .u64 X1, .slice A9 m1 c9] 25) = w105 at *
        have hbx : Below w105.heap.size w105 (w105.alloc (.cells #[.int .u64 0, .slice none 0 0] 25)) := (Below.refl _ _).alloc (Nat.le_refl _) _
        have hrx := RowAt.new w105 25 #[.int .u64 0, .slice none 0 0]
        rw [hs104] at hrx
        replace RO := hide (RO.out.below hbx)
        replace R9 := hide (R9.out.below hbx)
        replace HO := hide (HO.out.below hbx)
        replace LE := hide (Nat.le_trans LE.out hbx.size)
        replace HBr := hide (HBr.out.trans (hbx.mono HBr.out.size))
        have hs106 : (w105.alloc (.cells #[.int .u64 0, .slice none 0 0] 25)).heap.size = g9 + 1 + 1 := by rw [World.size_alloc, hs104]
        have R11 := hide hrx
        clear hbx hrx
        generalize w105.alloc (.cells #[.int .u64 0, .slice none 0 0] 25) = w107 at *
        (try rw [hg9])
        clear hg9 hs104 hs106
        have HLT11 := hide R11.out.lt
        with_reducible refine (HRDO.out _ ((HA.out.below HBr.out).more HBr.out.size)).mono ?_
        rintro e w108 ⟨A11, c11, rfl, hc11, hcm11, hrd, hfr, hb⟩
        replace RO := hide (RO.out.below hb)
        replace R9 := hide (R9.out.below hb)
        replace R11 := hide (R11.out.below hb)
        replace HO := hide (HO.out.below hb)
        replace LE := hide (Nat.le_trans LE.out hb.size)
        replace HBr := hide (HBr.out.trans (hb.mono HBr.out.size))
        have HD11 := hide (hrd)
        have HF11 := hide (fun (p : Addr) (hp : A11 = some p) => hfr p hp)
        clear hb HRDO hrd hfr
        have qR11_0 := row20 R11.out
        have qR11_1 := row21 R11.out
        have lR11 := R11.out.lt
        have fR11_0 := R11.out.frozen 0
        have fR11_1 := R11.out.frozen 1
        have qR9_0 := row20 R9.out
        have qR9_1 := row21 R9.out
        have lR9 := R9.out.lt
        have hl11 := lR11
        go_wp2_with fail
        clear qR11_0 qR11_1 lR11 fR11_0 fR11_1 qR9_0 qR9_1 lR9 hl11
        have HO11 := hide (fun (p : Addr) (hp : A11 = some p) => (show p.block ≠ g9 + 1 by have h := HF11.out p hp; have h2 := HLT11.out; omega))
        clear RO
        replace HO := hide (show PnOut w102 A9 m1 Y1 ((w108.setCell ⟨g9 + 1, 0, none⟩ (.int .u64 X1)).setCell ⟨g9 + 1, 1, none⟩ (.slice A11 m1 c11)) from ⟨HO.out.len, fun hn => by
          obtain ⟨gs, h1, h2, h3⟩ := HO.out.own hn
          have h4 := HGS1.out gs hn h1
          exact ⟨gs, h1, h2, (h3.setNe (by omega)).setNe (by omega)⟩⟩)
        have R11' := hide ((R11.out.set 0 (.int .u64 X1)).set 1 (.slice A11 m1 c11))
        replace HD11 := hide (((HD11.out.setOffS (g := g9 + 1) (HO11.out) 0 (.int .u64 X1)).setOffS (g := g9 + 1) (HO11.out) 1 (.slice A11 m1 c11)))
        replace R9 := hide (((R9.out.setNe (o := 0) (v := (.int .u64 X1)) (g2 := g9 + 1) (by omega)).setNe (o := 1) (v := (.slice A11 m1 c11)) (g2 := g9 + 1) (by omega)))
        replace HBr := hide (((HBr.out.setCell (p := ⟨g9 + 1, 0, none⟩) (by show _ ≤ g9 + 1; omega) (.int .u64 X1)).setCell (p := ⟨g9 + 1, 1, none⟩) (by show _ ≤ g9 + 1; omega) (.slice A11 m1 c11)))
        replace LE : Hid (_ ≤ ((w108.setCell ⟨g9 + 1, 0, none⟩ (.int .u64 X1)).setCell ⟨g9 + 1, 1, none⟩ (.slice A11 m1 c11)).heap.size) := hide (by simpa using LE.out)
        generalize ((w108.setCell ⟨g9 + 1, 0, none⟩ (.int .u64 X1)).setCell ⟨g9 + 1, 1, none⟩ (.slice A11 m1 c11)) = w109 at *
        replace R11 : Hid (RowAt w109 (g9 + 1) 25 #[.int .u64 X1, .slice A11 m1 c11]) := hide (by simpa using R11'.out)
        clear R11'
        have qR9_0 := row20 R9.out
        have qR9_1 := row21 R9.out
        have lR9 := R9.out.lt
        have qR11_0 := row20 R11.out
        have qR11_1 := row21 R11.out
        have lR11 := R11.out.lt
        go_wp2_with fail
        clear qR9_0 qR9_1 lR9 qR11_0 qR11_1 lR11
        with_reducible refine (rsame_any A9 A11 c9 c11 m1 m1 X1 X1 Y1 Y1 _ HO.out.rd HD11.out HM1.out HM1.out hm1l hm1l true (by simp)).mono ?_
        rintro e w110 ⟨rfl, hb⟩
        replace HD11 := hide ((HD11.out.below hb).more hb.size)
        replace R9 := hide (R9.out.below hb)
        replace R11 := hide (R11.out.below hb)
        replace HO := hide (HO.out.below hb)
        replace LE := hide (Nat.le_trans LE.out hb.size)
        replace HBr := hide (HBr.out.trans (hb.mono HBr.out.size))
        clear hb
        have qR9_0 := row20 R9.out
        have qR9_1 := row21 R9.out
        have lR9 := R9.out.lt
        go_wp2_with fail
        clear qR9_0 qR9_1 lR9
        refine (spoilP A9 c9 m1 X1 Y1 _ HO.out (hm1l) LE.out).mono ?_
        rintro x w99 ⟨rfl, hbs⟩
        replace HBr := hide (HBr.out.trans (hbs.mono LD.out))
        clear hbs
        go_wp2_with fail
        go_roundw
        case rel => exact ⟨j + 1, by omega, by go_num, HBr.out⟩
        case measure => simp [intOf]; omega
      · skip
        clear hlo
        have hbr := HBr.out
        replace HA := hide ((HA.out.below hbr).more hbr.size)
        replace HL8 := hide ((HL8.out.below hbr).more hbr.size)
        replace R3 := hide (R3.out.below hbr)
        replace R7 := hide (R7.out.below hbr)
        replace HB := hide (HB.out.trans (hbr.mono HB.out.size))
        clear hbr HBr
        obtain ⟨E2, hE2⟩ : ∃ E, rnE e S L = E := ⟨_, rfl⟩
        obtain ⟨⟨X2, Y2, O2⟩, hR2⟩ : ∃ E, rnR e S L = E := ⟨_, rfl⟩
        obtain ⟨m2, hm2⟩ : ∃ E, Y2.length = E := ⟨_, rfl⟩
        have hm2l : m2 ≤ 4096 := by
          have h := hR2
          unfold rnR at h
          rw [HR.out, if_pos rfl] at h
          cases hq : runP e S 0 L with
          | none => rw [hq] at h; injection h with h3 h4; injection h4 with h4 h5; rw [← hm2, ← h4]; simp
          | some q => rw [hq] at h; have h3 := runP_length e S 0 L q hq; simp only at h; subst h; simp only at h3; rw [← hm2, h3, HSL.out]; omega
        have HRRUN := hide (fun w A c (h1 : Rd w w.heap.size 1 A m (Cs encW S)) (h2 : Rd w w.heap.size 3 A8 k (Cs encO L)) => rRun_any A c m e S A8 c8 k L w h1 HSL.out h2 HLL.out (by omega) HLU.out he0 HU.out HR.out E2 X2 Y2 O2 m2 hE2 hR2 hm2)
        have HRUN := hide (fun w (h1 : Rd w w.heap.size 1 A7 m (Cs encW S)) (h2 : Rd w w.heap.size 3 A8 k (Cs encO L)) => Run_any A7 c7 m e S A8 c8 k L w h1 HSL.out (by omega) h2 HLL.out (by omega) HLU.out he0 HU.out E2 X2 Y2 O2 m2 hE2 hR2 hm2)
        have HM2 := hide hm2
        clear hE2 hR2 hm2
        have qR7_0 := row20 R7.out
        have qR7_1 := row21 R7.out
        have lR7 := R7.out.lt
        go_wp2_with fail
        clear qR7_0 qR7_1 lR7
        obtain ⟨lo, hlo⟩ : ∃ l, wr.heap.size = l := ⟨_, rfl⟩
        have HAb : Hid (Rd wr lo 1 A7 m (Cs encW S)) := hide (by rw [← hlo]; exact HA.out)
        have LO : Hid (lo ≤ wr.heap.size) := hide (Nat.le_of_eq hlo.symm)
        have hl3 : g3 < lo := by rw [← hlo]; exact R3.out.lt
        have hl7 : g7 < lo := by rw [← hlo]; exact R7.out.lt
        have hlW : W.heap.size ≤ lo := by rw [← hlo]; exact HB.out.size
        have HLO := hide hlo
        clear hlo
        with_reducible refine (HRUN.out _ HA.out HL8.out).mono ?_
        rintro e w201 ⟨A13, c13, rfl, hc13, hcm13, hout, hb⟩
        replace HA := hide ((HA.out.below hb).more hb.size)
        replace HL8 := hide ((HL8.out.below hb).more hb.size)
        replace HAb := hide (HAb.out.below (hb.mono LO.out))
        replace R3 := hide (R3.out.below hb)
        replace R7 := hide (R7.out.below hb)
        replace LO := hide (Nat.le_trans LO.out hb.size)
        replace HB := hide (HB.out.trans (hb.mono HB.out.size))
        have HO2 := hide (hout)
        have LE2 := hide (hb.size)
        clear hb hout HRUN
        have qR7_0 := row20 R7.out
        have qR7_1 := row21 R7.out
        have lR7 := R7.out.lt
        go_wp2_with fail
        clear qR7_0 qR7_1 lR7
        obtain ⟨g13, hg13⟩ : ∃ g, w201.heap.size = g := ⟨_, rfl⟩
        have hWg13 : W.heap.size ≤ g13 := by rw [← hg13]; exact HB.out.size
        have HGS2 := hide (fun gs (hn : 0 < m2) (h : A13 = some (⟨gs, 0, none⟩ : Addr)) => (show gs < g13 from by
          obtain ⟨gs2, h1, h2, h3⟩ := HO2.out.own hn
          rw [h] at h1
          injection h1 with h1
          injection h1 with h1
          have := h3.lt
          omega))
        have HLG := hide (show lo ≤ g13 by rw [← hg13]; exact LO.out)
        have hbx : Below w201.heap.size w201 (w201.alloc (.cells #[.int .u64 X2, .slice A13 m2 c13] 25)) := (Below.refl _ _).alloc (Nat.le_refl _) _
        have hrx := RowAt.new w201 25 #[.int .u64 X2, .slice A13 m2 c13]
        rw [hg13] at hrx
        replace HA := hide ((HA.out.below hbx).more hbx.size)
        replace HL8 := hide ((HL8.out.below hbx).more hbx.size)
        replace HAb := hide (HAb.out.below (hbx.mono LO.out))
        replace R3 := hide (R3.out.below hbx)
        replace R7 := hide (R7.out.below hbx)
        replace HO2 := hide (HO2.out.below hbx)
        replace LO := hide (Nat.le_trans LO.out hbx.size)
        replace LE2 := hide (Nat.le_trans LE2.out hbx.size)
        replace HB := hide (HB.out.trans (hbx.mono HB.out.size))
        have hs202 : (w201.alloc (.cells #[.int .u64 X2, .slice A13 m2 c13] 25)).heap.size = g13 + 1 := by rw [World.size_alloc, hg13]
        have R13 := hide hrx
        clear hbx hrx
        generalize w201.alloc (.cells #[.int .u64 X2, .slice A13 m2 c13] 25) = w203 at *
        have hbx : Below w203.heap.size w203 (w203.alloc (.cells #[.int .u64 0, .slice none 0 0] 25)) := (Below.refl _ _).alloc (Nat.le_refl _) _
        have hrx := RowAt.new w203 25 #[.int .u64 0, .slice none 0 0]
        rw [hs202] at hrx
        replace HA := hide ((HA.out.below hbx).more hbx.size)
        replace HL8 := hide ((HL8.out.below hbx).more hbx.size)
        replace HAb := hide (HAb.out.below (hbx.mono LO.out))
        replace R3 := hide (R3.out.below hbx)
        replace R7 := hide (R7.out.below hbx)
        replace R13 := hide (R13.out.below hbx)
        replace HO2 := hide (HO2.out.below hbx)
        replace LO := hide (Nat.le_trans LO.out hbx.size)
        replace LE2 := hide (Nat.le_trans LE2.out hbx.size)
        replace HB := hide (HB.out.trans (hbx.mono HB.out.size))
        have hs204 : (w203.alloc (.cells #[.int .u64 0, .slice none 0 0] 25)).heap.size = g13 + 1 + 1 := by rw [World.size_alloc, hs202]
        have R16 := hide hrx
        clear hbx hrx
        generalize w203.alloc (.cells #[.int .u64 0, .slice none 0 0] 25) = w205 at *
        (try rw [hg13])
        clear hg13 hs202 hs204
        with_reducible refine ((fun w h => by have h9 := lown_any A7 c7 m e S w h HSL.out hc7 hcm7 m (by omega); rw [List.take_of_length_le (by rw [HSL.out]; exact Nat.le_refl _)] at h9; exact h9 : ∀ w, Rd w w.heap.size 1 A7 m (Cs encW S) → Calls Try.prog 9 #[.agg #[.int .u64 e, .slice A7 m c7]] w (LownRes w e m S)) _ HA.out).mono ?_
        rintro e w206 ⟨A14, c14, rfl, hc14, hcm14, hrd, hfr, hb⟩
        replace HA := hide ((HA.out.below hb).more hb.size)
        replace HL8 := hide ((HL8.out.below hb).more hb.size)
        replace HAb := hide (HAb.out.below (hb.mono LO.out))
        replace R3 := hide (R3.out.below hb)
        replace R7 := hide (R7.out.below hb)
        replace R13 := hide (R13.out.below hb)
        replace R16 := hide (R16.out.below hb)
        replace HO2 := hide (HO2.out.below hb)
        replace LO := hide (Nat.le_trans LO.out hb.size)
        replace LE2 := hide (Nat.le_trans LE2.out hb.size)
        replace HB := hide (HB.out.trans (hb.mono HB.out.size))
        have HD14 := hide (hrd)
        clear hb hrd hfr
        go_wp2_with fail
        have HLT16 := hide R16.out.lt
        with_reducible refine (HRRUN.out _ A14 c14 HD14.out HL8.out).mono ?_
        rintro e w207 ⟨A16, c16, rfl, hc16, hcm16, hrd, hfr, hb⟩
        replace HA := hide ((HA.out.below hb).more hb.size)
        replace HL8 := hide ((HL8.out.below hb).more hb.size)
        replace HD14 := hide ((HD14.out.below hb).more hb.size)
        replace HAb := hide (HAb.out.below (hb.mono LO.out))
        replace R3 := hide (R3.out.below hb)
        replace R7 := hide (R7.out.below hb)
        replace R13 := hide (R13.out.below hb)
        replace R16 := hide (R16.out.below hb)
        replace HO2 := hide (HO2.out.below hb)
        replace LO := hide (Nat.le_trans LO.out hb.size)
        replace LE2 := hide (Nat.le_trans LE2.out hb.size)
        replace HB := hide (HB.out.trans (hb.mono HB.out.size))
        have HD16 := hide (hrd)
        have HF16 := hide (fun (p : Addr) (hp : A16 = some p) => hfr p hp)
        clear hb hrd hfr HRRUN
        have qR16_0 := row20 R16.out
        have qR16_1 := row21 R16.out
        have lR16 := R16.out.lt
        have fR16_0 := R16.out.frozen 0
        have fR16_1 := R16.out.frozen 1
        have qR13_0 := row20 R13.out
        have qR13_1 := row21 R13.out
        have lR13 := R13.out.lt
        go_wp2_with fail
        clear qR16_0 qR16_1 lR16 fR16_0 fR16_1 qR13_0 qR13_1 lR13
        clear HA HL8 HD14
        have HO16 := hide (fun (p : Addr) (hp : A16 = some p) => (show p.block ≠ g13 + 1 by have h := HF16.out p hp; have h2 := HLT16.out; omega))
        have hmpos : 0 < m := by have := (pOk_out HR.out).1; rw [HSL.out] at this; omega
        have HO7 := hide (fun (p : Addr) (hp : A7 = some p) => (show p.block ≠ g13 + 1 by
          obtain ⟨b, off, e1, hb, _⟩ := HAb.out.2 hmpos
          rw [hp] at e1
          injection e1 with e1
          subst e1
          show b ≠ g13 + 1
          have := HLG.out
          omega))
        have hlg := HLG.out
        replace HO2 := hide (show PnOut wr A13 m2 Y2 ((w207.setCell ⟨g13 + 1, 0, none⟩ (.int .u64 X2)).setCell ⟨g13 + 1, 1, none⟩ (.slice A16 m2 c16)) from ⟨HO2.out.len, fun hn => by
          obtain ⟨gs, h1, h2, h3⟩ := HO2.out.own hn
          have h4 := HGS2.out gs hn h1
          exact ⟨gs, h1, h2, (h3.setNe (by omega)).setNe (by omega)⟩⟩)
        have R16' := hide ((R16.out.set 0 (.int .u64 X2)).set 1 (.slice A16 m2 c16))
        replace HD16 := hide (((HD16.out.setOffS (g := g13 + 1) (HO16.out) 0 (.int .u64 X2)).setOffS (g := g13 + 1) (HO16.out) 1 (.slice A16 m2 c16)))
        replace HAb := hide (((HAb.out.setOff (g := g13 + 1) (HO7.out) 0 (.int .u64 X2)).setOff (g := g13 + 1) (HO7.out) 1 (.slice A16 m2 c16)))
        replace R3 := hide (((R3.out.setNe (o := 0) (v := (.int .u64 X2)) (g2 := g13 + 1) (by omega)).setNe (o := 1) (v := (.slice A16 m2 c16)) (g2 := g13 + 1) (by omega)))
        replace R7 := hide (((R7.out.setNe (o := 0) (v := (.int .u64 X2)) (g2 := g13 + 1) (by omega)).setNe (o := 1) (v := (.slice A16 m2 c16)) (g2 := g13 + 1) (by omega)))
        replace R13 := hide (((R13.out.setNe (o := 0) (v := (.int .u64 X2)) (g2 := g13 + 1) (by omega)).setNe (o := 1) (v := (.slice A16 m2 c16)) (g2 := g13 + 1) (by omega)))
        replace HB := hide (((HB.out.setCell (p := ⟨g13 + 1, 0, none⟩) (by show _ ≤ g13 + 1; omega) (.int .u64 X2)).setCell (p := ⟨g13 + 1, 1, none⟩) (by show _ ≤ g13 + 1; omega) (.slice A16 m2 c16)))
        replace LO : Hid (_ ≤ ((w207.setCell ⟨g13 + 1, 0, none⟩ (.int .u64 X2)).setCell ⟨g13 + 1, 1, none⟩ (.slice A16 m2 c16)).heap.size) := hide (by simpa using LO.out)
        replace LE2 : Hid (_ ≤ ((w207.setCell ⟨g13 + 1, 0, none⟩ (.int .u64 X2)).setCell ⟨g13 + 1, 1, none⟩ (.slice A16 m2 c16)).heap.size) := hide (by simpa using LE2.out)
        generalize ((w207.setCell ⟨g13 + 1, 0, none⟩ (.int .u64 X2)).setCell ⟨g13 + 1, 1, none⟩ (.slice A16 m2 c16)) = w208 at *
        replace R16 : Hid (RowAt w208 (g13 + 1) 25 #[.int .u64 X2, .slice A16 m2 c16]) := hide (by simpa using R16'.out)
        clear R16'
        have qR13_0 := row20 R13.out
        have qR13_1 := row21 R13.out
        have lR13 := R13.out.lt
        have qR16_0 := row20 R16.out
        have qR16_1 := row21 R16.out
        have lR16 := R16.out.lt
        go_wp2_with fail
        clear qR13_0 qR13_1 lR13 qR16_0 qR16_1 lR16
        with_reducible refine (rsame_any A13 A16 c13 c16 m2 m2 X2 X2 Y2 Y2 _ HO2.out.rd HD16.out HM2.out HM2.out hm2l hm2l true (by simp)).mono ?_
        rintro e w209 ⟨rfl, hb⟩
        replace HD16 := hide ((HD16.out.below hb).more hb.size)
        replace HAb := hide (HAb.out.below (hb.mono LO.out))
        replace R3 := hide (R3.out.below hb)
        replace R7 := hide (R7.out.below hb)
        replace R13 := hide (R13.out.below hb)
        replace R16 := hide (R16.out.below hb)
        replace HO2 := hide (HO2.out.below hb)
        replace LO := hide (Nat.le_trans LO.out hb.size)
        replace LE2 := hide (Nat.le_trans LE2.out hb.size)
        replace HB := hide (HB.out.trans (hb.mono HB.out.size))
        clear hb
        clear HD16
        have qR13_0 := row20 R13.out
        have qR13_1 := row21 R13.out
        have lR13 := R13.out.lt
        go_wp2_with fail
        clear qR13_0 qR13_1 lR13
        clear R16 R13
        refine (spoilP A13 c13 m2 X2 Y2 _ HO2.out (hm2l) LE2.out).mono ?_
        rintro x w999 ⟨rfl, hbs⟩
        rw [HLO.out] at hbs
        clear HO2 LE2
        replace R3 := hide (R3.out.belowB (by omega) hbs)
        replace R7 := hide (R7.out.belowB (by omega) hbs)
        replace HAb := hide (HAb.out.below (hbs.mono (by omega)))
        replace LO := hide (Nat.le_trans LO.out hbs.size)
        replace HB := hide (HB.out.trans (hbs.mono (by omega)))
        clear hbs
        have QX : Hid (∀ w, Below w999.heap.size w999 w → Calls Try.prog 9 #[.agg #[.int .u64 e, .slice A0 n0 c0]] w fun e' W' => ∃ A' c', e' = .returned (.agg #[.int .u64 e, .slice A' m c']) ∧ Rd W' W'.heap.size 1 A' m (Cs encW S) ∧ Below w.heap.size w W') := hide (fun w hw => (HOWN.out w (HB.out.trans (hw.mono HB.out.size))).mono fun e' W' ⟨A', c', e1, _, _, e3, _, e5⟩ => ⟨A', c', e1, e3, e5⟩)
        have QS : Hid (∀ w A' c', Below w999.heap.size w999 w → Rd w w.heap.size 1 A' m (Cs encW S) → Calls Try.prog 14 #[.agg #[.int .u64 e, .slice A7 m c7], .agg #[.int .u64 e, .slice A' m c']] w fun e W' => e = .returned (.bool true) ∧ Below w.heap.size w W') := hide (fun w A' c' hw hr => rsame_any A7 A' c7 c' m m e e S S w ((HAb.out.below (hw.mono LO.out)).more (Nat.le_trans LO.out hw.size)) hr HSL.out HSL.out (by omega) (by omega) true (by simp))
        have qR7_0 := row20 R7.out
        have qR7_1 := row21 R7.out
        have lR7 := R7.out.lt
        have qR3_0 := row20 R3.out
        have qR3_1 := row21 R3.out
        have lR3 := R3.out.lt
        have HS : Hid (∀ w w', (Below w999.heap.size w999 w ∧ w.cell? ⟨g7, 0, none⟩ = some (.int .u64 e) ∧ w.cell? ⟨g7, 1, none⟩ = some (.slice A7 m c7) ∧ w.cell? ⟨g3, 0, none⟩ = some (.int .u64 e) ∧ w.cell? ⟨g3, 1, none⟩ = some (.slice A0 n0 c0)) → Below w.heap.size w w' → (Below w999.heap.size w999 w' ∧ w'.cell? ⟨g7, 0, none⟩ = some (.int .u64 e) ∧ w'.cell? ⟨g7, 1, none⟩ = some (.slice A7 m c7) ∧ w'.cell? ⟨g3, 0, none⟩ = some (.int .u64 e) ∧ w'.cell? ⟨g3, 1, none⟩ = some (.slice A0 n0 c0))) := hide (fun w w' h hb => ⟨h.1.trans (hb.mono h.1.size), kept hb h.2.1, kept hb h.2.2.1, kept hb h.2.2.2.1, kept hb h.2.2.2.2⟩)
        go_wp2_with fail
        have hbd0 : Below w999.heap.size w999 w999.drew := (Below.refl _ _).drew
        go_region_held3 (fun wX => Below w999.heap.size w999 wX ∧ wX.cell? ⟨g7, 0, none⟩ = some (.int .u64 e) ∧ wX.cell? ⟨g7, 1, none⟩ = some (.slice A7 m c7) ∧ wX.cell? ⟨g3, 0, none⟩ = some (.int .u64 e) ∧ wX.cell? ⟨g3, 1, none⟩ = some (.slice A0 n0 c0))
          (first | exact HS.out _ _ ‹_› hb | exact ⟨hbd0, qR7_0, qR7_1, qR3_0, qR3_1⟩ | go_keep)
          (first
            | (go_at_call 9; with_reducible refine (QX.out _ (And.left ‹Below w999.heap.size w999 _ ∧ _›)).mono ?_; rintro e wq ⟨Ay, cy, rfl, hrdy, hb⟩)
            | (go_at_call 14; with_reducible refine (QS.out _ _ _ (And.left ‹Below w999.heap.size w999 _ ∧ _›) hrdy).mono ?_; rintro e wq ⟨rfl, hb⟩))
        have hbd := And.left ‹Below w999.heap.size w999 _ ∧ _›
        clear qR7_0 qR7_1 lR7 qR3_0 qR3_1 lR3 HS
        go_wp2_with fail
        go_ret
        exact ⟨rfl, HB.out.trans (hbd.mono HB.out.size)⟩
end Go.Proofs.Ytopaopfebgonjaa

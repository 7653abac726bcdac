/-
  The reference's: deeds, one behind the other.
-/
import Derived.Test.YtlelpnahillioaaMux
import Derived.Test.YtlelpnahillioaaMvl
set_option linter.unusedSimpArgs false
set_option linter.unusedVariables false
namespace Go.Proofs.Ytlelpnahillioaa
open Go Go.RowKit
attribute [local go_sem] via_cell via_frozen

theorem RAskK {base : Nat} {A : Option Addr} {m c : Nat} {l : Ml} (wv gv : Int) {W : World} (h : Own base W A m c l) (hs : SmallL l) {l2 : Ml} {b : Bool} {E : Int} (h1 : outL (askX l wv gv) = l2) (h2 : outV false (askX l wv gv) = b) (h3 : outE (askX l wv gv) = E) :
    Calls Try.prog 14 #[.slice A m c, .int .i64 wv, .int .i64 gv] W fun e W' => OutK W.heap.size l2 (.bool b) E e W' ∧ Below W.heap.size W W' := by
  obtain ⟨ts, hl, hr⟩ := h.rm
  exact rask_any W.heap.size A c m ts wv gv W hr (smallM_of hl hs) (Nat.le_refl _) l2 b E (by rw [hl]; exact h1) (by rw [hl]; exact h2) (by rw [hl]; exact h3)
theorem RLeaveK {base : Nat} {A : Option Addr} {m c : Nat} {l : Ml} (wv gv : Int) {W : World} (h : Own base W A m c l) (hright : RightM l) {l2 : Ml} {n : Int} {E : Int} (h1 : outL (leaveX l wv gv) = l2) (h2 : outV 0 (leaveX l wv gv) = n) (h3 : outE (leaveX l wv gv) = E) :
    Calls Try.prog 15 #[.slice A m c, .int .i64 wv, .int .i64 gv] W fun e W' => OutK W.heap.size l2 (.int .i64 n) E e W' ∧ Below W.heap.size W W' := by
  obtain ⟨ts, hl, hr⟩ := h.rm
  exact rleave_any W.heap.size A c m ts wv gv W hr (smallM_of hl hright.small) (Nat.le_refl _) (by rw [hl]; exact hright) l2 n E (by rw [hl]; exact h1) (by rw [hl]; exact h2) (by rw [hl]; exact h3)
theorem OutK.base {b b' : Nat} {l : Ml} {vv : Value} {E : Int} {e : Ending} {w : World} (h : OutK b l vv E e w) (hb : b' ≤ b) : OutK b' l vv E e w := by
  obtain ⟨A, m, c, h1, h2⟩ := h
  exact ⟨A, m, c, h1, h2.base hb⟩
set_option maxHeartbeats 4000000 in
theorem rplay_any (B : Nat) (A : Option Addr) (c m : Nat) (ts : List Mm) (Ad : Option Addr) (nd cd : Nat) (ds : List Dd) (W : World) (h : RM W B A m ts) (hs : SmallM ts) (hB : B ≤ W.heap.size) (hright : RightM (mus ts)) (hd : Rd W W.heap.size 3 Ad nd (Cs encD ds)) (hn : ds.length = nd) (hnd : nd ≤ 4096) (l2 : Ml) (N : Int) (E : Int) (h1 : outL (playX (mus ts) ds 0) = l2) (h2 : ((outV 0 (playX (mus ts) ds 0) : Nat) : Int) = N) (h3 : outE (playX (mus ts) ds 0) = E) :
    Calls Try.prog 19 #[.slice A m c, .slice Ad nd cd] W fun e W' => OutK W.heap.size l2 (.int .i64 N) E e W' ∧ Below W.heap.size W W' := by
  have HCP := hide (copy_any B A c m ts W h hs hB)
  have HD := hide hd
  have HN := hide hn
  have H1 := hide h1
  have H2 := hide h2
  have H3 := hide h3
  have HRT := hide hright
  clear h hs hd hn h1 h2 h3 hright
  go_enter Try.func19, Try.ntmps19
  go_wp2_with fail
  with_reducible refine HCP.out.mono ?_
  rintro e w1 ⟨⟨A1, c1, us, rfl, hmu, hul, hcm⟩, hb⟩
  have HO1 := hide (show Own W.heap.size w1 A1 m c1 (mus ts) from ⟨us, hmu, hul, hcm.made⟩)
  have HB1 := hide hb
  clear hmu hul hcm hb HCP
  generalize hl0 : mus ts = l0 at *
  clear hl0
  go_wp2_with fail
  go_loopw [0, 7, 15] (fun lv ov i wr => ∃ (k n m' : Nat) (l : Ml) (A : Option Addr) (c : Nat), k ≤ nd ∧ lv = .slice A m' c ∧ ov = .int .i64 n ∧ i = .int .i64 k ∧ playX l0 (ds.take k) 0 = .ok (l, n) ∧ RightM l ∧ Own W.heap.size wr A m' c l ∧ Below W.heap.size W wr) (fun _ _ i _ => nd - (intOf i).toNat)
  case atStart => exact ⟨0, 0, m, l0, A1, c1, Nat.zero_le _, rfl, rfl, rfl, by simp [playX], HRT.out, HO1.out, HB1.out⟩
  case round =>
    obtain ⟨k, n, m', l, A, c, hk, rfl, rfl, rfl, hpl, hrt, hown, hbw⟩ := hrel
    have HPL := hide hpl
    have HRL := hide hrt
    have HO := hide hown
    have HBW := hide hbw
    have hnn : (n : Int) ≤ 4096 := by
      have := playX_le _ _ _ _ _ hpl
      rw [List.length_take] at this
      omega
    clear hpl hrt hown hbw
    by_cases hlt : k < nd
    · have hlx : k < ds.length := by rw [HN.out]; exact hlt
      have hkI : (k : Int) < (nd : Int) := by omega
      obtain ⟨b, o, rfl, hb, d0, d1, d2⟩ := (HD.out.below HBW.out).deed HN.out hlt
      have hbl : b < wr.heap.size := Nat.lt_of_lt_of_le hb HBW.out.size
      obtain ⟨HT1, HT2⟩ := playX_take l0 ds hlx HPL.out
      have HTA := hide HT1
      have HTB := hide HT2
      clear HT1 HT2 hb
      generalize ds.getD k ddZ = d at *
      obtain ⟨lv, dg, dw⟩ := d
      dsimp only at *
      have HBN := hide (show Below wr.heap.size wr (wr.alloc (.cells #[.bool lv, .int .i64 dg, .int .i64 dw] 29)) from (Below.refl _ _).alloc (Nat.le_refl _) _)
      have HRN := hide (RowAt.new wr 29 #[.bool lv, .int .i64 dg, .int .i64 dw])
      have HO5 := hide (HO.out.below HBN.out)
      have HB5 := hide (HBW.out.trans (HBN.out.mono HBW.out.size))
      obtain ⟨gm, hgm⟩ : ∃ gm, wr.heap.size = gm := ⟨_, rfl⟩
      have HGE := hide hgm
      clear hgm
      go_upto_region 6 with (fail)
      (try rw [HGE.out])
      rw [HGE.out] at HRN
      clear HGE d0 d1 d2 hbl HBN HO
      generalize wr.alloc (.cells #[.bool lv, .int .i64 dg, .int .i64 dw] 29) = w5 at *
      have e0 : w5.cell? ⟨gm, 0, none⟩ = some (.bool lv) := by have := HRN.out.cell 0; simpa using this
      have e1 : w5.cell? ⟨gm, 1, none⟩ = some (.int .i64 dg) := by have := HRN.out.cell 1; simpa using this
      have e2 : w5.cell? ⟨gm, 2, none⟩ = some (.int .i64 dw) := by have := HRN.out.cell 2; simpa using this
      have el := HRN.out.lt
      obtain ⟨bg, hbg⟩ : ∃ x, goerB dg = x := ⟨_, rfl⟩
      obtain ⟨x, hx⟩ : ∃ x, waitsX l dg = x := ⟨_, rfl⟩
      have HIS := hide (fun w => goer_any dg w bg hbg)
      have HWT := hide (RWaitsK dg HO5.out HRL.out.small hx)
      have HOV := hide (show overB l (lv, dg, dw) = (bg && decide (0 ≤ x)) from by unfold overB; rw [hbg, hx])
      clear hbg hx
      cases bg
      · have HNO := hide (show overB l (lv, dg, dw) = false from by rw [HOV.out]; rfl)
        clear HWT
        go_wp2_with fail
        with_reducible refine (HIS.out _).mono ?_
        rintro e w6 ⟨rfl, rfl⟩
        cases lv
        rotate_left
        · -- leave
          cases hr : leaveX l dw dg with
          | error e9 =>
            have hnz : (e9 != 0) = true := by simpa using leaveX_err hr
            have HA := hide (RLeaveK dw dg HO5.out HRL.out (l2 := []) (n := 0) (E := e9) (by rw [hr]; rfl) (by rw [hr]; rfl) (by rw [hr]; rfl))
            have HPE := hide (show playX l0 ds 0 = .error e9 from HTB.out e9 (by unfold playX; rw [if_neg (by rw [HNO.out]; exact Bool.false_ne_true)]; unfold doX; simp only [if_true]; rw [hr]; rfl))
            have HF := hide (show ∀ w, OutK W.heap.size l2 (.int .i64 N) E (.returned (.tuple #[.slice none 0 0, .int .i64 0, .int .i64 e9])) w from fun w => by
              rw [← H1.out, ← H2.out, ← H3.out, HPE.out]
              exact outK_err (k := 0))
            clear hr
            go_wp2_with fail
            with_reducible refine HA.out.mono ?_
            rintro e w8 ⟨⟨A8, m8, c8, rfl, ho8⟩, hb⟩
            have HB8 := hide (HB5.out.trans (hb.mono HB5.out.size))
            clear hb ho8 e0 e1 e2
            go_wp2_with fail
            go_ret3
            exact ⟨HF.out _, HB8.out⟩
          | ok x9 =>
            obtain ⟨l9, v9⟩ := x9
            have HA := hide (RLeaveK dw dg HO5.out HRL.out (l2 := l9) (n := v9) (E := 0) (by rw [hr]; rfl) (by rw [hr]; rfl) (by rw [hr]; rfl))
            have HPO := hide (show playX l0 (ds.take (k + 1)) 0 = .ok (l9, n) from by rw [HTA.out]; unfold playX; rw [if_neg (by rw [HNO.out]; exact Bool.false_ne_true)]; unfold doX; simp only [if_true]; rw [hr]; rfl)
            have HR9 := hide (leaveX_right HRL.out hr)
            clear hr
            go_wp2_with fail
            with_reducible refine HA.out.mono ?_
            rintro e w8 ⟨⟨A8, m8, c8, rfl, ho8⟩, hb⟩
            have HB8 := hide (HB5.out.trans (hb.mono HB5.out.size))
            have HO8 := hide (ho8.base HB5.out.size)
            clear hb ho8 e0 e1 e2
            go_wp2_with fail
            go_roundw
            case rel => exact ⟨k + 1, n, m8, l9, A8, c8, by omega, rfl, rfl, by go_num, HPO.out, HR9.out, HO8.out, HB8.out⟩
            case measure => simp [intOf]; omega
        · -- ask
          cases hr : askX l dw dg with
          | error e9 =>
            have hnz : (e9 != 0) = true := by simpa using askX_err hr
            have HA := hide (RAskK dw dg HO5.out HRL.out.small (l2 := []) (b := false) (E := e9) (by rw [hr]; rfl) (by rw [hr]; rfl) (by rw [hr]; rfl))
            have HPE := hide (show playX l0 ds 0 = .error e9 from HTB.out e9 (by unfold playX; rw [if_neg (by rw [HNO.out]; exact Bool.false_ne_true)]; unfold doX; simp only [Bool.false_eq_true, if_false]; rw [hr]; rfl))
            have HF := hide (show ∀ w, OutK W.heap.size l2 (.int .i64 N) E (.returned (.tuple #[.slice none 0 0, .int .i64 0, .int .i64 e9])) w from fun w => by
              rw [← H1.out, ← H2.out, ← H3.out, HPE.out]
              exact outK_err (k := 0))
            clear hr
            go_wp2_with fail
            with_reducible refine HA.out.mono ?_
            rintro e w8 ⟨⟨A8, m8, c8, rfl, ho8⟩, hb⟩
            have HB8 := hide (HB5.out.trans (hb.mono HB5.out.size))
            clear hb ho8 e0 e1 e2
            go_wp2_with fail
            go_ret3
            exact ⟨HF.out _, HB8.out⟩
          | ok x9 =>
            obtain ⟨l9, v9⟩ := x9
            have HA := hide (RAskK dw dg HO5.out HRL.out.small (l2 := l9) (b := v9) (E := 0) (by rw [hr]; rfl) (by rw [hr]; rfl) (by rw [hr]; rfl))
            have HPO := hide (show playX l0 (ds.take (k + 1)) 0 = .ok (l9, n) from by rw [HTA.out]; unfold playX; rw [if_neg (by rw [HNO.out]; exact Bool.false_ne_true)]; unfold doX; simp only [Bool.false_eq_true, if_false]; rw [hr]; rfl)
            have HR9 := hide (askX_right HRL.out hr)
            clear hr
            go_wp2_with fail
            with_reducible refine HA.out.mono ?_
            rintro e w8 ⟨⟨A8, m8, c8, rfl, ho8⟩, hb⟩
            have HB8 := hide (HB5.out.trans (hb.mono HB5.out.size))
            have HO8 := hide (ho8.base HB5.out.size)
            clear hb ho8 e0 e1 e2
            go_wp2_with fail
            go_roundw
            case rel => exact ⟨k + 1, n, m8, l9, A8, c8, by omega, rfl, rfl, by go_num, HPO.out, HR9.out, HO8.out, HB8.out⟩
            case measure => simp [intOf]; omega
      go_wp2_with fail
      with_reducible refine (HIS.out _).mono ?_
      rintro e w6 ⟨rfl, rfl⟩
      go_wp2_with fail
      with_reducible refine HWT.out.mono ?_
      rintro e w7 ⟨rfl, hb⟩
      have HO7 := hide (HO5.out.below hb)
      have HB7 := hide (HB5.out.trans (hb.mono HB5.out.size))
      have HRN7 := hide (HRN.out.below hb)
      clear hb HWT e0 e1 e2 el
      have e0 : w7.cell? ⟨gm, 0, none⟩ = some (.bool lv) := by have := HRN7.out.cell 0; simpa using this
      have e1 : w7.cell? ⟨gm, 1, none⟩ = some (.int .i64 dg) := by have := HRN7.out.cell 1; simpa using this
      have e2 : w7.cell? ⟨gm, 2, none⟩ = some (.int .i64 dw) := by have := HRN7.out.cell 2; simpa using this
      have el := HRN7.out.lt
      by_cases hx0 : 0 ≤ x
      · have hdx : decide (0 ≤ x) = true := by simpa using hx0
        have HYS := hide (show overB l (lv, dg, dw) = true from by rw [HOV.out, hdx]; rfl)
        have HPO := hide (show playX l0 (ds.take (k + 1)) 0 = .ok (l, n + 1) from by rw [HTA.out]; unfold playX; rw [if_pos HYS.out]; rfl)
        clear hx0
        go_wp2_with fail
        go_roundw
        case rel => exact ⟨k + 1, n + 1, m', l, A, c, by omega, rfl, by go_num, by go_num, HPO.out, HRL.out, HO7.out, HB7.out⟩
        case measure => simp [intOf]; omega
      have hdx : decide (0 ≤ x) = false := by simpa using hx0
      have HNO := hide (show overB l (lv, dg, dw) = false from by rw [HOV.out, hdx]; rfl)
      clear hx0
      cases lv
      rotate_left
      · -- leave
        cases hr : leaveX l dw dg with
        | error e9 =>
          have hnz : (e9 != 0) = true := by simpa using leaveX_err hr
          have HA := hide (RLeaveK dw dg HO7.out HRL.out (l2 := []) (n := 0) (E := e9) (by rw [hr]; rfl) (by rw [hr]; rfl) (by rw [hr]; rfl))
          have HPE := hide (show playX l0 ds 0 = .error e9 from HTB.out e9 (by unfold playX; rw [if_neg (by rw [HNO.out]; exact Bool.false_ne_true)]; unfold doX; simp only [if_true]; rw [hr]; rfl))
          have HF := hide (show ∀ w, OutK W.heap.size l2 (.int .i64 N) E (.returned (.tuple #[.slice none 0 0, .int .i64 0, .int .i64 e9])) w from fun w => by
            rw [← H1.out, ← H2.out, ← H3.out, HPE.out]
            exact outK_err (k := 0))
          clear hr
          go_wp2_with fail
          with_reducible refine HA.out.mono ?_
          rintro e w8 ⟨⟨A8, m8, c8, rfl, ho8⟩, hb⟩
          have HB8 := hide (HB7.out.trans (hb.mono HB7.out.size))
          clear hb ho8 e0 e1 e2
          go_wp2_with fail
          go_ret3
          exact ⟨HF.out _, HB8.out⟩
        | ok x9 =>
          obtain ⟨l9, v9⟩ := x9
          have HA := hide (RLeaveK dw dg HO7.out HRL.out (l2 := l9) (n := v9) (E := 0) (by rw [hr]; rfl) (by rw [hr]; rfl) (by rw [hr]; rfl))
          have HPO := hide (show playX l0 (ds.take (k + 1)) 0 = .ok (l9, n) from by rw [HTA.out]; unfold playX; rw [if_neg (by rw [HNO.out]; exact Bool.false_ne_true)]; unfold doX; simp only [if_true]; rw [hr]; rfl)
          have HR9 := hide (leaveX_right HRL.out hr)
          clear hr
          go_wp2_with fail
          with_reducible refine HA.out.mono ?_
          rintro e w8 ⟨⟨A8, m8, c8, rfl, ho8⟩, hb⟩
          have HB8 := hide (HB7.out.trans (hb.mono HB7.out.size))
          have HO8 := hide (ho8.base HB7.out.size)
          clear hb ho8 e0 e1 e2
          go_wp2_with fail
          go_roundw
          case rel => exact ⟨k + 1, n, m8, l9, A8, c8, by omega, rfl, rfl, by go_num, HPO.out, HR9.out, HO8.out, HB8.out⟩
          case measure => simp [intOf]; omega
      · -- ask
        cases hr : askX l dw dg with
        | error e9 =>
          have hnz : (e9 != 0) = true := by simpa using askX_err hr
          have HA := hide (RAskK dw dg HO7.out HRL.out.small (l2 := []) (b := false) (E := e9) (by rw [hr]; rfl) (by rw [hr]; rfl) (by rw [hr]; rfl))
          have HPE := hide (show playX l0 ds 0 = .error e9 from HTB.out e9 (by unfold playX; rw [if_neg (by rw [HNO.out]; exact Bool.false_ne_true)]; unfold doX; simp only [Bool.false_eq_true, if_false]; rw [hr]; rfl))
          have HF := hide (show ∀ w, OutK W.heap.size l2 (.int .i64 N) E (.returned (.tuple #[.slice none 0 0, .int .i64 0, .int .i64 e9])) w from fun w => by
            rw [← H1.out, ← H2.out, ← H3.out, HPE.out]
            exact outK_err (k := 0))
          clear hr
          go_wp2_with fail
          with_reducible refine HA.out.mono ?_
          rintro e w8 ⟨⟨A8, m8, c8, rfl, ho8⟩, hb⟩
          have HB8 := hide (HB7.out.trans (hb.mono HB7.out.size))
          clear hb ho8 e0 e1 e2
          go_wp2_with fail
          go_ret3
          exact ⟨HF.out _, HB8.out⟩
        | ok x9 =>
          obtain ⟨l9, v9⟩ := x9
          have HA := hide (RAskK dw dg HO7.out HRL.out.small (l2 := l9) (b := v9) (E := 0) (by rw [hr]; rfl) (by rw [hr]; rfl) (by rw [hr]; rfl))
          have HPO := hide (show playX l0 (ds.take (k + 1)) 0 = .ok (l9, n) from by rw [HTA.out]; unfold playX; rw [if_neg (by rw [HNO.out]; exact Bool.false_ne_true)]; unfold doX; simp only [Bool.false_eq_true, if_false]; rw [hr]; rfl)
          have HR9 := hide (askX_right HRL.out hr)
          clear hr
          go_wp2_with fail
          with_reducible refine HA.out.mono ?_
          rintro e w8 ⟨⟨A8, m8, c8, rfl, ho8⟩, hb⟩
          have HB8 := hide (HB7.out.trans (hb.mono HB7.out.size))
          have HO8 := hide (ho8.base HB7.out.size)
          clear hb ho8 e0 e1 e2
          go_wp2_with fail
          go_roundw
          case rel => exact ⟨k + 1, n, m8, l9, A8, c8, by omega, rfl, rfl, by go_num, HPO.out, HR9.out, HO8.out, HB8.out⟩
          case measure => simp [intOf]; omega
    · have HFN := hide (show playX l0 ds 0 = .ok (l, n) from by
        have h := HPL.out
        rwa [List.take_of_length_le (by rw [HN.out]; omega)] at h)
      have HF := hide (show OutK W.heap.size l2 (.int .i64 N) E (.returned (.tuple #[.slice A m' c, .int .i64 n, .int .i64 0])) wr from by
        rw [← H1.out, ← H2.out, ← H3.out, HFN.out]
        exact ⟨_, _, _, rfl, HO.out⟩)
      go_wp2_with fail
      go_ret3
      exact ⟨HF.out, HBW.out⟩
end Go.Proofs.Ytlelpnahillioaa

/-
  The reference's: left.
-/
import Derived.Test.YtlelpnahillioaaMvb
set_option linter.unusedSimpArgs false
set_option linter.unusedVariables false
namespace Go.Proofs.Ytlelpnahillioaa
open Go Go.RowKit
attribute [local go_sem] via_cell via_frozen

theorem Rd.tailP {w : World} {B b o m1 : Nat} {x : Int} {rest : List Int} {P : Option Addr} (h : Rd w B 1 (some ⟨b, o, none⟩) (m1 + 1) (Cs encI (x :: rest))) (hl : rest.length = m1) (hP : P = some ⟨b, o + 1, none⟩ ∨ (P = some ⟨b, o, none⟩ ∧ m1 = 0)) : Rd w B 1 P m1 (Cs encI rest) := by
  have h2 := h.tailI hl
  by_cases hz : m1 = 0
  · exact ⟨h2.1, fun hp => by omega⟩
  · rw [if_neg hz] at h2
    rcases hP with rfl | ⟨_, e⟩
    · exact h2
    · exact absurd e hz
theorem made_put2 {b gl m c : Nat} {w : World} {us : List Mm} (h : MadeM b w (.slice (some ⟨gl, 0, none⟩) m c) us) (hm : us.length = m) {k : Nat} (hk : k < m) {who : Int} {A : Option Addr} {n c3 : Nat} {q : List Int} (hn : q.length = n) (hq : QOk b w (some gl) ⟨who, A, c3, q⟩) :
    MadeM b ((w.setCell ⟨gl, k * 2, none⟩ (.int .i64 who)).setCell ⟨gl, k * 2 + 1, none⟩ (.slice A n c3)) (.slice (some ⟨gl, 0, none⟩) m c) (us.set k ⟨who, A, c3, q⟩) := by
  subst hn
  have hkm := h.qs _ (getM_mem (by rw [hm]; exact hk))
  have h1 := h.put hm hk (i := 0) (by omega) (v := .int .i64 who) (y := { us.getD k mmZ with who := who }) rfl ⟨hkm.rd, hkm.cap, hkm.fr⟩
  rw [Nat.add_zero] at h1
  have hq1 : QOk b (w.setCell ⟨gl, k * 2, none⟩ (.int .i64 who)) (some gl) ⟨who, A, c3, q⟩ := hq.keep (by simp) (fun p hp => heap_setCell_ne _ _ _ _ (by
    have := (hq.fr p hp).2.2.1
    intro e
    exact this (by rw [e])))
  have hg : (us.set k { us.getD k mmZ with who := who }).getD k mmZ = { us.getD k mmZ with who := who } := by
    rw [getM_get (by rw [List.length_set, hm]; exact hk)]; simp
  have h2 := h1.put (by rw [List.length_set]; exact hm) hk (i := 1) (by omega) (v := .slice A q.length c3) (y := ⟨who, A, c3, q⟩) (by rw [hg]; rfl) hq1
  rw [List.set_set] at h2
  exact h2
set_option maxHeartbeats 4000000 in
theorem rleave_any (B : Nat) (A : Option Addr) (c m : Nat) (ts : List Mm) (wh g : Int) (W : World) (h : RM W B A m ts) (hs : SmallM ts) (hB : B ≤ W.heap.size) (hright : RightM (mus ts)) (l2 : Ml) (b2 : Int) (E : Int) (h1 : outL (leaveX (mus ts) wh g) = l2) (h2 : outV 0 (leaveX (mus ts) wh g) = b2) (h3 : outE (leaveX (mus ts) wh g) = E) :
    Calls Try.prog 15 #[.slice A m c, .int .i64 wh, .int .i64 g] W fun e W' => OutK W.heap.size l2 (.int .i64 b2) E e W' ∧ Below W.heap.size W W' := by
  have H := hide h
  have HS := hide hs
  have HL := hide h.len
  have hm : m ≤ 4096 := by have := hs.1; have := h.len; omega
  rw [argB_leave (show (mus ts).length = m by rw [mus_len, h.len])] at h1 h2 h3
  have HERR := hide (fun (E : Int) (w : World) => (outK_err (base := W.heap.size) (k := 0) (vv := .int .i64 0) (E := E) (w := w)))
  have HGO := hide (show ∀ x ∈ flatQ (mus ts), 0 ≤ x ∧ x < 8 from fun x hx => hright.goers hx)
  clear h hs hright
  obtain ⟨bg, hbg⟩ : ∃ b, goerB g = b := ⟨_, rfl⟩
  have HGR := hide (fun w => goer_any g w bg hbg)
  have HGI := hide (show bg = true → 0 ≤ g ∧ g < 8 from fun e => goerB_iff.1 (hbg.trans e))
  by_cases c1 : wh < 0
  · have e1 : decide (wh < 0) = true := by simpa using c1
    have ha : argB m wh g = false := by unfold argB; rw [decide_eq_false (show ¬ 0 ≤ wh by omega)]; rfl
    rw [ha] at h1 h2 h3
    obtain rfl : [] = l2 := h1
    obtain rfl : 0 = b2 := h2
    obtain rfl : 2 = E := h3
    clear c1 ha hbg
    go_enter Try.func15, Try.ntmps15
    go_wp2_with fail
    go_ret3
    exact ⟨HERR.out 2 _, Below.refl _ _⟩
  have e1 : decide (wh < 0) = false := by simpa using c1
  obtain ⟨k, rfl⟩ := Int.eq_ofNat_of_zero_le (show 0 ≤ wh by omega)
  by_cases hk : k < m
  case neg =>
    have e2 : decide ((m : Int) ≤ (k : Int)) = true := by simp; omega
    have e2N : decide (m ≤ k) = true := by simp; omega
    have ha : argB m k g = false := by unfold argB; rw [decide_eq_false (show ¬ ((k : Int) < (m : Int)) by omega)]; simp
    rw [ha] at h1 h2 h3
    obtain rfl : [] = l2 := h1
    obtain rfl : 0 = b2 := h2
    obtain rfl : 2 = E := h3
    clear c1 ha hbg hk
    go_enter Try.func15, Try.ntmps15
    go_wp2_with fail
    go_ret3
    exact ⟨HERR.out 2 _, Below.refl _ _⟩
  have e2 : decide ((m : Int) ≤ (k : Int)) = false := by simp; omega
  have e2N : decide (m ≤ k) = false := by simp; omega
  cases bg
  · have ha : argB m k g = false := by unfold argB; rw [hbg]; simp
    rw [ha] at h1 h2 h3
    obtain rfl : [] = l2 := h1
    obtain rfl : 0 = b2 := h2
    obtain rfl : 2 = E := h3
    clear c1 ha hbg
    go_enter Try.func15, Try.ntmps15
    go_wp2_with fail
    with_reducible refine (HGR.out _).mono ?_
    rintro e w2 ⟨rfl, rfl⟩
    go_wp2_with fail
    go_ret3
    exact ⟨HERR.out 2 _, Below.refl _ _⟩
  obtain ⟨hg0, hg8⟩ := HGI.out rfl
  have hwg : wrap64 (g + 1) = g + 1 := IntWalk.wrap64_in _ (by omega)
  have ha : argB m k g = true := argB_iff.2 ⟨by omega, by omega, hg0, hg8⟩
  have hkI : (k : Int) < (m : Int) := by omega
  have hlx : k < ts.length := by rw [HL.out]; exact hk
  obtain ⟨b, o, rfl, hb, d0, d1, hqr⟩ := H.out.at_ hk
  have hbl : b < W.heap.size := Nat.lt_of_lt_of_le hb hB
  have hR : leaveX (mus ts) (k : Int) g = (if (ts.getD k mmZ).who ≠ g + 1 then (.error 4 : Except Int (Ml × Int)) else match (ts.getD k mmZ).q with
    | [] => .ok ((mus ts).set k (0, []), -1)
    | n :: q => .ok ((mus ts).set k (n + 1, q), n)) := by
    rw [argB_leave (show (mus ts).length = m by rw [mus_len, HL.out]), ha, Int.toNat_natCast, mus_at]; rfl
  rw [← argB_leave (show (mus ts).length = m by rw [mus_len, HL.out]), hR] at h1 h2 h3
  have HCP := hide (fun w (hb : Below W.heap.size W w) => copy_any B (some ⟨b, o, none⟩) c m ts w (H.out.below (hb.mono hB)) HS.out (Nat.le_trans hB hb.size))
  have htq := HS.out.2 _ (getM_mem hlx)
  have HGK := hide (show ∀ x ∈ (ts.getD k mmZ).q, 0 ≤ x ∧ x < 8 from fun x hx => HGO.out x (mem_flatQ.2 ⟨(ts.getD k mmZ).mu, List.mem_map_of_mem (getM_mem hlx), hx⟩))
  obtain ⟨who, hwho⟩ : ∃ y, (ts.getD k mmZ).who = y := ⟨_, rfl⟩
  obtain ⟨tq, htq2⟩ : ∃ y, (ts.getD k mmZ).q = y := ⟨_, rfl⟩
  obtain ⟨tA, htA⟩ : ∃ y, (ts.getD k mmZ).A = y := ⟨_, rfl⟩
  obtain ⟨tc, htc⟩ : ∃ y, (ts.getD k mmZ).c = y := ⟨_, rfl⟩
  rw [hwho] at d0 h1 h2 h3
  rw [htq2] at h1 h2 h3 htq HGK d1 hqr
  rw [htA] at d1 hqr
  rw [htc] at d1
  have HQR := hide hqr
  have HWQ := hide (show (ts.getD k mmZ).mu = (who, tq) from by rw [← hwho, ← htq2]; rfl)
  clear c1 ha hR hbg hb hwho htq2 htA htc hqr
  by_cases c3 : who = g + 1
  case neg =>
    have hd : (who != g + 1) = true := by simpa using c3
    rw [if_pos c3] at h1 h2 h3
    obtain rfl : [] = l2 := h1
    obtain rfl : 0 = b2 := h2
    obtain rfl : 4 = E := h3
    clear c3
    go_enter Try.func15, Try.ntmps15
    go_wp2_with fail
    with_reducible refine (HGR.out _).mono ?_
    rintro e w2 ⟨rfl, rfl⟩
    go_wp2_with fail
    go_ret3
    exact ⟨HERR.out 4 _, Below.refl _ _⟩
  have hd : (who != g + 1) = false := by simpa using c3
  rw [if_neg (fun e => e c3)] at h1 h2 h3
  clear c3
  have H1 := hide h1
  have H2 := hide h2
  have H3 := hide h3
  have HC3 := hide (HCP.out _ (Below.refl _ _))
  clear h1 h2 h3
  go_enter Try.func15, Try.ntmps15
  go_wp2_with fail
  with_reducible refine (HGR.out _).mono ?_
  rintro e w2 ⟨rfl, rfl⟩
  go_wp2_with fail
  with_reducible refine HC3.out.mono ?_
  rintro e w4 ⟨⟨A2, c2, us, rfl, hmu, hul, hcm⟩, hb⟩
  obtain ⟨gl, cur, rfl, hgl, hrow, hcs⟩ := made_head hcm.made hul (by omega)
  have HCM := hide hcm
  have HUL := hide hul
  have HMU := hide hmu
  have HB4 := hide hb
  have HGL := hide (show W.heap.size ≤ gl from hgl)
  have e0 := (HB4.out.cell (p := ⟨b, o + k * 2, none⟩) hbl).trans d0
  have e1' := (HB4.out.cell (p := ⟨b, o + k * 2 + 1, none⟩) hbl).trans d1
  have hbl4 : b < w4.heap.size := Nat.lt_of_lt_of_le hbl HB4.out.size
  obtain ⟨f0, f1, ff, fl⟩ := made_at hcm.made hul hk
  have ff0 := ff (k * 2)
  have ff1 := ff (k * 2 + 1)
  have HUK := hide (show (us.getD k mmZ).mu = (who, tq) from by rw [← HWQ.out, ← mus_at, ← mus_at, hmu])
  have HQ4 := hide ((HQR.out.more hB).below HB4.out)
  have hbne : ¬ b = gl := by have := HGL.out; omega
  have hbne' : ¬ gl = b := by have := HGL.out; omega
  have HROW := hide hrow
  have hcsk : k * 2 + 2 ≤ cur.size := by omega
  clear hb HC3 hcm hul hmu hgl ff d0 d1 hrow hcs
  cases tq with
  | nil =>
    have HR1 := hide (show (mus ts).set k (0, []) = l2 from H1.out)
    have HR2 := hide (show -1 = b2 from H2.out)
    have HR3 := hide (show 0 = E from H3.out)
    have HNW := hide (HCM.out.made.put HUL.out hk (i := 0) (by omega) (v := .int .i64 0) (y := { us.getD k mmZ with who := 0 }) rfl ⟨(HCM.out.made.qs _ (getM_mem (by rw [HUL.out]; exact hk))).rd, (HCM.out.made.qs _ (getM_mem (by rw [HUL.out]; exact hk))).cap, (HCM.out.made.qs _ (getM_mem (by rw [HUL.out]; exact hk))).fr⟩)
    have HBF := hide (HB4.out.setCell (p := ⟨gl, k * 2, none⟩) HGL.out (.int .i64 0))
    have HFM := hide (show mus (us.set k { us.getD k mmZ with who := 0 }) = l2 from by
      rw [mus_set, HMU.out, ← HR1.out]
      have this : (us.getD k mmZ).q = [] := congrArg Prod.snd HUK.out
      show (mus ts).set k (0, (us.getD k mmZ).q) = _
      rw [this])
    have HFR := hide (show OutK W.heap.size l2 (.int .i64 b2) E (.returned (.tuple #[.slice (some ⟨gl, 0, none⟩) m c2, .int .i64 (-1), .int .i64 0])) (w4.setCell ⟨gl, k * 2, none⟩ (.int .i64 0)) from by
      rw [← HR2.out, ← HR3.out]
      exact ⟨_, _, _, rfl, ⟨_, HFM.out, by rw [List.length_set]; exact HUL.out, by have h := HNW.out; rw [Nat.add_zero] at h; exact h⟩⟩)
    simp only [List.length_nil] at e1'
    have hl0 : ((([] : List Int).length : Nat) : Int) = 0 := rfl
    go_wp2_with fail
    go_ret3
    exact ⟨HFR.out, HBF.out⟩
  | cons x q =>
    obtain ⟨n, hn⟩ : ∃ n, q.length = n := ⟨_, rfl⟩
    have HN := hide hn
    have hl1 : (x :: q).length = n + 1 := by rw [← hn]; rfl
    have HR1 := hide (show (mus ts).set k (x + 1, q) = l2 from H1.out)
    have HR2 := hide (show x = b2 from H2.out)
    have HR3 := hide (show 0 = E from H3.out)
    rw [hl1] at e1' htq
    obtain ⟨b5, o5, rfl, hb5, d5⟩ := HQ4.out.numD (X := x :: q) rfl (k := 0) (by rw [hl1]; omega)
    have hbl5 : b5 < w4.heap.size := Nat.lt_of_lt_of_le hb5 HB4.out.size
    have hx := HGK.out x (by simp)
    have hwx : wrap64 (x + 1) = x + 1 := IntWalk.wrap64_in _ (by omega)
    have d5' : w4.cell? ⟨b5, o5, none⟩ = some (.int .i64 x) := by simpa using d5
    have hqe : (us.getD k mmZ).q = x :: q := congrArg Prod.snd HUK.out
    have hwe : (us.getD k mmZ).who = who := congrArg Prod.fst HUK.out
    have HUQ := hide (HCM.out.made.qs _ (getM_mem (by rw [HUL.out]; exact hk)))
    rw [hqe, hl1] at f1
    rw [hwe] at f0
    generalize hu : us.getD k mmZ = u at *
    obtain ⟨uw, uA, uc, uq⟩ := u
    dsimp only at *
    subst hqe
    have hcap := HUQ.out.cap
    have hrd := HUQ.out.rd
    have hfr := HUQ.out.fr
    dsimp only at hcap hrd hfr
    rw [hl1] at hcap hrd
    obtain ⟨bq, oq, hA, hbq, _⟩ := hrd.2 (by omega)
    subst hA
    have HRD := hide hrd
    have HFRR := hide hfr
    have hgt : decide ((0 : Int) < (n : Int) + 1) = true := by first | (simp; done) | (simp; omega)
    have hgt3 : (0 : Int) < (n : Int) + 1 := by omega
    have hn0 : ¬ ((n : Int) + 1 = 0) := by omega
    have hnb : (((n : Int) + 1) == 0) = false := by rw [beq_eq_false_iff_ne]; omega
    have hc1 : (n : Int) + 1 ≤ (uc : Int) := by omega
    have hc2 : (uc : Int) ≤ 9223372036854775807 := by omega
    have hc3 : (1 : Int) ≤ (n : Int) + 1 := by omega
    clear hn hl1 hcap hrd hfr d5 hu hwe hb5
    have HFIN := hide (show ∀ P c9, c9 = uc - 1 → (P = some ⟨bq, oq + 1, none⟩ ∨ (P = some ⟨bq, oq, none⟩ ∧ n = 0)) → OutK W.heap.size l2 (.int .i64 b2) E (.returned (.tuple #[.slice (some ⟨gl, 0, none⟩) m c2, .int .i64 x, .int .i64 0])) ((w4.setCell ⟨gl, k * 2, none⟩ (.int .i64 (x + 1))).setCell ⟨gl, k * 2 + 1, none⟩ (.slice P n c9)) ∧ Below W.heap.size W ((w4.setCell ⟨gl, k * 2, none⟩ (.int .i64 (x + 1))).setCell ⟨gl, k * 2 + 1, none⟩ (.slice P n c9)) from fun P c9 hc9 hP => by
      have hq : QOk W.heap.size w4 (some gl) ⟨x + 1, P, c9, q⟩ := by
        refine ⟨by dsimp only; rw [HN.out]; exact Rd.tailP HRD.out HN.out hP, ⟨by show q.length ≤ c9; rw [HN.out]; omega, by show c9 ≤ _; omega⟩, fun p hp => ?_⟩
        dsimp only at hp
        obtain ⟨h1, h2, h3, h4⟩ := HFRR.out _ rfl
        have hpb : p.block = bq := by
          rcases hP with rfl | ⟨rfl, _⟩ <;> (injection hp with hp; rw [← hp])
        rw [hpb]
        exact ⟨h1, h2, h3, h4⟩
      refine ⟨?_, (HB4.out.setCell (p := ⟨gl, k * 2, none⟩) HGL.out (.int .i64 (x + 1))).setCell (p := ⟨gl, k * 2 + 1, none⟩) HGL.out (.slice P n c9)⟩
      rw [← HR2.out, ← HR3.out]
      exact ⟨_, _, _, rfl, ⟨_, by rw [mus_set, HMU.out]; exact HR1.out, by rw [List.length_set]; exact HUL.out, made_put2 HCM.out.made HUL.out hk HN.out hq⟩⟩)
    go_wp2_with fail
    all_goals go_ret3
    all_goals (first | exact HFIN.out _ _ rfl (.inl rfl) | exact HFIN.out _ _ (by omega) (.inr ⟨rfl, by omega⟩))
end Go.Proofs.Ytlelpnahillioaa

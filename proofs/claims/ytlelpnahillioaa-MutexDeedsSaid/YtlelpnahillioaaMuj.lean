/-
  Leaving.
-/
import Derived.Test.YtlelpnahillioaaMui
set_option linter.unusedSimpArgs false
set_option linter.unusedVariables false
namespace Go.Proofs.Ytlelpnahillioaa
open Go Go.RowKit
attribute [local go_sem] via_cell via_frozen

def LeaveRes (gh gl m c : Nat) (ts : List Mm) (g wh : Int) (got : Bool) (w : World) (e : Ending) (w' : World) : Prop :=
  Below gh w w' ∧ ((∃ ts' nx', e = .returned (.tuple #[]) ∧ leaveX (mus ts) wh g = .ok (mus ts', nx') ∧ HAt w' gh gl m c ts' g wh nx' got) ∨ (∃ k, e = .panicked (errX k) ∧ leaveX (mus ts) wh g = .error k))
theorem Rd.tailI {w : World} {B b o m1 : Nat} {x : Int} {rest : List Int} (h : Rd w B 1 (some ⟨b, o, none⟩) (m1 + 1) (Cs encI (x :: rest))) (hl : rest.length = m1) :
    Rd w B 1 (if m1 = 0 then some ⟨b, o, none⟩ else some ⟨b, o + 1, none⟩) m1 (Cs encI rest) := by
  refine ⟨by rw [Cs_length encI_len, hl], fun hp => ?_⟩
  rw [if_neg (by omega)]
  obtain ⟨b', o', e, hb, hc⟩ := h.2 (by omega)
  injection e with e
  injection e with e1 e2
  subst e1; subst e2
  refine ⟨b, o + 1, rfl, hb, fun j u hu => ?_⟩
  rw [Nat.add_assoc]
  refine hc (1 + j) u ?_
  have e3 : Cs encI (x :: rest) = encI x ++ Cs encI rest := rfl
  rw [e3, List.getElem?_append_right (by simp [encI]), show 1 + j - (encI x).length = j from by simp [encI]]
  exact hu
set_option maxHeartbeats 4000000 in
theorem leave_any (gh gl m c : Nat) (ts : List Mm) (g wh nx : Int) (got : Bool) (W : World) (h : HAt W gh gl m c ts g wh nx got) (hr : RightM (mus ts)) :
    Calls Try.prog 38 #[.pointer (some ⟨gh, 0, none⟩)] W (LeaveRes gh gl m c ts g wh got W) := by
  have H := hide h
  have HR := hide hr
  have HLT := h.lt
  have HMU := hide (fun b hb => mutex_any gh gl m c g wh nx got W h.box HLT.2 b hb)
  have HAX := hide (argB_leave (wh := wh) (g := g) (show (mus ts).length = m by rw [mus_len, h.len]))
  have HSM := hide (h.made.small hr)
  obtain ⟨b, hb⟩ : ∃ b, argB m wh g = b := ⟨_, rfl⟩
  have HC := hide (HMU.out b hb)
  have HBB := hide hb
  rw [hb] at HAX
  clear h hr HMU hb
  cases b
  · go_enter Try.func38, Try.ntmps38
    go_wp2_with fail
    refine HC.out.mono ?_
    rintro e w1 ⟨hb1, hres⟩
    rcases hres with ⟨h1, _⟩ | ⟨_, rfl⟩
    · cases h1
    have HB1 := hide hb1
    clear hb1
    go_wp2_with fail
    exact ⟨rfl, HB1.out.mono (Nat.le_of_lt (Nat.lt_trans HLT.1 HLT.2)), .inr ⟨2, rfl, HAX.out⟩⟩
  obtain ⟨h0, hwm, hg0, hg8⟩ := argB_iff.1 HBB.out
  obtain ⟨k, rfl⟩ := Int.eq_ofNat_of_zero_le h0
  have hk : k < m := by omega
  have hwg : wrap64 (g + 1) = g + 1 := IntWalk.wrap64_in _ (by omega)
  have HAX2 := hide (show leaveX (mus ts) k g = if (ts.getD k mmZ).who ≠ g + 1 then .error 4 else match (ts.getD k mmZ).q with
    | [] => .ok ((mus ts).set k (0, []), -1)
    | n :: q => .ok ((mus ts).set k (n + 1, q), n) from by
    rw [HAX.out, Int.toNat_natCast, mus_at]; rfl)
  have HGO := hide (show ∀ x ∈ (ts.getD k mmZ).q, 0 ≤ x ∧ x < 8 from fun x hx => HR.out.goers (mem_flatQ.2 ⟨(ts.getD k mmZ).mu, List.mem_map_of_mem (getM_mem (by rw [H.out.len]; exact hk)), hx⟩))
  clear h0 hwm HAX HBB
  go_enter Try.func38, Try.ntmps38
  go_wp2_with fail
  refine HC.out.mono ?_
  rintro e w1 ⟨hb1, hres⟩
  rcases hres with ⟨_, rfl⟩ | ⟨h1, _⟩
  case inr => cases h1
  rw [Int.toNat_natCast]
  have H1 := hide (H.out.below hb1)
  have HB1 := hide hb1
  have q1 := row51 H1.out.box
  have ql := H1.out.box.lt
  obtain ⟨d0, _, _⟩ := H1.out.who hk
  have dl := H1.out.lt.2
  obtain ⟨who, hwho⟩ : ∃ y, (ts.getD k mmZ).who = y := ⟨_, rfl⟩
  have HWH := hide hwho
  rw [hwho] at d0 HAX2
  clear hb1 HC hwho
  by_cases hown : who = g + 1
  case neg =>
    have hd : (who == g + 1) = false := by simpa using hown
    have HE := hide (show leaveX (mus ts) k g = .error 4 from by rw [HAX2.out, if_pos hown])
    clear hown
    go_wp2_with fail
    refine wp_region_tail 10 (by kernel_rfl) (by kernel_rfl) ?_
    simp only [List.take_succ_cons, List.take_zero, List.drop_succ_cons, List.drop_zero]
    repeat (go_big_quiet_step (fail))
    refine tail_out fun w2 hb2 => ?_
    have HB2 := hide (HB1.out.trans (hb2.mono HB1.out.size))
    clear hb2 q1 d0
    go_wp2_with fail
    refine (need_no 4 _).mono ?_
    rintro e w3 ⟨rfl, rfl⟩
    go_wp2_with fail
    exact ⟨rfl, HB2.out.mono (Nat.le_of_lt (Nat.lt_trans HLT.1 HLT.2)), .inr ⟨4, rfl, HE.out⟩⟩
  have hd : (who == g + 1) = true := by simpa using hown
  have HAX3 := hide (HAX2.out.trans (if_neg (fun e => e hown)))
  clear hown HAX2
  go_wp2_with fail
  refine wp_region_tail 10 (by kernel_rfl) (by kernel_rfl) ?_
  simp only [List.take_succ_cons, List.take_zero, List.drop_succ_cons, List.drop_zero]
  repeat (go_big_quiet_step (fail))
  refine tail_out fun w2 hb2 => ?_
  have HB2 := hide ((HB1.out.trans (hb2.mono HB1.out.size)).mono (Nat.le_of_lt (Nat.lt_trans HLT.1 HLT.2)))
  have H2 := hide (H1.out.below hb2)
  clear hb2 q1 d0 ql dl H1 HB1
  go_wp2_with fail
  refine (need_ok 4 _).mono ?_
  rintro e w3 ⟨rfl, rfl⟩
  obtain ⟨d0, d1, df⟩ := H2.out.who hk
  rw [HWH.out] at d0
  have q4 := row54 H2.out.box
  have ql := H2.out.box.lt
  have qf := H2.out.box.frozen 4
  have dl := H2.out.lt.2
  have df0 := df (k * 2)
  have hne : ¬ gh = gl := by have := HLT.1; omega
  have hne' : ¬ gl = gh := by have := HLT.1; omega
  have H3 := hide ((H2.out.setWho hk 0).setNext (-1))
  have HB3 := hide ((HB2.out.setCell (p := ⟨gl, k * 2, none⟩) (Nat.le_of_lt HLT.1) (.int .i64 0)).setCell (p := ⟨gh, 4, none⟩) (Nat.le_refl _) (.int .i64 (-1)))
  have HG3 := hide (show (ts.set k { ts.getD k mmZ with who := 0 }).getD k mmZ = { ts.getD k mmZ with who := 0 } from by rw [getM_get (by rw [List.length_set, H.out.len]; exact hk)]; simp)
  have HMU := hide (show ∀ y : Mm, mus ((ts.set k { ts.getD k mmZ with who := 0 }).set k y) = (mus ts).set k y.mu from fun y => by rw [List.set_set, mus_set])
  have HMS := hide (show mus (ts.set k { ts.getD k mmZ with who := 0 }) = (mus ts).set k (0, (ts.getD k mmZ).q) from mus_set ..)
  clear df
  go_upto_region 3 with (fail)
  generalize ((w2.setCell ⟨gl, k * 2, none⟩ (.int .i64 0)).setCell ⟨gh, 4, none⟩ (.int .i64 (-1))) = w4 at *
  clear d0 d1 q4 ql qf dl df0 H2
  generalize ts.set k { ts.getD k mmZ with who := 0 } = us at *
  obtain ⟨_, d1, df⟩ := H3.out.who hk
  have hQ := H3.out.q hk
  rw [HG3.out] at d1 hQ
  generalize ts.getD k mmZ = t at *
  obtain ⟨t0, tA, tc, tq⟩ := t
  dsimp only at *
  have HQ := hide hQ
  have HDF := hide df
  have q4 := row54 H3.out.box
  have ql := H3.out.box.lt
  have qf := H3.out.box.frozen 4
  have dl := H3.out.lt.2
  clear hQ df
  cases tq with
  | nil =>
    have HF := hide (show leaveX (mus ts) k g = .ok (mus us, -1) from by rw [HAX3.out, HMS.out])
    have hl0 : ((([] : List Int).length : Nat) : Int) = 0 := rfl
    simp only [List.length_nil] at d1
    go_wp2_with fail
    go_end0
    exact ⟨HB3.out, .inl ⟨us, -1, rfl, HF.out, H3.out⟩⟩
  | cons x q =>
    obtain ⟨n, hn⟩ : ∃ n, q.length = n := ⟨_, rfl⟩
    have HN := hide hn
    have hl1 : (x :: q).length = n + 1 := by rw [← hn]; rfl
    rw [hl1] at d1
    have hcap := HQ.out.cap
    have hrd := HQ.out.rd
    have hfr := HQ.out.fr
    dsimp only at hcap hrd hfr
    rw [hl1] at hcap hrd
    obtain ⟨bq, oq, htA, hbq, hcq⟩ := hrd.2 (by omega)
    subst htA
    have e0 := hcq 0 _ rfl
    simp only [Nat.add_zero] at e0
    have HF := hide (show leaveX (mus ts) k g = .ok ((mus ts).set k (x + 1, q), x) from by rw [HAX3.out])
    have hx := HGO.out x (by simp)
    have hwx : wrap64 (x + 1) = x + 1 := IntWalk.wrap64_in _ (by omega)
    have HRD := hide hrd
    have HFR := hide hfr
    have hgt : decide ((0 : Int) < ((n + 1 : Nat) : Int)) = true := by first | (simp; done) | (simp; omega)
    have hgt2 : decide ((0 : Int) < (n : Int) + 1) = true := by first | (simp; done) | (simp; omega)
    have hgt3 : (0 : Int) < (n : Int) + 1 := by omega
    have hc1 : (n : Int) + 1 ≤ (tc : Int) := by omega
    have hc2 : (tc : Int) ≤ 9223372036854775807 := by omega
    have hc3 : (1 : Int) ≤ (n : Int) + 1 := by omega
    have H5 := hide (H3.out.setNext x)
    have HB5 := hide (HB3.out.setCell (p := ⟨gh, 4, none⟩) (Nat.le_refl _) (.int .i64 x))
    have e0' : (w4.setCell ⟨gh, 4, none⟩ (.int .i64 x)).cell? ⟨bq, oq, none⟩ = some (.int .i64 x) := by
      rw [World.cell?_setCell_other]
      · exact e0
      · intro e
        injection e with e1
        have := (hfr _ rfl).1
        dsimp only at this
        omega
    clear hn hl1 hcap hrd hfr hcq hx HMS
    go_upto_region 5 with (fail)
    generalize w4.setCell ⟨gh, 4, none⟩ (.int .i64 x) = w5 at *
    clear d1 q4 ql qf dl e0
    obtain ⟨d0, d1, df⟩ := H5.out.who hk
    rw [HG3.out] at d0 d1
    dsimp only at d0 d1
    rw [show (x :: q).length = n + 1 from by rw [← HN.out]; rfl] at d1
    have q4 := row54 H5.out.box
    have ql := H5.out.box.lt
    have dl := H5.out.lt.2
    have df0 := df (k * 2)
    have df1 := df (k * 2 + 1)
    clear df e0'
    have hwx2 : IntKind.i64.wrap (x + 1) = x + 1 := IntWalk.i64_in _ (by have := HGO.out x (by simp); omega)
    have H5D := hide (H5.out.below (Below.refl _ _).drew)
    have HB5D := hide (HB5.out.drew)
    have H6 := hide (H5D.out.setWho hk (x + 1))
    have HG6 := hide (show (us.set k { us.getD k mmZ with who := x + 1 }).getD k mmZ = (⟨x + 1, some ⟨bq, oq, none⟩, tc, x :: q⟩ : Mm) from by
      rw [getM_get (by rw [List.length_set, H5.out.len]; exact hk), List.getElem_set_self, HG3.out])
    refine wp_region_T (fun wX => wX.cell? ⟨gl, k * 2 + 1, none⟩ = some (.slice (some ⟨bq, oq, none⟩) (n + 1) tc) ∧ wX.cell? ⟨gh, 4, none⟩ = some (.int .i64 x) ∧ gl < wX.heap.size ∧ gh < wX.heap.size) 27 (by kernel_rfl) (⟨d1, q4, dl, ql⟩) (fun hHeld => ?_)
    (refine wpAnyT_take (i := 0) (v := ?_) rfl (by kernel_rfl) (by kernel_rfl) (by kernel_rfl) (by kernel_rfl) (fun _ _ _ h => h) (Or.inl ⟨by rfl, ?_⟩) (by assumption) ?_; rotate_left; (focus (intro w hSw; (try dsimp only at hSw); obtain ⟨kf0, kf1, kf2, kf3⟩ := hSw; go_simp; first | done | with_reducible rfl)); (try simp only [Act.put, List.getElem_toArray, List.getElem_cons_succ, List.getElem_cons_zero, List.setIfInBounds_toArray, List.set_cons_zero, List.set_cons_succ]))
    (refine wpAnyT_take (i := 1) (v := ?_) rfl (by kernel_rfl) (by kernel_rfl) (by kernel_rfl) (by kernel_rfl) (fun _ _ _ h => h) (Or.inl ⟨by rfl, ?_⟩) (by assumption) ?_; rotate_left; (focus (intro w hSw; (try dsimp only at hSw); obtain ⟨kf0, kf1, kf2, kf3⟩ := hSw; go_simp; first | done | with_reducible rfl)); (try simp only [Act.put, List.getElem_toArray, List.getElem_cons_succ, List.getElem_cons_zero, List.setIfInBounds_toArray, List.set_cons_zero, List.set_cons_succ]))
    (refine wpAnyT_take (i := 2) (v := ?_) rfl (by kernel_rfl) (by kernel_rfl) (by kernel_rfl) (by kernel_rfl) (fun _ _ _ h => h) (Or.inl ⟨by rfl, ?_⟩) (by assumption) ?_; rotate_left; (focus (intro w hSw; (try dsimp only at hSw); obtain ⟨kf0, kf1, kf2, kf3⟩ := hSw; go_simp; first | done | with_reducible rfl)); (try simp only [Act.put, List.getElem_toArray, List.getElem_cons_succ, List.getElem_cons_zero, List.setIfInBounds_toArray, List.set_cons_zero, List.set_cons_succ]))
    (refine wpAnyT_take (i := 3) (v := ?_) rfl (by kernel_rfl) (by kernel_rfl) (by kernel_rfl) (by kernel_rfl) (fun _ _ _ h => h) (Or.inl ⟨by rfl, ?_⟩) (by assumption) ?_; rotate_left; (focus (intro w hSw; (try dsimp only at hSw); obtain ⟨kf0, kf1, kf2, kf3⟩ := hSw; go_simp; first | done | with_reducible rfl)); (try simp only [Act.put, List.getElem_toArray, List.getElem_cons_succ, List.getElem_cons_zero, List.setIfInBounds_toArray, List.set_cons_zero, List.set_cons_succ]))
    (refine wpAnyT_take (i := 4) (v := ?_) rfl (by kernel_rfl) (by kernel_rfl) (by kernel_rfl) (by kernel_rfl) (fun _ _ _ h => h) (Or.inl ⟨by rfl, ?_⟩) (by assumption) ?_; rotate_left; (focus (intro w hSw; (try dsimp only at hSw); obtain ⟨kf0, kf1, kf2, kf3⟩ := hSw; go_simp; first | done | with_reducible rfl)); (try simp only [Act.put, List.getElem_toArray, List.getElem_cons_succ, List.getElem_cons_zero, List.setIfInBounds_toArray, List.set_cons_zero, List.set_cons_succ]))
    (refine wpAnyT_take (i := 5) (v := ?_) rfl (by kernel_rfl) (by kernel_rfl) (by kernel_rfl) (by kernel_rfl) (fun _ _ _ h => h) (Or.inl ⟨by rfl, ?_⟩) (by assumption) ?_; rotate_left; (focus (intro w hSw; (try dsimp only at hSw); obtain ⟨kf0, kf1, kf2, kf3⟩ := hSw; go_simp; first | done | with_reducible rfl)); (try simp only [Act.put, List.getElem_toArray, List.getElem_cons_succ, List.getElem_cons_zero, List.setIfInBounds_toArray, List.set_cons_zero, List.set_cons_succ]))
    (refine wpAnyT_take (i := 6) (v := ?_) rfl (by kernel_rfl) (by kernel_rfl) (by kernel_rfl) (by kernel_rfl) (fun _ _ _ h => h) (Or.inl ⟨by rfl, ?_⟩) (by assumption) ?_; rotate_left; (focus (intro w hSw; (try dsimp only at hSw); obtain ⟨kf0, kf1, kf2, kf3⟩ := hSw; go_simp; first | done | with_reducible rfl)); (try simp only [Act.put, List.getElem_toArray, List.getElem_cons_succ, List.getElem_cons_zero, List.setIfInBounds_toArray, List.set_cons_zero, List.set_cons_succ]))
    (refine wpAnyT_take (i := 7) (v := ?_) rfl (by kernel_rfl) (by kernel_rfl) (by kernel_rfl) (by kernel_rfl) (fun _ _ _ h => h) (Or.inl ⟨by rfl, ?_⟩) (by assumption) ?_; rotate_left; (focus (intro w hSw; (try dsimp only at hSw); obtain ⟨kf0, kf1, kf2, kf3⟩ := hSw; go_simp; first | done | with_reducible rfl)); (try simp only [Act.put, List.getElem_toArray, List.getElem_cons_succ, List.getElem_cons_zero, List.setIfInBounds_toArray, List.set_cons_zero, List.set_cons_succ]))
    (refine wpAnyT_take (i := 8) (v := ?_) rfl (by kernel_rfl) (by kernel_rfl) (by kernel_rfl) (by kernel_rfl) (fun _ _ _ h => h) (Or.inl ⟨by rfl, ?_⟩) (by assumption) ?_; rotate_left; (focus (intro w hSw; (try dsimp only at hSw); obtain ⟨kf0, kf1, kf2, kf3⟩ := hSw; go_simp; first | done | with_reducible rfl)); (try simp only [Act.put, List.getElem_toArray, List.getElem_cons_succ, List.getElem_cons_zero, List.setIfInBounds_toArray, List.set_cons_zero, List.set_cons_succ]))
    (refine wpAnyT_take (i := 9) (v := ?_) rfl (by kernel_rfl) (by kernel_rfl) (by kernel_rfl) (by kernel_rfl) (fun _ _ _ h => h) (Or.inl ⟨by rfl, ?_⟩) (by assumption) ?_; rotate_left; (focus (intro w hSw; (try dsimp only at hSw); obtain ⟨kf0, kf1, kf2, kf3⟩ := hSw; go_simp; first | done | with_reducible rfl)); (try simp only [Act.put, List.getElem_toArray, List.getElem_cons_succ, List.getElem_cons_zero, List.setIfInBounds_toArray, List.set_cons_zero, List.set_cons_succ]))
    (refine wpAnyT_take (i := 10) (v := ?_) rfl (by kernel_rfl) (by kernel_rfl) (by kernel_rfl) (by kernel_rfl) (fun _ _ _ h => h) (Or.inl ⟨by rfl, ?_⟩) (by assumption) ?_; rotate_left; (focus (intro w hSw; (try dsimp only at hSw); obtain ⟨kf0, kf1, kf2, kf3⟩ := hSw; go_simp; first | done | with_reducible rfl)); (try simp only [Act.put, List.getElem_toArray, List.getElem_cons_succ, List.getElem_cons_zero, List.setIfInBounds_toArray, List.set_cons_zero, List.set_cons_succ]))
    (refine wpAnyT_take (i := 11) (v := ?_) rfl (by kernel_rfl) (by kernel_rfl) (by kernel_rfl) (by kernel_rfl) (fun _ _ _ h => h) (Or.inl ⟨by rfl, ?_⟩) (by assumption) ?_; rotate_left; (focus (intro w hSw; (try dsimp only at hSw); obtain ⟨kf0, kf1, kf2, kf3⟩ := hSw; go_simp; first | done | with_reducible rfl)); (try simp only [Act.put, List.getElem_toArray, List.getElem_cons_succ, List.getElem_cons_zero, List.setIfInBounds_toArray, List.set_cons_zero, List.set_cons_succ]))
    (refine wpAnyT_take (i := 12) (v := ?_) rfl (by kernel_rfl) (by kernel_rfl) (by kernel_rfl) (by kernel_rfl) (fun _ _ _ h => h) (Or.inl ⟨by rfl, ?_⟩) (by assumption) ?_; rotate_left; (focus (intro w hSw; (try dsimp only at hSw); obtain ⟨kf0, kf1, kf2, kf3⟩ := hSw; go_simp; first | done | with_reducible rfl)); (try simp only [Act.put, List.getElem_toArray, List.getElem_cons_succ, List.getElem_cons_zero, List.setIfInBounds_toArray, List.set_cons_zero, List.set_cons_succ]))
    (refine wpAnyT_take (i := 13) (v := ?_) rfl (by kernel_rfl) (by kernel_rfl) (by kernel_rfl) (by kernel_rfl) (fun _ _ _ h => h) (Or.inl ⟨by rfl, ?_⟩) (by assumption) ?_; rotate_left; (focus (intro w hSw; (try dsimp only at hSw); obtain ⟨kf0, kf1, kf2, kf3⟩ := hSw; go_simp; first | done | with_reducible rfl)); (try simp only [Act.put, List.getElem_toArray, List.getElem_cons_succ, List.getElem_cons_zero, List.setIfInBounds_toArray, List.set_cons_zero, List.set_cons_succ]))
    (refine wpAnyT_take (i := 14) (v := ?_) rfl (by kernel_rfl) (by kernel_rfl) (by kernel_rfl) (by kernel_rfl) (fun _ _ _ h => h) (Or.inl ⟨by rfl, ?_⟩) (by assumption) ?_; rotate_left; (focus (intro w hSw; (try dsimp only at hSw); obtain ⟨kf0, kf1, kf2, kf3⟩ := hSw; go_simp; first | done | with_reducible rfl)); (try simp only [Act.put, List.getElem_toArray, List.getElem_cons_succ, List.getElem_cons_zero, List.setIfInBounds_toArray, List.set_cons_zero, List.set_cons_succ]))
    (refine wpAnyT_take (i := 15) (v := ?_) rfl (by kernel_rfl) (by kernel_rfl) (by kernel_rfl) (by kernel_rfl) (fun _ _ _ h => h) (Or.inl ⟨by rfl, ?_⟩) (by assumption) ?_; rotate_left; (focus (intro w hSw; (try dsimp only at hSw); obtain ⟨kf0, kf1, kf2, kf3⟩ := hSw; go_simp; first | done | with_reducible rfl)); (try simp only [Act.put, List.getElem_toArray, List.getElem_cons_succ, List.getElem_cons_zero, List.setIfInBounds_toArray, List.set_cons_zero, List.set_cons_succ]))
    (refine wpAnyT_take (i := 16) (v := ?_) rfl (by kernel_rfl) (by kernel_rfl) (by kernel_rfl) (by kernel_rfl) (fun _ _ _ h => h) (Or.inl ⟨by rfl, ?_⟩) (by assumption) ?_; rotate_left; (focus (intro w hSw; (try dsimp only at hSw); obtain ⟨kf0, kf1, kf2, kf3⟩ := hSw; go_simp; first | done | with_reducible rfl)); (try simp only [Act.put, List.getElem_toArray, List.getElem_cons_succ, List.getElem_cons_zero, List.setIfInBounds_toArray, List.set_cons_zero, List.set_cons_succ]))
    (refine wpAnyT_take (i := 17) (v := ?_) rfl (by kernel_rfl) (by kernel_rfl) (by kernel_rfl) (by kernel_rfl) (fun _ _ _ h => h) (Or.inl ⟨by rfl, ?_⟩) (by assumption) ?_; rotate_left; (focus (intro w hSw; (try dsimp only at hSw); obtain ⟨kf0, kf1, kf2, kf3⟩ := hSw; go_simp; first | done | with_reducible rfl)); (try simp only [Act.put, List.getElem_toArray, List.getElem_cons_succ, List.getElem_cons_zero, List.setIfInBounds_toArray, List.set_cons_zero, List.set_cons_succ]))
    (refine wpAnyT_take (i := 18) (v := ?_) rfl (by kernel_rfl) (by kernel_rfl) (by kernel_rfl) (by kernel_rfl) (fun _ _ _ h => h) (Or.inl ⟨by rfl, ?_⟩) (by assumption) ?_; rotate_left; (focus (intro w hSw; (try dsimp only at hSw); obtain ⟨kf0, kf1, kf2, kf3⟩ := hSw; go_simp; first | done | with_reducible rfl)); (try simp only [Act.put, List.getElem_toArray, List.getElem_cons_succ, List.getElem_cons_zero, List.setIfInBounds_toArray, List.set_cons_zero, List.set_cons_succ]))
    (refine wpAnyT_take (i := 19) (v := ?_) rfl (by kernel_rfl) (by kernel_rfl) (by kernel_rfl) (by kernel_rfl) (fun _ _ _ h => h) (Or.inl ⟨by rfl, ?_⟩) (by assumption) ?_; rotate_left; (focus (intro w hSw; (try dsimp only at hSw); obtain ⟨kf0, kf1, kf2, kf3⟩ := hSw; go_simp; first | done | with_reducible rfl)); (try simp only [Act.put, List.getElem_toArray, List.getElem_cons_succ, List.getElem_cons_zero, List.setIfInBounds_toArray, List.set_cons_zero, List.set_cons_succ]))
    (refine wpAnyT_take (i := 20) (v := ?_) rfl (by kernel_rfl) (by kernel_rfl) (by kernel_rfl) (by kernel_rfl) (fun _ _ _ h => h) (Or.inl ⟨by rfl, ?_⟩) (by assumption) ?_; rotate_left; (focus (intro w hSw; (try dsimp only at hSw); obtain ⟨kf0, kf1, kf2, kf3⟩ := hSw; go_simp; first | done | with_reducible rfl)); (try simp only [Act.put, List.getElem_toArray, List.getElem_cons_succ, List.getElem_cons_zero, List.setIfInBounds_toArray, List.set_cons_zero, List.set_cons_succ]))
    (refine wpAnyT_take (i := 21) (v := ?_) rfl (by kernel_rfl) (by kernel_rfl) (by kernel_rfl) (by kernel_rfl) (fun _ _ _ h => h) (Or.inl ⟨by rfl, ?_⟩) (by assumption) ?_; rotate_left; (focus (intro w hSw; (try dsimp only at hSw); obtain ⟨kf0, kf1, kf2, kf3⟩ := hSw; go_simp; first | done | with_reducible rfl)); (try simp only [Act.put, List.getElem_toArray, List.getElem_cons_succ, List.getElem_cons_zero, List.setIfInBounds_toArray, List.set_cons_zero, List.set_cons_succ]))
    (refine wpAnyT_take (i := 22) (v := ?_) rfl (by kernel_rfl) (by kernel_rfl) (by kernel_rfl) (by kernel_rfl) (fun _ _ _ h => h) (Or.inl ⟨by rfl, ?_⟩) (by assumption) ?_; rotate_left; (focus (intro w hSw; (try dsimp only at hSw); obtain ⟨kf0, kf1, kf2, kf3⟩ := hSw; go_simp; first | done | with_reducible rfl)); (try simp only [Act.put, List.getElem_toArray, List.getElem_cons_succ, List.getElem_cons_zero, List.setIfInBounds_toArray, List.set_cons_zero, List.set_cons_succ]))
    (refine wpAnyT_take (i := 23) (v := ?_) rfl (by kernel_rfl) (by kernel_rfl) (by kernel_rfl) (by kernel_rfl) (fun _ _ _ h => h) (Or.inl ⟨by rfl, ?_⟩) (by assumption) ?_; rotate_left; (focus (intro w hSw; (try dsimp only at hSw); obtain ⟨kf0, kf1, kf2, kf3⟩ := hSw; go_simp; first | done | with_reducible rfl)); (try simp only [Act.put, List.getElem_toArray, List.getElem_cons_succ, List.getElem_cons_zero, List.setIfInBounds_toArray, List.set_cons_zero, List.set_cons_succ]))
    generalize w5.drew = wd at *
    obtain ⟨e0, e1, ef⟩ := H5D.out.who hk
    have ef0 := ef (k * 2)
    have el := H5D.out.lt.2
    rw [HG3.out] at e0
    dsimp only at e0
    clear e1 ef
    refine wpAnyT_one (i := 24) rfl (by kernel_rfl) (fun K0 hK0 => ?_)
    go_simp
    have HS6 := hide (show (wd.setCell ⟨gl, k * 2, none⟩ (.int .i64 (x + 1))).cell? ⟨gl, k * 2 + 1, none⟩ = some (.slice (some ⟨bq, oq, none⟩) (n + 1) tc) ∧ (wd.setCell ⟨gl, k * 2, none⟩ (.int .i64 (x + 1))).cell? ⟨gh, 4, none⟩ = some (.int .i64 x) ∧ gl < (wd.setCell ⟨gl, k * 2, none⟩ (.int .i64 (x + 1))).heap.size ∧ gh < (wd.setCell ⟨gl, k * 2, none⟩ (.int .i64 (x + 1))).heap.size from ⟨by
      have h := (H6.out.who hk).2.1; rw [HG6.out] at h; dsimp only at h; rw [show (x :: q).length = n + 1 from by rw [← HN.out]; rfl] at h; exact h, row54 H6.out.box, H6.out.lt.2, H6.out.box.lt⟩)
    refine hK0.out _ _ (fun _ => HS6.out) ?_
    clear hK0 K0
    (try simp only [Act.put, List.getElem_toArray, List.getElem_cons_succ, List.getElem_cons_zero, List.setIfInBounds_toArray, List.set_cons_zero, List.set_cons_succ])
    have df2 := (H6.out.who hk).2.2 (k * 2 + 1)
    have d2 := HS6.out.1
    have dl2 := H6.out.lt.2
    have HB6 := hide (show Below gh W (wd.setCell ⟨gl, k * 2, none⟩ (.int .i64 (x + 1))) from (HB5D.out).setCell (p := ⟨gl, k * 2, none⟩) (Nat.le_of_lt HLT.1) _)
    generalize (wd.setCell ⟨gl, k * 2, none⟩ (.int .i64 (x + 1))) = w6 at *
    refine wpAnyT_one (i := 25) rfl (by kernel_rfl) (fun K1 hK1 => ?_)
    go_simp
    refine hK1.out _ _ (fun _ => HS6.out) ?_
    clear hK1 K1
    (try simp only [Act.put, List.getElem_toArray, List.getElem_cons_succ, List.getElem_cons_zero, List.setIfInBounds_toArray, List.set_cons_zero, List.set_cons_succ])
    refine wpAnyT_one (i := 26) rfl (by kernel_rfl) (fun K2 hK2 => ?_)
    go_simp
    refine hK2.out _ _ (fun _ => HS6.out) ?_
    clear hK2 K2
    (try simp only [Act.put, List.getElem_toArray, List.getElem_cons_succ, List.getElem_cons_zero, List.setIfInBounds_toArray, List.set_cons_zero, List.set_cons_succ])
    refine wpAnyT_one (i := 27) rfl (by kernel_rfl) (fun K3 hK3 => ?_)
    go_simp
    refine hK3.out _ _ (fun h => absurd rfl h) ?_
    clear hK3 K3
    (try simp only [Act.put, List.getElem_toArray, List.getElem_cons_succ, List.getElem_cons_zero, List.setIfInBounds_toArray, List.set_cons_zero, List.set_cons_succ])
    refine wpAnyT_done (by kernel_rfl) ?_ _
    have hq7 : QOk (gh + 1) w6 (some gl) ⟨x + 1, if n = 0 then some ⟨bq, oq, none⟩ else some ⟨bq, oq + 1, none⟩, n, q⟩ := by
      have h := H6.out.q hk
      rw [HG6.out] at h
      have hr := h.rd
      have hf := h.fr
      dsimp only at hr hf
      rw [show (x :: q).length = n + 1 from by rw [← HN.out]; rfl] at hr
      refine ⟨?_, ⟨by show q.length ≤ n; rw [HN.out]; exact Nat.le_refl _, by show n ≤ _; omega⟩, fun p hp => ?_⟩
      · dsimp only
        rw [HN.out]
        exact Rd.tailI hr HN.out
      · dsimp only at hp
        obtain ⟨h1, h2, h3, h4⟩ := hf _ rfl
        have hpb : p.block = bq := by
          split at hp <;> (injection hp with hp; rw [← hp])
        rw [hpb]
        exact ⟨h1, h2, h3, h4⟩
    have H7 := hide (show HAt (w6.setCell ⟨gl, k * 2 + 1, none⟩ (.slice (if n = 0 then some ⟨bq, oq, none⟩ else some ⟨bq, oq + 1, none⟩) n n)) gh gl m c _ g k x got from H6.out.setQ (A := if n = 0 then some ⟨bq, oq, none⟩ else some ⟨bq, oq + 1, none⟩) hk HN.out (by rw [HG6.out]; exact hq7))
    have HB7 := hide (HB6.out.setCell (p := ⟨gl, k * 2 + 1, none⟩) (Nat.le_of_lt HLT.1) (.slice (if n = 0 then some ⟨bq, oq, none⟩ else some ⟨bq, oq + 1, none⟩) n n))
    have HM7 := hide (show ∀ y : Mm, mus ((us.set k { us.getD k mmZ with who := x + 1 }).set k y) = (mus ts).set k y.mu from fun y => by rw [List.set_set]; exact HMU.out y)
    clear hq7
    generalize (if n = 0 then some (⟨bq, oq, none⟩ : Addr) else some ⟨bq, oq + 1, none⟩) = P7 at *
    have HF7 := hide (show leaveX (mus ts) k g = .ok (mus ((us.set k { us.getD k mmZ with who := x + 1 }).set k ⟨((us.set k { us.getD k mmZ with who := x + 1 }).getD k mmZ).who, P7, n, q⟩), x) from by rw [HF.out, HM7.out, HG6.out]; rfl)
    go_wp2_with fail
    go_end0
    exact ⟨HB7.out, .inl ⟨_, x, rfl, HF7.out, H7.out⟩⟩
end Go.Proofs.Ytlelpnahillioaa

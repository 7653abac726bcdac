/-
  GuardParts: the walk through the law.
-/
import Derived.Test.YtegnppmmcchmgaaDoorGum
import Derived.Test.YtegnppmmcchmgaaDoorGuxp
import Derived.BigQuiet
set_option linter.unusedSimpArgs false
set_option linter.unusedVariables false
namespace Go.Proofs.YtegnppmmcchmgaaDoor
open Go Go.RowKit
attribute [local go_sem] via_cell via_frozen

theorem spansV_cases (l : List Sec) (a b : Int) : (∃ er : Int, er ≠ 0 ∧ spansV l a b = ([], er)) ∨ (chk 0 l = true ∧ lookB a b = true ∧ spansV l a b = (spansF l (b + 1 - a).toNat a b, 0)) := by
  unfold spansV
  cases h : chk 0 l with
  | false => exact .inl ⟨160, by omega, rfl⟩
  | true =>
    cases h2 : lookB a b with
    | false => exact .inl ⟨2, by omega, rfl⟩
    | true => exact .inr ⟨rfl, rfl, rfl⟩
/-- What a round of the law holds: the rows from the j-th on are those from z on. -/
structure PartR (l : List Sec) (k b : Int) (xs : List (Int × Int)) (j n : Nat) (z : Int) : Prop where
  rest : xs.drop j = spansF l n z b
  ge : k ≤ z
  le : z ≤ b + 1
  room : (b + 1 - z).toNat ≤ n
  inv : z ≤ b → z = k ∨ clearB l z z = false
theorem PartR.step {l : List Sec} {k b : Int} {xs : List (Int × Int)} {j n : Nat} {z : Int} (h : PartR l k b xs j n z) (hc : chk 0 l = true) (hk : 0 ≤ k) (hb : b ≤ MAX) (hj : j < xs.length) :
    SpanIs l k z b xs[j] ∧ z ≤ b ∧ ∃ n', PartR l k b xs (j + 1) n' (xs[j].2 + 1) := by
  have hd := h.rest
  rw [List.drop_eq_getElem_cons hj] at hd
  cases n with
  | zero => cases hd
  | succ n =>
    unfold spansF at hd
    split at hd
    · rename_i hif
      injection hd with h1 h2
      have hs := span_is hc hk h.ge hif.1 hb hif.2 (h.inv hif.1)
      rw [← h1] at hs h2
      have := hs.ge
      have := hs.le
      have := hs.end_
      have := h.ge
      have := h.room
      exact ⟨hs, hif.1, n, h2, by omega, by omega, by omega, fun hz => .inr (hs.behind (by omega))⟩
    · cases hd
theorem PartR.stop {l : List Sec} {k b : Int} {xs : List (Int × Int)} {j n : Nat} {z : Int} (h : PartR l k b xs j n z) (hc : chk 0 l = true) (hk : 0 ≤ k) (hb : b ≤ MAX) (hj : j = xs.length) (hz : z ≤ b) :
    ∃ q : Int × Int, nextV l z = q ∧ (q.2 = 4 ∨ (q.2 = 0 ∧ b < q.1)) := by
  have hd := h.rest
  rw [hj, List.drop_length] at hd
  have hr := h.room
  have hg := h.ge
  cases n with
  | zero => omega
  | succ n =>
    unfold spansF at hd
    split at hd
    · cases hd
    · rename_i hif
      refine ⟨_, rfl, ?_⟩
      have hs1 : stepB z = true := by unfold stepB; simp; omega
      unfold nextV
      rw [hc, hs1]
      simp only [if_true]
      split
      · right; exact ⟨rfl, by dsimp only; omega⟩
      · left; rfl
/-- The cut lies within. -/
theorem cut_in (g : Int) {d : Int} (h0 : 0 < d) (h1 : d ≤ 1073741825) : 0 ≤ (IntKind.u64.wrap g).tmod d ∧ (IntKind.u64.wrap g).tmod d < d := by
  have h2 : 0 ≤ IntKind.u64.wrap g := by rw [IntKind.wrap_u64]; exact Int.emod_nonneg _ (by omega)
  rw [Int.tmod_eq_emod_of_nonneg h2]
  exact ⟨Int.emod_nonneg _ (by omega), Int.emod_lt_of_pos _ h0⟩
set_option maxRecDepth 100000 in
set_option maxHeartbeats 4000000 in
theorem Parts_walk (g : Int) (k : Int × Int) (A : Option Addr) (c n : Nat) (X : List Sec) (W : World) (ht : TwoAt W W.heap.size) (hr : Rd W W.heap.size 2 A n (Cs encS X)) (hx : X.length = n) (hn : n ≤ c) (hc : c ≤ 9223372036854775807) (hg : I64 g) (hk1 : I64 k.1) (hk2 : I64 k.2) :
    Calls Tryd.prog 7 #[.slice A n c, .agg #[.int .i64 k.1, .int .i64 k.2], .int .i64 g] W fun e W' => e = .returned (.bool true) ∧ Below W.heap.size W W' := by
  obtain ⟨k1, k2⟩ := k
  dsimp only
  have HBN := hide (show Below W.heap.size W (W.alloc (.cells #[.int .i64 k1, .int .i64 k2] 23)) from (Below.refl _ _).alloc (Nat.le_refl _) _)
  have HRN := hide (RowAt.new W 23 #[.int .i64 k1, .int .i64 k2])
  have HW := hide (wakes_any W.heap.size _ (ht.below HBN.out) HBN.out.size)
  have HR := hide hr
  obtain ⟨l, hl⟩ : ∃ l, X.take 16 = l := ⟨_, rfl⟩
  have hl16 : l.length ≤ 16 := by rw [← hl, List.length_take]; omega
  have HFW := hide (fun (w : World) (hb : Below W.heap.size W w) => few_any W.heap.size A c n X w (HR.out.below hb) hx (by omega) (by omega) hb.size)
  rw [hl] at HFW
  clear ht hr hl hk1 hk2 hg
  go_enter Tryd.func7, Tryd.ntmps7
  go_wp2_with fail
  generalize W.alloc (.cells #[.int .i64 k1, .int .i64 k2] 23) = w0 at *
  with_reducible refine HW.out.mono ?_
  rintro e w1 ⟨rfl, hb1⟩
  have HB1 := hide (HBN.out.trans (hb1.mono HBN.out.size))
  have HR1 := hide (HRN.out.below hb1)
  clear hb1
  go_wp2_with fail
  with_reducible refine (HFW.out w1 HB1.out).mono ?_
  rintro e w2 ⟨v, rfl, hown, hb2⟩
  have HB2 := hide (HB1.out.trans (hb2.mono HB1.out.size))
  have HR2 := hide (HR1.out.below hb2)
  obtain ⟨Al, cl, rfl, _⟩ := own_form hown
  have HL2 := hide (Rd.of_own hown)
  obtain ⟨m, hm⟩ : ∃ m, l.length = m := ⟨_, rfl⟩
  have HM := hide hm
  rw [hm] at HL2 hl16 ⊢
  clear hb2 hown hm
  have q0 := row20 HR2.out
  have q1 := row21 HR2.out
  have ql := HR2.out.lt
  have HCLR := hide (fun (w : World) (hb : Below w2.heap.size w2 w) (x y : Int) (r : Bool) (hr : clearB l x y = r) => clear_any w2.heap.size Al cl m l x y w (HL2.out.below hb) HM.out hb.size (by omega) r hr)
  have HNX := hide (fun (w : World) (hb : Below w2.heap.size w2 w) (x : Int) (r : Int × Int) (hr : nextV l x = r) => nextN_any w2.heap.size Al cl m l x w (HL2.out.below hb) HM.out hb.size (by omega) r hr)
  go_wp2_with fail
  rcases spansV_cases l k1 k2 with ⟨er, her, hv⟩ | ⟨hck, hlk, hv⟩
  · have hd : (er != 0) = true := by simpa using her
    with_reducible refine (spans_any w2.heap.size Al cl m l k1 k2 w2 HL2.out HM.out (Nat.le_refl _) (by omega) _ _ hv).mono ?_
    rintro e w3 ⟨vs, rfl, hos, _, hb3⟩
    have HB3 := hide (HB2.out.trans (hb3.mono HB2.out.size))
    obtain ⟨As, cs, rfl, _⟩ := own_form hos
    clear hb3 hos hv her
    dsimp only [List.length_nil]
    go_wp2_with fail
    go_ret
    exact ⟨rfl, HB3.out⟩
  · obtain ⟨hk0, _, _, hbM, hab⟩ := lookB_out hlk
    have hbM : k2 ≤ 1073741824 := hbM
    obtain ⟨xs, hxs⟩ : ∃ xs, spansF l (k2 + 1 - k1).toNat k1 k2 = xs := ⟨_, rfl⟩
    rw [hxs] at hv
    have HCK := hide hck
    have HP0 := hide (show PartR l k1 k2 xs 0 (k2 + 1 - k1).toNat k1 from ⟨by rw [hxs]; rfl, Int.le_refl _, by omega, Nat.le_refl _, fun _ => .inl rfl⟩)
    with_reducible refine (spans_any w2.heap.size Al cl m l k1 k2 w2 HL2.out HM.out (Nat.le_refl _) (by omega) _ _ hv).mono ?_
    rintro e w3 ⟨vs, rfl, hos, hxl, hb3⟩
    have HB3 := hide (HB2.out.trans (hb3.mono HB2.out.size))
    have HBL3 := hide hb3
    have HR3 := hide (HR2.out.below hb3)
    obtain ⟨As, cs, rfl, _⟩ := own_form hos
    have HS3 := hide (Rd.of_own hos)
    have hs3 := hb3.size
    clear hb3 hos hv hxs hck hlk q0 q1 ql
    have q0 := row20 HR3.out
    have q1 := row21 HR3.out
    have ql := HR3.out.lt
    go_wp2_with fail
    go_loopw [10, 40] (fun av i wr => ∃ (j nn : Nat) (z : Int), j ≤ xs.length ∧ av = .int .i64 z ∧ i = .int .i64 j ∧ PartR l k1 k2 xs j nn z ∧ Below w3.heap.size w3 wr) (fun _ i _ => xs.length - (intOf i).toNat)
    case atStart => exact ⟨0, _, k1, Nat.zero_le _, rfl, rfl, HP0.out, Below.refl _ _⟩
    case round =>
      obtain ⟨j, nn, z, hj, rfl, rfl, hpr, hbw⟩ := hrel
      have HPR := hide hpr
      have HBW := hide hbw
      have HBLW := hide (HBL3.out.trans (hbw.mono hs3))
      have hsw := hbw.size
      have hzle := hpr.le
      have hzge := hpr.ge
      have HRW := hide (HR3.out.below hbw)
      clear hpr hbw q0 q1 ql
      have q0 := row20 HRW.out
      have q1 := row21 HRW.out
      have ql := HRW.out.lt
      by_cases hlt : j < xs.length
      · obtain ⟨b, o, rfl, hb, d0, d1⟩ := (HS3.out.below HBW.out).sec hlt
        have hbl : b < wr.heap.size := by omega
        have hji : (j : Int) < (xs.length : Int) := by omega
        have hjm : (j : Int) ≤ 1073741825 := by omega
        obtain ⟨hsp, hzb, n', hpn⟩ := HPR.out.step HCK.out hk0 hbM hlt
        have HBN2 := hide (show Below w3.heap.size w3 (wr.alloc (.cells #[.int .i64 xs[j].1, .int .i64 xs[j].2] 23)) from HBW.out.trans ((Below.refl _ _).alloc hsw _))
        have HRX := hide (RowAt.new wr 23 #[.int .i64 xs[j].1, .int .i64 xs[j].2])
        have HSP := hide hsp
        have HPN := hide hpn
        generalize xs[j] = s at *
        obtain ⟨s1, s2⟩ := s
        dsimp only at d0 d1 HBN2 HRX HPN
        have g1 : z ≤ s1 := hsp.ge
        have g2 : s1 ≤ s2 := hsp.le
        have g3 : s2 ≤ k2 := hsp.end_
        have HRW2 := hide (HRW.out.below ((Below.refl _ _).alloc (Nat.le_refl _) (.cells #[.int .i64 s1, .int .i64 s2] 23)))
        clear hb hsp hpn HPR
        go_wp2_with fail
        generalize wr.alloc (.cells #[.int .i64 s1, .int .i64 s2] 23) = w4 at *
        have HX4 := hide HBN2.out
        have HRX4 := hide HRX.out
        have HRK4 := hide HRW2.out
        clear q0 q1 ql
        have e0 := row20 HRX4.out
        have e1 := row21 HRX4.out
        have el := HRX4.out.lt
        have q0 := row20 HRK4.out
        have q1 := row21 HRK4.out
        have ql := HRK4.out.lt
        by_cases h1 : k1 < s1
        · by_cases h2 : s2 < k2
          · skip
            with_reducible refine (HCLR.out w4 (HBL3.out.trans (HX4.out.mono hs3)) (s1) (s2) true (HSP.out.clear s1 s2 (Int.le_refl _) g2 (Int.le_refl _))).mono ?_
            rintro e w5 ⟨rfl, hb5⟩
            have HX5 := hide (HX4.out.trans (hb5.mono HX4.out.size))
            have HRX5 := hide (HRX4.out.below hb5)
            have HRK5 := hide (HRK4.out.below hb5)
            clear hb5 e0 e1 el q0 q1 ql
            have e0 := row20 HRX5.out
            have e1 := row21 HRX5.out
            have el := HRX5.out.lt
            have q0 := row20 HRK5.out
            have q1 := row21 HRK5.out
            have ql := HRK5.out.lt
            go_wp2_with fail
            with_reducible refine (HCLR.out w5 (HBL3.out.trans (HX5.out.mono hs3)) (s1 - 1) (s1 - 1) false (HSP.out.ahead h1)).mono ?_
            rintro e w6 ⟨rfl, hb6⟩
            have HX6 := hide (HX5.out.trans (hb6.mono HX5.out.size))
            have HRX6 := hide (HRX5.out.below hb6)
            have HRK6 := hide (HRK5.out.below hb6)
            clear hb6 e0 e1 el q0 q1 ql
            have e0 := row20 HRX6.out
            have e1 := row21 HRX6.out
            have el := HRX6.out.lt
            have q0 := row20 HRK6.out
            have q1 := row21 HRK6.out
            have ql := HRK6.out.lt
            go_wp2_with fail
            with_reducible refine (HCLR.out w6 (HBL3.out.trans (HX6.out.mono hs3)) (s2 + 1) (s2 + 1) false (HSP.out.behind h2)).mono ?_
            rintro e w7 ⟨rfl, hb7⟩
            have HX7 := hide (HX6.out.trans (hb7.mono HX6.out.size))
            have HRX7 := hide (HRX6.out.below hb7)
            have HRK7 := hide (HRK6.out.below hb7)
            clear hb7 e0 e1 el q0 q1 ql
            have e0 := row20 HRX7.out
            have e1 := row21 HRX7.out
            have el := HRX7.out.lt
            have q0 := row20 HRK7.out
            have q1 := row21 HRK7.out
            have ql := HRK7.out.lt
            go_wp2_with fail
            obtain ⟨hm0, hm1⟩ := cut_in g (d := s2 - s1 + 1) (by omega) (by omega)
            have hdz : ¬ (s2 - s1 + 1 = 0) := by omega
            have hdw : IntKind.u64.wrap (s2 - s1 + 1) = s2 - s1 + 1 := by rw [IntKind.wrap_u64]; omega
            generalize hcut : (IntKind.u64.wrap g).tmod (s2 - s1 + 1) = cut at *
            go_quiet (fail)
            have HXQ := hide (below_drewN HX7.out nq)
            have HRXQ : Hid (RowAt (w7.drewN nq) wr.heap.size 23 #[.int .i64 s1, .int .i64 s2]) := hide HRX7.out
            have HRKQ : Hid (RowAt (w7.drewN nq) W.heap.size 23 #[.int .i64 k1, .int .i64 k2]) := hide HRK7.out
            go_wp2_with fail
            generalize w7.drewN nq = w8 at *
            have HX8 := hide HXQ.out
            have HRX8 := hide HRXQ.out
            have HRK8 := hide HRKQ.out
            clear e0 e1 el q0 q1 ql
            have e0 := row20 HRX8.out
            have e1 := row21 HRX8.out
            have el := HRX8.out.lt
            have q0 := row20 HRK8.out
            have q1 := row21 HRK8.out
            have ql := HRK8.out.lt
            with_reducible refine (HCLR.out w8 (HBL3.out.trans (HX8.out.mono hs3)) (s1) (s1 + cut) true (HSP.out.clear s1 (s1 + cut) (Int.le_refl _) (by omega) (by show s1 + cut ≤ s2; omega))).mono ?_
            rintro e w9 ⟨rfl, hb9⟩
            have HX9 := hide (HX8.out.trans (hb9.mono HX8.out.size))
            have HRX9 := hide (HRX8.out.below hb9)
            have HRK9 := hide (HRK8.out.below hb9)
            clear hb9 e0 e1 el q0 q1 ql
            have e0 := row20 HRX9.out
            have e1 := row21 HRX9.out
            have el := HRX9.out.lt
            have q0 := row20 HRK9.out
            have q1 := row21 HRK9.out
            have ql := HRK9.out.lt
            go_wp2_with fail
            with_reducible refine (HCLR.out w9 (HBL3.out.trans (HX9.out.mono hs3)) (s1 + cut) (s2) true (HSP.out.clear (s1 + cut) s2 (by show s1 ≤ s1 + cut; omega) (by omega) (Int.le_refl _))).mono ?_
            rintro e w10 ⟨rfl, hb10⟩
            have HX10 := hide (HX9.out.trans (hb10.mono HX9.out.size))
            have HRX10 := hide (HRX9.out.below hb10)
            have HRK10 := hide (HRK9.out.below hb10)
            clear hb10 e0 e1 el q0 q1 ql
            have e0 := row20 HRX10.out
            have e1 := row21 HRX10.out
            have el := HRX10.out.lt
            have q0 := row20 HRK10.out
            have q1 := row21 HRK10.out
            have ql := HRK10.out.lt
            go_wp2_with fail
            with_reducible refine (HNX.out w10 (HBL3.out.trans (HX10.out.mono hs3)) z _ HSP.out.next).mono ?_
            rintro e w11 ⟨rfl, hb11⟩
            have HX11 := hide (HX10.out.trans (hb11.mono HX10.out.size))
            have HRX11 := hide (HRX10.out.below hb11)
            have HRK11 := hide (HRK10.out.below hb11)
            clear hb11 e0 e1 el q0 q1 ql
            have e0 := row20 HRX11.out
            have e1 := row21 HRX11.out
            have el := HRX11.out.lt
            have q0 := row20 HRK11.out
            have q1 := row21 HRK11.out
            have ql := HRK11.out.lt
            dsimp only [pairI]
            go_wp2_with fail
            go_roundw
            case rel => exact ⟨j + 1, _, s2 + 1, by omega, by go_num, by go_num, HPN.out, HX11.out⟩
            case measure => simp [intOf]; omega
          · skip
            with_reducible refine (HCLR.out w4 (HBL3.out.trans (HX4.out.mono hs3)) (s1) (s2) true (HSP.out.clear s1 s2 (Int.le_refl _) g2 (Int.le_refl _))).mono ?_
            rintro e w5 ⟨rfl, hb5⟩
            have HX5 := hide (HX4.out.trans (hb5.mono HX4.out.size))
            have HRX5 := hide (HRX4.out.below hb5)
            have HRK5 := hide (HRK4.out.below hb5)
            clear hb5 e0 e1 el q0 q1 ql
            have e0 := row20 HRX5.out
            have e1 := row21 HRX5.out
            have el := HRX5.out.lt
            have q0 := row20 HRK5.out
            have q1 := row21 HRK5.out
            have ql := HRK5.out.lt
            go_wp2_with fail
            with_reducible refine (HCLR.out w5 (HBL3.out.trans (HX5.out.mono hs3)) (s1 - 1) (s1 - 1) false (HSP.out.ahead h1)).mono ?_
            rintro e w6 ⟨rfl, hb6⟩
            have HX6 := hide (HX5.out.trans (hb6.mono HX5.out.size))
            have HRX6 := hide (HRX5.out.below hb6)
            have HRK6 := hide (HRK5.out.below hb6)
            clear hb6 e0 e1 el q0 q1 ql
            have e0 := row20 HRX6.out
            have e1 := row21 HRX6.out
            have el := HRX6.out.lt
            have q0 := row20 HRK6.out
            have q1 := row21 HRK6.out
            have ql := HRK6.out.lt
            go_wp2_with fail
            obtain ⟨hm0, hm1⟩ := cut_in g (d := s2 - s1 + 1) (by omega) (by omega)
            have hdz : ¬ (s2 - s1 + 1 = 0) := by omega
            have hdw : IntKind.u64.wrap (s2 - s1 + 1) = s2 - s1 + 1 := by rw [IntKind.wrap_u64]; omega
            generalize hcut : (IntKind.u64.wrap g).tmod (s2 - s1 + 1) = cut at *
            go_quiet (fail)
            have HXQ := hide (below_drewN HX6.out nq)
            have HRXQ : Hid (RowAt (w6.drewN nq) wr.heap.size 23 #[.int .i64 s1, .int .i64 s2]) := hide HRX6.out
            have HRKQ : Hid (RowAt (w6.drewN nq) W.heap.size 23 #[.int .i64 k1, .int .i64 k2]) := hide HRK6.out
            go_wp2_with fail
            generalize w6.drewN nq = w7 at *
            have HX7 := hide HXQ.out
            have HRX7 := hide HRXQ.out
            have HRK7 := hide HRKQ.out
            clear e0 e1 el q0 q1 ql
            have e0 := row20 HRX7.out
            have e1 := row21 HRX7.out
            have el := HRX7.out.lt
            have q0 := row20 HRK7.out
            have q1 := row21 HRK7.out
            have ql := HRK7.out.lt
            with_reducible refine (HCLR.out w7 (HBL3.out.trans (HX7.out.mono hs3)) (s1) (s1 + cut) true (HSP.out.clear s1 (s1 + cut) (Int.le_refl _) (by omega) (by show s1 + cut ≤ s2; omega))).mono ?_
            rintro e w8 ⟨rfl, hb8⟩
            have HX8 := hide (HX7.out.trans (hb8.mono HX7.out.size))
            have HRX8 := hide (HRX7.out.below hb8)
            have HRK8 := hide (HRK7.out.below hb8)
            clear hb8 e0 e1 el q0 q1 ql
            have e0 := row20 HRX8.out
            have e1 := row21 HRX8.out
            have el := HRX8.out.lt
            have q0 := row20 HRK8.out
            have q1 := row21 HRK8.out
            have ql := HRK8.out.lt
            go_wp2_with fail
            with_reducible refine (HCLR.out w8 (HBL3.out.trans (HX8.out.mono hs3)) (s1 + cut) (s2) true (HSP.out.clear (s1 + cut) s2 (by show s1 ≤ s1 + cut; omega) (by omega) (Int.le_refl _))).mono ?_
            rintro e w9 ⟨rfl, hb9⟩
            have HX9 := hide (HX8.out.trans (hb9.mono HX8.out.size))
            have HRX9 := hide (HRX8.out.below hb9)
            have HRK9 := hide (HRK8.out.below hb9)
            clear hb9 e0 e1 el q0 q1 ql
            have e0 := row20 HRX9.out
            have e1 := row21 HRX9.out
            have el := HRX9.out.lt
            have q0 := row20 HRK9.out
            have q1 := row21 HRK9.out
            have ql := HRK9.out.lt
            go_wp2_with fail
            with_reducible refine (HNX.out w9 (HBL3.out.trans (HX9.out.mono hs3)) z _ HSP.out.next).mono ?_
            rintro e w10 ⟨rfl, hb10⟩
            have HX10 := hide (HX9.out.trans (hb10.mono HX9.out.size))
            have HRX10 := hide (HRX9.out.below hb10)
            have HRK10 := hide (HRK9.out.below hb10)
            clear hb10 e0 e1 el q0 q1 ql
            have e0 := row20 HRX10.out
            have e1 := row21 HRX10.out
            have el := HRX10.out.lt
            have q0 := row20 HRK10.out
            have q1 := row21 HRK10.out
            have ql := HRK10.out.lt
            dsimp only [pairI]
            go_wp2_with fail
            go_roundw
            case rel => exact ⟨j + 1, _, s2 + 1, by omega, by go_num, by go_num, HPN.out, HX10.out⟩
            case measure => simp [intOf]; omega
        · by_cases h2 : s2 < k2
          · skip
            with_reducible refine (HCLR.out w4 (HBL3.out.trans (HX4.out.mono hs3)) (s1) (s2) true (HSP.out.clear s1 s2 (Int.le_refl _) g2 (Int.le_refl _))).mono ?_
            rintro e w5 ⟨rfl, hb5⟩
            have HX5 := hide (HX4.out.trans (hb5.mono HX4.out.size))
            have HRX5 := hide (HRX4.out.below hb5)
            have HRK5 := hide (HRK4.out.below hb5)
            clear hb5 e0 e1 el q0 q1 ql
            have e0 := row20 HRX5.out
            have e1 := row21 HRX5.out
            have el := HRX5.out.lt
            have q0 := row20 HRK5.out
            have q1 := row21 HRK5.out
            have ql := HRK5.out.lt
            go_wp2_with fail
            with_reducible refine (HCLR.out w5 (HBL3.out.trans (HX5.out.mono hs3)) (s2 + 1) (s2 + 1) false (HSP.out.behind h2)).mono ?_
            rintro e w6 ⟨rfl, hb6⟩
            have HX6 := hide (HX5.out.trans (hb6.mono HX5.out.size))
            have HRX6 := hide (HRX5.out.below hb6)
            have HRK6 := hide (HRK5.out.below hb6)
            clear hb6 e0 e1 el q0 q1 ql
            have e0 := row20 HRX6.out
            have e1 := row21 HRX6.out
            have el := HRX6.out.lt
            have q0 := row20 HRK6.out
            have q1 := row21 HRK6.out
            have ql := HRK6.out.lt
            go_wp2_with fail
            obtain ⟨hm0, hm1⟩ := cut_in g (d := s2 - s1 + 1) (by omega) (by omega)
            have hdz : ¬ (s2 - s1 + 1 = 0) := by omega
            have hdw : IntKind.u64.wrap (s2 - s1 + 1) = s2 - s1 + 1 := by rw [IntKind.wrap_u64]; omega
            generalize hcut : (IntKind.u64.wrap g).tmod (s2 - s1 + 1) = cut at *
            go_quiet (fail)
            have HXQ := hide (below_drewN HX6.out nq)
            have HRXQ : Hid (RowAt (w6.drewN nq) wr.heap.size 23 #[.int .i64 s1, .int .i64 s2]) := hide HRX6.out
            have HRKQ : Hid (RowAt (w6.drewN nq) W.heap.size 23 #[.int .i64 k1, .int .i64 k2]) := hide HRK6.out
            go_wp2_with fail
            generalize w6.drewN nq = w7 at *
            have HX7 := hide HXQ.out
            have HRX7 := hide HRXQ.out
            have HRK7 := hide HRKQ.out
            clear e0 e1 el q0 q1 ql
            have e0 := row20 HRX7.out
            have e1 := row21 HRX7.out
            have el := HRX7.out.lt
            have q0 := row20 HRK7.out
            have q1 := row21 HRK7.out
            have ql := HRK7.out.lt
            with_reducible refine (HCLR.out w7 (HBL3.out.trans (HX7.out.mono hs3)) (s1) (s1 + cut) true (HSP.out.clear s1 (s1 + cut) (Int.le_refl _) (by omega) (by show s1 + cut ≤ s2; omega))).mono ?_
            rintro e w8 ⟨rfl, hb8⟩
            have HX8 := hide (HX7.out.trans (hb8.mono HX7.out.size))
            have HRX8 := hide (HRX7.out.below hb8)
            have HRK8 := hide (HRK7.out.below hb8)
            clear hb8 e0 e1 el q0 q1 ql
            have e0 := row20 HRX8.out
            have e1 := row21 HRX8.out
            have el := HRX8.out.lt
            have q0 := row20 HRK8.out
            have q1 := row21 HRK8.out
            have ql := HRK8.out.lt
            go_wp2_with fail
            with_reducible refine (HCLR.out w8 (HBL3.out.trans (HX8.out.mono hs3)) (s1 + cut) (s2) true (HSP.out.clear (s1 + cut) s2 (by show s1 ≤ s1 + cut; omega) (by omega) (Int.le_refl _))).mono ?_
            rintro e w9 ⟨rfl, hb9⟩
            have HX9 := hide (HX8.out.trans (hb9.mono HX8.out.size))
            have HRX9 := hide (HRX8.out.below hb9)
            have HRK9 := hide (HRK8.out.below hb9)
            clear hb9 e0 e1 el q0 q1 ql
            have e0 := row20 HRX9.out
            have e1 := row21 HRX9.out
            have el := HRX9.out.lt
            have q0 := row20 HRK9.out
            have q1 := row21 HRK9.out
            have ql := HRK9.out.lt
            go_wp2_with fail
            with_reducible refine (HNX.out w9 (HBL3.out.trans (HX9.out.mono hs3)) z _ HSP.out.next).mono ?_
            rintro e w10 ⟨rfl, hb10⟩
            have HX10 := hide (HX9.out.trans (hb10.mono HX9.out.size))
            have HRX10 := hide (HRX9.out.below hb10)
            have HRK10 := hide (HRK9.out.below hb10)
            clear hb10 e0 e1 el q0 q1 ql
            have e0 := row20 HRX10.out
            have e1 := row21 HRX10.out
            have el := HRX10.out.lt
            have q0 := row20 HRK10.out
            have q1 := row21 HRK10.out
            have ql := HRK10.out.lt
            dsimp only [pairI]
            go_wp2_with fail
            go_roundw
            case rel => exact ⟨j + 1, _, s2 + 1, by omega, by go_num, by go_num, HPN.out, HX10.out⟩
            case measure => simp [intOf]; omega
          · skip
            with_reducible refine (HCLR.out w4 (HBL3.out.trans (HX4.out.mono hs3)) (s1) (s2) true (HSP.out.clear s1 s2 (Int.le_refl _) g2 (Int.le_refl _))).mono ?_
            rintro e w5 ⟨rfl, hb5⟩
            have HX5 := hide (HX4.out.trans (hb5.mono HX4.out.size))
            have HRX5 := hide (HRX4.out.below hb5)
            have HRK5 := hide (HRK4.out.below hb5)
            clear hb5 e0 e1 el q0 q1 ql
            have e0 := row20 HRX5.out
            have e1 := row21 HRX5.out
            have el := HRX5.out.lt
            have q0 := row20 HRK5.out
            have q1 := row21 HRK5.out
            have ql := HRK5.out.lt
            go_wp2_with fail
            obtain ⟨hm0, hm1⟩ := cut_in g (d := s2 - s1 + 1) (by omega) (by omega)
            have hdz : ¬ (s2 - s1 + 1 = 0) := by omega
            have hdw : IntKind.u64.wrap (s2 - s1 + 1) = s2 - s1 + 1 := by rw [IntKind.wrap_u64]; omega
            generalize hcut : (IntKind.u64.wrap g).tmod (s2 - s1 + 1) = cut at *
            go_quiet (fail)
            have HXQ := hide (below_drewN HX5.out nq)
            have HRXQ : Hid (RowAt (w5.drewN nq) wr.heap.size 23 #[.int .i64 s1, .int .i64 s2]) := hide HRX5.out
            have HRKQ : Hid (RowAt (w5.drewN nq) W.heap.size 23 #[.int .i64 k1, .int .i64 k2]) := hide HRK5.out
            go_wp2_with fail
            generalize w5.drewN nq = w6 at *
            have HX6 := hide HXQ.out
            have HRX6 := hide HRXQ.out
            have HRK6 := hide HRKQ.out
            clear e0 e1 el q0 q1 ql
            have e0 := row20 HRX6.out
            have e1 := row21 HRX6.out
            have el := HRX6.out.lt
            have q0 := row20 HRK6.out
            have q1 := row21 HRK6.out
            have ql := HRK6.out.lt
            with_reducible refine (HCLR.out w6 (HBL3.out.trans (HX6.out.mono hs3)) (s1) (s1 + cut) true (HSP.out.clear s1 (s1 + cut) (Int.le_refl _) (by omega) (by show s1 + cut ≤ s2; omega))).mono ?_
            rintro e w7 ⟨rfl, hb7⟩
            have HX7 := hide (HX6.out.trans (hb7.mono HX6.out.size))
            have HRX7 := hide (HRX6.out.below hb7)
            have HRK7 := hide (HRK6.out.below hb7)
            clear hb7 e0 e1 el q0 q1 ql
            have e0 := row20 HRX7.out
            have e1 := row21 HRX7.out
            have el := HRX7.out.lt
            have q0 := row20 HRK7.out
            have q1 := row21 HRK7.out
            have ql := HRK7.out.lt
            go_wp2_with fail
            with_reducible refine (HCLR.out w7 (HBL3.out.trans (HX7.out.mono hs3)) (s1 + cut) (s2) true (HSP.out.clear (s1 + cut) s2 (by show s1 ≤ s1 + cut; omega) (by omega) (Int.le_refl _))).mono ?_
            rintro e w8 ⟨rfl, hb8⟩
            have HX8 := hide (HX7.out.trans (hb8.mono HX7.out.size))
            have HRX8 := hide (HRX7.out.below hb8)
            have HRK8 := hide (HRK7.out.below hb8)
            clear hb8 e0 e1 el q0 q1 ql
            have e0 := row20 HRX8.out
            have e1 := row21 HRX8.out
            have el := HRX8.out.lt
            have q0 := row20 HRK8.out
            have q1 := row21 HRK8.out
            have ql := HRK8.out.lt
            go_wp2_with fail
            with_reducible refine (HNX.out w8 (HBL3.out.trans (HX8.out.mono hs3)) z _ HSP.out.next).mono ?_
            rintro e w9 ⟨rfl, hb9⟩
            have HX9 := hide (HX8.out.trans (hb9.mono HX8.out.size))
            have HRX9 := hide (HRX8.out.below hb9)
            have HRK9 := hide (HRK8.out.below hb9)
            clear hb9 e0 e1 el q0 q1 ql
            have e0 := row20 HRX9.out
            have e1 := row21 HRX9.out
            have el := HRX9.out.lt
            have q0 := row20 HRK9.out
            have q1 := row21 HRK9.out
            have ql := HRK9.out.lt
            dsimp only [pairI]
            go_wp2_with fail
            go_roundw
            case rel => exact ⟨j + 1, _, s2 + 1, by omega, by go_num, by go_num, HPN.out, HX9.out⟩
            case measure => simp [intOf]; omega
      · obtain rfl : j = xs.length := by omega
        by_cases hzb : z ≤ k2
        · obtain ⟨⟨qa, qb⟩, hqv, hq⟩ := HPR.out.stop HCK.out hk0 hbM rfl hzb
          go_wp2_with fail
          with_reducible refine (HNX.out wr HBLW.out z _ hqv).mono ?_
          rintro e w5 ⟨rfl, hb5⟩
          have HB5 := hide (HB2.out.trans ((HBLW.out.trans (hb5.mono HBLW.out.size)).mono HB2.out.size))
          have HR5 := hide (HRW.out.below hb5)
          clear hb5 q0 q1 ql hqv
          have q0 := row20 HR5.out
          have q1 := row21 HR5.out
          have ql := HR5.out.lt
          dsimp only [pairI] at hq ⊢
          rcases hq with rfl | ⟨rfl, hq⟩
          · go_wp2_with fail
            go_ret
            exact ⟨rfl, HB5.out⟩
          · go_wp2_with fail
            go_ret
            exact ⟨rfl, HB5.out⟩
        · go_wp2_with fail
          go_ret
          exact ⟨rfl, HB2.out.trans (HBLW.out.mono HB2.out.size)⟩
end Go.Proofs.YtegnppmmcchmgaaDoor

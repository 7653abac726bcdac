/-
  DirWhole, walked.
-/
import Derived.Test.YtjlbnegdiabglaaDjc
import Derived.Test.YtjlbnegdiabglaaDjp
import Derived.BigQuiet
import Derived.Deep.RegionHeld3
set_option linter.unusedSimpArgs false
set_option linter.unusedVariables false
namespace Go.Proofs.Ytjlbnegdiabglaa
open Go Go.RowKit
attribute [local go_sem] via_cell via_frozen

theorem row6 {w : World} {g : Nat} {t : TypeId} {a b c d e f : Value} (h : RowAt w g t #[a, b, c, d, e, f]) : w.cell? ⟨g, 0, none⟩ = some a ∧ w.cell? ⟨g, 1, none⟩ = some b ∧ w.cell? ⟨g, 2, none⟩ = some c ∧ w.cell? ⟨g, 3, none⟩ = some d ∧ w.cell? ⟨g, 4, none⟩ = some e ∧ w.cell? ⟨g, 5, none⟩ = some f :=
  ⟨h.cell 0, h.cell 1, h.cell 2, h.cell 3, h.cell 4, h.cell 5⟩
theorem shr_min {h : Int} (hh : U64 h) (z : Nat) : h / 2 ^ min z 64 = h / 2 ^ z := by
  obtain ⟨h0, h1⟩ := hh
  rcases Nat.le_total z 64 with h2 | h2
  · rw [Nat.min_eq_left h2]
  · have h3 : (2 : Int) ^ 64 ≤ 2 ^ z := by exact_mod_cast Nat.pow_le_pow_right (show 0 < 2 by omega) h2
    rw [Nat.min_eq_right h2, Int.ediv_eq_zero_of_lt h0 (by omega), Int.ediv_eq_zero_of_lt h0 (by omega)]
theorem topZ_less {h dep : Int} (hh : U64 h) (hd5 : dep ≤ 5) (q : Nat) (hq : (q : Int) ≤ dep) : topZ h (dep - q) = topZ h dep / 2 ^ q := by
  unfold topZ
  have e : (63 - (dep - (q : Int))).toNat = (63 - dep).toNat + q := by omega
  rw [e, Int.pow_add, Int.ediv_ediv_of_nonneg (x := h / 2) (y := 2 ^ (63 - dep).toNat) (z := 2 ^ q) (Int.pow_nonneg (by omega))]
theorem topZ_law (h D : Int) : h / 2 ^ (63 - D).toNat / 2 = topZ h D := by
  unfold topZ
  rw [Int.ediv_ediv_of_nonneg (by exact Int.pow_nonneg (by omega)), Int.ediv_ediv_of_nonneg (by omega), Int.mul_comm]
/-- A hash goes to a run just if its number of the directory's depth lies there. -/
theorem goes_iff {dep : Int} {es : List En} (hm : mayB dep es = true) {h : Int} (hh : U64 h) {r : Rn} (hr : r ∈ runs es) : topZ h (rc dep r).dep = (rc dep r).pre ↔ ((r.at_ : Int) ≤ topZ h dep ∧ topZ h dep < (r.at_ : Int) + r.many) := by
  obtain ⟨hd0, hd5, hl32, hl1, -, hlen⟩ := may_shape hm
  obtain ⟨m1, m2, _, _⟩ := runs_mem hr
  have hok : okRun r = true := by
    unfold mayB at hm
    simp only [Bool.and_eq_true] at hm
    exact List.all_eq_true.1 hm.1.2 r hr
  unfold okRun at hok
  simp only [Bool.and_eq_true, decide_eq_true_eq] at hok
  have hp := (pow_small32 m1 (by omega)).1 hok.1
  have hq : ((Nat.log2 r.many : Nat) : Int) ≤ dep := by
    have h1 : 2 ^ Nat.log2 r.many ≤ 2 ^ dep.toNat := by rw [hp, ← hlen]; omega
    have h2 := (Nat.pow_le_pow_iff_right (show 1 < 2 by omega)).1 h1
    omega
  have ht := topZ_dep hh hd0 hd5
  simp only [rc]
  rw [topZ_less hh hd5 _ hq]
  have hpi : (2 : Int) ^ Nat.log2 r.many = (r.many : Int) := by exact_mod_cast hp
  rw [hpi]
  obtain ⟨k, hk⟩ := Nat.dvd_of_mod_eq_zero hok.2
  have e1 : r.at_ / r.many = k := by rw [hk, Nat.mul_div_cancel_left _ (by omega)]
  rw [e1, hk]
  generalize topZ h dep = t at *
  have hmi : (0 : Int) < (r.many : Int) := by omega
  generalize r.many = m at *
  push_cast
  constructor
  · intro h
    rw [← h]
    have h1 := Int.mul_ediv_add_emod t m
    have h2 := Int.emod_nonneg t (show (m : Int) ≠ 0 by omega)
    have h3 := Int.emod_lt_of_pos t hmi
    omega
  · rintro ⟨h1, h2⟩
    have e : t = (k : Int) * m + (t - (k : Int) * m) := by omega
    have h3 : (k : Int) * m = m * k := Int.mul_comm _ _
    rw [e, Int.add_comm, Int.add_mul_ediv_right _ _ (by omega), Int.ediv_eq_zero_of_lt (by omega) (by omega)]
    omega
theorem of_some {dep h : Int} {es : List En} (hm : mayB dep es = true) {k : Nat} {pre : List Rn} (hk : k < es.length) (hsp : runs es = pre ++ runsAt k (es.drop k)) (hpre : ∀ r ∈ pre, r.at_ + r.many ≤ k)
    (h1 : (k : Int) ≤ topZ h dep) (h2 : topZ h dep < (k : Int) + lenAt es k) : ofX dep h es = some (rc dep ⟨k, lenAt es k, es.getD k (0, 0)⟩) := by
  unfold ofX
  rw [if_pos hm, hsp, List.map_append, List.find?_append, find_allT (fun x hx => by
    obtain ⟨r, hr, rfl⟩ := List.mem_map.1 hx
    have := hpre r hr
    simp only [rc]
    omega), runsAt_drop es hk, List.map_cons, List.find?_cons_of_pos]
  · rfl
  · exact decide_eq_true h2
theorem log_run {dep : Int} {es : List En} (hm : mayB dep es = true) {r : Rn} (hr : r ∈ runs es) : ((Nat.log2 r.many : Nat) : Int) ≤ dep ∧ 2 ^ Nat.log2 r.many = r.many := by
  obtain ⟨hd0, hd5, hl32, hl1, -, hlen⟩ := may_shape hm
  obtain ⟨m1, m2, _, _⟩ := runs_mem hr
  have hok : okRun r = true := by
    unfold mayB at hm
    simp only [Bool.and_eq_true] at hm
    exact List.all_eq_true.1 hm.1.2 r hr
  unfold okRun at hok
  simp only [Bool.and_eq_true, decide_eq_true_eq] at hok
  have hp := (pow_small32 m1 (by omega)).1 hok.1
  have h1 : 2 ^ Nat.log2 r.many ≤ 2 ^ dep.toNat := by rw [hp, ← hlen]; omega
  have h2 := (Nat.pow_le_pow_iff_right (show 1 < 2 by omega)).1 h1
  exact ⟨by omega, hp⟩
theorem runs_next {es : List En} {k : Nat} {pre : List Rn} (hk : k < es.length) (hsp : runs es = pre ++ runsAt k (es.drop k)) (hpre : ∀ r ∈ pre, r.at_ + r.many ≤ k) :
    runs es = (pre ++ [⟨k, lenAt es k, es.getD k (0, 0)⟩]) ++ runsAt (k + lenAt es k) (es.drop (k + lenAt es k)) ∧ ∀ r ∈ pre ++ [(⟨k, lenAt es k, es.getD k (0, 0)⟩ : Rn)], r.at_ + r.many ≤ k + lenAt es k := by
  refine ⟨by rw [hsp, runsAt_drop es hk]; simp [lenAt], fun r hr => ?_⟩
  rcases List.mem_append.1 hr with hr | hr
  · have := hpre r hr; omega
  · rw [List.mem_singleton] at hr; subst hr; exact Nat.le_refl _
theorem of_is {dep h : Int} {es : List En} (hm : mayB dep es = true) (hh : U64 h) : ∃ x, ofX dep h es = some x := by
  obtain ⟨hd0, hd5, hl32, hl1, -, hlen⟩ := may_shape hm
  have ht := topZ_dep hh hd0 hd5
  rw [← hlen] at ht
  obtain ⟨r, hr, h1, h2⟩ := runs_at es (j := (topZ h dep).toNat) (by omega)
  unfold ofX
  rw [if_pos hm]
  cases hf : ((runs es).map (rc dep)).find? (fun x => decide (topZ h dep < x.at_ + x.many)) with
  | some x => exact ⟨x, rfl⟩
  | none =>
    exfalso
    rw [List.find?_eq_none] at hf
    have h3 : ¬ (topZ h dep < (rc dep r).at_ + (rc dep r).many) := by simpa using hf _ (List.mem_map_of_mem hr)
    have h4 : (rc dep r).at_ + (rc dep r).many = ((r.at_ + r.many : Nat) : Int) := by simp [rc]
    rw [h4] at h3
    omega
set_option maxRecDepth 100000 in
set_option maxHeartbeats 16000000 in
theorem Whole_walk (A0 : Option Addr) (c0 n0 : Nat) (dep : Int) (es : List En) (h : Int) (W : World) (h0 : Rd W W.heap.size 2 A0 n0 (Cs encE es)) (hx0 : es.length = n0) (hn0 : n0 ≤ c0) (hm0 : c0 ≤ 9223372036854775807) (hu0 : ∀ e ∈ es, U64 e.2) (hh : U64 h) :
    Calls Try.prog 3 #[.agg #[.int .i64 dep, .slice A0 n0 c0], .int .u64 h] W fun e W' => e = .returned (.bool true) ∧ Below W.heap.size W W' := by
  obtain ⟨L, hL⟩ : ∃ L, es.take 34 = L := ⟨_, rfl⟩
  have HUL := hide (show ∀ e ∈ L, U64 e.2 from fun e he => hu0 e (by rw [← hL] at he; exact List.mem_of_mem_take he))
  have HLL := hide (show L.length ≤ 34 from by rw [← hL, List.length_take]; omega)
  have hb1 : Below W.heap.size W (W.alloc (.cells #[.int .i64 dep, .slice A0 n0 c0] 24)) := (Below.refl _ _).alloc (Nat.le_refl _) _
  have HR1 := hide (RowAt.new W 24 #[.int .i64 dep, .slice A0 n0 c0])
  have HOWN := hide (fun w (hb : Below W.heap.size W w) => own_any W.heap.size A0 c0 n0 dep es w (h0.below hb) hx0 hb.size hn0 hm0)
  rw [hL] at HOWN
  have HB := hide hb1
  clear h0 hu0 hx0 hL hb1
  go_enter Try.func3, Try.ntmps3
  go_upto_region 1 with (fail)
  generalize W.alloc (.cells #[.int .i64 dep, .slice A0 n0 c0] 24) = w1 at *
  go_wp2_with fail
  with_reducible refine (wakes_any w1).mono ?_
  rintro e w2 ⟨rfl, hb⟩
  replace HR1 := hide (HR1.out.below hb)
  replace HB := hide (HB.out.trans (hb.mono HB.out.size))
  clear hb
  have q0 := row20 HR1.out
  have q1 := row21 HR1.out
  have ql := HR1.out.lt
  go_wp2_with fail
  refine (HOWN.out w2 HB.out).mono ?_
  rintro e w3 ⟨A, c, rfl, ho, hb⟩
  have O := hide (ownsRow_base (base' := W.heap.size) ho HB.out.size)
  replace HB := hide (HB.out.trans (hb.mono HB.out.size))
  clear hb ho q0 q1 ql HR1 HOWN
  dsimp only
  obtain ⟨n, hn⟩ : ∃ n, L.length = n := ⟨_, rfl⟩
  have HN := hide hn
  rw [hn] at O
  have hn34 : n ≤ 34 := by have := HLL.out; omega
  obtain ⟨_, _, hsf, hnc, hcm⟩ := own_form2 O.out
  obtain ⟨-, -, rfl⟩ := slice_form hsf
  clear hsf
  rw [hn]
  clear hn
  go_upto_region 4 with (fail)
  have hba := (Below.refl _ w3).alloc (Nat.le_refl _) (.cells #[.int .i64 dep, .slice A n c] 24)
  have R3 := hide (RowAt.new w3 24 #[.int .i64 dep, .slice A n c])
  replace O := hide (own_keepB O.out hba)
  replace HB := hide (HB.out.trans (hba.mono HB.out.size))
  clear hba
  generalize hg : w3.heap.size = g3 at *
  clear hg
  generalize w3.alloc (.cells #[.int .i64 dep, .slice A n c] 24) = w4 at *
  have q0 := row20 R3.out
  have q1 := row21 R3.out
  have ql := R3.out.lt
  have HDA := hide (show ∀ w, Below w4.heap.size w4 w → DirAt w w.heap.size A c L from fun w hb => DirAt.of_own (base := W.heap.size) (by rw [HN.out]; exact own_keepB O.out hb) HUL.out)
  obtain ⟨xs, hxs⟩ : ∃ xs, spansX dep L = xs := ⟨_, rfl⟩
  obtain ⟨nx, hnx⟩ : ∃ n, xs.length = n := ⟨_, rfl⟩
  have HXS := hide hxs
  have HNX := hide hnx
  have HSP := hide (Spans_any w4.heap.size A c dep L w4 (HDA.out w4 (Below.refl _ _)) (Nat.le_refl _) xs hxs)
  rw [HN.out] at HSP
  clear hxs hnx
  go_wp2_with fail
  refine HSP.out.mono ?_
  rintro e w5 ⟨A6, c6, rfl, ho, hb⟩
  have O6 := hide (ownsRow_base (base' := W.heap.size) ho HB.out.size)
  replace R3 := hide (R3.out.below hb)
  have HB5 := hide hb
  replace HB := hide (HB.out.trans (hb.mono HB.out.size))
  clear ho hb q0 q1 ql HSP
  dsimp only
  rw [HNX.out] at O6
  rw [HNX.out]
  have q0 := row20 R3.out
  have q1 := row21 R3.out
  have ql := R3.out.lt
  obtain ⟨o, ho⟩ : ∃ o, ofX dep h L = o := ⟨_, rfl⟩
  have HO := hide ho
  have HOF := hide (Of_any w5.heap.size A c dep h L w5 (HDA.out w5 HB5.out) (Nat.le_refl _) hh o ho)
  rw [HN.out] at HOF
  clear ho
  by_cases hm : mayB dep L = true
  case neg =>
    have hmf : mayB dep L = false := by simpa using hm
    obtain rfl : none = o := by rw [← HO.out]; unfold ofX; rw [if_neg hm]
    obtain rfl : 0 = nx := by rw [← HNX.out, ← HXS.out]; unfold spansX; rw [if_neg hm]; rfl
    have HCK0 := hide (fun w (hb : Below w4.heap.size w4 w) => check_any w.heap.size A c dep L w (HDA.out w hb) (Nat.le_refl _) 310 (by rw [hmf]; rfl))
    rw [HN.out] at HCK0
    clear hm hmf
    go_wp2_with fail
    refine HOF.out.mono ?_
    rintro e w6 ⟨rfl, hb⟩
    dsimp only
    have hba := (Below.refl _ w6).alloc (Nat.le_refl _) (.cells zR 33)
    have hb2 := hb.trans (hba.mono hb.size)
    replace R3 := hide (R3.out.below hb2)
    have HBX := hide (HB.out.trans (hb2.mono HB.out.size))
    have HCK := hide (HCK0.out _ (HB5.out.trans (hb2.mono HB5.out.size)))
    clear hb hba hb2 q0 q1 ql
    go_upto_region 6 with (fail)
    generalize w6.alloc (.cells zR 33) = w7 at *
    have q0 := row20 R3.out
    have q1 := row21 R3.out
    have ql := R3.out.lt
    go_wp2_with fail
    with_reducible refine HCK.out.mono ?_
    rintro e w8 ⟨rfl, hb⟩
    have HBF := hide (HBX.out.trans (hb.mono HBX.out.size))
    clear hb
    dsimp only
    go_wp2_with fail
    go_ret
    exact ⟨ret_bool (by simp), HBF.out⟩
  case pos =>
    have HCK0 := hide (fun w (hb : Below w4.heap.size w4 w) => check_any w.heap.size A c dep L w (HDA.out w hb) (Nat.le_refl _) 0 (by rw [hm]; rfl))
    rw [HN.out] at HCK0
    have HM := hide hm
    obtain ⟨x0, hx0⟩ := of_is hm hh
    obtain rfl : some x0 = o := by rw [← HO.out, hx0]
    obtain ⟨hd0, hd5, hl32, hl1, -, hlen⟩ := may_shape hm
    rw [HN.out] at hl32 hl1
    have HT := hide (show 0 ≤ topZ h dep ∧ topZ h dep < (n : Int) from by have := topZ_dep hh hd0 hd5; rw [← hlen, HN.out] at this; exact this)
    have HXR := hide (show xs = (runs L).map (rc dep) from by rw [← HXS.out]; unfold spansX; rw [if_pos hm])
    have HX0 := hide hx0
    clear hm hlen hx0
    go_wp2_with fail
    refine HOF.out.mono ?_
    rintro e w6 ⟨rfl, hb⟩
    dsimp only
    have hba := (Below.refl _ w6).alloc (Nat.le_refl _) (.cells (rC x0) 33)
    have R7 := hide (RowAt.new w6 33 (rC x0))
    have hb2 := hb.trans (hba.mono hb.size)
    replace R3 := hide (R3.out.below hb2)
    replace O6 := hide (own_keepB O6.out hb2)
    replace HB := hide (HB.out.trans (hb2.mono HB.out.size))
    replace HB5 := hide (HB5.out.trans (hb2.mono HB5.out.size))
    clear hb hba hb2 q0 q1 ql HOF
    go_upto_region 6 with (fail)
    generalize hg : w6.heap.size = g7 at *
    clear hg
    generalize w6.alloc (.cells (rC x0) 33) = w7 at *
    have q0 := row20 R3.out
    have q1 := row21 R3.out
    have ql := R3.out.lt
    have HCK := hide (HCK0.out _ HB5.out)
    go_wp2_with fail
    with_reducible refine HCK.out.mono ?_
    rintro e w8 ⟨rfl, hb⟩
    replace R3 := hide (R3.out.below hb)
    replace R7 := hide (R7.out.below hb)
    replace O6 := hide (own_keepB O6.out hb)
    replace HB := hide (HB.out.trans (hb.mono HB.out.size))
    have HDL := hide ((HDA.out _ (HB5.out.trans (hb.mono HB5.out.size))).rd)
    clear hb q0 q1 ql HCK HCK0 HB5 HDA
    dsimp only
    obtain ⟨bA, oA, rfl, hbA, hcA⟩ := HDL.out.2 (by rw [HN.out]; omega)
    clear hcA
    obtain ⟨t, ht⟩ : ∃ t, topZ h dep = t := ⟨_, rfl⟩
    rw [ht] at HT
    have HTT := hide ht
    clear ht
    have hnx32 : nx ≤ 32 := by rw [← HNX.out, HXR.out, List.length_map]; exact Nat.le_trans (runs_len L) (by rw [HN.out]; exact hl32)
    go_wp2_with fail
    go_loopw [9, 10, 39] (fun av iv jv wr => ∃ (j k : Nat) (pre : List Rn) (inn : Int), j ≤ nx ∧ pre.length = j ∧ k ≤ n ∧ av = .int .i64 k ∧ iv = .int .i64 inn ∧ inn = (if t < (k : Int) then 1 else 0) ∧ jv = .int .i64 j ∧ runs L = pre ++ runsAt k (L.drop k) ∧ (∀ r ∈ pre, r.at_ + r.many ≤ k) ∧ Below w8.heap.size w8 wr) (fun _ _ jv _ => nx - (intOf jv).toNat)
    case atStart => exact ⟨0, 0, [], 0, Nat.zero_le _, rfl, Nat.zero_le _, rfl, rfl, by have := HT.out.1; rw [if_neg (by omega)], rfl, rfl, by simp, Below.refl _ _⟩
    case round =>
      obtain ⟨j, k, pre, inn, hj, hpl, hk, rfl, rfl, hin, rfl, hsp, hpre, hbe⟩ := hrel
      have HIN := hide hin
      have hin01 : 0 ≤ inn ∧ inn ≤ 1 := by rw [hin]; split <;> omega
      obtain ⟨hin0, hin1⟩ := hin01
      clear hin
      have HSPL := hide hsp
      have HPRE := hide hpre
      have HPL := hide hpl
      have HBE := hide hbe
      clear hsp hpre hbe hpl
      by_cases hlt : j < nx
      · have hkn : k < n := by
          rcases Nat.lt_or_ge k n with h | h
          · exact h
          · exfalso
            have h1 := HSPL.out
            rw [List.drop_eq_nil_of_le (by rw [HN.out]; exact h), runsAt_nil] at h1
            have h2 := congrArg List.length h1
            have h3 := HNX.out
            rw [HXR.out, List.length_map] at h3
            have := HPL.out
            simp at h2
            omega
        have hlx : k < L.length := by rw [HN.out]; exact hkn
        obtain ⟨m, hm⟩ : ∃ m, lenAt L k = m := ⟨_, rfl⟩
        obtain ⟨e, he⟩ : ∃ e, L.getD k (0, 0) = e := ⟨_, rfl⟩
        have HSN := hide (runs_next hlx HSPL.out HPRE.out)
        have hfit := run_fits L hlx
        have hm1 : 1 ≤ m := by rw [← hm]; unfold lenAt; omega
        have hkm : k + m ≤ n := by rw [← hm]; unfold lenAt; have := HN.out; omega
        have HOS := hide (fun h1 h2 => of_some (h := h) HM.out hlx HSPL.out HPRE.out h1 h2)
        have HEQS := hide (fun i (h1 : k ≤ i) (h2 : i < k + m) => (show L.getD i (0, 0) = e from by rw [← he]; exact run_same L hlx h1 (by rw [← hm] at h2; exact h2)))
        rw [hm, he] at HSN HOS
        have HRM := hide (show (⟨k, m, e⟩ : Rn) ∈ runs L from by rw [HSN.out.1]; simp)
        have HGO := hide (goes_iff HM.out hh HRM.out)
        obtain ⟨D, hD⟩ : ∃ D, (rc dep ⟨k, m, e⟩).dep = D := ⟨_, rfl⟩
        obtain ⟨P, hP⟩ : ∃ P, (rc dep ⟨k, m, e⟩).pre = P := ⟨_, rfl⟩
        have HX := hide (show rc dep ⟨k, m, e⟩ = ⟨e, D, P, k, m⟩ from by rw [← hD, ← hP]; rfl)
        rw [hD, hP] at HGO
        have hlog : ((Nat.log2 m : Nat) : Int) ≤ dep ∧ 2 ^ Nat.log2 m = m := log_run HM.out HRM.out
        have HP := hide (show P = ((k / m : Nat) : Int) from by rw [← hP]; rfl)
        have hDD : D = dep - (Nat.log2 m : Nat) := by rw [← hD]; rfl
        have hDd : ¬ (dep < D) := by omega
        have hsub0 : 0 ≤ dep - D := by omega
        have hsub1 : dep - D ≤ 5 := by omega
        have HDD := hide hDD
        have HLOG := hide hlog
        clear hD hP hDD hlog hm he
        have hgx : xs[j]? = some ⟨e, D, P, k, m⟩ := by
          rw [HXR.out, HSN.out.1, List.getElem?_map, List.append_assoc, List.getElem?_append_right (by have := HPL.out; omega), HPL.out, Nat.sub_self]
          simp [HX.out]
        have hjx : j < xs.length := by rw [HNX.out]; exact hlt
        have hgx2 : xs[j] = ⟨e, D, P, k, m⟩ := by rw [List.getElem?_eq_getElem hjx] at hgx; injection hgx
        have hrd := (Rd.of_own O6.out).below HBE.out
        rw [← HNX.out] at hrd
        obtain ⟨b, off, hA, hbl, hc⟩ := hrd.elem encR_len hjx
        rw [hgx2] at hc
        have d0 := hc 0 _ (by omega) rfl
        have d1 := hc 1 _ (by omega) rfl
        have d2 := hc 2 _ (by omega) rfl
        have d3 := hc 3 _ (by omega) rfl
        have d4 := hc 4 _ (by omega) rfl
        have d5 := hc 5 _ (by omega) rfl
        simp only [Nat.add_zero] at d0
        subst hA
        have hbl2 : b < wr.heap.size := Nat.lt_of_lt_of_le hbl HBE.out.size
        have hji : (j : Int) < (nx : Int) := by omega
        have hba := (Below.refl _ wr).alloc (Nat.le_refl _) (.cells (rC ⟨e, D, P, k, m⟩) 33)
        have R12 := hide (RowAt.new wr 33 (rC ⟨e, D, P, k, m⟩))
        dsimp only [rC] at R12
        have R3r := hide ((R3.out.below HBE.out).below hba)
        have R7r := hide ((R7.out.below HBE.out).below hba)
        have HBr := hide (HBE.out.trans (hba.mono HBE.out.size))
        clear hba hc hrd hgx hgx2 hfit hbl
        go_upto_region 12 with (fail)
        clear d0 d1 d2 d3 d4 d5 hbl2
        generalize hg : wr.heap.size = g12 at *
        clear hg
        generalize wr.alloc (.cells (rC ⟨e, D, P, k, m⟩) 33) = w9 at *
        have q0 := row20 R3r.out
        have ql := R3r.out.lt
        have e2 := R12.out.cell 2
        have e3 := R12.out.cell 3
        have e4 := R12.out.cell 4
        have e5 := R12.out.cell 5
        have el := R12.out.lt
        have hmI : ¬ ((m : Int) < 1) := by omega
        have hmI2 : (m : Int) ≤ 32 := by omega
        have hkI2 : (k : Int) ≤ 32 := by omega
        have hmz : ¬ ((m : Int) = 0) := by omega
        obtain ⟨q, hq⟩ : ∃ q, dep - D = q := ⟨_, rfl⟩
        have hq0 : 0 ≤ q := by omega
        have hq5 : q ≤ 5 := by omega
        have hqe : q = (Nat.log2 m : Nat) := by have := HDD.out; omega
        have hw : IntKind.i64.wrap (2 ^ q.toNat) = (m : Int) := by
          rw [hqe, Int.toNat_natCast]
          have h1 : (2 : Int) ^ Nat.log2 m = (m : Int) := by exact_mod_cast HLOG.out.2
          rw [h1]
          exact IntWalk.i64_in _ (by omega)
        have hquo : (k : Int) / (m : Int) = P := by rw [HP.out]; exact (Int.natCast_ediv k m).symm
        have hP0 : 0 ≤ P ∧ P ≤ 32 := by
          rw [HP.out]
          have := Nat.div_le_self k m
          generalize k / m = z at *
          omega
        obtain ⟨hP0, hP1⟩ := hP0
        clear hqe hsub0 hsub1
        go_quiet (fail)
        clear hquo hw hq
        have R3r := hide ((R3r.out).drewN nq)
        have R7r := hide ((R7r.out).drewN nq)
        have R12 := hide ((R12.out).drewN nq)
        have HBr := hide (below_drewN HBr.out nq)
        clear q0 ql e2 e3 e4 e5 el
        generalize w9.drewN nq = w10 at *
        have q1 := row21 R3r.out
        have ql := R3r.out.lt
        have e4 := R12.out.cell 4
        have e5 := R12.out.cell 5
        have e0 := R12.out.cell 0
        have e1 := R12.out.cell 1
        have el := R12.out.lt
        have hkmI : (k : Int) + (m : Int) ≤ (n : Int) := by omega
        have hncI : (n : Int) ≤ (c : Int) := by omega
        go_upto_region 15 with (fail)
        clear q1 ql e0 e1 e4 e5 el hkmI hncI
        go_wp2_with fail
        go_loopw [92] (fun iv wr2 => ∃ i : Nat, i ≤ m ∧ iv = .int .i64 i ∧ Below w10.heap.size w10 wr2) (fun iv _ => m - (intOf iv).toNat)
        case atStart => exact ⟨0, Nat.zero_le _, rfl, Below.refl _ _⟩
        case round =>
          obtain ⟨i, hi, rfl, hb2⟩ := hrel
          have HB2 := hide hb2
          clear hb2
          by_cases hlt2 : i < m
          · have hki : k + i < L.length := by rw [HN.out]; omega
            obtain ⟨bX, oX, hAX, hblX, hcX⟩ := (HDL.out.below ((HBr.out.trans (HB2.out.mono HBr.out.size)))).elem encE_len hki
            injection hAX with hAX
            injection hAX with hAX1 hAX2 _
            subst hAX1; subst hAX2
            have hGG : L[k + i] = e := by
              have h1 := HEQS.out (k + i) (by omega) (by omega)
              rw [List.getD_eq_getElem?_getD, List.getElem?_eq_getElem hki] at h1
              exact h1
            rw [hGG] at hcX
            have d0 := hcX 0 _ (by omega) rfl
            have d1 := hcX 1 _ (by omega) rfl
            rw [Nat.add_zero, show oA + (k + i) * 2 = oA + k * 2 + i * 2 by omega] at d0
            rw [show oA + (k + i) * 2 + 1 = oA + k * 2 + i * 2 + 1 by omega] at d1
            have hbX : bA < wr.heap.size := Nat.lt_of_lt_of_le hblX (Nat.le_trans HBr.out.size HB2.out.size)
            have hii : (i : Int) < (m : Int) := by omega
            have R12b := hide (R12.out.below HB2.out)
            have e0 := R12b.out.cell 0
            have e1 := R12b.out.cell 1
            have el := R12b.out.lt
            have hne := fun w => neqE w e e true (by simp)
            have hba2 := (Below.refl _ wr).alloc (Nat.le_refl _) (.cells #[.int .i64 e.1, .int .u64 e.2] 31)
            have HB3 := hide (HB2.out.trans (hba2.mono HB2.out.size))
            clear hcX hGG hba2 hblX
            go_wp2_with fail
            go_roundw
            case rel => exact ⟨i + 1, by omega, by go_num, HB3.out⟩
            case measure => simp [intOf]; omega
          · obtain rfl : i = m := by omega
            have hb2 := HB2.out
            have R3s := hide (R3r.out.below hb2)
            have R7s := hide (R7r.out.below hb2)
            have R12s := hide (R12.out.below hb2)
            have HBs := hide (HBr.out.trans (hb2.mono HBr.out.size))
            clear hb2
            have e0 := R12s.out.cell 0
            have e1 := R12s.out.cell 1
            have e2 := R12s.out.cell 2
            have e3 := R12s.out.cell 3
            have e4 := R12s.out.cell 4
            have e5 := R12s.out.cell 5
            have el := R12s.out.lt
            have hDlo : -8 ≤ D := by
              have h1 := HDD.out
              have h2 : Nat.log2 i ≤ 5 := by have h := Nat.log2_lt (n := i) (k := 6) (by omega); omega
              omega
            obtain ⟨z, hz⟩ : ∃ z, 63 - D = z := ⟨_, rfl⟩
            have hz0 : 0 ≤ z := by omega
            have hz1 : z ≤ 100 := by omega
            have HLAW := hide (topZ_law h D)
            rw [hz] at HLAW
            have HSM := hide (shr_min hh z.toNat)
            obtain ⟨hU0, hU1⟩ := hh
            obtain ⟨bq, hbq⟩ : ∃ bq, (h / 2 ^ min z.toNat 64 / 2 == P) = bq := ⟨_, rfl⟩
            have HBQ := hide (show (bq = true ↔ ((k : Int) ≤ t ∧ t < (k : Int) + i)) from by
              have h1 := HGO.out
              rw [HTT.out] at h1
              rw [← h1, ← hbq, HSM.out, HLAW.out]
              simp)
            go_upto_region 21 with (fail)
            go_quiet (fail)
            clear hbq hz HLAW e0 e1 e2 e3 e4 e5 el
            have R3s := hide ((R3s.out).drewN nq)
            have R7s := hide ((R7s.out).drewN nq)
            have R12s := hide ((R12s.out).drewN nq)
            have HBs := hide (below_drewN HBs.out nq)
            generalize wr.drewN nq = w12 at *
            have hcast : ((k + i : Nat) : Int) = (k : Int) + (i : Int) := by omega
            have HCC := hide hcast
            clear hcast
            cases bq
            · have HNI := hide (show inn = (if t < ((k + i : Nat) : Int) then 1 else 0) from by
                rw [HIN.out, HCC.out]
                have h1 : ¬ ((k : Int) ≤ t ∧ t < (k : Int) + i) := fun h => by have := HBQ.out.2 h; cases this
                by_cases h2 : t < (k : Int)
                · rw [if_pos h2, if_pos (by omega)]
                · rw [if_neg h2, if_neg (by omega)])
              go_wp2_with fail
              go_roundw
              case rel => exact ⟨j + 1, k + i, _, inn, by omega, by rw [List.length_append, HPL.out]; rfl, hkm, by go_num, rfl, HNI.out, by go_num, HSN.out.1, HSN.out.2, HBs.out⟩
              case measure => simp [intOf]; omega
            · have hkt := HBQ.out.1 rfl
              have HNI := hide (show inn + 1 = (if t < ((k + i : Nat) : Int) then 1 else 0) from by
                rw [HIN.out, HCC.out, if_neg (by omega), if_pos hkt.2]; rfl)
              have hx0 : x0 = ⟨e, D, P, k, i⟩ := by
                have h1 := HOS.out (by rw [HTT.out]; exact hkt.1) (by rw [HTT.out]; exact hkt.2)
                rw [HX0.out, HX.out] at h1
                injection h1
              subst hx0
              have hne := fun w => neqR w ⟨e, D, P, k, i⟩ ⟨e, D, P, k, i⟩ true (by simp)
              dsimp only at hne
              obtain ⟨e0, e1, e2, e3, e4, e5⟩ := row6 R12s.out
              have el := R12s.out.lt
              obtain ⟨y0, y1, y2, y3, y4, y5⟩ := row6 R7s.out
              have xl := R7s.out.lt
              clear hkt
              go_wp2_with fail
              go_roundw
              case rel => exact ⟨j + 1, k + i, _, inn + 1, by omega, by rw [List.length_append, HPL.out]; rfl, hkm, by go_num, rfl, HNI.out, by go_num, HSN.out.1, HSN.out.2, HBs.out⟩
              case measure => simp [intOf]; omega
      · obtain rfl : j = nx := by omega
        have hkn : k = n := by
          have h1 := HSPL.out
          have h3 := HNX.out
          rw [HXR.out, List.length_map, h1, List.length_append, HPL.out] at h3
          rcases Nat.lt_or_ge k n with h | h
          · rw [runsAt_drop L (by rw [HN.out]; exact h)] at h3
            simp at h3
          · omega
        subst hkn
        have hinn : inn = 1 := by rw [HIN.out, if_pos HT.out.2]
        subst hinn
        have R3e := hide (R3.out.below HBE.out)
        have HBF := hide (HB.out.trans (HBE.out.mono HB.out.size))
        have q0 := row20 R3e.out
        have q1 := row21 R3e.out
        have ql := R3e.out.lt
        go_wp2_with fail
        go_ret
        exact ⟨ret_bool (by simp), HBF.out⟩
end Go.Proofs.Ytjlbnegdiabglaa

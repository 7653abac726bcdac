/-
  honeycombref16: SameDir, DirWords, Dir.
-/
import Derived.Test.YtndlfofpldbldaaDe
set_option linter.unusedSimpArgs false
set_option linter.unusedVariables false
namespace Go.Proofs.Ytndlfofpldbldaa
open Go Go.RowKit
attribute [local go_sem] via_cell via_frozen

set_option maxHeartbeats 1000000 in
theorem SameDir_any (B1 B2 : Nat) (A1 A2 : Option Addr) (c1 c2 : Nat) (d1 d2 : Int) (xs ys : List (Int × Int)) (W : World) (h1 : Rd W B1 2 A1 xs.length (Cs encE xs)) (h2 : Rd W B2 2 A2 ys.length (Cs encE ys)) (hB1 : B1 ≤ W.heap.size) (hB2 : B2 ≤ W.heap.size)
    (hl1 : xs.length ≤ 4096) (hl2 : ys.length ≤ 4096) (r : Bool) (hr : (decide (d1 = d2) && decide (xs = ys)) = r) :
    Calls Try.prog 34 #[.agg #[.int .i64 d1, .slice A1 xs.length c1], .agg #[.int .i64 d2, .slice A2 ys.length c2]] W fun e W' => e = .returned (.bool r) ∧ Below W.heap.size W W' := by
  have HRR := hide hr
  clear hr
  by_cases hd : d1 = d2
  · subst hd
    by_cases hlen : xs.length = ys.length
    · have ht : ((xs.length : Int) != (ys.length : Int)) = false := by rw [bne_eq_false_iff_eq]; omega
      have hdd : (d1 != d1) = false := by simp
      have HL := hide hlen
      clear hlen
      go_enter Try.func34, Try.ntmps34
      go_wp2_with fail
      have hb0 : Below W.heap.size W ((W.alloc (.cells #[.int .i64 d1, .slice A1 xs.length c1] 49)).alloc (.cells #[.int .i64 d1, .slice A2 ys.length c2] 49)) := ((Below.refl _ _).alloc (Nat.le_refl _) _).alloc (by simp) _
      have hr2 : RowAt ((W.alloc (.cells #[.int .i64 d1, .slice A1 xs.length c1] 49)).alloc (.cells #[.int .i64 d1, .slice A2 ys.length c2] 49)) (W.heap.size + 1) 49 #[.int .i64 d1, .slice A2 ys.length c2] := by
        have h := RowAt.new (W.alloc (.cells #[.int .i64 d1, .slice A1 xs.length c1] 49)) 49 #[.int .i64 d1, .slice A2 ys.length c2]
        rw [World.size_alloc] at h; exact h
      generalize ((W.alloc (.cells #[.int .i64 d1, .slice A1 xs.length c1] 49)).alloc (.cells #[.int .i64 d1, .slice A2 ys.length c2] 49)) = w0 at *
      have HB0 := hide hb0
      have HR2 := hide hr2
      have hs0 := hb0.size
      clear hb0 hr2
      go_loopw [24] (fun i wr => ∃ k : Nat, k ≤ xs.length ∧ i = .int .i64 k ∧ xs.take k = ys.take k ∧ Below w0.heap.size w0 wr) (fun i _ => xs.length - (intOf i).toNat)
      case atStart => exact ⟨0, Nat.zero_le _, rfl, rfl, Below.refl _ _⟩
      case round =>
        obtain ⟨k, hk, rfl, hpre, hbw⟩ := hrel
        have HP := hide hpre
        have hbW := HB0.out.trans (hbw.mono hs0)
        have HBW := hide hbw
        have e1 := (HR2.out.below hbw).cell 1
        simp only [List.getElem?_toArray, List.getElem?_cons_succ, List.getElem?_cons_zero] at e1
        have hsr : W.heap.size + 1 < wr.heap.size := (HR2.out.below hbw).lt
        clear hpre hbw
        by_cases hlt : k < xs.length
        · have hlt2 : k < ys.length := by have := HL.out; omega
          obtain ⟨b1, o1, rfl, hb1, hc1⟩ := (h1.below (hbW.mono hB1)).elem encE_len hlt
          obtain ⟨b2, o2, rfl, hb2, hc2⟩ := (h2.below (hbW.mono hB2)).elem encE_len hlt2
          have hd10 := hc1 0 _ (by omega) rfl
          have hd11 := hc1 1 _ (by omega) rfl
          have hd20 := hc2 0 _ (by omega) rfl
          have hd21 := hc2 1 _ (by omega) rfl
          simp only [Nat.add_zero] at hd10 hd20
          clear hc1 hc2
          have hi2 : (k : Int) < (ys.length : Int) := by omega
          have hbl1 : b1 < wr.heap.size := by omega
          have hbl2 : b2 < wr.heap.size := by omega
          generalize hx : xs[k] = x at *
          generalize hy : ys[k] = y at *
          have HX := hide hx
          have HY := hide hy
          clear hx hy
          by_cases hxy : x = y
          · subst hxy
            have hne := fun w => neqE w x x true (by simp)
            go_wp2_with fail
            go_quiet (fail)
            go_wp2_with fail
            go_roundw
            case rel => exact ⟨k + 1, by omega, by go_num, by rw [List.take_succ_eq_append_getElem hlt, List.take_succ_eq_append_getElem hlt2, HP.out, HX.out, HY.out], below_drewN (HBW.out.alloc HBW.out.size _) _⟩
            case measure => simp [intOf]; omega
          · have hne := fun w => neqE w x y false (by simpa using hxy)
            go_wp2_with fail
            go_quiet (fail)
            go_wp2_with fail
            go_ret
            exact ⟨ret_bool (by rw [← HRR.out]; simp; intro h; apply hxy; rw [← HX.out, ← HY.out]; simp [h]), hbW.trans (below_drewN ((Below.refl _ _).alloc (by omega) _) _)⟩
        · go_wp2_with fail
          go_ret
          have he : xs = ys := by have h := HP.out; rw [List.take_of_length_le (by omega), List.take_of_length_le (by have := HL.out; omega)] at h; exact h
          exact ⟨ret_bool (by rw [← HRR.out]; simp [he]), hbW⟩
    · have ht : ((xs.length : Int) != (ys.length : Int)) = true := by rw [bne_iff_ne]; omega
      have hdd : (d1 != d1) = false := by simp
      go_enter Try.func34, Try.ntmps34
      go_wp2
      go_ret
      exact ⟨ret_bool (by rw [← HRR.out]; simp; intro h; exact hlen (by rw [h])), ((Below.refl _ _).alloc (Nat.le_refl _) _).alloc (by simp) _⟩
  · have hdd : (d1 != d2) = true := by rw [bne_iff_ne]; exact hd
    go_enter Try.func34, Try.ntmps34
    go_wp2
    go_ret
    exact ⟨ret_bool (by rw [← HRR.out]; simp [hd]), ((Below.refl _ _).alloc (Nat.le_refl _) _).alloc (by simp) _⟩

/-- honeycombref16.Dir. -/
theorem RDir_any (B : Nat) (A : Option Addr) (c : Nat) (dep : Int) (es : List (Int × Int)) (W : World) (h : Rd W B 2 A es.length (Cs encE es)) (hB : B ≤ W.heap.size) (hu : ∀ e ∈ es, U64 e.2) (hl : es.length ≤ 4096) (r : Bool) (hr : (dirShape dep es.length && entsOk es) = r) :
    Calls Try.prog 30 #[.agg #[.int .i64 dep, .slice A es.length c]] W fun e W' => e = .returned (.bool r) ∧ Below W.heap.size W W' := by
  have HU := hide hu
  have HRR := hide hr
  clear hu hr
  go_enter Try.func30, Try.ntmps30
  go_wp2_with fail
  have hb0 : Below W.heap.size W (W.alloc (.cells #[.int .i64 dep, .slice A es.length c] 49)) := (Below.refl _ _).alloc (Nat.le_refl _) _
  have hr0 : RowAt (W.alloc (.cells #[.int .i64 dep, .slice A es.length c] 49)) W.heap.size 49 #[.int .i64 dep, .slice A es.length c] := RowAt.new _ _ _
  generalize (W.alloc (.cells #[.int .i64 dep, .slice A es.length c] 49)) = w0 at *
  have HR0 := hide hr0
  clear hr0
  go_loopw [8] (fun i wr => ∃ k : Nat, k ≤ es.length ∧ i = .int .i64 k ∧ entsOk (es.take k) = true ∧ Below w0.heap.size w0 wr) (fun i _ => es.length - (intOf i).toNat)
  case atStart => exact ⟨0, Nat.zero_le _, rfl, rfl, Below.refl _ _⟩
  case round =>
    obtain ⟨k, hk, rfl, hall, hbw⟩ := hrel
    have HA := hide hall
    have hbW := hb0.trans (hbw.mono hb0.size)
    have HBW := hide hbw
    have hrw := HR0.out.below hbw
    have hsr := hrw.lt
    have d0 := hrw.cell 0
    have d1 := hrw.cell 1
    simp only [List.getElem?_toArray, List.getElem?_cons_succ, List.getElem?_cons_zero] at d0 d1
    clear hall hbw hrw
    by_cases hlt : k < es.length
    · obtain ⟨b, off, rfl, hb, hc⟩ := (h.below (hbW.mono hB)).elem encE_len hlt
      have hd0 := hc 0 _ (by omega) rfl
      have hd1 := hc 1 _ (by omega) rfl
      simp only [Nat.add_zero] at hd0
      clear hc
      have hux := hide (HU.out es[k] (List.getElem_mem hlt))
      have HT := hide (entsOk_take es k hlt)
      have HN := hide (entsOk_no es k hlt)
      have hbs : b < wr.heap.size := by omega
      generalize hx : es[k] = x at *
      clear hx
      obtain ⟨bb, hbb⟩ : ∃ bb, okEnt x.1 x.2 = bb := ⟨_, rfl⟩
      have HO := hide hbb
      clear hbb
      cases bb
      · go_wp2_with (go_at_call 15; refine (Entry_any _ x.1 x.2 false hux.out.1 HO.out).mono ?_; rintro e w1 ⟨rfl, hb1⟩)
        go_ret
        exact ⟨ret_bool (by rw [← HRR.out, HN.out HO.out, Bool.and_false]), (hbW.alloc hbW.size _).trans (hb1.mono (by have := hbW.size; simp; omega))⟩
      · go_wp2_with (go_at_call 15; refine (Entry_any _ x.1 x.2 true hux.out.1 HO.out).mono ?_; rintro e w1 ⟨rfl, hb1⟩)
        go_roundw
        case rel => exact ⟨k + 1, by omega, by go_num, by rw [HT.out, HA.out, HO.out]; rfl, (HBW.out.alloc HBW.out.size _).trans (hb1.mono (by have := HBW.out.size; simp; omega))⟩
        case measure => simp [intOf]; omega
    · obtain rfl : k = es.length := by omega
      rw [List.take_length] at HA
      have hlI : (es.length : Int) ≤ 9223372036854775807 := by omega
      by_cases a1 : 0 ≤ dep
      · obtain ⟨n, rfl⟩ := Int.eq_ofNat_of_zero_le a1
        by_cases a2 : (n : Int) ≤ 5
        · have HP := fun W => power_any W n (by omega)
          have HPh := hide HP
          clear HP
          have hq : dirShape (n : Int) es.length = ((es.length : Int) == ((2 ^ n : Nat) : Int)) := by
            unfold dirShape
            rw [Bool.eq_iff_iff]; simp; omega
          obtain ⟨q, hq2⟩ : ∃ q : Int, ((2 ^ n : Nat) : Int) = q := ⟨_, rfl⟩
          rw [hq2] at HPh hq
          obtain ⟨t, ht⟩ : ∃ t, ((es.length : Int) == q) = t := ⟨_, rfl⟩
          rw [ht] at hq
          have HQ := hide hq
          clear hq2 hq
          cases t
          all_goals
            go_wp2_with fail
            refine wp_region_via (by kernel_rfl) (by kernel_rfl) ?_
            repeat (go_big_quiet_step ((go_at_call 37; exact via_of_same (HPh.out _))))
            refine via_out fun w1 hb1 => ?_
            go_wp2
            go_ret
            exact ⟨ret_bool (by rw [← HRR.out, HQ.out, HA.out]; rfl), hbW.trans (hb1.mono hbW.size)⟩
        · have b2 : decide ((n : Int) ≤ 5) = false := by simpa using a2
          go_wp2_with fail
          refine wp_region_via (by kernel_rfl) (by kernel_rfl) ?_
          repeat (go_big_quiet_step (fail))
          refine via_out fun w1 hb1 => ?_
          go_wp2
          go_ret
          exact ⟨ret_bool (by rw [← HRR.out, HA.out]; unfold dirShape; rw [decide_eq_false (by omega)]; rfl), hbW.trans (hb1.mono hbW.size)⟩
      · have b1 : decide (0 ≤ dep) = false := by simpa using a1
        go_wp2_with fail
        refine wp_region_via (by kernel_rfl) (by kernel_rfl) ?_
        repeat (go_big_quiet_step (fail))
        refine via_out fun w1 hb1 => ?_
        go_wp2
        go_ret
        exact ⟨ret_bool (by rw [← HRR.out, HA.out]; unfold dirShape; rw [decide_eq_false (by omega)]; rfl), hbW.trans (hb1.mono hbW.size)⟩

set_option maxHeartbeats 1000000 in
/-- honeycombref16.DirWords, where the shape fits. -/
theorem RDirWords_any (B : Nat) (A : Option Addr) (c : Nat) (dep : Int) (es : List (Int × Int)) (W : World) (h : Rd W B 2 A es.length (Cs encE es)) (hB : B ≤ W.heap.size) (hu : ∀ e ∈ es, U64 e.2) (hd0 : 0 ≤ dep) (hd1 : dep ≤ 5) (hl : es.length ≤ 32) (ho : entsOk es = true) :
    Calls Try.prog 32 #[.agg #[.int .i64 dep, .slice A es.length c]] W fun e W' => ∃ g cap, e = .returned (.slice (some ⟨g, 0, none⟩) 40 cap) ∧ Rd W' W'.heap.size 1 (some ⟨g, 0, none⟩) 40 (Cs encW (dirInts dep es)) ∧ Below W.heap.size W W' := by
  have HU := hide hu
  have HOK := hide ho
  clear hu ho
  go_enter Try.func32, Try.ntmps32
  go_wp2_with fail
  have hb0 : Below W.heap.size W (W.alloc (.cells #[.int .i64 dep, .slice A es.length c] 49)) := (Below.refl _ _).alloc (Nat.le_refl _) _
  have hs0 : (W.alloc (.cells #[.int .i64 dep, .slice A es.length c] 49)).heap.size = W.heap.size + 1 := by simp
  generalize (W.alloc (.cells #[.int .i64 dep, .slice A es.length c] 49)) = w0 at *
  have hown0 := World.ownsRow_lit (base := w0.heap.size) (e := 34) (size := 1) w0 #[.int .u64 dep] 1 (Nat.le_refl _) (by simp [maxLen]) rfl
  have HO0 := hide hown0
  have HB0 := hide hb0
  clear hown0 hb0
  go_loopw [3, 13] (fun v i wr => ∃ k : Nat, k ≤ es.length ∧ i = .int .i64 k ∧ wr.ownsRow w0.heap.size 34 1 v (1 + k) ([.int .u64 dep] ++ Cs encW ((es.take k).map packW)) ∧ Below w0.heap.size w0 wr) (fun _ i _ => es.length - (intOf i).toNat)
  case atStart => exact ⟨0, Nat.zero_le _, rfl, by have := HO0.out; simpa [Cs, hs0] using this, (Below.refl _ _).alloc (Nat.le_refl _) _⟩
  case round =>
    obtain ⟨k, hk, rfl, hown, hbw⟩ := hrel
    have hbW := HB0.out.trans (hbw.mono HB0.out.size)
    by_cases hlt : k < es.length
    · obtain ⟨b, off, rfl, hb, hc⟩ := (h.below (hbW.mono hB)).elem encE_len hlt
      have hd0 := hc 0 _ (by omega) rfl
      have hd1 := hc 1 _ (by omega) rfl
      simp only [Nat.add_zero] at hd0
      clear hc
      have hux := hide (HU.out es[k] (List.getElem_mem hlt))
      have hok := okEnt_out (List.all_eq_true.1 HOK.out es[k] (List.getElem_mem hlt))
      have HS := hide (packs_succ es k hlt)
      have hbs : b < wr.heap.size := by have := hbW.size; omega
      generalize hx : es[k] = x at *
      clear hx
      obtain ⟨ho1, ho2, ho3⟩ := hok
      have HBW := hide hbw
      have HOW := hide hown
      clear hbw hown hbW
      go_wp2_with fail
      refine (RPack_any _ x.1 x.2 ho1 ho2 hux.out.1 ho3).mono ?_
      rintro e w1 ⟨rfl, hb1⟩
      have hb2 : Below w0.heap.size w0 w1 := (HBW.out.alloc HBW.out.size _).trans (hb1.mono (by have := HBW.out.size; simp; omega))
      have hown1 := own_keepB (HOW.out.alloc (.cells #[.int .i64 x.1, .int .u64 x.2] 36)) hb1
      go_wp2_with (at_builtin; refine wpList_app elW rfl _ _ rfl rfl (hown1.alloc _) rfl (Rd.new w1 #[.int .u64 (x.1 + 1 + 65536 * x.2)] 34 1 1 rfl) (by simp [Value.oneCell']) (by omega) (by have := hb2.size; simp; omega) ?_; intro v2 w2 hown2 hb3 _ _)
      go_roundw
      case rel => exact ⟨k + 1, by omega, by go_num, by rw [HS.out, ← List.append_assoc]; exact hown2, (hb2.alloc hb2.size _).trans hb3⟩
      case measure => simp [intOf]; omega
    · obtain rfl : k = es.length := by omega
      rw [List.take_length] at hown
      have HBW := hide hbw
      have HOW := hide hown
      clear hbw hown hbW
      go_wp2_with fail
      obtain ⟨wo, hwo⟩ : ∃ wo : World, wo = wr := ⟨_, rfl⟩
      obtain ⟨N, hN⟩ : ∃ N, N = 1 + es.length := ⟨_, rfl⟩
      have HS0 : Hid (wr.ownsRow w0.heap.size 34 1 u3 (N + 0) (([.int .u64 dep] ++ Cs encW (es.map packW)) ++ List.replicate 0 (.int .u64 0))) := hide (by rw [hN]; simpa using HOW.out)
      have hN2 : N ≤ 33 := by omega
      have hN1 : 1 ≤ N := by omega
      have HN := hide hN
      have HBx := hide HBW.out
      clear hwo hN HOW HBW
      go_loopw [3] (fun v wx => ∃ j : Nat, N + j ≤ 40 ∧ wx.ownsRow w0.heap.size 34 1 v (N + j) (([.int .u64 dep] ++ Cs encW (es.map packW)) ++ List.replicate j (.int .u64 0)) ∧ Below w0.heap.size w0 wx) (fun v _ => match v with | .slice _ n _ => 40 - n | _ => 0)
      case atStart => exact ⟨0, by omega, HS0.out, HBx.out⟩
      case round =>
        obtain ⟨j, hj, hown, hbw⟩ := hrel
        obtain ⟨g, cap, rfl, hg, hgl⟩ := hown.form (by omega)
        have HBW := hide hbw
        have HOW := hide hown
        clear hbw hown
        by_cases hjl : N + j < 40
        · have hji : ((N + j : Nat) : Int) < 40 := by omega
          go_wp2_with (at_builtin; refine wpList_app elW rfl _ _ rfl rfl (HOW.out.alloc _) rfl (Rd.new wr #[.int .u64 0] 34 1 1 rfl) (by simp [Value.oneCell']) (by omega) (by have := HBW.out.size; simp; omega) ?_; intro v2 w2 hown2 hb3 _ _; obtain ⟨g2, cap2, rfl, hg2, hgl2⟩ := hown2.form (by omega))
          go_roundw
          case rel => exact ⟨j + 1, by omega, by rw [List.replicate_succ', ← List.append_assoc, ← Nat.add_assoc]; exact hown2, (HBW.out.alloc HBW.out.size _).trans hb3⟩
          case measure => simp; omega
        · have hj40 : N + j = 40 := by omega
          have hji : ((N + j : Nat) : Int) = 40 := by omega
          have h := HOW.out
          rw [hj40] at h ⊢
          have HH := hide h
          clear h hj40 hji
          go_wp2_with fail
          go_ret
          have hN' := HN.out
          have e : ([Value.int .u64 dep] ++ Cs encW (es.map packW)) ++ List.replicate j (.int .u64 0) = Cs encW (dirInts dep es) := by
            rw [Cs_mapW, Cs_mapW, dirInts, show j = 40 - (1 + es.length) by omega]; simp
          have hr := Rd.of_own HH.out
          rw [e] at hr
          exact ⟨g, cap, rfl, hr, HB0.out.trans (HBW.out.mono HB0.out.size)⟩
end Go.Proofs.Ytndlfofpldbldaa

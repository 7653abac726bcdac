/-
  A directory doubled, and halved, over the hand.
-/
import Derived.Test.YtjlbnegdiabglaaDij
set_option linter.unusedSimpArgs false
set_option linter.unusedVariables false
namespace Go.Proofs.Ytjlbnegdiabglaa
open Go Go.RowKit
attribute [local go_sem] via_cell via_frozen

def dbl (es : List En) : List En := es.flatMap (fun e => [e, e])
theorem dbl_length (es : List En) : (dbl es).length = 2 * es.length := by
  induction es with
  | nil => rfl
  | cons e es ih => simp only [dbl, List.flatMap_cons, List.length_append, List.length_cons, List.length_nil] at ih ⊢; omega
theorem dbl_append (a b : List En) : dbl (a ++ b) = dbl a ++ dbl b := by simp [dbl]
theorem dbl_take (es : List En) {k : Nat} (hk : k < es.length) : dbl (es.take (k + 1)) = dbl (es.take k) ++ [es[k], es[k]] := by
  rw [List.take_succ_eq_append_getElem hk, dbl_append]; rfl
def doubleO (dep : Int) (es : List En) : Except Int (Int × List En) := if dep < 5 then .ok (dep + 1, dbl es) else .error 342
theorem slice_form {A A' : Option Addr} {n n' c c' : Nat} (h : Value.slice A n c = .slice A' n' c') : A = A' ∧ n = n' ∧ c = c' := by injection h with h1 h2 h3; exact ⟨h1, h2, h3⟩
/-- Doubled: nothing else turns. -/
def DblOk (gh : Nat) (d : Int) (es : List En) (w : World) (e : Ending) (w' : World) : Prop := e = .returned (.tuple #[]) ∧ (∃ A c, RowAt w' gh 71 #[.int .i64 d, .slice A es.length c] ∧ w'.ownsRow w.heap.size 31 2 (.slice A es.length c) es.length (Cs encE es)) ∧ Past gh w w'
def DblO (gh : Nat) (w : World) : Except Int (Int × List En) → Ending → World → Prop
  | .ok x => DblOk gh x.1 x.2 w
  | .error k => fun e w' => e = .panicked (errX k) ∧ w = w'
set_option maxHeartbeats 1000000 in
theorem double_dbl (gh gs : Nat) (dep : Int) (A : Option Addr) (c : Nat) (es : List En) (w : World) (h : HandO w gh gs dep A c es) (hd0 : 0 ≤ dep) (hd5 : dep ≤ 5) (hl : es.length ≤ 32) (o : Except Int (Int × List En)) (ho : doubleO dep es = o) :
    Calls Try.prog 53 #[.pointer (some ⟨gh, 0, none⟩)] w (DblO gh w o) := by
  have d0 := row20 h.hand
  have dl := h.hand.lt
  by_cases hd : dep < 5
  case neg =>
    have hdd : decide (dep < 5) = false := by simpa using hd
    obtain rfl : Except.error 342 = o := by rw [← ho]; unfold doubleO; rw [if_neg hd]
    go_enter Try.func53, Try.ntmps53
    go_wp2_with fail
    refine (need_no 342 _).mono ?_
    rintro e w5 ⟨rfl, rfl⟩
    dsimp only
    exact ⟨rfl, rfl, rfl⟩
  case pos =>
    have hdd : decide (dep < 5) = true := by simpa using hd
    obtain rfl : Except.ok (dep + 1, dbl es) = o := by rw [← ho]; unfold doubleO; rw [if_pos hd]
    have H := hide h
    obtain ⟨n, hn⟩ : ∃ n, es.length = n := ⟨_, rfl⟩
    have d1 := row21 h.hand
    rw [hn] at d1 hl
    have HN := hide hn
    have HRD := hide (Rd.of_own h.own)
    clear h hn ho
    go_enter Try.func53, Try.ntmps53
    go_wp2_with fail
    refine (need_ok 342 _).mono ?_
    rintro e w5 ⟨rfl, rfl⟩
    dsimp only
    go_wp2_with fail
    go_loopw [2, 18] (fun v i wr => ∃ k : Nat, k ≤ n ∧ i = .int .i64 k ∧ wr.ownsRow w.heap.size 31 2 v (k * 2) (Cs encE (dbl (es.take k))) ∧ Below w.heap.size w wr) (fun _ i _ => n - (intOf i).toNat)
    case atStart => exact ⟨0, Nat.zero_le _, rfl, ⟨rfl, .inl ⟨rfl, rfl⟩⟩, Below.refl _ _⟩
    case round =>
      obtain ⟨k, hk, rfl, hown, hbel⟩ := hrel
      obtain ⟨A2, c2, rfl, hc2, hcm2⟩ := own_form2 hown
      have HO := hide hown
      have HB := hide hbel
      clear hown hbel
      by_cases hlt : k < n
      · have hkm : (k : Int) < (n : Int) := by omega
        have hlx : k < es.length := by rw [HN.out]; exact hlt
        obtain ⟨b, off, rfl, hb, hc⟩ := (HRD.out.below HB.out).elem encE_len hlx
        have e0 := hc 0 _ (by omega) rfl
        have e1 := hc 1 _ (by omega) rfl
        simp only [Nat.add_zero] at e0
        have hbl : b < wr.heap.size := Nat.lt_of_lt_of_le hb HB.out.size
        have HT := hide (dbl_take es hlx)
        generalize es[k] = x at *
        have hrn := Rd.new (wr.alloc (.cells #[.int .i64 x.1, .int .u64 x.2] 31)) #[.int .i64 x.1, .int .u64 x.2, .int .i64 x.1, .int .u64 x.2] 31 2 2 rfl
        rw [World.size_alloc] at hrn
        have HRN := hide hrn
        clear hrn hc hb
        have hsz := HB.out.size
        go_wp2_with (at_builtin; refine wpList_app elE rfl _ _ rfl rfl ((HO.out.alloc _).alloc _) rfl HRN.out (by simp [Value.oneCell']) (by omega) (by simp; omega) ?_; intro v2 w2 hown2 hb3 _ _; have HB4 := hide ((((Below.refl w.heap.size wr).alloc hsz (.cells #[.int .i64 x.1, .int .u64 x.2] 31)).alloc (by simp; omega) (.cells #[.int .i64 x.1, .int .u64 x.2, .int .i64 x.1, .int .u64 x.2] 31)).trans hb3); have HO4 := hide hown2; clear hown2 hb3)
        go_roundw
        case rel =>
          refine ⟨k + 1, by omega, by go_num, ?_, HB.out.trans HB4.out⟩
          rw [HT.out, Cs_append, show (k + 1) * 2 = k * 2 + 2 by omega]
          exact HO4.out
        case measure => simp [intOf]; omega
      · obtain rfl : k = n := by omega
        have HF := hide (show es.take k = es from List.take_of_length_le (by rw [HN.out]; exact Nat.le_refl _))
        have HH := hide (H.out.hand.below HB.out)
        have q0 := row20 HH.out
        have q1 := row21 HH.out
        have ql := HH.out.lt
        have qf0 := HH.out.frozen 0
        have qf1 := HH.out.frozen 1
        rw [HN.out] at q1
        clear d0 d1
        have hdd5 : dep < 5 := hd
        go_wp2_with fail
        go_end0
        have hH := (HH.out.set 0 (.int .i64 (dep + 1))).set 1 (.slice A2 (k * 2) c2)
        refine ⟨rfl, ⟨A2, c2, ?_, ?_⟩, ((Past.of_below dl HB.out).trans (Past.set 0 _)).trans (Past.set 1 _)⟩
        · rw [dbl_length, HN.out, show 2 * k = k * 2 by omega]
          exact hH
        · rw [dbl_length, HN.out, show 2 * k = k * 2 by omega]
          have h := HO.out
          rw [HF.out] at h
          exact own_other2 h (fun g hg _ => by rw [heap_setCell_ne _ _ _ _ (by simp; omega), heap_setCell_ne _ _ _ _ (by simp; omega)])
theorem double_any (gh gs : Nat) (dep : Int) (A : Option Addr) (c : Nat) (es : List En) (w : World) (h : HandO w gh gs dep A c es) (hg : gs < gh) (hd0 : 0 ≤ dep) (hd5 : dep ≤ 5) (hl : es.length ≤ 32) (o : Except Int (Int × List En)) (ho : doubleO dep es = o) :
    Calls Try.prog 53 #[.pointer (some ⟨gh, 0, none⟩)] w (DoesO gs gh w o) := by
  refine (double_dbl gh gs dep A c es w h hd0 hd5 hl o ho).mono ?_
  intro e w' hR
  have hlt := h.hand.lt
  cases o with
  | error k => obtain ⟨rfl, rfl⟩ := hR; exact ⟨rfl, Below.refl _ _⟩
  | ok x =>
    obtain ⟨rfl, ⟨A2, c2, h1, h2⟩, h3⟩ := hR
    exact ⟨rfl, ⟨A2, c2, h1, ownsRow_base h2 (by omega)⟩, h3.below.mono (by omega)⟩
theorem eqlE (w : World) (x y : En) (r : Bool) (hr : decide (x = y) = r) :
    (binOp .eql 31 (.agg #[.int .i64 x.1, .int .u64 x.2]) (.agg #[.int .i64 y.1, .int .u64 y.2])).run Try.prog w = .ok (.bool r) w := by
  obtain ⟨a1, a2⟩ := x
  obtain ⟨b1, b2⟩ := y
  simp only [binOp]
  simp [Op.equal, Op.maxDepth, go_sem, run_equalIn_struct]
  subst hr
  by_cases h1 : a1 = b1 <;> by_cases h2 : a2 = b2 <;> simp [h1, h2]
/-- Two by two the same: the half. -/
def halfX : List En → Option (List En)
  | a :: b :: l => if a = b then (halfX l).map (a :: ·) else none
  | _ => some []
theorem halfX_drop (es : List En) {j : Nat} (hj : j + 1 < es.length) : halfX (es.drop j) = if es[j] = es[j + 1] then (halfX (es.drop (j + 2))).map (es[j] :: ·) else none := by
  rw [List.drop_eq_getElem_cons (by omega), List.drop_eq_getElem_cons hj]; rfl
def halveO (dep : Int) (es : List En) : Except Int (Int × List En) := if 0 < dep then (match halfX es with | some ys => .ok (dep - 1, ys) | none => .error 4) else .error 4
theorem slice_two (b o j n c : Nat) (h1 : j + 2 ≤ n) (hc : n ≤ c) (w : World) : (Instr.slice 22 (.slice (some ⟨b, o, none⟩) n c) (some (.int .i64 j)) (some (.int .i64 ((j : Int) + 2))) (some (.int .i64 ((j : Int) + 2)))).run Try.prog w = .ok (.slice (some ⟨b, o + j * 2, none⟩) 2 2) w := by
  rw [run_slice_lhm w 22 (some ⟨b, o, none⟩) n c (by kernel_rfl) .i64 .i64 .i64 j (j + 2) (j + 2) (by omega) (by omega) (by omega) (by omega)]
  have e1 : ((j : Int) + 2).toNat = j + 2 := by omega
  have e2 : ((j : Int)).toNat = j := by omega
  have e3 : ¬ (j + 2 = j) := by omega
  have e4 : j + 2 - j = 2 := by omega
  simp [go_sem, sliced, Addr.add, e1, e2, e3, e4]
set_option maxHeartbeats 2000000 in
theorem halve_any (gh gs : Nat) (dep : Int) (A : Option Addr) (c : Nat) (es : List En) (w : World) (h : HandO w gh gs dep A c es) (hg : gs < gh) (hd0 : 0 ≤ dep) (hd5 : dep ≤ 5) (hl : es.length ≤ 32) (hev : 0 < dep → es.length % 2 = 0) (o : Except Int (Int × List En)) (ho : halveO dep es = o) :
    Calls Try.prog 54 #[.pointer (some ⟨gh, 0, none⟩)] w (DoesO gs gh w o) := by
  have d0 := row20 h.hand
  have dl := h.hand.lt
  by_cases hd : 0 < dep
  case neg =>
    have hdd : decide (0 < dep) = false := by simpa using hd
    obtain rfl : Except.error 4 = o := by rw [← ho]; unfold halveO; rw [if_neg hd]
    go_enter Try.func54, Try.ntmps54
    go_wp2_with fail
    refine (need_no 4 _).mono ?_
    rintro e w5 ⟨rfl, rfl⟩
    dsimp only
    exact ⟨rfl, rfl, Below.refl _ _⟩
  case pos =>
    have hdd : decide (0 < dep) = true := by simpa using hd
    have HO := hide (show (match halfX es with | some ys => Except.ok (dep - 1, ys) | none => Except.error 4) = o from by rw [← ho]; unfold halveO; rw [if_pos hd])
    have H := hide h
    have hev2 := hev hd
    obtain ⟨n, hn⟩ : ∃ n, es.length = n := ⟨_, rfl⟩
    have d1 := row21 h.hand
    rw [hn] at d1 hl hev2
    have HN := hide hn
    have HRD := hide (Rd.of_own h.own)
    obtain ⟨_, _, hsf, hnc, hcm⟩ := own_form2 h.own
    obtain ⟨-, -, rfl⟩ := slice_form hsf
    rw [hn] at hnc
    clear h hn ho hev hsf
    go_enter Try.func54, Try.ntmps54
    go_wp2_with fail
    refine (need_ok 4 _).mono ?_
    rintro e w5 ⟨rfl, rfl⟩
    dsimp only
    go_wp2_with fail
    go_loopw [2, 3] (fun v i wr => ∃ (j k : Nat) (ys : List En), j ≤ n ∧ j = 2 * k ∧ i = .int .i64 j ∧ ys.length = k ∧ halfX es = (halfX (es.drop j)).map (ys ++ ·) ∧ wr.ownsRow w.heap.size 31 2 v k (Cs encE ys) ∧ Below w.heap.size w wr) (fun _ i _ => n - (intOf i).toNat)
    case atStart => exact ⟨0, 0, [], Nat.zero_le _, rfl, rfl, rfl, by simp, ⟨rfl, .inl ⟨rfl, rfl⟩⟩, Below.refl _ _⟩
    case round =>
      obtain ⟨j, k, ys, hj, hjk, rfl, hys, hx, hown, hbel⟩ := hrel
      obtain ⟨A2, c2, rfl, hc2, hcm2⟩ := own_form2 hown
      have HOW := hide hown
      have HB := hide hbel
      have HX := hide hx
      have HYS := hide hys
      have HJK := hide hjk
      have HH := hide (H.out.hand.below hbel)
      have q0 := row20 HH.out
      have q1 := row21 HH.out
      have ql := HH.out.lt
      rw [HN.out] at q1
      clear hown hbel hx hys d0 d1
      by_cases hlt : j < n
      · have hkm : (j : Int) < (n : Int) := by omega
        have hj2 : j + 2 ≤ n := by omega
        have hlx : j < es.length := by rw [HN.out]; exact hlt
        have hlx2 : j + 1 < es.length := by rw [HN.out]; omega
        have hRD := HRD.out.below HB.out
        obtain ⟨b, off, rfl, hb, hc⟩ := hRD.elem encE_len hlx
        obtain ⟨b', off', hbb, _, hc'⟩ := hRD.elem encE_len hlx2
        injection hbb with hbb
        injection hbb with hbb1 hbb2 _
        subst hbb1; subst hbb2
        have e0 := hc 0 _ (by omega) rfl
        have e1 := hc 1 _ (by omega) rfl
        have e2 := hc' 0 _ (by omega) rfl
        have e3 := hc' 1 _ (by omega) rfl
        simp only [Nat.add_zero] at e0 e2
        rw [show off + (j + 1) * 2 = off + j * 2 + 2 by omega] at e2
        rw [show off + (j + 1) * 2 + 1 = off + j * 2 + 2 + 1 by omega] at e3
        have hbl : b < wr.heap.size := Nat.lt_of_lt_of_le hb HB.out.size
        have HDR := hide (halfX_drop es hlx2)
        have hsl := slice_two b off j n c hj2 hnc
        have hj32 : (j : Int) ≤ 32 := by omega
        generalize es[j] = x at *
        generalize es[j + 1] = y at *
        clear hc hc' hRD hb hjk
        obtain ⟨r, hr⟩ : ∃ r, decide (x = y) = r := ⟨_, rfl⟩
        have heq := fun w => eqlE w x y r hr
        have HR := hide hr
        clear hr
        go_upto_region 6 with (fail)
        clear hsl
        refine wp_region_tail 7 (by kernel_rfl) (by kernel_rfl) ?_
        simp only [List.take_succ_cons, List.take_zero, List.drop_succ_cons, List.drop_zero]
        repeat (go_big_quiet_step (fail))
        refine tail_out fun w7 hb7 => ?_
        have HB7 := hide (HB.out.trans (hb7.mono HB.out.size))
        have HOW7 := hide (own_keepB HOW.out hb7)
        have z0 := kept hb7 e0
        have z1 := kept hb7 e1
        have zl : b < w7.heap.size := Nat.lt_of_lt_of_le hbl hb7.size
        clear e0 e1 e2 e3 hbl heq hb7 HOW HB q0 q1 ql
        cases r
        · have HF := hide (show Except.error 4 = o from by
            have h := HX.out
            rw [HDR.out, if_neg (of_decide_eq_false HR.out)] at h
            have h2 := HO.out
            rw [h] at h2
            exact h2)
          go_wp2_with fail
          refine (need_no 4 _).mono ?_
          rintro e w5 ⟨rfl, rfl⟩
          dsimp only
          obtain rfl := HF.out
          exact ⟨rfl, rfl, HB7.out.mono (by omega)⟩
        · have hxy : x = y := of_decide_eq_true HR.out
          have HX2 := hide (show halfX es = (halfX (es.drop (j + 2))).map ((ys ++ [x]) ++ ·) from by
            have h := HX.out
            rw [HDR.out, if_pos hxy] at h
            rw [h]
            cases halfX (es.drop (j + 2)) <;> simp)
          clear hxy
          go_wp2_with fail
          refine (need_ok 4 _).mono ?_
          rintro e w5 ⟨rfl, rfl⟩
          dsimp only
          have hrn := Rd.new w7 #[.int .i64 x.1, .int .u64 x.2] 31 2 1 rfl
          have HRN := hide hrn
          clear hrn
          have hsz := HB7.out.size
          have hk32 : k ≤ 32 := by have := HJK.out; omega
          go_wp2_with (at_builtin; refine wpList_app elE rfl _ _ rfl rfl (HOW7.out.alloc _) rfl HRN.out (by simp [Value.oneCell']) (by omega) (by simp; omega) ?_; intro v2 w2 hown2 hb3 _ _; have HB4 := hide (((Below.refl w.heap.size w7).alloc hsz (.cells #[.int .i64 x.1, .int .u64 x.2] 31)).trans hb3); have HO4 := hide hown2; clear hown2 hb3)
          go_roundw
          case rel =>
            refine ⟨j + 2, k + 1, ys ++ [x], hj2, by have := HJK.out; omega, by go_num, by simp [HYS.out], HX2.out, ?_, HB7.out.trans HB4.out⟩
            rw [Cs_append]
            exact HO4.out
          case measure => simp [intOf]; omega
      · obtain rfl : j = n := by omega
        have HF := hide (show Except.ok (dep - 1, ys) = o from by
          have h := HX.out
          rw [List.drop_eq_nil_of_le (by rw [HN.out]; exact Nat.le_refl _)] at h
          have h2 := HO.out
          rw [h] at h2
          simpa [halfX] using h2)
        have qf0 := HH.out.frozen 0
        have qf1 := HH.out.frozen 1
        go_wp2_with fail
        go_end0
        have hH := (HH.out.set 0 (.int .i64 (dep - 1))).set 1 (.slice A2 k c2)
        rw [← HF.out]
        refine ⟨rfl, ⟨A2, c2, ?_, ?_⟩, (HB.out.mono (by have := dl; omega)).setCell (p := ⟨gh, 0, none⟩) (by simp; omega) _ |>.setCell (p := ⟨gh, 1, none⟩) (by simp; omega) _⟩
        · show RowAt _ gh 71 #[.int .i64 (dep - 1), .slice A2 ys.length c2]
          rw [HYS.out]
          exact hH
        · show World.ownsRow _ gs 31 2 (.slice A2 ys.length c2) ys.length _
          rw [HYS.out]
          exact ownsRow_base (base := w.heap.size) (own_other2 HOW.out (fun g hg _ => by rw [heap_setCell_ne _ _ _ _ (by simp; omega), heap_setCell_ne _ _ _ _ (by simp; omega)])) (by omega)
end Go.Proofs.Ytjlbnegdiabglaa

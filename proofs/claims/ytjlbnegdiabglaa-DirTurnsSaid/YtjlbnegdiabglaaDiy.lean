/-
  Whether a directory is finer than another one.
-/
import Derived.Test.YtjlbnegdiabglaaDix
import Derived.Test.YtjlbnegdiabglaaDiu
import Derived.Deep.RegionHeld3
import Derived.BigQuiet
set_option linter.unusedSimpArgs false
set_option linter.unusedVariables false
namespace Go.Proofs.Ytjlbnegdiabglaa
open Go Go.RowKit
attribute [local go_sem] via_cell via_frozen

/-- Lies s's span of hashes in t's? -/
def inB (s t : Rc) : Bool := decide (t.dep ≤ s.dep) && decide (s.pre / 2 ^ (s.dep - t.dep).toNat = t.pre)
def Sane (s : Rc) : Prop := -8 ≤ s.dep ∧ s.dep ≤ 8 ∧ 0 ≤ s.pre ∧ s.pre < 4096
set_option maxHeartbeats 1000000 in
theorem within1_any (gs : Nat) (s : Rc) (W : World) (hs : RowAt W gs 33 (rC s)) (hss : Sane s) : ClosP 44 #[.pointer (some ⟨gs, 0, none⟩)] vR (inB s) Sane W := by
  intro w t hb hV
  have hrow := hs.below hb
  have q2 := hrow.cell 2
  have q3 := hrow.cell 3
  have ql := hrow.lt
  have hba := (Below.refl _ w).alloc (Nat.le_refl _) (.cells (rC t) 33)
  have HB := hide hba
  have HR := hide (RowAt.new w 33 (rC t))
  have hsd := hss
  obtain ⟨h1, h2, h3, h4⟩ := hss
  obtain ⟨h5, h6, h7, h8⟩ := hV
  have HI := hide (show inB s t = inB s t from rfl)
  obtain ⟨se, sd, sp, sa, sm⟩ := s
  obtain ⟨te, td, tp, ta, tm⟩ := t
  dsimp only at h1 h2 h3 h4 h5 h6 h7 h8
  dsimp only [rC] at HB HR
  have HS := hide (hrow.below hba)
  clear hba hb hs hrow hsd q2 q3 ql
  by_cases hd : td ≤ sd
  · have hdb : decide (td ≤ sd) = true := by simpa using hd
    have hsub : 0 ≤ sd - td ∧ sd - td ≤ 16 := by omega
    go_enter Try.func44, Try.ntmps44
    go_upto_region 1 with (fail)
    generalize w.alloc (.cells #[.int .i64 te.1, .int .u64 te.2, .int .i64 td, .int .u64 tp, .int .i64 ta, .int .i64 tm] 33) = w2 at *
    have q2 := HS.out.cell 2
    have q3 := HS.out.cell 3
    have ql := HS.out.lt
    have t2 := HR.out.cell 2
    have t3 := HR.out.cell 3
    have tl := HR.out.lt
    go_quiet (fail)
    go_wp2_with fail
    go_ret
    refine ⟨ret_bool ?_, below_drewN HB.out _⟩
    simp only [inB, hd, decide_true, Bool.true_and]
    rw [Bool.eq_iff_iff]; simp
  · have hdb : decide (td ≤ sd) = false := by simpa using hd
    go_enter Try.func44, Try.ntmps44
    go_upto_region 1 with (fail)
    generalize w.alloc (.cells #[.int .i64 te.1, .int .u64 te.2, .int .i64 td, .int .u64 tp, .int .i64 ta, .int .i64 tm] 33) = w2 at *
    have q2 := HS.out.cell 2
    have q3 := HS.out.cell 3
    have ql := HS.out.lt
    have t2 := HR.out.cell 2
    have t3 := HR.out.cell 3
    have tl := HR.out.lt
    go_quiet (fail)
    go_wp2_with fail
    go_ret
    refine ⟨ret_bool ?_, below_drewN HB.out _⟩
    simp only [inB, hdb, Bool.false_and]
theorem within_any (gm B : Nat) (A : Option Addr) (c : Nat) (ts : List Rc) (W : World) (hm : RowAt W gm 28 #[.slice A ts.length c]) (hr : Rd W B 6 A ts.length (Cs encR ts)) (hB : B ≤ W.heap.size) (hl : ts.length ≤ 4096) (hV : ∀ t ∈ ts, Sane t) :
    ClosP 42 #[.pointer (some ⟨gm, 0, none⟩)] vR (fun s => ts.any (inB s)) Sane W := by
  intro w s hb hss
  have hrow := hm.below hb
  have q0 := row1 hrow
  have ql := hrow.lt
  have hba := (Below.refl _ w).alloc (Nat.le_refl _) (.cells (rC s) 33)
  have HB := hide hba
  have HC := hide (containsR_any B A c 44 #[.pointer (some ⟨w.heap.size, 0, none⟩)] (enters_of Try.func44 (by kernel_rfl) rfl) (inB s) Sane ts (w.alloc (.cells (rC s) 33)) ((hr.below (hb.mono hB)).below (hba.mono (Nat.le_trans hB hb.size))) hl (Nat.le_trans hB (Nat.le_trans hb.size hba.size)) hV
    (within1_any w.heap.size s _ (RowAt.new w 33 (rC s)) hss) _ rfl)
  show Calls _ _ _ _ (fun e w' => e = .returned (.bool (ts.any (inB s))) ∧ Below w.heap.size w w')
  generalize ts.any (inB s) = r at *
  clear hba hb hrow hm hr
  go_enter Try.func42, Try.ntmps42
  go_wp2_with fail
  with_reducible refine HC.out.mono ?_
  rintro e w1 ⟨rfl, hb1⟩
  have HB1 := hide (HB.out.trans (hb1.mono HB.out.size))
  clear hb1
  go_wp2_with fail
  go_ret
  exact ⟨rfl, HB1.out⟩
/-- Is a directory finer than another one? -/
def finerX (xs ys : List Rc) : Bool := decide (0 < xs.length) && decide (0 < ys.length) && xs.all (fun s => ys.any (inB s))
theorem own_setBox {w : World} {base g : Nat} {e t : TypeId} {sz n : Nat} {v : Value} {xs : List Value} {cs : Array Value} (h : w.ownsRow base e sz v n xs) (hb : RowAt w g t cs) (hne : t ≠ e) (o : Nat) (u : Value) : (w.setCell ⟨g, o, none⟩ u).ownsRow base e sz v n xs := by
  obtain ⟨h0, (⟨h1, h2⟩ | ⟨g', cap, cur, hv, hge, hh, h3⟩)⟩ := h
  · exact ⟨h0, .inl ⟨h1, h2⟩⟩
  · refine ⟨h0, .inr ⟨g', cap, cur, hv, hge, ?_, h3⟩⟩
    have hn := row_ne (show RowAt w g' e cur from hh) hb (Ne.symm hne)
    exact (heap_setCell_ne _ _ _ _ hn).trans hh
theorem span_len (d : Int) (es : List En) : (spansX d es).length ≤ 4096 := by
  unfold spansX
  by_cases hm : mayB d es = true
  · rw [if_pos hm, List.length_map]
    have h1 := runs_len es
    have h2 := (may_shape hm).2.2.1
    omega
  · rw [if_neg hm]; simp
theorem sane_span (d : Int) (es : List En) (x : Rc) (h : x ∈ spansX d es) : Sane x := by
  unfold spansX at h
  by_cases hm : mayB d es = true
  · rw [if_pos hm] at h
    obtain ⟨r, hr, rfl⟩ := List.mem_map.1 h
    obtain ⟨h1, h2, _⟩ := runs_mem hr
    obtain ⟨h3, h4, h5, -⟩ := may_shape hm
    have h6 : Nat.log2 r.many ≤ 5 := by have h := Nat.log2_lt (n := r.many) (k := 6) (by omega); omega
    have h7 : r.at_ / r.many ≤ r.at_ := Nat.div_le_self _ _
    simp only [Sane, rc]
    generalize r.at_ / r.many = q at *
    omega
  · rw [if_neg hm] at h; cases h
set_option maxHeartbeats 4000000 in
theorem Finer_any (A1 A2 : Option Addr) (c1 c2 : Nat) (d1 d2 : Int) (es1 es2 : List En) (W : World) (h1 : DirAt W W.heap.size A1 c1 es1) (h2 : DirAt W W.heap.size A2 c2 es2) (r : Bool) (hr : finerX (spansX d1 es1) (spansX d2 es2) = r) :
    Calls Try.prog 15 #[.agg #[.int .i64 d1, .slice A1 es1.length c1], .agg #[.int .i64 d2, .slice A2 es2.length c2]] W fun e W' => e = .returned (.bool r) ∧ Below W.heap.size W W' := by
  have HRR := hide hr
  have HD1 := hide h1
  have HD2 := hide h2
  clear hr h1 h2
  obtain ⟨w1, hw1⟩ : ∃ w1, W.alloc (.cells #[.int .i64 d1, .slice A1 es1.length c1] 24) = w1 := ⟨_, rfl⟩
  obtain ⟨w2, hw2⟩ : ∃ w2, w1.alloc (.cells #[.int .i64 d2, .slice A2 es2.length c2] 24) = w2 := ⟨_, rfl⟩
  have s1 : w1.heap.size = W.heap.size + 1 := by rw [← hw1]; simp
  have s2 : w2.heap.size = W.heap.size + 1 + 1 := by rw [← hw2]; simp [s1]
  have b1 : Below W.heap.size W w1 := by rw [← hw1]; exact (Below.refl _ _).alloc (Nat.le_refl _) _
  have b2 : Below w1.heap.size w1 w2 := by rw [← hw2]; exact (Below.refl _ _).alloc (Nat.le_refl _) _
  have R1 : Hid (RowAt w2 W.heap.size 24 #[.int .i64 d1, .slice A1 es1.length c1]) := hide (by have h := RowAt.new W 24 #[.int .i64 d1, .slice A1 es1.length c1]; rw [hw1] at h; exact h.below b2)
  have R2 : Hid (RowAt w2 (W.heap.size + 1) 24 #[.int .i64 d2, .slice A2 es2.length c2]) := hide (by have h := RowAt.new w1 24 #[.int .i64 d2, .slice A2 es2.length c2]; rw [hw2, s1] at h; exact h)
  have HB := hide (b1.trans (b2.mono b1.size))
  have S2 := hide s2
  clear b1 b2 s1 s2
  subst hw2
  subst hw1
  go_enter Try.func15, Try.ntmps15
  go_upto_region 1 with (fail)
  generalize (W.alloc (.cells #[.int .i64 d1, .slice A1 es1.length c1] 24)).alloc (.cells #[.int .i64 d2, .slice A2 es2.length c2] 24) = w2 at *
  obtain ⟨xs, hxs⟩ : ∃ xs, spansX d1 es1 = xs := ⟨_, rfl⟩
  obtain ⟨ys, hys⟩ : ∃ ys, spansX d2 es2 = ys := ⟨_, rfl⟩
  have HXS := hide hxs
  have HYS := hide hys
  have HC1 := hide (fun w (hb : Below w2.heap.size w2 w) => Spans_any W.heap.size A1 c1 d1 es1 w (HD1.out.below (HB.out.trans (hb.mono HB.out.size))) (Nat.le_trans HB.out.size hb.size) xs hxs)
  have HC2 := hide (fun w (hb : Below w2.heap.size w2 w) => Spans_any W.heap.size A2 c2 d2 es2 w (HD2.out.below (HB.out.trans (hb.mono HB.out.size))) (Nat.le_trans HB.out.size hb.size) ys hys)
  rw [hxs, hys] at HRR
  clear hxs hys
  have q0 := row20 R1.out
  have q1 := row21 R1.out
  have ql := R1.out.lt
  have p0 := row20 R2.out
  have p1 := row21 R2.out
  have pl := R2.out.lt
  refine wp_region_held_drew (S := fun wX => Below w2.heap.size w2 wX) (by kernel_rfl) (Below.refl _ _).drew (fun hHeld => ?_)
  refine wpAnyH_take (i := 0) (v := .agg #[.int .i64 d1, .slice A1 es1.length c1]) rfl (by kernel_rfl) (by kernel_rfl) (by kernel_rfl) (fun _ _ _ h => h) (Or.inl ⟨by rfl, fun w hw => ?_⟩) (by assumption) ?_
  · have e0 := kept hw q0; have e1 := kept hw q1
    go_simp
    first | done | with_reducible rfl
  simp only [Act.put, List.getElem_toArray, List.getElem_cons_succ, List.getElem_cons_zero, List.setIfInBounds_toArray, List.set_cons_zero, List.set_cons_succ]
  refine wpAnyH_take (i := 2) (v := .agg #[.int .i64 d2, .slice A2 es2.length c2]) rfl (by kernel_rfl) (by kernel_rfl) (by kernel_rfl) (fun _ _ _ h => h) (Or.inl ⟨by rfl, fun w hw => ?_⟩) (by assumption) ?_
  · have e0 := kept hw p0; have e1 := kept hw p1
    go_simp
    first | done | with_reducible rfl
  simp only [Act.put, List.getElem_toArray, List.getElem_cons_succ, List.getElem_cons_zero, List.setIfInBounds_toArray, List.set_cons_zero, List.set_cons_succ]
  have HQ := hide ((Below.refl w2.heap.size w2).drew)
  generalize w2.drew = wd at *
  refine wpAnyH_ready (rs := [1, 4]) (by kernel_rfl) (by simp) ?_
  refine (AllReadyH.cons rfl (fun K0 hK0 => ?_) (AllReadyH.cons rfl (fun K0 hK0 => ?_) AllReadyH.nil))
  · go_simp
    refine (HC1.out _ HQ.out).mono ?_
    rintro e wa0 ⟨Ax, cx, rfl, ho1, hb0⟩
    have O1 := hide (ownsRow_base (base' := w2.heap.size) ho1 HQ.out.size)
    replace HQ := hide (HQ.out.trans (hb0.mono HQ.out.size))
    refine hK0.out _ _ HQ.out (fun _ => ?_)
    clear hK0 K0 ho1 hb0
    (try simp only [Act.put, List.getElem_toArray, List.getElem_cons_succ, List.getElem_cons_zero, List.setIfInBounds_toArray, List.set_cons_zero, List.set_cons_succ])
    refine wpAnyH_ready (rs := [3, 4]) (by kernel_rfl) (by simp) ?_
    refine (AllReadyH.cons rfl (fun K1 hK1 => ?_) (AllReadyH.cons rfl (fun K1 hK1 => ?_) AllReadyH.nil))
    · go_simp
      refine (HC2.out _ HQ.out).mono ?_
      rintro e wa1 ⟨Ay, cy, rfl, ho2, hb1⟩
      replace O1 := hide (own_keepB O1.out hb1)
      have O2 := hide (ownsRow_base (base' := w2.heap.size) ho2 HQ.out.size)
      replace HQ := hide (HQ.out.trans (hb1.mono HQ.out.size))
      refine hK1.out _ _ HQ.out (fun _ => ?_)
      clear hK1 K1 ho2 hb1
      (try simp only [Act.put, List.getElem_toArray, List.getElem_cons_succ, List.getElem_cons_zero, List.setIfInBounds_toArray, List.set_cons_zero, List.set_cons_succ])
      refine wpAnyH_ready (rs := [4]) (by kernel_rfl) (by simp) ?_
      refine (AllReadyH.cons rfl (fun K2 hK2 => ?_) AllReadyH.nil)
      · go_simp
        refine hK2.out _ _ (HQ.out.alloc HQ.out.size _) (fun _ => ?_)
        clear hK2 K2
        have hb2 : Below wa1.heap.size wa1 (wa1.alloc (.cells #[.slice none 0 0] 28)) := (Below.refl _ _).alloc (Nat.le_refl _) _
        replace O1 := hide (own_keepB O1.out hb2)
        replace O2 := hide (own_keepB O2.out hb2)
        have RB := hide (RowAt.new wa1 28 #[.slice none 0 0])
        have GB := hide HQ.out.size
        skip
        skip
        replace HQ := hide (HQ.out.alloc HQ.out.size (.cells #[.slice none 0 0] 28))
        clear hb2
        (try simp only [Act.put, List.getElem_toArray, List.getElem_cons_succ, List.getElem_cons_zero, List.setIfInBounds_toArray, List.set_cons_zero, List.set_cons_succ])
        generalize hgg2 : wa1.heap.size = g6 at *
        clear hgg2
        generalize wa1.alloc (.cells #[.slice none 0 0] 28) = wa2 at *
        refine wpAnyH_take (i := 5) (v := .slice Ax xs.length cx) rfl (by kernel_rfl) (by kernel_rfl) (by kernel_rfl) (fun _ _ _ h => h) (Or.inl ⟨by rfl, fun w hw => ?_⟩) (by assumption) ?_
        · go_simp
          first | done | with_reducible rfl
        simp only [Act.put, List.getElem_toArray, List.getElem_cons_succ, List.getElem_cons_zero, List.setIfInBounds_toArray, List.set_cons_zero, List.set_cons_succ]
        refine wpAnyH_ready (rs := [6]) (by kernel_rfl) (by simp) ?_
        refine AllReadyH.cons rfl (fun K hK => ?_) AllReadyH.nil
        have lB := RB.out.lt
        have zB := row1 RB.out
        have fB := RB.out.frozen 0
        go_simp
        refine hK.out _ _ (HQ.out.setCell (p := ⟨g6, 0, none⟩) GB.out _) (fun _ => ?_)
        clear hK K lB zB fB
        replace O1 := hide (own_setBox O1.out RB.out (by decide) 0 (.slice Ay ys.length cy))
        replace O2 := hide (own_setBox O2.out RB.out (by decide) 0 (.slice Ay ys.length cy))
        replace HQ := hide (HQ.out.setCell (p := ⟨g6, 0, none⟩) GB.out (.slice Ay ys.length cy))
        replace RB := hide (show RowAt (wa2.setCell ⟨g6, 0, none⟩ (.slice Ay ys.length cy)) g6 28 #[.slice Ay ys.length cy] from RB.out.set 0 (.slice Ay ys.length cy))
        generalize (wa2.setCell ⟨g6, 0, none⟩ (.slice Ay ys.length cy)) = w9 at *
        (try simp only [Act.put, List.getElem_toArray, List.getElem_cons_succ, List.getElem_cons_zero, List.setIfInBounds_toArray, List.set_cons_zero, List.set_cons_succ])
        refine wpAnyH_done (by kernel_rfl) ?_ _
        skip
        have HB9 := hide (HB.out.trans (HQ.out.mono HB.out.size))
        have p0 := row1 RB.out
        have pl := RB.out.lt
        clear HQ
        obtain ⟨n1, hn1⟩ : ∃ n, xs.length = n := ⟨_, rfl⟩
        obtain ⟨n2, hn2⟩ : ∃ n, ys.length = n := ⟨_, rfl⟩
        have HN1 := hide hn1
        have HN2 := hide hn2
        rw [hn2] at p0
        rw [hn1, hn2]
        clear hn1 hn2
        by_cases hx0 : 0 < n1
        case neg =>
          obtain rfl : n1 = 0 := by omega
          have HF := hide (show false = r from by rw [← HRR.out]; unfold finerX; rw [HN1.out]; rfl)
          go_wp2_with fail
          go_ret
          exact ⟨ret_bool (by rw [← HF.out]), HB9.out⟩
        case pos =>
          have hx0b : (0 : Int) < (n1 : Int) := by omega
          by_cases hy0 : 0 < n2
          case neg =>
            obtain rfl : n2 = 0 := by omega
            have HF := hide (show false = r from by rw [← HRR.out]; unfold finerX; rw [HN2.out]; simp)
            go_wp2_with fail
            go_ret
            exact ⟨ret_bool (by rw [← HF.out]), HB9.out⟩
          case pos =>
            have hy0b : (0 : Int) < (n2 : Int) := by omega
            have HAL := hide (allR_any w9.heap.size Ax cx 42 #[.pointer (some ⟨g6, 0, none⟩)] (enters_of Try.func42 (by kernel_rfl) rfl) (fun s => ys.any (inB s)) Sane xs w9 (Rd.of_own O1.out) (by rw [← HXS.out]; exact span_len d1 es1) (Nat.le_refl _) (fun x hx => sane_span d1 es1 x (by rw [HXS.out]; exact hx))
              (within_any g6 w9.heap.size Ay cy ys w9 RB.out (Rd.of_own O2.out) (Nat.le_refl _) (by rw [← HYS.out]; exact span_len d2 es2) (fun x hx => sane_span d2 es2 x (by rw [HYS.out]; exact hx))) r (by
              rw [← HRR.out]; unfold finerX
              rw [HN1.out, HN2.out, decide_eq_true hx0, decide_eq_true hy0]; rfl))
            rw [HN1.out] at HAL
            go_wp2_with fail
            with_reducible refine HAL.out.mono ?_
            rintro e w10 ⟨rfl, hb10⟩
            have HB10 := hide (HB9.out.trans (hb10.mono HB9.out.size))
            clear hb10
            go_wp2_with fail
            go_ret
            exact ⟨rfl, HB10.out⟩
    · go_simp
      refine hK1.out _ _ (HQ.out.alloc HQ.out.size _) (fun _ => ?_)
      clear hK1 K1
      have hb1 : Below wa0.heap.size wa0 (wa0.alloc (.cells #[.slice none 0 0] 28)) := (Below.refl _ _).alloc (Nat.le_refl _) _
      replace O1 := hide (own_keepB O1.out hb1)
      have RB := hide (RowAt.new wa0 28 #[.slice none 0 0])
      have GB := hide HQ.out.size
      skip
      replace HQ := hide (HQ.out.alloc HQ.out.size (.cells #[.slice none 0 0] 28))
      clear hb1
      (try simp only [Act.put, List.getElem_toArray, List.getElem_cons_succ, List.getElem_cons_zero, List.setIfInBounds_toArray, List.set_cons_zero, List.set_cons_succ])
      generalize hgg1 : wa0.heap.size = g6 at *
      clear hgg1
      generalize wa0.alloc (.cells #[.slice none 0 0] 28) = wa1 at *
      refine wpAnyH_ready (rs := [3]) (by kernel_rfl) (by simp) ?_
      refine (AllReadyH.cons rfl (fun K2 hK2 => ?_) AllReadyH.nil)
      · go_simp
        refine (HC2.out _ HQ.out).mono ?_
        rintro e wa2 ⟨Ay, cy, rfl, ho2, hb2⟩
        replace O1 := hide (own_keepB O1.out hb2)
        replace RB := hide (RB.out.below hb2)
        have O2 := hide (ownsRow_base (base' := w2.heap.size) ho2 HQ.out.size)
        replace HQ := hide (HQ.out.trans (hb2.mono HQ.out.size))
        refine hK2.out _ _ HQ.out (fun _ => ?_)
        clear hK2 K2 ho2 hb2
        (try simp only [Act.put, List.getElem_toArray, List.getElem_cons_succ, List.getElem_cons_zero, List.setIfInBounds_toArray, List.set_cons_zero, List.set_cons_succ])
        refine wpAnyH_take (i := 5) (v := .slice Ax xs.length cx) rfl (by kernel_rfl) (by kernel_rfl) (by kernel_rfl) (fun _ _ _ h => h) (Or.inl ⟨by rfl, fun w hw => ?_⟩) (by assumption) ?_
        · go_simp
          first | done | with_reducible rfl
        simp only [Act.put, List.getElem_toArray, List.getElem_cons_succ, List.getElem_cons_zero, List.setIfInBounds_toArray, List.set_cons_zero, List.set_cons_succ]
        refine wpAnyH_ready (rs := [6]) (by kernel_rfl) (by simp) ?_
        refine AllReadyH.cons rfl (fun K hK => ?_) AllReadyH.nil
        have lB := RB.out.lt
        have zB := row1 RB.out
        have fB := RB.out.frozen 0
        go_simp
        refine hK.out _ _ (HQ.out.setCell (p := ⟨g6, 0, none⟩) GB.out _) (fun _ => ?_)
        clear hK K lB zB fB
        replace O1 := hide (own_setBox O1.out RB.out (by decide) 0 (.slice Ay ys.length cy))
        replace O2 := hide (own_setBox O2.out RB.out (by decide) 0 (.slice Ay ys.length cy))
        replace HQ := hide (HQ.out.setCell (p := ⟨g6, 0, none⟩) GB.out (.slice Ay ys.length cy))
        replace RB := hide (show RowAt (wa2.setCell ⟨g6, 0, none⟩ (.slice Ay ys.length cy)) g6 28 #[.slice Ay ys.length cy] from RB.out.set 0 (.slice Ay ys.length cy))
        generalize (wa2.setCell ⟨g6, 0, none⟩ (.slice Ay ys.length cy)) = w9 at *
        (try simp only [Act.put, List.getElem_toArray, List.getElem_cons_succ, List.getElem_cons_zero, List.setIfInBounds_toArray, List.set_cons_zero, List.set_cons_succ])
        refine wpAnyH_done (by kernel_rfl) ?_ _
        skip
        have HB9 := hide (HB.out.trans (HQ.out.mono HB.out.size))
        have p0 := row1 RB.out
        have pl := RB.out.lt
        clear HQ
        obtain ⟨n1, hn1⟩ : ∃ n, xs.length = n := ⟨_, rfl⟩
        obtain ⟨n2, hn2⟩ : ∃ n, ys.length = n := ⟨_, rfl⟩
        have HN1 := hide hn1
        have HN2 := hide hn2
        rw [hn2] at p0
        rw [hn1, hn2]
        clear hn1 hn2
        by_cases hx0 : 0 < n1
        case neg =>
          obtain rfl : n1 = 0 := by omega
          have HF := hide (show false = r from by rw [← HRR.out]; unfold finerX; rw [HN1.out]; rfl)
          go_wp2_with fail
          go_ret
          exact ⟨ret_bool (by rw [← HF.out]), HB9.out⟩
        case pos =>
          have hx0b : (0 : Int) < (n1 : Int) := by omega
          by_cases hy0 : 0 < n2
          case neg =>
            obtain rfl : n2 = 0 := by omega
            have HF := hide (show false = r from by rw [← HRR.out]; unfold finerX; rw [HN2.out]; simp)
            go_wp2_with fail
            go_ret
            exact ⟨ret_bool (by rw [← HF.out]), HB9.out⟩
          case pos =>
            have hy0b : (0 : Int) < (n2 : Int) := by omega
            have HAL := hide (allR_any w9.heap.size Ax cx 42 #[.pointer (some ⟨g6, 0, none⟩)] (enters_of Try.func42 (by kernel_rfl) rfl) (fun s => ys.any (inB s)) Sane xs w9 (Rd.of_own O1.out) (by rw [← HXS.out]; exact span_len d1 es1) (Nat.le_refl _) (fun x hx => sane_span d1 es1 x (by rw [HXS.out]; exact hx))
              (within_any g6 w9.heap.size Ay cy ys w9 RB.out (Rd.of_own O2.out) (Nat.le_refl _) (by rw [← HYS.out]; exact span_len d2 es2) (fun x hx => sane_span d2 es2 x (by rw [HYS.out]; exact hx))) r (by
              rw [← HRR.out]; unfold finerX
              rw [HN1.out, HN2.out, decide_eq_true hx0, decide_eq_true hy0]; rfl))
            rw [HN1.out] at HAL
            go_wp2_with fail
            with_reducible refine HAL.out.mono ?_
            rintro e w10 ⟨rfl, hb10⟩
            have HB10 := hide (HB9.out.trans (hb10.mono HB9.out.size))
            clear hb10
            go_wp2_with fail
            go_ret
            exact ⟨rfl, HB10.out⟩
  · go_simp
    refine hK0.out _ _ (HQ.out.alloc HQ.out.size _) (fun _ => ?_)
    clear hK0 K0
    have hb0 : Below wd.heap.size wd (wd.alloc (.cells #[.slice none 0 0] 28)) := (Below.refl _ _).alloc (Nat.le_refl _) _
    have RB := hide (RowAt.new wd 28 #[.slice none 0 0])
    have GB := hide HQ.out.size
    replace HQ := hide (HQ.out.alloc HQ.out.size (.cells #[.slice none 0 0] 28))
    clear hb0
    (try simp only [Act.put, List.getElem_toArray, List.getElem_cons_succ, List.getElem_cons_zero, List.setIfInBounds_toArray, List.set_cons_zero, List.set_cons_succ])
    generalize hgg0 : wd.heap.size = g6 at *
    clear hgg0
    generalize wd.alloc (.cells #[.slice none 0 0] 28) = wa0 at *
    refine wpAnyH_ready (rs := [1]) (by kernel_rfl) (by simp) ?_
    refine (AllReadyH.cons rfl (fun K1 hK1 => ?_) AllReadyH.nil)
    · go_simp
      refine (HC1.out _ HQ.out).mono ?_
      rintro e wa1 ⟨Ax, cx, rfl, ho1, hb1⟩
      replace RB := hide (RB.out.below hb1)
      have O1 := hide (ownsRow_base (base' := w2.heap.size) ho1 HQ.out.size)
      replace HQ := hide (HQ.out.trans (hb1.mono HQ.out.size))
      refine hK1.out _ _ HQ.out (fun _ => ?_)
      clear hK1 K1 ho1 hb1
      (try simp only [Act.put, List.getElem_toArray, List.getElem_cons_succ, List.getElem_cons_zero, List.setIfInBounds_toArray, List.set_cons_zero, List.set_cons_succ])
      refine wpAnyH_ready (rs := [3]) (by kernel_rfl) (by simp) ?_
      refine (AllReadyH.cons rfl (fun K2 hK2 => ?_) AllReadyH.nil)
      · go_simp
        refine (HC2.out _ HQ.out).mono ?_
        rintro e wa2 ⟨Ay, cy, rfl, ho2, hb2⟩
        replace O1 := hide (own_keepB O1.out hb2)
        replace RB := hide (RB.out.below hb2)
        have O2 := hide (ownsRow_base (base' := w2.heap.size) ho2 HQ.out.size)
        replace HQ := hide (HQ.out.trans (hb2.mono HQ.out.size))
        refine hK2.out _ _ HQ.out (fun _ => ?_)
        clear hK2 K2 ho2 hb2
        (try simp only [Act.put, List.getElem_toArray, List.getElem_cons_succ, List.getElem_cons_zero, List.setIfInBounds_toArray, List.set_cons_zero, List.set_cons_succ])
        refine wpAnyH_take (i := 5) (v := .slice Ax xs.length cx) rfl (by kernel_rfl) (by kernel_rfl) (by kernel_rfl) (fun _ _ _ h => h) (Or.inl ⟨by rfl, fun w hw => ?_⟩) (by assumption) ?_
        · go_simp
          first | done | with_reducible rfl
        simp only [Act.put, List.getElem_toArray, List.getElem_cons_succ, List.getElem_cons_zero, List.setIfInBounds_toArray, List.set_cons_zero, List.set_cons_succ]
        refine wpAnyH_ready (rs := [6]) (by kernel_rfl) (by simp) ?_
        refine AllReadyH.cons rfl (fun K hK => ?_) AllReadyH.nil
        have lB := RB.out.lt
        have zB := row1 RB.out
        have fB := RB.out.frozen 0
        go_simp
        refine hK.out _ _ (HQ.out.setCell (p := ⟨g6, 0, none⟩) GB.out _) (fun _ => ?_)
        clear hK K lB zB fB
        replace O1 := hide (own_setBox O1.out RB.out (by decide) 0 (.slice Ay ys.length cy))
        replace O2 := hide (own_setBox O2.out RB.out (by decide) 0 (.slice Ay ys.length cy))
        replace HQ := hide (HQ.out.setCell (p := ⟨g6, 0, none⟩) GB.out (.slice Ay ys.length cy))
        replace RB := hide (show RowAt (wa2.setCell ⟨g6, 0, none⟩ (.slice Ay ys.length cy)) g6 28 #[.slice Ay ys.length cy] from RB.out.set 0 (.slice Ay ys.length cy))
        generalize (wa2.setCell ⟨g6, 0, none⟩ (.slice Ay ys.length cy)) = w9 at *
        (try simp only [Act.put, List.getElem_toArray, List.getElem_cons_succ, List.getElem_cons_zero, List.setIfInBounds_toArray, List.set_cons_zero, List.set_cons_succ])
        refine wpAnyH_done (by kernel_rfl) ?_ _
        skip
        have HB9 := hide (HB.out.trans (HQ.out.mono HB.out.size))
        have p0 := row1 RB.out
        have pl := RB.out.lt
        clear HQ
        obtain ⟨n1, hn1⟩ : ∃ n, xs.length = n := ⟨_, rfl⟩
        obtain ⟨n2, hn2⟩ : ∃ n, ys.length = n := ⟨_, rfl⟩
        have HN1 := hide hn1
        have HN2 := hide hn2
        rw [hn2] at p0
        rw [hn1, hn2]
        clear hn1 hn2
        by_cases hx0 : 0 < n1
        case neg =>
          obtain rfl : n1 = 0 := by omega
          have HF := hide (show false = r from by rw [← HRR.out]; unfold finerX; rw [HN1.out]; rfl)
          go_wp2_with fail
          go_ret
          exact ⟨ret_bool (by rw [← HF.out]), HB9.out⟩
        case pos =>
          have hx0b : (0 : Int) < (n1 : Int) := by omega
          by_cases hy0 : 0 < n2
          case neg =>
            obtain rfl : n2 = 0 := by omega
            have HF := hide (show false = r from by rw [← HRR.out]; unfold finerX; rw [HN2.out]; simp)
            go_wp2_with fail
            go_ret
            exact ⟨ret_bool (by rw [← HF.out]), HB9.out⟩
          case pos =>
            have hy0b : (0 : Int) < (n2 : Int) := by omega
            have HAL := hide (allR_any w9.heap.size Ax cx 42 #[.pointer (some ⟨g6, 0, none⟩)] (enters_of Try.func42 (by kernel_rfl) rfl) (fun s => ys.any (inB s)) Sane xs w9 (Rd.of_own O1.out) (by rw [← HXS.out]; exact span_len d1 es1) (Nat.le_refl _) (fun x hx => sane_span d1 es1 x (by rw [HXS.out]; exact hx))
              (within_any g6 w9.heap.size Ay cy ys w9 RB.out (Rd.of_own O2.out) (Nat.le_refl _) (by rw [← HYS.out]; exact span_len d2 es2) (fun x hx => sane_span d2 es2 x (by rw [HYS.out]; exact hx))) r (by
              rw [← HRR.out]; unfold finerX
              rw [HN1.out, HN2.out, decide_eq_true hx0, decide_eq_true hy0]; rfl))
            rw [HN1.out] at HAL
            go_wp2_with fail
            with_reducible refine HAL.out.mono ?_
            rintro e w10 ⟨rfl, hb10⟩
            have HB10 := hide (HB9.out.trans (hb10.mono HB9.out.size))
            clear hb10
            go_wp2_with fail
            go_ret
            exact ⟨rfl, HB10.out⟩
end Go.Proofs.Ytjlbnegdiabglaa

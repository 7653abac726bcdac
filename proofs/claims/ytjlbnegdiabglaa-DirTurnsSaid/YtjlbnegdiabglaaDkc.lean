/-
  The reference's Right, Of and Finer.
-/
import Derived.Test.YtjlbnegdiabglaaDkb
import Derived.Test.YtjlbnegdiabglaaDia2
import Derived.Test.YtjlbnegdiabglaaDjr
set_option linter.unusedSimpArgs false
set_option linter.unusedVariables false
namespace Go.Proofs.Ytjlbnegdiabglaa
open Go Go.RowKit
attribute [local go_sem] via_cell via_frozen

/-- The reference's word: to which span a hash goes. -/
def ofR (h : Int) (xs : List Rc) : Option Rc := xs.find? (fun x => decide (topZ h x.dep = x.pre))
theorem ofR_runs {dep h : Int} {es : List En} (hm : mayB dep es = true) (hh : U64 h) : ∀ (f k : Nat) (pre : List Rn), es.length - k ≤ f → runs es = pre ++ runsAt k (es.drop k) → (k : Int) ≤ topZ h dep →
    ((runsAt k (es.drop k)).map (rc dep)).find? (fun x => decide (topZ h x.dep = x.pre)) = ((runsAt k (es.drop k)).map (rc dep)).find? (fun x => decide (topZ h dep < x.at_ + x.many))
  | 0, k, pre, hf, hr, ht => by
    rw [List.drop_eq_nil_of_le (by omega), runsAt_nil]; rfl
  | f + 1, k, pre, hf, hr, ht => by
    rcases Nat.lt_or_ge k es.length with hk | hk
    · have hsp : runsAt k (es.drop k) = ⟨k, lenAt es k, es.getD k (0, 0)⟩ :: runsAt (k + lenAt es k) (es.drop (k + lenAt es k)) := runsAt_drop es hk
      have hgo := goes_iff hm hh (r := ⟨k, lenAt es k, es.getD k (0, 0)⟩) (by rw [hr, hsp]; simp)
      have h1 : 1 ≤ lenAt es k := by unfold lenAt; omega
      have ih := ofR_runs hm hh f (k + lenAt es k) (pre ++ [⟨k, lenAt es k, es.getD k (0, 0)⟩]) (by omega) (by rw [hr, hsp]; simp)
      rw [hsp, List.map_cons]
      by_cases hlt : topZ h dep < (k : Int) + (lenAt es k : Nat)
      · rw [List.find?_cons_of_pos (by simpa using hgo.2 ⟨ht, hlt⟩), List.find?_cons_of_pos (by simpa [rc] using hlt)]
      · rw [List.find?_cons_of_neg (by simpa using fun h2 => hlt (hgo.1 h2).2), List.find?_cons_of_neg (by simpa [rc] using hlt)]
        exact ih (by push_cast; omega)
    · rw [List.drop_eq_nil_of_le hk, runsAt_nil]; rfl
theorem ofR_is {dep h : Int} {es : List En} (hm : mayB dep es = true) (hh : U64 h) : ofR h (spansX dep es) = ofX dep h es := by
  obtain ⟨hd0, hd5, hl32, hl1, -, hlen⟩ := may_shape hm
  have ht := topZ_dep hh hd0 hd5
  have h1 := ofR_runs hm hh es.length 0 [] (by omega) (by rw [List.drop_zero]; rfl) ht.1
  rw [List.drop_zero] at h1
  unfold ofR ofX spansX
  rw [if_pos hm, if_pos hm]
  exact h1

theorem span_dep {dep : Int} {es : List En} {x : Rc} (h : x ∈ spansX dep es) : 0 ≤ x.dep ∧ x.dep ≤ 5 ∧ 0 ≤ x.pre ∧ x.pre < 4096 := by
  have hs := sane_span dep es x h
  obtain ⟨_, _, h3, h4⟩ := hs
  unfold spansX at h
  by_cases hm : mayB dep es = true
  · rw [if_pos hm] at h
    obtain ⟨r, hr, rfl⟩ := List.mem_map.1 h
    obtain ⟨hd0, hd5, _⟩ := may_shape hm
    have h1 := (log_run hm hr).1
    refine ⟨?_, ?_, h3, h4⟩
    · show 0 ≤ dep - (Nat.log2 r.many : Nat); omega
    · show dep - (Nat.log2 r.many : Nat) ≤ 5; omega
  · rw [if_neg hm] at h; cases h
theorem find_take {ys : List Rc} {p : Rc → Bool} {j : Nat} (hj : j < ys.length) (h : (ys.take j).find? p = none) (hp : p ys[j] = false) : (ys.take (j + 1)).find? p = none := by
  rw [List.take_succ_eq_append_getElem hj, List.find?_append, h]
  simp [hp]
theorem find_here {ys : List Rc} {p : Rc → Bool} {j : Nat} (hj : j < ys.length) (h : (ys.take j).find? p = none) (hp : p ys[j] = true) : ys.find? p = some ys[j] := by
  have e : ys.find? p = (ys.take j ++ ys[j] :: ys.drop (j + 1)).find? p := by rw [← List.drop_eq_getElem_cons hj, List.take_append_drop]
  rw [e, List.find?_append, h, List.find?_cons_of_pos hp]
  rfl
set_option maxHeartbeats 1000000 in
theorem RRight_any (B : Nat) (A : Option Addr) (c : Nat) (dep : Int) (es : List En) (W : World) (h : DirAt W B A c es) (hB : B ≤ W.heap.size) (hl : es.length ≤ 4096) (o : Bool) (ho : mayB dep es = o) :
    Calls Try.prog 27 #[.agg #[.int .i64 dep, .slice A es.length c]] W fun e W' => e = .returned (.bool o) ∧ Below W.heap.size W W' := by
  have hba := (Below.refl _ W).alloc (Nat.le_refl _) (.cells #[.int .i64 dep, .slice A es.length c] 24)
  have R1 := hide (RowAt.new W 24 #[.int .i64 dep, .slice A es.length c])
  have HC := hide (RSpans_any B A c dep es _ (h.below (hba.mono hB)) (Nat.le_trans hB hba.size) hl o _ ho rfl)
  have HB := hide hba
  clear h hba
  go_enter Try.func27, Try.ntmps27
  go_upto_region 1 with (fail)
  generalize W.alloc (.cells #[.int .i64 dep, .slice A es.length c] 24) = w1 at *
  have q0 := row20 R1.out
  have q1 := row21 R1.out
  have ql := R1.out.lt
  go_wp2_with fail
  with_reducible refine HC.out.mono ?_
  rintro e w2 ⟨A', c', rfl, _, hb⟩
  have HB2 := hide (HB.out.trans (hb.mono HB.out.size))
  clear hb
  go_wp2_with fail
  go_ret
  exact ⟨rfl, HB2.out⟩
set_option maxRecDepth 100000 in
set_option maxHeartbeats 4000000 in
theorem ROf_any (B : Nat) (A : Option Addr) (c : Nat) (dep h : Int) (es : List En) (W : World) (hd : DirAt W B A c es) (hB : B ≤ W.heap.size) (hl : es.length ≤ 4096) (hh : U64 h) (hm : mayB dep es = true) (x : Rc) (hx : ofX dep h es = some x) :
    Calls Try.prog 17 #[.agg #[.int .i64 dep, .slice A es.length c], .int .u64 h] W fun e W' => e = .returned (.agg (rC x)) ∧ Below W.heap.size W W' := by
  obtain ⟨w1, hw1⟩ : ∃ w1, W.alloc (.cells #[.int .i64 dep, .slice A es.length c] 24) = w1 := ⟨_, rfl⟩
  have s1 : w1.heap.size = W.heap.size + 1 := by rw [← hw1]; simp
  have b1 : Below W.heap.size W w1 := by rw [← hw1]; exact (Below.refl _ _).alloc (Nat.le_refl _) _
  have b2 : Below w1.heap.size w1 (w1.alloc (.cells zR 33)) := (Below.refl _ _).alloc (Nat.le_refl _) _
  have R1 := hide (show RowAt (w1.alloc (.cells zR 33)) W.heap.size 24 #[.int .i64 dep, .slice A es.length c] from by have h := RowAt.new W 24 #[.int .i64 dep, .slice A es.length c]; rw [hw1] at h; exact h.below b2)
  have R2 := hide (show RowAt (w1.alloc (.cells zR 33)) (W.heap.size + 1) 33 zR from by have h := RowAt.new w1 33 zR; rw [s1] at h; exact h)
  have HB := hide (b1.trans (b2.mono b1.size))
  obtain ⟨ys, hys⟩ : ∃ ys, spansX dep es = ys := ⟨_, rfl⟩
  have HC := hide (RSpans_any B A c dep es _ (hd.below (HB.out.mono hB)) (Nat.le_trans hB HB.out.size) hl true ys hm hys)
  have HX := hide (show ys.find? (fun x => decide (topZ h x.dep = x.pre)) = some x from by
    have h1 := ofR_is hm hh
    rw [hys, hx] at h1
    exact h1)
  have HDEP := hide (show ∀ y ∈ ys, 0 ≤ y.dep ∧ y.dep ≤ 5 ∧ 0 ≤ y.pre ∧ y.pre < 4096 from fun y hy => span_dep (dep := dep) (es := es) (by rw [hys]; exact hy))
  have HL := hide (show ys.length ≤ 4096 from by rw [← hys]; exact span_len dep es)
  have HH := hide hh
  clear s1 b1 b2 hx hys hm hd hh
  subst hw1
  go_enter Try.func17, Try.ntmps17
  go_upto_region 1 with (fail)
  generalize (W.alloc (.cells #[.int .i64 dep, .slice A es.length c] 24)).alloc (.cells zR 33) = w2 at *
  have q0 := row20 R1.out
  have q1 := row21 R1.out
  have ql := R1.out.lt
  go_wp2_with fail
  with_reducible refine HC.out.mono ?_
  rintro e w3 ⟨A', c', rfl, hown, hb⟩
  have HO := hide hown
  have R2 := hide (R2.out.below hb)
  have HB3 := hide (HB.out.trans (hb.mono HB.out.size))
  have HSZ := hide hb.size
  clear hb hown q0 q1 ql HC R1
  obtain ⟨n, hn⟩ : ∃ n, ys.length = n := ⟨_, rfl⟩
  have HN := hide hn
  rw [hn] at HO
  have hn4 : n ≤ 4096 := by rw [← hn]; exact HL.out
  rw [hn]
  clear hn
  dsimp only
  go_wp2_with fail
  go_loopw [16] (fun iv wr => ∃ j : Nat, j ≤ n ∧ iv = .int .i64 j ∧ (ys.take j).find? (fun x => decide (topZ h x.dep = x.pre)) = none ∧ Below w3.heap.size w3 wr) (fun iv _ => n - (intOf iv).toNat)
  case atStart => exact ⟨0, Nat.zero_le _, rfl, rfl, Below.refl _ _⟩
  case round =>
    obtain ⟨j, hj, rfl, hall, hb⟩ := hrel
    have HALL := hide hall
    have HB4 := hide hb
    clear hall hb
    by_cases hlt : j < n
    · have hjx : j < ys.length := by rw [HN.out]; exact hlt
      have hrd := (Rd.of_own HO.out).below HB4.out
      rw [← HN.out] at hrd
      obtain ⟨b, off, hA, hbl, hc⟩ := hrd.elem encR_len hjx
      subst hA
      obtain ⟨y, hy⟩ : ∃ y, ys[j] = y := ⟨_, rfl⟩
      have HY := hide hy
      obtain ⟨hd0, hd5, hp0, hp1⟩ := HDEP.out y (by rw [← hy]; exact List.getElem_mem hjx)
      rw [hy] at hc
      have HTOP := hide (fun w => RTop_any h y.dep w HH.out.1 HH.out.2 hd0 (by omega))
      obtain ⟨t, ht⟩ : ∃ t, topZ h y.dep = t := ⟨_, rfl⟩
      rw [ht] at HTOP
      have HTT := hide ht
      have HEL := hide (show rC y = rC y from rfl)
      obtain ⟨e, D, P, a, m⟩ := y
      dsimp only at hd0 hd5 hp0 hp1 HTOP
      have z0 := hc 0 _ (by omega) rfl
      have z1 := hc 1 _ (by omega) rfl
      have z2 := hc 2 _ (by omega) rfl
      have z3 := hc 3 _ (by omega) rfl
      have z4 := hc 4 _ (by omega) rfl
      have z5 := hc 5 _ (by omega) rfl
      simp only [Nat.add_zero] at z0
      dsimp only at z1 z2 z3 z4 z5
      have hbX : b < wr.heap.size := Nat.lt_of_lt_of_le hbl HB4.out.size
      have hjI : (j : Int) < (n : Int) := by omega
      have hba := (Below.refl _ wr).alloc (Nat.le_refl _) (.cells #[.int .i64 e.1, .int .u64 e.2, .int .i64 D, .int .u64 P, .int .i64 a, .int .i64 m] 33)
      have R8 := hide (RowAt.new wr 33 #[.int .i64 e.1, .int .u64 e.2, .int .i64 D, .int .u64 P, .int .i64 a, .int .i64 m])
      have R4 := hide ((R2.out.below HB4.out).below hba)
      have HB5 := hide (HB4.out.trans (hba.mono HB4.out.size))
      have HBr := hide (HB3.out.trans (HB5.out.mono HB3.out.size))
      clear hc hy hba hbl ht hrd
      go_upto_region 5 with (fail)
      clear z0 z1 z2 z3 z4 z5
      generalize hg8 : wr.heap.size = g8 at *
      clear hg8
      generalize wr.alloc (.cells #[.int .i64 e.1, .int .u64 e.2, .int .i64 D, .int .u64 P, .int .i64 a, .int .i64 m] 33) = w4 at *
      obtain ⟨u0, u1, u2, u3, u4, u5⟩ := row6 R8.out
      have ul := R8.out.lt
      go_quiet ((go_at_call 46; exact quiet_same (HTOP.out _)))
      have HB6 := hide (below_drewN HB5.out nq)
      have HBs := hide (below_drewN HBr.out nq)
      replace R4 := hide (R4.out.drewN nq)
      replace R8 := hide (R8.out.drewN nq)
      clear u0 u1 u2 u3 u4 u5 ul
      generalize w4.drewN nq = w5 at *
      by_cases htp : t = P
      · have hd : (t == P) = true := by simpa using htp
        have hfound := find_here hjx HALL.out (by rw [HY.out]; exact decide_eq_true (by show topZ h D = P; rw [HTT.out]; exact htp))
        rw [HX.out, HY.out] at hfound
        obtain rfl : x = ⟨e, D, P, a, m⟩ := Option.some.inj hfound
        clear hfound htp
        obtain ⟨u0, u1, u2, u3, u4, u5⟩ := row6 R8.out
        have ul := R8.out.lt
        obtain ⟨x0, x1, x2, x3, x4, x5⟩ := row6 R4.out
        have xl := R4.out.lt
        have xf : ∀ i, w5.frozen? ⟨W.heap.size + 1, i, none⟩ = false := fun i => R4.out.frozen i
        have hr9 := setR_row (y := ⟨(0, 0), 0, 0, 0, 0⟩) ⟨e, D, P, a, m⟩ R4.out
        have hb9 := HBs.out.trans (setR_below w5 (W.heap.size + 1) W.heap.size ⟨e, D, P, a, m⟩ (by omega))
        unfold setR at hr9 hb9
        dsimp only [rC] at hr9 hb9
        have HR9 := hide hr9
        have HB9 := hide hb9
        clear hr9 hb9
        go_wp2_with fail
        obtain ⟨c0, c1, c2, c3, c4, c5⟩ := row6 HR9.out
        have l9 := HR9.out.lt
        have hb9 := HB9.out
        clear HR9 HB9 x0 x1 x2 x3 x4 x5 xl xf u0 u1 u2 u3 u4 u5 ul
        generalize (((((w5.setCell ⟨W.heap.size + 1, 0, none⟩ (.int .i64 e.1)).setCell ⟨W.heap.size + 1, 1, none⟩ (.int .u64 e.2)).setCell ⟨W.heap.size + 1, 2, none⟩ (.int .i64 D)).setCell ⟨W.heap.size + 1, 3, none⟩ (.int .u64 P)).setCell ⟨W.heap.size + 1, 4, none⟩ (.int .i64 a)).setCell ⟨W.heap.size + 1, 5, none⟩ (.int .i64 m) = w9 at *
        exact bodyPost_ret (v := .agg (rC ⟨e, D, P, a, m⟩)) (by simp [results, Try.results17, go_sem, c0, c1, c2, c3, c4, c5, l9]) rfl ⟨rfl, hb9⟩
      · have hd : (t == P) = false := by simpa using htp
        have HNX := hide (find_take hjx HALL.out (by rw [HY.out]; exact decide_eq_false (by show ¬ topZ h D = P; rw [HTT.out]; exact htp)))
        clear htp
        go_wp2_with fail
        go_roundw
        case rel => exact ⟨j + 1, by omega, by go_num, HNX.out, HB6.out⟩
        case measure => simp [intOf]; omega
    · exfalso
      have h1 := HALL.out
      rw [List.take_of_length_le (by rw [HN.out]; omega), HX.out] at h1
      cases h1
theorem finer_of {d1 d2 : Int} {es1 es2 : List En} : (mayB d1 es1 && mayB d2 es2 && (spansX d1 es1).all fun s => (spansX d2 es2).any (inB s)) = finerX (spansX d1 es1) (spansX d2 es2) := by
  have hpos : ∀ (d : Int) (es : List En), decide (0 < (spansX d es).length) = mayB d es := fun d es => by
    by_cases hm : mayB d es = true
    · have h1 := runs_some (may_shape hm).2.2.2.1
      unfold spansX
      rw [if_pos hm, hm, List.length_map]
      exact decide_eq_true h1
    · unfold spansX
      rw [if_neg hm]
      have : mayB d es = false := by simpa using hm
      rw [this]; rfl
  unfold finerX
  rw [hpos, hpos]
theorem all_take {ys : List Rc} {p : Rc → Bool} {j : Nat} (hj : j < ys.length) (h : (ys.take j).all p = true) (hp : p ys[j] = true) : (ys.take (j + 1)).all p = true := by
  rw [List.take_succ_eq_append_getElem hj, List.all_append, h]
  simp [hp]
theorem all_fail {ys : List Rc} {p : Rc → Bool} {j : Nat} (hj : j < ys.length) (hp : p ys[j] = false) : ys.all p = false := by
  rw [List.all_eq_false]
  exact ⟨_, List.getElem_mem hj, by simp [hp]⟩
theorem any_take {ys : List Rc} {p : Rc → Bool} {j : Nat} (hj : j < ys.length) : (ys.take (j + 1)).any p = ((ys.take j).any p || p ys[j]) := by
  rw [List.take_succ_eq_append_getElem hj, List.any_append]
  simp
/-- The comparison, out of its two halves. -/
theorem inB_is {s t : Rc} {q : Nat} (h : t.dep ≤ s.dep) (hq : s.dep - t.dep = (q : Int)) (hs : 0 ≤ s.pre) : inB s t = (s.pre / ((2 ^ q : Nat) : Int) == t.pre) := by
  have e : (s.dep - t.dep).toNat = q := by omega
  unfold inB
  rw [e, decide_eq_true h, Bool.true_and, Bool.eq_iff_iff]
  simp
set_option maxRecDepth 100000 in
set_option maxHeartbeats 8000000 in
theorem RFiner_any (B1 B2 : Nat) (A1 A2 : Option Addr) (c1 c2 : Nat) (d1 d2 : Int) (es1 es2 : List En) (W : World) (h1 : DirAt W B1 A1 c1 es1) (h2 : DirAt W B2 A2 c2 es2) (hB1 : B1 ≤ W.heap.size) (hB2 : B2 ≤ W.heap.size) (hl1 : es1.length ≤ 4096) (hl2 : es2.length ≤ 4096) (r : Bool) (hr : finerX (spansX d1 es1) (spansX d2 es2) = r) :
    Calls Try.prog 16 #[.agg #[.int .i64 d1, .slice A1 es1.length c1], .agg #[.int .i64 d2, .slice A2 es2.length c2]] W fun e W' => e = .returned (.bool r) ∧ Below W.heap.size W W' := by
  obtain ⟨w1, hw1⟩ : ∃ w1, W.alloc (.cells #[.int .i64 d1, .slice A1 es1.length c1] 24) = w1 := ⟨_, rfl⟩
  have s1 : w1.heap.size = W.heap.size + 1 := by rw [← hw1]; simp
  have b1 : Below W.heap.size W w1 := by rw [← hw1]; exact (Below.refl _ _).alloc (Nat.le_refl _) _
  have b2 : Below w1.heap.size w1 (w1.alloc (.cells #[.int .i64 d2, .slice A2 es2.length c2] 24)) := (Below.refl _ _).alloc (Nat.le_refl _) _
  have R1 := hide (show RowAt (w1.alloc (.cells #[.int .i64 d2, .slice A2 es2.length c2] 24)) W.heap.size 24 #[.int .i64 d1, .slice A1 es1.length c1] from by have h := RowAt.new W 24 #[.int .i64 d1, .slice A1 es1.length c1]; rw [hw1] at h; exact h.below b2)
  have R2 := hide (show RowAt (w1.alloc (.cells #[.int .i64 d2, .slice A2 es2.length c2] 24)) (W.heap.size + 1) 24 #[.int .i64 d2, .slice A2 es2.length c2] from by have h := RowAt.new w1 24 #[.int .i64 d2, .slice A2 es2.length c2]; rw [s1] at h; exact h)
  have HB := hide (b1.trans (b2.mono b1.size))
  obtain ⟨xs, hxs⟩ : ∃ ys, spansX d1 es1 = ys := ⟨_, rfl⟩
  obtain ⟨ys, hys⟩ : ∃ ys, spansX d2 es2 = ys := ⟨_, rfl⟩
  obtain ⟨m1, hm1⟩ : ∃ b, mayB d1 es1 = b := ⟨_, rfl⟩
  obtain ⟨m2, hm2⟩ : ∃ b, mayB d2 es2 = b := ⟨_, rfl⟩
  have HR := hide (show (m1 && m2 && xs.all fun s => ys.any (inB s)) = r from by rw [← hr, ← finer_of, hxs, hys, hm1, hm2])
  have HC1 := hide (fun w (hb : Below W.heap.size W w) => RSpans_any B1 A1 c1 d1 es1 w (h1.below (hb.mono hB1)) (Nat.le_trans hB1 hb.size) hl1 m1 xs hm1 hxs)
  have HC2 := hide (fun w (hb : Below W.heap.size W w) => RSpans_any B2 A2 c2 d2 es2 w (h2.below (hb.mono hB2)) (Nat.le_trans hB2 hb.size) hl2 m2 ys hm2 hys)
  have HD1 := hide (show ∀ y ∈ xs, 0 ≤ y.dep ∧ y.dep ≤ 5 ∧ 0 ≤ y.pre ∧ y.pre < 4096 from fun y hy => span_dep (dep := d1) (es := es1) (by rw [hxs]; exact hy))
  have HD2 := hide (show ∀ y ∈ ys, 0 ≤ y.dep ∧ y.dep ≤ 5 ∧ 0 ≤ y.pre ∧ y.pre < 4096 from fun y hy => span_dep (dep := d2) (es := es2) (by rw [hys]; exact hy))
  have HL1 := hide (show xs.length ≤ 4096 from by rw [← hxs]; exact span_len d1 es1)
  have HL2 := hide (show ys.length ≤ 4096 from by rw [← hys]; exact span_len d2 es2)
  clear s1 b1 b2 hxs hys hm1 hm2 h1 h2 hr
  subst hw1
  go_enter Try.func16, Try.ntmps16
  go_upto_region 1 with (fail)
  generalize (W.alloc (.cells #[.int .i64 d1, .slice A1 es1.length c1] 24)).alloc (.cells #[.int .i64 d2, .slice A2 es2.length c2] 24) = w2 at *
  have q0 := row20 R1.out
  have q1 := row21 R1.out
  have ql := R1.out.lt
  go_wp2_with fail
  with_reducible refine (HC1.out _ HB.out).mono ?_
  rintro e w3 ⟨AX, cX, rfl, hown, hb⟩
  have OX := hide (ownsRow_base (base' := W.heap.size) hown HB.out.size)
  replace R2 := hide (R2.out.below hb)
  replace HB := hide (HB.out.trans (hb.mono HB.out.size))
  clear hb hown q0 q1 ql HC1 R1
  dsimp only
  have q0 := row20 R2.out
  have q1 := row21 R2.out
  have ql := R2.out.lt
  go_wp2_with fail
  with_reducible refine (HC2.out _ HB.out).mono ?_
  rintro e w4 ⟨AY, cY, rfl, hown, hb⟩
  have OY := hide (ownsRow_base (base' := W.heap.size) hown HB.out.size)
  replace OX := hide (own_keepB OX.out hb)
  replace HB := hide (HB.out.trans (hb.mono HB.out.size))
  clear hb hown q0 q1 ql HC2 R2
  dsimp only
  obtain ⟨n, hn⟩ : ∃ n, xs.length = n := ⟨_, rfl⟩
  obtain ⟨m, hm⟩ : ∃ n, ys.length = n := ⟨_, rfl⟩
  have HN := hide hn
  have HM := hide hm
  have hn4 : n ≤ 4096 := by rw [← hn]; exact HL1.out
  have hm4 : m ≤ 4096 := by rw [← hm]; exact HL2.out
  rw [hn] at OX
  rw [hm] at OY
  rw [hn, hm]
  clear hn hm
  cases m1
  · obtain rfl : false = r := HR.out
    go_wp2_with fail
    go_ret
    exact ⟨rfl, HB.out⟩
  cases m2
  · obtain rfl : false = r := HR.out
    go_wp2_with fail
    go_ret
    exact ⟨rfl, HB.out⟩
  go_wp2_with fail
  go_loopw [32] (fun iv wr => ∃ j : Nat, j ≤ n ∧ iv = .int .i64 j ∧ (xs.take j).all (fun s => ys.any (inB s)) = true ∧ Below w4.heap.size w4 wr) (fun iv _ => n - (intOf iv).toNat)
  case atStart => exact ⟨0, Nat.zero_le _, rfl, rfl, Below.refl _ _⟩
  case round =>
    obtain ⟨j, hj, rfl, hall, hb⟩ := hrel
    have HALL := hide hall
    have HB5 := hide hb
    clear hall hb
    by_cases hlt : j < n
    · have hjx : j < xs.length := by rw [HN.out]; exact hlt
      have hrd := (Rd.of_own OX.out).below HB5.out
      rw [← HN.out] at hrd
      obtain ⟨b, off, hA, hbl, hc⟩ := hrd.elem encR_len hjx
      subst hA
      obtain ⟨s, hs⟩ : ∃ y, xs[j] = y := ⟨_, rfl⟩
      have HS := hide hs
      obtain ⟨hd0, hd5, hp0, hp1⟩ := HD1.out s (by rw [← hs]; exact List.getElem_mem hjx)
      rw [hs] at hc
      obtain ⟨se, sd, sp, sa, sm⟩ := s
      dsimp only at hd0 hd5 hp0 hp1
      have z0 := hc 0 _ (by omega) rfl
      have z1 := hc 1 _ (by omega) rfl
      have z2 := hc 2 _ (by omega) rfl
      have z3 := hc 3 _ (by omega) rfl
      have z4 := hc 4 _ (by omega) rfl
      have z5 := hc 5 _ (by omega) rfl
      simp only [Nat.add_zero] at z0
      dsimp only at z1 z2 z3 z4 z5
      have hbX : b < wr.heap.size := Nat.lt_of_lt_of_le hbl HB5.out.size
      have hjI : (j : Int) < (n : Int) := by omega
      have hba := (Below.refl _ wr).alloc (Nat.le_refl _) (.cells #[.int .i64 se.1, .int .u64 se.2, .int .i64 sd, .int .u64 sp, .int .i64 sa, .int .i64 sm] 33)
      have R10 := hide (RowAt.new wr 33 #[.int .i64 se.1, .int .u64 se.2, .int .i64 sd, .int .u64 sp, .int .i64 sa, .int .i64 sm])
      have HB6 := hide (HB5.out.trans (hba.mono HB5.out.size))
      clear hc hs hba hbl hrd
      go_upto_region 9 with (fail)
      clear z0 z1 z2 z3 z4 z5
      generalize hg8 : wr.heap.size = g10 at *
      clear hg8 hbX
      generalize wr.alloc (.cells #[.int .i64 se.1, .int .u64 se.2, .int .i64 sd, .int .u64 sp, .int .i64 sa, .int .i64 sm] 33) = w5 at *
      go_wp2_with fail
      go_loopw [11, 38] (fun bv kv wr => ∃ k : Nat, k ≤ m ∧ kv = .int .i64 k ∧ bv = .bool ((ys.take k).any (inB ⟨se, sd, sp, sa, sm⟩)) ∧ Below w5.heap.size w5 wr) (fun _ kv _ => m - (intOf kv).toNat)
      case atStart => exact ⟨0, Nat.zero_le _, rfl, rfl, Below.refl _ _⟩
      case round =>
        obtain ⟨k, hk, rfl, rfl, hb⟩ := hrel
        have HB7 := hide (HB6.out.trans (hb.mono HB6.out.size))
        have HB57 := hide hb
        replace R10 := hide (R10.out.below hb)
        clear hb
        by_cases hlk : k < m
        · have hkx : k < ys.length := by rw [HM.out]; exact hlk
          have hrd := (Rd.of_own OY.out).below HB7.out
          rw [← HM.out] at hrd
          obtain ⟨b, off, hA, hbl, hc⟩ := hrd.elem encR_len hkx
          subst hA
          obtain ⟨t, ht⟩ : ∃ y, ys[k] = y := ⟨_, rfl⟩
          have HT := hide ht
          obtain ⟨td0, td5, tp0, tp1⟩ := HD2.out t (by rw [← ht]; exact List.getElem_mem hkx)
          rw [ht] at hc
          have HTK := hide (any_take (p := inB ⟨se, sd, sp, sa, sm⟩) hkx)
          rw [ht] at HTK
          obtain ⟨te, td, tp, ta, tm⟩ := t
          dsimp only at td0 td5 tp0 tp1
          have z0 := hc 0 _ (by omega) rfl
          have z1 := hc 1 _ (by omega) rfl
          have z2 := hc 2 _ (by omega) rfl
          have z3 := hc 3 _ (by omega) rfl
          have z4 := hc 4 _ (by omega) rfl
          have z5 := hc 5 _ (by omega) rfl
          simp only [Nat.add_zero] at z0
          dsimp only at z1 z2 z3 z4 z5
          have hbX : b < wr.heap.size := Nat.lt_of_lt_of_le hbl HB7.out.size
          have hkI : (k : Int) < (m : Int) := by omega
          have hba := (Below.refl _ wr).alloc (Nat.le_refl _) (.cells #[.int .i64 te.1, .int .u64 te.2, .int .i64 td, .int .u64 tp, .int .i64 ta, .int .i64 tm] 33)
          have R13 := hide (RowAt.new wr 33 #[.int .i64 te.1, .int .u64 te.2, .int .i64 td, .int .u64 tp, .int .i64 ta, .int .i64 tm])
          have HB8 := hide (HB57.out.trans (hba.mono HB57.out.size))
          replace R10 := hide (R10.out.below hba)
          clear hc ht hba hbl hrd
          go_upto_region 12 with (fail)
          clear z0 z1 z2 z3 z4 z5
          generalize hg8 : wr.heap.size = g13 at *
          clear hg8 hbX
          generalize wr.alloc (.cells #[.int .i64 te.1, .int .u64 te.2, .int .i64 td, .int .u64 tp, .int .i64 ta, .int .i64 tm] 33) = w6 at *
          obtain ⟨u0, u1, u2, u3, u4, u5⟩ := row6 R13.out
          have ul := R13.out.lt
          obtain ⟨x0, x1, x2, x3, x4, x5⟩ := row6 R10.out
          have xl := R10.out.lt
          obtain ⟨bt, hbt⟩ : ∃ b, (ys.take k).any (inB ⟨se, sd, sp, sa, sm⟩) = b := ⟨_, rfl⟩
          rw [hbt] at HTK ⊢
          clear hbt
          cases bt
          · by_cases hdd : td ≤ sd
            · have hdb : decide (td ≤ sd) = true := by simpa using hdd
              obtain ⟨q, hq⟩ : ∃ q : Nat, sd - td = (q : Int) := ⟨(sd - td).toNat, by omega⟩
              have HIN := hide (inB_is (s := ⟨se, sd, sp, sa, sm⟩) (t := ⟨te, td, tp, ta, tm⟩) hdd hq hp0)
              have hq5 : q ≤ 5 := by omega
              have hpw : (1 : Nat) ≤ 2 ^ q := Nat.one_le_two_pow
              have HTW := hide (fun w => two_any w q (by omega))
              generalize (2 : Nat) ^ q = pw at *
              have hsub : IntKind.i64.wrap (sd - td) = (q : Int) := by rw [hq]; exact IntWalk.i64_in _ (by omega)
              obtain ⟨bq, hbq⟩ : ∃ b, (sp / (pw : Int) == tp) = b := ⟨_, rfl⟩
              have HBQ := hide hbq
              clear hq
              go_quiet ((go_at_call 40; exact quiet_same (HTW.out _)))
              have HB9 := hide (below_drewN HB8.out nq)
              clear u0 u1 u2 u3 u4 u5 ul x0 x1 x2 x3 x4 x5 xl
              generalize w6.drewN nq = w7 at *
              go_wp2_with fail
              go_roundw
              case rel => exact ⟨k + 1, by omega, by go_num, by rw [HTK.out, HIN.out, HBQ.out]; rfl, HB9.out⟩
              case measure => simp [intOf]; omega
            · have hdb : decide (td ≤ sd) = false := by simpa using hdd
              have HIN := hide (show inB ⟨se, sd, sp, sa, sm⟩ ⟨te, td, tp, ta, tm⟩ = false from by unfold inB; simp only [hdb, Bool.false_and])
              go_quiet (fail)
              have HB9 := hide (below_drewN HB8.out nq)
              clear u0 u1 u2 u3 u4 u5 ul x0 x1 x2 x3 x4 x5 xl
              generalize w6.drewN nq = w7 at *
              go_wp2_with fail
              go_roundw
              case rel => exact ⟨k + 1, by omega, by go_num, by rw [HTK.out, HIN.out]; rfl, HB9.out⟩
              case measure => simp [intOf]; omega
          · go_quiet (fail)
            have HB9 := hide (below_drewN HB8.out nq)
            clear u0 u1 u2 u3 u4 u5 ul x0 x1 x2 x3 x4 x5 xl
            generalize w6.drewN nq = w7 at *
            go_wp2_with fail
            go_roundw
            case rel => exact ⟨k + 1, by omega, by go_num, by rw [HTK.out]; rfl, HB9.out⟩
            case measure => simp [intOf]; omega
        · obtain rfl : k = m := by omega
          have HY := hide (show ys.take k = ys from List.take_of_length_le (by rw [HM.out]; exact Nat.le_refl _))
          rw [HY.out]
          obtain ⟨bt, hbt⟩ : ∃ b, ys.any (inB ⟨se, sd, sp, sa, sm⟩) = b := ⟨_, rfl⟩
          have HBT := hide hbt
          rw [hbt]
          clear hbt
          cases bt
          · have HF := hide (show r = false from by
              rw [← HR.out, Bool.true_and, Bool.true_and]
              exact all_fail hjx (by rw [HS.out]; exact HBT.out))
            have HBF := hide (HB.out.trans (HB7.out.mono HB.out.size))
            go_wp2_with fail
            go_ret
            exact ⟨ret_bool HF.out.symm, HBF.out⟩
          · have HNX := hide (all_take hjx HALL.out (by rw [HS.out]; exact HBT.out))
            go_wp2_with fail
            go_roundw
            case rel => exact ⟨j + 1, by omega, by go_num, HNX.out, HB7.out⟩
            case measure => simp [intOf]; omega
    · obtain rfl : j = n := by omega
      have hall := HALL.out
      rw [List.take_of_length_le (by rw [HN.out]; exact Nat.le_refl _)] at hall
      have HF := hide (show r = true from by rw [← HR.out, hall]; rfl)
      have HBF := hide (HB.out.trans (HB5.out.mono HB.out.size))
      go_wp2_with fail
      go_ret
      exact ⟨ret_bool HF.out.symm, HBF.out⟩
end Go.Proofs.Ytjlbnegdiabglaa

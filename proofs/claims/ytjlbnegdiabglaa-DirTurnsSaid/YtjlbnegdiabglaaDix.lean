/-
  The reach to which a hash goes.
-/
import Derived.Test.YtjlbnegdiabglaaDiw
set_option linter.unusedSimpArgs false
set_option linter.unusedVariables false
namespace Go.Proofs.Ytjlbnegdiabglaa
open Go Go.RowKit
attribute [local go_sem] via_cell via_frozen
attribute [local go_sem] Oper.semAt_some

theorem runs_cover (es : List En) {j : Nat} (hj : j < es.length) : ∀ (f k : Nat), es.length - k ≤ f → k ≤ j → ∃ r ∈ runsAt k (es.drop k), r.at_ ≤ j ∧ j < r.at_ + r.many
  | 0, k, hf, hk => by omega
  | f + 1, k, hf, hk => by
    have hlt : k < es.length := by omega
    have hsp : runsAt k (es.drop k) = ⟨k, lenAt es k, es.getD k (0, 0)⟩ :: runsAt (k + lenAt es k) (es.drop (k + lenAt es k)) := runsAt_drop es hlt
    have h1 : 1 ≤ lenAt es k := by unfold lenAt; omega
    rw [hsp]
    by_cases h : j < k + lenAt es k
    · exact ⟨_, List.mem_cons_self .., hk, h⟩
    · obtain ⟨r, hr, h2⟩ := runs_cover es hj f (k + lenAt es k) (by omega) (by omega)
      exact ⟨r, List.mem_cons_of_mem _ hr, h2⟩
theorem runs_at (es : List En) {j : Nat} (hj : j < es.length) : ∃ r ∈ runs es, r.at_ ≤ j ∧ j < r.at_ + r.many := by
  have := runs_cover es hj es.length 0 (by omega) (Nat.zero_le _)
  rw [List.drop_zero] at this
  exact this
theorem topZ_dep {h dep : Int} (hh : U64 h) (hd0 : 0 ≤ dep) (hd5 : dep ≤ 5) : 0 ≤ topZ h dep ∧ topZ h dep < ((2 ^ dep.toNat : Nat) : Int) := by
  obtain ⟨h0, h1⟩ := hh
  have h4 : dep = 0 ∨ dep = 1 ∨ dep = 2 ∨ dep = 3 ∨ dep = 4 ∨ dep = 5 := by omega
  unfold topZ
  rcases h4 with rfl | rfl | rfl | rfl | rfl | rfl <;> simp <;> omega
/-- To which reach a hash goes. -/
def ofX (dep h : Int) (es : List En) : Option Rc := if mayB dep es then ((runs es).map (rc dep)).find? (fun x => decide (topZ h dep < x.at_ + x.many)) else none
def OfO (W : World) : Option Rc → Ending → World → Prop
  | some x, e, W' => e = .returned (.tuple #[vR x, .int .i64 0]) ∧ Below W.heap.size W W'
  | none, e, W' => e = .returned (.tuple #[.agg zR, .int .i64 310]) ∧ Below W.heap.size W W'
structure OfI (t : Int) (ga gz go : Nat) (pre : List Rc) (W : World) : Prop where
  no : ∀ x ∈ pre, ¬ t < x.at_ + x.many
  box : RowAt W ga 3 #[.int .i64 t]
  out : ∃ y, RowAt W go 33 (rC y)
  zero : RowAt W gz 33 zR
structure OfX (t : Int) (ga gz go : Nat) (c : Code) (pre : List Rc) (W : World) : Prop where
  code : c = .exit 0
  found : ∃ pre0 x, pre = pre0 ++ [x] ∧ t < x.at_ + x.many ∧ (∀ y ∈ pre0, ¬ t < y.at_ + y.many) ∧ RowAt W go 33 (rC x)
  zero : RowAt W gz 33 zR
theorem OfI.stays (t : Int) (ga gz go : Nat) : Stays (OfI t ga gz go) := fun _ _ _ h hl => ⟨h.no, h.box.lie hl, by obtain ⟨y, h⟩ := h.out; exact ⟨y, h.lie hl⟩, h.zero.lie hl⟩
theorem OfX.stays (t : Int) (ga gz go : Nat) (c : Code) : Stays (OfX t ga gz go c) := fun _ _ _ h hl => ⟨h.code, by obtain ⟨p, x, h1, h2, h3, h4⟩ := h.found; exact ⟨p, x, h1, h2, h3, h4.lie hl⟩, h.zero.lie hl⟩
theorem OfI.later {t : Int} {ga gz go : Nat} {pre : List Rc} {A B : World} (h : OfI t ga gz go pre A) (hb : Below A.heap.size A B) : OfI t ga gz go pre B := ⟨h.no, h.box.below hb, by obtain ⟨y, h⟩ := h.out; exact ⟨y, h.below hb⟩, h.zero.below hb⟩
theorem OfX.later {t : Int} {ga gz go : Nat} {c : Code} {pre : List Rc} {A B : World} (h : OfX t ga gz go c pre A) (hb : Below A.heap.size A B) : OfX t ga gz go c pre B := ⟨h.code, by obtain ⟨p, x, h1, h2, h3, h4⟩ := h.found; exact ⟨p, x, h1, h2, h3, h4.below hb⟩, h.zero.below hb⟩
theorem find_allT {xs : List Rc} {t : Int} (h : ∀ x ∈ xs, ¬ t < x.at_ + x.many) : xs.find? (fun x => decide (t < x.at_ + x.many)) = none := by
  rw [List.find?_eq_none]
  intro x hx
  simpa using h x hx
theorem find_stopT {pre r : List Rc} {x : Rc} {t : Int} (h : ∀ y ∈ pre, ¬ t < y.at_ + y.many) (hx : t < x.at_ + x.many) : ((pre ++ [x]) ++ r).find? (fun x => decide (t < x.at_ + x.many)) = some x := by
  rw [List.append_assoc, List.find?_append, find_allT h]
  simp [hx]
set_option maxHeartbeats 4000000 in
theorem Of_any (B : Nat) (A : Option Addr) (c : Nat) (dep h : Int) (es : List En) (W : World) (hr : DirAt W B A c es) (hB : B ≤ W.heap.size) (hh : U64 h) (o : Option Rc) (ho : ofX dep h es = o) :
    Calls Try.prog 11 #[.agg #[.int .i64 dep, .slice A es.length c], .int .u64 h] W (OfO W o) := by
  obtain ⟨w1, hw1⟩ : ∃ w1, W.alloc (.cells #[.int .i64 dep, .slice A es.length c] 24) = w1 := ⟨_, rfl⟩
  obtain ⟨w2, hw2⟩ : ∃ w2, w1.alloc (.cells zR 33) = w2 := ⟨_, rfl⟩
  have s1 : w1.heap.size = W.heap.size + 1 := by rw [← hw1]; simp
  have s2 : w2.heap.size = W.heap.size + 1 + 1 := by rw [← hw2]; simp [s1]
  have b1 : Below W.heap.size W w1 := by rw [← hw1]; exact (Below.refl _ _).alloc (Nat.le_refl _) _
  have b2 : Below w1.heap.size w1 w2 := by rw [← hw2]; exact (Below.refl _ _).alloc (Nat.le_refl _) _
  have r1 : RowAt w2 W.heap.size 24 #[.int .i64 dep, .slice A es.length c] := by have h := RowAt.new W 24 #[.int .i64 dep, .slice A es.length c]; rw [hw1] at h; exact h.below b2
  have r2 : RowAt w2 (W.heap.size + 1) 33 zR := by have h := RowAt.new w1 33 zR; rw [hw2, s1] at h; exact h
  have HB2 := hide (b1.trans (b2.mono b1.size))
  have R1 := hide r1
  have R2 := hide r2
  have HD := hide hr
  have HO := hide ho
  have S2 := hide s2
  clear b1 b2 r1 r2 s1 s2 hr ho
  subst hw2
  subst hw1
  refine calls_of_wp_marks Try.func11 rfl ?_
  simp only [Try.ntmps11, List.size_toArray, List.length_cons, List.length_nil, Nat.reduceAdd, Nat.reduceSub, Array.replicate_succ, Array.replicate_zero, List.push_toArray, List.append_toArray, List.nil_append, List.cons_append]
  go_upto_region 1 with (fail)
  generalize (W.alloc (.cells #[.int .i64 dep, .slice A es.length c] 24)).alloc (.cells zR 33) = w2 at *
  have q0 := row20 R1.out
  have q1 := row21 R1.out
  have ql := R1.out.lt
  have HD2 := hide (HD.out.below (HB2.out.mono hB))
  have hB2 : B ≤ w2.heap.size := Nat.le_trans hB HB2.out.size
  by_cases hs : (dirShape dep es.length && entsOk es) = true
  case neg =>
    have hsf : (dirShape dep es.length && entsOk es) = false := by simpa using hs
    obtain rfl : none = o := by rw [← HO.out]; unfold ofX; rw [mayB_all, hsf]; rfl
    have HC := hide (At_no B A c dep h es w2 HD2.out.rd hB2 HD.out.u hsf)
    clear hs hsf
    go_wp2_with fail
    with_reducible refine HC.out.mono ?_
    rintro e w3 ⟨rfl, hb3⟩
    have hba := (Below.refl _ w3).alloc (Nat.le_refl _) (.cells #[.int .i64 0] 3)
    have HZ := hide ((R2.out.below hb3).below hba)
    have HBZ := hide ((HB2.out.trans (hb3.mono HB2.out.size)).trans (hba.mono (Nat.le_trans HB2.out.size hb3.size)))
    dsimp only
    go_upto_region 2 with (fail)
    clear hb3 hba q0 q1 ql
    generalize w3.alloc (.cells #[.int .i64 0] 3) = w4 at *
    have x0 := HZ.out.cell 0
    have x1 := HZ.out.cell 1
    have x2 := HZ.out.cell 2
    have x3 := HZ.out.cell 3
    have x4 := HZ.out.cell 4
    have x5 := HZ.out.cell 5
    have xl := HZ.out.lt
    have xf : ∀ i, w4.frozen? ⟨W.heap.size + 1, i, none⟩ = false := fun i => HZ.out.frozen i
    go_wp2_with fail
    have hr9 := setR_row (y := ⟨(0, 0), 0, 0, 0, 0⟩) ⟨(0, 0), 0, 0, 0, 0⟩ HZ.out
    have hb9 := HBZ.out.trans (setR_below w4 (W.heap.size + 1) W.heap.size ⟨(0, 0), 0, 0, 0, 0⟩ (by omega))
    unfold setR at hr9 hb9
    dsimp only at hr9 hb9
    clear x0 x1 x2 x3 x4 x5 xl
    generalize (((((w4.setCell ⟨W.heap.size + 1, 0, none⟩ (.int .i64 0)).setCell ⟨W.heap.size + 1, 1, none⟩ (.int .u64 0)).setCell ⟨W.heap.size + 1, 2, none⟩ (.int .i64 0)).setCell ⟨W.heap.size + 1, 3, none⟩ (.int .u64 0)).setCell ⟨W.heap.size + 1, 4, none⟩ (.int .i64 0)).setCell ⟨W.heap.size + 1, 5, none⟩ (.int .i64 0) = w9 at *
    have c0 := hr9.cell 0
    have c1 := hr9.cell 1
    have c2 := hr9.cell 2
    have c3 := hr9.cell 3
    have c4 := hr9.cell 4
    have c5 := hr9.cell 5
    have l9 := hr9.lt
    exact ⟨_, by simp [results, Try.results11, go_sem, c0, c1, c2, c3, c4, c5, l9], rfl, hb9⟩
  case pos =>
    have hs2 := hs
    simp only [Bool.and_eq_true] at hs
    have HC := hide (At_ok B A c dep h es w2 HD2.out.rd hB2 HD.out.u hh hs.1 hs.2)
    clear hs hs2
    obtain ⟨t, ht⟩ : ∃ t, topZ h dep = t := ⟨_, rfl⟩
    rw [ht] at HC
    have HT := hide ht
    clear ht
    obtain ⟨r, hr⟩ : ∃ r, mayB dep es = r := ⟨_, rfl⟩
    have HR := hide hr
    go_wp2_with fail
    with_reducible refine HC.out.mono ?_
    rintro e w3 ⟨rfl, hb3⟩
    obtain ⟨ga, hga⟩ : ∃ g, w3.heap.size = g := ⟨_, rfl⟩
    have HGA := hide (show W.heap.size + 1 < ga from by have h1 := S2.out; have h2 := hb3.size; omega)
    have hba := (Below.refl _ w3).alloc (Nat.le_refl _) (.cells #[.int .i64 t] 3)
    have HA := hide (show RowAt (w3.alloc (.cells #[.int .i64 t] 3)) ga 3 #[.int .i64 t] from by have h := RowAt.new w3 3 #[.int .i64 t]; rw [hga] at h; exact h)
    have HZ := hide ((R2.out.below hb3).below hba)
    have R1 := hide ((R1.out.below hb3).below hba)
    have HBZ := hide ((HB2.out.trans (hb3.mono HB2.out.size)).trans (hba.mono (Nat.le_trans HB2.out.size hb3.size)))
    have S4 := hide (show (w3.alloc (.cells #[.int .i64 t] 3)).heap.size = ga + 1 from by simp [hga])
    have HGE := hide hga
    clear hga
    dsimp only
    go_upto_region 2 with (fail)
    rw [HGE.out]
    clear hb3 hba q0 q1 ql HGE
    generalize w3.alloc (.cells #[.int .i64 t] 3) = w4 at *
    have q0 := row20 R1.out
    have q1 := row21 R1.out
    have ql := R1.out.lt
    have HCK := hide (check_any B A c dep es w4 (HD.out.below (HBZ.out.mono hB)) (Nat.le_trans hB HBZ.out.size) (if r then 0 else 310) (by rw [hr]))
    clear hr
    go_wp2_with fail
    with_reducible refine HCK.out.mono ?_
    rintro e w5 ⟨rfl, hb5⟩
    have HZ := hide (HZ.out.below hb5)
    have HA := hide (HA.out.below hb5)
    have R1 := hide (R1.out.below hb5)
    have HBZ := hide (HBZ.out.trans (hb5.mono HBZ.out.size))
    have S5 := hide (show ga < w5.heap.size from HA.out.lt)
    clear hb5 q0 q1 ql
    cases r
    · obtain rfl : none = o := by rw [← HO.out]; unfold ofX; rw [HR.out]; rfl
      simp only [Bool.false_eq_true, if_false]
      have x0 := HZ.out.cell 0
      have x1 := HZ.out.cell 1
      have x2 := HZ.out.cell 2
      have x3 := HZ.out.cell 3
      have x4 := HZ.out.cell 4
      have x5 := HZ.out.cell 5
      have xl := HZ.out.lt
      have xf : ∀ i, w5.frozen? ⟨W.heap.size + 1, i, none⟩ = false := fun i => HZ.out.frozen i
      go_wp2_with fail
      have hr9 := setR_row (y := ⟨(0, 0), 0, 0, 0, 0⟩) ⟨(0, 0), 0, 0, 0, 0⟩ HZ.out
      have hb9 := HBZ.out.trans (setR_below w5 (W.heap.size + 1) W.heap.size ⟨(0, 0), 0, 0, 0, 0⟩ (by omega))
      unfold setR at hr9 hb9
      dsimp only at hr9 hb9
      clear x0 x1 x2 x3 x4 x5 xl
      generalize (((((w5.setCell ⟨W.heap.size + 1, 0, none⟩ (.int .i64 0)).setCell ⟨W.heap.size + 1, 1, none⟩ (.int .u64 0)).setCell ⟨W.heap.size + 1, 2, none⟩ (.int .i64 0)).setCell ⟨W.heap.size + 1, 3, none⟩ (.int .u64 0)).setCell ⟨W.heap.size + 1, 4, none⟩ (.int .i64 0)).setCell ⟨W.heap.size + 1, 5, none⟩ (.int .i64 0) = w9 at *
      have c0 := hr9.cell 0
      have c1 := hr9.cell 1
      have c2 := hr9.cell 2
      have c3 := hr9.cell 3
      have c4 := hr9.cell 4
      have c5 := hr9.cell 5
      have l9 := hr9.lt
      exact ⟨_, by simp [results, Try.results11, go_sem, c0, c1, c2, c3, c4, c5, l9], rfl, hb9⟩
    · have HOF := hide (show ((runs es).map (rc dep)).find? (fun x => decide (t < x.at_ + x.many)) = o from by rw [← HO.out]; unfold ofX; rw [HR.out, HT.out]; rfl)
      simp only [if_true]
      obtain ⟨hd0, hd5, hl32, -, -, hlen⟩ := may_shape HR.out
      have HLEN := hide hlen
      clear hlen
      have q0 := row20 R1.out
      have q1 := row21 R1.out
      have ql := R1.out.lt
      obtain ⟨go, hgo⟩ : ∃ g, w5.heap.size = g := ⟨_, rfl⟩
      obtain ⟨w6, hw6⟩ : ∃ w6, w5.alloc (.cells zR 33) = w6 := ⟨_, rfl⟩
      obtain ⟨w7, hw7⟩ : ∃ w7, w6.alloc (.cells #[.int .i64 dep, .slice A es.length c] 71) = w7 := ⟨_, rfl⟩
      have s6 : w6.heap.size = go + 1 := by rw [← hw6]; simp [hgo]
      have s7 : w7.heap.size = go + 1 + 1 := by rw [← hw7]; simp [s6]
      have b6 : Below w5.heap.size w5 w6 := by rw [← hw6]; exact (Below.refl _ _).alloc (Nat.le_refl _) _
      have b7 : Below w6.heap.size w6 w7 := by rw [← hw7]; exact (Below.refl _ _).alloc (Nat.le_refl _) _
      have hb57 := b6.trans (b7.mono b6.size)
      have R6 : Hid (RowAt w7 go 33 zR) := hide (by have h := RowAt.new w5 33 zR; rw [hw6, hgo] at h; exact h.below b7)
      have R7 : Hid (RowAt w7 (go + 1) 71 #[.int .i64 dep, .slice A es.length c]) := hide (by have h := RowAt.new w6 71 #[.int .i64 dep, .slice A es.length c]; rw [hw7, s6] at h; exact h)
      have HB7 := hide (HBZ.out.trans (hb57.mono HBZ.out.size))
      have HI7 := hide (show OfI t ga (W.heap.size + 1) go [] w7 from ⟨by simp, HA.out.below hb57, ⟨⟨(0, 0), 0, 0, 0, 0⟩, R6.out⟩, HZ.out.below hb57⟩)
      have S7 := hide s7
      have HGO := hide (show ga < go from by have := S5.out; omega)
      have HKE := hide hgo
      have hw77 := hide hw7
      have hw66 := hide hw6
      clear s6 s7 b6 b7 hb57 hgo hw6 hw7
      go_wp2_with fail
      rw [HKE.out, hw66.out, hw77.out]
      refine (spans_any (go + 1) w7).mono ?_
      rintro e w8 ⟨rfl, hrow, hb⟩
      have hlb := hrow.lt
      have HB8 := hide (HB7.out.trans (hb.mono HB7.out.size))
      have HI8 := hide (HI7.out.later hb)
      have R7 := hide (R7.out.below hb)
      have hgo := HGO.out
      have hga := HGA.out
      have s7 := S7.out
      have hD8 := HD.out.below (HB8.out.mono hB)
      have hseq := spans_seq B w7.heap.size (go + 1) (w8.heap.size + 2) dep A c es w8 ⟨hrow, R7.out, hD8.rd⟩ (Nat.le_trans hB HB8.out.size) hl32 hd0 hd5 hD8.cap hD8.max
      have hs8 : go + 1 + 1 < w8.heap.size := by omega
      rw [s7] at hseq
      rw [s7]
      clear hrow hb hlb s7 hw66 hw77 q0 q1 ql hD8 HI7 R6 HZ HA R1
      go_wp2_with fail
      refine wp_range6 (gf := 59) (lb := #[.pointer (some ⟨go + 1 + 1, 0, none⟩)]) rfl (enters_of Try.func59 (by kernel_rfl) rfl) hseq W.heap.size (by omega) (fun j hj => by have hj : (j < B ∨ j = go + 1 + 1 ∨ j = go + 1) ∨ w8.heap.size + 2 ≤ j := hj; omega) (Below.refl _ _) (fun _ => rfl)
        (OfI t ga (W.heap.size + 1) go) (OfX t ga (W.heap.size + 1) go) (OfI.stays _ _ _ _) (OfX.stays _ _ _ _) (fun _ _ _ h hb => h.later hb) (fun _ _ _ _ h hb => h.later hb) HI8.out
        (RcA #[28] 9 (go + 1 + 1)) (fun T a' => RcA.stays _ _ _ T a') ?assign ?body ?done ?stop ?panic
      case assign =>
        intro lo pre x W2 R hI hb hs hlen hV hn2 hR
        dsimp only [encRv, rC] at hR ⊢
        have HBN := hide (show Below W2.heap.size W2 (W2.alloc (.cells (rC x) 33)) from (Below.refl _ _).alloc (Nat.le_refl _) _)
        have HRN := hide (RowAt.new W2 33 (rC x))
        gi_wp2
        refine hR _ _ (KeepsOthers.alloc _ _) (HBN.out.mono (by omega)) (fun j _ hj => HBN.out.block j hj) (hI.later HBN.out) ⟨W2.heap.size, by simp [encRv], HRN.out, by omega⟩
      case body =>
        rintro lo pre x a' W2 hI ⟨gb, hpa, hbox, hgb⟩ hb hs hlen hV hn2
        subst hpa
        have HIh := hide hI
        obtain ⟨rr, hrr, hrx⟩ := List.mem_map.1 hV
        obtain ⟨hm1, hm2, _, _⟩ := runs_mem hrr
        obtain ⟨y, hy⟩ := hI.out
        have hI2 : x.at_ = (rr.at_ : Int) := by rw [← hrx]; rfl
        have hI3 : x.many = (rr.many : Int) := by rw [← hrx]; rfl
        obtain ⟨e, D, P, a, m⟩ := x
        dsimp only at hI2 hI3
        have hba : 0 ≤ a ∧ a ≤ 32 := by omega
        have hbm : 0 ≤ m ∧ m ≤ 32 := by omega
        clear hrr hrx hm1 hm2 hV hI2 hI3
        dsimp only [encRv, rC] at hbox ⊢
        have p0 := row1 hI.box
        have pl := hI.box.lt
        have e0 := hbox.cell 0
        have e1 := hbox.cell 1
        have e2 := hbox.cell 2
        have e3 := hbox.cell 3
        have e4 := hbox.cell 4
        have e5 := hbox.cell 5
        have el := hbox.lt
        have HY := hide hy
        have x0 := hy.cell 0
        have x1 := hy.cell 1
        have x2 := hy.cell 2
        have x3 := hy.cell 3
        have x4 := hy.cell 4
        have x5 := hy.cell 5
        have xl := hy.lt
        have xf : ∀ i, W2.frozen? ⟨go, i, none⟩ = false := fun i => hy.frozen i
        have hne : ¬ go = gb := by omega
        have hne2 : ¬ ga = go := by omega
        obtain ⟨hba0, hba1⟩ := hba
        obtain ⟨hbm0, hbm1⟩ := hbm
        have hK9 : Hid (KeepsOthers W2 (setR W2 go ⟨e, D, P, a, m⟩) ∧ Below W.heap.size W2 (setR W2 go ⟨e, D, P, a, m⟩)) := hide ⟨setR_keeps _ _ _, setR_below _ _ _ _ (by omega)⟩
        have HB9 := hide (show RowAt (setR W2 go ⟨e, D, P, a, m⟩) ga 3 #[.int .i64 t] from hI.box.heap (setR_heap _ _ _ _ (by omega)))
        have HZ9 := hide (show RowAt (setR W2 go ⟨e, D, P, a, m⟩) (W.heap.size + 1) 33 zR from hI.zero.heap (setR_heap _ _ _ _ (by omega)))
        have HR9 := hide (setR_row ⟨e, D, P, a, m⟩ hy)
        clear hI hbox hb hy
        by_cases hlt : t < a + m
        · have hltb : decide (t < a + m) = true := by simpa using hlt
          have HX := hide (show OfX t ga (W.heap.size + 1) go (.exit 0) (pre ++ [(⟨e, D, P, a, m⟩ : Rc)]) (setR W2 go ⟨e, D, P, a, m⟩) from ⟨rfl, ⟨pre, _, rfl, hlt, HIh.out.no, HR9.out⟩, HZ9.out⟩)
          gi_wp2
          exact ⟨hK9.out.1, hK9.out.2, HX.out⟩
        · have hltb : decide (t < a + m) = false := by simpa using hlt
          have HN := hide (show OfI t ga (W.heap.size + 1) go (pre ++ [(⟨e, D, P, a, m⟩ : Rc)]) (setR W2 go ⟨e, D, P, a, m⟩) from ⟨fun x hx => by
            rcases List.mem_append.1 hx with hx | hx
            · exact HIh.out.no x hx
            · rw [List.mem_singleton] at hx; subst hx; exact hlt, HB9.out, ⟨_, HR9.out⟩, HZ9.out⟩)
          gi_wp2
          refine ⟨hK9.out.1, hK9.out.2, fun j hj hl => ?_, HN.out⟩
          have hj : (j < B ∨ j = go + 1 + 1 ∨ j = go + 1) ∨ w8.heap.size + 2 ≤ j := hj
          exact setR_heap W2 go ⟨e, D, P, a, m⟩ j (by omega)
      case done =>
        rintro ys W2 rfl hI hb hs hD9
        exfalso
        have ht := topZ_dep hh hd0 hd5
        rw [HT.out] at ht
        rw [← HLEN.out] at ht
        obtain ⟨r, hr, h1, h2⟩ := runs_at es (j := t.toNat) (by omega)
        have h3 := hI.no _ (List.mem_map_of_mem hr)
        simp only [rc] at h3
        omega
      case stop =>
        rintro c2 pre W2 ⟨rr, hr2⟩ ⟨rfl, ⟨pre0, x, rfl, hlt, hno, hres⟩, hz⟩ hb hs hD9
        obtain rfl : some x = o := by rw [← HOF.out, ← hr2]; exact (find_stopT hno hlt).symm
        have HE9 := hide hres
        have HZ9 := hide hz
        have HD9 := hide hD9
        have HBF := hide (HB8.out.trans (hb.mono (Nat.le_refl _)))
        have e0 := hres.cell 0
        have e1 := hres.cell 1
        have e2 := hres.cell 2
        have e3 := hres.cell 3
        have e4 := hres.cell 4
        have e5 := hres.cell 5
        have el := hres.lt
        have x0 := hz.cell 0
        have x1 := hz.cell 1
        have x2 := hz.cell 2
        have x3 := hz.cell 3
        have x4 := hz.cell 4
        have x5 := hz.cell 5
        have xl := hz.lt
        have xf : ∀ i, W2.frozen? ⟨W.heap.size + 1, i, none⟩ = false := fun i => hz.frozen i
        clear hb hD9 hres hno hr2 hz
        unfold marked
        go_wp2_with fail
        have hd9 : (setR W2 (W.heap.size + 1) x).heap[w8.heap.size]? = some (.deferred (some [])) := (setR_heap _ _ _ _ (by omega)).trans HD9.out
        have hr9 : RowAt ((setR W2 (W.heap.size + 1) x).putObj w8.heap.size (.deferred none)) (W.heap.size + 1) 33 (rC x) := RowAt.lie (setR_row (y := ⟨(0, 0), 0, 0, 0, 0⟩) x HZ9.out) (CellsLie.putObj _ hd9 rfl)
        have hfin : Below W.heap.size W ((setR W2 (W.heap.size + 1) x).putObj w8.heap.size (.deferred none)) := (HBF.out.trans (setR_below _ _ _ _ (by omega))).trans (below_putObj (o := .deferred (some [])) _ (by omega))
        unfold setR at hd9 hr9 hfin
        refine ⟨by simp, .inl ⟨_, _, rfl, run_takeDeferred hd9, ?_⟩⟩
        clear hd9 e0 e1 e2 e3 e4 e5 x0 x1 x2 x3 x4 x5 xl el
        generalize ((((((W2.setCell ⟨W.heap.size + 1, 0, none⟩ (.int .i64 x.e.1)).setCell ⟨W.heap.size + 1, 1, none⟩ (.int .u64 x.e.2)).setCell ⟨W.heap.size + 1, 2, none⟩ (.int .i64 x.dep)).setCell ⟨W.heap.size + 1, 3, none⟩ (.int .u64 x.pre)).setCell ⟨W.heap.size + 1, 4, none⟩ (.int .i64 x.at_)).setCell ⟨W.heap.size + 1, 5, none⟩ (.int .i64 x.many)).putObj w8.heap.size (.deferred none) = w9 at *
        have c0 := hr9.cell 0
        have c1 := hr9.cell 1
        have c2 := hr9.cell 2
        have c3 := hr9.cell 3
        have c4 := hr9.cell 4
        have c5 := hr9.cell 5
        have l9 := hr9.lt
        exact ⟨_, by simp [results, Try.results11, go_sem, c0, c1, c2, c3, c4, c5, l9], rfl, hfin⟩
      case panic =>
        rintro pre W2 h
        exact h.elim
end Go.Proofs.Ytjlbnegdiabglaa

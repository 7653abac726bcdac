/-
  A table split, over the hand: the walk.
-/
import Derived.Test.YtjlbnegdiabglaaDio
import Derived.BigRegion
set_option linter.unusedSimpArgs false
set_option linter.unusedVariables false
namespace Go.Proofs.Ytjlbnegdiabglaa
open Go Go.RowKit
attribute [local go_sem] via_cell via_frozen

theorem reach_find {dep : Int} {es : List En} {en : En} {s : Rc} (h : ((runs es).map (rc dep)).find? (fun x => decide (x.e = en)) = some s) :
    ∃ (a m : Nat) (e : En) (D P : Int), s = ⟨e, D, P, a, m⟩ ∧ 1 ≤ m ∧ a + m ≤ es.length := by
  obtain ⟨r, hr, rfl⟩ := List.mem_map.1 (List.mem_of_find?_eq_some h)
  obtain ⟨h1, h2, _, _⟩ := runs_mem hr
  exact ⟨r.at_, r.many, _, _, _, rfl, h1, h2⟩
/-- Where the halves are still to be written. -/
structure MidS (w wx : World) (g8 gh gs : Nat) (l h : En) (o : Except Int (Int × List En)) (dep2 : Int) (A2 : Option Addr) (c2 : Nat) (es2 : List En) (a m : Nat) (e2 : En) (D P : Int) : Prop where
  hand : HandO wx gh gs dep2 A2 c2 es2
  low : RowAt wx (w.heap.size + 1) 31 #[.int .i64 l.1, .int .u64 l.2]
  high : RowAt wx (w.heap.size + 1 + 1) 31 #[.int .i64 h.1, .int .u64 h.2]
  reach : RowAt wx g8 33 (rC ⟨e2, D, P, a, m⟩)
  fits : a + m ≤ es2.length
  small : es2.length ≤ 32
  out : Except.ok (dep2, spl l h a (m / 2) (m / 2) es2) = o
  below : Below gs w wx
  ne : ∀ p, A2 = some p → p.block < w.heap.size ∨ g8 < p.block
theorem own_lt {w : World} {base n c : Nat} {e : TypeId} {sz : Nat} {p : Addr} {xs : List Value} (h : w.ownsRow base e sz (.slice (some p) n c) n xs) : p.block < w.heap.size := by
  obtain ⟨_, (⟨h1, _⟩ | ⟨g, cap, cur, hv, _, hh, _⟩)⟩ := h
  · cases h1
  · injection hv with hv
    injection hv with hv
    subst hv
    exact (Array.getElem?_eq_some_iff.1 hh).1
theorem own_some {w : World} {base n c : Nat} {e : TypeId} {sz : Nat} {A : Option Addr} {xs : List Value} (h : w.ownsRow base e sz (.slice A n c) n xs) (hn : 0 < n) : ∃ g cur, A = some ⟨g, 0, none⟩ ∧ RowAt w g e cur ∧ base ≤ g := by
  obtain ⟨_, (⟨_, h2⟩ | ⟨g, cap, cur, hv, hge, hh, _⟩)⟩ := h
  · omega
  · injection hv with hv
    exact ⟨g, cur, hv, hh, hge⟩
theorem row_ne {w : World} {g1 g2 : Nat} {t1 t2 : TypeId} {c1 c2 : Array Value} (h1 : RowAt w g1 t1 c1) (h2 : RowAt w g2 t2 c2) (hne : t1 ≠ t2) : g1 ≠ g2 := by
  intro e
  subst e
  have := h1.symm.trans h2
  injection this with this
  injection this with _ this _
  exact hne this
set_option maxHeartbeats 4000000 in
theorem split_any (gh gs : Nat) (dep : Int) (A : Option Addr) (c : Nat) (es : List En) (e low high : En) (w : World) (h : HandO w gh gs dep A c es) (hg : gs < gh) (hu : ∀ e ∈ es, U64 e.2) (hlo : U64 low.2) (hhi : U64 high.2) (hm : mayB dep es = true) (o : Except Int (Int × List En)) (ho : splitO dep es e low high = o) :
    Calls Try.prog 52 #[.pointer (some ⟨gh, 0, none⟩), vE e, vE low, vE high] w (DoesO gs gh w o) := by
  have HO := hide ho
  have H := hide h
  have HM := hide (may_shape hm)
  obtain ⟨hd0, hd5, hl32, _, _, hlen⟩ := may_shape hm
  have HLEN := hide hlen
  clear ho hm hlen
  have dl := h.hand.lt
  obtain ⟨w1, hw1⟩ : ∃ w1, ((w.alloc (.cells #[.int .i64 e.1, .int .u64 e.2] 31)).alloc (.cells #[.int .i64 low.1, .int .u64 low.2] 31)).alloc (.cells #[.int .i64 high.1, .int .u64 high.2] 31) = w1 := ⟨_, rfl⟩
  have s1 : w1.heap.size = w.heap.size + 1 + 1 + 1 := by rw [← hw1]; simp
  have hb1 : Below w.heap.size w w1 := by rw [← hw1]; exact (((Below.refl _ w).alloc (Nat.le_refl _) _).alloc (by simp) _).alloc (by simp; omega) _
  have hba : ∀ (w : World) (X : Array Value), Below w.heap.size w (w.alloc (.cells X 31)) := fun w X => (Below.refl _ w).alloc (Nat.le_refl _) _
  have r0 : RowAt w1 w.heap.size 31 #[.int .i64 e.1, .int .u64 e.2] := by
    have h := ((RowAt.new w 31 #[.int .i64 e.1, .int .u64 e.2]).below (hba _ #[.int .i64 low.1, .int .u64 low.2])).below (hba _ #[.int .i64 high.1, .int .u64 high.2])
    rw [hw1] at h; exact h
  have r1 : RowAt w1 (w.heap.size + 1) 31 #[.int .i64 low.1, .int .u64 low.2] := by
    have h := (RowAt.new (w.alloc (.cells #[.int .i64 e.1, .int .u64 e.2] 31)) 31 #[.int .i64 low.1, .int .u64 low.2]).below (hba _ #[.int .i64 high.1, .int .u64 high.2])
    rw [hw1, World.size_alloc] at h; exact h
  have r2 : RowAt w1 (w.heap.size + 1 + 1) 31 #[.int .i64 high.1, .int .u64 high.2] := by
    have h := RowAt.new ((w.alloc (.cells #[.int .i64 e.1, .int .u64 e.2] 31)).alloc (.cells #[.int .i64 low.1, .int .u64 low.2] 31)) 31 #[.int .i64 high.1, .int .u64 high.2]
    rw [hw1, World.size_alloc, World.size_alloc] at h; exact h
  have HB1 := hide hb1
  have R0 := hide r0
  have R1 := hide r1
  have R2 := hide r2
  have S1 := hide s1
  have HH1 := hide (h.hand.below hb1)
  have HW1 := hide (own_keepB h.own hb1)
  have HD := hide (DirAt.of_own HW1.out hu)
  have HU := hide hu
  have HLO := hide hlo
  have HHI := hide hhi
  obtain ⟨so, hso⟩ : ∃ so, ((runs es).map (rc dep)).find? (fun x => decide (x.e = e)) = so := ⟨_, rfl⟩
  have HSO := hide hso
  have HS := hide (span_any w1.heap.size gh dep A c es e w1 HH1.out HD.out (Nat.le_refl _) hl32 hd0 hd5 so hso)
  have HGH := hide dl
  clear h hb1 hba r0 r1 r2 s1 hu hlo hhi hso dl
  subst hw1
  go_enter Try.func52, Try.ntmps52
  go_upto_region 1 with (fail)
  generalize ((w.alloc (.cells #[.int .i64 e.1, .int .u64 e.2] 31)).alloc (.cells #[.int .i64 low.1, .int .u64 low.2] 31)).alloc (.cells #[.int .i64 high.1, .int .u64 high.2] 31) = w1 at *
  have q0 := row20 R0.out
  have q1 := row21 R0.out
  have ql := R0.out.lt
  go_wp2_with fail
  refine HS.out.mono ?_
  rintro e1 w2 hS
  cases so with
  | none =>
    obtain ⟨rfl, hb2⟩ := hS
    have HF := hide (show Except.error 4 = o from by rw [← HO.out]; unfold splitO; rw [HSO.out])
    have HB2 := hide (HB1.out.trans (hb2.mono HB1.out.size))
    clear hb2
    dsimp only
    obtain rfl := HF.out
    exact ⟨rfl, rfl, HB2.out.mono (by have := HGH.out; omega)⟩
  | some s =>
    obtain ⟨rfl, hb2⟩ := hS
    obtain ⟨a, m, es1, D, P, rfl, hm1, ham⟩ := reach_find HSO.out
    have HO2 := hide (show (if (okEnt low.1 low.2 && okEnt high.1 high.2 && !decide (low.1 = high.1)) = false then Except.error (2 : Int)
      else if es.all (apartB low high) = false then .error 5
      else if (m : Int) = 1 then
        (if dep < 5 then (match ((runs (dbl es)).map (rc (dep + 1))).find? (fun x => decide (x.e = e)) with
          | none => .error 4
          | some s => .ok (dep + 1, spl low high s.at_.toNat (s.many.toNat / 2) (s.many.toNat / 2) (dbl es))) else .error 342)
      else .ok (dep, spl low high a (m / 2) (m / 2) es)) = o from by
      have h := HO.out
      unfold splitO at h
      rw [HSO.out] at h
      exact h)
    have HR := hide (RowAt.new w2 33 (rC ⟨es1, D, P, a, m⟩))
    have hba := (Below.refl _ w2).alloc (Nat.le_refl _) (.cells (rC ⟨es1, D, P, a, m⟩) 33)
    have hb3 := hb2.trans (hba.mono hb2.size)
    obtain ⟨g8, hg8⟩ : ∃ g, w2.heap.size = g := ⟨_, rfl⟩
    have HG8 := hide hg8
    have HGG := hide (show w.heap.size + 1 + 1 + 1 ≤ g8 from by have h1 := S1.out; have h2 := hb2.size; omega)
    have HB3 := hide (HB1.out.trans (hb3.mono HB1.out.size))
    have R0 := hide (R0.out.below hb3)
    have R1 := hide (R1.out.below hb3)
    have R2 := hide (R2.out.below hb3)
    have HH3 := hide (HH1.out.below hb3)
    have HW3 := hide (own_keepB HW1.out hb3)
    have HD3 := hide ((HD.out.below hb3))
    clear hba hb3 hb2 hg8 q0 q1 ql HH1 HW1 HD HB1 S1 HS
    dsimp only
    go_upto_region 2 with (fail)
    rw [HG8.out] at HR
    (try rw [HG8.out])
    clear HG8
    generalize w2.alloc (.cells (rC ⟨es1, D, P, a, m⟩) 33) = w3 at *
    obtain ⟨b1, hb1⟩ : ∃ b, okEnt low.1 low.2 = b := ⟨_, rfl⟩
    obtain ⟨b2, hb2⟩ : ∃ b, okEnt high.1 high.2 = b := ⟨_, rfl⟩
    obtain ⟨b3, hb3⟩ : ∃ b, decide (low.1 = high.1) = b := ⟨_, rfl⟩
    have HO3 := hide HO2.out
    rw [hb1, hb2, hb3] at HO3
    have q0 := row20 R1.out
    have q1 := row21 R1.out
    have ql := R1.out.lt
    have p0 := row20 R2.out
    have p1 := row21 R2.out
    have pl := R2.out.lt
    have HI1 := hide (is_any low.1 low.2 HLO.out w3 b1 hb1)
    have HI2 := hide (fun w => is_any high.1 high.2 HHI.out w b2 hb2)
    have hne : (low.1 != high.1) = !b3 := by rw [← hb3, Bool.eq_iff_iff]; simp
    clear hb1 hb2 hb3
    go_wp2_with fail
    refine HI1.out.mono ?_
    rintro e4 w4 ⟨rfl, hb4⟩
    have HB4 := hide (HB3.out.trans (hb4.mono HB3.out.size))
    dsimp only
    by_cases hall : (b1 && b2 && !b3) = false
    case pos =>
      have HF := hide (show Except.error 2 = o from by have h := HO3.out; rw [if_pos hall] at h; exact h)
      have p0 := row20 (R2.out.below hb4)
      have p1 := row21 (R2.out.below hb4)
      have pl := (R2.out.below hb4).lt
      have q0 := row20 (R1.out.below hb4)
      have ql := (R1.out.below hb4).lt
      have R14 := hide (R1.out.below hb4)
      have R24 := hide (R2.out.below hb4)
      clear hb4
      cases b1
      · go_wp2_with fail
        refine (need_no 2 _).mono ?_
        rintro e5 w5 ⟨rfl, rfl⟩
        dsimp only
        obtain rfl := HF.out
        exact ⟨rfl, rfl, HB4.out.mono (by have := HGH.out; omega)⟩
      · go_wp2_with fail
        refine (HI2.out _).mono ?_
        rintro e5 w5 ⟨rfl, hb5⟩
        have HB4 := hide (HB4.out.trans (hb5.mono HB4.out.size))
        have p0 := row20 (R24.out.below hb5)
        have pl := (R24.out.below hb5).lt
        have q0 := row20 (R14.out.below hb5)
        have ql := (R14.out.below hb5).lt
        clear hb5
        dsimp only
        cases b2
        · go_wp2_with fail
          refine (need_no 2 _).mono ?_
          rintro e5 w5 ⟨rfl, rfl⟩
          dsimp only
          obtain rfl := HF.out
          exact ⟨rfl, rfl, HB4.out.mono (by have := HGH.out; omega)⟩
        · cases b3
          · cases hall
          · have hne2 : (low.1 != high.1) = false := hne
            go_wp2_with fail
            refine (need_no 2 _).mono ?_
            rintro e5 w5 ⟨rfl, rfl⟩
            dsimp only
            obtain rfl := HF.out
            exact ⟨rfl, rfl, HB4.out.mono (by have := HGH.out; omega)⟩
    case neg =>
      obtain ⟨rfl, rfl, rfl⟩ : b1 = true ∧ b2 = true ∧ b3 = false := by cases b1 <;> cases b2 <;> cases b3 <;> simp at hall ⊢
      have HO4 := hide (show (if es.all (apartB low high) = false then Except.error (5 : Int)
        else if (m : Int) = 1 then
          (if dep < 5 then (match ((runs (dbl es)).map (rc (dep + 1))).find? (fun x => decide (x.e = e)) with
            | none => .error 4
            | some s => .ok (dep + 1, spl low high s.at_.toNat (s.many.toNat / 2) (s.many.toNat / 2) (dbl es))) else .error 342)
        else .ok (dep, spl low high a (m / 2) (m / 2) es)) = o from by have h := HO3.out; rw [if_neg hall] at h; exact h)
      have hne2 : (low.1 != high.1) = true := hne
      have R1 := hide (R1.out.below hb4)
      have R2 := hide (R2.out.below hb4)
      have p0 := row20 R2.out
      have p1 := row21 R2.out
      have pl := R2.out.lt
      have q0 := row20 R1.out
      have ql := R1.out.lt
      have hb34 := hb4
      go_wp2_with fail
      refine (HI2.out _).mono ?_
      rintro e5 w5 ⟨rfl, hb5⟩
      have hb35 := hb34.trans (hb5.mono hb34.size)
      have R1 := hide (R1.out.below hb5)
      have R2 := hide (R2.out.below hb5)
      have HB5 := hide (HB4.out.trans (hb5.mono HB4.out.size))
      have R0 := hide (R0.out.below hb35)
      have HR := hide (HR.out.below hb35)
      have HH5 := hide (HH3.out.below hb35)
      have HW5 := hide (own_keepB HW3.out hb35)
      clear q0 q1 ql p0 p1 pl hb34 hb35 hb5 hb4 HB4 HB3 HH3 HW3 HD3 hall HO3 HI1 HI2 hne
      have p0 := row20 R2.out
      have pl := R2.out.lt
      have q0 := row20 R1.out
      have ql := R1.out.lt
      dsimp only
      go_wp2_with fail
      refine (need_ok 2 _).mono ?_
      rintro e6 w6 ⟨rfl, rfl⟩
      dsimp only
      obtain ⟨r4, hr4⟩ : ∃ r, es.all (apartB low high) = r := ⟨_, rfl⟩
      have hd1 := row21 HH5.out
      have hdl := HH5.out.lt
      have HD5 := hide (DirAt.of_own HW5.out HU.out)
      have HAL := hide (allE_any w5.heap.size A c 68 #[.pointer (some ⟨w.heap.size + 1, 0, none⟩), .pointer (some ⟨w.heap.size + 1 + 1, 0, none⟩)] (enters_of Try.func68 (by kernel_rfl) rfl) (apartB low high) (fun _ => True) es w5 HD5.out.rd (by omega) (Nat.le_refl _) (fun _ _ => trivial)
        (apart_any _ _ low high w5 R1.out R2.out) r4 hr4)
      have HR4 := hide hr4
      clear hr4
      go_wp2_with fail
      refine HAL.out.mono ?_
      rintro e7 w7 ⟨rfl, hb7⟩
      have HB4 := hide (HB5.out.trans (hb7.mono HB5.out.size))
      dsimp only
      cases r4
      · have HF := hide (show Except.error 5 = o from by have h := HO4.out; rw [if_pos HR4.out] at h; exact h)
        clear hb7 p0 pl q0 ql hd1 hdl
        go_wp2_with fail
        refine (need_no 5 _).mono ?_
        rintro e5 w5 ⟨rfl, rfl⟩
        dsimp only
        obtain rfl := HF.out
        exact ⟨rfl, rfl, HB4.out.mono (by have := HGH.out; omega)⟩
      · have HO5 := hide (show (if (m : Int) = 1 then
            (if dep < 5 then (match ((runs (dbl es)).map (rc (dep + 1))).find? (fun x => decide (x.e = e)) with
              | none => .error 4
              | some s => .ok (dep + 1, spl low high s.at_.toNat (s.many.toNat / 2) (s.many.toNat / 2) (dbl es))) else .error (342 : Int))
          else .ok (dep, spl low high a (m / 2) (m / 2) es)) = o from by have h := HO4.out; rw [if_neg (by rw [HR4.out]; exact Bool.noConfusion)] at h; exact h)
        have R0 := hide (R0.out.below hb7)
        have R1 := hide (R1.out.below hb7)
        have R2 := hide (R2.out.below hb7)
        have HR := hide (HR.out.below hb7)
        have HH7 := hide (HH5.out.below hb7)
        have HW7 := hide (own_keepB HW5.out hb7)
        clear hb7 p0 pl q0 ql hd1 hdl HH5 HW5 HD5 HAL HB5 HO4
        have x5 := HR.out.cell 5
        have xl := HR.out.lt
        go_wp2_with fail
        refine (need_ok 5 _).mono ?_
        rintro e6 w6 ⟨rfl, rfl⟩
        dsimp only
        go_upto_if 40 with (fail)
        have HAL0 := hide (fun p (hp : A = some p) => (show p.block < w.heap.size from own_lt (by subst hp; exact H.out.own)))
        go_cut [8] from 38 (fun s8 wx => s8 = .pointer (some ⟨g8, 0, none⟩) ∧ ∃ (dep2 : Int) (A2 : Option Addr) (c2 : Nat) (es2 : List En) (a2 m2 : Nat) (e2 : En) (D2 P2 : Int), MidS w wx g8 gh gs low high o dep2 A2 c2 es2 a2 m2 e2 D2 P2)
        case first =>
          by_cases hm1 : (m : Int) = 1
          case neg =>
            have hmb : ((m : Int) == 1) = false := by simpa using hm1
            have HF := hide (show Except.ok (dep, spl low high a (m / 2) (m / 2) es) = o from by have h := HO5.out; rw [if_neg hm1] at h; exact h)
            go_wp2_with fail
            go_meet
            case rel =>
              exact ⟨rfl, dep, A, c, es, a, m, es1, D, P, ⟨⟨HH7.out, HW7.out⟩, R1.out, R2.out, HR.out, ham, hl32, HF.out, HB4.out.mono (by have := HGH.out; omega), fun p hp => .inl (HAL0.out p hp)⟩⟩
          case pos =>
            have hmb : ((m : Int) == 1) = true := by simpa using hm1
            have HO6 := hide (show (if dep < 5 then (match ((runs (dbl es)).map (rc (dep + 1))).find? (fun x => decide (x.e = e)) with
              | none => .error 4
              | some s => .ok (dep + 1, spl low high s.at_.toNat (s.many.toNat / 2) (s.many.toNat / 2) (dbl es))) else .error (342 : Int)) = o from by have h := HO5.out; rw [if_pos hm1] at h; exact h)
            clear hm1
            have HDB := hide (double_dbl gh gs dep A c es w7 ⟨HH7.out, HW7.out⟩ hd0 hd5 hl32 _ rfl)
            by_cases hd : dep < 5
            case neg =>
              have HF := hide (show Except.error 342 = o from by have h := HO6.out; rw [if_neg hd] at h; exact h)
              have HDB2 := hide (show Calls Try.prog 53 #[.pointer (some ⟨gh, 0, none⟩)] w7 (fun e w' => e = .panicked (errX 342) ∧ w7 = w') from by have h := HDB.out; unfold doubleO at h; rw [if_neg hd] at h; exact h)
              go_wp2_with fail
              refine HDB2.out.mono ?_
              rintro e8 w8 ⟨rfl, rfl⟩
              dsimp only
              obtain rfl := HF.out
              exact ⟨rfl, rfl, HB4.out.mono (by have := HGH.out; omega)⟩
            case pos =>
              have HDB2 := hide (show Calls Try.prog 53 #[.pointer (some ⟨gh, 0, none⟩)] w7 (DblOk gh (dep + 1) (dbl es) w7) from by have h := HDB.out; unfold doubleO at h; rw [if_pos hd] at h; exact h)
              have HO7 := hide (show (match ((runs (dbl es)).map (rc (dep + 1))).find? (fun x => decide (x.e = e)) with
                | none => .error (4 : Int)
                | some s => .ok (dep + 1, spl low high s.at_.toNat (s.many.toNat / 2) (s.many.toNat / 2) (dbl es))) = o from by have h := HO6.out; rw [if_pos hd] at h; exact h)
              clear x5 xl
              go_wp2_with fail
              refine HDB2.out.mono ?_
              rintro e8 w8 ⟨rfl, ⟨A2, c2, hh8, hw8⟩, hp8⟩
              have hghl := HGH.out
              have hw7 := HR.out.lt
              have R0 := hide (R0.out.past hp8 (by omega))
              have R1 := hide (R1.out.past hp8 (by omega))
              have R2 := hide (R2.out.past hp8 (by omega))
              have hgg := HGG.out
              have HR := hide (HR.out.past hp8 (by omega))
              have HB8 := hide ((HB4.out.mono (show gs ≤ w.heap.size by omega)).trans (hp8.below.mono (by omega)))
              have HH8 := hide hh8
              have HW8 := hide hw8
              have hl16 : (dbl es).length ≤ 32 := by
                rw [dbl_length, HLEN.out]
                have h4 : dep.toNat ≤ 4 := by omega
                have := Nat.pow_le_pow_right (n := 2) (by omega) h4
                omega
              have huD : ∀ x ∈ dbl es, U64 x.2 := by
                intro x hx
                obtain ⟨y, hy, hxy⟩ := List.mem_flatMap.1 hx
                have : x = y := by simpa using hxy
                subst this
                exact HU.out _ hy
              have HD8 := hide (DirAt.of_own HW8.out huD)
              obtain ⟨so, hso⟩ : ∃ so, ((runs (dbl es)).map (rc (dep + 1))).find? (fun x => decide (x.e = e)) = so := ⟨_, rfl⟩
              have HSP := hide (span_any w8.heap.size gh (dep + 1) A2 c2 (dbl es) e w8 HH8.out HD8.out (Nat.le_refl _) hl16 (by omega) (by omega) so hso)
              have HO8 := hide HO7.out
              rw [hso] at HO8
              have HSO8 := hide hso
              have q0 := row20 R0.out
              have q1 := row21 R0.out
              have ql := R0.out.lt
              clear hh8 hw8 hp8 hso HDB HDB2 HO7 HO6 huD
              dsimp only
              go_wp2_with fail
              refine HSP.out.mono ?_
              rintro e9 w9 hS
              cases so with
              | none =>
                obtain ⟨rfl, hb9⟩ := hS
                obtain rfl : Except.error 4 = o := HO8.out
                dsimp only
                exact ⟨rfl, rfl, HB8.out.trans (hb9.mono (by have := HB8.out.size; omega))⟩
              | some s =>
                obtain ⟨rfl, hb9⟩ := hS
                obtain ⟨a2, m2, es3, D2, P2, rfl, hm2, ham2⟩ := reach_find HSO8.out
                have HF := hide (show Except.ok (dep + 1, spl low high a2 (m2 / 2) (m2 / 2) (dbl es)) = o from HO8.out)
                have R1 := hide (R1.out.below hb9)
                have R2 := hide (R2.out.below hb9)
                have HR := hide (HR.out.below hb9)
                have HH9 := hide (HH8.out.below hb9)
                have HW9 := hide (own_keepB HW8.out hb9)
                have HB9 := hide (HB8.out.trans (hb9.mono (by have := HB8.out.size; omega)))
                clear hb9 q0 q1 ql
                have xl := HR.out.lt
                have x0 := HR.out.cell 0
                have x1 := HR.out.cell 1
                have x2 := HR.out.cell 2
                have x3 := HR.out.cell 3
                have x4 := HR.out.cell 4
                have x5 := HR.out.cell 5
                have xf : ∀ i, w9.frozen? ⟨g8, i, none⟩ = false := fun i => HR.out.frozen i
                dsimp only
                go_wp2_with fail
                go_meet
                case rel =>
                  have hgg2 := HGG.out
                  have hgh2 := HGH.out
                  refine ⟨rfl, dep + 1, A2, c2, dbl es, a2, m2, es3, D2, P2, ?_⟩
                  show MidS w (setR w9 g8 ⟨es3, D2, P2, a2, m2⟩) g8 gh gs low high o (dep + 1) A2 c2 (dbl es) a2 m2 es3 D2 P2
                  exact ⟨⟨HH9.out.heap (setR_heap _ _ _ _ (by omega)), ownsRow_base (base := w7.heap.size) (own_other2 HW9.out (fun g hg _ => setR_heap _ _ _ _ (by omega))) (by omega)⟩,
                    R1.out.heap (setR_heap _ _ _ _ (by omega)), R2.out.heap (setR_heap _ _ _ _ (by omega)), setR_row _ HR.out, ham2, hl16, HF.out, HB9.out.trans (setR_below _ _ _ _ (by omega)), fun p hp => .inr (by have := own_fresh HW9.out p hp; omega)⟩
        case rest =>
          rename_i K hK
          refine hK _ _ ?_
          obtain ⟨rfl, dep2, A2, c2, es2, a2, m2, e2, D2, P2, hM⟩ := hcut
          have HMS := hide hM
          obtain ⟨n2, hn2⟩ : ∃ n, es2.length = n := ⟨_, rfl⟩
          have HN2 := hide hn2
          obtain ⟨H, hH⟩ : ∃ H, m2 / 2 = H := ⟨_, rfl⟩
          have HHH := hide hH
          have hHi : (m2 : Int) / 2 = (H : Int) := by rw [← hH]; omega
          have hM2 : m2 ≤ 64 := by have h1 := hM.fits; have h2 := hM.small; omega
          have hfit : a2 + 2 * H ≤ n2 := by have h1 := hM.fits; omega
          have hn32 : n2 ≤ 32 := by have h2 := hM.small; omega
          have x5 := hM.reach.cell 5
          have xl := hM.reach.lt
          clear hM hn2 hK
          have hH32 : H ≤ 32 := by omega
          go_upto_region 9 with (fail)
          clear hHi x5 xl hH
          go_wp2_with fail
          go_loopw [50] (fun i wr => ∃ k : Nat, k ≤ H ∧ i = .int .i64 k ∧ RowAt wr gh 71 #[.int .i64 dep2, .slice A2 n2 c2] ∧ wr.ownsRow gs 31 2 (.slice A2 n2 c2) n2 (Cs encE (spl low high a2 H k es2)) ∧
            RowAt wr (w.heap.size + 1) 31 #[.int .i64 low.1, .int .u64 low.2] ∧ RowAt wr (w.heap.size + 1 + 1) 31 #[.int .i64 high.1, .int .u64 high.2] ∧ RowAt wr g8 33 (rC ⟨e2, D2, P2, a2, m2⟩) ∧ Below gs w wr) (fun i _ => H - (intOf i).toNat)
          case atStart =>
            have h1 := HMS.out.hand.hand
            have h2 := HMS.out.hand.own
            rw [HN2.out] at h1 h2
            exact ⟨0, Nat.zero_le _, rfl, h1, h2, HMS.out.low, HMS.out.high, HMS.out.reach, HMS.out.below⟩
          case round =>
            obtain ⟨k, hk, rfl, hh, hw, hlo, hhi, hre, hbe⟩ := hrel
            have HHr := hide hh
            have HWr := hide hw
            have HLr := hide hlo
            have HGr := hide hhi
            have HRr := hide hre
            have HBr := hide hbe
            have hgh := HGH.out
            have hgg := HGG.out
            by_cases hlt : k < H
            · have hki : (k : Int) < (H : Int) := by omega
              have hsl : (spl low high a2 H k es2).length = n2 := by rw [spl_length]; exact HN2.out
              obtain ⟨g, cur, rfl, hgr, hge⟩ := own_some hw (by omega)
              have hgne := row_ne hgr hh (by decide)
              have hgne2 := HMS.out.ne _ rfl
              dsimp only at hgne2
              obtain ⟨⟨u1, c10, c11⟩, hgl, hgf, _⟩ := own_cellsE hw hsl (show a2 + k < n2 by omega)
              obtain ⟨⟨u2, c20, c21⟩, _, _, _⟩ := own_cellsE hw hsl (show a2 + H + k < n2 by omega)
              have d1 := row21 hh
              have dl := hh.lt
              have x4 := hre.cell 4
              have xl := hre.lt
              have l0 := row20 hlo
              have l1 := row21 hlo
              have ll := hlo.lt
              have h0 := row20 hhi
              have h1 := row21 hhi
              have hl := hhi.lt
              have hi1 : (a2 : Int) + (k : Int) < (n2 : Int) := by omega
              have hi2 : (a2 : Int) + (H : Int) + (k : Int) < (n2 : Int) := by omega
              have ha32 : (a2 : Int) ≤ 32 := by omega
              have n1 : ¬ (gh = g) := fun h => hgne h.symm
              have n1b : ¬ (g = gh) := hgne
              have n2a : ¬ (w.heap.size + 1 = g) := by omega
              have n2b : ¬ (w.heap.size + 1 + 1 = g) := by omega
              have n2c : ¬ (g8 = g) := by omega
              have n3a : ¬ ((a2 + k) * 2 = (a2 + H + k) * 2) := by omega
              have n3b : ¬ ((a2 + k) * 2 + 1 = (a2 + H + k) * 2) := by omega
              have n3c : ¬ ((a2 + k) * 2 = (a2 + H + k) * 2 + 1) := by omega
              have n3d : ¬ ((a2 + k) * 2 + 1 = (a2 + H + k) * 2 + 1) := by omega
              clear hh hw hlo hhi hre hbe hgr hgne hgne2
              have hgef : gs ≤ g := hge
              clear hge
              have HPUT := hide (show World.ownsRow ((((wr.setCell ⟨g, (a2 + k) * 2, none⟩ (.int .i64 low.1)).setCell ⟨g, (a2 + k) * 2 + 1, none⟩ (.int .u64 low.2)).setCell ⟨g, (a2 + H + k) * 2, none⟩ (.int .i64 high.1)).setCell ⟨g, (a2 + H + k) * 2 + 1, none⟩ (.int .u64 high.2)).drew gs 31 2 (.slice (some ⟨g, 0, none⟩) n2 c2) n2 (Cs encE (spl low high a2 H (k + 1) es2)) from own_put (own_put HWr.out (a2 + k) (by omega) low) (a2 + H + k) (by omega) high)
              have HHn := hide (show RowAt ((((wr.setCell ⟨g, (a2 + k) * 2, none⟩ (.int .i64 low.1)).setCell ⟨g, (a2 + k) * 2 + 1, none⟩ (.int .u64 low.2)).setCell ⟨g, (a2 + H + k) * 2, none⟩ (.int .i64 high.1)).setCell ⟨g, (a2 + H + k) * 2 + 1, none⟩ (.int .u64 high.2)).drew gh 71 #[.int .i64 dep2, .slice (some ⟨g, 0, none⟩) n2 c2] from (((HHr.out.setNe n1).setNe n1).setNe n1).setNe n1)
              have HLn := hide (show RowAt ((((wr.setCell ⟨g, (a2 + k) * 2, none⟩ (.int .i64 low.1)).setCell ⟨g, (a2 + k) * 2 + 1, none⟩ (.int .u64 low.2)).setCell ⟨g, (a2 + H + k) * 2, none⟩ (.int .i64 high.1)).setCell ⟨g, (a2 + H + k) * 2 + 1, none⟩ (.int .u64 high.2)).drew (w.heap.size + 1) 31 #[.int .i64 low.1, .int .u64 low.2] from (((HLr.out.setNe n2a).setNe n2a).setNe n2a).setNe n2a)
              have HGn := hide (show RowAt ((((wr.setCell ⟨g, (a2 + k) * 2, none⟩ (.int .i64 low.1)).setCell ⟨g, (a2 + k) * 2 + 1, none⟩ (.int .u64 low.2)).setCell ⟨g, (a2 + H + k) * 2, none⟩ (.int .i64 high.1)).setCell ⟨g, (a2 + H + k) * 2 + 1, none⟩ (.int .u64 high.2)).drew (w.heap.size + 1 + 1) 31 #[.int .i64 high.1, .int .u64 high.2] from (((HGr.out.setNe n2b).setNe n2b).setNe n2b).setNe n2b)
              have HRn := hide (show RowAt ((((wr.setCell ⟨g, (a2 + k) * 2, none⟩ (.int .i64 low.1)).setCell ⟨g, (a2 + k) * 2 + 1, none⟩ (.int .u64 low.2)).setCell ⟨g, (a2 + H + k) * 2, none⟩ (.int .i64 high.1)).setCell ⟨g, (a2 + H + k) * 2 + 1, none⟩ (.int .u64 high.2)).drew g8 33 (rC ⟨e2, D2, P2, a2, m2⟩) from (((HRr.out.setNe n2c).setNe n2c).setNe n2c).setNe n2c)
              have HBn := hide (show Below gs w ((((wr.setCell ⟨g, (a2 + k) * 2, none⟩ (.int .i64 low.1)).setCell ⟨g, (a2 + k) * 2 + 1, none⟩ (.int .u64 low.2)).setCell ⟨g, (a2 + H + k) * 2, none⟩ (.int .i64 high.1)).setCell ⟨g, (a2 + H + k) * 2 + 1, none⟩ (.int .u64 high.2)).drew from ((((HBr.out.setCell (p := ⟨g, (a2 + k) * 2, none⟩) hgef _).setCell (p := ⟨g, (a2 + k) * 2 + 1, none⟩) hgef _).setCell (p := ⟨g, (a2 + H + k) * 2, none⟩) hgef _).setCell (p := ⟨g, (a2 + H + k) * 2 + 1, none⟩) hgef _).drew)
              go_wp2_with fail
              go_upto_region 12 with (fail)
              go_region
              generalize ((((wr.setCell ⟨g, (a2 + k) * 2, none⟩ (.int .i64 low.1)).setCell ⟨g, (a2 + k) * 2 + 1, none⟩ (.int .u64 low.2)).setCell ⟨g, (a2 + H + k) * 2, none⟩ (.int .i64 high.1)).setCell ⟨g, (a2 + H + k) * 2 + 1, none⟩ (.int .u64 high.2)).drew = w9 at *
              clear c10 c11 c20 c21 d1 x4 l0 l1 h0 h1 hgl dl xl ll hl hgf
              go_wp2_with fail
              go_roundw
              case rel => exact ⟨k + 1, by omega, by go_num, HHn.out, HPUT.out, HLn.out, HGn.out, HRn.out, HBn.out⟩
              case measure => simp [intOf]; omega
            · obtain rfl : k = H := by omega
              have HF := hide (show Except.ok (dep2, spl low high a2 k k es2) = o from by have h := HMS.out.out; rw [HHH.out] at h; exact h)
              clear hh hw hlo hhi hre hbe
              go_wp2_with fail
              go_end0
              obtain rfl := HF.out
              refine ⟨rfl, ⟨A2, c2, ?_, ?_⟩, HBr.out⟩
              · show RowAt _ gh 71 #[.int .i64 dep2, .slice A2 (spl low high a2 k k es2).length c2]
                rw [spl_length, HN2.out]
                exact HHr.out
              · show World.ownsRow _ gs 31 2 (.slice A2 (spl low high a2 k k es2).length c2) (spl low high a2 k k es2).length _
                rw [spl_length, HN2.out]
                exact HWr.out
end Go.Proofs.Ytjlbnegdiabglaa

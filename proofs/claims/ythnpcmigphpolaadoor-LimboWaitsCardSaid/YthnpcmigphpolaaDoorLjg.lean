/-
  LimboWaits: what was retired in an epoch is ready just when the epoch is two more, and is taken once, in order.
-/
import Derived.Test.YthnpcmigphpolaaDoorLjgp
import Derived.Deep.RegionHeld3
set_option linter.unusedSimpArgs false
set_option linter.unusedVariables false
namespace Go.Proofs.YthnpcmigphpolaaDoor
open Go Go.RowKit
attribute [local go_sem] via_cell via_frozen

theorem when_zero (s : Int) (w : World) : Calls Tryd.prog 24 #[.agg zeroC, .int .i64 s] w fun e w' => e = .returned (.tuple #[.int .u64 0, .bool false]) ∧ Below w.heap.size w w' :=
  when_any 0 (fun _ => none) (fun _ => 0) (fun _ => 0) lim0 s w (zero_rd w 0) (by decide) (Nat.zero_le _) (fun _ _ => by omega) gen_zero 0 false (whenR_zero s)
/-- What the law holds: the limbo in its box, and what waits. -/
structure WtAt (W wr : World) (g5 : Nat) (l : Lim) (A : Nat → Option Addr) (n c : Nat → Nat) (v : Value) : Prop where
  row : RowAt wr g5 26 (limC l.E A n c)
  rd : LimRd wr wr.heap.size A n l.r
  ok : l.ok = true
  gen : GenOk l
  own : OwnO wr (g5 + 1) 34 2 v l.held.length (Cs encE l.held)
  below : Below W.heap.size W wr
  ge : W.heap.size ≤ g5
def WtEx (W wr : World) (g5 : Nat) (v : Value) : Prop := ∃ l A n c, WtAt W wr g5 l A n c v
def WtDr (W wr : World) (g5 : Nat) (l : Lim) (i : Nat) (v : Value) : Prop := ∃ A n c, WtAt W wr g5 (drn l i) A n c v
theorem WtAt.later {W wr w2 : World} {g5 : Nat} {l : Lim} {A : Nat → Option Addr} {n c : Nat → Nat} {v : Value} (h : WtAt W wr g5 l A n c v) (hb : Below wr.heap.size wr w2) : WtAt W w2 g5 l A n c v :=
  ⟨h.row.below hb, (h.rd.below hb).more hb.size, h.ok, h.gen, h.own.keepB hb, h.below.trans (hb.mono h.below.size), h.ge⟩
theorem WtAt.lens {W wr : World} {g5 : Nat} {l : Lim} {A : Nat → Option Addr} {n c : Nat → Nat} {v : Value} (h : WtAt W wr g5 l A n c v) : ∀ k, k < 3 → n k ≤ 4096 := fun k hk => by have := lens_ok h.ok h.rd.len k hk; omega
theorem WtAt.E {W wr : World} {g5 : Nat} {l : Lim} {A : Nat → Option Addr} {n c : Nat → Nat} {v : Value} (h : WtAt W wr g5 l A n c v) : l.E < 18446744073709551616 := by have := (ok_out h.ok).1; unfold LAST at this; omega
/-- Another limbo is laid into the box. -/
theorem WtAt.put {W w w2 : World} {g5 base : Nat} {l2 : Lim} {A2 : Nat → Option Addr} {n2 c2 : Nat → Nat} {v2 : Value} (h : Below W.heap.size W w) (hge : W.heap.size ≤ g5) (hl : LaidL g5 w (limC l2.E A2 n2 c2) w2) (hrd : LimOwn w base A2 n2 c2 l2.r) (hb : g5 < base) (ho : l2.ok = true) (hg : GenOk l2)
    (hown : OwnO w (g5 + 1) 34 2 v2 l2.held.length (Cs encE l2.held)) : WtAt W w2 g5 l2 A2 n2 c2 v2 :=
  ⟨hl.row, (hrd.other (fun j h1 h2 => hl.block j (by omega))).rd, ho, hg, hown.other (fun g h1 _ _ => hl.block g (by omega)), h.trans (hl.below.mono hge), hge⟩
theorem grown_from {w X w2 : World} {row : Option Nat} (hg : X.grownBy w2 row) (hx : Below w.heap.size w X) : ∀ j, j < w.heap.size → some j ≠ row → w2.heap[j]? = w.heap[j]? := fun j hj hn => (hg.block j (Nat.lt_of_lt_of_le hj hx.size) hn).trans (hx.block j hj)
theorem grown_below {B : Nat} {w X w2 : World} {row : Option Nat} (hg : X.grownBy w2 row) (hx : Below w.heap.size w X) (hr : ∀ g, some g = row → B ≤ g) (hB : B ≤ w.heap.size) : Below B w w2 :=
  (hx.mono hB).trans ((Below.refl B X).grown hg (Nat.le_trans hB hx.size) (fun g h => hr g h.symm))
theorem cell_lt2 {w : World} {g o : Nat} {v : Value} (h : w.cell? ⟨g, o, none⟩ = some v) : g < w.heap.size := by
  rcases Nat.lt_or_ge g w.heap.size with hlt | hge
  · exact hlt
  · unfold World.cell? at h; simp only [] at h; rw [Array.getElem?_eq_none hge] at h; cases h
theorem outResT_ok {w w' : World} {r : Except Int (Lim × Ent)} {L : Lim} {x : Ent} {e : Ending} (h : OutResT w r e w') (hr : r = .ok (L, x)) : ∃ A' n' c', (e = .returned (.tuple #[.agg (limC L.E A' n' c'), .agg (entC x), .int .i64 0]) ∧ LimOwn w' w.heap.size A' n' c' L.r) ∧ Below w.heap.size w w' := by
  obtain ⟨hb, hh⟩ := h
  rcases hh with ⟨l', y, A', n', c', h1, he, ho⟩ | ⟨k, h1, _⟩
  · rw [hr] at h1
    injection h1 with h1
    injection h1 with h1 h2
    subst h1; subst h2
    exact ⟨A', n', c', ⟨he, ho⟩, hb⟩
  · rw [hr] at h1; cases h1
set_option maxRecDepth 100000 in
set_option maxHeartbeats 8000000 in
theorem Waits_walk (B : Nat) (A : Nat → Option Addr) (n c : Nat → Nat) (l : Lim) (A1 : Option Addr) (c1 n1 : Nat) (st : List Ent) (W : World) (hT : OnAt W W.heap.size) (h : LimRd W B A n l.r) (hB : B ≤ W.heap.size) (hE : l.E < 18446744073709551616)
    (hc : ∀ k, k < 3 → (n k : Int) ≤ (c k : Int) ∧ (c k : Int) ≤ 9223372036854775807) (hg : GenOk l) (hr1 : Rd W W.heap.size 2 A1 n1 (Cs encE st)) (hx1 : st.length = n1) (hu1 : ∀ e ∈ st, 0 ≤ e.2 ∧ e.2 < 18446744073709551616) (hn1 : n1 ≤ c1) (hm1 : c1 ≤ 9223372036854775807) :
    Calls Tryd.prog 5 #[.agg (limC l.E A n c), .slice A1 n1 c1] W fun e W' => e = .returned (.bool true) ∧ Below W.heap.size W W' := by
  have HBN := hide (show Below W.heap.size W (W.alloc (.cells (limC l.E A n c) 26)) from (Below.refl _ _).alloc (Nat.le_refl _) _)
  have HRN := hide (RowAt.new W 26 (limC l.E A n c))
  have H := hide h
  have HG := hide (gen_cut hg)
  have HEQ := hide hE
  have HCC := hide hc
  have HST := hide hr1
  have HSX := hide hx1
  have HSU := hide hu1
  have hnm : n1 ≤ 9223372036854775807 := by omega
  have HW := hide (wakes_any W.heap.size _ (hT.below HBN.out) HBN.out.size)
  clear hT h hg hE hc hr1 hx1 hu1
  go_enter Tryd.func5, Tryd.ntmps5
  go_wp2_with fail
  generalize W.alloc (.cells (limC l.E A n c) 26) = w0 at *
  with_reducible refine HW.out.mono ?_
  rintro e w1 ⟨rfl, hb1⟩
  have HR1 := hide (HRN.out.below hb1)
  have HB1 := hide (HBN.out.trans (hb1.mono HBN.out.size))
  clear hb1 HW HRN
  have q0 : w1.cell? ⟨W.heap.size, 0, none⟩ = some (.int .u64 (l.E : Int)) := by have := HR1.out.cell 0; simpa [limC] using this
  have q1 : w1.cell? ⟨W.heap.size, 1, none⟩ = some (.slice (A 0) (n 0) (c 0)) := by have := HR1.out.cell 1; simpa [limC] using this
  have q2 : w1.cell? ⟨W.heap.size, 2, none⟩ = some (.slice (A 1) (n 1) (c 1)) := by have := HR1.out.cell 2; simpa [limC] using this
  have q3 : w1.cell? ⟨W.heap.size, 3, none⟩ = some (.slice (A 2) (n 2) (c 2)) := by have := HR1.out.cell 3; simpa [limC] using this
  have ql := HR1.out.lt
  have HO := hide (own_any B A n c l w1 (H.out.below (HB1.out.mono hB)) (Nat.le_trans hB HB1.out.size) HCC.out)
  go_wp2_with fail
  with_reducible refine HO.out.mono ?_
  rintro e w2 ⟨A2, c2, rfl, hown, hb2⟩
  have HL2 := hide hown.rd
  have HB2 := hide (HB1.out.trans (hb2.mono HB1.out.size))
  clear q0 q1 q2 q3 ql HO hown hb2 HR1
  obtain ⟨lc, hlc⟩ : ∃ lc, l.cut = lc := ⟨_, rfl⟩
  have hEE : l.E = lc.E := by rw [← hlc]; rfl
  rw [hlc] at HL2 HG
  rw [hEE] at HEQ ⊢
  obtain ⟨m, hm⟩ : ∃ m, cutN l = m := ⟨_, rfl⟩
  have HM := hide (show ∀ k, k < 3 → m k ≤ 4096 from fun k _ => by rw [← hm]; have := cutN_le l k; omega)
  rw [hm] at HL2 ⊢
  clear hlc hEE hm H HCC
  have HR3 := hide (RowAt.new w2 26 (limC lc.E A2 m c2))
  have HBN3 := hide (show Below w2.heap.size w2 (w2.alloc (.cells (limC lc.E A2 m c2) 26)) from (Below.refl _ _).alloc (Nat.le_refl _) _)
  go_upto_region 4 with (fail)
  generalize w2.alloc (.cells (limC lc.E A2 m c2) 26) = w3 at *
  have HL3 := hide ((HL2.out.below HBN3.out).more HBN3.out.size)
  have HB3 := hide (HB2.out.trans (HBN3.out.mono HB2.out.size))
  have hg5 : W.heap.size ≤ w2.heap.size := HB2.out.size
  clear HBN3 HL2
  generalize w2.heap.size = g5 at *
  have q0 : w3.cell? ⟨g5, 0, none⟩ = some (.int .u64 (lc.E : Int)) := by have := RowAt.cell HR3.out 0; simpa [limC] using this
  have q1 : w3.cell? ⟨g5, 1, none⟩ = some (.slice (A2 0) (m 0) (c2 0)) := by have := RowAt.cell HR3.out 1; simpa [limC] using this
  have q2 : w3.cell? ⟨g5, 2, none⟩ = some (.slice (A2 1) (m 1) (c2 1)) := by have := RowAt.cell HR3.out 2; simpa [limC] using this
  have q3 : w3.cell? ⟨g5, 3, none⟩ = some (.slice (A2 2) (m 2) (c2 2)) := by have := RowAt.cell HR3.out 3; simpa [limC] using this
  have ql := HR3.out.lt
  have HCH := hide (fun r hr => check_any w3.heap.size A2 m c2 lc w3 HL3.out HEQ.out (Nat.le_refl _) HM.out HG.out r hr)
  rcases Bool.eq_false_or_eq_true lc.ok with hok | hok
  case inr =>
    have HC := hide (HCH.out 240 (by rw [hok]; rfl))
    go_wp2_with fail
    with_reducible refine HC.out.mono ?_
    rintro e w4 ⟨rfl, hb4⟩
    have HL4 := hide ((HL3.out.below hb4).more hb4.size)
    have HR4 := hide (HR3.out.below hb4)
    have HB4 := hide (HB3.out.trans (hb4.mono HB3.out.size))
    clear q0 q1 q2 q3 ql HC HCH hb4
    have q0 : w4.cell? ⟨g5, 0, none⟩ = some (.int .u64 (lc.E : Int)) := by have := RowAt.cell HR4.out 0; simpa [limC] using this
    have q1 : w4.cell? ⟨g5, 1, none⟩ = some (.slice (A2 0) (m 0) (c2 0)) := by have := RowAt.cell HR4.out 1; simpa [limC] using this
    have q2 : w4.cell? ⟨g5, 2, none⟩ = some (.slice (A2 1) (m 1) (c2 1)) := by have := RowAt.cell HR4.out 2; simpa [limC] using this
    have q3 : w4.cell? ⟨g5, 3, none⟩ = some (.slice (A2 2) (m 2) (c2 2)) := by have := RowAt.cell HR4.out 3; simpa [limC] using this
    have ql := HR4.out.lt
    have HHD := hide (held_any w4.heap.size A2 m c2 lc w4 HL4.out HEQ.out (Nat.le_refl _) HM.out HG.out [] (by rw [hok]; rfl))
    go_wp2_with fail
    with_reducible refine HHD.out.mono ?_
    rintro e w5 ⟨v9, rfl, ho9, hb9⟩
    obtain ⟨A9, c9, rfl, _⟩ := own_form ho9
    have HB9 := hide (HB4.out.trans (hb9.mono HB4.out.size))
    go_wp2_with fail
    go_ret
    exact ⟨rfl, HB9.out⟩
  have HC := hide (HCH.out 0 (by rw [hok]; rfl))
  go_wp2_with fail
  with_reducible refine HC.out.mono ?_
  rintro e w4 ⟨rfl, hb4⟩
  have HL4 := hide ((HL3.out.below hb4).more hb4.size)
  have HR4 := hide (HR3.out.below hb4)
  have HB4 := hide (HB3.out.trans (hb4.mono HB3.out.size))
  clear q0 q1 q2 q3 ql HC HCH hb4
  have q0 : w4.cell? ⟨g5, 0, none⟩ = some (.int .u64 (lc.E : Int)) := by have := RowAt.cell HR4.out 0; simpa [limC] using this
  have q1 : w4.cell? ⟨g5, 1, none⟩ = some (.slice (A2 0) (m 0) (c2 0)) := by have := RowAt.cell HR4.out 1; simpa [limC] using this
  have q2 : w4.cell? ⟨g5, 2, none⟩ = some (.slice (A2 1) (m 1) (c2 1)) := by have := RowAt.cell HR4.out 2; simpa [limC] using this
  have q3 : w4.cell? ⟨g5, 3, none⟩ = some (.slice (A2 2) (m 2) (c2 2)) := by have := RowAt.cell HR4.out 3; simpa [limC] using this
  have ql := HR4.out.lt
  have HHD := hide (held_any w4.heap.size A2 m c2 lc w4 HL4.out HEQ.out (Nat.le_refl _) HM.out HG.out lc.held (by rw [hok]; rfl))
  go_wp2_with fail
  with_reducible refine HHD.out.mono ?_
  rintro e w5 ⟨v0, rfl, ho5, hb5⟩
  have HS0 := hide (show WtAt W w5 g5 lc A2 m c2 v0 from ⟨HR4.out.below hb5, (HL4.out.below hb5).more hb5.size, hok, HG.out, (OwnO.of_own ho5).lower (by have := HR4.out.lt; omega), HB4.out.trans (hb5.mono HB4.out.size), hg5⟩)
  clear q0 q1 q2 q3 ql HHD ho5 hb5 HL4 HR4 HB4 HR3 HL3 HB3 HB2 HB1 HBN hok HM HG HEQ
  go_wp2_with fail
  go_loopw [6, 39] (fun s6 i wr => ∃ (j : Nat) (v : Value), j ≤ n1 ∧ j ≤ 30 ∧ i = .int .i64 (j : Int) ∧ s6 = v ∧ WtEx W wr g5 v) (fun _ i _ => n1 - (intOf i).toNat)
  case atStart => exact ⟨0, v0, Nat.zero_le _, Nat.zero_le _, rfl, rfl, lc, A2, m, c2, HS0.out⟩
  case round =>
    obtain ⟨j, v, hj, hj30, rfl, rfl, la, Aa, na, ca, hst⟩ := hrel
    have HS := hide hst
    obtain ⟨Av, cv, rfl, hcv, hcvm⟩ := hst.own.form
    clear hst HS0
    by_cases hlt : j < n1
    case neg =>
      have q0 : wr.cell? ⟨g5, 0, none⟩ = some (.int .u64 (la.E : Int)) := by have := RowAt.cell HS.out.row 0; simpa [limC] using this
      have q1 : wr.cell? ⟨g5, 1, none⟩ = some (.slice (Aa 0) (na 0) (ca 0)) := by have := RowAt.cell HS.out.row 1; simpa [limC] using this
      have q2 : wr.cell? ⟨g5, 2, none⟩ = some (.slice (Aa 1) (na 1) (ca 1)) := by have := RowAt.cell HS.out.row 2; simpa [limC] using this
      have q3 : wr.cell? ⟨g5, 3, none⟩ = some (.slice (Aa 2) (na 2) (ca 2)) := by have := RowAt.cell HS.out.row 3; simpa [limC] using this
      have ql := HS.out.row.lt
      have HHD := hide (held_any wr.heap.size Aa na ca la wr HS.out.rd HS.out.E (Nat.le_refl _) HS.out.lens HS.out.gen la.held (by rw [HS.out.ok]; rfl))
      have hhl := ok_held_len HS.out.ok
      go_wp2_with fail
      with_reducible refine HHD.out.mono ?_
      rintro e wa1 ⟨vh, rfl, hoh, hba⟩
      obtain ⟨Ah, ch, rfl, _⟩ := own_form hoh
      have HHR := hide (Rd.of_own hoh)
      have HS := hide (HS.out.later hba)
      clear q0 q1 q2 q3 ql HHD hoh hba
      have HEQE := hide (EqualE wa1.heap.size wa1.heap.size Ah Av ch cv la.held la.held wa1 HHR.out HS.out.own.rd (Nat.le_refl _) (Nat.le_refl _) (by omega) (by omega) true (by simp))
      go_wp2_with fail
      with_reducible refine HEQE.out.mono ?_
      rintro e wa2 ⟨rfl, hba⟩
      have HS := hide (HS.out.later hba)
      clear HEQE HHR hba
      have q0 : wa2.cell? ⟨g5, 0, none⟩ = some (.int .u64 (la.E : Int)) := by have := RowAt.cell HS.out.row 0; simpa [limC] using this
      have q1 : wa2.cell? ⟨g5, 1, none⟩ = some (.slice (Aa 0) (na 0) (ca 0)) := by have := RowAt.cell HS.out.row 1; simpa [limC] using this
      have q2 : wa2.cell? ⟨g5, 2, none⟩ = some (.slice (Aa 1) (na 1) (ca 1)) := by have := RowAt.cell HS.out.row 2; simpa [limC] using this
      have q3 : wa2.cell? ⟨g5, 3, none⟩ = some (.slice (Aa 2) (na 2) (ca 2)) := by have := RowAt.cell HS.out.row 3; simpa [limC] using this
      have ql := HS.out.row.lt
      have HC := hide (check_any wa2.heap.size Aa na ca la wa2 HS.out.rd HS.out.E (Nat.le_refl _) HS.out.lens HS.out.gen 0 (by rw [HS.out.ok]; rfl))
      go_wp2_with fail
      with_reducible refine HC.out.mono ?_
      rintro e wa3 ⟨rfl, hba⟩
      have HS := hide (HS.out.later hba)
      clear q0 q1 q2 q3 ql HC hba
      obtain ⟨mh, hmh⟩ : ∃ mh, la.held.length = mh := ⟨_, rfl⟩
      have HMH := hide hmh
      have hmh8 : mh ≤ 128 := by omega
      rw [hmh]
      clear hmh hhl
      go_wp2_with fail
      go_loopw [153] (fun i wr => ∃ (k : Nat), k ≤ mh ∧ i = .int .i64 (k : Int) ∧ Below wa3.heap.size wa3 wr) (fun i _ => mh - (intOf i).toNat)
      case atStart => exact ⟨0, Nat.zero_le _, rfl, Below.refl _ _⟩
      case round =>
        obtain ⟨k, hk, rfl, hbw⟩ := hrel
        have HS2 := hide (HS.out.later hbw)
        have HBW := hide hbw
        clear hbw
        by_cases hltk : k < mh
        case neg =>
          have HF := hide HS2.out.below
          go_wp2_with fail
          go_ret
          exact ⟨rfl, HF.out⟩
        have hkI : (k : Int) < (mh : Int) := by omega
        have hkh : k < la.held.length := by rw [HMH.out]; exact hltk
        obtain ⟨bk, ok_, hAk, hbk, d0, d1⟩ := HS2.out.own.rd.ent rfl hkh
        obtain ⟨ak, ha2, haE, hwh, hdk⟩ := when_kth HS2.out.ok hkh
        subst hAk
        obtain ⟨y, hy⟩ : ∃ y, la.held.getD k (0, 0) = y := ⟨_, rfl⟩
        rw [hy] at d0 d1 hwh
        obtain ⟨ys, yg⟩ := y
        dsimp only at d0 d1 hwh
        clear hy hkh
        have HBN := hide (show Below wr.heap.size wr (wr.alloc (.cells #[.int .i64 ys, .int .u64 yg] 34)) from (Below.refl _ _).alloc (Nat.le_refl _) _)
        have HRE := hide (RowAt.new wr 34 #[.int .i64 ys, .int .u64 yg])
        go_upto_region 36 with (fail)
        generalize wr.alloc (.cells #[.int .i64 ys, .int .u64 yg] 34) = wb1 at *
        have HS2 := hide (HS2.out.later HBN.out)
        have HBW := hide (HBW.out.trans (HBN.out.mono HBW.out.size))
        clear d0 d1 hbk HBN
        generalize wr.heap.size = g21 at *
        have e0 := row20 HRE.out
        have e1 := row21 HRE.out
        have el := HRE.out.lt
        have q0 : wb1.cell? ⟨g5, 0, none⟩ = some (.int .u64 (la.E : Int)) := by have := RowAt.cell HS2.out.row 0; simpa [limC] using this
        have q1 : wb1.cell? ⟨g5, 1, none⟩ = some (.slice (Aa 0) (na 0) (ca 0)) := by have := RowAt.cell HS2.out.row 1; simpa [limC] using this
        have q2 : wb1.cell? ⟨g5, 2, none⟩ = some (.slice (Aa 1) (na 1) (ca 1)) := by have := RowAt.cell HS2.out.row 2; simpa [limC] using this
        have q3 : wb1.cell? ⟨g5, 3, none⟩ = some (.slice (Aa 2) (na 2) (ca 2)) := by have := RowAt.cell HS2.out.row 3; simpa [limC] using this
        have ql := HS2.out.row.lt
        have HWH := hide (when_any wb1.heap.size Aa na ca la ys wb1 HS2.out.rd HS2.out.E (Nat.le_refl _) HS2.out.lens HS2.out.gen ((la.E : Int) - (ak : Int)) true hwh)
        clear hwh
        go_wp2_with fail
        with_reducible refine HWH.out.mono ?_
        rintro e wb2 ⟨rfl, hb2⟩
        have HS2 := hide (HS2.out.later hb2)
        have HBW := hide (HBW.out.trans (hb2.mono HBW.out.size))
        clear q0 q1 q2 q3 ql e0 e1 el HWH hb2 HRE
        have q0 : wb2.cell? ⟨g5, 0, none⟩ = some (.int .u64 (la.E : Int)) := by have := RowAt.cell HS2.out.row 0; simpa [limC] using this
        have q1 : wb2.cell? ⟨g5, 1, none⟩ = some (.slice (Aa 0) (na 0) (ca 0)) := by have := RowAt.cell HS2.out.row 1; simpa [limC] using this
        have q2 : wb2.cell? ⟨g5, 2, none⟩ = some (.slice (Aa 1) (na 1) (ca 1)) := by have := RowAt.cell HS2.out.row 2; simpa [limC] using this
        have q3 : wb2.cell? ⟨g5, 3, none⟩ = some (.slice (Aa 2) (na 2) (ca 2)) := by have := RowAt.cell HS2.out.row 3; simpa [limC] using this
        have ql := HS2.out.row.lt
        have haE2 : (ak : Int) ≤ (la.E : Int) := by omega
        have ha0 : (0 : Int) ≤ (ak : Int) := by omega
        have ha2I : (ak : Int) ≤ 2 := by omega
        have hEL : (la.E : Int) ≤ 4611686018427387904 := by have := (ok_out HS2.out.ok).1; unfold LAST at this; omega
        have hw2 : IntKind.u64.wrap ((la.E : Int) - (ak : Int) + 2) = (la.E : Int) - (ak : Int) + 2 := IntWalk.u64_in _ (by omega)
        have hc1 : decide ((la.E : Int) < (la.E : Int) - (ak : Int)) = false := by rw [decide_eq_false_iff_not]; omega
        have hc2 : decide ((la.E : Int) - (ak : Int) + 2 < (la.E : Int)) = false := by rw [decide_eq_false_iff_not]; omega
        obtain ⟨N2, hN2⟩ : ∃ N2, (la.at 2).length = N2 := ⟨_, rfl⟩
        rw [hN2] at hdk
        obtain ⟨q9, hq9⟩ : ∃ q9, decide (k < N2) = q9 := ⟨_, rfl⟩
        have hqE : ((la.E : Int) - (ak : Int) + 2 == (la.E : Int)) = q9 := by
          rw [← hq9, ← hdk, Bool.eq_iff_iff, beq_iff_eq, decide_eq_true_eq]; omega
        have hqI : decide ((k : Int) < (N2 : Int)) = q9 := by rw [← hq9]; congr 1; exact propext (by omega)
        have hqq : (q9 != q9) = false := by simp
        have HRD := hide (fun (w : World) (hb : Below wb2.heap.size wb2 w) => show Calls Tryd.prog 25 #[.agg (limC la.E Aa na ca)] w fun e W' => ∃ v, e = .returned v ∧ W'.ownsRow w.heap.size 34 2 v N2 (Cs encE (la.at 2)) ∧ Below w.heap.size w W' from by rw [← hN2]; exact ready_any wb2.heap.size Aa na ca la w (HS2.out.rd.below hb) HS2.out.E hb.size HS2.out.lens HS2.out.gen (la.at 2) (by rw [HS2.out.ok]; rfl))
        clear hdk ha2 haE hN2
        go_upto_region 37 with (fail)
        refine wp_region_held_drew (S := fun wX => Below wb2.heap.size wb2 wX) (by kernel_rfl) (Below.refl _ _).drew (fun hHeld => ?_)
        have HQ := hide ((Below.refl wb2.heap.size wb2).drew)
        (refine wpAnyH_take (i := 0) (v := ?_) rfl (by kernel_rfl) (by kernel_rfl) (by kernel_rfl) (fun _ _ _ h => h) (Or.inl ⟨by rfl, ?_⟩) (by assumption) ?_; rotate_left; (focus (intro w hSw; (try dsimp only at hSw); go_simp; first | done | with_reducible rfl)); (try simp only [Act.put, List.getElem_toArray, List.getElem_cons_succ, List.getElem_cons_zero, List.setIfInBounds_toArray, List.set_cons_zero, List.set_cons_succ]))
        (refine wpAnyH_take (i := 1) (v := ?_) rfl (by kernel_rfl) (by kernel_rfl) (by kernel_rfl) (fun _ _ _ h => h) (Or.inl ⟨by rfl, ?_⟩) (by assumption) ?_; rotate_left; (focus (intro w hSw; (try dsimp only at hSw); go_simp; first | done | with_reducible rfl)); (try simp only [Act.put, List.getElem_toArray, List.getElem_cons_succ, List.getElem_cons_zero, List.setIfInBounds_toArray, List.set_cons_zero, List.set_cons_succ]))
        (refine wpAnyH_take (i := 2) (v := ?_) rfl (by kernel_rfl) (by kernel_rfl) (by kernel_rfl) (fun _ _ _ h => h) (Or.inl ⟨by rfl, ?_⟩) (by assumption) ?_; rotate_left; (focus (intro w hSw; (try dsimp only at hSw); go_simp; first | done | with_reducible rfl)); (try simp only [Act.put, List.getElem_toArray, List.getElem_cons_succ, List.getElem_cons_zero, List.setIfInBounds_toArray, List.set_cons_zero, List.set_cons_succ]))
        (refine wpAnyH_take (i := 3) (v := ?_) rfl (by kernel_rfl) (by kernel_rfl) (by kernel_rfl) (fun _ _ _ h => h) (Or.inl ⟨by rfl, ?_⟩) (by assumption) ?_; rotate_left; (focus (intro w hSw; (try dsimp only at hSw); go_simp; first | done | with_reducible rfl)); (try simp only [Act.put, List.getElem_toArray, List.getElem_cons_succ, List.getElem_cons_zero, List.setIfInBounds_toArray, List.set_cons_zero, List.set_cons_succ]))
        (refine wpAnyH_take (i := 4) (v := ?_) rfl (by kernel_rfl) (by kernel_rfl) (by kernel_rfl) (fun _ _ _ h => h) (Or.inl ⟨by rfl, ?_⟩) (by assumption) ?_; rotate_left; (focus (intro w hSw; (try dsimp only at hSw); go_simp; first | done | with_reducible rfl)); (try simp only [Act.put, List.getElem_toArray, List.getElem_cons_succ, List.getElem_cons_zero, List.setIfInBounds_toArray, List.set_cons_zero, List.set_cons_succ]))
        (refine wpAnyH_take (i := 5) (v := ?_) rfl (by kernel_rfl) (by kernel_rfl) (by kernel_rfl) (fun _ _ _ h => h) (Or.inl ⟨by rfl, ?_⟩) (by assumption) ?_; rotate_left; (focus (intro w hSw; (try dsimp only at hSw); have kf0 := kept hSw q0; go_simp; first | done | with_reducible rfl)); (try simp only [Act.put, List.getElem_toArray, List.getElem_cons_succ, List.getElem_cons_zero, List.setIfInBounds_toArray, List.set_cons_zero, List.set_cons_succ]))
        (refine wpAnyH_take (i := 6) (v := ?_) rfl (by kernel_rfl) (by kernel_rfl) (by kernel_rfl) (fun _ _ _ h => h) (Or.inl ⟨by rfl, ?_⟩) (by assumption) ?_; rotate_left; (focus (intro w hSw; (try dsimp only at hSw); go_simp; first | done | with_reducible rfl)); (try simp only [Act.put, List.getElem_toArray, List.getElem_cons_succ, List.getElem_cons_zero, List.setIfInBounds_toArray, List.set_cons_zero, List.set_cons_succ]))
        (refine wpAnyH_take (i := 7) (v := ?_) rfl (by kernel_rfl) (by kernel_rfl) (by kernel_rfl) (fun _ _ _ h => h) (Or.inl ⟨by rfl, ?_⟩) (by assumption) ?_; rotate_left; (focus (intro w hSw; (try dsimp only at hSw); go_simp; first | done | with_reducible rfl)); (try simp only [Act.put, List.getElem_toArray, List.getElem_cons_succ, List.getElem_cons_zero, List.setIfInBounds_toArray, List.set_cons_zero, List.set_cons_succ]))
        (refine wpAnyH_take (i := 8) (v := ?_) rfl (by kernel_rfl) (by kernel_rfl) (by kernel_rfl) (fun _ _ _ h => h) (Or.inl ⟨by rfl, ?_⟩) (by assumption) ?_; rotate_left; (focus (intro w hSw; (try dsimp only at hSw); go_simp; first | done | with_reducible rfl)); (try simp only [Act.put, List.getElem_toArray, List.getElem_cons_succ, List.getElem_cons_zero, List.setIfInBounds_toArray, List.set_cons_zero, List.set_cons_succ]))
        (refine wpAnyH_take (i := 9) (v := ?_) rfl (by kernel_rfl) (by kernel_rfl) (by kernel_rfl) (fun _ _ _ h => h) (Or.inl ⟨by rfl, ?_⟩) (by assumption) ?_; rotate_left; (focus (intro w hSw; (try dsimp only at hSw); go_simp; first | done | with_reducible rfl)); (try simp only [Act.put, List.getElem_toArray, List.getElem_cons_succ, List.getElem_cons_zero, List.setIfInBounds_toArray, List.set_cons_zero, List.set_cons_succ]))
        (refine wpAnyH_take (i := 10) (v := ?_) rfl (by kernel_rfl) (by kernel_rfl) (by kernel_rfl) (fun _ _ _ h => h) (Or.inl ⟨by rfl, ?_⟩) (by assumption) ?_; rotate_left; (focus (intro w hSw; (try dsimp only at hSw); go_simp; first | done | with_reducible rfl)); (try simp only [Act.put, List.getElem_toArray, List.getElem_cons_succ, List.getElem_cons_zero, List.setIfInBounds_toArray, List.set_cons_zero, List.set_cons_succ]))
        (refine wpAnyH_take (i := 11) (v := ?_) rfl (by kernel_rfl) (by kernel_rfl) (by kernel_rfl) (fun _ _ _ h => h) (Or.inl ⟨by rfl, ?_⟩) (by assumption) ?_; rotate_left; (focus (intro w hSw; (try dsimp only at hSw); go_simp; first | done | with_reducible rfl)); (try simp only [Act.put, List.getElem_toArray, List.getElem_cons_succ, List.getElem_cons_zero, List.setIfInBounds_toArray, List.set_cons_zero, List.set_cons_succ]))
        (refine wpAnyH_take (i := 12) (v := ?_) rfl (by kernel_rfl) (by kernel_rfl) (by kernel_rfl) (fun _ _ _ h => h) (Or.inl ⟨by rfl, ?_⟩) (by assumption) ?_; rotate_left; (focus (intro w hSw; (try dsimp only at hSw); have kf0 := kept hSw q0; go_simp; first | done | with_reducible rfl)); (try simp only [Act.put, List.getElem_toArray, List.getElem_cons_succ, List.getElem_cons_zero, List.setIfInBounds_toArray, List.set_cons_zero, List.set_cons_succ]))
        (refine wpAnyH_take (i := 13) (v := ?_) rfl (by kernel_rfl) (by kernel_rfl) (by kernel_rfl) (fun _ _ _ h => h) (Or.inl ⟨by rfl, ?_⟩) (by assumption) ?_; rotate_left; (focus (intro w hSw; (try dsimp only at hSw); go_simp; first | done | with_reducible rfl)); (try simp only [Act.put, List.getElem_toArray, List.getElem_cons_succ, List.getElem_cons_zero, List.setIfInBounds_toArray, List.set_cons_zero, List.set_cons_succ]))
        (refine wpAnyH_take (i := 14) (v := ?_) rfl (by kernel_rfl) (by kernel_rfl) (by kernel_rfl) (fun _ _ _ h => h) (Or.inl ⟨by rfl, ?_⟩) (by assumption) ?_; rotate_left; (focus (intro w hSw; (try dsimp only at hSw); go_simp; first | done | with_reducible rfl)); (try simp only [Act.put, List.getElem_toArray, List.getElem_cons_succ, List.getElem_cons_zero, List.setIfInBounds_toArray, List.set_cons_zero, List.set_cons_succ]))
        (refine wpAnyH_take (i := 15) (v := ?_) rfl (by kernel_rfl) (by kernel_rfl) (by kernel_rfl) (fun _ _ _ h => h) (Or.inl ⟨by rfl, ?_⟩) (by assumption) ?_; rotate_left; (focus (intro w hSw; (try dsimp only at hSw); go_simp; first | done | with_reducible rfl)); (try simp only [Act.put, List.getElem_toArray, List.getElem_cons_succ, List.getElem_cons_zero, List.setIfInBounds_toArray, List.set_cons_zero, List.set_cons_succ]))
        (refine wpAnyH_take (i := 16) (v := ?_) rfl (by kernel_rfl) (by kernel_rfl) (by kernel_rfl) (fun _ _ _ h => h) (Or.inl ⟨by rfl, ?_⟩) (by assumption) ?_; rotate_left; (focus (intro w hSw; (try dsimp only at hSw); go_simp; first | done | with_reducible rfl)); (try simp only [Act.put, List.getElem_toArray, List.getElem_cons_succ, List.getElem_cons_zero, List.setIfInBounds_toArray, List.set_cons_zero, List.set_cons_succ]))
        (refine wpAnyH_take (i := 17) (v := ?_) rfl (by kernel_rfl) (by kernel_rfl) (by kernel_rfl) (fun _ _ _ h => h) (Or.inl ⟨by rfl, ?_⟩) (by assumption) ?_; rotate_left; (focus (intro w hSw; (try dsimp only at hSw); go_simp; first | done | with_reducible rfl)); (try simp only [Act.put, List.getElem_toArray, List.getElem_cons_succ, List.getElem_cons_zero, List.setIfInBounds_toArray, List.set_cons_zero, List.set_cons_succ]))
        (refine wpAnyH_take (i := 18) (v := ?_) rfl (by kernel_rfl) (by kernel_rfl) (by kernel_rfl) (fun _ _ _ h => h) (Or.inl ⟨by rfl, ?_⟩) (by assumption) ?_; rotate_left; (focus (intro w hSw; (try dsimp only at hSw); go_simp; first | done | with_reducible rfl)); (try simp only [Act.put, List.getElem_toArray, List.getElem_cons_succ, List.getElem_cons_zero, List.setIfInBounds_toArray, List.set_cons_zero, List.set_cons_succ]))
        (refine wpAnyH_take (i := 19) (v := ?_) rfl (by kernel_rfl) (by kernel_rfl) (by kernel_rfl) (fun _ _ _ h => h) (Or.inl ⟨by rfl, ?_⟩) (by assumption) ?_; rotate_left; (focus (intro w hSw; (try dsimp only at hSw); have kf0 := kept hSw q0; go_simp; first | done | with_reducible rfl)); (try simp only [Act.put, List.getElem_toArray, List.getElem_cons_succ, List.getElem_cons_zero, List.setIfInBounds_toArray, List.set_cons_zero, List.set_cons_succ]))
        (refine wpAnyH_take (i := 20) (v := ?_) rfl (by kernel_rfl) (by kernel_rfl) (by kernel_rfl) (fun _ _ _ h => h) (Or.inl ⟨by rfl, ?_⟩) (by assumption) ?_; rotate_left; (focus (intro w hSw; (try dsimp only at hSw); go_simp; first | done | with_reducible rfl)); (try simp only [Act.put, List.getElem_toArray, List.getElem_cons_succ, List.getElem_cons_zero, List.setIfInBounds_toArray, List.set_cons_zero, List.set_cons_succ]))
        (refine wpAnyH_take (i := 21) (v := ?_) rfl (by kernel_rfl) (by kernel_rfl) (by kernel_rfl) (fun _ _ _ h => h) (Or.inl ⟨by rfl, ?_⟩) (by assumption) ?_; rotate_left; (focus (intro w hSw; (try dsimp only at hSw); go_simp; first | done | with_reducible rfl)); (try simp only [Act.put, List.getElem_toArray, List.getElem_cons_succ, List.getElem_cons_zero, List.setIfInBounds_toArray, List.set_cons_zero, List.set_cons_succ]))
        (refine wpAnyH_take (i := 22) (v := ?_) rfl (by kernel_rfl) (by kernel_rfl) (by kernel_rfl) (fun _ _ _ h => h) (Or.inl ⟨by rfl, ?_⟩) (by assumption) ?_; rotate_left; (focus (intro w hSw; (try dsimp only at hSw); have kf0 := kept hSw q0; have kf1 := kept hSw q1; have kf2 := kept hSw q2; have kf3 := kept hSw q3; go_simp; first | done | with_reducible rfl)); (try simp only [Act.put, List.getElem_toArray, List.getElem_cons_succ, List.getElem_cons_zero, List.setIfInBounds_toArray, List.set_cons_zero, List.set_cons_succ]))
        generalize wb2.drew = wd at *
        refine wpAnyH_ready (rs := [23]) (by kernel_rfl) (by simp) ?_
        refine (AllReadyH.cons rfl (fun K0 hK0 => ?_) AllReadyH.nil)
        go_simp
        refine (HRD.out _ HQ.out).mono ?_
        rintro e wb3 ⟨vr, rfl, hor, hbr⟩
        obtain ⟨Ar, cr, rfl, _⟩ := own_form hor
        replace HQ := hide (HQ.out.trans (hbr.mono HQ.out.size))
        clear hbr hor
        refine hK0.out _ _ (HQ.out) (fun _ => ?_)
        clear hK0 K0
        (try simp only [Act.put, List.getElem_toArray, List.getElem_cons_succ, List.getElem_cons_zero, List.setIfInBounds_toArray, List.set_cons_zero, List.set_cons_succ])
        (refine wpAnyH_take (i := 24) (v := ?_) rfl (by kernel_rfl) (by kernel_rfl) (by kernel_rfl) (fun _ _ _ h => h) (Or.inl ⟨by rfl, ?_⟩) (by assumption) ?_; rotate_left; (focus (intro w hSw; (try dsimp only at hSw); go_simp; first | done | with_reducible rfl)); (try simp only [Act.put, List.getElem_toArray, List.getElem_cons_succ, List.getElem_cons_zero, List.setIfInBounds_toArray, List.set_cons_zero, List.set_cons_succ]))
        (refine wpAnyH_take (i := 25) (v := ?_) rfl (by kernel_rfl) (by kernel_rfl) (by kernel_rfl) (fun _ _ _ h => h) (Or.inl ⟨by rfl, ?_⟩) (by assumption) ?_; rotate_left; (focus (intro w hSw; (try dsimp only at hSw); go_simp; first | done | with_reducible rfl)); (try simp only [Act.put, List.getElem_toArray, List.getElem_cons_succ, List.getElem_cons_zero, List.setIfInBounds_toArray, List.set_cons_zero, List.set_cons_succ]))
        (refine wpAnyH_take (i := 26) (v := ?_) rfl (by kernel_rfl) (by kernel_rfl) (by kernel_rfl) (fun _ _ _ h => h) (Or.inl ⟨by rfl, ?_⟩) (by assumption) ?_; rotate_left; (focus (intro w hSw; (try dsimp only at hSw); go_simp; first | done | with_reducible rfl)); (try simp only [Act.put, List.getElem_toArray, List.getElem_cons_succ, List.getElem_cons_zero, List.setIfInBounds_toArray, List.set_cons_zero, List.set_cons_succ]))
        (refine wpAnyH_take (i := 27) (v := ?_) rfl (by kernel_rfl) (by kernel_rfl) (by kernel_rfl) (fun _ _ _ h => h) (Or.inl ⟨by rfl, ?_⟩) (by assumption) ?_; rotate_left; (focus (intro w hSw; (try dsimp only at hSw); go_simp; first | done | with_reducible rfl)); (try simp only [Act.put, List.getElem_toArray, List.getElem_cons_succ, List.getElem_cons_zero, List.setIfInBounds_toArray, List.set_cons_zero, List.set_cons_succ]))
        refine wpAnyH_done (by kernel_rfl) ?_ _
        have HBW := hide (HBW.out.trans (HQ.out.mono HBW.out.size))
        clear q0 q1 q2 q3 ql hw2 hc1 hc2 hqE hqI hqq HRD HQ HS2
        go_wp2_with fail
        go_roundw
        case rel => exact ⟨k + 1, by omega, by go_num, HBW.out⟩
        case measure => simp [intOf]; omega
    have hjI : (j : Int) < (n1 : Int) := by omega
    have hbW := HS.out.below
    obtain ⟨b, o, rfl, hb, d0, d1⟩ := (HST.out.below hbW).ent HSX.out hlt
    have hbl : b < wr.heap.size := by have := hbW.size; omega
    have HUJ := hide (HSU.out _ (getD_mem (show j < st.length by rw [HSX.out]; exact hlt)))
    obtain ⟨x, hxx⟩ : ∃ x, st.getD j (0, 0) = x := ⟨_, rfl⟩
    rw [hxx] at d0 d1 HUJ
    obtain ⟨s, gn⟩ := x
    dsimp only at d0 d1 HUJ
    clear hxx hb hbW
    have HBN := hide (show Below wr.heap.size wr (wr.alloc (.cells #[.int .i64 s, .int .u64 gn] 34)) from (Below.refl _ _).alloc (Nat.le_refl _) _)
    have HRE := hide (RowAt.new wr 34 #[.int .i64 s, .int .u64 gn])
    go_upto_region 10 with (fail)
    generalize wr.alloc (.cells #[.int .i64 s, .int .u64 gn] 34) = w10 at *
    have HS := hide (HS.out.later HBN.out)
    generalize wr.heap.size = g8 at *
    clear HBN d0 d1 hbl
    by_cases h30 : j = 30
    case pos =>
      have hd30 : ((j : Int) == 30) = true := by simp; omega
      have q0 : w10.cell? ⟨g5, 0, none⟩ = some (.int .u64 (la.E : Int)) := by have := RowAt.cell HS.out.row 0; simpa [limC] using this
      have q1 : w10.cell? ⟨g5, 1, none⟩ = some (.slice (Aa 0) (na 0) (ca 0)) := by have := RowAt.cell HS.out.row 1; simpa [limC] using this
      have q2 : w10.cell? ⟨g5, 2, none⟩ = some (.slice (Aa 1) (na 1) (ca 1)) := by have := RowAt.cell HS.out.row 2; simpa [limC] using this
      have q3 : w10.cell? ⟨g5, 3, none⟩ = some (.slice (Aa 2) (na 2) (ca 2)) := by have := RowAt.cell HS.out.row 3; simpa [limC] using this
      have ql := HS.out.row.lt
      have HHD := hide (held_any w10.heap.size Aa na ca la w10 HS.out.rd HS.out.E (Nat.le_refl _) HS.out.lens HS.out.gen la.held (by rw [HS.out.ok]; rfl))
      have hhl := ok_held_len HS.out.ok
      go_wp2_with fail
      with_reducible refine HHD.out.mono ?_
      rintro e wa1 ⟨vh, rfl, hoh, hba⟩
      obtain ⟨Ah, ch, rfl, _⟩ := own_form hoh
      have HHR := hide (Rd.of_own hoh)
      have HS := hide (HS.out.later hba)
      clear q0 q1 q2 q3 ql HHD hoh hba
      have HEQE := hide (EqualE wa1.heap.size wa1.heap.size Ah Av ch cv la.held la.held wa1 HHR.out HS.out.own.rd (Nat.le_refl _) (Nat.le_refl _) (by omega) (by omega) true (by simp))
      go_wp2_with fail
      with_reducible refine HEQE.out.mono ?_
      rintro e wa2 ⟨rfl, hba⟩
      have HS := hide (HS.out.later hba)
      clear HEQE HHR hba
      have q0 : wa2.cell? ⟨g5, 0, none⟩ = some (.int .u64 (la.E : Int)) := by have := RowAt.cell HS.out.row 0; simpa [limC] using this
      have q1 : wa2.cell? ⟨g5, 1, none⟩ = some (.slice (Aa 0) (na 0) (ca 0)) := by have := RowAt.cell HS.out.row 1; simpa [limC] using this
      have q2 : wa2.cell? ⟨g5, 2, none⟩ = some (.slice (Aa 1) (na 1) (ca 1)) := by have := RowAt.cell HS.out.row 2; simpa [limC] using this
      have q3 : wa2.cell? ⟨g5, 3, none⟩ = some (.slice (Aa 2) (na 2) (ca 2)) := by have := RowAt.cell HS.out.row 3; simpa [limC] using this
      have ql := HS.out.row.lt
      have HC := hide (check_any wa2.heap.size Aa na ca la wa2 HS.out.rd HS.out.E (Nat.le_refl _) HS.out.lens HS.out.gen 0 (by rw [HS.out.ok]; rfl))
      go_wp2_with fail
      with_reducible refine HC.out.mono ?_
      rintro e wa3 ⟨rfl, hba⟩
      have HS := hide (HS.out.later hba)
      clear q0 q1 q2 q3 ql HC hba
      obtain ⟨mh, hmh⟩ : ∃ mh, la.held.length = mh := ⟨_, rfl⟩
      have HMH := hide hmh
      have hmh8 : mh ≤ 128 := by omega
      rw [hmh]
      clear hmh hhl
      go_wp2_with fail
      go_loopw [153] (fun i wr => ∃ (k : Nat), k ≤ mh ∧ i = .int .i64 (k : Int) ∧ Below wa3.heap.size wa3 wr) (fun i _ => mh - (intOf i).toNat)
      case atStart => exact ⟨0, Nat.zero_le _, rfl, Below.refl _ _⟩
      case round =>
        obtain ⟨k, hk, rfl, hbw⟩ := hrel
        have HS2 := hide (HS.out.later hbw)
        have HBW := hide hbw
        clear hbw
        by_cases hltk : k < mh
        case neg =>
          have HF := hide HS2.out.below
          go_wp2_with fail
          go_ret
          exact ⟨rfl, HF.out⟩
        have hkI : (k : Int) < (mh : Int) := by omega
        have hkh : k < la.held.length := by rw [HMH.out]; exact hltk
        obtain ⟨bk, ok_, hAk, hbk, d0, d1⟩ := HS2.out.own.rd.ent rfl hkh
        obtain ⟨ak, ha2, haE, hwh, hdk⟩ := when_kth HS2.out.ok hkh
        subst hAk
        obtain ⟨y, hy⟩ : ∃ y, la.held.getD k (0, 0) = y := ⟨_, rfl⟩
        rw [hy] at d0 d1 hwh
        obtain ⟨ys, yg⟩ := y
        dsimp only at d0 d1 hwh
        clear hy hkh
        have HBN := hide (show Below wr.heap.size wr (wr.alloc (.cells #[.int .i64 ys, .int .u64 yg] 34)) from (Below.refl _ _).alloc (Nat.le_refl _) _)
        have HRE := hide (RowAt.new wr 34 #[.int .i64 ys, .int .u64 yg])
        go_upto_region 36 with (fail)
        generalize wr.alloc (.cells #[.int .i64 ys, .int .u64 yg] 34) = wb1 at *
        have HS2 := hide (HS2.out.later HBN.out)
        have HBW := hide (HBW.out.trans (HBN.out.mono HBW.out.size))
        clear d0 d1 hbk HBN
        generalize wr.heap.size = g21 at *
        have e0 := row20 HRE.out
        have e1 := row21 HRE.out
        have el := HRE.out.lt
        have q0 : wb1.cell? ⟨g5, 0, none⟩ = some (.int .u64 (la.E : Int)) := by have := RowAt.cell HS2.out.row 0; simpa [limC] using this
        have q1 : wb1.cell? ⟨g5, 1, none⟩ = some (.slice (Aa 0) (na 0) (ca 0)) := by have := RowAt.cell HS2.out.row 1; simpa [limC] using this
        have q2 : wb1.cell? ⟨g5, 2, none⟩ = some (.slice (Aa 1) (na 1) (ca 1)) := by have := RowAt.cell HS2.out.row 2; simpa [limC] using this
        have q3 : wb1.cell? ⟨g5, 3, none⟩ = some (.slice (Aa 2) (na 2) (ca 2)) := by have := RowAt.cell HS2.out.row 3; simpa [limC] using this
        have ql := HS2.out.row.lt
        have HWH := hide (when_any wb1.heap.size Aa na ca la ys wb1 HS2.out.rd HS2.out.E (Nat.le_refl _) HS2.out.lens HS2.out.gen ((la.E : Int) - (ak : Int)) true hwh)
        clear hwh
        go_wp2_with fail
        with_reducible refine HWH.out.mono ?_
        rintro e wb2 ⟨rfl, hb2⟩
        have HS2 := hide (HS2.out.later hb2)
        have HBW := hide (HBW.out.trans (hb2.mono HBW.out.size))
        clear q0 q1 q2 q3 ql e0 e1 el HWH hb2 HRE
        have q0 : wb2.cell? ⟨g5, 0, none⟩ = some (.int .u64 (la.E : Int)) := by have := RowAt.cell HS2.out.row 0; simpa [limC] using this
        have q1 : wb2.cell? ⟨g5, 1, none⟩ = some (.slice (Aa 0) (na 0) (ca 0)) := by have := RowAt.cell HS2.out.row 1; simpa [limC] using this
        have q2 : wb2.cell? ⟨g5, 2, none⟩ = some (.slice (Aa 1) (na 1) (ca 1)) := by have := RowAt.cell HS2.out.row 2; simpa [limC] using this
        have q3 : wb2.cell? ⟨g5, 3, none⟩ = some (.slice (Aa 2) (na 2) (ca 2)) := by have := RowAt.cell HS2.out.row 3; simpa [limC] using this
        have ql := HS2.out.row.lt
        have haE2 : (ak : Int) ≤ (la.E : Int) := by omega
        have ha0 : (0 : Int) ≤ (ak : Int) := by omega
        have ha2I : (ak : Int) ≤ 2 := by omega
        have hEL : (la.E : Int) ≤ 4611686018427387904 := by have := (ok_out HS2.out.ok).1; unfold LAST at this; omega
        have hw2 : IntKind.u64.wrap ((la.E : Int) - (ak : Int) + 2) = (la.E : Int) - (ak : Int) + 2 := IntWalk.u64_in _ (by omega)
        have hc1 : decide ((la.E : Int) < (la.E : Int) - (ak : Int)) = false := by rw [decide_eq_false_iff_not]; omega
        have hc2 : decide ((la.E : Int) - (ak : Int) + 2 < (la.E : Int)) = false := by rw [decide_eq_false_iff_not]; omega
        obtain ⟨N2, hN2⟩ : ∃ N2, (la.at 2).length = N2 := ⟨_, rfl⟩
        rw [hN2] at hdk
        obtain ⟨q9, hq9⟩ : ∃ q9, decide (k < N2) = q9 := ⟨_, rfl⟩
        have hqE : ((la.E : Int) - (ak : Int) + 2 == (la.E : Int)) = q9 := by
          rw [← hq9, ← hdk, Bool.eq_iff_iff, beq_iff_eq, decide_eq_true_eq]; omega
        have hqI : decide ((k : Int) < (N2 : Int)) = q9 := by rw [← hq9]; congr 1; exact propext (by omega)
        have hqq : (q9 != q9) = false := by simp
        have HRD := hide (fun (w : World) (hb : Below wb2.heap.size wb2 w) => show Calls Tryd.prog 25 #[.agg (limC la.E Aa na ca)] w fun e W' => ∃ v, e = .returned v ∧ W'.ownsRow w.heap.size 34 2 v N2 (Cs encE (la.at 2)) ∧ Below w.heap.size w W' from by rw [← hN2]; exact ready_any wb2.heap.size Aa na ca la w (HS2.out.rd.below hb) HS2.out.E hb.size HS2.out.lens HS2.out.gen (la.at 2) (by rw [HS2.out.ok]; rfl))
        clear hdk ha2 haE hN2
        go_upto_region 37 with (fail)
        refine wp_region_held_drew (S := fun wX => Below wb2.heap.size wb2 wX) (by kernel_rfl) (Below.refl _ _).drew (fun hHeld => ?_)
        have HQ := hide ((Below.refl wb2.heap.size wb2).drew)
        (refine wpAnyH_take (i := 0) (v := ?_) rfl (by kernel_rfl) (by kernel_rfl) (by kernel_rfl) (fun _ _ _ h => h) (Or.inl ⟨by rfl, ?_⟩) (by assumption) ?_; rotate_left; (focus (intro w hSw; (try dsimp only at hSw); go_simp; first | done | with_reducible rfl)); (try simp only [Act.put, List.getElem_toArray, List.getElem_cons_succ, List.getElem_cons_zero, List.setIfInBounds_toArray, List.set_cons_zero, List.set_cons_succ]))
        (refine wpAnyH_take (i := 1) (v := ?_) rfl (by kernel_rfl) (by kernel_rfl) (by kernel_rfl) (fun _ _ _ h => h) (Or.inl ⟨by rfl, ?_⟩) (by assumption) ?_; rotate_left; (focus (intro w hSw; (try dsimp only at hSw); go_simp; first | done | with_reducible rfl)); (try simp only [Act.put, List.getElem_toArray, List.getElem_cons_succ, List.getElem_cons_zero, List.setIfInBounds_toArray, List.set_cons_zero, List.set_cons_succ]))
        (refine wpAnyH_take (i := 2) (v := ?_) rfl (by kernel_rfl) (by kernel_rfl) (by kernel_rfl) (fun _ _ _ h => h) (Or.inl ⟨by rfl, ?_⟩) (by assumption) ?_; rotate_left; (focus (intro w hSw; (try dsimp only at hSw); go_simp; first | done | with_reducible rfl)); (try simp only [Act.put, List.getElem_toArray, List.getElem_cons_succ, List.getElem_cons_zero, List.setIfInBounds_toArray, List.set_cons_zero, List.set_cons_succ]))
        (refine wpAnyH_take (i := 3) (v := ?_) rfl (by kernel_rfl) (by kernel_rfl) (by kernel_rfl) (fun _ _ _ h => h) (Or.inl ⟨by rfl, ?_⟩) (by assumption) ?_; rotate_left; (focus (intro w hSw; (try dsimp only at hSw); go_simp; first | done | with_reducible rfl)); (try simp only [Act.put, List.getElem_toArray, List.getElem_cons_succ, List.getElem_cons_zero, List.setIfInBounds_toArray, List.set_cons_zero, List.set_cons_succ]))
        (refine wpAnyH_take (i := 4) (v := ?_) rfl (by kernel_rfl) (by kernel_rfl) (by kernel_rfl) (fun _ _ _ h => h) (Or.inl ⟨by rfl, ?_⟩) (by assumption) ?_; rotate_left; (focus (intro w hSw; (try dsimp only at hSw); go_simp; first | done | with_reducible rfl)); (try simp only [Act.put, List.getElem_toArray, List.getElem_cons_succ, List.getElem_cons_zero, List.setIfInBounds_toArray, List.set_cons_zero, List.set_cons_succ]))
        (refine wpAnyH_take (i := 5) (v := ?_) rfl (by kernel_rfl) (by kernel_rfl) (by kernel_rfl) (fun _ _ _ h => h) (Or.inl ⟨by rfl, ?_⟩) (by assumption) ?_; rotate_left; (focus (intro w hSw; (try dsimp only at hSw); have kf0 := kept hSw q0; go_simp; first | done | with_reducible rfl)); (try simp only [Act.put, List.getElem_toArray, List.getElem_cons_succ, List.getElem_cons_zero, List.setIfInBounds_toArray, List.set_cons_zero, List.set_cons_succ]))
        (refine wpAnyH_take (i := 6) (v := ?_) rfl (by kernel_rfl) (by kernel_rfl) (by kernel_rfl) (fun _ _ _ h => h) (Or.inl ⟨by rfl, ?_⟩) (by assumption) ?_; rotate_left; (focus (intro w hSw; (try dsimp only at hSw); go_simp; first | done | with_reducible rfl)); (try simp only [Act.put, List.getElem_toArray, List.getElem_cons_succ, List.getElem_cons_zero, List.setIfInBounds_toArray, List.set_cons_zero, List.set_cons_succ]))
        (refine wpAnyH_take (i := 7) (v := ?_) rfl (by kernel_rfl) (by kernel_rfl) (by kernel_rfl) (fun _ _ _ h => h) (Or.inl ⟨by rfl, ?_⟩) (by assumption) ?_; rotate_left; (focus (intro w hSw; (try dsimp only at hSw); go_simp; first | done | with_reducible rfl)); (try simp only [Act.put, List.getElem_toArray, List.getElem_cons_succ, List.getElem_cons_zero, List.setIfInBounds_toArray, List.set_cons_zero, List.set_cons_succ]))
        (refine wpAnyH_take (i := 8) (v := ?_) rfl (by kernel_rfl) (by kernel_rfl) (by kernel_rfl) (fun _ _ _ h => h) (Or.inl ⟨by rfl, ?_⟩) (by assumption) ?_; rotate_left; (focus (intro w hSw; (try dsimp only at hSw); go_simp; first | done | with_reducible rfl)); (try simp only [Act.put, List.getElem_toArray, List.getElem_cons_succ, List.getElem_cons_zero, List.setIfInBounds_toArray, List.set_cons_zero, List.set_cons_succ]))
        (refine wpAnyH_take (i := 9) (v := ?_) rfl (by kernel_rfl) (by kernel_rfl) (by kernel_rfl) (fun _ _ _ h => h) (Or.inl ⟨by rfl, ?_⟩) (by assumption) ?_; rotate_left; (focus (intro w hSw; (try dsimp only at hSw); go_simp; first | done | with_reducible rfl)); (try simp only [Act.put, List.getElem_toArray, List.getElem_cons_succ, List.getElem_cons_zero, List.setIfInBounds_toArray, List.set_cons_zero, List.set_cons_succ]))
        (refine wpAnyH_take (i := 10) (v := ?_) rfl (by kernel_rfl) (by kernel_rfl) (by kernel_rfl) (fun _ _ _ h => h) (Or.inl ⟨by rfl, ?_⟩) (by assumption) ?_; rotate_left; (focus (intro w hSw; (try dsimp only at hSw); go_simp; first | done | with_reducible rfl)); (try simp only [Act.put, List.getElem_toArray, List.getElem_cons_succ, List.getElem_cons_zero, List.setIfInBounds_toArray, List.set_cons_zero, List.set_cons_succ]))
        (refine wpAnyH_take (i := 11) (v := ?_) rfl (by kernel_rfl) (by kernel_rfl) (by kernel_rfl) (fun _ _ _ h => h) (Or.inl ⟨by rfl, ?_⟩) (by assumption) ?_; rotate_left; (focus (intro w hSw; (try dsimp only at hSw); go_simp; first | done | with_reducible rfl)); (try simp only [Act.put, List.getElem_toArray, List.getElem_cons_succ, List.getElem_cons_zero, List.setIfInBounds_toArray, List.set_cons_zero, List.set_cons_succ]))
        (refine wpAnyH_take (i := 12) (v := ?_) rfl (by kernel_rfl) (by kernel_rfl) (by kernel_rfl) (fun _ _ _ h => h) (Or.inl ⟨by rfl, ?_⟩) (by assumption) ?_; rotate_left; (focus (intro w hSw; (try dsimp only at hSw); have kf0 := kept hSw q0; go_simp; first | done | with_reducible rfl)); (try simp only [Act.put, List.getElem_toArray, List.getElem_cons_succ, List.getElem_cons_zero, List.setIfInBounds_toArray, List.set_cons_zero, List.set_cons_succ]))
        (refine wpAnyH_take (i := 13) (v := ?_) rfl (by kernel_rfl) (by kernel_rfl) (by kernel_rfl) (fun _ _ _ h => h) (Or.inl ⟨by rfl, ?_⟩) (by assumption) ?_; rotate_left; (focus (intro w hSw; (try dsimp only at hSw); go_simp; first | done | with_reducible rfl)); (try simp only [Act.put, List.getElem_toArray, List.getElem_cons_succ, List.getElem_cons_zero, List.setIfInBounds_toArray, List.set_cons_zero, List.set_cons_succ]))
        (refine wpAnyH_take (i := 14) (v := ?_) rfl (by kernel_rfl) (by kernel_rfl) (by kernel_rfl) (fun _ _ _ h => h) (Or.inl ⟨by rfl, ?_⟩) (by assumption) ?_; rotate_left; (focus (intro w hSw; (try dsimp only at hSw); go_simp; first | done | with_reducible rfl)); (try simp only [Act.put, List.getElem_toArray, List.getElem_cons_succ, List.getElem_cons_zero, List.setIfInBounds_toArray, List.set_cons_zero, List.set_cons_succ]))
        (refine wpAnyH_take (i := 15) (v := ?_) rfl (by kernel_rfl) (by kernel_rfl) (by kernel_rfl) (fun _ _ _ h => h) (Or.inl ⟨by rfl, ?_⟩) (by assumption) ?_; rotate_left; (focus (intro w hSw; (try dsimp only at hSw); go_simp; first | done | with_reducible rfl)); (try simp only [Act.put, List.getElem_toArray, List.getElem_cons_succ, List.getElem_cons_zero, List.setIfInBounds_toArray, List.set_cons_zero, List.set_cons_succ]))
        (refine wpAnyH_take (i := 16) (v := ?_) rfl (by kernel_rfl) (by kernel_rfl) (by kernel_rfl) (fun _ _ _ h => h) (Or.inl ⟨by rfl, ?_⟩) (by assumption) ?_; rotate_left; (focus (intro w hSw; (try dsimp only at hSw); go_simp; first | done | with_reducible rfl)); (try simp only [Act.put, List.getElem_toArray, List.getElem_cons_succ, List.getElem_cons_zero, List.setIfInBounds_toArray, List.set_cons_zero, List.set_cons_succ]))
        (refine wpAnyH_take (i := 17) (v := ?_) rfl (by kernel_rfl) (by kernel_rfl) (by kernel_rfl) (fun _ _ _ h => h) (Or.inl ⟨by rfl, ?_⟩) (by assumption) ?_; rotate_left; (focus (intro w hSw; (try dsimp only at hSw); go_simp; first | done | with_reducible rfl)); (try simp only [Act.put, List.getElem_toArray, List.getElem_cons_succ, List.getElem_cons_zero, List.setIfInBounds_toArray, List.set_cons_zero, List.set_cons_succ]))
        (refine wpAnyH_take (i := 18) (v := ?_) rfl (by kernel_rfl) (by kernel_rfl) (by kernel_rfl) (fun _ _ _ h => h) (Or.inl ⟨by rfl, ?_⟩) (by assumption) ?_; rotate_left; (focus (intro w hSw; (try dsimp only at hSw); go_simp; first | done | with_reducible rfl)); (try simp only [Act.put, List.getElem_toArray, List.getElem_cons_succ, List.getElem_cons_zero, List.setIfInBounds_toArray, List.set_cons_zero, List.set_cons_succ]))
        (refine wpAnyH_take (i := 19) (v := ?_) rfl (by kernel_rfl) (by kernel_rfl) (by kernel_rfl) (fun _ _ _ h => h) (Or.inl ⟨by rfl, ?_⟩) (by assumption) ?_; rotate_left; (focus (intro w hSw; (try dsimp only at hSw); have kf0 := kept hSw q0; go_simp; first | done | with_reducible rfl)); (try simp only [Act.put, List.getElem_toArray, List.getElem_cons_succ, List.getElem_cons_zero, List.setIfInBounds_toArray, List.set_cons_zero, List.set_cons_succ]))
        (refine wpAnyH_take (i := 20) (v := ?_) rfl (by kernel_rfl) (by kernel_rfl) (by kernel_rfl) (fun _ _ _ h => h) (Or.inl ⟨by rfl, ?_⟩) (by assumption) ?_; rotate_left; (focus (intro w hSw; (try dsimp only at hSw); go_simp; first | done | with_reducible rfl)); (try simp only [Act.put, List.getElem_toArray, List.getElem_cons_succ, List.getElem_cons_zero, List.setIfInBounds_toArray, List.set_cons_zero, List.set_cons_succ]))
        (refine wpAnyH_take (i := 21) (v := ?_) rfl (by kernel_rfl) (by kernel_rfl) (by kernel_rfl) (fun _ _ _ h => h) (Or.inl ⟨by rfl, ?_⟩) (by assumption) ?_; rotate_left; (focus (intro w hSw; (try dsimp only at hSw); go_simp; first | done | with_reducible rfl)); (try simp only [Act.put, List.getElem_toArray, List.getElem_cons_succ, List.getElem_cons_zero, List.setIfInBounds_toArray, List.set_cons_zero, List.set_cons_succ]))
        (refine wpAnyH_take (i := 22) (v := ?_) rfl (by kernel_rfl) (by kernel_rfl) (by kernel_rfl) (fun _ _ _ h => h) (Or.inl ⟨by rfl, ?_⟩) (by assumption) ?_; rotate_left; (focus (intro w hSw; (try dsimp only at hSw); have kf0 := kept hSw q0; have kf1 := kept hSw q1; have kf2 := kept hSw q2; have kf3 := kept hSw q3; go_simp; first | done | with_reducible rfl)); (try simp only [Act.put, List.getElem_toArray, List.getElem_cons_succ, List.getElem_cons_zero, List.setIfInBounds_toArray, List.set_cons_zero, List.set_cons_succ]))
        generalize wb2.drew = wd at *
        refine wpAnyH_ready (rs := [23]) (by kernel_rfl) (by simp) ?_
        refine (AllReadyH.cons rfl (fun K0 hK0 => ?_) AllReadyH.nil)
        go_simp
        refine (HRD.out _ HQ.out).mono ?_
        rintro e wb3 ⟨vr, rfl, hor, hbr⟩
        obtain ⟨Ar, cr, rfl, _⟩ := own_form hor
        replace HQ := hide (HQ.out.trans (hbr.mono HQ.out.size))
        clear hbr hor
        refine hK0.out _ _ (HQ.out) (fun _ => ?_)
        clear hK0 K0
        (try simp only [Act.put, List.getElem_toArray, List.getElem_cons_succ, List.getElem_cons_zero, List.setIfInBounds_toArray, List.set_cons_zero, List.set_cons_succ])
        (refine wpAnyH_take (i := 24) (v := ?_) rfl (by kernel_rfl) (by kernel_rfl) (by kernel_rfl) (fun _ _ _ h => h) (Or.inl ⟨by rfl, ?_⟩) (by assumption) ?_; rotate_left; (focus (intro w hSw; (try dsimp only at hSw); go_simp; first | done | with_reducible rfl)); (try simp only [Act.put, List.getElem_toArray, List.getElem_cons_succ, List.getElem_cons_zero, List.setIfInBounds_toArray, List.set_cons_zero, List.set_cons_succ]))
        (refine wpAnyH_take (i := 25) (v := ?_) rfl (by kernel_rfl) (by kernel_rfl) (by kernel_rfl) (fun _ _ _ h => h) (Or.inl ⟨by rfl, ?_⟩) (by assumption) ?_; rotate_left; (focus (intro w hSw; (try dsimp only at hSw); go_simp; first | done | with_reducible rfl)); (try simp only [Act.put, List.getElem_toArray, List.getElem_cons_succ, List.getElem_cons_zero, List.setIfInBounds_toArray, List.set_cons_zero, List.set_cons_succ]))
        (refine wpAnyH_take (i := 26) (v := ?_) rfl (by kernel_rfl) (by kernel_rfl) (by kernel_rfl) (fun _ _ _ h => h) (Or.inl ⟨by rfl, ?_⟩) (by assumption) ?_; rotate_left; (focus (intro w hSw; (try dsimp only at hSw); go_simp; first | done | with_reducible rfl)); (try simp only [Act.put, List.getElem_toArray, List.getElem_cons_succ, List.getElem_cons_zero, List.setIfInBounds_toArray, List.set_cons_zero, List.set_cons_succ]))
        (refine wpAnyH_take (i := 27) (v := ?_) rfl (by kernel_rfl) (by kernel_rfl) (by kernel_rfl) (fun _ _ _ h => h) (Or.inl ⟨by rfl, ?_⟩) (by assumption) ?_; rotate_left; (focus (intro w hSw; (try dsimp only at hSw); go_simp; first | done | with_reducible rfl)); (try simp only [Act.put, List.getElem_toArray, List.getElem_cons_succ, List.getElem_cons_zero, List.setIfInBounds_toArray, List.set_cons_zero, List.set_cons_succ]))
        refine wpAnyH_done (by kernel_rfl) ?_ _
        have HBW := hide (HBW.out.trans (HQ.out.mono HBW.out.size))
        clear q0 q1 q2 q3 ql hw2 hc1 hc2 hqE hqI hqq HRD HQ HS2
        go_wp2_with fail
        go_roundw
        case rel => exact ⟨k + 1, by omega, by go_num, HBW.out⟩
        case measure => simp [intOf]; omega
    have hd30 : ((j : Int) == 30) = false := by simp; omega
    have e0 := row20 HRE.out
    have e1 := row21 HRE.out
    have el := HRE.out.lt
    have q0 : w10.cell? ⟨g5, 0, none⟩ = some (.int .u64 (la.E : Int)) := by have := RowAt.cell HS.out.row 0; simpa [limC] using this
    have q1 : w10.cell? ⟨g5, 1, none⟩ = some (.slice (Aa 0) (na 0) (ca 0)) := by have := RowAt.cell HS.out.row 1; simpa [limC] using this
    have q2 : w10.cell? ⟨g5, 2, none⟩ = some (.slice (Aa 1) (na 1) (ca 1)) := by have := RowAt.cell HS.out.row 2; simpa [limC] using this
    have q3 : w10.cell? ⟨g5, 3, none⟩ = some (.slice (Aa 2) (na 2) (ca 2)) := by have := RowAt.cell HS.out.row 3; simpa [limC] using this
    have ql := HS.out.row.lt
    have HFW := hide (fun g (hg : some g = Value.ownBlock (.slice Av la.held.length cv)) => (HS.out.own.lt hg).2)
    by_cases hneg : 0 ≤ s
    · have hd : decide (0 ≤ s) = true := by simpa using hneg
      have HC := hide (Retire_any w10.heap.size Aa na ca la s gn w10 HS.out.rd HS.out.E (Nat.le_refl _) HS.out.lens HS.out.gen HUJ.out)
      have hRR : retR la (s, gn) = doRet la (s, gn) := by unfold retR; rw [HS.out.ok, if_pos rfl]
      rw [hRR] at HC
      clear hRR hneg
      go_wp2_with fail
      with_reducible refine HC.out.mono ?_
      rintro e w11 ⟨hb11, (⟨lb, Ab, nb, cb, hrt, rfl, hown⟩ | ⟨k, hrt, rfl⟩)⟩
      · have HRT := hide hrt
        have HOW := hide hown
        have HS := hide (HS.out.later hb11)
        have HRE := hide (HRE.out.below hb11)
        have hb10 := hb11.size
        have hg5l : g5 < w10.heap.size := ql
        clear q0 q1 q2 q3 ql e0 e1 el HC hrt hown hb11
        have HBX := hide (show Below w11.heap.size w11 (w11.alloc (.cells (limC lb.E Ab nb cb) 26)) from (Below.refl _ _).alloc (Nat.le_refl _) _)
        have HR9 := hide (RowAt.new w11 26 (limC lb.E Ab nb cb))
        go_upto_region 13 with (fail)
        generalize w11.alloc (.cells #[.int .u64 (lb.E : Int), .slice (Ab 0) (nb 0) (cb 0), .slice (Ab 1) (nb 1) (cb 1), .slice (Ab 2) (nb 2) (cb 2)] 26) = w12 at *
        have HS := hide (HS.out.later HBX.out)
        have HRE := hide (HRE.out.below HBX.out)
        have HOW := hide (HOW.out.keepB HBX.out)
        generalize w11.heap.size = g9 at *
        have q0 : w12.cell? ⟨g9, 0, none⟩ = some (.int .u64 (lb.E : Int)) := by have := RowAt.cell HR9.out 0; simpa [limC] using this
        have q1 : w12.cell? ⟨g9, 1, none⟩ = some (.slice (Ab 0) (nb 0) (cb 0)) := by have := RowAt.cell HR9.out 1; simpa [limC] using this
        have q2 : w12.cell? ⟨g9, 2, none⟩ = some (.slice (Ab 1) (nb 1) (cb 1)) := by have := RowAt.cell HR9.out 2; simpa [limC] using this
        have q3 : w12.cell? ⟨g9, 3, none⟩ = some (.slice (Ab 2) (nb 2) (cb 2)) := by have := RowAt.cell HR9.out 3; simpa [limC] using this
        have ql := HR9.out.lt
        have e0 := row20 HRE.out
        have e1 := row21 HRE.out
        have el := HRE.out.lt
        have HOKB := hide (ok_ret HS.out.ok HRT.out)
        have HGB := hide (gen_ret HS.out.gen HUJ.out HRT.out)
        have hEb : lb.E = la.E := (each_ret HRT.out).2.1
        have hle := (ok_out HOKB.out).1
        have HC := hide (when_any w12.heap.size Ab nb cb lb s w12 HOW.out.rd (by unfold LAST at hle; omega) (Nat.le_refl _) (fun k hk => by have := lens_ok HOKB.out HOW.out.len k hk; omega) HGB.out (la.E : Int) true (whenR_ret HS.out.ok HRT.out))
        clear hEb hle
        go_wp2_with fail
        with_reducible refine HC.out.mono ?_
        rintro e w13 ⟨rfl, hb13⟩
        have HS := hide (HS.out.later hb13)
        have HRE := hide (HRE.out.below hb13)
        have HOW := hide (HOW.out.keepB hb13)
        have HR9 := hide (HR9.out.below hb13)
        have hs13 : w10.heap.size ≤ w13.heap.size := by have := HBX.out.size; have := hb13.size; have := HR9.out.lt; omega
        clear q0 q1 q2 q3 ql e0 e1 el HC hb13 HBX
        have p0 : w13.cell? ⟨g5, 0, none⟩ = some (.int .u64 (la.E : Int)) := by have := HS.out.row.cell 0; simpa [limC] using this
        have pl := HS.out.row.lt
        have hbne : ((la.E : Int) != (la.E : Int)) = false := by simp
        go_upto_region 16 with (fail)
        clear p0 pl hbne
        go_upto_region 17 with (fail)
        have q0 : w13.cell? ⟨g9, 0, none⟩ = some (.int .u64 (lb.E : Int)) := by have := RowAt.cell HR9.out 0; simpa [limC] using this
        have q1 : w13.cell? ⟨g9, 1, none⟩ = some (.slice (Ab 0) (nb 0) (cb 0)) := by have := RowAt.cell HR9.out 1; simpa [limC] using this
        have q2 : w13.cell? ⟨g9, 2, none⟩ = some (.slice (Ab 1) (nb 1) (cb 1)) := by have := RowAt.cell HR9.out 2; simpa [limC] using this
        have q3 : w13.cell? ⟨g9, 3, none⟩ = some (.slice (Ab 2) (nb 2) (cb 2)) := by have := RowAt.cell HR9.out 3; simpa [limC] using this
        have ql := HR9.out.lt
        have e0 := row20 HRE.out
        have e1 := row21 HRE.out
        have el := HRE.out.lt
        have hhl := ok_held_len HS.out.ok
        have hg5s := HS.out.row.lt
        have HRD := hide (fun w => Rd.new w #[.int .i64 s, .int .u64 gn] 34 2 1 rfl)
        have HFAR := hide (fun g (hg : some g = Value.ownBlock (.slice Av la.held.length cv)) => HS.out.own.lt hg)
        go_region_law (refine step_appO elE rfl _ _ rfl rfl (OwnO.keepB HS.out.own ((Below.refl _ _).drew.alloc (Nat.le_refl _) _)) rfl (HRD.out _) (by simp [Value.oneCell']) (by omega) (by simp; omega) ?_; intro v2 w14 hown6 hb6 hg6 hv6; obtain ⟨A6, c6, rfl, hmc2, hc2m⟩ := hown6.form; have HO6 := hide hown6; have HB6 := hide hb6; have HG6 := hide hg6; have hr6 := row_grown ((HS.out.row.drew).below ((Below.refl _ _).alloc (Nat.le_refl _) _)) hg6 (fun h => by have := HFAR.out _ h; omega); have HR6 := hide hr6; have z0 : w14.cell? ⟨g5, 0, none⟩ = some (.int .u64 (la.E : Int)) := (by have := RowAt.cell hr6 0; simpa [limC] using this); have z1 : w14.cell? ⟨g5, 1, none⟩ = some (.slice (Aa 0) (na 0) (ca 0)) := (by have := RowAt.cell hr6 1; simpa [limC] using this); have z2 : w14.cell? ⟨g5, 2, none⟩ = some (.slice (Aa 1) (na 1) (ca 1)) := (by have := RowAt.cell hr6 2; simpa [limC] using this); have z3 : w14.cell? ⟨g5, 3, none⟩ = some (.slice (Aa 2) (na 2) (ca 2)) := (by have := RowAt.cell hr6 3; simpa [limC] using this); have hr9 := row_grown ((HR9.out.drew).below ((Below.refl _ _).alloc (Nat.le_refl _) _)) hg6 (fun h => by have := HFW.out _ h; omega); have y0 : w14.cell? ⟨g9, 0, none⟩ = some (.int .u64 (lb.E : Int)) := (by have := RowAt.cell hr9 0; simpa [limC] using this); have y1 : w14.cell? ⟨g9, 1, none⟩ = some (.slice (Ab 0) (nb 0) (cb 0)) := (by have := RowAt.cell hr9 1; simpa [limC] using this); have y2 : w14.cell? ⟨g9, 2, none⟩ = some (.slice (Ab 1) (nb 1) (cb 1)) := (by have := RowAt.cell hr9 2; simpa [limC] using this); have y3 : w14.cell? ⟨g9, 3, none⟩ = some (.slice (Ab 2) (nb 2) (cb 2)) := (by have := RowAt.cell hr9 3; simpa [limC] using this); have yl := hr9.lt; have fz0 := hr6.frozen 0; have fz1 := hr6.frozen 1; have fz2 := hr6.frozen 2; have fz3 := hr6.frozen 3; have zl := hr6.lt; clear hown6 hb6 hg6 hv6 hr6)
        all_goals
          have HLD : Hid (LaidL g5 w14 (limC lb.E Ab nb cb) ((((w14.setCell ⟨g5, 0, none⟩ (.int .u64 (lb.E : Int))).setCell ⟨g5, 1, none⟩ (.slice (Ab 0) (nb 0) (cb 0))).setCell ⟨g5, 2, none⟩ (.slice (Ab 1) (nb 1) (cb 1))).setCell ⟨g5, 3, none⟩ (.slice (Ab 2) (nb 2) (cb 2)))) := hide (laidL_of HR6.out rfl)
          generalize (((w14.setCell ⟨g5, 0, none⟩ (.int .u64 (lb.E : Int))).setCell ⟨g5, 1, none⟩ (.slice (Ab 0) (nb 0) (cb 0))).setCell ⟨g5, 2, none⟩ (.slice (Ab 1) (nb 1) (cb 1))).setCell ⟨g5, 3, none⟩ (.slice (Ab 2) (nb 2) (cb 2)) = w15 at *
          have HFR := hide (grown_from (w := w13) HG6.out (by first | exact (Below.refl _ _).drew.alloc (Nat.le_refl _) _ | exact ((Below.refl _ _).alloc (Nat.le_refl _) _).drew))
          have HBW := hide (show Below W.heap.size W w14 from HS.out.below.trans (grown_below (w := w13) HG6.out (by first | exact (Below.refl _ _).drew.alloc (Nat.le_refl _) _ | exact ((Below.refl _ _).alloc (Nat.le_refl _) _).drew) (fun g hg => by have := (HFAR.out g hg).1; have := HS.out.ge; omega) HS.out.below.size))
          have HOW2 := hide (HOW.out.other (w' := w14) (fun j h1 h2 => HFR.out j h2 (fun e => by have h3 := HFW.out _ e; omega)))
          have HHL := hide (show lb.held = la.held ++ [(s, gn)] from held_ret HRT.out)
          have HOF := hide (show OwnO w14 (g5 + 1) 34 2 (.slice A6 (la.held.length + 1) c6) lb.held.length (Cs encE lb.held) from by rw [HHL.out, Cs_append, Cs_one, List.length_append]; exact HO6.out)
          have HP := hide (WtAt.put HBW.out HS.out.ge HLD.out HOW2.out (by omega) HOKB.out HGB.out HOF.out)
          clear y0 y1 y2 y3 yl z0 z1 z2 z3 zl fz0 fz1 fz2 fz3 q0 q1 q2 q3 ql e0 e1 el
          go_wp2_with fail
          go_roundw
          case rel => exact ⟨j + 1, _, by omega, by omega, by go_num, rfl, lb, Ab, nb, cb, HP.out⟩
          case measure => simp [intOf]; omega
      · have hk := doRet_ne hrt
        have hkb2 : (k == 0) = false := by simpa using hk
        have HS := hide (HS.out.later hb11)
        have HRE := hide (HRE.out.below hb11)
        have HBX := hide (show Below w11.heap.size w11 (w11.alloc (.cells zeroC 26)) from (Below.refl _ _).alloc (Nat.le_refl _) _)
        have HR9 := hide (RowAt.new w11 26 zeroC)
        clear q0 q1 q2 q3 ql e0 e1 el HC hrt hb11 hk
        go_upto_region 13 with (fail)
        generalize w11.alloc (.cells #[.int .u64 0, .slice none 0 0, .slice none 0 0, .slice none 0 0] 26) = w12 at *
        have HS := hide (HS.out.later HBX.out)
        have HRE := hide (HRE.out.below HBX.out)
        generalize w11.heap.size = g9 at *
        have q0 : w12.cell? ⟨g9, 0, none⟩ = some (.int .u64 0) := by have := HR9.out.cell 0; simpa using this
        have q1 : w12.cell? ⟨g9, 1, none⟩ = some (.slice none 0 0) := by have := HR9.out.cell 1; simpa using this
        have q2 : w12.cell? ⟨g9, 2, none⟩ = some (.slice none 0 0) := by have := HR9.out.cell 2; simpa using this
        have q3 : w12.cell? ⟨g9, 3, none⟩ = some (.slice none 0 0) := by have := HR9.out.cell 3; simpa using this
        have ql := HR9.out.lt
        have e0 := row20 HRE.out
        have e1 := row21 HRE.out
        have el := HRE.out.lt
        have HC := hide (when_zero s w12)
        go_wp2_with fail
        with_reducible refine HC.out.mono ?_
        rintro e w13 ⟨rfl, hb13⟩
        have HS := hide (HS.out.later hb13)
        clear q0 q1 q2 q3 ql e0 e1 el HC hb13 HBX HR9 HRE
        go_wp2_with fail
        go_roundw
        case rel => exact ⟨j + 1, _, by omega, by omega, by go_num, rfl, la, Aa, na, ca, HS.out⟩
        case measure => simp [intOf]; omega
    · have hd : decide (0 ≤ s) = false := by simpa using hneg
      have HC := hide (ready_any w10.heap.size Aa na ca la w10 HS.out.rd HS.out.E (Nat.le_refl _) HS.out.lens HS.out.gen (la.at 2) (by rw [HS.out.ok]; rfl))
      clear hneg HUJ HFW
      go_wp2_with fail
      with_reducible refine HC.out.mono ?_
      rintro e w11 ⟨vr, rfl, hor, hb11⟩
      obtain ⟨Ar, cr, rfl, _⟩ := own_form hor
      have HS := hide (HS.out.later hb11)
      clear q0 q1 q2 q3 ql e0 e1 el HC hor hb11 HRE
      have hN8 := at_len HS.out.ok 2
      obtain ⟨N0, hN0⟩ : ∃ N0, (la.at 2).length = N0 := ⟨_, rfl⟩
      rw [hN0] at hN8 ⊢
      have HN0 := hide hN0
      clear hN0
      go_wp2_with fail
      go_loopw [6, 84] (fun s6 i wr => ∃ (i' : Nat) (v : Value), i' ≤ N0 ∧ i = .int .i64 (i' : Int) ∧ s6 = v ∧ WtDr W wr g5 la i' v) (fun _ i _ => N0 - (intOf i).toNat)
      case atStart => exact ⟨0, _, Nat.zero_le _, rfl, rfl, Aa, na, ca, by rw [drn_zero]; exact HS.out⟩
      case round =>
        obtain ⟨i', v2, hi', rfl, rfl, Ac, nc, cc, hst⟩ := hrel
        have HS2 := hide hst
        obtain ⟨Av2, cv2, rfl, hcv2, hcvm2⟩ := hst.own.form
        clear hst HS
        by_cases hlt2 : i' < N0
        case neg =>
          obtain rfl : i' = N0 := by omega
          have HS3 := hide (show WtAt W wr g5 (drain la) Ac nc cc (.slice Av2 (drain la).held.length cv2) from by
            have h := HS2.out
            have e : drn la i' = drain la := by rw [← HN0.out]; exact drn_all la
            rw [e] at h; exact h)
          have hdr : drn la i' = drain la := by rw [← HN0.out]; exact drn_all la
          rw [hdr]
          clear HS2 hdr
          have q0 : wr.cell? ⟨g5, 0, none⟩ = some (.int .u64 ((drain la).E : Int)) := by have := RowAt.cell HS3.out.row 0; simpa [limC] using this
          have q1 : wr.cell? ⟨g5, 1, none⟩ = some (.slice (Ac 0) (nc 0) (cc 0)) := by have := RowAt.cell HS3.out.row 1; simpa [limC] using this
          have q2 : wr.cell? ⟨g5, 2, none⟩ = some (.slice (Ac 1) (nc 1) (cc 1)) := by have := RowAt.cell HS3.out.row 2; simpa [limC] using this
          have q3 : wr.cell? ⟨g5, 3, none⟩ = some (.slice (Ac 2) (nc 2) (cc 2)) := by have := RowAt.cell HS3.out.row 3; simpa [limC] using this
          have ql := HS3.out.row.lt
          have HC := hide (Advance_any wr.heap.size Ac nc cc (drain la) wr HS3.out.rd HS3.out.E (Nat.le_refl _) HS3.out.lens HS3.out.gen)
          have hRR : advR (drain la) = doAdv (drain la) := by unfold advR; rw [HS3.out.ok, if_pos rfl]
          rw [hRR] at HC
          clear hRR
          go_wp2_with fail
          with_reducible refine HC.out.mono ?_
          rintro e w12 ⟨hb12, (⟨lb, Ab, nb, cb, hrt, rfl, hown⟩ | ⟨k, hrt, rfl⟩)⟩
          · have HRT := hide hrt
            have HOW := hide hown
            have hgl : g5 < wr.heap.size := ql
            have HS3 := hide (HS3.out.later hb12)
            have HBX := hide (show Below w12.heap.size w12 (w12.alloc (.cells (limC lb.E Ab nb cb) 26)) from (Below.refl _ _).alloc (Nat.le_refl _) _)
            have HR9 := hide (RowAt.new w12 26 (limC lb.E Ab nb cb))
            clear q0 q1 q2 q3 ql HC hrt hown hb12
            go_upto_region 27 with (fail)
            generalize w12.alloc (.cells #[.int .u64 (lb.E : Int), .slice (Ab 0) (nb 0) (cb 0), .slice (Ab 1) (nb 1) (cb 1), .slice (Ab 2) (nb 2) (cb 2)] 26) = w13 at *
            have HS3 := hide (HS3.out.later HBX.out)
            have HOW := hide (HOW.out.keepB HBX.out)
            generalize w12.heap.size = g9 at *
            have y0 : w13.cell? ⟨g9, 0, none⟩ = some (.int .u64 (lb.E : Int)) := by have := RowAt.cell HR9.out 0; simpa [limC] using this
            have y1 : w13.cell? ⟨g9, 1, none⟩ = some (.slice (Ab 0) (nb 0) (cb 0)) := by have := RowAt.cell HR9.out 1; simpa [limC] using this
            have y2 : w13.cell? ⟨g9, 2, none⟩ = some (.slice (Ab 1) (nb 1) (cb 1)) := by have := RowAt.cell HR9.out 2; simpa [limC] using this
            have y3 : w13.cell? ⟨g9, 3, none⟩ = some (.slice (Ab 2) (nb 2) (cb 2)) := by have := RowAt.cell HR9.out 3; simpa [limC] using this
            have yl := HR9.out.lt
            have q0 : w13.cell? ⟨g5, 0, none⟩ = some (.int .u64 ((drain la).E : Int)) := by have := RowAt.cell HS3.out.row 0; simpa [limC] using this
            have q1 : w13.cell? ⟨g5, 1, none⟩ = some (.slice (Ac 0) (nc 0) (cc 0)) := by have := RowAt.cell HS3.out.row 1; simpa [limC] using this
            have q2 : w13.cell? ⟨g5, 2, none⟩ = some (.slice (Ac 1) (nc 1) (cc 1)) := by have := RowAt.cell HS3.out.row 2; simpa [limC] using this
            have q3 : w13.cell? ⟨g5, 3, none⟩ = some (.slice (Ac 2) (nc 2) (cc 2)) := by have := RowAt.cell HS3.out.row 3; simpa [limC] using this
            have ql := HS3.out.row.lt
            have qf0 := HS3.out.row.frozen 0
            have qf1 := HS3.out.row.frozen 1
            have qf2 := HS3.out.row.frozen 2
            have qf3 := HS3.out.row.frozen 3
            have HLD : Hid (LaidL g5 w13 (limC lb.E Ab nb cb) ((((w13.setCell ⟨g5, 0, none⟩ (.int .u64 (lb.E : Int))).setCell ⟨g5, 1, none⟩ (.slice (Ab 0) (nb 0) (cb 0))).setCell ⟨g5, 2, none⟩ (.slice (Ab 1) (nb 1) (cb 1))).setCell ⟨g5, 3, none⟩ (.slice (Ab 2) (nb 2) (cb 2)))) := hide (laidL_of HS3.out.row rfl)
            have HOKB := hide (ok_adv HS3.out.ok HRT.out)
            have HGB := hide (gen_adv HS3.out.gen HRT.out)
            have HHL := hide (show lb.held = (drain la).held from held_adv HRT.out)
            have HP := hide (WtAt.put (v2 := .slice Av2 (drain la).held.length cv2) HS3.out.below HS3.out.ge HLD.out HOW.out hgl HOKB.out HGB.out (by rw [HHL.out]; exact HS3.out.own))
            go_wp2_with fail
            generalize (((w13.setCell ⟨g5, 0, none⟩ (.int .u64 (lb.E : Int))).setCell ⟨g5, 1, none⟩ (.slice (Ab 0) (nb 0) (cb 0))).setCell ⟨g5, 2, none⟩ (.slice (Ab 1) (nb 1) (cb 1))).setCell ⟨g5, 3, none⟩ (.slice (Ab 2) (nb 2) (cb 2)) = w15 at *
            clear q0 q1 q2 q3 ql y0 y1 y2 y3 yl qf0 qf1 qf2 qf3
            go_roundw
            case rel => exact ⟨j + 1, _, by omega, by omega, by go_num, rfl, lb, Ab, nb, cb, HP.out⟩
            case measure => simp [intOf]; omega
          · have hk6 : k = 6 ∧ LAST ≤ (drain la).E := by
                unfold doAdv at hrt
                rw [if_neg (by simp [(each_drain la).2.2])] at hrt
                split at hrt
                · cases hrt
                · rename_i hn; injection hrt with hrt; exact ⟨hrt.symm, by omega⟩
            obtain ⟨rfl, hge⟩ := hk6
            have hle := (ok_out HS3.out.ok).1
            have hEq : (((drain la).E : Int) == 4611686018427387904) = true := by unfold LAST at hge hle; simp; omega
            have HBX := hide (hb12.trans ((Below.refl _ _).alloc hb12.size (.cells zeroC 26)))
            clear q0 q1 q2 q3 ql HC hrt hb12 hge hle
            go_upto_region 27 with (fail)
            generalize w12.alloc (.cells #[.int .u64 0, .slice none 0 0, .slice none 0 0, .slice none 0 0] 26) = w13 at *
            have HS3 := hide (HS3.out.later HBX.out)
            have q0 : w13.cell? ⟨g5, 0, none⟩ = some (.int .u64 ((drain la).E : Int)) := by have := HS3.out.row.cell 0; simpa [limC] using this
            have ql := HS3.out.row.lt
            have HF := hide HS3.out.below
            go_wp2_with fail
            go_ret
            exact ⟨rfl, HF.out⟩
        have hi2 : (i' : Int) < (N0 : Int) := by omega
        have hix : i' < (la.at 2).length := by rw [HN0.out]; exact hlt2
        have hhd := held_drn la hix
        obtain ⟨rr, hrr⟩ := drn_head la hix
        have HTK := hide (drn_take la i' hix)
        obtain ⟨x, hxx⟩ : ∃ x, (la.at 2).getD i' (0, 0) = x := ⟨_, rfl⟩
        rw [hxx] at hhd hrr HTK
        have HWH := hide (whenR_head HS2.out.ok hrr)
        have HHD := hide hhd
        have hE2 := ok_at HS2.out.ok (a := 2) (by omega) (by rw [hrr]; simp)
        obtain ⟨mh, hmh⟩ : ∃ mh, (drn la i').held.length = mh := ⟨_, rfl⟩
        have HMR := hide (show mh = (drn la (i' + 1)).held.length + 1 from by rw [← hmh, hhd]; rfl)
        have hm1 : 1 ≤ mh := by have := HMR.out; omega
        have HMH := hide hmh
        have hrd0 := HS2.out.own.rd
        rw [hhd] at hrd0
        obtain ⟨b2, o2, rfl, hb2, d0, d1⟩ := Rd.ent (k := 0) hrd0 rfl (by simp)
        simp only [Nat.zero_mul, Nat.add_zero, List.getD_cons_zero] at d0 d1
        obtain ⟨xs, xg⟩ := x
        dsimp only at d0 d1 HWH
        rw [hmh] at hcv2 ⊢
        have hm0 : (0 : Int) < (mh : Int) := by omega
        have hm0N : 0 < mh := by omega
        have hmcI : (mh : Int) ≤ (cv2 : Int) := by omega
        have hm8 : mh ≤ 128 := by rw [← hmh]; exact ok_held_len HS2.out.ok
        clear hhd hrr hxx hmh hrd0
        have hEI : ((drn la i').E : Int) = (la.E : Int) := rfl
        generalize hwi : wr = wi at *
        clear hwi
        have q0 : wi.cell? ⟨g5, 0, none⟩ = some (.int .u64 ((drn la i').E : Int)) := by have := RowAt.cell HS2.out.row 0; simpa [limC] using this
        have q1 : wi.cell? ⟨g5, 1, none⟩ = some (.slice (Ac 0) (nc 0) (cc 0)) := by have := RowAt.cell HS2.out.row 1; simpa [limC] using this
        have q2 : wi.cell? ⟨g5, 2, none⟩ = some (.slice (Ac 1) (nc 1) (cc 1)) := by have := RowAt.cell HS2.out.row 2; simpa [limC] using this
        have q3 : wi.cell? ⟨g5, 3, none⟩ = some (.slice (Ac 2) (nc 2) (cc 2)) := by have := RowAt.cell HS2.out.row 3; simpa [limC] using this
        have ql := HS2.out.row.lt
        have HWC := hide (fun (w : World) (hb : Below wi.heap.size wi w) => when_any wi.heap.size Ac nc cc (drn la i') xs w (HS2.out.rd.below hb) HS2.out.E hb.size HS2.out.lens HS2.out.gen (((drn la i').E : Int) - 2) true HWH.out)
        clear HWH hEI
        go_upto_region 20 with (fail)
        refine wp_region_held_drew (S := fun wX => Below wi.heap.size wi wX) (by kernel_rfl) (Below.refl _ _).drew (fun hHeld => ?_)
        have HQ := hide ((Below.refl wi.heap.size wi).drew)
        (refine wpAnyH_take (i := 0) (v := ?_) rfl (by kernel_rfl) (by kernel_rfl) (by kernel_rfl) (fun _ _ _ h => h) (Or.inl ⟨by rfl, ?_⟩) (by assumption) ?_; rotate_left; (focus (intro w hSw; (try dsimp only at hSw); have kf0 := kept hSw q0; have kf1 := kept hSw q1; have kf2 := kept hSw q2; have kf3 := kept hSw q3; go_simp; first | done | with_reducible rfl)); (try simp only [Act.put, List.getElem_toArray, List.getElem_cons_succ, List.getElem_cons_zero, List.setIfInBounds_toArray, List.set_cons_zero, List.set_cons_succ]))
        (refine wpAnyH_take (i := 1) (v := ?_) rfl (by kernel_rfl) (by kernel_rfl) (by kernel_rfl) (fun _ _ _ h => h) (Or.inl ⟨by rfl, ?_⟩) (by assumption) ?_; rotate_left; (focus (intro w hSw; (try dsimp only at hSw); go_simp; first | done | with_reducible rfl)); (try simp only [Act.put, List.getElem_toArray, List.getElem_cons_succ, List.getElem_cons_zero, List.setIfInBounds_toArray, List.set_cons_zero, List.set_cons_succ]))
        (refine wpAnyH_take (i := 2) (v := ?_) rfl (by kernel_rfl) (by kernel_rfl) (by kernel_rfl) (fun _ _ _ h => h) (Or.inl ⟨by rfl, ?_⟩) (by assumption) ?_; rotate_left; (focus (intro w hSw; (try dsimp only at hSw); go_simp; first | done | with_reducible rfl)); (try simp only [Act.put, List.getElem_toArray, List.getElem_cons_succ, List.getElem_cons_zero, List.setIfInBounds_toArray, List.set_cons_zero, List.set_cons_succ]))
        (refine wpAnyH_take (i := 3) (v := ?_) rfl (by kernel_rfl) (by kernel_rfl) (by kernel_rfl) (fun _ _ _ h => h) (Or.inl ⟨by rfl, ?_⟩) (by assumption) ?_; rotate_left; (focus (intro w hSw; (try dsimp only at hSw); go_simp; first | done | with_reducible rfl)); (try simp only [Act.put, List.getElem_toArray, List.getElem_cons_succ, List.getElem_cons_zero, List.setIfInBounds_toArray, List.set_cons_zero, List.set_cons_succ]))
        (refine wpAnyH_take (i := 4) (v := ?_) rfl (by kernel_rfl) (by kernel_rfl) (by kernel_rfl) (fun _ _ _ h => h) (Or.inl ⟨by rfl, ?_⟩) (by assumption) ?_; rotate_left; (focus (intro w hSw; (try dsimp only at hSw); have kf0 := kept hSw d0; go_simp; first | done | with_reducible rfl)); (try simp only [Act.put, List.getElem_toArray, List.getElem_cons_succ, List.getElem_cons_zero, List.setIfInBounds_toArray, List.set_cons_zero, List.set_cons_succ]))
        generalize wi.drew = wd at *
        refine wpAnyH_ready (rs := [5]) (by kernel_rfl) (by simp) ?_
        refine (AllReadyH.cons rfl (fun K0 hK0 => ?_) AllReadyH.nil)
        go_simp
        refine (HWC.out _ HQ.out).mono ?_
        rintro e wj ⟨rfl, hbj⟩
        replace HQ := hide (HQ.out.trans (hbj.mono HQ.out.size))
        clear hbj
        refine hK0.out _ _ (HQ.out) (fun _ => ?_)
        clear hK0 K0
        (try simp only [Act.put, List.getElem_toArray, List.getElem_cons_succ, List.getElem_cons_zero, List.setIfInBounds_toArray, List.set_cons_zero, List.set_cons_succ])
        (refine wpAnyH_take (i := 6) (v := ?_) rfl (by kernel_rfl) (by kernel_rfl) (by kernel_rfl) (fun _ _ _ h => h) (Or.inl ⟨by rfl, ?_⟩) (by assumption) ?_; rotate_left; (focus (intro w hSw; (try dsimp only at hSw); go_simp; first | done | with_reducible rfl)); (try simp only [Act.put, List.getElem_toArray, List.getElem_cons_succ, List.getElem_cons_zero, List.setIfInBounds_toArray, List.set_cons_zero, List.set_cons_succ]))
        (refine wpAnyH_take (i := 7) (v := ?_) rfl (by kernel_rfl) (by kernel_rfl) (by kernel_rfl) (fun _ _ _ h => h) (Or.inl ⟨by rfl, ?_⟩) (by assumption) ?_; rotate_left; (focus (intro w hSw; (try dsimp only at hSw); go_simp; first | done | with_reducible rfl)); (try simp only [Act.put, List.getElem_toArray, List.getElem_cons_succ, List.getElem_cons_zero, List.setIfInBounds_toArray, List.set_cons_zero, List.set_cons_succ]))
        (refine wpAnyH_take (i := 8) (v := ?_) rfl (by kernel_rfl) (by kernel_rfl) (by kernel_rfl) (fun _ _ _ h => h) (Or.inl ⟨by rfl, ?_⟩) (by assumption) ?_; rotate_left; (focus (intro w hSw; (try dsimp only at hSw); go_simp; first | done | with_reducible rfl)); (try simp only [Act.put, List.getElem_toArray, List.getElem_cons_succ, List.getElem_cons_zero, List.setIfInBounds_toArray, List.set_cons_zero, List.set_cons_succ]))
        (refine wpAnyH_take (i := 9) (v := ?_) rfl (by kernel_rfl) (by kernel_rfl) (by kernel_rfl) (fun _ _ _ h => h) (Or.inl ⟨by rfl, ?_⟩) (by assumption) ?_; rotate_left; (focus (intro w hSw; (try dsimp only at hSw); go_simp; first | done | with_reducible rfl)); (try simp only [Act.put, List.getElem_toArray, List.getElem_cons_succ, List.getElem_cons_zero, List.setIfInBounds_toArray, List.set_cons_zero, List.set_cons_succ]))
        (refine wpAnyH_take (i := 10) (v := ?_) rfl (by kernel_rfl) (by kernel_rfl) (by kernel_rfl) (fun _ _ _ h => h) (Or.inl ⟨by rfl, ?_⟩) (by assumption) ?_; rotate_left; (focus (intro w hSw; (try dsimp only at hSw); go_simp; first | done | with_reducible rfl)); (try simp only [Act.put, List.getElem_toArray, List.getElem_cons_succ, List.getElem_cons_zero, List.setIfInBounds_toArray, List.set_cons_zero, List.set_cons_succ]))
        refine wpAnyH_done (by kernel_rfl) ?_ _
        have HS2 := hide (HS2.out.later HQ.out)
        have d0 := kept HQ.out d0
        have d1 := kept HQ.out d1
        have hbi := HQ.out.size
        clear q0 q1 q2 q3 ql HWC HQ
        have q0 : wj.cell? ⟨g5, 0, none⟩ = some (.int .u64 ((drn la i').E : Int)) := by have := RowAt.cell HS2.out.row 0; simpa [limC] using this
        have q1 : wj.cell? ⟨g5, 1, none⟩ = some (.slice (Ac 0) (nc 0) (cc 0)) := by have := RowAt.cell HS2.out.row 1; simpa [limC] using this
        have q2 : wj.cell? ⟨g5, 2, none⟩ = some (.slice (Ac 1) (nc 1) (cc 1)) := by have := RowAt.cell HS2.out.row 2; simpa [limC] using this
        have q3 : wj.cell? ⟨g5, 3, none⟩ = some (.slice (Ac 2) (nc 2) (cc 2)) := by have := RowAt.cell HS2.out.row 3; simpa [limC] using this
        have ql := HS2.out.row.lt
        have hgl : g5 < wj.heap.size := ql
        have HC := hide (Take_any wj.heap.size Ac nc cc (drn la i') wj HS2.out.rd HS2.out.E (Nat.le_refl _) HS2.out.lens HS2.out.gen)
        have hRR : takR (drn la i') = .ok (drn la (i' + 1), (xs, xg)) := by unfold takR; rw [HS2.out.ok, if_pos rfl]; exact HTK.out
        go_wp2_with fail
        with_reducible refine HC.out.mono ?_
        rintro e w12 hres
        obtain ⟨Ab, nb, cb, ⟨rfl, hown⟩, hb12⟩ := outResT_ok hres hRR
        have HOW := hide hown
        have HS2 := hide (HS2.out.later hb12)
        have d0 := kept hb12 d0
        have d1 := kept hb12 d1
        clear q0 q1 q2 q3 ql HC hRR hres hown hb12 hbi
        have HBX := hide (show Below w12.heap.size w12 ((w12.alloc (.cells (limC (drn la (i' + 1)).E Ab nb cb) 26)).alloc (.cells #[.int .i64 xs, .int .u64 xg] 34)) from ((Below.refl _ _).alloc (Nat.le_refl _) _).alloc (by simp) _)
        have HR9 := hide ((RowAt.new w12 26 (limC (drn la (i' + 1)).E Ab nb cb)).below ((Below.refl _ _).alloc (Nat.le_refl _) (.cells #[.int .i64 xs, .int .u64 xg] 34)))
        have HR10 := hide (RowAt.new (w12.alloc (.cells (limC (drn la (i' + 1)).E Ab nb cb) 26)) 34 #[.int .i64 xs, .int .u64 xg])
        rw [World.size_alloc] at HR10
        go_upto_region 22 with (fail)
        generalize (w12.alloc (.cells #[.int .u64 ((drn la (i' + 1)).E : Int), .slice (Ab 0) (nb 0) (cb 0), .slice (Ab 1) (nb 1) (cb 1), .slice (Ab 2) (nb 2) (cb 2)] 26)).alloc (.cells #[.int .i64 xs, .int .u64 xg] 34) = w13 at *
        have HS2 := hide (HS2.out.later HBX.out)
        have HOW := hide (HOW.out.keepB HBX.out)
        have d0 := kept HBX.out d0
        have d1 := kept HBX.out d1
        generalize w12.heap.size = g15 at *
        have t0 := row20 HR10.out
        have t1 := row21 HR10.out
        have tl := HR10.out.lt
        have q0 : w13.cell? ⟨g5, 0, none⟩ = some (.int .u64 ((drn la i').E : Int)) := by have := HS2.out.row.cell 0; simpa [limC] using this
        have ql := HS2.out.row.lt
        have hbl2 : b2 < w13.heap.size := cell_lt2 d0
        have hne := fun w => neqE w (xs, xg) (xs, xg) true (by simp)
        have hEL : ((drn la i').E : Int) ≤ 4611686018427387904 := by have := (ok_out HS2.out.ok).1; unfold LAST at this; omega
        have hE2I : (2 : Int) ≤ ((drn la i').E : Int) := by omega
        have hw2 : IntKind.u64.wrap (((drn la i').E : Int) - 2 + 2) = ((drn la i').E : Int) - 2 + 2 := IntWalk.u64_in _ (by omega)
        have hw3 : (((drn la i').E : Int) - 2 + 2 != ((drn la i').E : Int)) = false := by rw [bne_eq_false_iff_eq]; omega
        have hz0 : ((0 : Int) != 0) = false := rfl
        dsimp only at hne
        go_quiet (fail)
        have hbq := below_drewN (Below.refl w13.heap.size w13) nq
        have HS2 := hide (HS2.out.later hbq)
        have HOW := hide (HOW.out.keepB hbq)
        have HR9 := hide (HR9.out.below hbq)
        clear d0 d1 q0 ql t0 t1 tl hne hw2 hw3 hbl2 hE2I hEL hbq
        generalize w13.drewN nq = w14 at *
        go_upto_region 24 with (fail)
        have y0 : w14.cell? ⟨g15, 0, none⟩ = some (.int .u64 ((drn la (i' + 1)).E : Int)) := by have := RowAt.cell HR9.out 0; simpa [limC] using this
        have y1 : w14.cell? ⟨g15, 1, none⟩ = some (.slice (Ab 0) (nb 0) (cb 0)) := by have := RowAt.cell HR9.out 1; simpa [limC] using this
        have y2 : w14.cell? ⟨g15, 2, none⟩ = some (.slice (Ab 1) (nb 1) (cb 1)) := by have := RowAt.cell HR9.out 2; simpa [limC] using this
        have y3 : w14.cell? ⟨g15, 3, none⟩ = some (.slice (Ab 2) (nb 2) (cb 2)) := by have := RowAt.cell HR9.out 3; simpa [limC] using this
        have yl := HR9.out.lt
        have q0 : w14.cell? ⟨g5, 0, none⟩ = some (.int .u64 ((drn la i').E : Int)) := by have := RowAt.cell HS2.out.row 0; simpa [limC] using this
        have q1 : w14.cell? ⟨g5, 1, none⟩ = some (.slice (Ac 0) (nc 0) (cc 0)) := by have := RowAt.cell HS2.out.row 1; simpa [limC] using this
        have q2 : w14.cell? ⟨g5, 2, none⟩ = some (.slice (Ac 1) (nc 1) (cc 1)) := by have := RowAt.cell HS2.out.row 2; simpa [limC] using this
        have q3 : w14.cell? ⟨g5, 3, none⟩ = some (.slice (Ac 2) (nc 2) (cc 2)) := by have := RowAt.cell HS2.out.row 3; simpa [limC] using this
        have ql := HS2.out.row.lt
        have qf0 := HS2.out.row.frozen 0
        have qf1 := HS2.out.row.frozen 1
        have qf2 := HS2.out.row.frozen 2
        have qf3 := HS2.out.row.frozen 3
        have hm1I : (1 : Int) ≤ (mh : Int) := by omega
        go_region
        have HLD : Hid (LaidL g5 w14 (limC (drn la (i' + 1)).E Ab nb cb) ((((w14.setCell ⟨g5, 0, none⟩ (.int .u64 ((drn la (i' + 1)).E : Int))).setCell ⟨g5, 1, none⟩ (.slice (Ab 0) (nb 0) (cb 0))).setCell ⟨g5, 2, none⟩ (.slice (Ab 1) (nb 1) (cb 1))).setCell ⟨g5, 3, none⟩ (.slice (Ab 2) (nb 2) (cb 2)))) := hide (laidL_of HS2.out.row rfl)
        generalize (((w14.setCell ⟨g5, 0, none⟩ (.int .u64 ((drn la (i' + 1)).E : Int))).setCell ⟨g5, 1, none⟩ (.slice (Ab 0) (nb 0) (cb 0))).setCell ⟨g5, 2, none⟩ (.slice (Ab 1) (nb 1) (cb 1))).setCell ⟨g5, 3, none⟩ (.slice (Ab 2) (nb 2) (cb 2)) = w15 at *
        have HLD : Hid (LaidL g5 w14 (limC (drn la (i' + 1)).E Ab nb cb) w15.drew) := hide ⟨HLD.out.row.drew, HLD.out.block, HLD.out.below.drew⟩
        generalize w15.drew = w16 at *
        have hmL : (drn la (i' + 1)).held.length = mh - 1 := by have := HMR.out; omega
        have hO2 : OwnO w14 (g5 + 1) 34 2 (.slice (some ⟨b2, o2, none⟩) mh cv2) mh (Cs encE ((xs, xg) :: (drn la (i' + 1)).held)) := by
          have h := HS2.out.own
          rw [HMH.out, HHD.out] at h; exact h
        have hOF : OwnO w14 (g5 + 1) 34 2 (.slice (if cv2 = 1 then some ⟨b2, o2, none⟩ else some ⟨b2, o2 + 2, none⟩) (mh - 1) (cv2 - 1)) (mh - 1) (Cs encE (drn la (i' + 1)).held) := by
          by_cases hcv : cv2 = 1
          · rw [if_pos hcv]
            have h0 : (drn la (i' + 1)).held = [] := List.eq_nil_of_length_eq_zero (by omega)
            rw [h0, show mh - 1 = 0 from by omega, show cv2 - 1 = 0 from by omega]
            exact hO2.empty
          · rw [if_neg hcv]
            have h := hO2.tail (k := 1) (m := cv2) (by omega) (by omega) (Nat.le_refl _)
            exact h
        have HP := hide (WtAt.put (W := W) (v2 := .slice (if cv2 = 1 then some ⟨b2, o2, none⟩ else some ⟨b2, o2 + 2, none⟩) (mh - 1) (cv2 - 1)) HS2.out.below HS2.out.ge HLD.out HOW.out hgl (ok_take HS2.out.ok HTK.out) (gen_take HS2.out.gen HTK.out).1 (by rw [hmL]; exact hOF))
        clear q0 q1 q2 q3 ql y0 y1 y2 y3 yl qf0 qf1 qf2 qf3 hO2 hOF
        go_wp2_with fail
        go_roundw
        case rel => exact ⟨i' + 1, _, by omega, by go_num, rfl, Ab, nb, cb, HP.out⟩
        case measure => simp [intOf]; omega
end Go.Proofs.YthnpcmigphpolaaDoor

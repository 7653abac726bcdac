/-
  The steps of a monitor that changes: take.
-/
import Derived.Test.YtfpbabafeecncaaMoj
set_option linter.unusedSimpArgs false
set_option linter.unusedVariables false
namespace Go.Proofs.Ytfpbabafeecncaa
open Go Go.RowKit
attribute [local go_sem] via_cell via_frozen

theorem tkL_one (s : List Ent) (h : tkE s 1 = 0) : (tkL s 1).length = 1 := by
  obtain ⟨_, e, r, _, _, h3, _⟩ := tk_one h
  rw [h3]; rfl
theorem WAt.setFree {w : World} {gx base g i : Nat} {a0 a1 a2 a3 a4 : Option Addr} {n0 n1 n2 n3 n4 c0 c1 c2 c3 c4 : Nat} {ts : List Hm} {m : Mon} {tk : List Ent} {v : Value} {cs : Array Value} (h : WAt w gx base a0 a1 a2 a3 a4 n0 n1 n2 n3 n4 c0 c1 c2 c3 c4 ts m tk) (hr : RowAt w g 45 cs) (hne : (Value.slice a3 n3 c3).ownBlock ≠ some g) (hgx : g ≠ gx) :
    WAt (w.setCell ⟨g, i, none⟩ v) gx base a0 a1 a2 a3 a4 n0 n1 n2 n3 n4 c0 c1 c2 c3 c4 ts m tk :=
  ⟨h.row.setNe (fun e => hgx e.symm), h.sl.setT hr (by decide), own_setT h.pin hr (by decide), own_setT h.has hr (by decide), fun t ht => own_setT (h.rows t ht) hr (by decide), own_kept h.bad (fun j hj _ => heap_setCell_ne _ _ _ _ (by rintro rfl; exact hne hj)), own_setT h.took hr (by decide), h.l1, h.l2, h.l3, h.l4, h.hs, h.apart, h.apt⟩
def takeR (m : Mon) (tk : List Ent) (g : Nat) : Except Int (Mon × List Ent) := if pinM m g then (if tkE m.sl 1 = 0 then .ok (getM ⟨tkA m.sl 1, m.pin, m.has, m.bad⟩ g ((tkL m.sl 1).getD 0 (0, 0)), tk ++ tkL m.sl 1) else .error (tkE m.sl 1)) else .error 4
set_option maxRecDepth 20000 in
set_option maxHeartbeats 2000000 in
theorem mtake_any (gx base : Nat) (a0 a1 a2 a3 a4 : Option Addr) (n0 n1 n2 n3 n4 c0 c1 c2 c3 c4 : Nat) (ts : List Hm) (m : Mon) (tk : List Ent) (k s z : Int) (g : Nat) (W : World) (h : WAt W gx base a0 a1 a2 a3 a4 n0 n1 n2 n3 n4 c0 c1 c2 c3 c4 ts m tk) (hbw : base ≤ W.heap.size) (hs : SmallX n0 n1 n2 n3 ts) (hg : g < n1) (hg2 : g < n2) (hq : ∀ t ∈ ts, t.q.length ≤ 4095) (hn4 : n4 ≤ 4095) (ho : OkM m) (r : Except Int (Mon × List Ent)) (hr : takeR m tk g = r) :
    Calls Try.prog 73 #[.pointer (some ⟨gx, 0, none⟩), .agg #[.int .i64 k, .int .i64 (g : Int), .int .i64 s, .int .u64 z]] W (DeedRes gx base r W) := by
  have hbx : Below W.heap.size W (W.alloc (.cells #[.int .i64 k, .int .i64 (g : Int), .int .i64 s, .int .u64 z] 45)) := (Below.refl _ _).alloc (Nat.le_refl _) _
  have H := hide (h.below hbx)
  have RX := hide (RowAt.new W 45 #[.int .i64 k, .int .i64 (g : Int), .int .i64 s, .int .u64 z])
  have HB := hide hbx
  have HS := hide hs
  have HBW := hide (Nat.le_trans hbw hbx.size)
  have hgI : (g : Int) < (n1 : Int) := by omega
  have hgI2 : (g : Int) < (n2 : Int) := by omega
  have HBO := hide (show ∀ q, (Value.slice a3 n3 c3).ownBlock = some q → q < W.heap.size from fun q hq => by obtain ⟨_, cs, hr⟩ := own_typ h.bad hq; exact hr.lt)
  have HBW0 := hide hbw
  have HQ := hide hq
  have HOK := hide ho
  have HN4 := hide hn4
  have HNX := hide (show W.heap.size ≠ gx from by have := h.row.lt; omega)
  clear hq ho hn4
  obtain ⟨p, hp⟩ : ∃ p, pinM m g = p := ⟨_, rfl⟩
  unfold takeR at hr
  rw [hp] at hr
  have HR := hide hr
  have HC := hide (pinned_any gx base _ _ _ _ _ _ _ _ _ _ _ _ _ _ _ ts m tk k s z g _ H.out hg p hp)
  obtain ⟨y0, y1, y2, y3⟩ := row4 RX.out
  have yl := RX.out.lt
  have HPN := hide hp
  have HWX := hide (show W.heap.size < (W.alloc (.cells #[.int .i64 k, .int .i64 (g : Int), .int .i64 s, .int .u64 z] 45)).heap.size from by simp)
  clear h hbx hp hr hs hbw
  go_enter Try.func73, Try.ntmps73
  go_wp2_with fail
  generalize W.alloc (.cells #[.int .i64 k, .int .i64 (g : Int), .int .i64 s, .int .u64 z] 45) = w1 at *
  with_reducible refine HC.out.mono ?_
  rintro e w2 ⟨hor, hb2⟩
  replace H := hide (H.out.below hb2)
  replace RX := hide (RX.out.below hb2)
  replace HB := hide (HB.out.trans (hb2.mono HB.out.size))
  replace HBW := hide (Nat.le_trans HBW.out hb2.size)
  clear hb2 y0 y1 y2 y3 yl HC
  rcases hor with ⟨rfl, rfl⟩ | ⟨rfl, rfl⟩
  case inr =>
    have HP := hide (PastB.of_below (n := base) (kl := gx) HB.out)
    go_wp2_with fail
    exact ⟨rfl, HP.out, .inr ⟨4, HR.out.symm, rfl⟩⟩
  have HR1 := hide (show (if tkE m.sl 1 = 0 then Except.ok (getM ⟨tkA m.sl 1, m.pin, m.has, m.bad⟩ g ((tkL m.sl 1).getD 0 (0, 0)), tk ++ tkL m.sl 1) else .error (tkE m.sl 1)) = r from HR.out)
  clear HR
  obtain ⟨x0, x1, x2, x3, x4⟩ := row5 H.out.row
  have xl := H.out.row.lt
  obtain ⟨y0, y1, y2, y3⟩ := row4 RX.out
  have yl := RX.out.lt
  have HT := hide (Take_any a0 c0 n0 1 m.sl w2 H.out.sl.rd H.out.sl.len HS.out.s0)
  go_wp2_with fail
  refine HT.out.mono ?_
  rintro e w3 ⟨A5, n5, c5, A6, m6, c6, rfl, hnc5, hmc6, hout5, hl6, hrd6, hfr6, hb3⟩
  have HSL := hide (SlAt.of_out hout5 (Nat.le_refl _))
  have HSL := hide (show SlAt w3 base A5 n5 (tkA m.sl 1) from SlAt.of_out hout5 HBW.out)
  have HLT := hide (show ∀ q, (Value.slice a4 n4 c4).ownBlock = some q → q < w2.heap.size from fun q hq => by obtain ⟨_, cs, hr⟩ := own_typ H.out.took hq; exact hr.lt)
  have HGX := hide (show gx < w2.heap.size from H.out.row.lt)
  have HBX2 := hide (show W.heap.size < w2.heap.size from RX.out.lt)
  replace H := hide (H.out.below hb3)
  replace RX := hide (RX.out.below hb3)
  replace HB := hide (HB.out.trans (hb3.mono HB.out.size))
  replace HBW := hide (Nat.le_trans HBW.out hb3.size)
  have HL6 := hide hl6
  have HR6 := hide hrd6
  have HF6 := hide (show ∀ p, A6 = some p → w2.heap.size ≤ p.block from hfr6)
  have HM6 := hide hmc6
  clear x0 x1 x2 x3 x4 xl y0 y1 y2 y3 yl hout5 hb3 hl6 hrd6 hfr6 HT hnc5 hmc6
  obtain ⟨E, hE⟩ : ∃ E, tkE m.sl 1 = E := ⟨_, rfl⟩
  have HE := hide hE
  rw [hE]
  clear hE
  have hbx : Below w3.heap.size w3 (w3.alloc (.cells #[.slice A5 n5 c5] 27)) := (Below.refl _ _).alloc (Nat.le_refl _) _
  have RA := hide (RowAt.new w3 27 #[.slice A5 n5 c5])
  replace H := hide (H.out.below hbx)
  replace RX := hide (RX.out.below hbx)
  replace HB := hide (HB.out.trans (hbx.mono HB.out.size))
  replace HBW := hide (Nat.le_trans HBW.out hbx.size)
  replace HSL := hide (HSL.out.kept hbx.size (fun g _ hr => hbx.block g hr.lt))
  replace HR6 := hide ((HR6.out.below hbx).more hbx.size)
  clear hbx
  have z0 := row1 RA.out
  have zl := RA.out.lt
  go_upto_region 3 with (fail)
  generalize w3.alloc (.cells #[.slice A5 n5 c5] 27) = w4 at *
  generalize w3.heap.size = ga at *
  have HC := hide (slabsF_any gx base _ _ _ _ _ _ _ _ _ _ _ _ _ _ _ ts m tk A5 n5 c5 (tkA m.sl 1) E w4 H.out HSL.out)
  go_wp2_with fail
  refine HC.out.mono ?_
  rintro e w5 ⟨hp, hor⟩
  have HPS := hide hp
  clear z0 zl HC RA
  rcases hor with ⟨h0, rfl, hw⟩ | ⟨h0, rfl⟩
  case inr =>
    have HRR := hide (show Except.error E = r from by rw [← HR1.out, HE.out, if_neg h0])
    have HP := hide ((PastB.of_below (n := base) (kl := gx) HB.out).trans (PastB.of_past (n := base) HPS.out))
    clear h0 hp
    go_wp2_with fail
    exact ⟨rfl, HP.out, .inr ⟨_, HRR.out.symm, rfl⟩⟩
  subst h0
  have HRR := hide (show Except.ok (getM ⟨tkA m.sl 1, m.pin, m.has, m.bad⟩ g ((tkL m.sl 1).getD 0 (0, 0)), tk ++ tkL m.sl 1) = r from by rw [← HR1.out, if_pos HE.out])
  have H5 := hide hw
  have RX5 := hide (RX.out.past hp (by have := HGX.out; have := HBX2.out; intro e; have := HWX.out; have := HNX.out; omega))
  have HR5 := hide (show Rd w5 w5.heap.size 2 A6 m6 (Cs encE (tkL m.sl 1)) from by
    refine ⟨HR6.out.1, fun hn => ?_⟩
    obtain ⟨b, o, e, hb, hc⟩ := HR6.out.2 hn
    have h1 := HF6.out _ e
    have h2 := HGX.out
    exact ⟨b, o, e, Nat.lt_of_lt_of_le hb hp.size, fun j u hu => (hp.cell ⟨b, o + j, none⟩ (by show b ≠ gx; intro e2; have h1' : w2.heap.size ≤ b := h1; omega) hb).trans (hc j u hu)⟩)
  have h61 : m6 = 1 := by rw [← HL6.out]; exact tkL_one _ HE.out
  subst h61
  have HP5 := hide ((PastB.of_below (n := base) (kl := gx) HB.out).trans (PastB.of_past (n := base) hp))
  have HBW5 := hide (Nat.le_trans HBW.out hp.size)
  clear hp hw H RX HR6 HB HBW HSL HPS
  obtain ⟨x0, x1, x2, x3, x4⟩ := row5 H5.out.row
  have xl := H5.out.row.lt
  have L4 := hide H5.out.l4
  have HNT := hide (show some gx ≠ (Value.slice a4 n4 c4).ownBlock from H5.out.nx H5.out.took (by decide))
  have HNB := hide (show some W.heap.size ≠ (Value.slice a4 n4 c4).ownBlock from fun e => by obtain ⟨_, cs, hr⟩ := own_typ H5.out.took e.symm; exact absurd (row_typ hr RX5.out) (by decide))
  go_upto_region 4 with (fail)
  go_upto_region 5 with (at_builtin; go_loud (refine wpList_app elE rfl _ _ rfl rfl H5.out.took rfl HR5.out (Cs_one_cell encE_one _) (by have := HN4.out; omega) HBW5.out ?_); intro v6 w6 hown6 hb6 hg6 hv6; obtain ⟨A7, c7, rfl, hc7, hcm7⟩ := own_form2 hown6; have hr6 : RowAt w6 gx 85 _ := H5.out.row.heap (hg6.block gx H5.out.row.lt HNT.out); obtain ⟨k0, k1, k2, k3, k4⟩ := row5 hr6; have kl := hr6.lt; have kf := hr6.frozen 4; have HH6 := hide (H5.out.setTook hg6 (A := A7) (n := n4 + 1) (c := c7) (xs := tk ++ tkL m.sl 1) (by rw [Cs_append]; exact hown6) (by rw [List.length_append, L4.out, HL6.out]) hv6); have RX6 := hide (RX5.out.heap (hg6.block _ RX5.out.lt HNB.out)); have HR6 := hide (HR5.out.grown2 hg6 (fun p hp e => by have := HLT.out _ e.symm; have := HF6.out p hp; omega) (Nat.le_refl _)); have HP6 := hide (HP5.out.trans ((PastB.grown (n := base) (kl := gx) hg6 (fun q hq => (own_typ H5.out.took hq).1)).trans (PastB.set (g := gx) (i := 4) (v := .slice A7 (n4 + 1) c7) (.inr rfl)))); have HS6 := hide hg6.size; clear hown6 hb6 hg6 hv6 hc7 hcm7 x0 x1 x2 x3 x4 xl)
  clear k0 k1 k2 k3 k4 kl kf hr6
  have RX7 := hide (RX6.out.setNe (g2 := gx) (o := 4) (v := .slice A7 (n4 + 1) c7) HNX.out)
  have HR7 := hide (show Rd (w6.setCell ⟨gx, 4, none⟩ (.slice A7 (n4 + 1) c7)) w5.heap.size 2 A6 1 (Cs encE (tkL m.sl 1)) from by
    refine ⟨HR6.out.1, fun hn => ?_⟩
    obtain ⟨b, o, e, hb, hc⟩ := HR6.out.2 hn
    have h1 := HF6.out _ e
    have h2 := HGX.out
    exact ⟨b, o, e, hb, fun j u hu => (cell_of_heap (p := ⟨b, o + j, none⟩) (heap_setCell_ne _ _ _ _ (by show b ≠ gx; intro e2; have h1' : w2.heap.size ≤ b := h1; omega))).trans (hc j u hu)⟩)
  have HS7 := hide (show w5.heap.size ≤ (w6.setCell ⟨gx, 4, none⟩ (.slice A7 (n4 + 1) c7)).heap.size from by simpa using HS6.out)
  generalize w6.setCell ⟨gx, 4, none⟩ (.slice A7 (n4 + 1) c7) = w7 at *
  clear H5 RX5 RX6 HR5 HR6 HP5 HS6 HNT HNB
  obtain ⟨b, o, rfl, hb, d0, d1⟩ := Rd.entAt HR7.out HL6.out (k := 0) (by omega)
  obtain ⟨x, hx⟩ : ∃ x, (tkL m.sl 1).getD 0 (0, 0) = x := ⟨_, rfl⟩
  rw [hx] at d0 d1 HRR
  have HX := hide hx
  obtain ⟨s', z'⟩ := x
  simp only [Nat.zero_mul, Nat.add_zero] at d0 d1
  have hbl : b < w7.heap.size := Nat.lt_of_lt_of_le hb HS7.out
  obtain ⟨y0, y1, y2, y3⟩ := row4 RX7.out
  have yl := RX7.out.lt
  have yf2 := RX7.out.frozen 2
  have yf3 := RX7.out.frozen 3
  have h32 : ∀ o1 o2 : Nat, ¬ (3 : Nat) = 2 := by intro _ _; omega
  have H8 := hide (show WAt ((w7.setCell ⟨W.heap.size, 2, none⟩ (.int .i64 s')).setCell ⟨W.heap.size, 3, none⟩ (.int .u64 z')) gx base A5 a1 a2 a3 A7 n5 n1 n2 n3 (n4 + 1) c5 c1 c2 c3 c7 ts ⟨tkA m.sl 1, m.pin, m.has, m.bad⟩ (tk ++ tkL m.sl 1) from
    (HH6.out.setFree RX7.out (fun e => by have := HBO.out _ e; omega) HNX.out).setFree (RX7.out.set 2 (.int .i64 s')) (fun e => by have := HBO.out _ e; omega) HNX.out)
  have RX8 := hide (show RowAt ((w7.setCell ⟨W.heap.size, 2, none⟩ (.int .i64 s')).setCell ⟨W.heap.size, 3, none⟩ (.int .u64 z')) W.heap.size 45 #[.int .i64 k, .int .i64 (g : Int), .int .i64 s', .int .u64 z'] from by have := (RX7.out.set 2 (.int .i64 s')).set 3 (.int .u64 z'); simpa using this)
  have HP8 := hide ((HP6.out.trans (PastB.set (g := W.heap.size) (i := 2) (v := .int .i64 s') (.inl HBW0.out))).trans (PastB.set (g := W.heap.size) (i := 3) (v := .int .u64 z') (.inl HBW0.out)))
  have HBW8 := hide (show base ≤ ((w7.setCell ⟨W.heap.size, 2, none⟩ (.int .i64 s')).setCell ⟨W.heap.size, 3, none⟩ (.int .u64 z')).heap.size from by simpa using Nat.le_trans HBW5.out HS7.out)
  go_upto_region 6 with (fail)
  generalize (w7.setCell ⟨W.heap.size, 2, none⟩ (.int .i64 s')).setCell ⟨W.heap.size, 3, none⟩ (.int .u64 z') = w8 at *
  clear y0 y1 y2 y3 yl yf2 yf3 d0 d1 hbl hb hx
  have HSX := hide (show SmallX n5 n1 n2 n3 ts from ⟨by rw [← H8.out.sl.len]; have := (arOk_out (tkA_ok HE.out)).2.1; show (tkA m.sl 1).length ≤ 4096; omega, HS.out.s1, HS.out.s2, HS.out.s3, HS.out.rows, HS.out.caps⟩)
  have HC := hide (get_any gx base _ _ _ _ _ _ _ _ _ _ _ _ _ _ _ ts ⟨tkA m.sl 1, m.pin, m.has, m.bad⟩ (tk ++ tkL m.sl 1) k s' z' g w8 H8.out HBW8.out HSX.out hg hg2 HQ.out (.ok (getM ⟨tkA m.sl 1, m.pin, m.has, m.bad⟩ g (s', z'), tk ++ tkL m.sl 1)) (by rw [if_pos (show pinM ⟨tkA m.sl 1, m.pin, m.has, m.bad⟩ g = true from HPN.out)]))
  obtain ⟨y0, y1, y2, y3⟩ := row4 RX8.out
  have yl := RX8.out.lt
  go_wp2_with fail
  refine HC.out.mono ?_
  rintro e w9 ⟨hp9, hor9⟩
  have HP9 := hide (HP8.out.trans hp9)
  rcases hor9 with ⟨m', tk', hr', rfl, hw9⟩ | ⟨k', hr', rfl⟩
  · have HF := hide (show DeedRes gx base r W (.returned (.tuple #[])) w9 from ⟨HP9.out, .inl ⟨m', tk', by rw [← HRR.out]; exact hr', rfl, hw9⟩⟩)
    clear hp9 hw9 hr'
    go_wp2_with fail
    go_end0
    exact HF.out
  · cases hr'
end Go.Proofs.Ytfpbabafeecncaa

/-
  The steps of a monitor that changes: get, touch.
-/
import Derived.Test.YtfpbabafeecncaaMoh
import Derived.Test.YtfpbabafeecncaaHeldT
set_option linter.unusedSimpArgs false
set_option linter.unusedVariables false
namespace Go.Proofs.Ytfpbabafeecncaa
open Go Go.RowKit
attribute [local go_sem] via_cell via_frozen

theorem gcell {w w' : World} {row : Option Nat} {b o : Nat} {v : Value} (hg : w.grownBy w' row) (hc : w.cell? ⟨b, o, none⟩ = some v) (hlt : b < w.heap.size) (hne : some b ≠ row) : w'.cell? ⟨b, o, none⟩ = some v := (cell_of_heap (p := ⟨b, o, none⟩) (hg.block b hlt hne)).trans hc
theorem grown_of_below {w w' : World} {row : Option Nat} (hb : Below w.heap.size w w') : w.grownBy w' row := ⟨hb.os, hb.tape, hb.output, hb.size, fun j hj _ => hb.block j hj⟩
theorem grown_trans {a w w' : World} {row : Option Nat} (h : a.grownBy w row) (k : w.grownBy w' row) : a.grownBy w' row :=
  ⟨k.os.trans h.os, k.tape.trans h.tape, k.output.trans h.output, Nat.le_trans h.size k.size, fun j hj hn => (k.block j (Nat.lt_of_lt_of_le hj h.size) hn).trans (h.block j hj hn)⟩
set_option maxRecDepth 20000 in
set_option maxHeartbeats 2000000 in
theorem get_any (gx base : Nat) (a0 a1 a2 a3 a4 : Option Addr) (n0 n1 n2 n3 n4 c0 c1 c2 c3 c4 : Nat) (ts : List Hm) (m : Mon) (tk : List Ent) (k s z : Int) (g : Nat) (W : World) (h : WAt W gx base a0 a1 a2 a3 a4 n0 n1 n2 n3 n4 c0 c1 c2 c3 c4 ts m tk) (hbw : base ≤ W.heap.size) (hs : SmallX n0 n1 n2 n3 ts) (hg : g < n1) (hg2 : g < n2) (hq : ∀ t ∈ ts, t.q.length ≤ 4095) (r : Except Int (Mon × List Ent)) (hr : (if pinM m g then .ok (getM m g (s, z), tk) else .error 4) = r) :
    Calls Try.prog 71 #[.pointer (some ⟨gx, 0, none⟩), .agg #[.int .i64 k, .int .i64 (g : Int), .int .i64 s, .int .u64 z]] W (DeedRes gx base r W) := by
  have hbx : Below W.heap.size W (W.alloc (.cells #[.int .i64 k, .int .i64 (g : Int), .int .i64 s, .int .u64 z] 45)) := (Below.refl _ _).alloc (Nat.le_refl _) _
  have H := hide (h.below hbx)
  have RX := hide (RowAt.new W 45 #[.int .i64 k, .int .i64 (g : Int), .int .i64 s, .int .u64 z])
  have HB := hide hbx
  have HS := hide hs
  have HBW := hide (Nat.le_trans hbw hbx.size)
  have hgI : (g : Int) < (n1 : Int) := by omega
  have hgI2 : (g : Int) < (n2 : Int) := by omega
  obtain ⟨gh, rfl, hge2, hl2, _, _⟩ := h.hasBlk (by omega)
  have HGE2 := hide hge2
  have hgt : g < ts.length := by rw [h.l2]; exact hg2
  have HGT := hide hgt
  have hq2 := hq _ (getH_mem hgt)
  have hqe : rowM m g = (ts.getD g hmZ).q := by unfold rowM; rw [h.hs, rowsQ_at]
  have HQE := hide hqe
  have HTE := hide (show ∃ t, ts.getD g hmZ = t from ⟨_, rfl⟩)
  clear hge2 hl2 hq
  obtain ⟨p, hp⟩ : ∃ p, pinM m g = p := ⟨_, rfl⟩
  rw [hp] at hr
  have HR := hide hr
  have HC := hide (pinned_any gx base _ _ _ _ _ _ _ _ _ _ _ _ _ _ _ ts m tk k s z g _ H.out hg p hp)
  obtain ⟨y0, y1, y2, y3⟩ := row4 RX.out
  have yl := RX.out.lt
  have HPN := hide hp
  have HWX := hide (show W.heap.size < (W.alloc (.cells #[.int .i64 k, .int .i64 (g : Int), .int .i64 s, .int .u64 z] 45)).heap.size from by simp)
  clear h hbx hp hr hs hbw
  go_enter Try.func71, Try.ntmps71
  go_wp2_with fail
  generalize W.alloc (.cells #[.int .i64 k, .int .i64 (g : Int), .int .i64 s, .int .u64 z] 45) = w1 at *
  with_reducible refine HC.out.mono ?_
  rintro e w2 ⟨hor, hb2⟩
  replace H := hide (H.out.below hb2)
  replace RX := hide (RX.out.below hb2)
  replace HB := hide (HB.out.trans (hb2.mono HB.out.size))
  replace HBW := hide (Nat.le_trans HBW.out hb2.size)
  clear hb2 y0 y1 y2 y3 yl HC
  rcases hor with ⟨rfl, rfl⟩ | ⟨rfl, rfl⟩
  case inr =>
    have HP := hide (PastB.of_below (n := base) (kl := gx) HB.out)
    go_wp2_with fail
    exact ⟨rfl, HP.out, .inr ⟨4, HR.out.symm, rfl⟩⟩
  have HR := hide (show Except.ok (getM m g (s, z), tk) = r from HR.out)
  obtain ⟨x0, x1, x2, x3, x4⟩ := row5 H.out.row
  have xl := H.out.row.lt
  obtain ⟨y0, y1, y2, y3⟩ := row4 RX.out
  have yl := RX.out.lt
  have q0 := H.out.hasCell hg2
  have ql : gh < w2.heap.size := by obtain ⟨_, e2, _, h3, _⟩ := H.out.hasBlk (by omega); injection e2 with e2; injection e2 with e2; subst e2; exact h3
  have HROW := hide (H.out.rows _ (getH_mem HGT.out))
  obtain ⟨t, ht⟩ := HTE.out
  have HTT := hide ht
  rw [ht] at q0 hq2 HROW HQE
  obtain ⟨tA, tc, tq⟩ := t
  dsimp only at q0 hq2 HQE
  obtain ⟨n, hn⟩ : ∃ n, tq.length = n := ⟨_, rfl⟩
  have HN := hide hn
  have HRW := hide (show World.ownsRow w2 base 43 2 (.slice tA n tc) n (Cs encE tq) from by have h := HROW.out; unfold OwnH at h; dsimp only at h; rw [hn] at h; exact h)
  rw [hn] at q0 hq2
  obtain ⟨bh, hbh⟩ : ∃ b, hasE tq (s, z) = b := ⟨_, rfl⟩
  have HBH := hide hbh
  have HCT := hide (fun zz => via_of (show Calls Try.prog 15 #[.slice tA n tc, .agg #[.int .i64 s, .int .u64 z]] (via w2 zz) _ from by
    have h := ContainsEE w2.heap.size tA tc s z tq (via w2 zz) (by rw [hn]; exact (Rd.of_own HRW.out).below (via_below _ zz)) (via_below _ zz).size (by rw [hn]; omega) bh hbh
    rw [hn] at h
    exact h))
  clear ht hn hbh HTE HROW
  go_wp2_with fail
  refine wp_region_via (by kernel_rfl) (by kernel_rfl) ?_
  repeat (go_big_quiet_step ((go_at_call 15; with_reducible exact HCT.out _)))
  refine via_out fun w3 hb3 => ?_
  replace H := hide (H.out.below hb3)
  replace RX := hide (RX.out.below hb3)
  replace HB := hide (HB.out.trans (hb3.mono HB.out.size))
  replace HBW := hide (Nat.le_trans HBW.out hb3.size)
  replace HRW := hide (own_keepB HRW.out hb3)
  clear hb3 x0 x1 x2 x3 x4 xl y0 y1 y2 y3 yl q0 ql HCT
  cases bh
  case true =>
    have HR := hide (show Except.ok (m, tk) = r from by rw [← HR.out]; unfold getM; rw [HQE.out, HBH.out]; rfl)
    have HP := hide (PastB.of_below (n := base) (kl := gx) HB.out)
    go_wp2_with fail
    go_end0
    exact ⟨HP.out, .inl ⟨_, _, HR.out.symm, rfl, ⟨_, _, _, _, _, _, _, _, _, _, _, _, _, _, _, _, H.out, HS.out.s2⟩⟩⟩
  have HR := hide (show Except.ok (⟨m.sl, m.pin, m.has.set g (tq ++ [(s, z)]), m.bad⟩, tk) = r from by rw [← HR.out]; unfold getM; rw [HQE.out, HBH.out]; rfl)
  obtain ⟨x0, x1, x2, x3, x4⟩ := row5 H.out.row
  have xl := H.out.row.lt
  obtain ⟨y0, y1, y2, y3⟩ := row4 RX.out
  have yl := RX.out.lt
  have q0 := H.out.hasCell hg2
  rw [HTT.out] at q0
  dsimp only at q0
  rw [HN.out] at q0
  have ql : gh < w3.heap.size := by obtain ⟨_, e2, _, h3, _⟩ := H.out.hasBlk (by omega); injection e2 with e2; injection e2 with e2; subst e2; exact h3
  have qc : (n : Int) ≤ (tc : Int) := by have := (own_form2 HRW.out); obtain ⟨_, _, e, h1, _⟩ := this; injection e with _ _ e; subst e; omega
  have HFX := hide (show some gx ≠ (Value.slice tA n tc).ownBlock from H.out.nx HRW.out (by decide))
  have HFB := hide (show some W.heap.size ≠ (Value.slice tA n tc).ownBlock from fun e => by obtain ⟨_, cs, hr⟩ := own_typ HRW.out e.symm; exact absurd (row_typ hr RX.out) (by decide))
  have HFH := hide (show some gh ≠ (Value.slice tA n tc).ownBlock from fun e => by obtain ⟨_, cs, hr⟩ := own_typ HRW.out e.symm; obtain ⟨_, e2, _, _, _, cs2, hr2⟩ := H.out.hasBlk (by omega); injection e2 with e2; injection e2 with e2; subst e2; exact absurd (row_typ hr hr2) (by decide))
  have HSX := hide (fun (wX : World) (hgX : w3.grownBy wX (Value.slice tA n tc).ownBlock) => show wX.cell? ⟨gx, 2, none⟩ = some (.slice (some ⟨gh, 0, none⟩) n2 c2) ∧ wX.cell? ⟨W.heap.size, 1, none⟩ = some (.int .i64 (g : Int)) ∧ wX.cell? ⟨W.heap.size, 2, none⟩ = some (.int .i64 s) ∧ wX.cell? ⟨W.heap.size, 3, none⟩ = some (.int .u64 z) ∧ wX.cell? ⟨gh, g, none⟩ = some (.slice tA n tc) ∧ gx < wX.heap.size ∧ W.heap.size < wX.heap.size ∧ gh < wX.heap.size from ⟨gcell hgX x2 xl HFX.out, gcell hgX y1 yl HFB.out, gcell hgX y2 yl HFB.out, gcell hgX y3 yl HFB.out, gcell hgX q0 ql HFH.out, Nat.lt_of_lt_of_le xl hgX.size, Nat.lt_of_lt_of_le yl hgX.size, Nat.lt_of_lt_of_le ql hgX.size⟩)
  have HGR := hide (grown_of_below (row := (Value.slice tA n tc).ownBlock) (Below.refl w3.heap.size w3).drew)
  have HGRA := hide (grown_of_below (row := (Value.slice tA n tc).ownBlock) (((Below.refl w3.heap.size w3).alloc (Nat.le_refl _) (.cells #[.int .i64 s, .int .u64 z] 43)).drew))
  have H4 := hide (H.out.below (((Below.refl w3.heap.size w3).alloc (Nat.le_refl _) (.cells #[.int .i64 s, .int .u64 z] 43)).drew))
  have HO4 := hide (own_keepB HRW.out (((Below.refl w3.heap.size w3).alloc (Nat.le_refl _) (.cells #[.int .i64 s, .int .u64 z] 43)).drew))
  have HSRC := hide ((Rd.new w3 #[.int .i64 s, .int .u64 z] 43 2 1 rfl).below (Below.refl (w3.heap.size + 1) _).drew)
  have HBW4 := hide (show base ≤ ((w3.alloc (.cells #[.int .i64 s, .int .u64 z] 43)).drew).heap.size from Nat.le_trans HBW.out (((Below.refl w3.heap.size w3).alloc (Nat.le_refl _) (.cells #[.int .i64 s, .int .u64 z] 43)).drew).size)
  have HP4 := hide ((PastB.of_below (n := base) (kl := gx) HB.out).trans (PastB.of_below (n := base) (kl := gx) (((Below.refl w3.heap.size w3).alloc (Nat.le_refl _) (.cells #[.int .i64 s, .int .u64 z] 43)).drew)))
  go_wp2_with fail
  refine wp_region_T (fun wX => wX.cell? ⟨gx, 2, none⟩ = some (.slice (some ⟨gh, 0, none⟩) n2 c2) ∧ wX.cell? ⟨W.heap.size, 1, none⟩ = some (.int .i64 (g : Int)) ∧ wX.cell? ⟨W.heap.size, 2, none⟩ = some (.int .i64 s) ∧ wX.cell? ⟨W.heap.size, 3, none⟩ = some (.int .u64 z) ∧ wX.cell? ⟨gh, g, none⟩ = some (.slice tA n tc) ∧ gx < wX.heap.size ∧ W.heap.size < wX.heap.size ∧ gh < wX.heap.size) 21 (by kernel_rfl) (HSX.out _ HGR.out) (fun hHeld => ?_)
  clear x0 x1 x2 x3 x4 xl y0 y1 y2 y3 yl q0 ql hHeld
  have hS0 := HSX.out _ HGR.out
  (refine wpAnyT_take (i := 0) (v := ?_) rfl (by kernel_rfl) (by kernel_rfl) (by kernel_rfl) (by kernel_rfl) (fun _ _ _ h => h) (Or.inl ⟨by rfl, ?_⟩) (by assumption) ?_; rotate_left; (focus (intro w hSw; (try dsimp only at hSw); obtain ⟨kf0, kf1, kf2, kf3, kf4, kf5, kf6, kf7⟩ := hSw; go_simp; first | done | with_reducible rfl)); (try simp only [Act.put, List.getElem_toArray, List.getElem_cons_succ, List.getElem_cons_zero, List.setIfInBounds_toArray, List.set_cons_zero, List.set_cons_succ]))
  (refine wpAnyT_take (i := 1) (v := ?_) rfl (by kernel_rfl) (by kernel_rfl) (by kernel_rfl) (by kernel_rfl) (fun _ _ _ h => h) (Or.inl ⟨by rfl, ?_⟩) (by assumption) ?_; rotate_left; (focus (intro w hSw; (try dsimp only at hSw); obtain ⟨kf0, kf1, kf2, kf3, kf4, kf5, kf6, kf7⟩ := hSw; go_simp; first | done | with_reducible rfl)); (try simp only [Act.put, List.getElem_toArray, List.getElem_cons_succ, List.getElem_cons_zero, List.setIfInBounds_toArray, List.set_cons_zero, List.set_cons_succ]))
  (refine wpAnyT_take (i := 2) (v := ?_) rfl (by kernel_rfl) (by kernel_rfl) (by kernel_rfl) (by kernel_rfl) (fun _ _ _ h => h) (Or.inl ⟨by rfl, ?_⟩) (by assumption) ?_; rotate_left; (focus (intro w hSw; (try dsimp only at hSw); obtain ⟨kf0, kf1, kf2, kf3, kf4, kf5, kf6, kf7⟩ := hSw; go_simp; first | done | with_reducible rfl)); (try simp only [Act.put, List.getElem_toArray, List.getElem_cons_succ, List.getElem_cons_zero, List.setIfInBounds_toArray, List.set_cons_zero, List.set_cons_succ]))
  (refine wpAnyT_take (i := 3) (v := ?_) rfl (by kernel_rfl) (by kernel_rfl) (by kernel_rfl) (by kernel_rfl) (fun _ _ _ h => h) (Or.inl ⟨by rfl, ?_⟩) (by assumption) ?_; rotate_left; (focus (intro w hSw; (try dsimp only at hSw); obtain ⟨kf0, kf1, kf2, kf3, kf4, kf5, kf6, kf7⟩ := hSw; go_simp; first | done | with_reducible rfl)); (try simp only [Act.put, List.getElem_toArray, List.getElem_cons_succ, List.getElem_cons_zero, List.setIfInBounds_toArray, List.set_cons_zero, List.set_cons_succ]))
  (refine wpAnyT_take (i := 4) (v := ?_) rfl (by kernel_rfl) (by kernel_rfl) (by kernel_rfl) (by kernel_rfl) (fun _ _ _ h => h) (Or.inl ⟨by rfl, ?_⟩) (by assumption) ?_; rotate_left; (focus (intro w hSw; (try dsimp only at hSw); obtain ⟨kf0, kf1, kf2, kf3, kf4, kf5, kf6, kf7⟩ := hSw; go_simp; first | done | with_reducible rfl)); (try simp only [Act.put, List.getElem_toArray, List.getElem_cons_succ, List.getElem_cons_zero, List.setIfInBounds_toArray, List.set_cons_zero, List.set_cons_succ]))
  (refine wpAnyT_take (i := 5) (v := ?_) rfl (by kernel_rfl) (by kernel_rfl) (by kernel_rfl) (by kernel_rfl) (fun _ _ _ h => h) (Or.inl ⟨by rfl, ?_⟩) (by assumption) ?_; rotate_left; (focus (intro w hSw; (try dsimp only at hSw); obtain ⟨kf0, kf1, kf2, kf3, kf4, kf5, kf6, kf7⟩ := hSw; go_simp; first | done | with_reducible rfl)); (try simp only [Act.put, List.getElem_toArray, List.getElem_cons_succ, List.getElem_cons_zero, List.setIfInBounds_toArray, List.set_cons_zero, List.set_cons_succ]))
  (refine wpAnyT_take (i := 6) (v := ?_) rfl (by kernel_rfl) (by kernel_rfl) (by kernel_rfl) (by kernel_rfl) (fun _ _ _ h => h) (Or.inl ⟨by rfl, ?_⟩) (by assumption) ?_; rotate_left; (focus (intro w hSw; (try dsimp only at hSw); obtain ⟨kf0, kf1, kf2, kf3, kf4, kf5, kf6, kf7⟩ := hSw; go_simp; first | done | with_reducible rfl)); (try simp only [Act.put, List.getElem_toArray, List.getElem_cons_succ, List.getElem_cons_zero, List.setIfInBounds_toArray, List.set_cons_zero, List.set_cons_succ]))
  (refine wpAnyT_take (i := 7) (v := ?_) rfl (by kernel_rfl) (by kernel_rfl) (by kernel_rfl) (by kernel_rfl) (fun _ _ _ h => h) (Or.inl ⟨by rfl, ?_⟩) (by assumption) ?_; rotate_left; (focus (intro w hSw; (try dsimp only at hSw); obtain ⟨kf0, kf1, kf2, kf3, kf4, kf5, kf6, kf7⟩ := hSw; go_simp; first | done | with_reducible rfl)); (try simp only [Act.put, List.getElem_toArray, List.getElem_cons_succ, List.getElem_cons_zero, List.setIfInBounds_toArray, List.set_cons_zero, List.set_cons_succ]))
  (refine wpAnyT_take (i := 8) (v := ?_) rfl (by kernel_rfl) (by kernel_rfl) (by kernel_rfl) (by kernel_rfl) (fun _ _ _ h => h) (Or.inl ⟨by rfl, ?_⟩) (by assumption) ?_; rotate_left; (focus (intro w hSw; (try dsimp only at hSw); obtain ⟨kf0, kf1, kf2, kf3, kf4, kf5, kf6, kf7⟩ := hSw; go_simp; first | done | with_reducible rfl)); (try simp only [Act.put, List.getElem_toArray, List.getElem_cons_succ, List.getElem_cons_zero, List.setIfInBounds_toArray, List.set_cons_zero, List.set_cons_succ]))
  (refine wpAnyT_take (i := 9) (v := ?_) rfl (by kernel_rfl) (by kernel_rfl) (by kernel_rfl) (by kernel_rfl) (fun _ _ _ h => h) (Or.inl ⟨by rfl, ?_⟩) (by assumption) ?_; rotate_left; (focus (intro w hSw; (try dsimp only at hSw); obtain ⟨kf0, kf1, kf2, kf3, kf4, kf5, kf6, kf7⟩ := hSw; go_simp; first | done | with_reducible rfl)); (try simp only [Act.put, List.getElem_toArray, List.getElem_cons_succ, List.getElem_cons_zero, List.setIfInBounds_toArray, List.set_cons_zero, List.set_cons_succ]))
  (refine wpAnyT_take (i := 10) (v := ?_) rfl (by kernel_rfl) (by kernel_rfl) (by kernel_rfl) (by kernel_rfl) (fun _ _ _ h => h) (Or.inl ⟨by rfl, ?_⟩) (by assumption) ?_; rotate_left; (focus (intro w hSw; (try dsimp only at hSw); obtain ⟨kf0, kf1, kf2, kf3, kf4, kf5, kf6, kf7⟩ := hSw; go_simp; first | done | with_reducible rfl)); (try simp only [Act.put, List.getElem_toArray, List.getElem_cons_succ, List.getElem_cons_zero, List.setIfInBounds_toArray, List.set_cons_zero, List.set_cons_succ]))
  (refine wpAnyT_take (i := 11) (v := ?_) rfl (by kernel_rfl) (by kernel_rfl) (by kernel_rfl) (by kernel_rfl) (fun _ _ _ h => h) (Or.inl ⟨by rfl, ?_⟩) (by assumption) ?_; rotate_left; (focus (intro w hSw; (try dsimp only at hSw); obtain ⟨kf0, kf1, kf2, kf3, kf4, kf5, kf6, kf7⟩ := hSw; go_simp; first | done | with_reducible rfl)); (try simp only [Act.put, List.getElem_toArray, List.getElem_cons_succ, List.getElem_cons_zero, List.setIfInBounds_toArray, List.set_cons_zero, List.set_cons_succ]))
  (refine wpAnyT_take (i := 12) (v := ?_) rfl (by kernel_rfl) (by kernel_rfl) (by kernel_rfl) (by kernel_rfl) (fun _ _ _ h => h) (Or.inl ⟨by rfl, ?_⟩) (by assumption) ?_; rotate_left; (focus (intro w hSw; (try dsimp only at hSw); obtain ⟨kf0, kf1, kf2, kf3, kf4, kf5, kf6, kf7⟩ := hSw; go_simp; first | done | with_reducible rfl)); (try simp only [Act.put, List.getElem_toArray, List.getElem_cons_succ, List.getElem_cons_zero, List.setIfInBounds_toArray, List.set_cons_zero, List.set_cons_succ]))
  (refine wpAnyT_take (i := 13) (v := ?_) rfl (by kernel_rfl) (by kernel_rfl) (by kernel_rfl) (by kernel_rfl) (fun _ _ _ h => h) (Or.inl ⟨by rfl, ?_⟩) (by assumption) ?_; rotate_left; (focus (intro w hSw; (try dsimp only at hSw); obtain ⟨kf0, kf1, kf2, kf3, kf4, kf5, kf6, kf7⟩ := hSw; go_simp; first | done | with_reducible rfl)); (try simp only [Act.put, List.getElem_toArray, List.getElem_cons_succ, List.getElem_cons_zero, List.setIfInBounds_toArray, List.set_cons_zero, List.set_cons_succ]))
  (refine wpAnyT_take (i := 14) (v := ?_) rfl (by kernel_rfl) (by kernel_rfl) (by kernel_rfl) (by kernel_rfl) (fun _ _ _ h => h) (Or.inl ⟨by rfl, ?_⟩) (by assumption) ?_; rotate_left; (focus (intro w hSw; (try dsimp only at hSw); obtain ⟨kf0, kf1, kf2, kf3, kf4, kf5, kf6, kf7⟩ := hSw; go_simp; first | done | with_reducible rfl)); (try simp only [Act.put, List.getElem_toArray, List.getElem_cons_succ, List.getElem_cons_zero, List.setIfInBounds_toArray, List.set_cons_zero, List.set_cons_succ]))
  (refine wpAnyT_take (i := 15) (v := ?_) rfl (by kernel_rfl) (by kernel_rfl) (by kernel_rfl) (by kernel_rfl) (fun _ _ _ h => h) (Or.inl ⟨by rfl, ?_⟩) (by assumption) ?_; rotate_left; (focus (intro w hSw; (try dsimp only at hSw); obtain ⟨kf0, kf1, kf2, kf3, kf4, kf5, kf6, kf7⟩ := hSw; go_simp; first | done | with_reducible rfl)); (try simp only [Act.put, List.getElem_toArray, List.getElem_cons_succ, List.getElem_cons_zero, List.setIfInBounds_toArray, List.set_cons_zero, List.set_cons_succ]))
  (refine wpAnyT_take (i := 16) (v := ?_) rfl (by kernel_rfl) (by kernel_rfl) (by kernel_rfl) (by kernel_rfl) (fun _ _ _ h => h) (Or.inl ⟨by rfl, ?_⟩) (by assumption) ?_; rotate_left; (focus (intro w hSw; (try dsimp only at hSw); obtain ⟨kf0, kf1, kf2, kf3, kf4, kf5, kf6, kf7⟩ := hSw; go_simp; first | done | with_reducible rfl)); (try simp only [Act.put, List.getElem_toArray, List.getElem_cons_succ, List.getElem_cons_zero, List.setIfInBounds_toArray, List.set_cons_zero, List.set_cons_succ]))
  (refine wpAnyT_take (i := 17) (v := ?_) rfl (by kernel_rfl) (by kernel_rfl) (by kernel_rfl) (by kernel_rfl) (fun _ _ _ h => h) (Or.inl ⟨by rfl, ?_⟩) (by assumption) ?_; rotate_left; (focus (intro w hSw; (try dsimp only at hSw); obtain ⟨kf0, kf1, kf2, kf3, kf4, kf5, kf6, kf7⟩ := hSw; go_simp; first | done | with_reducible rfl)); (try simp only [Act.put, List.getElem_toArray, List.getElem_cons_succ, List.getElem_cons_zero, List.setIfInBounds_toArray, List.set_cons_zero, List.set_cons_succ]))
  refine wpAnyT_one (i := 18) rfl (by kernel_rfl) (fun K0 hK0 => ?_)
  go_simp
  refine hK0.out _ _ (fun _ => HSX.out _ HGRA.out) ?_
  clear hK0 K0
  (try simp only [Act.put, List.getElem_toArray, List.getElem_cons_succ, List.getElem_cons_zero, List.setIfInBounds_toArray, List.set_cons_zero, List.set_cons_succ])
  generalize (w3.alloc (.cells #[.int .i64 s, .int .u64 z] 43)).drew = w4 at *
  clear hS0
  have hS0 := HSX.out _ HGRA.out
  refine wpAnyT_one (i := 19) rfl (by kernel_rfl) (fun K1 hK1 => ?_)
  rw [if_pos (by rfl)]
  refine wp_app elE _ _ rfl rfl HO4.out rfl HSRC.out (by simp [Value.oneCell']) (by omega) HBW4.out ?_
  intro v5 w5 hown5 hb5 hg5 hx5
  obtain ⟨A5, c5, rfl, hc5, hcm5⟩ := own_form2 hown5
  clear hS0
  have hS0 := HSX.out _ (grown_trans HGRA.out hg5)
  have HN5 := hide (show WAt (w5.setCell ⟨gh, g, none⟩ (.slice A5 (n + 1) c5)) gx base a0 a1 (some ⟨gh, 0, none⟩) a3 a4 n0 n1 n2 n3 n4 c0 c1 c2 c3 c4 (ts.set g ⟨A5, c5, tq ++ [(s, z)]⟩) ⟨m.sl, m.pin, m.has.set g (tq ++ [(s, z)]), m.bad⟩ tk from
    H4.out.grownH (k := g) HGT.out (by rw [HTT.out]; dsimp only; rw [HN.out]; exact hg5) (t := ⟨A5, c5, tq ++ [(s, z)]⟩) (by unfold OwnH; dsimp only; rw [List.length_append, HN.out, Cs_append, Cs_one]; exact hown5) rfl (by rw [HTT.out]; dsimp only; rw [HN.out, List.length_append, HN.out]; exact hx5) (by simp [HN.out]) rfl)
  have HP5 := hide ((HP4.out.trans (PastB.grown (n := base) (kl := gx) hg5 (fun q hq => (own_typ HO4.out hq).1))).trans (PastB.set (g := gh) (i := g) (v := .slice A5 (n + 1) c5) (.inl HGE2.out)))
  have hrh5 : ∃ cs, RowAt w5 gh 54 cs := by
    obtain ⟨_, e2, _, _, _, cs2, hr2⟩ := H4.out.hasBlk (by omega)
    injection e2 with e2; injection e2 with e2; subst e2
    exact ⟨cs2, (hg5.block gh hr2.lt HFH.out).trans hr2⟩
  have hfr5 : w5.frozen? ⟨gh, g, none⟩ = false := by obtain ⟨cs, hr⟩ := hrh5; exact hr.frozen g
  clear hown5 hb5 hg5 hx5 hc5 hcm5 hrh5
  refine hK1.out _ _ (fun _ => hS0) ?_
  clear hK1 K1
  (try simp only [Act.put, List.getElem_toArray, List.getElem_cons_succ, List.getElem_cons_zero, List.setIfInBounds_toArray, List.set_cons_zero, List.set_cons_succ])
  refine wpAnyT_one (i := 20) rfl (by kernel_rfl) (fun K2 hK2 => ?_)
  go_simp
  refine hK2.out _ _ (fun _ => hS0) ?_
  clear hK2 K2
  (try simp only [Act.put, List.getElem_toArray, List.getElem_cons_succ, List.getElem_cons_zero, List.setIfInBounds_toArray, List.set_cons_zero, List.set_cons_succ])
  refine wpAnyT_one (i := 21) rfl (by kernel_rfl) (fun K3 hK3 => ?_)
  obtain ⟨kf0, kf1, kf2, kf3, kf4, kf5, kf6, kf7⟩ := hS0
  go_simp
  refine hK3.out _ _ (fun h => absurd rfl h) ?_
  clear hK3 K3
  (try simp only [Act.put, List.getElem_toArray, List.getElem_cons_succ, List.getElem_cons_zero, List.setIfInBounds_toArray, List.set_cons_zero, List.set_cons_succ])
  refine wpAnyT_done (by kernel_rfl) ?_ _
  go_wp2_with fail
  go_end0
  exact ⟨HP5.out, .inl ⟨_, _, HR.out.symm, rfl, ⟨_, _, _, _, _, _, _, _, _, _, _, _, _, _, _, _, HN5.out, HS.out.s2⟩⟩⟩
set_option maxRecDepth 20000 in
set_option maxHeartbeats 2000000 in
theorem touch_any (gx base : Nat) (a0 a1 a2 a3 a4 : Option Addr) (n0 n1 n2 n3 n4 c0 c1 c2 c3 c4 : Nat) (ts : List Hm) (m : Mon) (tk : List Ent) (k s z : Int) (g : Nat) (W : World) (h : WAt W gx base a0 a1 a2 a3 a4 n0 n1 n2 n3 n4 c0 c1 c2 c3 c4 ts m tk) (hbw : base ≤ W.heap.size) (hs : SmallX n0 n1 n2 n3 ts) (hg : g < n1) (hg2 : g < n2) (r : Except Int (Mon × List Ent)) (hr : (if pinM m g then .ok (touchM m (k, (g : Int), s, z), tk) else .error 4) = r) :
    Calls Try.prog 72 #[.pointer (some ⟨gx, 0, none⟩), .agg #[.int .i64 k, .int .i64 (g : Int), .int .i64 s, .int .u64 z]] W (DeedRes gx base r W) := by
  have hbx : Below W.heap.size W (W.alloc (.cells #[.int .i64 k, .int .i64 (g : Int), .int .i64 s, .int .u64 z] 45)) := (Below.refl _ _).alloc (Nat.le_refl _) _
  have H := hide (h.below hbx)
  have RX := hide (RowAt.new W 45 #[.int .i64 k, .int .i64 (g : Int), .int .i64 s, .int .u64 z])
  have HB := hide hbx
  have HS := hide hs
  have HBW := hide (Nat.le_trans hbw hbx.size)
  have hgI : (g : Int) < (n1 : Int) := by omega
  have hgI2 : (g : Int) < (n2 : Int) := by omega
  have HBO := hide (show ∀ q, (Value.slice a3 n3 c3).ownBlock = some q → q < W.heap.size from fun q hq => by obtain ⟨_, cs, hr⟩ := own_typ h.bad hq; exact hr.lt)
  obtain ⟨p, hp⟩ : ∃ p, pinM m g = p := ⟨_, rfl⟩
  rw [hp] at hr
  have HR := hide hr
  have HC := hide (pinned_any gx base _ _ _ _ _ _ _ _ _ _ _ _ _ _ _ ts m tk k s z g _ H.out hg p hp)
  obtain ⟨y0, y1, y2, y3⟩ := row4 RX.out
  have yl := RX.out.lt
  have HPN := hide hp
  have HWX := hide (show W.heap.size < (W.alloc (.cells #[.int .i64 k, .int .i64 (g : Int), .int .i64 s, .int .u64 z] 45)).heap.size from by simp)
  clear h hbx hp hr hs hbw
  go_enter Try.func72, Try.ntmps72
  go_wp2_with fail
  generalize W.alloc (.cells #[.int .i64 k, .int .i64 (g : Int), .int .i64 s, .int .u64 z] 45) = w1 at *
  with_reducible refine HC.out.mono ?_
  rintro e w2 ⟨hor, hb2⟩
  replace H := hide (H.out.below hb2)
  replace RX := hide (RX.out.below hb2)
  replace HB := hide (HB.out.trans (hb2.mono HB.out.size))
  replace HBW := hide (Nat.le_trans HBW.out hb2.size)
  clear hb2 y0 y1 y2 y3 yl HC
  rcases hor with ⟨rfl, rfl⟩ | ⟨rfl, rfl⟩
  case inr =>
    have HP := hide (PastB.of_below (n := base) (kl := gx) HB.out)
    go_wp2_with fail
    exact ⟨rfl, HP.out, .inr ⟨4, HR.out.symm, rfl⟩⟩
  have HR := hide (show Except.ok (touchM m (k, (g : Int), s, z), tk) = r from HR.out)
  obtain ⟨x0, x1, x2, x3, x4⟩ := row5 H.out.row
  have xl := H.out.row.lt
  obtain ⟨y0, y1, y2, y3⟩ := row4 RX.out
  have yl := RX.out.lt
  obtain ⟨bg, hbg⟩ : ∃ b, goodM m (k, (g : Int), s, z) = b := ⟨_, rfl⟩
  have HBG := hide hbg
  have HCT := hide (fun zz => via_of (mgoodX_any a0 a1 a2 a3 n0 n1 n2 n3 c0 c1 c2 c3 ts m k s z g (via w2 zz) ((H.out.mon.below (via_below _ zz)).more (via_below _ zz).size) HS.out hg hg2 bg hbg))
  have hn3 := HS.out.s3
  clear hbg
  have L3 := hide H.out.l3
  cases bg
  case true =>
    have HRR := hide (show Except.ok (m, tk) = r from by rw [← HR.out]; unfold touchM; rw [if_neg (by rw [HBG.out]; simp)])
    go_wp2_with fail
    refine wp_region_via (by kernel_rfl) (by kernel_rfl) ?_
    repeat (go_big_quiet_step ((go_at_call 41; with_reducible exact HCT.out _)))
    refine via_out fun w3 hb3 => ?_
    replace H := hide (H.out.below hb3)
    have HP := hide (PastB.of_below (n := base) (kl := gx) (HB.out.trans (hb3.mono HB.out.size)))
    clear hb3 x0 x1 x2 x3 x4 xl y0 y1 y2 y3 yl
    go_wp2_with fail
    go_end0
    exact ⟨HP.out, .inl ⟨_, _, HRR.out.symm, rfl, ⟨_, _, _, _, _, _, _, _, _, _, _, _, _, _, _, _, H.out, HS.out.s2⟩⟩⟩
  by_cases h16 : n3 < 16
  case neg =>
    have hd : decide ((n3 : Int) < 16) = false := by simp; omega
    have HRR := hide (show Except.ok (m, tk) = r from by rw [← HR.out]; unfold touchM; rw [if_neg (by rw [L3.out]; omega)])
    clear h16
    go_wp2_with fail
    refine wp_region_via (by kernel_rfl) (by kernel_rfl) ?_
    repeat (go_big_quiet_step ((go_at_call 41; with_reducible exact HCT.out _)))
    refine via_out fun w3 hb3 => ?_
    replace H := hide (H.out.below hb3)
    have HP := hide (PastB.of_below (n := base) (kl := gx) (HB.out.trans (hb3.mono HB.out.size)))
    clear hb3 x0 x1 x2 x3 x4 xl y0 y1 y2 y3 yl
    go_wp2_with fail
    go_end0
    exact ⟨HP.out, .inl ⟨_, _, HRR.out.symm, rfl, ⟨_, _, _, _, _, _, _, _, _, _, _, _, _, _, _, _, H.out, HS.out.s2⟩⟩⟩
  have hd : decide ((n3 : Int) < 16) = true := by simp; omega
  have HRR := hide (show Except.ok (⟨m.sl, m.pin, m.has, m.bad ++ [(k, (g : Int), s, z)]⟩, tk) = r from by rw [← HR.out]; unfold touchM; rw [if_pos ⟨HBG.out, by rw [L3.out]; omega⟩])
  have H16 := hide h16
  clear h16
  go_wp2_with fail
  refine wp_region_via (by kernel_rfl) (by kernel_rfl) ?_
  repeat (go_big_quiet_step ((go_at_call 41; with_reducible exact HCT.out _)))
  refine via_out fun w3 hb3 => ?_
  replace H := hide (H.out.below hb3)
  replace RX := hide (RX.out.below hb3)
  replace HB := hide (HB.out.trans (hb3.mono HB.out.size))
  replace HBW := hide (Nat.le_trans HBW.out hb3.size)
  clear hb3 x0 x1 x2 x3 x4 xl y0 y1 y2 y3 yl HCT hd
  obtain ⟨x0, x1, x2, x3, x4⟩ := row5 H.out.row
  have xl := H.out.row.lt
  obtain ⟨y0, y1, y2, y3⟩ := row4 RX.out
  have yl := RX.out.lt
  have HFX := hide (show some gx ≠ (Value.slice a3 n3 c3).ownBlock from H.out.nx H.out.bad (by decide))
  have HFB := hide (show some W.heap.size ≠ (Value.slice a3 n3 c3).ownBlock from fun e => by have := HBO.out _ e.symm; omega)
  have HSX := hide (fun (wX : World) (hgX : w3.grownBy wX (Value.slice a3 n3 c3).ownBlock) => show wX.cell? ⟨gx, 3, none⟩ = some (.slice a3 n3 c3) ∧ wX.cell? ⟨W.heap.size, 0, none⟩ = some (.int .i64 k) ∧ wX.cell? ⟨W.heap.size, 1, none⟩ = some (.int .i64 (g : Int)) ∧ wX.cell? ⟨W.heap.size, 2, none⟩ = some (.int .i64 s) ∧ wX.cell? ⟨W.heap.size, 3, none⟩ = some (.int .u64 z) ∧ gx < wX.heap.size ∧ W.heap.size < wX.heap.size from ⟨gcell hgX x3 xl HFX.out, gcell hgX y0 yl HFB.out, gcell hgX y1 yl HFB.out, gcell hgX y2 yl HFB.out, gcell hgX y3 yl HFB.out, Nat.lt_of_lt_of_le xl hgX.size, Nat.lt_of_lt_of_le yl hgX.size⟩)
  have HGR := hide (grown_of_below (row := (Value.slice a3 n3 c3).ownBlock) (Below.refl w3.heap.size w3).drew)
  have HGRA := hide (grown_of_below (row := (Value.slice a3 n3 c3).ownBlock) (((Below.refl w3.heap.size w3).alloc (Nat.le_refl _) (.cells #[.int .i64 k, .int .i64 (g : Int), .int .i64 s, .int .u64 z] 45)).drew))
  have H4 := hide (H.out.below (((Below.refl w3.heap.size w3).alloc (Nat.le_refl _) (.cells #[.int .i64 k, .int .i64 (g : Int), .int .i64 s, .int .u64 z] 45)).drew))
  have HSRC := hide ((Rd.new w3 #[.int .i64 k, .int .i64 (g : Int), .int .i64 s, .int .u64 z] 45 4 1 rfl).below (Below.refl (w3.heap.size + 1) _).drew)
  have HBW4 := hide (show base ≤ ((w3.alloc (.cells #[.int .i64 k, .int .i64 (g : Int), .int .i64 s, .int .u64 z] 45)).drew).heap.size from Nat.le_trans HBW.out (((Below.refl w3.heap.size w3).alloc (Nat.le_refl _) (.cells #[.int .i64 k, .int .i64 (g : Int), .int .i64 s, .int .u64 z] 45)).drew).size)
  have HP4 := hide ((PastB.of_below (n := base) (kl := gx) HB.out).trans (PastB.of_below (n := base) (kl := gx) (((Below.refl w3.heap.size w3).alloc (Nat.le_refl _) (.cells #[.int .i64 k, .int .i64 (g : Int), .int .i64 s, .int .u64 z] 45)).drew)))
  go_wp2_with fail
  refine wp_region_T (fun wX => wX.cell? ⟨gx, 3, none⟩ = some (.slice a3 n3 c3) ∧ wX.cell? ⟨W.heap.size, 0, none⟩ = some (.int .i64 k) ∧ wX.cell? ⟨W.heap.size, 1, none⟩ = some (.int .i64 (g : Int)) ∧ wX.cell? ⟨W.heap.size, 2, none⟩ = some (.int .i64 s) ∧ wX.cell? ⟨W.heap.size, 3, none⟩ = some (.int .u64 z) ∧ gx < wX.heap.size ∧ W.heap.size < wX.heap.size) 12 (by kernel_rfl) (HSX.out _ HGR.out) (fun hHeld => ?_)
  clear x0 x1 x2 x3 x4 xl y0 y1 y2 y3 yl hHeld
  have hS0 := HSX.out _ HGR.out
  (refine wpAnyT_take (i := 0) (v := ?_) rfl (by kernel_rfl) (by kernel_rfl) (by kernel_rfl) (by kernel_rfl) (fun _ _ _ h => h) (Or.inl ⟨by rfl, ?_⟩) (by assumption) ?_; rotate_left; (focus (intro w hSw; (try dsimp only at hSw); obtain ⟨kf0, kf1, kf2, kf3, kf4, kf5, kf6⟩ := hSw; go_simp; first | done | with_reducible rfl)); (try simp only [Act.put, List.getElem_toArray, List.getElem_cons_succ, List.getElem_cons_zero, List.setIfInBounds_toArray, List.set_cons_zero, List.set_cons_succ]))
  (refine wpAnyT_take (i := 1) (v := ?_) rfl (by kernel_rfl) (by kernel_rfl) (by kernel_rfl) (by kernel_rfl) (fun _ _ _ h => h) (Or.inl ⟨by rfl, ?_⟩) (by assumption) ?_; rotate_left; (focus (intro w hSw; (try dsimp only at hSw); obtain ⟨kf0, kf1, kf2, kf3, kf4, kf5, kf6⟩ := hSw; go_simp; first | done | with_reducible rfl)); (try simp only [Act.put, List.getElem_toArray, List.getElem_cons_succ, List.getElem_cons_zero, List.setIfInBounds_toArray, List.set_cons_zero, List.set_cons_succ]))
  (refine wpAnyT_take (i := 2) (v := ?_) rfl (by kernel_rfl) (by kernel_rfl) (by kernel_rfl) (by kernel_rfl) (fun _ _ _ h => h) (Or.inl ⟨by rfl, ?_⟩) (by assumption) ?_; rotate_left; (focus (intro w hSw; (try dsimp only at hSw); obtain ⟨kf0, kf1, kf2, kf3, kf4, kf5, kf6⟩ := hSw; go_simp; first | done | with_reducible rfl)); (try simp only [Act.put, List.getElem_toArray, List.getElem_cons_succ, List.getElem_cons_zero, List.setIfInBounds_toArray, List.set_cons_zero, List.set_cons_succ]))
  (refine wpAnyT_take (i := 3) (v := ?_) rfl (by kernel_rfl) (by kernel_rfl) (by kernel_rfl) (by kernel_rfl) (fun _ _ _ h => h) (Or.inl ⟨by rfl, ?_⟩) (by assumption) ?_; rotate_left; (focus (intro w hSw; (try dsimp only at hSw); obtain ⟨kf0, kf1, kf2, kf3, kf4, kf5, kf6⟩ := hSw; go_simp; first | done | with_reducible rfl)); (try simp only [Act.put, List.getElem_toArray, List.getElem_cons_succ, List.getElem_cons_zero, List.setIfInBounds_toArray, List.set_cons_zero, List.set_cons_succ]))
  (refine wpAnyT_take (i := 4) (v := ?_) rfl (by kernel_rfl) (by kernel_rfl) (by kernel_rfl) (by kernel_rfl) (fun _ _ _ h => h) (Or.inl ⟨by rfl, ?_⟩) (by assumption) ?_; rotate_left; (focus (intro w hSw; (try dsimp only at hSw); obtain ⟨kf0, kf1, kf2, kf3, kf4, kf5, kf6⟩ := hSw; go_simp; first | done | with_reducible rfl)); (try simp only [Act.put, List.getElem_toArray, List.getElem_cons_succ, List.getElem_cons_zero, List.setIfInBounds_toArray, List.set_cons_zero, List.set_cons_succ]))
  (refine wpAnyT_take (i := 5) (v := ?_) rfl (by kernel_rfl) (by kernel_rfl) (by kernel_rfl) (by kernel_rfl) (fun _ _ _ h => h) (Or.inl ⟨by rfl, ?_⟩) (by assumption) ?_; rotate_left; (focus (intro w hSw; (try dsimp only at hSw); obtain ⟨kf0, kf1, kf2, kf3, kf4, kf5, kf6⟩ := hSw; go_simp; first | done | with_reducible rfl)); (try simp only [Act.put, List.getElem_toArray, List.getElem_cons_succ, List.getElem_cons_zero, List.setIfInBounds_toArray, List.set_cons_zero, List.set_cons_succ]))
  (refine wpAnyT_take (i := 6) (v := ?_) rfl (by kernel_rfl) (by kernel_rfl) (by kernel_rfl) (by kernel_rfl) (fun _ _ _ h => h) (Or.inl ⟨by rfl, ?_⟩) (by assumption) ?_; rotate_left; (focus (intro w hSw; (try dsimp only at hSw); obtain ⟨kf0, kf1, kf2, kf3, kf4, kf5, kf6⟩ := hSw; go_simp; first | done | with_reducible rfl)); (try simp only [Act.put, List.getElem_toArray, List.getElem_cons_succ, List.getElem_cons_zero, List.setIfInBounds_toArray, List.set_cons_zero, List.set_cons_succ]))
  refine wpAnyT_one (i := 7) rfl (by kernel_rfl) (fun K0 hK0 => ?_)
  go_simp
  refine hK0.out _ _ (fun _ => HSX.out _ HGRA.out) ?_
  clear hK0 K0
  (try simp only [Act.put, List.getElem_toArray, List.getElem_cons_succ, List.getElem_cons_zero, List.setIfInBounds_toArray, List.set_cons_zero, List.set_cons_succ])
  generalize (w3.alloc (.cells #[.int .i64 k, .int .i64 (g : Int), .int .i64 s, .int .u64 z] 45)).drew = w4 at *
  clear hS0
  have hS0 := HSX.out _ HGRA.out
  refine wpAnyT_one (i := 8) rfl (by kernel_rfl) (fun K1 hK1 => ?_)
  rw [if_pos (by rfl)]
  refine wp_app elX _ _ rfl rfl H4.out.bad rfl HSRC.out (by simp [Value.oneCell']) (by omega) HBW4.out ?_
  intro v5 w5 hown5 hb5 hg5 hx5
  obtain ⟨A5, c5, rfl, hc5, hcm5⟩ := own_form2 hown5
  clear hS0
  have hS0 := HSX.out _ (grown_trans HGRA.out hg5)
  have HN5 := hide (H4.out.setBad hg5 (A := A5) (n := n3 + 1) (c := c5) (bs := m.bad ++ [(k, (g : Int), s, z)]) (by rw [Cs_append, Cs_one]; exact hown5) (by rw [List.length_append, L3.out]; rfl))
  have HP5 := hide ((HP4.out.trans (PastB.grown (n := base) (kl := gx) hg5 (fun q hq => (own_typ H4.out.bad hq).1))).trans (PastB.set (g := gx) (i := 3) (v := .slice A5 (n3 + 1) c5) (.inr rfl)))
  have hfr5 : w5.frozen? ⟨gx, 3, none⟩ = false := RowAt.frozen (show RowAt w5 gx _ _ from (hg5.block gx H4.out.row.lt HFX.out).trans H4.out.row) 3
  clear hown5 hb5 hg5 hx5 hc5 hcm5
  refine hK1.out _ _ (fun _ => hS0) ?_
  clear hK1 K1
  (try simp only [Act.put, List.getElem_toArray, List.getElem_cons_succ, List.getElem_cons_zero, List.setIfInBounds_toArray, List.set_cons_zero, List.set_cons_succ])
  refine wpAnyT_one (i := 9) rfl (by kernel_rfl) (fun K2 hK2 => ?_)
  go_simp
  refine hK2.out _ _ (fun _ => hS0) ?_
  clear hK2 K2
  (try simp only [Act.put, List.getElem_toArray, List.getElem_cons_succ, List.getElem_cons_zero, List.setIfInBounds_toArray, List.set_cons_zero, List.set_cons_succ])
  refine wpAnyT_one (i := 10) rfl (by kernel_rfl) (fun K3 hK3 => ?_)
  go_simp
  refine hK3.out _ _ (fun _ => hS0) ?_
  clear hK3 K3
  (try simp only [Act.put, List.getElem_toArray, List.getElem_cons_succ, List.getElem_cons_zero, List.setIfInBounds_toArray, List.set_cons_zero, List.set_cons_succ])
  refine wpAnyT_one (i := 11) rfl (by kernel_rfl) (fun K4 hK4 => ?_)
  go_simp
  refine hK4.out _ _ (fun _ => hS0) ?_
  clear hK4 K4
  (try simp only [Act.put, List.getElem_toArray, List.getElem_cons_succ, List.getElem_cons_zero, List.setIfInBounds_toArray, List.set_cons_zero, List.set_cons_succ])
  refine wpAnyT_one (i := 12) rfl (by kernel_rfl) (fun K5 hK5 => ?_)
  obtain ⟨kf0, kf1, kf2, kf3, kf4, kf5, kf6⟩ := hS0
  go_simp
  refine hK5.out _ _ (fun h => absurd rfl h) ?_
  clear hK5 K5
  (try simp only [Act.put, List.getElem_toArray, List.getElem_cons_succ, List.getElem_cons_zero, List.setIfInBounds_toArray, List.set_cons_zero, List.set_cons_succ])
  refine wpAnyT_done (by kernel_rfl) ?_ _
  go_wp2_with fail
  go_end0
  exact ⟨HP5.out, .inl ⟨_, _, HRR.out.symm, rfl, ⟨_, _, _, _, _, _, _, _, _, _, _, _, _, _, _, _, HN5.out, HS.out.s2⟩⟩⟩
end Go.Proofs.Ytfpbabafeecncaa

/-
  The steps of a monitor that changes: take, retire, give.
-/
import Derived.Test.YtfpbabafeecncaaMoi
set_option linter.unusedSimpArgs false
set_option linter.unusedVariables false
namespace Go.Proofs.Ytfpbabafeecncaa
open Go Go.RowKit
attribute [local go_sem] via_cell via_frozen

theorem Rd.grown2 {w w' : World} {B sz n : Nat} {A : Option Addr} {xs : List Value} {row : Option Nat} (h : Rd w B sz A n xs) (hg : w.grownBy w' row) (hne : ∀ p, A = some p → some p.block ≠ row) (hB : B ≤ w.heap.size) : Rd w' B sz A n xs := by
  refine ⟨h.1, fun hn => ?_⟩
  obtain ⟨b, o, e, hb, hc⟩ := h.2 hn
  exact ⟨b, o, e, hb, fun j u hu => (cell_of_heap (p := ⟨b, o + j, none⟩) (hg.block b (Nat.lt_of_lt_of_le hb hB) (hne ⟨b, o, none⟩ e))).trans (hc j u hu)⟩
def SlabsRes (gx base : Nat) (a1 a2 a3 a4 A : Option Addr) (n1 n2 n3 n4 n c1 c2 c3 c4 c : Nat) (ts : List Hm) (m : Mon) (tk : List Ent) (ys : List Ent) (E : Int) (W : World) (e : Ending) (W' : World) : Prop :=
  Past gx W W' ∧ ((E = 0 ∧ e = .returned (.tuple #[]) ∧ WAt W' gx base A a1 a2 a3 a4 n n1 n2 n3 n4 c c1 c2 c3 c4 ts ⟨ys, m.pin, m.has, m.bad⟩ tk) ∨ (E ≠ 0 ∧ e = .panicked (errX E)))
set_option maxRecDepth 20000 in
set_option maxHeartbeats 1000000 in
theorem slabsF_any (gx base : Nat) (a0 a1 a2 a3 a4 : Option Addr) (n0 n1 n2 n3 n4 c0 c1 c2 c3 c4 : Nat) (ts : List Hm) (m : Mon) (tk : List Ent) (A : Option Addr) (n c : Nat) (ys : List Ent) (E : Int) (W : World) (h : WAt W gx base a0 a1 a2 a3 a4 n0 n1 n2 n3 n4 c0 c1 c2 c3 c4 ts m tk) (hs : SlAt W base A n ys) :
    Calls Try.prog 83 #[.pointer (some ⟨gx, 0, none⟩), .agg #[.slice A n c], .int .i64 E] W (SlabsRes gx base a1 a2 a3 a4 A n1 n2 n3 n4 n c1 c2 c3 c4 c ts m tk ys E W) := by
  have hbx : Below W.heap.size W (W.alloc (.cells #[.slice A n c] 27)) := (Below.refl _ _).alloc (Nat.le_refl _) _
  have H := hide (h.below hbx)
  have RX := hide (RowAt.new W 27 #[.slice A n c])
  have HS := hide (hs.kept hbx.size (fun g _ hr => hbx.block g hr.lt))
  have HB := hide (Past.of_below h.row.lt hbx)
  have HW := hide (show gx ≠ W.heap.size from by have := h.row.lt; omega)
  clear h hbx hs
  by_cases he : E = 0
  · have hd : (E == 0) = true := by simpa using he
    have HE := hide he
    clear he
    have y0 := row1 RX.out
    have yl := RX.out.lt
    go_enter Try.func83, Try.ntmps83
    go_wp2_with fail
    generalize W.alloc (.cells #[.slice A n c] 27) = w1 at *
    refine (mneed_ok E _).mono ?_
    rintro e w3 ⟨rfl, rfl⟩
    obtain ⟨x0, x1, x2, x3, x4⟩ := row5 H.out.row
    have xl := H.out.row.lt
    have xf := H.out.row.frozen 0
    have HN := hide (H.out.setSl (c := c) HS.out)
    have HP := hide (HB.out.trans (Past.set 0 (.slice A n c)))
    go_wp2_with fail
    go_end0
    exact ⟨HP.out, .inl ⟨HE.out, rfl, HN.out⟩⟩
  · have hd : (E == 0) = false := by simpa using he
    have HE := hide he
    clear he
    go_enter Try.func83, Try.ntmps83
    go_wp2_with fail
    refine (mneed_no E _).mono ?_
    rintro e w3 ⟨rfl, rfl⟩
    go_wp2_with fail
    exact ⟨rfl, HB.out, .inr ⟨HE.out, rfl⟩⟩
theorem PastB.of_past {n kl : Nat} {a b : World} (h : Past kl a b) : PastB n kl a b := ⟨h.below.os, h.below.tape, h.below.output, h.size, fun j _ h2 h3 => h.block j h2 h3⟩
set_option maxRecDepth 20000 in
set_option maxHeartbeats 2000000 in
theorem mretire_any (gx base : Nat) (a0 a1 a2 a3 a4 : Option Addr) (n0 n1 n2 n3 n4 c0 c1 c2 c3 c4 : Nat) (ts : List Hm) (m : Mon) (tk : List Ent) (k s z : Int) (g : Nat) (W : World) (h : WAt W gx base a0 a1 a2 a3 a4 n0 n1 n2 n3 n4 c0 c1 c2 c3 c4 ts m tk) (hbw : base ≤ W.heap.size) (hs : SmallX n0 n1 n2 n3 ts) (hg : g < n1) (hg2 : g < n2) (hz : U64 z) (r : Except Int (Mon × List Ent)) (hr : (if rtE m.sl [(s, z)] = 0 then .ok (⟨rtA m.sl [(s, z)], m.pin, m.has, m.bad⟩, tk) else .error (rtE m.sl [(s, z)])) = r) :
    Calls Try.prog 74 #[.pointer (some ⟨gx, 0, none⟩), .agg #[.int .i64 k, .int .i64 (g : Int), .int .i64 s, .int .u64 z]] W (DeedRes gx base r W) := by
  have hbx : Below W.heap.size W (W.alloc (.cells #[.int .i64 k, .int .i64 (g : Int), .int .i64 s, .int .u64 z] 45)) := (Below.refl _ _).alloc (Nat.le_refl _) _
  have H := hide (h.below hbx)
  have RX := hide (RowAt.new W 45 #[.int .i64 k, .int .i64 (g : Int), .int .i64 s, .int .u64 z])
  have HB := hide hbx
  have HS := hide hs
  have HBW := hide (Nat.le_trans hbw hbx.size)
  have hgI : (g : Int) < (n1 : Int) := by omega
  have hgI2 : (g : Int) < (n2 : Int) := by omega
  have HR := hide hr
  have HZ := hide hz
  have HNX := hide (show W.heap.size ≠ gx from by have := h.row.lt; omega)
  clear h hbx hr hs hbw hz hg hg2 hgI hgI2
  obtain ⟨x0, x1, x2, x3, x4⟩ := row5 H.out.row
  have xl := H.out.row.lt
  obtain ⟨y0, y1, y2, y3⟩ := row4 RX.out
  have yl := RX.out.lt
  go_enter Try.func74, Try.ntmps74
  go_wp2_with fail
  generalize W.alloc (.cells #[.int .i64 k, .int .i64 (g : Int), .int .i64 s, .int .u64 z] 45) = w1 at *
  have HSX := hide (fun (wX : World) (hgX : Below w1.heap.size w1 wX) => show wX.cell? ⟨gx, 0, none⟩ = some (.slice a0 n0 c0) ∧ wX.cell? ⟨W.heap.size, 2, none⟩ = some (.int .i64 s) ∧ wX.cell? ⟨W.heap.size, 3, none⟩ = some (.int .u64 z) ∧ gx < wX.heap.size ∧ W.heap.size < wX.heap.size from ⟨kept hgX x0, kept hgX y2, kept hgX y3, Nat.lt_of_lt_of_le xl hgX.size, Nat.lt_of_lt_of_le yl hgX.size⟩)
  have HGR := hide ((Below.refl w1.heap.size w1).drew)
  have HAL := hide (((Below.refl w1.heap.size w1).alloc (Nat.le_refl _) (.cells #[.int .i64 s, .int .u64 z] 43)).drew)
  have H4 := hide (H.out.below HAL.out)
  have HSRC := hide (((Rd.new w1 #[.int .i64 s, .int .u64 z] 43 2 1 rfl).below (Below.refl (w1.heap.size + 1) _).drew).more (Nat.le_of_eq (World.size_alloc w1 (.cells #[.int .i64 s, .int .u64 z] 43)).symm))
  have HSRC := hide (show Rd (w1.alloc (.cells #[.int .i64 s, .int .u64 z] 43)).drew (w1.alloc (.cells #[.int .i64 s, .int .u64 z] 43)).drew.heap.size 2 (some ⟨w1.heap.size, 0, none⟩) 1 (Cs encE [(s, z)]) from HSRC.out)
  refine wp_region_held_drew (S := fun wX => wX.cell? ⟨W.heap.size, 2, none⟩ = some (.int .i64 s) ∧ wX.cell? ⟨W.heap.size, 3, none⟩ = some (.int .u64 z) ∧ gx < wX.heap.size ∧ W.heap.size < wX.heap.size) (by kernel_rfl) ((HSX.out _ HGR.out).2) (fun hHeld => ?_)
  clear x0 x1 x2 x3 x4 xl y0 y1 y2 y3 yl hHeld
  have hS0 := (HSX.out _ HGR.out).2
  (refine wpAnyH_take (i := 0) (v := ?_) rfl (by kernel_rfl) (by kernel_rfl) (by kernel_rfl) (fun _ _ _ h => h) (Or.inl ⟨by rfl, ?_⟩) (by assumption) ?_; rotate_left; (focus (intro w hSw; (try dsimp only at hSw); obtain ⟨kf0, kf1, kf2, kf3⟩ := hSw; go_simp; first | done | with_reducible rfl)); (try simp only [Act.put, List.getElem_toArray, List.getElem_cons_succ, List.getElem_cons_zero, List.setIfInBounds_toArray, List.set_cons_zero, List.set_cons_succ]))
  (refine wpAnyH_take (i := 1) (v := ?_) rfl (by kernel_rfl) (by kernel_rfl) (by kernel_rfl) (fun _ _ _ h => h) (Or.inl ⟨by rfl, ?_⟩) (by assumption) ?_; rotate_left; (focus (intro w hSw; (try dsimp only at hSw); obtain ⟨kf0, kf1, kf2, kf3⟩ := hSw; go_simp; first | done | with_reducible rfl)); (try simp only [Act.put, List.getElem_toArray, List.getElem_cons_succ, List.getElem_cons_zero, List.setIfInBounds_toArray, List.set_cons_zero, List.set_cons_succ]))
  (refine wpAnyH_take (i := 2) (v := ?_) rfl (by kernel_rfl) (by kernel_rfl) (by kernel_rfl) (fun _ _ _ h => h) (Or.inl ⟨by rfl, ?_⟩) (by assumption) ?_; rotate_left; (focus (intro w hSw; (try dsimp only at hSw); obtain ⟨kf0, kf1, kf2, kf3⟩ := hSw; go_simp; first | done | with_reducible rfl)); (try simp only [Act.put, List.getElem_toArray, List.getElem_cons_succ, List.getElem_cons_zero, List.setIfInBounds_toArray, List.set_cons_zero, List.set_cons_succ]))
  (refine wpAnyH_take (i := 3) (v := ?_) rfl (by kernel_rfl) (by kernel_rfl) (by kernel_rfl) (fun _ _ _ h => h) (Or.inl ⟨by rfl, ?_⟩) (by assumption) ?_; rotate_left; (focus (intro w hSw; (try dsimp only at hSw); obtain ⟨kf0, kf1, kf2, kf3⟩ := hSw; go_simp; first | done | with_reducible rfl)); (try simp only [Act.put, List.getElem_toArray, List.getElem_cons_succ, List.getElem_cons_zero, List.setIfInBounds_toArray, List.set_cons_zero, List.set_cons_succ]))
  (refine wpAnyH_take (i := 4) (v := ?_) rfl (by kernel_rfl) (by kernel_rfl) (by kernel_rfl) (fun _ _ _ h => h) (Or.inl ⟨by rfl, ?_⟩) (by assumption) ?_; rotate_left; (focus (intro w hSw; (try dsimp only at hSw); obtain ⟨kf0, kf1, kf2, kf3⟩ := hSw; go_simp; first | done | with_reducible rfl)); (try simp only [Act.put, List.getElem_toArray, List.getElem_cons_succ, List.getElem_cons_zero, List.setIfInBounds_toArray, List.set_cons_zero, List.set_cons_succ]))
  (refine wpAnyH_take (i := 6) (v := ?_) rfl (by kernel_rfl) (by kernel_rfl) (by kernel_rfl) (fun _ _ _ h => h) (Or.inl ⟨by rfl, ?_⟩) (by assumption) ?_; rotate_left; (focus (intro w hSw; (try dsimp only at hSw); obtain ⟨kf0, kf1, kf2, kf3⟩ := hSw; go_simp; first | done | with_reducible rfl)); (try simp only [Act.put, List.getElem_toArray, List.getElem_cons_succ, List.getElem_cons_zero, List.setIfInBounds_toArray, List.set_cons_zero, List.set_cons_succ]))
  (refine wpAnyH_take (i := 7) (v := ?_) rfl (by kernel_rfl) (by kernel_rfl) (by kernel_rfl) (fun _ _ _ h => h) (Or.inl ⟨by rfl, ?_⟩) (by assumption) ?_; rotate_left; (focus (intro w hSw; (try dsimp only at hSw); obtain ⟨kf0, kf1, kf2, kf3⟩ := hSw; go_simp; first | done | with_reducible rfl)); (try simp only [Act.put, List.getElem_toArray, List.getElem_cons_succ, List.getElem_cons_zero, List.setIfInBounds_toArray, List.set_cons_zero, List.set_cons_succ]))
  refine wpAnyH_ready (rs := [5, 8]) (by kernel_rfl) (by simp) ?_
  refine AllReadyH.cons rfl (fun K0 hK0 => ?_) (AllReadyH.cons rfl (fun K0 hK0 => ?_) AllReadyH.nil)
  · have x0 := (HSX.out _ HGR.out).1
    obtain ⟨kf0, kf1, kf2, kf3⟩ := hS0
    go_simp
    refine hK0.out _ _ ((HSX.out _ HGR.out).2) (fun _ => ?_)
    clear hK0 K0
    (try simp only [Act.put, List.getElem_toArray, List.getElem_cons_succ, List.getElem_cons_zero, List.setIfInBounds_toArray, List.set_cons_zero, List.set_cons_succ])
    clear x0 kf0 kf1 kf2 kf3
    refine wpAnyH_ready (rs := [8]) (by kernel_rfl) (by simp) ?_
    refine (AllReadyH.cons rfl (fun K1 hK1 => ?_) AllReadyH.nil)
    go_simp
    refine hK1.out _ _ ((HSX.out _ HAL.out).2) (fun _ => ?_)
    clear hK1 K1
    (try simp only [Act.put, List.getElem_toArray, List.getElem_cons_succ, List.getElem_cons_zero, List.setIfInBounds_toArray, List.set_cons_zero, List.set_cons_succ])
    have hS0 := (HSX.out _ HAL.out).2
    generalize (w1.alloc (.cells #[.int .i64 s, .int .u64 z] 43)).drew = w4 at *
    refine wpAnyH_ready (rs := [9]) (by kernel_rfl) (by simp) ?_
    refine (AllReadyH.cons rfl (fun K2 hK2 => ?_) AllReadyH.nil)
    go_simp
    refine (retire_any a0 c0 n0 (some ⟨w1.heap.size, 0, none⟩) 1 1 m.sl [(s, z)] w4 H4.out.sl.rd H4.out.sl.len HS.out.s0 HSRC.out rfl (by omega)).mono ?_
    rintro e w5 ⟨A5, n5, c5, rfl, hnc5, hout5, hb5⟩
    have H5 := hide (H4.out.below hb5)
    have HSL := hide (SlAt.of_out hout5 (Nat.le_trans HBW.out HAL.out.size))
    have HX5 := hide (HAL.out.trans (hb5.mono HAL.out.size))
    clear hS0
    have hS0 := (HSX.out _ HX5.out).2
    have HBX := hide (HB.out.trans (HX5.out.mono HB.out.size))
    clear hout5 hb5 hnc5
    refine hK2.out _ _ (hS0) (fun _ => ?_)
    clear hK2 K2
    (try simp only [Act.put, List.getElem_toArray, List.getElem_cons_succ, List.getElem_cons_zero, List.setIfInBounds_toArray, List.set_cons_zero, List.set_cons_succ])
    (refine wpAnyH_take (i := 10) (v := ?_) rfl (by kernel_rfl) (by kernel_rfl) (by kernel_rfl) (fun _ _ _ h => h) (Or.inl ⟨by rfl, ?_⟩) (by assumption) ?_; rotate_left; (focus (intro w hSw; (try dsimp only at hSw); obtain ⟨kf0, kf1, kf2, kf3⟩ := hSw; go_simp; first | done | with_reducible rfl)); (try simp only [Act.put, List.getElem_toArray, List.getElem_cons_succ, List.getElem_cons_zero, List.setIfInBounds_toArray, List.set_cons_zero, List.set_cons_succ]))
    (refine wpAnyH_take (i := 11) (v := ?_) rfl (by kernel_rfl) (by kernel_rfl) (by kernel_rfl) (fun _ _ _ h => h) (Or.inl ⟨by rfl, ?_⟩) (by assumption) ?_; rotate_left; (focus (intro w hSw; (try dsimp only at hSw); obtain ⟨kf0, kf1, kf2, kf3⟩ := hSw; go_simp; first | done | with_reducible rfl)); (try simp only [Act.put, List.getElem_toArray, List.getElem_cons_succ, List.getElem_cons_zero, List.setIfInBounds_toArray, List.set_cons_zero, List.set_cons_succ]))
    refine wpAnyH_ready (rs := [12]) (by kernel_rfl) (by simp) ?_
    refine (AllReadyH.cons rfl (fun K3 hK3 => ?_) AllReadyH.nil)
    go_simp
    refine (slabsF_any gx base _ _ _ _ _ _ _ _ _ _ _ _ _ _ _ ts m tk A5 n5 c5 _ (rtE m.sl [(s, z)]) w5 H5.out HSL.out).mono ?_
    rintro e w6 ⟨hp, hor⟩
    have HP6 := hide ((PastB.of_below (n := base) (kl := gx) HBX.out).trans (PastB.of_past (n := base) hp))
    have HN2 := hide HS.out.s2
    have hS6 := (show w6.cell? ⟨W.heap.size, 2, none⟩ = some (.int .i64 s) ∧ w6.cell? ⟨W.heap.size, 3, none⟩ = some (.int .u64 z) ∧ gx < w6.heap.size ∧ W.heap.size < w6.heap.size from ⟨(hp.cell ⟨W.heap.size, 2, none⟩ HNX.out hS0.2.2.2).trans hS0.1, (hp.cell ⟨W.heap.size, 3, none⟩ HNX.out hS0.2.2.2).trans hS0.2.1, Nat.lt_of_lt_of_le hS0.2.2.1 hp.size, Nat.lt_of_lt_of_le hS0.2.2.2 hp.size⟩)
    clear hp hS0
    rcases hor with ⟨h0, rfl, hw⟩ | ⟨h0, rfl⟩
    case inr =>
      have HRR := hide (show Except.error (rtE m.sl [(s, z)]) = r from by rw [← HR.out, if_neg h0])
      clear h0
      exact ⟨by first | rfl | assumption | trivial, HP6.out, .inr ⟨_, HRR.out.symm, rfl⟩⟩
    have HRR := hide (show Except.ok (⟨rtA m.sl [(s, z)], m.pin, m.has, m.bad⟩, tk) = r from by rw [← HR.out, if_pos h0])
    have HW := hide hw
    clear hw h0
    refine hK3.out _ _ (hS6) (fun _ => ?_)
    clear hK3 K3
    (try simp only [Act.put, List.getElem_toArray, List.getElem_cons_succ, List.getElem_cons_zero, List.setIfInBounds_toArray, List.set_cons_zero, List.set_cons_succ])
    refine wpAnyH_done (by kernel_rfl) ?_ _
    go_wp2_with fail
    go_end0
    exact ⟨HP6.out, .inl ⟨_, _, HRR.out.symm, rfl, ⟨_, _, _, _, _, _, _, _, _, _, _, _, _, _, _, _, HW.out, HN2.out⟩⟩⟩
  · go_simp
    refine hK0.out _ _ ((HSX.out _ HAL.out).2) (fun _ => ?_)
    clear hK0 K0
    (try simp only [Act.put, List.getElem_toArray, List.getElem_cons_succ, List.getElem_cons_zero, List.setIfInBounds_toArray, List.set_cons_zero, List.set_cons_succ])
    clear hS0
    have hS0 := (HSX.out _ HAL.out).2
    have x0 := (HSX.out _ HAL.out).1
    refine wpAnyH_ready (rs := [5]) (by kernel_rfl) (by simp) ?_
    refine (AllReadyH.cons rfl (fun K4 hK4 => ?_) AllReadyH.nil)
    obtain ⟨kf0, kf1, kf2, kf3⟩ := hS0
    go_simp
    refine hK4.out _ _ ((HSX.out _ HAL.out).2) (fun _ => ?_)
    clear hK4 K4
    (try simp only [Act.put, List.getElem_toArray, List.getElem_cons_succ, List.getElem_cons_zero, List.setIfInBounds_toArray, List.set_cons_zero, List.set_cons_succ])
    clear x0 kf0 kf1 kf2 kf3
    have hS0 := (HSX.out _ HAL.out).2
    generalize (w1.alloc (.cells #[.int .i64 s, .int .u64 z] 43)).drew = w4 at *
    refine wpAnyH_ready (rs := [9]) (by kernel_rfl) (by simp) ?_
    refine (AllReadyH.cons rfl (fun K5 hK5 => ?_) AllReadyH.nil)
    go_simp
    refine (retire_any a0 c0 n0 (some ⟨w1.heap.size, 0, none⟩) 1 1 m.sl [(s, z)] w4 H4.out.sl.rd H4.out.sl.len HS.out.s0 HSRC.out rfl (by omega)).mono ?_
    rintro e w5 ⟨A5, n5, c5, rfl, hnc5, hout5, hb5⟩
    have H5 := hide (H4.out.below hb5)
    have HSL := hide (SlAt.of_out hout5 (Nat.le_trans HBW.out HAL.out.size))
    have HX5 := hide (HAL.out.trans (hb5.mono HAL.out.size))
    clear hS0
    have hS0 := (HSX.out _ HX5.out).2
    have HBX := hide (HB.out.trans (HX5.out.mono HB.out.size))
    clear hout5 hb5 hnc5
    refine hK5.out _ _ (hS0) (fun _ => ?_)
    clear hK5 K5
    (try simp only [Act.put, List.getElem_toArray, List.getElem_cons_succ, List.getElem_cons_zero, List.setIfInBounds_toArray, List.set_cons_zero, List.set_cons_succ])
    (refine wpAnyH_take (i := 10) (v := ?_) rfl (by kernel_rfl) (by kernel_rfl) (by kernel_rfl) (fun _ _ _ h => h) (Or.inl ⟨by rfl, ?_⟩) (by assumption) ?_; rotate_left; (focus (intro w hSw; (try dsimp only at hSw); obtain ⟨kf0, kf1, kf2, kf3⟩ := hSw; go_simp; first | done | with_reducible rfl)); (try simp only [Act.put, List.getElem_toArray, List.getElem_cons_succ, List.getElem_cons_zero, List.setIfInBounds_toArray, List.set_cons_zero, List.set_cons_succ]))
    (refine wpAnyH_take (i := 11) (v := ?_) rfl (by kernel_rfl) (by kernel_rfl) (by kernel_rfl) (fun _ _ _ h => h) (Or.inl ⟨by rfl, ?_⟩) (by assumption) ?_; rotate_left; (focus (intro w hSw; (try dsimp only at hSw); obtain ⟨kf0, kf1, kf2, kf3⟩ := hSw; go_simp; first | done | with_reducible rfl)); (try simp only [Act.put, List.getElem_toArray, List.getElem_cons_succ, List.getElem_cons_zero, List.setIfInBounds_toArray, List.set_cons_zero, List.set_cons_succ]))
    refine wpAnyH_ready (rs := [12]) (by kernel_rfl) (by simp) ?_
    refine (AllReadyH.cons rfl (fun K6 hK6 => ?_) AllReadyH.nil)
    go_simp
    refine (slabsF_any gx base _ _ _ _ _ _ _ _ _ _ _ _ _ _ _ ts m tk A5 n5 c5 _ (rtE m.sl [(s, z)]) w5 H5.out HSL.out).mono ?_
    rintro e w6 ⟨hp, hor⟩
    have HP6 := hide ((PastB.of_below (n := base) (kl := gx) HBX.out).trans (PastB.of_past (n := base) hp))
    have HN2 := hide HS.out.s2
    have hS6 := (show w6.cell? ⟨W.heap.size, 2, none⟩ = some (.int .i64 s) ∧ w6.cell? ⟨W.heap.size, 3, none⟩ = some (.int .u64 z) ∧ gx < w6.heap.size ∧ W.heap.size < w6.heap.size from ⟨(hp.cell ⟨W.heap.size, 2, none⟩ HNX.out hS0.2.2.2).trans hS0.1, (hp.cell ⟨W.heap.size, 3, none⟩ HNX.out hS0.2.2.2).trans hS0.2.1, Nat.lt_of_lt_of_le hS0.2.2.1 hp.size, Nat.lt_of_lt_of_le hS0.2.2.2 hp.size⟩)
    clear hp hS0
    rcases hor with ⟨h0, rfl, hw⟩ | ⟨h0, rfl⟩
    case inr =>
      have HRR := hide (show Except.error (rtE m.sl [(s, z)]) = r from by rw [← HR.out, if_neg h0])
      clear h0
      exact ⟨by first | rfl | assumption | trivial, HP6.out, .inr ⟨_, HRR.out.symm, rfl⟩⟩
    have HRR := hide (show Except.ok (⟨rtA m.sl [(s, z)], m.pin, m.has, m.bad⟩, tk) = r from by rw [← HR.out, if_pos h0])
    have HW := hide hw
    clear hw h0
    refine hK6.out _ _ (hS6) (fun _ => ?_)
    clear hK6 K6
    (try simp only [Act.put, List.getElem_toArray, List.getElem_cons_succ, List.getElem_cons_zero, List.setIfInBounds_toArray, List.set_cons_zero, List.set_cons_succ])
    refine wpAnyH_done (by kernel_rfl) ?_ _
    go_wp2_with fail
    go_end0
    exact ⟨HP6.out, .inl ⟨_, _, HRR.out.symm, rfl, ⟨_, _, _, _, _, _, _, _, _, _, _, _, _, _, _, _, HW.out, HN2.out⟩⟩⟩
set_option maxRecDepth 20000 in
set_option maxHeartbeats 2000000 in
theorem mgive_any (gx base : Nat) (a0 a1 a2 a3 a4 : Option Addr) (n0 n1 n2 n3 n4 c0 c1 c2 c3 c4 : Nat) (ts : List Hm) (m : Mon) (tk : List Ent) (k s z : Int) (g : Nat) (W : World) (h : WAt W gx base a0 a1 a2 a3 a4 n0 n1 n2 n3 n4 c0 c1 c2 c3 c4 ts m tk) (hbw : base ≤ W.heap.size) (hs : SmallX n0 n1 n2 n3 ts) (hg : g < n1) (hg2 : g < n2) (hz : U64 z) (r : Except Int (Mon × List Ent)) (hr : (if gvE m.sl [(s, z)] = 0 then .ok (⟨gvA m.sl [(s, z)], m.pin, m.has, m.bad⟩, tk) else .error (gvE m.sl [(s, z)])) = r) :
    Calls Try.prog 75 #[.pointer (some ⟨gx, 0, none⟩), .agg #[.int .i64 k, .int .i64 (g : Int), .int .i64 s, .int .u64 z]] W (DeedRes gx base r W) := by
  have hbx : Below W.heap.size W (W.alloc (.cells #[.int .i64 k, .int .i64 (g : Int), .int .i64 s, .int .u64 z] 45)) := (Below.refl _ _).alloc (Nat.le_refl _) _
  have H := hide (h.below hbx)
  have RX := hide (RowAt.new W 45 #[.int .i64 k, .int .i64 (g : Int), .int .i64 s, .int .u64 z])
  have HB := hide hbx
  have HS := hide hs
  have HBW := hide (Nat.le_trans hbw hbx.size)
  have hgI : (g : Int) < (n1 : Int) := by omega
  have hgI2 : (g : Int) < (n2 : Int) := by omega
  have HR := hide hr
  have HZ := hide hz
  have HNX := hide (show W.heap.size ≠ gx from by have := h.row.lt; omega)
  clear h hbx hr hs hbw hz hg hg2 hgI hgI2
  obtain ⟨x0, x1, x2, x3, x4⟩ := row5 H.out.row
  have xl := H.out.row.lt
  obtain ⟨y0, y1, y2, y3⟩ := row4 RX.out
  have yl := RX.out.lt
  go_enter Try.func75, Try.ntmps75
  go_wp2_with fail
  generalize W.alloc (.cells #[.int .i64 k, .int .i64 (g : Int), .int .i64 s, .int .u64 z] 45) = w1 at *
  have HSX := hide (fun (wX : World) (hgX : Below w1.heap.size w1 wX) => show wX.cell? ⟨gx, 0, none⟩ = some (.slice a0 n0 c0) ∧ wX.cell? ⟨W.heap.size, 2, none⟩ = some (.int .i64 s) ∧ wX.cell? ⟨W.heap.size, 3, none⟩ = some (.int .u64 z) ∧ gx < wX.heap.size ∧ W.heap.size < wX.heap.size from ⟨kept hgX x0, kept hgX y2, kept hgX y3, Nat.lt_of_lt_of_le xl hgX.size, Nat.lt_of_lt_of_le yl hgX.size⟩)
  have HGR := hide ((Below.refl w1.heap.size w1).drew)
  have HAL := hide (((Below.refl w1.heap.size w1).alloc (Nat.le_refl _) (.cells #[.int .i64 s, .int .u64 z] 43)).drew)
  have H4 := hide (H.out.below HAL.out)
  have HSRC := hide (((Rd.new w1 #[.int .i64 s, .int .u64 z] 43 2 1 rfl).below (Below.refl (w1.heap.size + 1) _).drew).more (Nat.le_of_eq (World.size_alloc w1 (.cells #[.int .i64 s, .int .u64 z] 43)).symm))
  have HSRC := hide (show Rd (w1.alloc (.cells #[.int .i64 s, .int .u64 z] 43)).drew (w1.alloc (.cells #[.int .i64 s, .int .u64 z] 43)).drew.heap.size 2 (some ⟨w1.heap.size, 0, none⟩) 1 (Cs encE [(s, z)]) from HSRC.out)
  refine wp_region_held_drew (S := fun wX => wX.cell? ⟨W.heap.size, 2, none⟩ = some (.int .i64 s) ∧ wX.cell? ⟨W.heap.size, 3, none⟩ = some (.int .u64 z) ∧ gx < wX.heap.size ∧ W.heap.size < wX.heap.size) (by kernel_rfl) ((HSX.out _ HGR.out).2) (fun hHeld => ?_)
  clear x0 x1 x2 x3 x4 xl y0 y1 y2 y3 yl hHeld
  have hS0 := (HSX.out _ HGR.out).2
  (refine wpAnyH_take (i := 0) (v := ?_) rfl (by kernel_rfl) (by kernel_rfl) (by kernel_rfl) (fun _ _ _ h => h) (Or.inl ⟨by rfl, ?_⟩) (by assumption) ?_; rotate_left; (focus (intro w hSw; (try dsimp only at hSw); obtain ⟨kf0, kf1, kf2, kf3⟩ := hSw; go_simp; first | done | with_reducible rfl)); (try simp only [Act.put, List.getElem_toArray, List.getElem_cons_succ, List.getElem_cons_zero, List.setIfInBounds_toArray, List.set_cons_zero, List.set_cons_succ]))
  (refine wpAnyH_take (i := 1) (v := ?_) rfl (by kernel_rfl) (by kernel_rfl) (by kernel_rfl) (fun _ _ _ h => h) (Or.inl ⟨by rfl, ?_⟩) (by assumption) ?_; rotate_left; (focus (intro w hSw; (try dsimp only at hSw); obtain ⟨kf0, kf1, kf2, kf3⟩ := hSw; go_simp; first | done | with_reducible rfl)); (try simp only [Act.put, List.getElem_toArray, List.getElem_cons_succ, List.getElem_cons_zero, List.setIfInBounds_toArray, List.set_cons_zero, List.set_cons_succ]))
  (refine wpAnyH_take (i := 2) (v := ?_) rfl (by kernel_rfl) (by kernel_rfl) (by kernel_rfl) (fun _ _ _ h => h) (Or.inl ⟨by rfl, ?_⟩) (by assumption) ?_; rotate_left; (focus (intro w hSw; (try dsimp only at hSw); obtain ⟨kf0, kf1, kf2, kf3⟩ := hSw; go_simp; first | done | with_reducible rfl)); (try simp only [Act.put, List.getElem_toArray, List.getElem_cons_succ, List.getElem_cons_zero, List.setIfInBounds_toArray, List.set_cons_zero, List.set_cons_succ]))
  (refine wpAnyH_take (i := 3) (v := ?_) rfl (by kernel_rfl) (by kernel_rfl) (by kernel_rfl) (fun _ _ _ h => h) (Or.inl ⟨by rfl, ?_⟩) (by assumption) ?_; rotate_left; (focus (intro w hSw; (try dsimp only at hSw); obtain ⟨kf0, kf1, kf2, kf3⟩ := hSw; go_simp; first | done | with_reducible rfl)); (try simp only [Act.put, List.getElem_toArray, List.getElem_cons_succ, List.getElem_cons_zero, List.setIfInBounds_toArray, List.set_cons_zero, List.set_cons_succ]))
  (refine wpAnyH_take (i := 4) (v := ?_) rfl (by kernel_rfl) (by kernel_rfl) (by kernel_rfl) (fun _ _ _ h => h) (Or.inl ⟨by rfl, ?_⟩) (by assumption) ?_; rotate_left; (focus (intro w hSw; (try dsimp only at hSw); obtain ⟨kf0, kf1, kf2, kf3⟩ := hSw; go_simp; first | done | with_reducible rfl)); (try simp only [Act.put, List.getElem_toArray, List.getElem_cons_succ, List.getElem_cons_zero, List.setIfInBounds_toArray, List.set_cons_zero, List.set_cons_succ]))
  (refine wpAnyH_take (i := 6) (v := ?_) rfl (by kernel_rfl) (by kernel_rfl) (by kernel_rfl) (fun _ _ _ h => h) (Or.inl ⟨by rfl, ?_⟩) (by assumption) ?_; rotate_left; (focus (intro w hSw; (try dsimp only at hSw); obtain ⟨kf0, kf1, kf2, kf3⟩ := hSw; go_simp; first | done | with_reducible rfl)); (try simp only [Act.put, List.getElem_toArray, List.getElem_cons_succ, List.getElem_cons_zero, List.setIfInBounds_toArray, List.set_cons_zero, List.set_cons_succ]))
  (refine wpAnyH_take (i := 7) (v := ?_) rfl (by kernel_rfl) (by kernel_rfl) (by kernel_rfl) (fun _ _ _ h => h) (Or.inl ⟨by rfl, ?_⟩) (by assumption) ?_; rotate_left; (focus (intro w hSw; (try dsimp only at hSw); obtain ⟨kf0, kf1, kf2, kf3⟩ := hSw; go_simp; first | done | with_reducible rfl)); (try simp only [Act.put, List.getElem_toArray, List.getElem_cons_succ, List.getElem_cons_zero, List.setIfInBounds_toArray, List.set_cons_zero, List.set_cons_succ]))
  refine wpAnyH_ready (rs := [5, 8]) (by kernel_rfl) (by simp) ?_
  refine AllReadyH.cons rfl (fun K0 hK0 => ?_) (AllReadyH.cons rfl (fun K0 hK0 => ?_) AllReadyH.nil)
  · have x0 := (HSX.out _ HGR.out).1
    obtain ⟨kf0, kf1, kf2, kf3⟩ := hS0
    go_simp
    refine hK0.out _ _ ((HSX.out _ HGR.out).2) (fun _ => ?_)
    clear hK0 K0
    (try simp only [Act.put, List.getElem_toArray, List.getElem_cons_succ, List.getElem_cons_zero, List.setIfInBounds_toArray, List.set_cons_zero, List.set_cons_succ])
    clear x0 kf0 kf1 kf2 kf3
    refine wpAnyH_ready (rs := [8]) (by kernel_rfl) (by simp) ?_
    refine (AllReadyH.cons rfl (fun K1 hK1 => ?_) AllReadyH.nil)
    go_simp
    refine hK1.out _ _ ((HSX.out _ HAL.out).2) (fun _ => ?_)
    clear hK1 K1
    (try simp only [Act.put, List.getElem_toArray, List.getElem_cons_succ, List.getElem_cons_zero, List.setIfInBounds_toArray, List.set_cons_zero, List.set_cons_succ])
    have hS0 := (HSX.out _ HAL.out).2
    generalize (w1.alloc (.cells #[.int .i64 s, .int .u64 z] 43)).drew = w4 at *
    refine wpAnyH_ready (rs := [9]) (by kernel_rfl) (by simp) ?_
    refine (AllReadyH.cons rfl (fun K2 hK2 => ?_) AllReadyH.nil)
    go_simp
    refine (give_any a0 c0 n0 (some ⟨w1.heap.size, 0, none⟩) 1 1 m.sl [(s, z)] w4 H4.out.sl.rd H4.out.sl.len HS.out.s0 HSRC.out rfl (by omega) (by intro e he; rw [List.mem_singleton] at he; subst he; exact HZ.out)).mono ?_
    rintro e w5 ⟨A5, n5, c5, rfl, hnc5, hout5, hb5⟩
    have H5 := hide (H4.out.below hb5)
    have HSL := hide (SlAt.of_out hout5 (Nat.le_trans HBW.out HAL.out.size))
    have HX5 := hide (HAL.out.trans (hb5.mono HAL.out.size))
    clear hS0
    have hS0 := (HSX.out _ HX5.out).2
    have HBX := hide (HB.out.trans (HX5.out.mono HB.out.size))
    clear hout5 hb5 hnc5
    refine hK2.out _ _ (hS0) (fun _ => ?_)
    clear hK2 K2
    (try simp only [Act.put, List.getElem_toArray, List.getElem_cons_succ, List.getElem_cons_zero, List.setIfInBounds_toArray, List.set_cons_zero, List.set_cons_succ])
    (refine wpAnyH_take (i := 10) (v := ?_) rfl (by kernel_rfl) (by kernel_rfl) (by kernel_rfl) (fun _ _ _ h => h) (Or.inl ⟨by rfl, ?_⟩) (by assumption) ?_; rotate_left; (focus (intro w hSw; (try dsimp only at hSw); obtain ⟨kf0, kf1, kf2, kf3⟩ := hSw; go_simp; first | done | with_reducible rfl)); (try simp only [Act.put, List.getElem_toArray, List.getElem_cons_succ, List.getElem_cons_zero, List.setIfInBounds_toArray, List.set_cons_zero, List.set_cons_succ]))
    (refine wpAnyH_take (i := 11) (v := ?_) rfl (by kernel_rfl) (by kernel_rfl) (by kernel_rfl) (fun _ _ _ h => h) (Or.inl ⟨by rfl, ?_⟩) (by assumption) ?_; rotate_left; (focus (intro w hSw; (try dsimp only at hSw); obtain ⟨kf0, kf1, kf2, kf3⟩ := hSw; go_simp; first | done | with_reducible rfl)); (try simp only [Act.put, List.getElem_toArray, List.getElem_cons_succ, List.getElem_cons_zero, List.setIfInBounds_toArray, List.set_cons_zero, List.set_cons_succ]))
    refine wpAnyH_ready (rs := [12]) (by kernel_rfl) (by simp) ?_
    refine (AllReadyH.cons rfl (fun K3 hK3 => ?_) AllReadyH.nil)
    go_simp
    refine (slabsF_any gx base _ _ _ _ _ _ _ _ _ _ _ _ _ _ _ ts m tk A5 n5 c5 _ (gvE m.sl [(s, z)]) w5 H5.out HSL.out).mono ?_
    rintro e w6 ⟨hp, hor⟩
    have HP6 := hide ((PastB.of_below (n := base) (kl := gx) HBX.out).trans (PastB.of_past (n := base) hp))
    have HN2 := hide HS.out.s2
    have hS6 := (show w6.cell? ⟨W.heap.size, 2, none⟩ = some (.int .i64 s) ∧ w6.cell? ⟨W.heap.size, 3, none⟩ = some (.int .u64 z) ∧ gx < w6.heap.size ∧ W.heap.size < w6.heap.size from ⟨(hp.cell ⟨W.heap.size, 2, none⟩ HNX.out hS0.2.2.2).trans hS0.1, (hp.cell ⟨W.heap.size, 3, none⟩ HNX.out hS0.2.2.2).trans hS0.2.1, Nat.lt_of_lt_of_le hS0.2.2.1 hp.size, Nat.lt_of_lt_of_le hS0.2.2.2 hp.size⟩)
    clear hp hS0
    rcases hor with ⟨h0, rfl, hw⟩ | ⟨h0, rfl⟩
    case inr =>
      have HRR := hide (show Except.error (gvE m.sl [(s, z)]) = r from by rw [← HR.out, if_neg h0])
      clear h0
      exact ⟨by first | rfl | assumption | trivial, HP6.out, .inr ⟨_, HRR.out.symm, rfl⟩⟩
    have HRR := hide (show Except.ok (⟨gvA m.sl [(s, z)], m.pin, m.has, m.bad⟩, tk) = r from by rw [← HR.out, if_pos h0])
    have HW := hide hw
    clear hw h0
    refine hK3.out _ _ (hS6) (fun _ => ?_)
    clear hK3 K3
    (try simp only [Act.put, List.getElem_toArray, List.getElem_cons_succ, List.getElem_cons_zero, List.setIfInBounds_toArray, List.set_cons_zero, List.set_cons_succ])
    refine wpAnyH_done (by kernel_rfl) ?_ _
    go_wp2_with fail
    go_end0
    exact ⟨HP6.out, .inl ⟨_, _, HRR.out.symm, rfl, ⟨_, _, _, _, _, _, _, _, _, _, _, _, _, _, _, _, HW.out, HN2.out⟩⟩⟩
  · go_simp
    refine hK0.out _ _ ((HSX.out _ HAL.out).2) (fun _ => ?_)
    clear hK0 K0
    (try simp only [Act.put, List.getElem_toArray, List.getElem_cons_succ, List.getElem_cons_zero, List.setIfInBounds_toArray, List.set_cons_zero, List.set_cons_succ])
    clear hS0
    have hS0 := (HSX.out _ HAL.out).2
    have x0 := (HSX.out _ HAL.out).1
    refine wpAnyH_ready (rs := [5]) (by kernel_rfl) (by simp) ?_
    refine (AllReadyH.cons rfl (fun K4 hK4 => ?_) AllReadyH.nil)
    obtain ⟨kf0, kf1, kf2, kf3⟩ := hS0
    go_simp
    refine hK4.out _ _ ((HSX.out _ HAL.out).2) (fun _ => ?_)
    clear hK4 K4
    (try simp only [Act.put, List.getElem_toArray, List.getElem_cons_succ, List.getElem_cons_zero, List.setIfInBounds_toArray, List.set_cons_zero, List.set_cons_succ])
    clear x0 kf0 kf1 kf2 kf3
    have hS0 := (HSX.out _ HAL.out).2
    generalize (w1.alloc (.cells #[.int .i64 s, .int .u64 z] 43)).drew = w4 at *
    refine wpAnyH_ready (rs := [9]) (by kernel_rfl) (by simp) ?_
    refine (AllReadyH.cons rfl (fun K5 hK5 => ?_) AllReadyH.nil)
    go_simp
    refine (give_any a0 c0 n0 (some ⟨w1.heap.size, 0, none⟩) 1 1 m.sl [(s, z)] w4 H4.out.sl.rd H4.out.sl.len HS.out.s0 HSRC.out rfl (by omega) (by intro e he; rw [List.mem_singleton] at he; subst he; exact HZ.out)).mono ?_
    rintro e w5 ⟨A5, n5, c5, rfl, hnc5, hout5, hb5⟩
    have H5 := hide (H4.out.below hb5)
    have HSL := hide (SlAt.of_out hout5 (Nat.le_trans HBW.out HAL.out.size))
    have HX5 := hide (HAL.out.trans (hb5.mono HAL.out.size))
    clear hS0
    have hS0 := (HSX.out _ HX5.out).2
    have HBX := hide (HB.out.trans (HX5.out.mono HB.out.size))
    clear hout5 hb5 hnc5
    refine hK5.out _ _ (hS0) (fun _ => ?_)
    clear hK5 K5
    (try simp only [Act.put, List.getElem_toArray, List.getElem_cons_succ, List.getElem_cons_zero, List.setIfInBounds_toArray, List.set_cons_zero, List.set_cons_succ])
    (refine wpAnyH_take (i := 10) (v := ?_) rfl (by kernel_rfl) (by kernel_rfl) (by kernel_rfl) (fun _ _ _ h => h) (Or.inl ⟨by rfl, ?_⟩) (by assumption) ?_; rotate_left; (focus (intro w hSw; (try dsimp only at hSw); obtain ⟨kf0, kf1, kf2, kf3⟩ := hSw; go_simp; first | done | with_reducible rfl)); (try simp only [Act.put, List.getElem_toArray, List.getElem_cons_succ, List.getElem_cons_zero, List.setIfInBounds_toArray, List.set_cons_zero, List.set_cons_succ]))
    (refine wpAnyH_take (i := 11) (v := ?_) rfl (by kernel_rfl) (by kernel_rfl) (by kernel_rfl) (fun _ _ _ h => h) (Or.inl ⟨by rfl, ?_⟩) (by assumption) ?_; rotate_left; (focus (intro w hSw; (try dsimp only at hSw); obtain ⟨kf0, kf1, kf2, kf3⟩ := hSw; go_simp; first | done | with_reducible rfl)); (try simp only [Act.put, List.getElem_toArray, List.getElem_cons_succ, List.getElem_cons_zero, List.setIfInBounds_toArray, List.set_cons_zero, List.set_cons_succ]))
    refine wpAnyH_ready (rs := [12]) (by kernel_rfl) (by simp) ?_
    refine (AllReadyH.cons rfl (fun K6 hK6 => ?_) AllReadyH.nil)
    go_simp
    refine (slabsF_any gx base _ _ _ _ _ _ _ _ _ _ _ _ _ _ _ ts m tk A5 n5 c5 _ (gvE m.sl [(s, z)]) w5 H5.out HSL.out).mono ?_
    rintro e w6 ⟨hp, hor⟩
    have HP6 := hide ((PastB.of_below (n := base) (kl := gx) HBX.out).trans (PastB.of_past (n := base) hp))
    have HN2 := hide HS.out.s2
    have hS6 := (show w6.cell? ⟨W.heap.size, 2, none⟩ = some (.int .i64 s) ∧ w6.cell? ⟨W.heap.size, 3, none⟩ = some (.int .u64 z) ∧ gx < w6.heap.size ∧ W.heap.size < w6.heap.size from ⟨(hp.cell ⟨W.heap.size, 2, none⟩ HNX.out hS0.2.2.2).trans hS0.1, (hp.cell ⟨W.heap.size, 3, none⟩ HNX.out hS0.2.2.2).trans hS0.2.1, Nat.lt_of_lt_of_le hS0.2.2.1 hp.size, Nat.lt_of_lt_of_le hS0.2.2.2 hp.size⟩)
    clear hp hS0
    rcases hor with ⟨h0, rfl, hw⟩ | ⟨h0, rfl⟩
    case inr =>
      have HRR := hide (show Except.error (gvE m.sl [(s, z)]) = r from by rw [← HR.out, if_neg h0])
      clear h0
      exact ⟨by first | rfl | assumption | trivial, HP6.out, .inr ⟨_, HRR.out.symm, rfl⟩⟩
    have HRR := hide (show Except.ok (⟨gvA m.sl [(s, z)], m.pin, m.has, m.bad⟩, tk) = r from by rw [← HR.out, if_pos h0])
    have HW := hide hw
    clear hw h0
    refine hK6.out _ _ (hS6) (fun _ => ?_)
    clear hK6 K6
    (try simp only [Act.put, List.getElem_toArray, List.getElem_cons_succ, List.getElem_cons_zero, List.setIfInBounds_toArray, List.set_cons_zero, List.set_cons_succ])
    refine wpAnyH_done (by kernel_rfl) ?_ _
    go_wp2_with fail
    go_end0
    exact ⟨HP6.out, .inl ⟨_, _, HRR.out.symm, rfl, ⟨_, _, _, _, _, _, _, _, _, _, _, _, _, _, _, _, HW.out, HN2.out⟩⟩⟩
end Go.Proofs.Ytfpbabafeecncaa

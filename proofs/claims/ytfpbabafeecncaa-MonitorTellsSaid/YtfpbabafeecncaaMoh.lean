/-
  The steps of a monitor that changes: pinned, pin, unpin, slabs.
-/
import Derived.Test.YtfpbabafeecncaaMog
set_option linter.unusedSimpArgs false
set_option linter.unusedVariables false
namespace Go.Proofs.Ytfpbabafeecncaa
open Go Go.RowKit
attribute [local go_sem] via_cell via_frozen

def WEx (w : World) (gx base : Nat) (m : Mon) (tk : List Ent) : Prop := ∃ a0 a1 a2 a3 a4 n0 n1 n2 n3 n4 c0 c1 c2 c3 c4 ts, WAt w gx base a0 a1 a2 a3 a4 n0 n1 n2 n3 n4 c0 c1 c2 c3 c4 ts m tk ∧ n2 ≤ 4096
def DeedRes (gx base : Nat) (r : Except Int (Mon × List Ent)) (W : World) (e : Ending) (W' : World) : Prop :=
  PastB base gx W W' ∧ ((∃ m' tk', r = .ok (m', tk') ∧ e = .returned (.tuple #[]) ∧ WEx W' gx base m' tk') ∨ (∃ k, r = .error k ∧ e = .panicked (errX k)))
theorem DeedRes.first {gx base : Nat} {r : Except Int (Mon × List Ent)} {W W1 W' : World} {e : Ending} (hp : PastB base gx W W1) (h : DeedRes gx base r W1 e W') : DeedRes gx base r W e W' := ⟨hp.trans h.1, h.2⟩
def PinRes (p : Bool) (W : World) (e : Ending) (W' : World) : Prop := ((p = true ∧ e = .returned (.tuple #[])) ∨ (p = false ∧ e = .panicked (errX 4))) ∧ Below W.heap.size W W'
theorem WAt.pinBlk {w : World} {gx base : Nat} {a0 a1 a2 a3 a4 : Option Addr} {n0 n1 n2 n3 n4 c0 c1 c2 c3 c4 : Nat} {ts : List Hm} {m : Mon} {tk : List Ent} (h : WAt w gx base a0 a1 a2 a3 a4 n0 n1 n2 n3 n4 c0 c1 c2 c3 c4 ts m tk) (h0 : 0 < n1) : ∃ gp, a1 = some ⟨gp, 0, none⟩ ∧ base ≤ gp ∧ gp < w.heap.size ∧ (∀ i, w.frozen? ⟨gp, i, none⟩ = false) := by
  rcases h.pin.2 with ⟨_, h1⟩ | ⟨g, cap, cur, hv, hb, hh, _⟩
  · omega
  · injection hv with e1
    have hr : RowAt w g 4 cur := hh
    exact ⟨g, e1, hb, hr.lt, fun i => hr.frozen i⟩
theorem WAt.hasBlk {w : World} {gx base : Nat} {a0 a1 a2 a3 a4 : Option Addr} {n0 n1 n2 n3 n4 c0 c1 c2 c3 c4 : Nat} {ts : List Hm} {m : Mon} {tk : List Ent} (h : WAt w gx base a0 a1 a2 a3 a4 n0 n1 n2 n3 n4 c0 c1 c2 c3 c4 ts m tk) (h0 : 0 < n2) : ∃ gh, a2 = some ⟨gh, 0, none⟩ ∧ base ≤ gh ∧ gh < w.heap.size ∧ (∀ i, w.frozen? ⟨gh, i, none⟩ = false) ∧ ∃ cs, RowAt w gh 54 cs := by
  rcases h.has.2 with ⟨_, h1⟩ | ⟨g, cap, cur, hv, hb, hh, _⟩
  · omega
  · injection hv with e1
    have hr : RowAt w g 54 cur := hh
    exact ⟨g, e1, hb, hr.lt, fun i => hr.frozen i, cur, hr⟩
theorem WAt.pinCell {w : World} {gx base gp : Nat} {a0 a2 a3 a4 : Option Addr} {n0 n1 n2 n3 n4 c0 c1 c2 c3 c4 : Nat} {ts : List Hm} {m : Mon} {tk : List Ent} (h : WAt w gx base a0 (some ⟨gp, 0, none⟩) a2 a3 a4 n0 n1 n2 n3 n4 c0 c1 c2 c3 c4 ts m tk) {g : Nat} (hg : g < n1) : w.cell? ⟨gp, g, none⟩ = some (.bool (pinM m g)) := by
  obtain ⟨b, o, e, _, hc⟩ := h.mon.pin.boolAt h.mon.l1 hg
  injection e with e
  injection e with e1 e2
  subst e1
  subst e2
  rw [Nat.zero_add] at hc
  exact hc
theorem WAt.hasCell {w : World} {gx base gh : Nat} {a0 a1 a3 a4 : Option Addr} {n0 n1 n2 n3 n4 c0 c1 c2 c3 c4 : Nat} {ts : List Hm} {m : Mon} {tk : List Ent} (h : WAt w gx base a0 a1 (some ⟨gh, 0, none⟩) a3 a4 n0 n1 n2 n3 n4 c0 c1 c2 c3 c4 ts m tk) {g : Nat} (hg : g < n2) : w.cell? ⟨gh, g, none⟩ = some (.slice (ts.getD g hmZ).A (ts.getD g hmZ).q.length (ts.getD g hmZ).c) := by
  obtain ⟨b, o, e, _, hc, _⟩ := h.mon.has.at_ hg
  injection e with e
  injection e with e1 e2
  subst e1
  subst e2
  rw [Nat.zero_add] at hc
  exact hc
set_option maxRecDepth 20000 in
set_option maxHeartbeats 1000000 in
theorem pinned_any (gx base : Nat) (a0 a1 a2 a3 a4 : Option Addr) (n0 n1 n2 n3 n4 c0 c1 c2 c3 c4 : Nat) (ts : List Hm) (m : Mon) (tk : List Ent) (k s z : Int) (g : Nat) (W : World) (h : WAt W gx base a0 a1 a2 a3 a4 n0 n1 n2 n3 n4 c0 c1 c2 c3 c4 ts m tk) (hg : g < n1) (p : Bool) (hp : pinM m g = p) :
    Calls Try.prog 81 #[.pointer (some ⟨gx, 0, none⟩), .agg #[.int .i64 k, .int .i64 (g : Int), .int .i64 s, .int .u64 z]] W (PinRes p W) := by
  have hbx : Below W.heap.size W (W.alloc (.cells #[.int .i64 k, .int .i64 (g : Int), .int .i64 s, .int .u64 z] 45)) := (Below.refl _ _).alloc (Nat.le_refl _) _
  have H := hide (h.below hbx)
  have RX := hide (RowAt.new W 45 #[.int .i64 k, .int .i64 (g : Int), .int .i64 s, .int .u64 z])
  have HB := hide hbx
  have hgI : (g : Int) < (n1 : Int) := by omega
  obtain ⟨gp, rfl, _, hl, _⟩ := h.pinBlk (by omega)
  have d0 := H.out.pinCell hg
  rw [hp] at d0
  have dl := Nat.lt_of_lt_of_le hl HB.out.size
  obtain ⟨x0, x1, x2, x3, x4⟩ := row5 H.out.row
  have xl := H.out.row.lt
  obtain ⟨y0, y1, y2, y3⟩ := row4 RX.out
  have yl := RX.out.lt
  clear h hbx hp hl
  go_enter Try.func81, Try.ntmps81
  go_wp2_with fail
  generalize W.alloc (.cells #[.int .i64 k, .int .i64 (g : Int), .int .i64 s, .int .u64 z] 45) = w1 at *
  refine wp_region_tail 9 (by kernel_rfl) (by kernel_rfl) ?_
  simp only [List.take_succ_cons, List.take_zero, List.drop_succ_cons, List.drop_zero]
  repeat (go_big_quiet_step (fail))
  refine tail_out fun w2 hb2 => ?_
  have HB2 := hide (HB.out.trans (hb2.mono HB.out.size))
  clear hb2 x0 x1 x2 x3 x4 y0 y1 y2 y3 d0
  cases p
  · go_wp2_with fail
    refine (mneed_no 4 _).mono ?_
    rintro e w3 ⟨rfl, rfl⟩
    go_wp2_with fail
    exact ⟨rfl, .inr ⟨rfl, rfl⟩, HB2.out⟩
  · go_wp2_with fail
    refine (mneed_ok 4 _).mono ?_
    rintro e w3 ⟨rfl, rfl⟩
    go_wp2_with fail
    go_end0
    exact ⟨.inl ⟨rfl, rfl⟩, HB2.out⟩
set_option maxRecDepth 20000 in
set_option maxHeartbeats 1000000 in
theorem pin_any (gx base : Nat) (a0 a1 a2 a3 a4 : Option Addr) (n0 n1 n2 n3 n4 c0 c1 c2 c3 c4 : Nat) (ts : List Hm) (m : Mon) (tk : List Ent) (k s z : Int) (g : Nat) (W : World) (h : WAt W gx base a0 a1 a2 a3 a4 n0 n1 n2 n3 n4 c0 c1 c2 c3 c4 ts m tk) (hn2 : n2 ≤ 4096) (hg : g < n1) (r : Except Int (Mon × List Ent)) (hr : (if pinM m g then .error 5 else .ok (⟨m.sl, m.pin.set g true, m.has, m.bad⟩, tk)) = r) :
    Calls Try.prog 69 #[.pointer (some ⟨gx, 0, none⟩), .agg #[.int .i64 k, .int .i64 (g : Int), .int .i64 s, .int .u64 z]] W (DeedRes gx base r W) := by
  have hbx : Below W.heap.size W (W.alloc (.cells #[.int .i64 k, .int .i64 (g : Int), .int .i64 s, .int .u64 z] 45)) := (Below.refl _ _).alloc (Nat.le_refl _) _
  have H := hide (h.below hbx)
  have RX := hide (RowAt.new W 45 #[.int .i64 k, .int .i64 (g : Int), .int .i64 s, .int .u64 z])
  have HB := hide hbx
  have hgI : (g : Int) < (n1 : Int) := by omega
  obtain ⟨gp, rfl, hge, hl, hfz⟩ := h.pinBlk (by omega)
  obtain ⟨p, hp⟩ : ∃ p, pinM m g = p := ⟨_, rfl⟩
  have d0 := H.out.pinCell hg
  rw [hp] at d0
  rw [hp] at hr
  have HR := hide hr
  clear hr
  have dl := Nat.lt_of_lt_of_le hl HB.out.size
  obtain ⟨x0, x1, x2, x3, x4⟩ := row5 H.out.row
  have xl := H.out.row.lt
  obtain ⟨y0, y1, y2, y3⟩ := row4 RX.out
  have yl := RX.out.lt
  have HGE := hide hge
  clear h hbx hp hl hge hfz
  go_enter Try.func69, Try.ntmps69
  go_wp2_with fail
  generalize W.alloc (.cells #[.int .i64 k, .int .i64 (g : Int), .int .i64 s, .int .u64 z] 45) = w1 at *
  refine wp_region_tail 10 (by kernel_rfl) (by kernel_rfl) ?_
  simp only [List.take_succ_cons, List.take_zero, List.drop_succ_cons, List.drop_zero]
  repeat (go_big_quiet_step (fail))
  refine tail_out fun w2 hb2 => ?_
  replace H := hide (H.out.below hb2)
  replace RX := hide (RX.out.below hb2)
  replace HB := hide (HB.out.trans (hb2.mono HB.out.size))
  have dl := Nat.lt_of_lt_of_le dl hb2.size
  clear hb2 x0 x1 x2 x3 x4 xl y0 y1 y2 y3 yl d0
  cases p
  · go_wp2_with fail
    refine (mneed_ok 5 _).mono ?_
    rintro e w3 ⟨rfl, rfl⟩
    obtain ⟨x0, x1, x2, x3, x4⟩ := row5 H.out.row
    have xl := H.out.row.lt
    obtain ⟨y0, y1, y2, y3⟩ := row4 RX.out
    have yl := RX.out.lt
    go_wp2_with fail
    refine wp_region_tail 8 (by kernel_rfl) (by kernel_rfl) ?_
    simp only [List.take_succ_cons, List.take_zero, List.drop_succ_cons, List.drop_zero]
    repeat (go_big_quiet_step (fail))
    refine tail_out fun w3 hb3 => ?_
    replace H := hide (H.out.below hb3)
    replace HB := hide (HB.out.trans (hb3.mono HB.out.size))
    clear x0 x1 x2 x3 x4 xl y0 y1 y2 y3 yl hb3
    have d0 := H.out.pinCell hg
    obtain ⟨gp2, e2, _, dl2, hfz⟩ := H.out.pinBlk (by omega)
    injection e2 with e2
    injection e2 with e2
    subst e2
    have df := hfz g
    have HN := hide (H.out.setPin hg true)
    have HP := hide ((PastB.of_below (n := base) (kl := gx) HB.out).trans (PastB.set (g := gp) (i := g) (v := .bool true) (.inl HGE.out)))
    clear hfz
    go_wp2_with fail
    go_end0
    exact ⟨HP.out, .inl ⟨_, _, HR.out.symm, rfl, ⟨_, _, _, _, _, _, _, _, _, _, _, _, _, _, _, _, HN.out, hn2⟩⟩⟩
  · go_wp2_with fail
    refine (mneed_no 5 _).mono ?_
    rintro e w3 ⟨rfl, rfl⟩
    have HP := hide (PastB.of_below (n := base) (kl := gx) HB.out)
    go_wp2_with fail
    exact ⟨rfl, HP.out, .inr ⟨5, HR.out.symm, rfl⟩⟩
set_option maxRecDepth 20000 in
set_option maxHeartbeats 2000000 in
theorem unpin_any (gx base : Nat) (a0 a1 a2 a3 a4 : Option Addr) (n0 n1 n2 n3 n4 c0 c1 c2 c3 c4 : Nat) (ts : List Hm) (m : Mon) (tk : List Ent) (k s z : Int) (g : Nat) (W : World) (h : WAt W gx base a0 a1 a2 a3 a4 n0 n1 n2 n3 n4 c0 c1 c2 c3 c4 ts m tk) (hn2 : n2 ≤ 4096) (hg : g < n1) (hg2 : g < n2) (r : Except Int (Mon × List Ent)) (hr : (if pinM m g then .ok (⟨m.sl, m.pin.set g false, m.has.set g [], m.bad⟩, tk) else .error 4) = r) :
    Calls Try.prog 70 #[.pointer (some ⟨gx, 0, none⟩), .agg #[.int .i64 k, .int .i64 (g : Int), .int .i64 s, .int .u64 z]] W (DeedRes gx base r W) := by
  have hbx : Below W.heap.size W (W.alloc (.cells #[.int .i64 k, .int .i64 (g : Int), .int .i64 s, .int .u64 z] 45)) := (Below.refl _ _).alloc (Nat.le_refl _) _
  have H := hide (h.below hbx)
  have RX := hide (RowAt.new W 45 #[.int .i64 k, .int .i64 (g : Int), .int .i64 s, .int .u64 z])
  have HB := hide hbx
  have hgI : (g : Int) < (n1 : Int) := by omega
  obtain ⟨gp, rfl, hge, hl, _⟩ := h.pinBlk (by omega)
  obtain ⟨gh, rfl, hge2, hl2, _, _⟩ := h.hasBlk (by omega)
  obtain ⟨p, hp⟩ : ∃ p, pinM m g = p := ⟨_, rfl⟩
  rw [hp] at hr
  have HR := hide hr
  clear hr
  have HC := hide (pinned_any gx base _ _ _ _ _ _ _ _ _ _ _ _ _ _ _ ts m tk k s z g _ H.out hg p hp)
  obtain ⟨y0, y1, y2, y3⟩ := row4 RX.out
  have yl := RX.out.lt
  have HGE := hide hge
  have HGE2 := hide hge2
  have HLT := hide hl
  have HLT2 := hide hl2
  clear h hbx hp hl hge hge2 hl2
  go_enter Try.func70, Try.ntmps70
  go_wp2_with fail
  generalize W.alloc (.cells #[.int .i64 k, .int .i64 (g : Int), .int .i64 s, .int .u64 z] 45) = w1 at *
  with_reducible refine HC.out.mono ?_
  rintro e w2 ⟨hor, hb2⟩
  replace H := hide (H.out.below hb2)
  replace RX := hide (RX.out.below hb2)
  replace HB := hide (HB.out.trans (hb2.mono HB.out.size))
  clear hb2 y0 y1 y2 y3 yl HC
  rcases hor with ⟨rfl, rfl⟩ | ⟨rfl, rfl⟩
  · obtain ⟨x0, x1, x2, x3, x4⟩ := row5 H.out.row
    have xl := H.out.row.lt
    obtain ⟨y0, y1, y2, y3⟩ := row4 RX.out
    have yl := RX.out.lt
    have d0 := H.out.pinCell hg
    have q0 := H.out.hasCell hg2
    obtain ⟨gp2, e2, _, dl, hfz⟩ := H.out.pinBlk (by omega)
    injection e2 with e2
    injection e2 with e2
    subst e2
    obtain ⟨gh2, e2, _, ql, hfz2, csh, hrh⟩ := H.out.hasBlk (by omega)
    injection e2 with e2
    injection e2 with e2
    subst e2
    have df := hfz g
    have qf := hfz2 g
    have hgI2 : (g : Int) < (n2 : Int) := by omega
    have hne : gp ≠ gh := by
      rintro rfl
      obtain ⟨_, cs, hr⟩ := own_typ H.out.pin (g := gp) rfl
      exact absurd (row_typ hr hrh) (by decide)
    have HN1 := hide (H.out.setPin hg false)
    have HN := hide (HN1.out.setHas (k := g) hg2 hmZ (World.ownsRow_nil _ _ _ _) (fun j _ _ p q hp _ => by cases hp) (fun p q hp _ => by cases hp) (n := 0) (c := 0) rfl rfl)
    have HP := hide (((PastB.of_below (n := base) (kl := gx) HB.out).trans (PastB.set (g := gp) (i := g) (v := .bool false) (.inl HGE.out))).trans (PastB.set (g := gh) (i := g) (v := .slice none 0 0) (.inl HGE2.out)))
    have hne2 : ¬ gh = gp := fun e => hne e.symm
    have hne3 : ¬ gx = gp := fun e => H.out.nx H.out.pin (by decide) (by rw [e]; rfl)
    have hne4 : ¬ gx = gh := fun e => H.out.nx H.out.has (by decide) (by rw [e]; rfl)
    have hne5 : ¬ W.heap.size = gp := by have := HLT.out; omega
    have hne6 : ¬ W.heap.size = gh := by have := HLT2.out; omega
    clear hfz hfz2 hrh HN1
    go_wp2_with fail
    go_region
    go_end0
    exact ⟨HP.out.trans (PastB.of_below (Below.refl _ _).drew), .inl ⟨_, _, HR.out.symm, rfl, ⟨_, _, _, _, _, _, _, _, _, _, _, _, _, _, _, _, HN.out.below (Below.refl _ _).drew, hn2⟩⟩⟩
  · have HP := hide (PastB.of_below (n := base) (kl := gx) HB.out)
    go_wp2_with fail
    exact ⟨rfl, HP.out, .inr ⟨4, HR.out.symm, rfl⟩⟩
set_option maxRecDepth 20000 in
set_option maxHeartbeats 1000000 in
theorem slabs_any (gx base : Nat) (a0 a1 a2 a3 a4 : Option Addr) (n0 n1 n2 n3 n4 c0 c1 c2 c3 c4 : Nat) (ts : List Hm) (m : Mon) (tk : List Ent) (A : Option Addr) (n c : Nat) (ys : List Ent) (E : Int) (W : World) (h : WAt W gx base a0 a1 a2 a3 a4 n0 n1 n2 n3 n4 c0 c1 c2 c3 c4 ts m tk) (hn2 : n2 ≤ 4096) (hs : SlAt W base A n ys) (hbw : base ≤ W.heap.size) (r : Except Int (Mon × List Ent)) (hr : (if E = 0 then .ok (⟨ys, m.pin, m.has, m.bad⟩, tk) else .error E) = r) :
    Calls Try.prog 83 #[.pointer (some ⟨gx, 0, none⟩), .agg #[.slice A n c], .int .i64 E] W (DeedRes gx base r W) := by
  have hbx : Below W.heap.size W (W.alloc (.cells #[.slice A n c] 27)) := (Below.refl _ _).alloc (Nat.le_refl _) _
  have H := hide (h.below hbx)
  have RX := hide (RowAt.new W 27 #[.slice A n c])
  have HS := hide (hs.kept hbx.size (fun g _ hr => hbx.block g hr.lt))
  have HB := hide hbx
  have HW := hide (show gx ≠ W.heap.size from by have := h.row.lt; omega)
  clear h hbx hs
  by_cases he : E = 0
  · have hd : (E == 0) = true := by simpa using he
    have HR := hide (show Except.ok (⟨ys, m.pin, m.has, m.bad⟩, tk) = r from by rw [← hr, if_pos he])
    clear hr he
    have y0 := row1 RX.out
    have yl := RX.out.lt
    go_enter Try.func83, Try.ntmps83
    go_wp2_with fail
    generalize W.alloc (.cells #[.slice A n c] 27) = w1 at *
    refine (mneed_ok E _).mono ?_
    rintro e w3 ⟨rfl, rfl⟩
    obtain ⟨x0, x1, x2, x3, x4⟩ := row5 H.out.row
    have xl := H.out.row.lt
    have xf := H.out.row.frozen 0
    have HN := hide (H.out.setSl (c := c) HS.out)
    have HP := hide ((PastB.of_below (n := base) (kl := gx) HB.out).trans (PastB.set (g := gx) (i := 0) (v := .slice A n c) (.inr rfl)))
    go_wp2_with fail
    go_end0
    exact ⟨HP.out, .inl ⟨_, _, HR.out.symm, rfl, ⟨_, _, _, _, _, _, _, _, _, _, _, _, _, _, _, _, HN.out, hn2⟩⟩⟩
  · have hd : (E == 0) = false := by simpa using he
    have HR := hide (show Except.error E = r from by rw [← hr, if_neg he])
    clear hr he
    have HP := hide (PastB.of_below (n := base) (kl := gx) HB.out)
    go_enter Try.func83, Try.ntmps83
    go_wp2_with fail
    refine (mneed_no E _).mono ?_
    rintro e w3 ⟨rfl, rfl⟩
    go_wp2_with fail
    exact ⟨rfl, HP.out, .inr ⟨E, HR.out.symm, rfl⟩⟩
end Go.Proofs.Ytfpbabafeecncaa

/-
  Asked for, and left: mutexes that may be, in memory of their own.
-/
import Derived.Test.YtlelpnahillioaaMuk
set_option linter.unusedSimpArgs false
set_option linter.unusedVariables false
namespace Go.Proofs.Ytlelpnahillioaa
open Go Go.RowKit
attribute [local go_sem] via_cell via_frozen

def outL {β : Type} : Except Int (Ml × β) → Ml
  | .ok x => x.1
  | .error _ => []
def outE {β : Type} : Except Int (Ml × β) → Int
  | .ok _ => 0
  | .error k => k
def outV {β : Type} (d : β) : Except Int (Ml × β) → β
  | .ok x => x.2
  | .error _ => d
def askF (l : Ml) (w g : Int) : Except Int (Ml × Bool) := if rightM l then askX l w g else .error 150
def leaveF (l : Ml) (w g : Int) : Except Int (Ml × Int) := if rightM l then leaveX l w g else .error 150
/-- What comes out: mutexes in memory of their own, a word more, the error. -/
def OutRes (W : World) {β : Type} (r : Except Int (Ml × β)) (vv : Value) (e : Ending) (W' : World) : Prop :=
  ∃ A m c ts, e = .returned (.tuple #[.slice A m c, vv, .int .i64 (outE r)]) ∧ mus ts = outL r ∧ ts.length = m ∧ MadeM W.heap.size W' (.slice A m c) ts
theorem below_pastB {W w3 W' : World} {kl : Nat} (hb : Below W.heap.size W w3) (h : PastB w3.heap.size kl w3 W') (hk : W.heap.size ≤ kl) : Below W.heap.size W W' :=
  ⟨h.os.trans hb.os, h.tape.trans hb.tape, h.output.trans hb.output, Nat.le_trans hb.size h.size, fun j hj => (h.block j (Nat.lt_of_lt_of_le hj hb.size) (by omega) (Nat.lt_of_lt_of_le hj hb.size)).trans (hb.block j hj)⟩
set_option maxHeartbeats 1000000 in
theorem ask1_any (kl gh gl m c gw gg : Nat) (ts : List Mm) (g0 wh0 nx wv gv : Int) (got : Bool) (W : World) (h : HAt W gh gl m c ts g0 wh0 nx got) (hr : RightM (mus ts)) (hw : RowAt W gw 3 #[.int .i64 wv]) (hg : RowAt W gg 3 #[.int .i64 gv]) (hw1 : gw < gh) (hg1 : gg < gh) :
    Calls Try.prog 35 #[.pointer (some ⟨gh, 0, none⟩), .pointer (some ⟨gw, 0, none⟩), .pointer (some ⟨gg, 0, none⟩)] W (DoesRes kl gh gl m c (fun l b _ _ => askX (mus ts) wv gv = .ok (l, b)) (fun k => askX (mus ts) wv gv = .error k) W) := by
  have H1 := hide ((h.setWh wv).setGoer gv)
  have HB1 := hide (show Below gh W ((W.setCell ⟨gh, 2, none⟩ (.int .i64 wv)).setCell ⟨gh, 1, none⟩ (.int .i64 gv)) from ((Below.refl _ _).setCell (p := ⟨gh, 2, none⟩) (Nat.le_refl _) _).setCell (p := ⟨gh, 1, none⟩) (Nat.le_refl _) _)
  have HC := hide (ask_any gh gl m c ts gv wv nx got _ H1.out hr)
  have a0 := row1 hw
  have a1 := row1 hg
  have al := hw.lt
  have bl := hg.lt
  have q1 := row51 h.box
  have q2 := row52 h.box
  have ql := h.box.lt
  have f1 := h.box.frozen 1
  have f2 := h.box.frozen 2
  clear h hr hw hg H1
  go_enter Try.func35, Try.ntmps35
  go_wp2_with fail
  with_reducible refine HC.out.mono ?_
  rintro e w2 ⟨hb, hres⟩
  have HP := hide (PastB.of_below (kl := kl) (HB1.out.trans hb) (Nat.le_refl gh))
  clear hb
  rcases hres with ⟨ts2, got2, rfl, hx, hat⟩ | ⟨k, rfl, hx⟩
  · have HX := hide hx
    have HAT := hide hat
    clear hx hat
    go_wp2_with fail
    go_end0
    exact ⟨HP.out, .inl ⟨rfl, ts2, _, _, _, _, HAT.out, HX.out⟩⟩
  · have HX := hide hx
    clear hx
    go_wp2_with fail
    exact ⟨rfl, HP.out, .inr ⟨k, rfl, HX.out⟩⟩
set_option maxHeartbeats 1000000 in
theorem leave1_any (kl gh gl m c gw gg : Nat) (ts : List Mm) (g0 wh0 nx wv gv : Int) (got : Bool) (W : World) (h : HAt W gh gl m c ts g0 wh0 nx got) (hr : RightM (mus ts)) (hw : RowAt W gw 3 #[.int .i64 wv]) (hg : RowAt W gg 3 #[.int .i64 gv]) (hw1 : gw < gh) (hg1 : gg < gh) :
    Calls Try.prog 37 #[.pointer (some ⟨gh, 0, none⟩), .pointer (some ⟨gw, 0, none⟩), .pointer (some ⟨gg, 0, none⟩)] W (DoesRes kl gh gl m c (fun l _ n _ => leaveX (mus ts) wv gv = .ok (l, n)) (fun k => leaveX (mus ts) wv gv = .error k) W) := by
  have H1 := hide ((h.setWh wv).setGoer gv)
  have HB1 := hide (show Below gh W ((W.setCell ⟨gh, 2, none⟩ (.int .i64 wv)).setCell ⟨gh, 1, none⟩ (.int .i64 gv)) from ((Below.refl _ _).setCell (p := ⟨gh, 2, none⟩) (Nat.le_refl _) _).setCell (p := ⟨gh, 1, none⟩) (Nat.le_refl _) _)
  have HC := hide (leave_any gh gl m c ts gv wv nx got _ H1.out hr)
  have a0 := row1 hw
  have a1 := row1 hg
  have al := hw.lt
  have bl := hg.lt
  have q1 := row51 h.box
  have q2 := row52 h.box
  have ql := h.box.lt
  have f1 := h.box.frozen 1
  have f2 := h.box.frozen 2
  clear h hr hw hg H1
  go_enter Try.func37, Try.ntmps37
  go_wp2_with fail
  with_reducible refine HC.out.mono ?_
  rintro e w2 ⟨hb, hres⟩
  have HP := hide (PastB.of_below (kl := kl) (HB1.out.trans hb) (Nat.le_refl gh))
  clear hb
  rcases hres with ⟨ts2, nx2, rfl, hx, hat⟩ | ⟨k, rfl, hx⟩
  · have HX := hide hx
    have HAT := hide hat
    clear hx hat
    go_wp2_with fail
    go_end0
    exact ⟨HP.out, .inl ⟨rfl, ts2, _, _, _, _, HAT.out, HX.out⟩⟩
  · have HX := hide hx
    clear hx
    go_wp2_with fail
    exact ⟨rfl, HP.out, .inr ⟨k, rfl, HX.out⟩⟩
set_option maxHeartbeats 2000000 in
theorem Ask_any (A : Option Addr) (c m : Nat) (ts : List Mm) (wv gv : Int) (W : World) (h : RM W W.heap.size A m ts) (hs : SmallM ts) :
    Calls Try.prog 12 #[.slice A m c, .int .i64 wv, .int .i64 gv] W fun e W' => OutRes W (askF (mus ts) wv gv) (.bool (outV false (askF (mus ts) wv gv))) e W' ∧ Below W.heap.size W W' := by
  obtain ⟨w1, hw1⟩ : ∃ w1, W.alloc (.cells #[.int .i64 wv] 3) = w1 := ⟨_, rfl⟩
  obtain ⟨w2, hw2⟩ : ∃ w2, w1.alloc (.cells #[.int .i64 gv] 3) = w2 := ⟨_, rfl⟩
  have s1 : w1.heap.size = W.heap.size + 1 := by rw [← hw1]; simp
  have s2 : w2.heap.size = W.heap.size + 1 + 1 := by rw [← hw2]; simp [s1]
  have b1 : Below W.heap.size W w1 := by rw [← hw1]; exact (Below.refl _ _).alloc (Nat.le_refl _) _
  have b2 : Below w1.heap.size w1 w2 := by rw [← hw2]; exact (Below.refl _ _).alloc (Nat.le_refl _) _
  have r1 : RowAt w2 W.heap.size 3 #[.int .i64 wv] := by have h := RowAt.new W 3 #[.int .i64 wv]; rw [hw1] at h; exact h.below b2
  have r2 : RowAt w2 (W.heap.size + 1) 3 #[.int .i64 gv] := by have h := RowAt.new w1 3 #[.int .i64 gv]; rw [hw2, s1] at h; exact h
  have HB := hide (b1.trans (b2.mono b1.size))
  have R1 := hide r1
  have R2 := hide r2
  have S2 := hide s2
  have HRM := hide ((h.below HB.out).more HB.out.size)
  have HS := hide hs
  clear b1 b2 r1 r2 s1 s2 h hs
  subst hw2
  subst hw1
  rcases Bool.eq_false_or_eq_true (rightM (mus ts)) with ho | ho
  · have HO := hide ho
    have HT := hide (tries_yes W.heap.size m A c 35 #[.pointer (some ⟨W.heap.size, 0, none⟩), .pointer (some ⟨W.heap.size + 1, 0, none⟩)] ts _ (enters_of Try.func35 (by kernel_rfl) rfl) HRM.out HS.out ho (fun l b _ _ => askX (mus ts) wv gv = .ok (l, b)) (fun k => askX (mus ts) wv gv = .error k) (fun _ _ _ _ _ h _ => h) (by rw [S2.out]; omega)
      (fun w gh gl c2 ts2 hat hmu hbw hlt => by
        have h := ask1_any W.heap.size gh gl m c2 W.heap.size (W.heap.size + 1) ts2 0 0 0 wv gv false w hat (by rw [hmu]; exact rightM_iff.1 HO.out) (R1.out.below hbw) (R2.out.below hbw) (by have := S2.out; omega) (by have := S2.out; omega)
        rw [hmu] at h
        exact h))
    clear ho
    go_enter Try.func12, Try.ntmps12
    go_wp2_with fail
    with_reducible refine HT.out.mono ?_
    rintro e w5 ⟨hp, ⟨gh, gl, c9, ts9, g9, wh9, nx9, got9, rfl, hat, hge, hx⟩ | ⟨gz, k, rfl, hz, hx⟩⟩
    · have HP := hide (below_pastB HB.out hp (Nat.le_refl _))
      have HAT := hide hat
      have q0 := row50 hat.box
      have q3 := row53 hat.box
      have ql := hat.box.lt
      have HX := hide (show askF (mus ts) wv gv = .ok (mus ts9, got9) from by unfold askF; rw [if_pos HO.out]; exact hx)
      have HM := hide (hat.made.base (b' := W.heap.size) (by have := S2.out; omega))
      clear hp hat hge hx
      go_wp2_with fail
      go_quiet (fail)
      go_wp2_with fail
      go_ret3
      rw [HX.out]
      exact ⟨⟨_, _, _, ts9, rfl, rfl, HAT.out.len, HM.out.below (below_drewN (Below.refl _ _) _)⟩, below_drewN HP.out _⟩
    · have HP := hide (below_pastB HB.out hp (Nat.le_refl _))
      have q0 := row50 hz
      have q3 := row53 hz
      have ql := hz.lt
      have HX := hide (show askF (mus ts) wv gv = .error k from by unfold askF; rw [if_pos HO.out]; exact hx)
      clear hp hz hx
      go_wp2_with fail
      go_quiet (fail)
      go_wp2_with fail
      go_ret3
      rw [HX.out]
      exact ⟨⟨_, _, _, [], rfl, rfl, rfl, MadeM.nil _ _⟩, below_drewN HP.out _⟩
  · have HO := hide ho
    have HT := hide (tries_no A c m 35 #[.pointer (some ⟨W.heap.size, 0, none⟩), .pointer (some ⟨W.heap.size + 1, 0, none⟩)] ts _ HRM.out HS.out ho)
    have HX := hide (show askF (mus ts) wv gv = .error 150 from by unfold askF; rw [ho]; rfl)
    clear ho
    rw [HX.out]
    go_enter Try.func12, Try.ntmps12
    go_wp2_with fail
    with_reducible refine HT.out.mono ?_
    rintro e w5 ⟨⟨gz, rfl, hz⟩, hp⟩
    have HP := hide (HB.out.trans (hp.mono HB.out.size))
    have q0 := row50 hz
    have q3 := row53 hz
    have ql := hz.lt
    clear hp hz
    go_wp2_with fail
    go_quiet (fail)
    go_wp2_with fail
    go_ret3
    exact ⟨⟨_, _, _, [], rfl, rfl, rfl, MadeM.nil _ _⟩, below_drewN HP.out _⟩
set_option maxHeartbeats 2000000 in
theorem Leave_any (A : Option Addr) (c m : Nat) (ts : List Mm) (wv gv : Int) (W : World) (h : RM W W.heap.size A m ts) (hs : SmallM ts) :
    Calls Try.prog 13 #[.slice A m c, .int .i64 wv, .int .i64 gv] W fun e W' => OutRes W (leaveF (mus ts) wv gv) (.int .i64 (outV 0 (leaveF (mus ts) wv gv))) e W' ∧ Below W.heap.size W W' := by
  obtain ⟨w1, hw1⟩ : ∃ w1, W.alloc (.cells #[.int .i64 wv] 3) = w1 := ⟨_, rfl⟩
  obtain ⟨w2, hw2⟩ : ∃ w2, w1.alloc (.cells #[.int .i64 gv] 3) = w2 := ⟨_, rfl⟩
  have s1 : w1.heap.size = W.heap.size + 1 := by rw [← hw1]; simp
  have s2 : w2.heap.size = W.heap.size + 1 + 1 := by rw [← hw2]; simp [s1]
  have b1 : Below W.heap.size W w1 := by rw [← hw1]; exact (Below.refl _ _).alloc (Nat.le_refl _) _
  have b2 : Below w1.heap.size w1 w2 := by rw [← hw2]; exact (Below.refl _ _).alloc (Nat.le_refl _) _
  have r1 : RowAt w2 W.heap.size 3 #[.int .i64 wv] := by have h := RowAt.new W 3 #[.int .i64 wv]; rw [hw1] at h; exact h.below b2
  have r2 : RowAt w2 (W.heap.size + 1) 3 #[.int .i64 gv] := by have h := RowAt.new w1 3 #[.int .i64 gv]; rw [hw2, s1] at h; exact h
  have HB := hide (b1.trans (b2.mono b1.size))
  have R1 := hide r1
  have R2 := hide r2
  have S2 := hide s2
  have HRM := hide ((h.below HB.out).more HB.out.size)
  have HS := hide hs
  clear b1 b2 r1 r2 s1 s2 h hs
  subst hw2
  subst hw1
  rcases Bool.eq_false_or_eq_true (rightM (mus ts)) with ho | ho
  · have HO := hide ho
    have HT := hide (tries_yes W.heap.size m A c 37 #[.pointer (some ⟨W.heap.size, 0, none⟩), .pointer (some ⟨W.heap.size + 1, 0, none⟩)] ts _ (enters_of Try.func37 (by kernel_rfl) rfl) HRM.out HS.out ho (fun l _ n _ => leaveX (mus ts) wv gv = .ok (l, n)) (fun k => leaveX (mus ts) wv gv = .error k) (fun _ _ _ _ _ h _ => h) (by rw [S2.out]; omega)
      (fun w gh gl c2 ts2 hat hmu hbw hlt => by
        have h := leave1_any W.heap.size gh gl m c2 W.heap.size (W.heap.size + 1) ts2 0 0 0 wv gv false w hat (by rw [hmu]; exact rightM_iff.1 HO.out) (R1.out.below hbw) (R2.out.below hbw) (by have := S2.out; omega) (by have := S2.out; omega)
        rw [hmu] at h
        exact h))
    clear ho
    go_enter Try.func13, Try.ntmps13
    go_wp2_with fail
    with_reducible refine HT.out.mono ?_
    rintro e w5 ⟨hp, ⟨gh, gl, c9, ts9, g9, wh9, nx9, got9, rfl, hat, hge, hx⟩ | ⟨gz, k, rfl, hz, hx⟩⟩
    · have HP := hide (below_pastB HB.out hp (Nat.le_refl _))
      have HAT := hide hat
      have q0 := row50 hat.box
      have q3 := row54 hat.box
      have ql := hat.box.lt
      have HX := hide (show leaveF (mus ts) wv gv = .ok (mus ts9, nx9) from by unfold leaveF; rw [if_pos HO.out]; exact hx)
      have HM := hide (hat.made.base (b' := W.heap.size) (by have := S2.out; omega))
      clear hp hat hge hx
      go_wp2_with fail
      go_quiet (fail)
      go_wp2_with fail
      go_ret3
      rw [HX.out]
      exact ⟨⟨_, _, _, ts9, rfl, rfl, HAT.out.len, HM.out.below (below_drewN (Below.refl _ _) _)⟩, below_drewN HP.out _⟩
    · have HP := hide (below_pastB HB.out hp (Nat.le_refl _))
      have q0 := row50 hz
      have q3 := row54 hz
      have ql := hz.lt
      have HX := hide (show leaveF (mus ts) wv gv = .error k from by unfold leaveF; rw [if_pos HO.out]; exact hx)
      clear hp hz hx
      go_wp2_with fail
      go_quiet (fail)
      go_wp2_with fail
      go_ret3
      rw [HX.out]
      exact ⟨⟨_, _, _, [], rfl, rfl, rfl, MadeM.nil _ _⟩, below_drewN HP.out _⟩
  · have HO := hide ho
    have HT := hide (tries_no A c m 37 #[.pointer (some ⟨W.heap.size, 0, none⟩), .pointer (some ⟨W.heap.size + 1, 0, none⟩)] ts _ HRM.out HS.out ho)
    have HX := hide (show leaveF (mus ts) wv gv = .error 150 from by unfold leaveF; rw [ho]; rfl)
    clear ho
    rw [HX.out]
    go_enter Try.func13, Try.ntmps13
    go_wp2_with fail
    with_reducible refine HT.out.mono ?_
    rintro e w5 ⟨⟨gz, rfl, hz⟩, hp⟩
    have HP := hide (HB.out.trans (hp.mono HB.out.size))
    have q0 := row50 hz
    have q3 := row54 hz
    have ql := hz.lt
    clear hp hz
    go_wp2_with fail
    go_quiet (fail)
    go_wp2_with fail
    go_ret3
    exact ⟨⟨_, _, _, [], rfl, rfl, rfl, MadeM.nil _ _⟩, below_drewN HP.out _⟩
end Go.Proofs.Ytlelpnahillioaa

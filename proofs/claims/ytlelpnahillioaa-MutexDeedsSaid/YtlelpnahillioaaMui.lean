/-
  The hand in memory; asking.
-/
import Derived.Test.YtlelpnahillioaaMuh
import Derived.Test.YtlelpnahillioaaFull
import Derived.Test.YtlelpnahillioaaHeldT
set_option linter.unusedSimpArgs false
set_option linter.unusedVariables false
namespace Go.Proofs.Ytlelpnahillioaa
open Go Go.RowKit
attribute [local go_sem] via_cell via_frozen

theorem Cs_setE {α : Type} {enc : α → List Value} {sz : Nat} (hl : ∀ x, (enc x).length = sz) (xs : List α) (k i : Nat) (y : α) (v : Value) (hk : k < xs.length) (hi : i < sz) (hy : (enc xs[k]).set i v = enc y) : (Cs enc xs).set (k * sz + i) v = Cs enc (xs.set k y) := by
  induction xs generalizing k with
  | nil => simp at hk
  | cons x xs ih =>
    have hc : ∀ (y : α) (l : List α), Cs enc (y :: l) = enc y ++ Cs enc l := fun y l => by simp [Cs]
    cases k with
    | zero =>
      rw [hc, List.set_append_left _ _ (by rw [hl]; omega), List.set_cons_zero, hc, Nat.zero_mul, Nat.zero_add]
      congr 1
    | succ k =>
      have h2 : (k + 1) * sz + i = sz + (k * sz + i) := by rw [Nat.add_mul]; omega
      rw [hc, h2, List.set_append_right _ _ (by rw [hl]; omega), hl, Nat.add_sub_cancel_left, ih k (by simpa using hk) (by simpa using hy), List.set_cons_succ, hc]
theorem getM_get {ts : List Mm} {k : Nat} (h : k < ts.length) : ts.getD k mmZ = ts[k] := by rw [List.getD_eq_getElem?_getD, List.getElem?_eq_getElem h]; rfl
theorem mus_set (ts : List Mm) (k : Nat) (y : Mm) : mus (ts.set k y) = (mus ts).set k y.mu := List.map_set ..
theorem MadeM.other {b : Nat} {w w' : World} {v : Value} {ts : List Mm} (h : MadeM b w v ts) (hs : w.heap.size ≤ w'.heap.size) (hk : ∀ j, b ≤ j → j < w.heap.size → w'.heap[j]? = w.heap[j]?) : MadeM b w' v ts :=
  ⟨own_other2 h.own hk, fun t ht => (h.qs t ht).keep hs (fun p hp => hk _ ((h.qs t ht).fr p hp).1 ((h.qs t ht).fr p hp).2.1)⟩
/-- A cell of the row is written. -/
theorem MadeM.put {b gl m c : Nat} {w : World} {ts : List Mm} (h : MadeM b w (.slice (some ⟨gl, 0, none⟩) m c) ts) (hm : ts.length = m) {k i : Nat} (hk : k < m) (hi : i < 2) {v : Value} {y : Mm} (hy : (encM (ts.getD k mmZ)).set i v = encM y) (hq : QOk b w (some gl) y) :
    MadeM b (w.setCell ⟨gl, k * 2 + i, none⟩ v) (.slice (some ⟨gl, 0, none⟩) m c) (ts.set k y) := by
  subst hm
  have h1 := h.own.stored (k * 2 + i) v
  have hs : ∀ u, QOk b w (some gl) u → QOk b (w.setCell ⟨gl, k * 2 + i, none⟩ v) (some gl) u := fun u hu => hu.keep (by simp) (fun p hp => heap_setCell_ne _ _ _ _ (by
    have := (hu.fr p hp).2.2.1
    intro e
    exact this (by rw [e])))
  refine ⟨?_, fun t ht => ?_⟩
  · have h2 := h1.1
    rw [Cs_setE encM_len ts k i y v hk hi (by rw [← getM_get hk]; exact hy)] at h2
    simpa using h2
  · rcases List.mem_or_eq_of_mem_set ht with ht | rfl
    · exact hs t (h.qs t ht)
    · exact hs t hq
structure HAt (w : World) (gh gl m c : Nat) (ts : List Mm) (g wh nx : Int) (got : Bool) : Prop where
  box : RowAt w gh 66 (hC (some ⟨gl, 0, none⟩) m c g wh got nx)
  made : MadeM (gh + 1) w (.slice (some ⟨gl, 0, none⟩) m c) ts
  len : ts.length = m
section
variable {w w' : World} {gh gl m c : Nat} {ts : List Mm} {g wh nx : Int} {got : Bool}
theorem HAt.lt (h : HAt w gh gl m c ts g wh nx got) : gh < gl ∧ gl < w.heap.size := by
  have := h.made.own.lt gl rfl
  omega
theorem HAt.below (h : HAt w gh gl m c ts g wh nx got) (hb : Below w.heap.size w w') : HAt w' gh gl m c ts g wh nx got := ⟨h.box.below hb, h.made.below hb, h.len⟩
theorem HAt.setBox (h : HAt w gh gl m c ts g wh nx got) {i : Nat} {v : Value} {g2 wh2 nx2 : Int} {got2 : Bool} (e : (hC (some ⟨gl, 0, none⟩) m c g wh got nx).setIfInBounds i v = hC (some ⟨gl, 0, none⟩) m c g2 wh2 got2 nx2) : HAt (w.setCell ⟨gh, i, none⟩ v) gh gl m c ts g2 wh2 nx2 got2 :=
  ⟨by rw [← e]; exact h.box.set i v, h.made.other (by simp) (fun j hj _ => heap_setCell_ne _ _ _ _ (by show j ≠ gh; omega)), h.len⟩
theorem HAt.setGot (h : HAt w gh gl m c ts g wh nx got) (b : Bool) : HAt (w.setCell ⟨gh, 3, none⟩ (.bool b)) gh gl m c ts g wh nx b := h.setBox (by simp)
theorem HAt.setNext (h : HAt w gh gl m c ts g wh nx got) (n : Int) : HAt (w.setCell ⟨gh, 4, none⟩ (.int .i64 n)) gh gl m c ts g wh n got := h.setBox (by simp)
theorem HAt.setWh (h : HAt w gh gl m c ts g wh nx got) (n : Int) : HAt (w.setCell ⟨gh, 2, none⟩ (.int .i64 n)) gh gl m c ts g n nx got := h.setBox (by simp)
theorem HAt.setGoer (h : HAt w gh gl m c ts g wh nx got) (n : Int) : HAt (w.setCell ⟨gh, 1, none⟩ (.int .i64 n)) gh gl m c ts n wh nx got := h.setBox (by simp)
theorem HAt.q (h : HAt w gh gl m c ts g wh nx got) {k : Nat} (hk : k < m) : QOk (gh + 1) w (some gl) (ts.getD k mmZ) := h.made.qs _ (getM_mem (by rw [h.len]; exact hk))
theorem HAt.setWho (h : HAt w gh gl m c ts g wh nx got) {k : Nat} (hk : k < m) (x : Int) : HAt (w.setCell ⟨gl, k * 2, none⟩ (.int .i64 x)) gh gl m c (ts.set k { ts.getD k mmZ with who := x }) g wh nx got := by
  have hq := h.q hk
  have h1 := h.made.put h.len hk (i := 0) (by omega) (v := .int .i64 x) (y := { ts.getD k mmZ with who := x }) rfl ⟨hq.rd, hq.cap, hq.fr⟩
  exact ⟨h.box.setNe (by have := h.lt; omega), h1, by rw [List.length_set]; exact h.len⟩
theorem HAt.setQ (h : HAt w gh gl m c ts g wh nx got) {k : Nat} (hk : k < m) {A : Option Addr} {n cc : Nat} {q : List Int} (hn : q.length = n) (hq : QOk (gh + 1) w (some gl) ⟨(ts.getD k mmZ).who, A, cc, q⟩) : HAt (w.setCell ⟨gl, k * 2 + 1, none⟩ (.slice A n cc)) gh gl m c (ts.set k ⟨(ts.getD k mmZ).who, A, cc, q⟩) g wh nx got := by
  subst hn
  exact ⟨h.box.setNe (by have := h.lt; omega), h.made.put h.len hk (i := 1) (by omega) rfl hq, by rw [List.length_set]; exact h.len⟩
theorem HAt.who (h : HAt w gh gl m c ts g wh nx got) {k : Nat} (hk : k < m) : w.cell? ⟨gl, k * 2, none⟩ = some (.int .i64 (ts.getD k mmZ).who) ∧ w.cell? ⟨gl, k * 2 + 1, none⟩ = some (.slice (ts.getD k mmZ).A (ts.getD k mmZ).q.length (ts.getD k mmZ).c) ∧ (∀ j, w.frozen? ⟨gl, j, none⟩ = false) := by
  obtain ⟨b, o, e, _, d0, d1, _⟩ := (h.made.rm h.len).at_ hk
  injection e with e
  injection e with e1 e2
  subst e1; subst e2
  refine ⟨by simpa using d0, by simpa using d1, fun j => ?_⟩
  have := h.made.own
  rw [h.len] at this
  exact this.frozenAt j
end
def AskRes (gh gl m c : Nat) (ts : List Mm) (g wh nx : Int) (w : World) (e : Ending) (w' : World) : Prop :=
  Below gh w w' ∧ ((∃ ts' got', e = .returned (.tuple #[]) ∧ askX (mus ts) wh g = .ok (mus ts', got') ∧ HAt w' gh gl m c ts' g wh nx got') ∨ (∃ k, e = .panicked (errX k) ∧ askX (mus ts) wh g = .error k))
theorem argB_ask {m : Nat} {l : Ml} {wh g : Int} (hl : l.length = m) : askX l wh g = if !argB m wh g then .error 2 else if (mAt l wh.toNat).1 = g + 1 ∨ 0 ≤ waitsX l g then .error 151 else if (mAt l wh.toNat).1 = 0 then .ok (l.set wh.toNat (g + 1, (mAt l wh.toNat).2), true) else .ok (l.set wh.toNat ((mAt l wh.toNat).1, (mAt l wh.toNat).2 ++ [g]), false) := by
  subst hl; rfl
theorem argB_leave {m : Nat} {l : Ml} {wh g : Int} (hl : l.length = m) : leaveX l wh g = if !argB m wh g then .error 2 else if (mAt l wh.toNat).1 ≠ g + 1 then .error 4 else match (mAt l wh.toNat).2 with
    | [] => .ok (l.set wh.toNat (0, []), -1)
    | n :: q => .ok (l.set wh.toNat (n + 1, q), n) := by
  subst hl; rfl
theorem argB_iff {m : Nat} {wh g : Int} : argB m wh g = true ↔ 0 ≤ wh ∧ wh < m ∧ 0 ≤ g ∧ g < 8 := by
  unfold argB
  simp only [Bool.and_eq_true, decide_eq_true_eq, goerB_iff]
  omega
set_option maxHeartbeats 4000000 in
theorem ask_any (gh gl m c : Nat) (ts : List Mm) (g wh nx : Int) (got : Bool) (W : World) (h : HAt W gh gl m c ts g wh nx got) (hr : RightM (mus ts)) :
    Calls Try.prog 36 #[.pointer (some ⟨gh, 0, none⟩)] W (AskRes gh gl m c ts g wh nx W) := by
  have H := hide h
  have HR := hide hr
  have HLT := h.lt
  have HMU := hide (fun b hb => mutex_any gh gl m c g wh nx got W h.box HLT.2 b hb)
  have HAX := hide (argB_ask (wh := wh) (g := g) (show (mus ts).length = m by rw [mus_len, h.len]))
  have HSM := hide (h.made.small hr)
  obtain ⟨b, hb⟩ : ∃ b, argB m wh g = b := ⟨_, rfl⟩
  have HC := hide (HMU.out b hb)
  have HBB := hide hb
  rw [hb] at HAX
  clear h hr HMU hb
  cases b
  · go_enter Try.func36, Try.ntmps36
    go_wp2_with fail
    refine HC.out.mono ?_
    rintro e w1 ⟨hb1, hres⟩
    rcases hres with ⟨h1, _⟩ | ⟨_, rfl⟩
    · cases h1
    have HB1 := hide hb1
    clear hb1
    go_wp2_with fail
    exact ⟨rfl, HB1.out.mono (Nat.le_of_lt (Nat.lt_trans HLT.1 HLT.2)), .inr ⟨2, rfl, HAX.out⟩⟩
  obtain ⟨h0, hwm, hg0, hg8⟩ := argB_iff.1 HBB.out
  obtain ⟨k, rfl⟩ := Int.eq_ofNat_of_zero_le h0
  have hk : k < m := by omega
  have hwg : wrap64 (g + 1) = g + 1 := IntWalk.wrap64_in _ (by omega)
  have HAX2 := hide (show askX (mus ts) k g = if (ts.getD k mmZ).who = g + 1 ∨ 0 ≤ waitsX (mus ts) g then .error 151 else if (ts.getD k mmZ).who = 0 then .ok ((mus ts).set k (g + 1, (ts.getD k mmZ).q), true) else .ok ((mus ts).set k ((ts.getD k mmZ).who, (ts.getD k mmZ).q ++ [g]), false) from by
    rw [HAX.out, Int.toNat_natCast, mus_at]; rfl)
  obtain ⟨x, hx⟩ : ∃ x, waitsX (mus ts) g = x := ⟨_, rfl⟩
  rw [hx] at HAX2
  have HX := hide hx
  clear h0 hwm hx HAX HBB
  go_enter Try.func36, Try.ntmps36
  go_wp2_with fail
  refine HC.out.mono ?_
  rintro e w1 ⟨hb1, hres⟩
  rcases hres with ⟨_, rfl⟩ | ⟨h1, _⟩
  case inr => cases h1
  rw [Int.toNat_natCast]
  have H1 := hide (H.out.below hb1)
  have HB1 := hide hb1
  have q0 := row50 H1.out.box
  have q1 := row51 H1.out.box
  have ql := H1.out.box.lt
  obtain ⟨d0, _, _⟩ := H1.out.who hk
  have dl := H1.out.lt.2
  have HWT := hide (fun z => via_of (waits_any w1.heap.size (some ⟨gl, 0, none⟩) c m ts g (via w1 z) ((H1.out.made.rm H1.out.len).below (via_below _ z)) HSM.out (via_below _ z).size x HX.out))
  obtain ⟨who, hwho⟩ : ∃ y, (ts.getD k mmZ).who = y := ⟨_, rfl⟩
  have HWH := hide hwho
  rw [hwho] at d0 HAX2
  clear hb1 HC hwho
  by_cases hown : who = g + 1
  · have hd : (who != g + 1) = false := by simpa using hown
    have HE := hide (show askX (mus ts) k g = .error 151 from by rw [HAX2.out, if_pos (.inl hown)])
    clear hown
    go_wp2_with fail
    refine wp_region_tail 22 (by kernel_rfl) (by kernel_rfl) ?_
    simp only [List.take_succ_cons, List.take_zero, List.drop_succ_cons, List.drop_zero]
    repeat (go_big_quiet_step (fail))
    refine tail_out fun w2 hb2 => ?_
    have HB2 := hide (HB1.out.trans (hb2.mono HB1.out.size))
    clear hb2 q0 q1 d0
    go_wp2_with fail
    refine (need_no 151 _).mono ?_
    rintro e w3 ⟨rfl, rfl⟩
    go_wp2_with fail
    exact ⟨rfl, HB2.out.mono (Nat.le_of_lt (Nat.lt_trans HLT.1 HLT.2)), .inr ⟨151, rfl, HE.out⟩⟩
  have hd : (who != g + 1) = true := by simpa using hown
  by_cases hx0 : x < 0
  case neg =>
    have hd2 : decide (x < 0) = false := by simpa using hx0
    have HE := hide (show askX (mus ts) k g = .error 151 from by rw [HAX2.out, if_pos (.inr (by omega))])
    clear hown hx0
    go_wp2_with fail
    refine wp_region_tail 22 (by kernel_rfl) (by kernel_rfl) ?_
    simp only [List.take_succ_cons, List.take_zero, List.drop_succ_cons, List.drop_zero]
    repeat (go_big_quiet_step ((first | (go_at_call 42; exact HWT.out _))))
    refine tail_out fun w2 hb2 => ?_
    have HB2 := hide (HB1.out.trans (hb2.mono HB1.out.size))
    clear hb2 q0 q1 d0
    go_wp2_with fail
    refine (need_no 151 _).mono ?_
    rintro e w3 ⟨rfl, rfl⟩
    go_wp2_with fail
    exact ⟨rfl, HB2.out.mono (Nat.le_of_lt (Nat.lt_trans HLT.1 HLT.2)), .inr ⟨151, rfl, HE.out⟩⟩
  have hd2 : decide (x < 0) = true := by simpa using hx0
  have HAX3 := hide (HAX2.out.trans (if_neg (by omega)))
  clear hown hx0 HAX2
  go_wp2_with fail
  refine wp_region_tail 22 (by kernel_rfl) (by kernel_rfl) ?_
  simp only [List.take_succ_cons, List.take_zero, List.drop_succ_cons, List.drop_zero]
  repeat (go_big_quiet_step ((first | (go_at_call 42; exact HWT.out _))))
  refine tail_out fun w2 hb2 => ?_
  have HB2 := hide (HB1.out.trans (hb2.mono HB1.out.size))
  have H2 := hide (H1.out.below hb2)
  clear hb2 q0 q1 d0 ql dl H1 HWT
  go_wp2_with fail
  refine (need_ok 151 _).mono ?_
  rintro e w3 ⟨rfl, rfl⟩
  obtain ⟨d0, d1, df⟩ := H2.out.who hk
  rw [HWH.out] at d0
  have q1 := row51 H2.out.box
  have ql := H2.out.box.lt
  have qf := H2.out.box.frozen 3
  have q3 := row53 H2.out.box
  have dl := H2.out.lt.2
  have HDF := hide df
  have df0 := df (k * 2)
  clear df
  by_cases hz : who = 0
  · have hd3 : (who == 0) = true := by simpa using hz
    have HOK := hide (HAX3.out.trans (if_pos hz))
    clear hz
    have H3 := hide (H2.out.setGot true)
    have HB3 := hide ((HB2.out.mono (Nat.le_of_lt (Nat.lt_trans HLT.1 HLT.2))).setCell (p := ⟨gh, 3, none⟩) (Nat.le_refl _) (.bool true))
    go_upto_region 3 with (fail)
    clear d0 d1 q1 ql qf q3 dl df0 HDF H2
    generalize w2.setCell ⟨gh, 3, none⟩ (.bool true) = w4 at *
    obtain ⟨d0, d1, df⟩ := H3.out.who hk
    have q1 := row51 H3.out.box
    have q3 := row53 H3.out.box
    have ql := H3.out.box.lt
    have dl := H3.out.lt.2
    have df0 := df (k * 2)
    have H4 := hide (H3.out.setWho hk (g + 1))
    have HB4 := hide (HB3.out.setCell (p := ⟨gl, k * 2, none⟩) (Nat.le_of_lt HLT.1) (.int .i64 (g + 1)))
    have HM4 := hide (show mus (ts.set k { ts.getD k mmZ with who := g + 1 }) = (mus ts).set k (g + 1, (ts.getD k mmZ).q) from mus_set ..)
    clear df
    go_wp2_with fail
    go_end0
    exact ⟨HB4.out, .inl ⟨_, true, rfl, by rw [HOK.out, HM4.out], H4.out⟩⟩
  · have hd3 : (who == 0) = false := by simpa using hz
    have HOK := hide (HAX3.out.trans (if_neg hz))
    clear hz
    have H3 := hide (H2.out.setGot false)
    have HB3 := hide ((HB2.out.mono (Nat.le_of_lt (Nat.lt_trans HLT.1 HLT.2))).setCell (p := ⟨gh, 3, none⟩) (Nat.le_refl _) (.bool false))
    go_upto_region 3 with (fail)
    clear d0 d1 q1 ql qf q3 dl df0 HDF H2
    generalize w2.setCell ⟨gh, 3, none⟩ (.bool false) = w4 at *
    obtain ⟨d0, d1, df⟩ := H3.out.who hk
    have q1 := row51 H3.out.box
    have q3 := row53 H3.out.box
    have ql := H3.out.box.lt
    have dl := H3.out.lt.2
    have df1 := df (k * 2 + 1)
    have HQ := hide (H3.out.q hk)
    have HQL := hide (show (ts.getD k mmZ).q.length ≤ 4096 from HSM.out.2 _ (getM_mem (by rw [H3.out.len]; exact hk)))
    obtain ⟨n, hn⟩ : ∃ n, (ts.getD k mmZ).q.length = n := ⟨_, rfl⟩
    obtain ⟨tA, htA⟩ : ∃ tA, (ts.getD k mmZ).A = tA := ⟨_, rfl⟩
    obtain ⟨tc, htc⟩ : ∃ tc, (ts.getD k mmZ).c = tc := ⟨_, rfl⟩
    rw [hn, htA, htc] at d1
    rw [hn] at HQL
    have HN := hide hn
    have hcap := HQ.out.cap
    have HRD := hide HQ.out.rd
    rw [hn, htc] at hcap
    rw [hn, htA] at HRD
    have hc1 : (n : Int) ≤ (tc : Int) := by omega
    have hc2 : (tc : Int) ≤ 9223372036854775807 := by omega
    have hc3 : (n : Int) ≤ 9223372036854775807 := by omega
    have HTA := hide htA
    have HTC := hide htc
    clear df hn htA htc hcap
    go_wp2_with fail
    have HB5 := hide (show Below w4.heap.size w4 w4.drew from (Below.refl _ _).drew)
    have H5 := hide (H3.out.below HB5.out)
    have HRD5 := hide (((HRD.out.below HB5.out).more HB5.out.size).alloc (Nat.le_refl _) (.cells #[.int .i64 g] 3))
    have HSRC := hide (Rd.new w4.drew #[.int .i64 g] 3 1 1 rfl)
    have HS5 := hide (show (w4.drew.alloc (.cells #[.int .i64 g] 3)).cell? ⟨gl, k * 2 + 1, none⟩ = some (.slice tA n tc) ∧ (w4.drew.alloc (.cells #[.int .i64 g] 3)).cell? ⟨gh, 1, none⟩ = some (.int .i64 g) ∧ gl < (w4.drew.alloc (.cells #[.int .i64 g] 3)).heap.size ∧ gh < (w4.drew.alloc (.cells #[.int .i64 g] 3)).heap.size from
      ⟨(World.cell?_alloc_lt w4.drew _ _ (by simpa using dl)).trans d1, (World.cell?_alloc_lt w4.drew _ _ (by simpa using ql)).trans q1, by simp; omega, by simp; omega⟩)
    refine wp_region_T (fun wX => wX.cell? ⟨gl, k * 2 + 1, none⟩ = some (.slice tA n tc) ∧ wX.cell? ⟨gh, 1, none⟩ = some (.int .i64 g) ∧ gl < wX.heap.size ∧ gh < wX.heap.size) 24 (by kernel_rfl) (⟨d1, q1, dl, ql⟩) (fun hHeld => ?_)
    (refine wpAnyT_take (i := 0) (v := ?_) rfl (by kernel_rfl) (by kernel_rfl) (by kernel_rfl) (by kernel_rfl) (fun _ _ _ h => h) (Or.inl ⟨by rfl, ?_⟩) (by assumption) ?_; rotate_left; (focus (intro w hSw; (try dsimp only at hSw); obtain ⟨kf0, kf1, kf2, kf3⟩ := hSw; go_simp; first | done | with_reducible rfl)); (try simp only [Act.put, List.getElem_toArray, List.getElem_cons_succ, List.getElem_cons_zero, List.setIfInBounds_toArray, List.set_cons_zero, List.set_cons_succ]))
    (refine wpAnyT_take (i := 1) (v := ?_) rfl (by kernel_rfl) (by kernel_rfl) (by kernel_rfl) (by kernel_rfl) (fun _ _ _ h => h) (Or.inl ⟨by rfl, ?_⟩) (by assumption) ?_; rotate_left; (focus (intro w hSw; (try dsimp only at hSw); obtain ⟨kf0, kf1, kf2, kf3⟩ := hSw; go_simp; first | done | with_reducible rfl)); (try simp only [Act.put, List.getElem_toArray, List.getElem_cons_succ, List.getElem_cons_zero, List.setIfInBounds_toArray, List.set_cons_zero, List.set_cons_succ]))
    (refine wpAnyT_take (i := 2) (v := ?_) rfl (by kernel_rfl) (by kernel_rfl) (by kernel_rfl) (by kernel_rfl) (fun _ _ _ h => h) (Or.inl ⟨by rfl, ?_⟩) (by assumption) ?_; rotate_left; (focus (intro w hSw; (try dsimp only at hSw); obtain ⟨kf0, kf1, kf2, kf3⟩ := hSw; go_simp; first | done | with_reducible rfl)); (try simp only [Act.put, List.getElem_toArray, List.getElem_cons_succ, List.getElem_cons_zero, List.setIfInBounds_toArray, List.set_cons_zero, List.set_cons_succ]))
    (refine wpAnyT_take (i := 3) (v := ?_) rfl (by kernel_rfl) (by kernel_rfl) (by kernel_rfl) (by kernel_rfl) (fun _ _ _ h => h) (Or.inl ⟨by rfl, ?_⟩) (by assumption) ?_; rotate_left; (focus (intro w hSw; (try dsimp only at hSw); obtain ⟨kf0, kf1, kf2, kf3⟩ := hSw; go_simp; first | done | with_reducible rfl)); (try simp only [Act.put, List.getElem_toArray, List.getElem_cons_succ, List.getElem_cons_zero, List.setIfInBounds_toArray, List.set_cons_zero, List.set_cons_succ]))
    (refine wpAnyT_take (i := 4) (v := ?_) rfl (by kernel_rfl) (by kernel_rfl) (by kernel_rfl) (by kernel_rfl) (fun _ _ _ h => h) (Or.inl ⟨by rfl, ?_⟩) (by assumption) ?_; rotate_left; (focus (intro w hSw; (try dsimp only at hSw); obtain ⟨kf0, kf1, kf2, kf3⟩ := hSw; go_simp; first | done | with_reducible rfl)); (try simp only [Act.put, List.getElem_toArray, List.getElem_cons_succ, List.getElem_cons_zero, List.setIfInBounds_toArray, List.set_cons_zero, List.set_cons_succ]))
    (refine wpAnyT_take (i := 5) (v := ?_) rfl (by kernel_rfl) (by kernel_rfl) (by kernel_rfl) (by kernel_rfl) (fun _ _ _ h => h) (Or.inl ⟨by rfl, ?_⟩) (by assumption) ?_; rotate_left; (focus (intro w hSw; (try dsimp only at hSw); obtain ⟨kf0, kf1, kf2, kf3⟩ := hSw; go_simp; first | done | with_reducible rfl)); (try simp only [Act.put, List.getElem_toArray, List.getElem_cons_succ, List.getElem_cons_zero, List.setIfInBounds_toArray, List.set_cons_zero, List.set_cons_succ]))
    (refine wpAnyT_take (i := 6) (v := ?_) rfl (by kernel_rfl) (by kernel_rfl) (by kernel_rfl) (by kernel_rfl) (fun _ _ _ h => h) (Or.inl ⟨by rfl, ?_⟩) (by assumption) ?_; rotate_left; (focus (intro w hSw; (try dsimp only at hSw); obtain ⟨kf0, kf1, kf2, kf3⟩ := hSw; go_simp; first | done | with_reducible rfl)); (try simp only [Act.put, List.getElem_toArray, List.getElem_cons_succ, List.getElem_cons_zero, List.setIfInBounds_toArray, List.set_cons_zero, List.set_cons_succ]))
    (refine wpAnyT_take (i := 7) (v := ?_) rfl (by kernel_rfl) (by kernel_rfl) (by kernel_rfl) (by kernel_rfl) (fun _ _ _ h => h) (Or.inl ⟨by rfl, ?_⟩) (by assumption) ?_; rotate_left; (focus (intro w hSw; (try dsimp only at hSw); obtain ⟨kf0, kf1, kf2, kf3⟩ := hSw; go_simp; first | done | with_reducible rfl)); (try simp only [Act.put, List.getElem_toArray, List.getElem_cons_succ, List.getElem_cons_zero, List.setIfInBounds_toArray, List.set_cons_zero, List.set_cons_succ]))
    (refine wpAnyT_take (i := 8) (v := ?_) rfl (by kernel_rfl) (by kernel_rfl) (by kernel_rfl) (by kernel_rfl) (fun _ _ _ h => h) (Or.inl ⟨by rfl, ?_⟩) (by assumption) ?_; rotate_left; (focus (intro w hSw; (try dsimp only at hSw); obtain ⟨kf0, kf1, kf2, kf3⟩ := hSw; go_simp; first | done | with_reducible rfl)); (try simp only [Act.put, List.getElem_toArray, List.getElem_cons_succ, List.getElem_cons_zero, List.setIfInBounds_toArray, List.set_cons_zero, List.set_cons_succ]))
    (refine wpAnyT_take (i := 9) (v := ?_) rfl (by kernel_rfl) (by kernel_rfl) (by kernel_rfl) (by kernel_rfl) (fun _ _ _ h => h) (Or.inl ⟨by rfl, ?_⟩) (by assumption) ?_; rotate_left; (focus (intro w hSw; (try dsimp only at hSw); obtain ⟨kf0, kf1, kf2, kf3⟩ := hSw; go_simp; first | done | with_reducible rfl)); (try simp only [Act.put, List.getElem_toArray, List.getElem_cons_succ, List.getElem_cons_zero, List.setIfInBounds_toArray, List.set_cons_zero, List.set_cons_succ]))
    (refine wpAnyT_take (i := 10) (v := ?_) rfl (by kernel_rfl) (by kernel_rfl) (by kernel_rfl) (by kernel_rfl) (fun _ _ _ h => h) (Or.inl ⟨by rfl, ?_⟩) (by assumption) ?_; rotate_left; (focus (intro w hSw; (try dsimp only at hSw); obtain ⟨kf0, kf1, kf2, kf3⟩ := hSw; go_simp; first | done | with_reducible rfl)); (try simp only [Act.put, List.getElem_toArray, List.getElem_cons_succ, List.getElem_cons_zero, List.setIfInBounds_toArray, List.set_cons_zero, List.set_cons_succ]))
    (refine wpAnyT_take (i := 11) (v := ?_) rfl (by kernel_rfl) (by kernel_rfl) (by kernel_rfl) (by kernel_rfl) (fun _ _ _ h => h) (Or.inl ⟨by rfl, ?_⟩) (by assumption) ?_; rotate_left; (focus (intro w hSw; (try dsimp only at hSw); obtain ⟨kf0, kf1, kf2, kf3⟩ := hSw; go_simp; first | done | with_reducible rfl)); (try simp only [Act.put, List.getElem_toArray, List.getElem_cons_succ, List.getElem_cons_zero, List.setIfInBounds_toArray, List.set_cons_zero, List.set_cons_succ]))
    (refine wpAnyT_take (i := 12) (v := ?_) rfl (by kernel_rfl) (by kernel_rfl) (by kernel_rfl) (by kernel_rfl) (fun _ _ _ h => h) (Or.inl ⟨by rfl, ?_⟩) (by assumption) ?_; rotate_left; (focus (intro w hSw; (try dsimp only at hSw); obtain ⟨kf0, kf1, kf2, kf3⟩ := hSw; go_simp; first | done | with_reducible rfl)); (try simp only [Act.put, List.getElem_toArray, List.getElem_cons_succ, List.getElem_cons_zero, List.setIfInBounds_toArray, List.set_cons_zero, List.set_cons_succ]))
    (refine wpAnyT_take (i := 13) (v := ?_) rfl (by kernel_rfl) (by kernel_rfl) (by kernel_rfl) (by kernel_rfl) (fun _ _ _ h => h) (Or.inl ⟨by rfl, ?_⟩) (by assumption) ?_; rotate_left; (focus (intro w hSw; (try dsimp only at hSw); obtain ⟨kf0, kf1, kf2, kf3⟩ := hSw; go_simp; first | done | with_reducible rfl)); (try simp only [Act.put, List.getElem_toArray, List.getElem_cons_succ, List.getElem_cons_zero, List.setIfInBounds_toArray, List.set_cons_zero, List.set_cons_succ]))
    (refine wpAnyT_take (i := 14) (v := ?_) rfl (by kernel_rfl) (by kernel_rfl) (by kernel_rfl) (by kernel_rfl) (fun _ _ _ h => h) (Or.inl ⟨by rfl, ?_⟩) (by assumption) ?_; rotate_left; (focus (intro w hSw; (try dsimp only at hSw); obtain ⟨kf0, kf1, kf2, kf3⟩ := hSw; go_simp; first | done | with_reducible rfl)); (try simp only [Act.put, List.getElem_toArray, List.getElem_cons_succ, List.getElem_cons_zero, List.setIfInBounds_toArray, List.set_cons_zero, List.set_cons_succ]))
    (refine wpAnyT_take (i := 15) (v := ?_) rfl (by kernel_rfl) (by kernel_rfl) (by kernel_rfl) (by kernel_rfl) (fun _ _ _ h => h) (Or.inl ⟨by rfl, ?_⟩) (by assumption) ?_; rotate_left; (focus (intro w hSw; (try dsimp only at hSw); obtain ⟨kf0, kf1, kf2, kf3⟩ := hSw; go_simp; first | done | with_reducible rfl)); (try simp only [Act.put, List.getElem_toArray, List.getElem_cons_succ, List.getElem_cons_zero, List.setIfInBounds_toArray, List.set_cons_zero, List.set_cons_succ]))
    (refine wpAnyT_take (i := 16) (v := ?_) rfl (by kernel_rfl) (by kernel_rfl) (by kernel_rfl) (by kernel_rfl) (fun _ _ _ h => h) (Or.inl ⟨by rfl, ?_⟩) (by assumption) ?_; rotate_left; (focus (intro w hSw; (try dsimp only at hSw); obtain ⟨kf0, kf1, kf2, kf3⟩ := hSw; go_simp; first | done | with_reducible rfl)); (try simp only [Act.put, List.getElem_toArray, List.getElem_cons_succ, List.getElem_cons_zero, List.setIfInBounds_toArray, List.set_cons_zero, List.set_cons_succ]))
    (refine wpAnyT_take (i := 17) (v := ?_) rfl (by kernel_rfl) (by kernel_rfl) (by kernel_rfl) (by kernel_rfl) (fun _ _ _ h => h) (Or.inl ⟨by rfl, ?_⟩) (by assumption) ?_; rotate_left; (focus (intro w hSw; (try dsimp only at hSw); obtain ⟨kf0, kf1, kf2, kf3⟩ := hSw; go_simp; first | done | with_reducible rfl)); (try simp only [Act.put, List.getElem_toArray, List.getElem_cons_succ, List.getElem_cons_zero, List.setIfInBounds_toArray, List.set_cons_zero, List.set_cons_succ]))
    (refine wpAnyT_take (i := 18) (v := ?_) rfl (by kernel_rfl) (by kernel_rfl) (by kernel_rfl) (by kernel_rfl) (fun _ _ _ h => h) (Or.inl ⟨by rfl, ?_⟩) (by assumption) ?_; rotate_left; (focus (intro w hSw; (try dsimp only at hSw); obtain ⟨kf0, kf1, kf2, kf3⟩ := hSw; go_simp; first | done | with_reducible rfl)); (try simp only [Act.put, List.getElem_toArray, List.getElem_cons_succ, List.getElem_cons_zero, List.setIfInBounds_toArray, List.set_cons_zero, List.set_cons_succ]))
    (refine wpAnyT_take (i := 19) (v := ?_) rfl (by kernel_rfl) (by kernel_rfl) (by kernel_rfl) (by kernel_rfl) (fun _ _ _ h => h) (Or.inl ⟨by rfl, ?_⟩) (by assumption) ?_; rotate_left; (focus (intro w hSw; (try dsimp only at hSw); obtain ⟨kf0, kf1, kf2, kf3⟩ := hSw; go_simp; first | done | with_reducible rfl)); (try simp only [Act.put, List.getElem_toArray, List.getElem_cons_succ, List.getElem_cons_zero, List.setIfInBounds_toArray, List.set_cons_zero, List.set_cons_succ]))
    refine wpAnyT_one (i := 20) rfl (by kernel_rfl) (fun K0 hK0 => ?_)
    go_simp
    refine hK0.out _ _ (fun _ => ⟨HS5.out.1, HS5.out.2.1, HS5.out.2.2.1, HS5.out.2.2.2⟩) ?_
    clear hK0 K0
    (try simp only [Act.put, List.getElem_toArray, List.getElem_cons_succ, List.getElem_cons_zero, List.setIfInBounds_toArray, List.set_cons_zero, List.set_cons_succ])
    refine wpAnyT_one (i := 21) rfl (by kernel_rfl) (fun K1 hK1 => ?_)
    rw [if_pos (by rfl)]
    refine wp_appfull elI _ _ rfl rfl HRD5.out rfl HSRC.out (by simp [Value.oneCell']) (by omega) (by have := HQL.out; omega) ?_
    intro v6 w6 hown6 hb6
    obtain ⟨A6, c6, rfl, hc6, hcm6⟩ := own_form2 hown6
    have HO6 := hide hown6
    have HB6 := hide (((Below.refl w4.drew.heap.size w4.drew).alloc (Nat.le_refl _) (.cells #[.int .i64 g] 3)).trans (hb6.mono (by simp)))
    have H6 := hide (H5.out.below HB6.out)
    obtain ⟨_, d1', df⟩ := H6.out.who hk
    have df1' := df (k * 2 + 1)
    have dl' := H6.out.lt.2
    have HS6 := hide (show w6.cell? ⟨gl, k * 2 + 1, none⟩ = some (.slice tA n tc) ∧ w6.cell? ⟨gh, 1, none⟩ = some (.int .i64 g) ∧ gl < w6.heap.size ∧ gh < w6.heap.size from ⟨by rw [← HN.out, ← HTA.out, ← HTC.out]; exact d1', row51 H6.out.box, dl', H6.out.box.lt⟩)
    clear df hown6 hb6
    refine hK1.out _ _ (fun _ => HS6.out) ?_
    clear hK1 K1
    (try simp only [Act.put, List.getElem_toArray, List.getElem_cons_succ, List.getElem_cons_zero, List.setIfInBounds_toArray, List.set_cons_zero, List.set_cons_succ])
    refine wpAnyT_one (i := 22) rfl (by kernel_rfl) (fun K2 hK2 => ?_)
    go_simp
    refine hK2.out _ _ (fun _ => HS6.out) ?_
    clear hK2 K2
    (try simp only [Act.put, List.getElem_toArray, List.getElem_cons_succ, List.getElem_cons_zero, List.setIfInBounds_toArray, List.set_cons_zero, List.set_cons_succ])
    refine wpAnyT_one (i := 23) rfl (by kernel_rfl) (fun K3 hK3 => ?_)
    go_simp
    refine hK3.out _ _ (fun _ => HS6.out) ?_
    clear hK3 K3
    (try simp only [Act.put, List.getElem_toArray, List.getElem_cons_succ, List.getElem_cons_zero, List.setIfInBounds_toArray, List.set_cons_zero, List.set_cons_succ])
    refine wpAnyT_one (i := 24) rfl (by kernel_rfl) (fun K4 hK4 => ?_)
    go_simp
    refine hK4.out _ _ (fun h => absurd rfl h) ?_
    clear hK4 K4
    (try simp only [Act.put, List.getElem_toArray, List.getElem_cons_succ, List.getElem_cons_zero, List.setIfInBounds_toArray, List.set_cons_zero, List.set_cons_succ])
    refine wpAnyT_done (by kernel_rfl) ?_ _
    have hlen : ((ts.getD k mmZ).q ++ [g]).length = n + 1 := by rw [List.length_append, HN.out]; rfl
    have hq6 : QOk (gh + 1) w6 (some gl) ⟨(ts.getD k mmZ).who, A6, c6, (ts.getD k mmZ).q ++ [g]⟩ := by
      have hlt5 : gl < w4.heap.size := H5.out.lt.2
      have hlt6 := HLT.1
      have hgg : gh < gl := HLT.1
      refine ⟨?_, ⟨by dsimp only; rw [hlen]; exact hc6, hcm6⟩, fun p hp => ?_⟩
      · dsimp only
        rw [hlen, Cs_append, Cs_one]
        exact Rd.of_own HO6.out
      · have hp : A6 = some p := hp
        subst hp
        rcases HO6.out.2 with ⟨h1, _⟩ | ⟨gg, cap, cur, hv, hge, hh, _⟩
        · injection h1 with h1; cases h1
        · injection hv with h1
          injection h1 with h1
          subst h1
          have hge2 : w4.heap.size ≤ gg := Nat.le_trans ((Below.refl w4.drew.heap.size w4.drew).alloc (Nat.le_refl _) (.cells #[.int .i64 g] 3)).size hge
          have hl6 := (Array.getElem?_eq_some_iff.1 hh).1
          exact ⟨by show gh + 1 ≤ gg; omega, hl6, by show some gg ≠ some gl; intro e; injection e with e; omega, cur, hh⟩
    have H7 := hide (H6.out.setQ hk hlen hq6)
    have HB7 := hide ((HB3.out.trans ((HB5.out.trans (HB6.out.mono HB5.out.size)).mono (Nat.le_of_lt (Nat.lt_of_lt_of_le HLT.1 (Nat.le_of_lt H3.out.lt.2))))).setCell (p := ⟨gl, k * 2 + 1, none⟩) (Nat.le_of_lt HLT.1) (.slice A6 (n + 1) c6))
    have HM7 := hide (show mus (ts.set k ⟨(ts.getD k mmZ).who, A6, c6, (ts.getD k mmZ).q ++ [g]⟩) = (mus ts).set k (who, (ts.getD k mmZ).q ++ [g]) from by rw [mus_set, ← HWH.out]; rfl)
    clear hlen hq6
    go_wp2_with fail
    go_end0
    exact ⟨HB7.out, .inl ⟨_, false, rfl, by rw [HOK.out, HM7.out], H7.out⟩⟩
end Go.Proofs.Ytlelpnahillioaa

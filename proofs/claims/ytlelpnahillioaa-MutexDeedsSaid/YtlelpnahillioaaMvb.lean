/-
  The reference's: asked for; left.
-/
import Derived.Test.YtlelpnahillioaaMva
import Derived.Test.YtlelpnahillioaaMuzs
set_option linter.unusedSimpArgs false
set_option linter.unusedVariables false
namespace Go.Proofs.Ytlelpnahillioaa
open Go Go.RowKit
attribute [local go_sem] via_cell via_frozen

theorem made_head {b m c : Nat} {A : Option Addr} {w : World} {ts : List Mm} (h : MadeM b w (.slice A m c) ts) (hm : ts.length = m) (h0 : 0 < m) : ∃ gl cur, A = some ⟨gl, 0, none⟩ ∧ b ≤ gl ∧ RowAt w gl 47 cur ∧ m * 2 ≤ cur.size := by
  subst hm
  rcases h.own.2 with ⟨_, hz⟩ | ⟨g, cap, cur, hv, hge, hh, hnc, _, hsz, _⟩
  · omega
  · injection hv with h1
    exact ⟨g, cur, h1, hge, hh, by omega⟩
theorem made_at {b gl m c : Nat} {w : World} {ts : List Mm} (h : MadeM b w (.slice (some ⟨gl, 0, none⟩) m c) ts) (hm : ts.length = m) {k : Nat} (hk : k < m) : w.cell? ⟨gl, k * 2, none⟩ = some (.int .i64 (ts.getD k mmZ).who) ∧ w.cell? ⟨gl, k * 2 + 1, none⟩ = some (.slice (ts.getD k mmZ).A (ts.getD k mmZ).q.length (ts.getD k mmZ).c) ∧ (∀ j, w.frozen? ⟨gl, j, none⟩ = false) ∧ gl < w.heap.size := by
  obtain ⟨b, o, e, _, d0, d1, _⟩ := (h.rm hm).at_ hk
  injection e with e
  injection e with e1 e2
  subst e1; subst e2
  refine ⟨by simpa using d0, by simpa using d1, fun j => ?_, ?_⟩
  · have := h.own
    rw [hm] at this
    exact this.frozenAt j
  · exact (h.own.lt _ rfl).2
theorem CopyM.setQ {b gl m c c' n' : Nat} {w wB : World} {us : List Mm} (h : CopyM b w (.slice (some ⟨gl, 0, none⟩) m c) us) (hm : us.length = m) {k : Nat} (hk : k < m) {A2 : Option Addr} {n2 c2 : Nat} {q2 : List Int}
    (hg : w.grownBy wB (Value.slice (us.getD k mmZ).A n' c').ownBlock) (ho : wB.ownsRow b 3 1 (.slice A2 n2 c2) n2 (Cs encI q2)) (hn : q2.length = n2) (hv : (Value.slice A2 n2 c2).ownBlock = (Value.slice (us.getD k mmZ).A n' c').ownBlock ∨ (Value.slice A2 n2 c2).ownBlock = some w.heap.size) :
    MadeM b (wB.setCell ⟨gl, k * 2 + 1, none⟩ (.slice A2 n2 c2)) (.slice (some ⟨gl, 0, none⟩) m c) (us.set k ⟨(us.getD k mmZ).who, A2, c2, q2⟩) := by
  subst hm
  have hkm := getM_mem hk
  have hgl := h.made.own.lt gl rfl
  have hno : ∀ p, (us.getD k mmZ).A = some p → p.block ≠ gl := fun p hp e => ((h.made.qs _ hkm).fr p hp).2.2.1 (by rw [e]; rfl)
  have hob : ∀ g, (Value.slice (us.getD k mmZ).A n' c').ownBlock = some g → ∃ p, (us.getD k mmZ).A = some p ∧ p.block = g := fun g hg => by
    cases hA : (us.getD k mmZ).A with
    | none => rw [hA] at hg; cases hg
    | some p => rw [hA] at hg; injection hg with hg; exact ⟨p, rfl, hg⟩
  have hglo : some gl ≠ (Value.slice (us.getD k mmZ).A n' c').ownBlock := fun e => by
    obtain ⟨p, hp, e2⟩ := hob gl e.symm
    exact hno p hp e2
  have hrow : wB.ownsRow b 47 2 (.slice (some ⟨gl, 0, none⟩) us.length c) us.length (Cs encM us) := own_at h.made.own (fun p hp => by injection hp with hp; subst hp; exact hg.block _ hgl.2 hglo)
  have h1 := hrow.stored (k * 2 + 1) (.slice A2 n2 c2)
  have h2 := h1.1
  have hw : w.heap.size ≤ wB.heap.size := hg.size
  have hset : ∀ u, QOk b wB (some gl) u → QOk b (wB.setCell ⟨gl, k * 2 + 1, none⟩ (.slice A2 n2 c2)) (some gl) u := fun u hu => hu.keep (by simp) (fun p hp => heap_setCell_ne _ _ _ _ (by
    have := (hu.fr p hp).2.2.1
    intro e
    exact this (by rw [e])))
  have hy : QOk b wB (some gl) ⟨(us.getD k mmZ).who, A2, c2, q2⟩ := by
    obtain ⟨_, _, he, hc1, hc2⟩ := own_form2 ho
    injection he with _ _ he
    subst he
    refine ⟨by dsimp only; rw [hn]; exact Rd.of_own ho, ⟨by dsimp only; omega, hc2⟩, fun p hp => ?_⟩
    have hp : A2 = some p := hp
    subst hp
    rcases ho.2 with ⟨h1, _⟩ | ⟨gg, cap, cur, hv1, hge, hh, _⟩
    · injection h1 with h1; cases h1
    · injection hv1 with h1
      injection h1 with h1
      subst h1
      refine ⟨hge, (Array.getElem?_eq_some_iff.1 hh).1, fun e => ?_, cur, hh⟩
      injection e with e
      have e : gg = gl := e
      subst e
      rcases hv with hv | hv
      · exact hglo hv
      · injection hv with hv
        have hv : gg = w.heap.size := hv
        omega
  refine ⟨?_, fun t ht => ?_⟩
  · rw [Cs_setE encM_len us k 1 ⟨(us.getD k mmZ).who, A2, c2, q2⟩ _ hk (by omega) (by rw [← getM_get hk]; show [_, _] = [_, _]; rw [hn])] at h2
    simpa using h2
  · obtain ⟨j, hj, rfl⟩ := List.getElem_of_mem ht
    rw [List.length_set] at hj
    rw [List.getElem_set]
    by_cases hjk : k = j
    · rw [if_pos hjk]; exact hset _ hy
    · rw [if_neg hjk]
      have hu := h.made.qs us[j] (List.getElem_mem hj)
      have hne : ∀ p, us[j].A = some p → some p.block ≠ (Value.slice (us.getD k mmZ).A n' c').ownBlock := fun p hp e => by
        obtain ⟨p2, hp2, e2⟩ := hob _ e.symm
        rcases Nat.lt_or_ge j k with hlt | hge
        · exact h.apart j k hlt hk p p2 (by rw [getM_get hj]; exact hp) hp2 e2.symm
        · exact h.apart k j (by omega) hj p2 p hp2 (by rw [getM_get hj]; exact hp) e2
      exact hset _ (hu.keep hw (fun p hp => hg.block _ (hu.fr p hp).2.1 (hne p hp)))
theorem outK_err {base k : Nat} {vv : Value} {E : Int} {w : World} : OutK base [] vv E (.returned (.tuple #[.slice none 0 0, vv, .int .i64 E])) w := ⟨none, 0, 0, rfl, ⟨[], rfl, rfl, MadeM.nil _ _⟩⟩
set_option maxHeartbeats 4000000 in
theorem rask_any (B : Nat) (A : Option Addr) (c m : Nat) (ts : List Mm) (wh g : Int) (W : World) (h : RM W B A m ts) (hs : SmallM ts) (hB : B ≤ W.heap.size) (l2 : Ml) (b2 : Bool) (E : Int) (h1 : outL (askX (mus ts) wh g) = l2) (h2 : outV false (askX (mus ts) wh g) = b2) (h3 : outE (askX (mus ts) wh g) = E) :
    Calls Try.prog 14 #[.slice A m c, .int .i64 wh, .int .i64 g] W fun e W' => OutK W.heap.size l2 (.bool b2) E e W' ∧ Below W.heap.size W W' := by
  have H := hide h
  have HS := hide hs
  have HL := hide h.len
  have hm : m ≤ 4096 := by have := hs.1; have := h.len; omega
  rw [argB_ask (show (mus ts).length = m by rw [mus_len, h.len])] at h1 h2 h3
  have HERR := hide (fun (E : Int) (w : World) => (outK_err (base := W.heap.size) (k := 0) (vv := .bool false) (E := E) (w := w)))
  clear h hs
  obtain ⟨bg, hbg⟩ : ∃ b, goerB g = b := ⟨_, rfl⟩
  have HGR := hide (fun w => goer_any g w bg hbg)
  have HGI := hide (show bg = true → 0 ≤ g ∧ g < 8 from fun e => goerB_iff.1 (hbg.trans e))
  by_cases c1 : wh < 0
  · have e1 : decide (wh < 0) = true := by simpa using c1
    have ha : argB m wh g = false := by unfold argB; rw [decide_eq_false (show ¬ 0 ≤ wh by omega)]; rfl
    rw [ha] at h1 h2 h3
    obtain rfl : [] = l2 := h1
    obtain rfl : false = b2 := h2
    obtain rfl : 2 = E := h3
    clear c1 ha hbg
    go_enter Try.func14, Try.ntmps14
    go_wp2_with fail
    go_ret3
    exact ⟨HERR.out 2 _, Below.refl _ _⟩
  have e1 : decide (wh < 0) = false := by simpa using c1
  obtain ⟨k, rfl⟩ := Int.eq_ofNat_of_zero_le (show 0 ≤ wh by omega)
  by_cases hk : k < m
  case neg =>
    have e2 : decide ((m : Int) ≤ (k : Int)) = true := by simp; omega
    have e2N : decide (m ≤ k) = true := by simp; omega
    have ha : argB m k g = false := by unfold argB; rw [decide_eq_false (show ¬ ((k : Int) < (m : Int)) by omega)]; simp
    rw [ha] at h1 h2 h3
    obtain rfl : [] = l2 := h1
    obtain rfl : false = b2 := h2
    obtain rfl : 2 = E := h3
    clear c1 ha hbg hk
    go_enter Try.func14, Try.ntmps14
    go_wp2_with fail
    go_ret3
    exact ⟨HERR.out 2 _, Below.refl _ _⟩
  have e2 : decide ((m : Int) ≤ (k : Int)) = false := by simp; omega
  have e2N : decide (m ≤ k) = false := by simp; omega
  cases bg
  · have ha : argB m k g = false := by unfold argB; rw [hbg]; simp
    rw [ha] at h1 h2 h3
    obtain rfl : [] = l2 := h1
    obtain rfl : false = b2 := h2
    obtain rfl : 2 = E := h3
    clear c1 ha hbg
    go_enter Try.func14, Try.ntmps14
    go_wp2_with fail
    with_reducible refine (HGR.out _).mono ?_
    rintro e w2 ⟨rfl, rfl⟩
    go_wp2_with fail
    go_ret3
    exact ⟨HERR.out 2 _, Below.refl _ _⟩
  obtain ⟨hg0, hg8⟩ := HGI.out rfl
  have hwg : wrap64 (g + 1) = g + 1 := IntWalk.wrap64_in _ (by omega)
  have ha : argB m k g = true := argB_iff.2 ⟨by omega, by omega, hg0, hg8⟩
  have hkI : (k : Int) < (m : Int) := by omega
  have hlx : k < ts.length := by rw [HL.out]; exact hk
  obtain ⟨b, o, rfl, hb, d0, d1, _⟩ := H.out.at_ hk
  have hbl : b < W.heap.size := Nat.lt_of_lt_of_le hb hB
  obtain ⟨y, hy⟩ : ∃ y, waitsX (mus ts) g = y := ⟨_, rfl⟩
  have HW := hide (rwaits_any B (some ⟨b, o, none⟩) c m ts g W H.out HS.out hB y hy)
  have hR : (if !argB m (k : Int) g then (.error 2 : Except Int (Ml × Bool)) else if (mAt (mus ts) (k : Int).toNat).1 = g + 1 ∨ 0 ≤ waitsX (mus ts) g then .error 151 else if (mAt (mus ts) (k : Int).toNat).1 = 0 then .ok ((mus ts).set (k : Int).toNat (g + 1, (mAt (mus ts) (k : Int).toNat).2), true) else .ok ((mus ts).set (k : Int).toNat ((mAt (mus ts) (k : Int).toNat).1, (mAt (mus ts) (k : Int).toNat).2 ++ [g]), false))
      = (if (ts.getD k mmZ).who = g + 1 ∨ 0 ≤ y then (.error 151 : Except Int (Ml × Bool)) else if (ts.getD k mmZ).who = 0 then .ok ((mus ts).set k (g + 1, (ts.getD k mmZ).q), true) else .ok ((mus ts).set k ((ts.getD k mmZ).who, (ts.getD k mmZ).q ++ [g]), false)) := by
    rw [ha, hy, Int.toNat_natCast, mus_at]; rfl
  rw [hR] at h1 h2 h3
  have HCP := hide (fun w (hb : Below W.heap.size W w) => copy_any B (some ⟨b, o, none⟩) c m ts w (H.out.below (hb.mono hB)) HS.out (Nat.le_trans hB hb.size))
  have htq := HS.out.2 _ (getM_mem hlx)
  obtain ⟨who, hwho⟩ : ∃ y, (ts.getD k mmZ).who = y := ⟨_, rfl⟩
  obtain ⟨tq, htq2⟩ : ∃ y, (ts.getD k mmZ).q = y := ⟨_, rfl⟩
  rw [hwho] at d0 h1 h2 h3
  rw [htq2] at h1 h2 h3 htq
  have HWQ := hide (show (ts.getD k mmZ).mu = (who, tq) from by rw [← hwho, ← htq2]; rfl)
  clear c1 ha hR hbg hb hy d1 hwho htq2
  by_cases c3 : who = g + 1
  · have hd : (who == g + 1) = true := by simpa using c3
    rw [if_pos (.inl c3)] at h1 h2 h3
    obtain rfl : [] = l2 := h1
    obtain rfl : false = b2 := h2
    obtain rfl : 151 = E := h3
    clear c3
    go_enter Try.func14, Try.ntmps14
    go_wp2_with fail
    with_reducible refine (HGR.out _).mono ?_
    rintro e w2 ⟨rfl, rfl⟩
    go_wp2_with fail
    go_ret3
    exact ⟨HERR.out 151 _, Below.refl _ _⟩
  have hd : (who == g + 1) = false := by simpa using c3
  by_cases c4 : 0 ≤ y
  · have hd2 : decide (0 ≤ y) = true := by simpa using c4
    rw [if_pos (.inr c4)] at h1 h2 h3
    obtain rfl : [] = l2 := h1
    obtain rfl : false = b2 := h2
    obtain rfl : 151 = E := h3
    clear c3 c4
    go_enter Try.func14, Try.ntmps14
    go_wp2_with fail
    with_reducible refine (HGR.out _).mono ?_
    rintro e w2 ⟨rfl, rfl⟩
    go_wp2_with fail
    with_reducible refine HW.out.mono ?_
    rintro e w3 ⟨rfl, hb⟩
    have HB3 := hide hb
    clear hb
    go_wp2_with fail
    go_ret3
    exact ⟨HERR.out 151 _, HB3.out⟩
  have hd2 : decide (0 ≤ y) = false := by simpa using c4
  rw [if_neg (fun e => e.elim c3 c4)] at h1 h2 h3
  clear c3 c4
  have H1 := hide h1
  have H2 := hide h2
  have H3 := hide h3
  clear h1 h2 h3
  go_enter Try.func14, Try.ntmps14
  go_wp2_with fail
  with_reducible refine (HGR.out _).mono ?_
  rintro e w2 ⟨rfl, rfl⟩
  go_wp2_with fail
  with_reducible refine HW.out.mono ?_
  rintro e w3 ⟨rfl, hb⟩
  have HB3 := hide hb
  have HC3 := hide (HCP.out _ hb)
  clear hb HW
  go_wp2_with fail
  with_reducible refine HC3.out.mono ?_
  rintro e w4 ⟨⟨A2, c2, us, rfl, hmu, hul, hcm⟩, hb⟩
  obtain ⟨gl, cur, rfl, hgl, _, _⟩ := made_head hcm.made hul (by omega)
  have HCM := hide hcm
  have HUL := hide hul
  have HMU := hide hmu
  have HB4 := hide (HB3.out.trans (hb.mono HB3.out.size))
  have HGL := hide (show W.heap.size ≤ gl from Nat.le_trans HB3.out.size hgl)
  have e0 := (HB4.out.cell (p := ⟨b, o + k * 2, none⟩) hbl).trans d0
  have hbl4 : b < w4.heap.size := Nat.lt_of_lt_of_le hbl HB4.out.size
  obtain ⟨f0, f1, ff, fl⟩ := made_at hcm.made hul hk
  have ff0 := ff (k * 2)
  have ff1 := ff (k * 2 + 1)
  have HBS := hide hgl
  have HUK := hide (show (us.getD k mmZ).mu = (who, tq) from by rw [← HWQ.out, ← mus_at, ← mus_at, hmu])
  have hbne : ¬ b = gl := by have := HGL.out; omega
  have hbne' : ¬ gl = b := by have := HGL.out; omega
  clear hb HC3 hcm hul hmu hgl ff d0
  by_cases c5 : who = 0
  · have hd3 : (who == 0) = true := by simpa using c5
    have HR1 := hide (show (mus ts).set k (g + 1, tq) = l2 from by have h := H1.out; rw [if_pos c5] at h; exact h)
    have HR2 := hide (show true = b2 from by have h := H2.out; rw [if_pos c5] at h; exact h)
    have HR3 := hide (show 0 = E from by have h := H3.out; rw [if_pos c5] at h; exact h)
    have HNW := hide (HCM.out.made.put HUL.out hk (i := 0) (by omega) (v := .int .i64 (g + 1)) (y := { us.getD k mmZ with who := g + 1 }) rfl ⟨(HCM.out.made.qs _ (getM_mem (by rw [HUL.out]; exact hk))).rd, (HCM.out.made.qs _ (getM_mem (by rw [HUL.out]; exact hk))).cap, (HCM.out.made.qs _ (getM_mem (by rw [HUL.out]; exact hk))).fr⟩)
    have HBF := hide (HB4.out.setCell (p := ⟨gl, k * 2, none⟩) HGL.out (.int .i64 (g + 1)))
    have HFM := hide (show mus (us.set k { us.getD k mmZ with who := g + 1 }) = l2 from by
      rw [mus_set, HMU.out, ← HR1.out]
      have := congrArg Prod.snd HUK.out
      have this : (us.getD k mmZ).q = tq := this
      show (mus ts).set k (g + 1, (us.getD k mmZ).q) = _
      rw [this])
    have HFR := hide (show OutK W.heap.size l2 (.bool b2) E (.returned (.tuple #[.slice (some ⟨gl, 0, none⟩) m c2, .bool true, .int .i64 0])) (w4.setCell ⟨gl, k * 2, none⟩ (.int .i64 (g + 1))) from by
      rw [← HR2.out, ← HR3.out]
      exact ⟨_, _, _, rfl, ⟨_, HFM.out, by rw [List.length_set]; exact HUL.out, by have h := HNW.out; rw [Nat.add_zero] at h; exact h.base (Nat.le_trans HB3.out.size (Nat.le_refl _))⟩⟩)
    clear c5
    go_wp2_with fail
    go_ret3
    exact ⟨HFR.out, HBF.out⟩
  · have hd3 : (who == 0) = false := by simpa using c5
    have HR1 := hide (show (mus ts).set k (who, tq ++ [g]) = l2 from by have h := H1.out; rw [if_neg c5] at h; exact h)
    have HR2 := hide (show false = b2 from by have h := H2.out; rw [if_neg c5] at h; exact h)
    have HR3 := hide (show 0 = E from by have h := H3.out; rw [if_neg c5] at h; exact h)
    obtain ⟨tn, htn⟩ : ∃ n, tq.length = n := ⟨_, rfl⟩
    have HTN := hide htn
    have hqe : (us.getD k mmZ).q = tq := congrArg Prod.snd HUK.out
    have hwe : (us.getD k mmZ).who = who := congrArg Prod.fst HUK.out
    have HQW := hide (show w4.ownsRow w3.heap.size 3 1 (.slice (us.getD k mmZ).A tn (us.getD k mmZ).c) tn (Cs encI tq) from by
      have h := HCM.out.own _ (getM_mem (by rw [HUL.out]; exact hk))
      unfold QOwn at h
      rw [hqe, htn] at h; exact h)
    rw [hqe, htn] at f1
    rw [htn] at htq
    have HSQ := hide (fun (wB : World) (A3 : Option Addr) (c3 : Nat) (hg : (w4.alloc (.cells #[.int .i64 g] 3)).grownBy wB (Value.slice (us.getD k mmZ).A tn (us.getD k mmZ).c).ownBlock) (ho : wB.ownsRow w3.heap.size 3 1 (.slice A3 (tn + 1) c3) (tn + 1) (Cs encI (tq ++ [g]))) (hv : (Value.slice A3 (tn + 1) c3).ownBlock = (Value.slice (us.getD k mmZ).A tn (us.getD k mmZ).c).ownBlock ∨ (Value.slice A3 (tn + 1) c3).ownBlock = some (w4.alloc (.cells #[.int .i64 g] 3)).heap.size) =>
      (HCM.out.below ((Below.refl _ _).alloc (Nat.le_refl _) _)).setQ HUL.out hk hg ho (by rw [List.length_append, HTN.out]; rfl) hv)
    rw [hwe] at HSQ
    have HGNE := hide (show some gl ≠ (Value.slice (us.getD k mmZ).A tn (us.getD k mmZ).c).ownBlock from fun e => by
      cases hA : (us.getD k mmZ).A with
      | none => rw [hA] at e; cases e
      | some p =>
        rw [hA] at e
        exact ((HCM.out.made.qs _ (getM_mem (by rw [HUL.out]; exact hk))).fr p hA).2.2.1 e.symm)
    generalize hu : us.getD k mmZ = u at *
    obtain ⟨uw, uA, uc, uq⟩ := u
    dsimp only at *
    have HU := hide hu
    clear hu hqe hwe htn c5
    have HO1 := hide (HQW.out.alloc (.cells #[.int .i64 g] 3))
    have HBM := hide (show Below w4.heap.size w4 (w4.alloc (.cells #[.int .i64 g] 3)) from (Below.refl _ _).alloc (Nat.le_refl _) _)
    have HSRC := hide (Rd.new w4 #[.int .i64 g] 3 1 1 rfl)
    have HF1 := hide (show (w4.alloc (.cells #[.int .i64 g] 3)).cell? ⟨gl, k * 2 + 1, none⟩ = some (.slice uA tn uc) from (HBM.out.cell (p := ⟨gl, k * 2 + 1, none⟩) fl).trans f1)
    have HFF1 := hide (show (w4.alloc (.cells #[.int .i64 g] 3)).frozen? ⟨gl, k * 2 + 1, none⟩ = false from (HBM.out.frozen (p := ⟨gl, k * 2 + 1, none⟩) fl).trans ff1)
    have HFL := hide (show gl < (w4.alloc (.cells #[.int .i64 g] 3)).heap.size from Nat.lt_of_lt_of_le fl HBM.out.size)
    have HB3S := hide (show w3.heap.size ≤ w4.heap.size from by have := HBS.out; omega)
    go_wp2_with (at_builtin; go_loud (refine wpList_app elI rfl _ _ rfl rfl HO1.out rfl HSRC.out (by simp [Value.oneCell']) (by omega) (by have := HB3S.out; have := HBM.out.size; omega) ?_; intro v2 wB hownB hbB hgB hvB; obtain ⟨A3, c3, rfl, hc31, hc32⟩ := own_form2 hownB; have r1 := (cell_of_heap (p := ⟨gl, k * 2 + 1, none⟩) (hgB.block _ HFL.out HGNE.out)).trans HF1.out; have r2 := grown_frozen hgB HFL.out HGNE.out HFF1.out; have r3 := Nat.lt_of_lt_of_le HFL.out hgB.size; have HNW := hide (HSQ.out wB A3 c3 hgB (by rw [Cs_append, Cs_one]; exact hownB) hvB); have HBB := hide hbB; clear hownB hbB hgB hvB))
    have HBF := hide ((HB4.out.trans (((HBM.out.mono HB3S.out).trans HBB.out).mono HB3.out.size)).setCell (p := ⟨gl, k * 2 + 1, none⟩) HGL.out (.slice A3 (tn + 1) c3))
    have HFM := hide (show mus (us.set k ⟨who, A3, c3, tq ++ [g]⟩) = l2 from by rw [mus_set, HMU.out, ← HR1.out]; rfl)
    have HFR := hide (show OutK W.heap.size l2 (.bool b2) E (.returned (.tuple #[.slice (some ⟨gl, 0, none⟩) m c2, .bool false, .int .i64 0])) (wB.setCell ⟨gl, k * 2 + 1, none⟩ (.slice A3 (tn + 1) c3)) from by
      rw [← HR2.out, ← HR3.out]
      exact ⟨_, _, _, rfl, ⟨_, HFM.out, by rw [List.length_set]; exact HUL.out, HNW.out.base HB3.out.size⟩⟩)
    go_wp2_with fail
    go_ret3
    exact ⟨HFR.out, HBF.out⟩
end Go.Proofs.Ytlelpnahillioaa

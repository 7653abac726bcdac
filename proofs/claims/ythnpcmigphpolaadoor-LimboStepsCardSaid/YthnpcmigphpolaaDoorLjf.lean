/-
  LimboEnds: with the epoch going on three times all that waited has been taken, in order.
-/
import Derived.Test.YthnpcmigphpolaaDoorLje
set_option linter.unusedSimpArgs false
set_option linter.unusedVariables false
namespace Go.Proofs.YthnpcmigphpolaaDoor
open Go Go.RowKit
attribute [local go_sem] via_cell via_frozen

abbrev onE : Ent := (-1, 0)
theorem step_on {l l' : Lim} {o : List Ent} (h : doStep l onE = .ok (l', o)) : o = l.at 2 ∧ doAdv (drain l) = .ok l' := by
  have e : doStep l onE = (doAdv (drain l)).map (fun l' => (l', l.at 2)) := by unfold doStep; rw [if_neg (by decide)]
  rw [e] at h
  cases hq : doAdv (drain l) with
  | error k => rw [hq] at h; cases h
  | ok p => rw [hq] at h; injection h with h; injection h with h1 h2; subst h1; exact ⟨h2.symm, rfl⟩
theorem step_on_err {l : Lim} {k : Int} (h : doStep l onE = .error k) : k = 6 ∧ LAST ≤ l.E := by
  have e : doStep l onE = (doAdv (drain l)).map (fun l' => (l', l.at 2)) := by unfold doStep; rw [if_neg (by decide)]
  rw [e] at h
  unfold doAdv at h
  rw [if_neg (by simp [(each_drain l).2.2])] at h
  split at h
  · cases h
  · rename_i hn
    injection h with h
    exact ⟨h.symm, by have := (each_drain l).2.1; omega⟩
theorem drain_mem {l : Lim} {p : Nat × Ent} (h : p ∈ (drain l).each) : p.1 ≤ 1 ∧ p ∈ l.each := by
  refine ⟨?_, by rw [(each_drain l).1]; exact List.mem_append.2 (.inr h)⟩
  obtain ⟨a, ha, hpa, hm⟩ := mem_each h
  by_cases h2 : a = 2
  · subst h2; rw [(each_drain l).2.2] at hm; cases hm
  · omega
theorem adv_mem {l l' : Lim} {p : Nat × Ent} (h : doAdv l = .ok l') (hp : p ∈ l'.each) : ∃ q ∈ l.each, p = (q.1 + 1, q.2) := by
  rw [(each_adv h).1] at hp
  obtain ⟨q, hq, he⟩ := List.mem_map.1 hp
  exact ⟨q, hq, he.symm⟩
theorem ends_ok {l l3 : Lim} {took : List Ent} (h : doRun l [onE, onE, onE] [] = .ok (l3, took)) : took = l.held ∧ l3.held = [] ∧ l3.E = l.E + 3 := by
  simp only [doRun] at h
  cases h1 : doStep l onE with
  | error k => rw [h1] at h; cases h
  | ok p =>
    obtain ⟨l1, o1⟩ := p
    rw [h1] at h
    simp only at h
    cases h2 : doStep l1 onE with
    | error k => rw [h2] at h; cases h
    | ok p =>
      obtain ⟨l2, o2⟩ := p
      rw [h2] at h
      simp only at h
      cases h3 : doStep l2 onE with
      | error k => rw [h3] at h; cases h
      | ok p =>
        obtain ⟨l3', o3⟩ := p
        rw [h3] at h
        injection h with h
        injection h with e1 e2
        subst e1
        obtain ⟨ho1, a1⟩ := step_on h1
        obtain ⟨ho2, a2⟩ := step_on h2
        obtain ⟨ho3, a3⟩ := step_on h3
        have hE : l3'.each = [] := by
          rcases hz : l3'.each with _ | ⟨p, r⟩
          · rfl
          · exfalso
            obtain ⟨q, hq, _⟩ := adv_mem a3 (p := p) (by rw [hz]; simp)
            obtain ⟨hq1, hq2⟩ := drain_mem hq
            obtain ⟨q2, hq3, he2⟩ := adv_mem a2 hq2
            obtain ⟨_, hq4⟩ := drain_mem hq3
            obtain ⟨q3, _, he3⟩ := adv_mem a1 hq4
            have e1 : q.1 = q2.1 + 1 := by rw [he2]
            have e2 : q2.1 = q3.1 + 1 := by rw [he3]
            omega
        have hh : l3'.held = [] := by rw [← each_held, hE]; rfl
        refine ⟨?_, hh, ?_⟩
        · rw [← e2, ho1, ho2, ho3, held_drain l, ← held_adv a1, held_drain l1, ← held_adv a2, held_drain l2, ← held_adv a3, hh]
          simp
        · have := (each_adv a1).2.1; have := (each_adv a2).2.1; have := (each_adv a3).2.1
          have := (each_drain l).2.1; have := (each_drain l1).2.1; have := (each_drain l2).2.1
          omega
theorem ends_err {l : Lim} {k : Int} (h : doRun l [onE, onE, onE] [] = .error k) : k = 6 ∧ LAST < l.E + 3 := by
  simp only [doRun] at h
  cases h1 : doStep l onE with
  | error k1 => rw [h1] at h; injection h with h; obtain ⟨hk, hl⟩ := step_on_err h1; exact ⟨by omega, by omega⟩
  | ok p =>
    obtain ⟨l1, o1⟩ := p
    rw [h1] at h
    simp only at h
    have e1 := (each_adv (step_on h1).2).2.1
    have d1 := (each_drain l).2.1
    cases h2 : doStep l1 onE with
    | error k1 => rw [h2] at h; injection h with h; obtain ⟨hk, hl⟩ := step_on_err h2; exact ⟨by omega, by omega⟩
    | ok p =>
      obtain ⟨l2, o2⟩ := p
      rw [h2] at h
      simp only at h
      have e2 := (each_adv (step_on h2).2).2.1
      have d2 := (each_drain l1).2.1
      cases h3 : doStep l2 onE with
      | error k1 => rw [h3] at h; injection h with h; obtain ⟨hk, hl⟩ := step_on_err h3; exact ⟨by omega, by omega⟩
      | ok p => rw [h3] at h; cases h
theorem gen_cut {l : Lim} (h : GenOk l) : GenOk l.cut := fun k hk e he => h k hk e (List.mem_of_mem_take he)
theorem run_gen : ∀ (a : List Ent) (l : Lim) (t : List Ent) (l' : Lim) (t' : List Ent), GenOk l → (∀ e ∈ a, 0 ≤ e.2 ∧ e.2 < 18446744073709551616) → doRun l a t = .ok (l', t') → GenOk l'
  | [], l, t, l', t', hg, _, h => by
    simp only [doRun] at h
    injection h with h
    injection h with h1 h2
    subst h1; exact hg
  | x :: a, l, t, l', t', hg, ha, h => by
    simp only [doRun] at h
    cases hx : doStep l x with
    | error k => rw [hx] at h; cases h
    | ok p =>
      rw [hx] at h
      refine run_gen a p.1 _ l' t' ?_ (fun e he => ha e (by simp [he])) h
      unfold doStep at hx
      split at hx
      · cases hq : doRet l x with
        | error k => rw [hq] at hx; cases hx
        | ok q => rw [hq] at hx; injection hx with hx; rw [← hx]; exact gen_ret hg (ha x (by simp)) hq
      · cases hq : doAdv (drain l) with
        | error k => rw [hq] at hx; cases hx
        | ok q => rw [hq] at hx; injection hx with hx; rw [← hx]; exact gen_adv (gen_upd hg _ _ _ (fun e he => by cases he)) hq
theorem run_ok : ∀ (a : List Ent) (l : Lim) (t : List Ent) (l' : Lim) (t' : List Ent), l.ok = true → doRun l a t = .ok (l', t') → l'.ok = true
  | [], l, t, l', t', hg, h => by
    simp only [doRun] at h
    injection h with h
    injection h with h1 h2
    subst h1; exact hg
  | x :: a, l, t, l', t', hg, h => by
    simp only [doRun] at h
    cases hx : doStep l x with
    | error k => rw [hx] at h; cases h
    | ok p =>
      rw [hx] at h
      refine run_ok a p.1 _ l' t' ?_ h
      unfold doStep at hx
      split at hx
      · cases hq : doRet l x with
        | error k => rw [hq] at hx; cases hx
        | ok q => rw [hq] at hx; injection hx with hx; rw [← hx]; exact ok_ret hg hq
      · cases hq : doAdv (drain l) with
        | error k => rw [hq] at hx; cases hx
        | ok q => rw [hq] at hx; injection hx with hx; rw [← hx]; exact ok_adv (ok_drain hg) hq
set_option maxHeartbeats 4000000 in
theorem Ends_walk (B : Nat) (A : Nat → Option Addr) (n c : Nat → Nat) (l : Lim) (W : World) (hT : OnAt W W.heap.size) (h : LimRd W B A n l.r) (hB : B ≤ W.heap.size) (hE : l.E < 18446744073709551616)
    (hc : ∀ k, k < 3 → (n k : Int) ≤ (c k : Int) ∧ (c k : Int) ≤ 9223372036854775807) (hg : GenOk l) :
    Calls Tryd.prog 3 #[.agg (limC l.E A n c)] W fun e W' => e = .returned (.bool true) ∧ Below W.heap.size W W' := by
  have HBN := hide (show Below W.heap.size W (W.alloc (.cells (limC l.E A n c) 26)) from (Below.refl _ _).alloc (Nat.le_refl _) _)
  have HRN := hide (RowAt.new W 26 (limC l.E A n c))
  have HTT := hide hT
  have H := hide h
  have HG := hide (gen_cut hg)
  have HEQ := hide hE
  have HCC := hide hc
  have HW := hide (wakes_any W.heap.size _ (hT.below HBN.out) HBN.out.size)
  clear hT h hg hE hc
  go_enter Tryd.func3, Tryd.ntmps3
  go_wp2_with fail
  generalize W.alloc (.cells (limC l.E A n c) 26) = w0 at *
  with_reducible refine HW.out.mono ?_
  rintro e w1 ⟨rfl, hb1⟩
  have HR1 := hide (HRN.out.below hb1)
  have HB1 := hide (HBN.out.trans (hb1.mono HBN.out.size))
  clear hb1 HW HRN
  have q0 : w1.cell? ⟨W.heap.size, 0, none⟩ = some (.int .u64 (l.E : Int)) := by have := HR1.out.cell 0; simpa [limC] using this
  have q1 : w1.cell? ⟨W.heap.size, 1, none⟩ = some (.slice (A 0) (n 0) (c 0)) := by have := HR1.out.cell 1; simpa [limC] using this
  have q2 : w1.cell? ⟨W.heap.size, 2, none⟩ = some (.slice (A 1) (n 1) (c 1)) := by have := HR1.out.cell 2; simpa [limC] using this
  have q3 : w1.cell? ⟨W.heap.size, 3, none⟩ = some (.slice (A 2) (n 2) (c 2)) := by have := HR1.out.cell 3; simpa [limC] using this
  have ql := HR1.out.lt
  have HO := hide (own_any B A n c l w1 (H.out.below (HB1.out.mono hB)) (Nat.le_trans hB HB1.out.size) HCC.out)
  go_wp2_with fail
  with_reducible refine HO.out.mono ?_
  rintro e w2 ⟨A2, c2, rfl, hown, hb2⟩
  have HL2 := hide hown.rd
  have HB2 := hide (HB1.out.trans (hb2.mono HB1.out.size))
  clear q0 q1 q2 q3 ql HO hown hb2 HR1
  obtain ⟨lc, hlc⟩ : ∃ lc, l.cut = lc := ⟨_, rfl⟩
  have hEE : l.E = lc.E := by rw [← hlc]; rfl
  rw [hlc] at HL2 HG
  rw [hEE] at HEQ ⊢
  obtain ⟨m, hm⟩ : ∃ m, cutN l = m := ⟨_, rfl⟩
  have HM := hide (show ∀ k, k < 3 → m k ≤ 4096 from fun k _ => by rw [← hm]; have := cutN_le l k; omega)
  rw [hm] at HL2 ⊢
  clear hlc hEE hm H HCC
  have HR3 := hide (RowAt.new w2 26 (limC lc.E A2 m c2))
  have HBN3 := hide (show Below w2.heap.size w2 (w2.alloc (.cells (limC lc.E A2 m c2) 26)) from (Below.refl _ _).alloc (Nat.le_refl _) _)
  go_upto_region 4 with (fail)
  generalize w2.alloc (.cells (limC lc.E A2 m c2) 26) = w3 at *
  have HL3 := hide ((HL2.out.below HBN3.out).more HBN3.out.size)
  have HB3 := hide (HB2.out.trans (HBN3.out.mono HB2.out.size))
  clear HBN3 HL2
  have q0 : w3.cell? ⟨w2.heap.size, 0, none⟩ = some (.int .u64 (lc.E : Int)) := by have := HR3.out.cell 0; simpa [limC] using this
  have q1 : w3.cell? ⟨w2.heap.size, 1, none⟩ = some (.slice (A2 0) (m 0) (c2 0)) := by have := HR3.out.cell 1; simpa [limC] using this
  have q2 : w3.cell? ⟨w2.heap.size, 2, none⟩ = some (.slice (A2 1) (m 1) (c2 1)) := by have := HR3.out.cell 2; simpa [limC] using this
  have q3 : w3.cell? ⟨w2.heap.size, 3, none⟩ = some (.slice (A2 2) (m 2) (c2 2)) := by have := HR3.out.cell 3; simpa [limC] using this
  have ql := HR3.out.lt
  obtain ⟨hs, hhs⟩ : ∃ hs, (if lc.ok then lc.held else []) = hs := ⟨_, rfl⟩
  have HHD := hide (held_any w3.heap.size A2 m c2 lc w3 HL3.out HEQ.out (Nat.le_refl _) HM.out HG.out hs hhs)
  have HHS := hide hhs
  clear hhs
  go_wp2_with fail
  with_reducible refine HHD.out.mono ?_
  rintro e w4 ⟨vh, rfl, hoh, hb4⟩
  have HR4 := hide (HR3.out.below hb4)
  have HL4 := hide ((HL3.out.below hb4).more hb4.size)
  have HB4 := hide (HB3.out.trans (hb4.mono HB3.out.size))
  have HOH := hide hoh
  obtain ⟨Ah, ch, rfl, _⟩ := own_form hoh
  clear q0 q1 q2 q3 ql HHD hoh hb4 HR3 HL3
  have q0 : w4.cell? ⟨w2.heap.size, 0, none⟩ = some (.int .u64 (lc.E : Int)) := by have := HR4.out.cell 0; simpa [limC] using this
  have q1 : w4.cell? ⟨w2.heap.size, 1, none⟩ = some (.slice (A2 0) (m 0) (c2 0)) := by have := HR4.out.cell 1; simpa [limC] using this
  have q2 : w4.cell? ⟨w2.heap.size, 2, none⟩ = some (.slice (A2 1) (m 1) (c2 1)) := by have := HR4.out.cell 2; simpa [limC] using this
  have q3 : w4.cell? ⟨w2.heap.size, 3, none⟩ = some (.slice (A2 2) (m 2) (c2 2)) := by have := HR4.out.cell 3; simpa [limC] using this
  have ql := HR4.out.lt
  have HON := hide (HTT.out.below HB4.out)
  have o0 := HON.out.slab
  have o1 := HON.out.gen
  have ol : 0 < w4.heap.size := by have := HB4.out.size; have := HTT.out.lt; omega
  have HBN5 := hide (show Below w4.heap.size w4 (w4.alloc (.cells #[.int .i64 (-1), .int .u64 0, .int .i64 (-1), .int .u64 0, .int .i64 (-1), .int .u64 0] 34)) from (Below.refl _ _).alloc (Nat.le_refl _) _)
  have HSL := hide (show Rd (w4.alloc (.cells #[.int .i64 (-1), .int .u64 0, .int .i64 (-1), .int .u64 0, .int .i64 (-1), .int .u64 0] 34)) (w4.alloc (.cells #[.int .i64 (-1), .int .u64 0, .int .i64 (-1), .int .u64 0, .int .i64 (-1), .int .u64 0] 34)).heap.size 2 (some ⟨w4.heap.size, 0, none⟩) 3 (Cs encE [onE, onE, onE]) from (Rd.new w4 #[.int .i64 (-1), .int .u64 0, .int .i64 (-1), .int .u64 0, .int .i64 (-1), .int .u64 0] 34 2 3 rfl).more (by simp))
  go_wp2_with fail
  generalize w4.alloc (.cells #[.int .i64 (-1), .int .u64 0, .int .i64 (-1), .int .u64 0, .int .i64 (-1), .int .u64 0] 34) = w5 at *
  have HL5 := hide ((HL4.out.below HBN5.out).more HBN5.out.size)
  have HR5 := hide (HR4.out.below HBN5.out)
  have HB5 := hide (HB4.out.trans (HBN5.out.mono HB4.out.size))
  have HOH5 := hide (own_keepB HOH.out HBN5.out)
  have HRU := hide (Run_any w5.heap.size A2 m c2 lc 3 3 (some ⟨w4.heap.size, 0, none⟩) [onE, onE, onE] w5 HL5.out HEQ.out (Nat.le_refl _) HM.out HG.out HSL.out rfl (by omega) (by decide))
  clear q0 q1 q2 q3 ql HBN5 HSL HL4 HOH o0 o1 ol HON
  with_reducible refine HRU.out.mono ?_
  rintro e w6 ⟨hb6, hres⟩
  have HR6 := hide (HR5.out.below hb6)
  have HL6 := hide ((HL5.out.below hb6).more hb6.size)
  have HB6 := hide (HB5.out.trans (hb6.mono HB5.out.size))
  have HOH6 := hide (own_keepB HOH5.out hb6)
  clear hb6 HRU HR5 HL5 HOH5
  rcases hres with ⟨l', took, v, A', n', c', hr, rfl, hown, hot⟩ | ⟨k, hr, rfl⟩
  · have hok : lc.ok = true := by
      rcases Bool.eq_false_or_eq_true lc.ok with h | h
      · exact h
      · unfold runR at hr; rw [h] at hr; cases hr
    have hr2 : doRun lc [onE, onE, onE] [] = .ok (l', took) := by unfold runR at hr; rw [hok, if_pos rfl] at hr; exact hr
    obtain ⟨ht, hh, hE3⟩ := ends_ok hr2
    have hle := (ok_out hok).1
    have HHS2 := hide (show hs = lc.held from by rw [← HHS.out, hok, if_pos rfl])
    have HTK := hide (show took = hs from by rw [HHS2.out, ht])
    have hlen : hs.length ≤ 128 := by rw [HHS2.out]; exact ok_held_len hok
    have HG' := hide (run_gen _ _ _ _ _ HG.out (by decide) hr2)
    have HOK' := hide (run_ok _ _ _ _ _ hok hr2)
    have HHE := hide (show (if l'.ok then l'.held else []) = ([] : List Ent) from by rw [HOK'.out, if_pos rfl, hh])
    have HEI := hide (show (l'.E : Int) = (lc.E : Int) + 3 from by omega)
    have hEL : (lc.E : Int) ≤ 4611686018427387904 := by unfold LAST at hle; omega
    have hE0 : (0 : Int) ≤ (lc.E : Int) := by omega
    have hELt : l'.E < 18446744073709551616 := by have := HEI.out; omega
    have hM' : ∀ k, k < 3 → n' k ≤ 4096 := fun k hk => by have := lens_ok HOK'.out hown.len k hk; omega
    have hwr : IntKind.u64.wrap ((lc.E : Int) + 3) = (lc.E : Int) + 3 := IntWalk.u64_in _ (by omega)
    obtain ⟨At, ct, rfl, _⟩ := hot.form
    have HL9 := hide hown.rd
    have HOT := hide hot.rd
    have HRN := hide (RowAt.new w6 26 (limC l'.E A' n' c'))
    have HBN := hide (show Below w6.heap.size w6 (w6.alloc (.cells (limC l'.E A' n' c') 26)) from (Below.refl _ _).alloc (Nat.le_refl _) _)
    have hlt2 : w2.heap.size < w6.heap.size := HR6.out.lt
    clear hr hr2 ht hh hE3 hle hok hown hot
    go_upto_region 6 with (fail)
    generalize w6.alloc (.cells #[.int .u64 (l'.E : Int), .slice (A' 0) (n' 0) (c' 0), .slice (A' 1) (n' 1) (c' 1), .slice (A' 2) (n' 2) (c' 2)] 26) = w7 at *
    have HR7 := hide (HR6.out.below HBN.out)
    have HL7 := hide ((HL9.out.below HBN.out).more HBN.out.size)
    have HOT7 := hide ((HOT.out.below HBN.out).more HBN.out.size)
    have HOH7 := hide (Rd.of_own (own_keepB HOH6.out HBN.out))
    have HB7 := hide (HB6.out.trans (HBN.out.mono HB6.out.size))
    clear HR6 HL6 HL9 HOT HOH6 HBN
    rw [HTK.out] at HOT7 ⊢
    have HEQE := hide (EqualE w7.heap.size w7.heap.size At Ah ct ch hs hs w7 HOT7.out HOH7.out (Nat.le_refl _) (Nat.le_refl _) (by omega) (by omega) true (by simp))
    go_wp2_with fail
    with_reducible refine HEQE.out.mono ?_
    rintro e w8 ⟨rfl, hb8⟩
    have HR8 := hide (HR7.out.below hb8)
    have HRN8 := hide (HRN.out.below hb8)
    have HL8 := hide ((HL7.out.below hb8).more hb8.size)
    have HB8 := hide (HB7.out.trans (hb8.mono HB7.out.size))
    clear hb8 HEQE HR7 HRN HL7 HOT7 HOH7
    have q0 : w8.cell? ⟨w6.heap.size, 0, none⟩ = some (.int .u64 (l'.E : Int)) := by have := HRN8.out.cell 0; simpa [limC] using this
    have q1 : w8.cell? ⟨w6.heap.size, 1, none⟩ = some (.slice (A' 0) (n' 0) (c' 0)) := by have := HRN8.out.cell 1; simpa [limC] using this
    have q2 : w8.cell? ⟨w6.heap.size, 2, none⟩ = some (.slice (A' 1) (n' 1) (c' 1)) := by have := HRN8.out.cell 2; simpa [limC] using this
    have q3 : w8.cell? ⟨w6.heap.size, 3, none⟩ = some (.slice (A' 2) (n' 2) (c' 2)) := by have := HRN8.out.cell 3; simpa [limC] using this
    have ql := HRN8.out.lt
    have HHD := hide (held_any w8.heap.size A' n' c' l' w8 HL8.out hELt (Nat.le_refl _) hM' HG'.out [] HHE.out)
    go_wp2_with fail
    with_reducible refine HHD.out.mono ?_
    rintro e w9 ⟨v9, rfl, ho9, hb9⟩
    obtain ⟨A9, c9, rfl, _⟩ := own_form ho9
    have HB9 := hide (HB8.out.trans (hb9.mono HB8.out.size))
    have p0 := kept hb9 q0
    have r0 : w9.cell? ⟨w2.heap.size, 0, none⟩ = some (.int .u64 (lc.E : Int)) := kept hb9 (by have := HR8.out.cell 0; simpa [limC] using this)
    have rl : w2.heap.size < w9.heap.size := (HR8.out.below hb9).lt
    have pl : w6.heap.size < w9.heap.size := (HRN8.out.below hb9).lt
    rw [HEI.out] at p0
    have hde : (((lc.E : Int) + 3) == ((lc.E : Int) + 3)) = true := by simp
    clear q0 q1 q2 q3 ql ho9 hb9 HHD
    go_wp2_with fail
    go_ret
    exact ⟨rfl, HB9.out⟩
  · have hk := runR_ne hr
    have hkb : (k != 0) = true := by simpa using hk
    have hkb2 : (k == 0) = false := by simpa using hk
    have HBN := hide (show Below w6.heap.size w6 (w6.alloc (.cells zeroC 26)) from (Below.refl _ _).alloc (Nat.le_refl _) _)
    go_upto_region 6 with (fail)
    generalize w6.alloc (.cells zeroC 26) = w7 at *
    have HR7 := hide (HR6.out.below HBN.out)
    have HL7 := hide ((HL6.out.below HBN.out).more HBN.out.size)
    have HB7 := hide (HB6.out.trans (HBN.out.mono HB6.out.size))
    clear HBN HR6 HL6 HOH6
    have q0 : w7.cell? ⟨w2.heap.size, 0, none⟩ = some (.int .u64 (lc.E : Int)) := by have := HR7.out.cell 0; simpa [limC] using this
    have q1 : w7.cell? ⟨w2.heap.size, 1, none⟩ = some (.slice (A2 0) (m 0) (c2 0)) := by have := HR7.out.cell 1; simpa [limC] using this
    have q2 : w7.cell? ⟨w2.heap.size, 2, none⟩ = some (.slice (A2 1) (m 1) (c2 1)) := by have := HR7.out.cell 2; simpa [limC] using this
    have q3 : w7.cell? ⟨w2.heap.size, 3, none⟩ = some (.slice (A2 2) (m 2) (c2 2)) := by have := HR7.out.cell 3; simpa [limC] using this
    have ql := HR7.out.lt
    rcases Bool.eq_false_or_eq_true lc.ok with hok | hok
    · have hr2 : doRun lc [onE, onE, onE] [] = .error k := by unfold runR at hr; rw [hok, if_pos rfl] at hr; exact hr
      obtain ⟨rfl, h3⟩ := ends_err hr2
      have hle := (ok_out hok).1
      have hEL : (lc.E : Int) ≤ 4611686018427387904 := by unfold LAST at hle; omega
      have hE0 : (0 : Int) ≤ (lc.E : Int) := by omega
      have hwr : IntKind.u64.wrap ((lc.E : Int) + 3) = (lc.E : Int) + 3 := IntWalk.u64_in _ (by omega)
      have hgt : decide ((4611686018427387904 : Int) < (lc.E : Int) + 3) = true := by unfold LAST at h3; simp; omega
      have HC := hide (check_any w7.heap.size A2 m c2 lc w7 HL7.out HEQ.out (Nat.le_refl _) HM.out HG.out 0 (by rw [hok]; rfl))
      clear hr hr2 h3 hle hok
      go_wp2_with fail
      with_reducible refine HC.out.mono ?_
      rintro e w8 ⟨rfl, hb8⟩
      have HB8 := hide (HB7.out.trans (hb8.mono HB7.out.size))
      have p0 := kept hb8 q0
      have pl : w2.heap.size < w8.heap.size := (HR7.out.below hb8).lt
      clear q0 q1 q2 q3 ql hb8 HC
      go_wp2_with fail
      go_ret
      exact ⟨rfl, HB8.out⟩
    · have hk240 : k = 240 := by unfold runR at hr; rw [hok] at hr; injection hr with hr; exact hr.symm
      subst hk240
      have HC := hide (check_any w7.heap.size A2 m c2 lc w7 HL7.out HEQ.out (Nat.le_refl _) HM.out HG.out 240 (by rw [hok]; rfl))
      clear hr hok
      go_wp2_with fail
      with_reducible refine HC.out.mono ?_
      rintro e w8 ⟨rfl, hb8⟩
      have HB8 := hide (HB7.out.trans (hb8.mono HB7.out.size))
      clear q0 q1 q2 q3 ql hb8 HC
      go_wp2_with fail
      go_ret
      exact ⟨rfl, HB8.out⟩
end Go.Proofs.YthnpcmigphpolaaDoor

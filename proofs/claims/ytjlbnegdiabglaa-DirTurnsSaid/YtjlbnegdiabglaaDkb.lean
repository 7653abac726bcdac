/-
  The reference's spans, walked.
-/
import Derived.Test.YtjlbnegdiabglaaDka
import Derived.Test.YtjlbnegdiabglaaDiq
import Derived.Deep.RegionHeld3
set_option linter.unusedSimpArgs false
set_option linter.unusedVariables false
namespace Go.Proofs.Ytjlbnegdiabglaa
open Go Go.RowKit
attribute [local go_sem] via_cell via_frozen

theorem bestK_or (es : List En) (k : Nat) : ∀ n, bestK es k n = -1 ∨ ∃ q : Nat, bestK es k n = (q : Int) ∧ q < n ∧ condB es k q = true
  | 0 => .inl rfl
  | n + 1 => by
    unfold bestK
    by_cases h : condB es k n = true
    · rw [if_pos h]
      exact .inr ⟨n, rfl, by omega, h⟩
    · rw [if_neg h]
      rcases bestK_or es k n with h1 | ⟨q, h1, h2, h3⟩
      · exact .inl h1
      · exact .inr ⟨q, h1, by omega, h3⟩
theorem condB_fits {es : List En} {k q : Nat} (h : condB es k q = true) : k + 2 ^ q ≤ es.length := by
  unfold condB at h
  simp only [Bool.and_eq_true, decide_eq_true_eq] at h
  exact h.1.2
theorem mayB_ref (dep : Int) (es : List En) : mayB dep es = ((dirShape dep es.length && entsOk es) && runsOk (runs es)) := by
  unfold mayB runsOk
  simp only [Bool.and_assoc]
/-- The reference's walk so far: what it tells is these runs, and what it tells from here on. -/
def SoFar (d : Nat) (es : List En) (k : Nat) (l : List Rn) : Prop := ∃ f, es.length - k ≤ f ∧ refGo d es es.length 0 = (refGo d es f k).map (fun t => l ++ t)
theorem SoFar.start (d : Nat) (es : List En) : SoFar d es 0 [] := ⟨es.length, by omega, by cases refGo d es es.length 0 <;> rfl⟩
theorem SoFar.none {d : Nat} {es : List En} {k : Nat} {l : List Rn} (h : SoFar d es k l) (hk : k < es.length) (hb : bestK es k (d + 1) = -1) : refGo d es es.length 0 = none := by
  obtain ⟨f, h1, h2⟩ := h
  obtain ⟨f, rfl⟩ : ∃ g, f = g + 1 := ⟨f - 1, by omega⟩
  rw [h2]
  unfold refGo
  rw [if_pos hk, hb, if_pos (by decide)]
  rfl
theorem SoFar.next {d : Nat} {es : List En} {k q : Nat} {l : List Rn} (h : SoFar d es k l) (hk : k < es.length) (hb : bestK es k (d + 1) = (q : Int)) : SoFar d es (k + 2 ^ q) (l ++ [⟨k, 2 ^ q, es.getD k (0, 0)⟩]) := by
  obtain ⟨f, h1, h2⟩ := h
  obtain ⟨f, rfl⟩ : ∃ g, f = g + 1 := ⟨f - 1, by omega⟩
  have h3 : 1 ≤ 2 ^ q := Nat.one_le_two_pow
  refine ⟨f, by omega, ?_⟩
  rw [h2]
  conv => lhs; unfold refGo
  rw [if_pos hk, hb, if_neg (by omega), Int.toNat_natCast, Option.map_map]
  congr 1
  funext t
  simp
theorem SoFar.done {d : Nat} {es : List En} {l : List Rn} (h : SoFar d es es.length l) : refGo d es es.length 0 = some l := by
  obtain ⟨f, h1, h2⟩ := h
  rw [h2]
  cases f with
  | zero => simp [refGo]
  | succ f =>
    unfold refGo
    rw [if_neg (by omega)]
    simp
theorem quiet_same {P : Program} {f : FuncId} {args : Array Value} {w : World} {n : Nat} {v : Value} (h : Calls P f args (w.drewN n) fun e w' => e = .returned v ∧ w.drewN n = w') : Calls P f args (w.drewN n) fun e w'' => e = .returned v ∧ ∃ m, w'' = w.drewN m :=
  h.mono fun _ _ ⟨a, b⟩ => ⟨a, n, b.symm⟩
theorem rc_of (dep : Int) (k q : Nat) (e : En) : rc dep ⟨k, 2 ^ q, e⟩ = ⟨e, dep - q, ((k / 2 ^ q : Nat) : Int), k, ((2 ^ q : Nat) : Int)⟩ := by
  unfold rc
  simp only [Nat.log2_two_pow]
set_option maxRecDepth 100000 in
set_option maxHeartbeats 16000000 in
theorem RSpans_any (B : Nat) (A : Option Addr) (c : Nat) (dep : Int) (es : List En) (W : World) (h : DirAt W B A c es) (hB : B ≤ W.heap.size) (hl : es.length ≤ 4096) (o : Bool) (ys : List Rc) (ho : mayB dep es = o) (hy : spansX dep es = ys) :
    Calls Try.prog 13 #[.agg #[.int .i64 dep, .slice A es.length c]] W fun e W' => ∃ A' c', e = .returned (.tuple #[.slice A' ys.length c', .bool o]) ∧ W'.ownsRow W.heap.size 33 6 (.slice A' ys.length c') ys.length (Cs encR ys) ∧ Below W.heap.size W W' := by
  have hba := (Below.refl _ W).alloc (Nat.le_refl _) (.cells #[.int .i64 dep, .slice A es.length c] 24)
  have R1 := hide (RowAt.new W 24 #[.int .i64 dep, .slice A es.length c])
  obtain ⟨r, hr⟩ : ∃ r, (dirShape dep es.length && entsOk es) = r := ⟨_, rfl⟩
  have HD := hide (RDir_any B A c dep es _ (h.rd.below (hba.mono hB)) (Nat.le_trans hB hba.size) h.u hl r hr)
  have H := hide (h.rd)
  have HC := hide h.cap
  have HR := hide hr
  have HO := hide ho
  have HY := hide hy
  have HB := hide hba
  clear h hr ho hy hba
  go_enter Try.func13, Try.ntmps13
  go_upto_region 1 with (fail)
  generalize W.alloc (.cells #[.int .i64 dep, .slice A es.length c] 24) = w1 at *
  have q0 := row20 R1.out
  have q1 := row21 R1.out
  have ql := R1.out.lt
  go_wp2_with fail
  with_reducible refine HD.out.mono ?_
  rintro e w2 ⟨rfl, hb⟩
  replace R1 := hide (R1.out.below hb)
  replace HB := hide (HB.out.trans (hb.mono HB.out.size))
  have G2 := hide (Nat.lt_of_lt_of_le R1.out.lt (Nat.le_refl _))
  clear hb HD q0 q1 ql
  dsimp only
  cases r
  · have hm : mayB dep es = false := by rw [mayB_ref, HR.out]; rfl
    obtain rfl : false = o := by rw [← HO.out, hm]
    obtain rfl : [] = ys := by rw [← HY.out]; unfold spansX; rw [hm]; rfl
    go_wp2_with fail
    exact bodyPost_ret (v := .tuple #[.slice none 0 0, .bool false]) (by simp [results, Try.results13, go_sem]) rfl ⟨none, 0, rfl, World.ownsRow_nil _ _ _ _, HB.out⟩
  · have HSH := hide (show dirShape dep es.length = true ∧ entsOk es = true from by have := HR.out; simpa using this)
    have hshape := HSH.out.1
    simp only [dirShape, decide_eq_true_eq] at hshape
    obtain ⟨⟨hd0, hd5⟩, hlen⟩ := hshape
    obtain ⟨d, rfl⟩ : ∃ d : Nat, dep = d := ⟨dep.toNat, by omega⟩
    have hd : d ≤ 5 := by omega
    have HLEN := hide (show es.length = 2 ^ d from by rw [Int.toNat_natCast] at hlen; exact_mod_cast hlen)
    clear hlen hd0 hd5
    obtain ⟨n, hn⟩ : ∃ n, es.length = n := ⟨_, rfl⟩
    have hn32 : n ≤ 32 := by rw [← hn, HLEN.out]; exact Nat.le_trans (Nat.pow_le_pow_right (by omega) hd) (by decide)
    have HN := hide hn
    rw [hn] at R1 HC
    rw [hn]
    clear hn hl
    go_wp2_with fail
    go_loopw [4, 5] (fun v4 v5 wr => ∃ (k : Nat) (l : List Rn), k ≤ n ∧ v5 = .int .i64 k ∧ wr.ownsRow w2.heap.size 33 6 v4 l.length (Cs encR (l.map (rc d))) ∧ l.length ≤ k ∧ SoFar d es k l ∧ Below w2.heap.size w2 wr) (fun _ v5 _ => n - (intOf v5).toNat)
    case atStart => exact ⟨0, [], Nat.zero_le _, rfl, World.ownsRow_nil _ _ _ _, Nat.le_refl _, SoFar.start _ _, Below.refl _ _⟩
    case round =>
      obtain ⟨k, l, hk, rfl, hown, hlk, hso, hb⟩ := hrel
      have OW := hide hown
      have HSO := hide hso
      have HBE := hide hb
      replace R1 := hide (R1.out.below hb)
      clear hown hso hb
      have q1 := row21 R1.out
      have q0 := row20 R1.out
      have ql := R1.out.lt
      by_cases hlt : k < n
      · have hkI : (k : Int) < (n : Int) := by omega
        have hdw : IntKind.i64.wrap ((d : Int) + 1) = (d : Int) + 1 := IntWalk.i64_in _ (by omega)
        go_wp2_with fail
        clear q0 q1 ql
        obtain ⟨wo, hwo⟩ : ∃ w, w = wr := ⟨_, rfl⟩
        subst hwo
        go_loopw [6, 19] (fun v6 v19 wx => ∃ q : Nat, q ≤ d + 1 ∧ v19 = .int .i64 q ∧ v6 = .int .i64 (bestK es k q) ∧ Below wo.heap.size wo wx) (fun _ v19 _ => d + 1 - (intOf v19).toNat)
        case atStart => exact ⟨0, Nat.zero_le _, rfl, rfl, Below.refl _ _⟩
        case round =>
          obtain ⟨q, hq, rfl, rfl, hb⟩ := hrel
          have HB4 := hide hb
          have R1b := hide (R1.out.below hb)
          clear hb
          have q1 := row21 R1b.out
          have q0 := row20 R1b.out
          have ql := R1b.out.lt
          by_cases hq2 : q < d + 1
          · have hqI : (q : Int) < (d : Int) + 1 := by omega
            obtain ⟨m, hm⟩ : ∃ m : Nat, 2 ^ q = m := ⟨_, rfl⟩
            have hm32 : m ≤ 32 := by rw [← hm]; exact Nat.le_trans (Nat.pow_le_pow_right (by omega) (show q ≤ 5 by omega)) (by decide)
            have hm1 : 1 ≤ m := by rw [← hm]; exact Nat.one_le_two_pow
            have HM := hide hm
            have HTW := hide (fun w => two_any w q (by omega))
            rw [hm] at HTW
            have HCB := hide (show condB es k q = (decide (k % m = 0) && decide (k + m ≤ n) && spannedB es k m) from by unfold condB; rw [hm, HN.out])
            clear hm
            obtain ⟨c3, hc3⟩ : ∃ c, spannedB es k m = c := ⟨_, rfl⟩
            have HSP := hide (fun (w : World) (hb : Below wr.heap.size wr w) => spannedR_any w.heap.size A c d es k m w (by
              have h := H.out.below ((HB.out.trans ((HBE.out.trans ((HB4.out.trans (hb.mono HB4.out.size)).mono HBE.out.size)).mono HB.out.size)).mono hB)
              exact h.more (Nat.le_trans hB (Nat.le_trans HB.out.size (Nat.le_trans HBE.out.size (Nat.le_trans HB4.out.size hb.size))))) (Nat.le_refl _) (by rw [HN.out]; exact hlt) (by rw [HN.out]; omega) (by omega) c3 hc3)
            rw [HN.out] at HSP
            rw [hc3] at HCB
            clear hc3
            obtain ⟨rm, hrm⟩ : ∃ z : Int, (k : Int) % (m : Int) = z := ⟨_, rfl⟩
            have hrm0 : 0 ≤ rm := by rw [← hrm]; exact Int.emod_nonneg _ (by omega)
            have hrm1 : rm < 32 := by
              have := Int.emod_lt_of_pos (k : Int) (show (0 : Int) < (m : Int) by omega)
              omega
            have hrt : (k : Int).tmod (m : Int) = rm := by rw [← hrm]; exact Int.tmod_eq_emod_of_nonneg (by omega)
            have hrw : IntKind.i64.wrap rm = rm := IntWalk.i64_in _ (by omega)
            have hrw2 : wrap64 rm = rm := IntWalk.wrap64_in _ (by omega)
            obtain ⟨c1, hc1⟩ : ∃ b : Bool, (rm == 0) = b := ⟨_, rfl⟩
            have HC1 := hide (show decide (k % m = 0) = c1 from by
              rw [← hc1, ← hrm, Bool.eq_iff_iff]
              simp
              omega)
            have hmz : ¬ ((m : Int) = 0) := by omega
            have hmn0 : ¬ (m = 0) := by omega
            have hmb : ((m : Int) == 0) = false := by rw [beq_eq_false_iff_ne]; omega
            have hkm : IntKind.i64.wrap ((k : Int) + (m : Int)) = (k : Int) + (m : Int) := IntWalk.i64_in _ (by omega)
            have HS : Hid (∀ w w', Below w.heap.size w w' → (Below wr.heap.size wr w ∧ w.cell? ⟨W.heap.size, 0, none⟩ = some (.int .i64 d) ∧ w.cell? ⟨W.heap.size, 1, none⟩ = some (.slice A n c)) → (Below wr.heap.size wr w' ∧ w'.cell? ⟨W.heap.size, 0, none⟩ = some (.int .i64 d) ∧ w'.cell? ⟨W.heap.size, 1, none⟩ = some (.slice A n c))) := hide (fun w w' hb h => ⟨h.1.trans (hb.mono h.1.size), kept hb h.2.1, kept hb h.2.2⟩)
            have hS0 : Below wr.heap.size wr wr.drew ∧ wr.drew.cell? ⟨W.heap.size, 0, none⟩ = some (.int .i64 d) ∧ wr.drew.cell? ⟨W.heap.size, 1, none⟩ = some (.slice A n c) := ⟨(Below.refl _ _).drew, q0, q1⟩
            rw [HC1.out] at HCB
            go_upto_region 10 with (fail)
            cases c1
            · have HC3 := hide (show condB es k q = false from by rw [HCB.out]; rfl)
              have HNX := hide (show bestK es k (q + 1) = bestK es k q from by
                show (if condB es k q then (q : Int) else bestK es k q) = _
                rw [HC3.out]
                simp)
              clear HC3 HC1
              go_quiet ((go_at_call 40; exact quiet_same (HTW.out _)))
              have HB5 := hide (below_drewN HB4.out nq)
              clear hS0 HS HSP
              go_wp2_with fail
              go_roundw
              case rel => exact ⟨q + 1, by omega, by go_num, by rw [HNX.out], HB5.out⟩
              case measure => simp [intOf]; omega
            · by_cases hcle : (k : Int) + (m : Int) ≤ (n : Int)
              · have HLE := hide (show decide (k + m ≤ n) = true from decide_eq_true (by omega))
                rw [HLE.out] at HCB
                cases c3
                · have HC3 := hide (show condB es k q = false from by rw [HCB.out]; rfl)
                  have HNX := hide (show bestK es k (q + 1) = bestK es k q from by
                    show (if condB es k q then (q : Int) else bestK es k q) = _
                    rw [HC3.out]
                    simp)
                  clear HC3 HC1
                  go_region_held3 (fun wX => Below wr.heap.size wr wX ∧ wX.cell? ⟨W.heap.size, 0, none⟩ = some (.int .i64 d) ∧ wX.cell? ⟨W.heap.size, 1, none⟩ = some (.slice A n c))
                    (first | exact hS0 | assumption | exact HS.out _ _ hb (by assumption) | go_keep)
                    (first
                      | (go_at_call 40; (with_reducible refine (HTW.out _).mono ?_); rintro e wq ⟨rfl, rfl⟩)
                      | (go_at_call 41; (with_reducible refine (HSP.out _ (And.left ‹Below wr.heap.size wr _ ∧ _›)).mono ?_); rintro e wq ⟨rfl, hb⟩))
                  rename_i hHeld
                  have HB5 := hide (HB4.out.trans ((And.left hHeld).mono HB4.out.size))
                  clear hHeld hS0 HS HSP
                  go_wp2_with fail
                  go_roundw
                  case rel => exact ⟨q + 1, by omega, by go_num, by rw [HNX.out], HB5.out⟩
                  case measure => simp [intOf]; omega
                · have HC3 := hide (show condB es k q = true from by rw [HCB.out]; rfl)
                  have HNX := hide (show bestK es k (q + 1) = (q : Int) from by
                    show (if condB es k q then (q : Int) else bestK es k q) = _
                    rw [HC3.out]
                    simp)
                  clear HC3 HC1
                  go_region_held3 (fun wX => Below wr.heap.size wr wX ∧ wX.cell? ⟨W.heap.size, 0, none⟩ = some (.int .i64 d) ∧ wX.cell? ⟨W.heap.size, 1, none⟩ = some (.slice A n c))
                    (first | exact hS0 | assumption | exact HS.out _ _ hb (by assumption) | go_keep)
                    (first
                      | (go_at_call 40; (with_reducible refine (HTW.out _).mono ?_); rintro e wq ⟨rfl, rfl⟩)
                      | (go_at_call 41; (with_reducible refine (HSP.out _ (And.left ‹Below wr.heap.size wr _ ∧ _›)).mono ?_); rintro e wq ⟨rfl, hb⟩))
                  rename_i hHeld
                  have HB5 := hide (HB4.out.trans ((And.left hHeld).mono HB4.out.size))
                  clear hHeld hS0 HS HSP
                  go_wp2_with fail
                  go_roundw
                  case rel => exact ⟨q + 1, by omega, by go_num, by rw [HNX.out], HB5.out⟩
                  case measure => simp [intOf]; omega
              · have HLE := hide (show decide (k + m ≤ n) = false from decide_eq_false (by omega))
                rw [HLE.out] at HCB
                have HC3 := hide (show condB es k q = false from by rw [HCB.out]; rfl)
                have HNX := hide (show bestK es k (q + 1) = bestK es k q from by
                  show (if condB es k q then (q : Int) else bestK es k q) = _
                  rw [HC3.out]
                  simp)
                clear HC3 HC1
                go_quiet ((go_at_call 40; exact quiet_same (HTW.out _)))
                have HB5 := hide (below_drewN HB4.out nq)
                clear hS0 HS HSP
                go_wp2_with fail
                go_roundw
                case rel => exact ⟨q + 1, by omega, by go_num, by rw [HNX.out], HB5.out⟩
                case measure => simp [intOf]; omega
          · obtain rfl : q = d + 1 := by omega
            have HBQ := hide (HB.out.trans ((HBE.out.trans (HB4.out.mono HBE.out.size)).mono HB.out.size))
            have OWQ := hide (own_keepB OW.out HB4.out)
            clear q0 q1 ql
            rcases bestK_or es k (d + 1) with h0 | ⟨p, h0, hp, hcond⟩
            · have hno := HSO.out.none (by rw [HN.out]; exact hlt) h0
              rw [ref_whole HLEN.out hd] at hno
              have hok : runsOk (runs es) = false := by
                by_cases h : runsOk (runs es) = true
                · rw [if_pos h] at hno; cases hno
                · simpa using h
              have hm : mayB d es = false := by rw [mayB_ref, hok, Bool.and_false]
              obtain rfl : false = o := by rw [← HO.out, hm]
              obtain rfl : [] = ys := by rw [← HY.out]; unfold spansX; rw [hm]; rfl
              rw [h0]
              clear h0 hno hok hm
              go_wp2_with fail
              exact bodyPost_ret (v := .tuple #[.slice none 0 0, .bool false]) (by simp [results, Try.results13, go_sem]) rfl ⟨none, 0, rfl, World.ownsRow_nil _ _ _ _, HBQ.out⟩
            · obtain ⟨m, hm⟩ : ∃ m : Nat, 2 ^ p = m := ⟨_, rfl⟩
              have HM := hide hm
              have HTW := hide (fun w => two_any w p (by omega))
              rw [hm] at HTW
              have hfit := condB_fits hcond
              have HNX := hide (HSO.out.next (by rw [HN.out]; exact hlt) h0)
              have HRC := hide (rc_of d k p (es.getD k (0, 0)))
              rw [hm, HN.out] at hfit
              rw [hm] at HNX HRC
              have hm1 : 1 ≤ m := by rw [← hm]; exact Nat.one_le_two_pow
              rw [h0]
              clear h0 hcond hm
              have hmz : ¬ ((m : Int) = 0) := by omega
              have hmn0 : ¬ (m = 0) := by omega
              have hmb : ((m : Int) == 0) = false := by rw [beq_eq_false_iff_ne]; omega
              obtain ⟨dv, hdv⟩ : ∃ z : Int, (k : Int) / (m : Int) = z := ⟨_, rfl⟩
              have hdv0 : 0 ≤ dv := by rw [← hdv]; exact Int.ediv_nonneg (by omega) (by omega)
              have hdv1 : dv ≤ 32 := by
                have h1 : k / m ≤ k := Nat.div_le_self _ _
                have h2 : (k : Int) / (m : Int) = ((k / m : Nat) : Int) := rfl
                omega
              rw [show ((k / m : Nat) : Int) = dv from hdv] at HRC
              have hsb : IntKind.i64.wrap ((d : Int) - (p : Int)) = (d : Int) - (p : Int) := IntWalk.i64_in _ (by omega)
              have hdt : (k : Int).tdiv (m : Int) = dv := by rw [← hdv]; exact Int.tdiv_eq_ediv_of_nonneg (by omega)
              have hdw : IntKind.i64.wrap dv = dv := IntWalk.i64_in _ (by omega)
              have hdw2 : wrap64 dv = dv := IntWalk.wrap64_in _ (by omega)
              have hdw3 : IntKind.u64.wrap dv = dv := IntWalk.u64_in _ (by omega)
              have hkx : k < es.length := by rw [HN.out]; exact hlt
              obtain ⟨b, off, hA, hbl, hc⟩ := (H.out.below (HBQ.out.mono hB)).elem encE_len hkx
              have hgk : es[k]'hkx = es.getD k (0, 0) := by rw [List.getD_eq_getElem?_getD, List.getElem?_eq_getElem hkx]; rfl
              rw [hgk] at hc
              obtain ⟨x, hx⟩ : ∃ x, es.getD k (0, 0) = x := ⟨_, rfl⟩
              rw [hx] at hc HRC HNX
              subst hA
              have z0 := hc 0 _ (by omega) rfl
              have z1 := hc 1 _ (by omega) rfl
              simp only [Nat.add_zero] at z0
              try dsimp only at z1
              clear hc hgk hx
              have q0 := row20 R1b.out
              have q1 := row21 R1b.out
              have ql := R1b.out.lt
              have hbX : b < wr.heap.size := Nat.lt_of_lt_of_le hbl (Nat.le_trans hB HBQ.out.size)
              have hg2 : W.heap.size < w2.heap.size := G2.out
              have hw2 : w2.heap.size ≤ wr.heap.size := Nat.le_trans HBE.out.size HB4.out.size
              have hb2 : b < w2.heap.size := Nat.lt_of_lt_of_le hbl (Nat.le_trans hB (Nat.le_of_lt hg2))
              obtain ⟨ln, hln⟩ : ∃ n, l.length = n := ⟨_, rfl⟩
              have HLN := hide hln
              rw [hln] at OWQ
              have hln32 : ln ≤ 32 := by omega
              obtain ⟨A4, c4, hv4, hc4, hcm4⟩ := own_form2 OWQ.out
              subst hv4
              have HSB : Hid (∀ w w', Below w2.heap.size w w' → (Below w2.heap.size wr w ∧ w.cell? ⟨W.heap.size, 0, none⟩ = some (.int .i64 d) ∧ w.cell? ⟨W.heap.size, 1, none⟩ = some (.slice (some ⟨b, off, none⟩) n c) ∧ w.cell? ⟨b, off + k * 2, none⟩ = some (.int .i64 x.1) ∧ w.cell? ⟨b, off + k * 2 + 1, none⟩ = some (.int .u64 x.2)) → (Below w2.heap.size wr w' ∧ w'.cell? ⟨W.heap.size, 0, none⟩ = some (.int .i64 d) ∧ w'.cell? ⟨W.heap.size, 1, none⟩ = some (.slice (some ⟨b, off, none⟩) n c) ∧ w'.cell? ⟨b, off + k * 2, none⟩ = some (.int .i64 x.1) ∧ w'.cell? ⟨b, off + k * 2 + 1, none⟩ = some (.int .u64 x.2))) := hide (fun w w' hb h => ⟨h.1.trans hb, (hb.cell (p := ⟨W.heap.size, 0, none⟩) hg2).trans h.2.1, (hb.cell (p := ⟨W.heap.size, 1, none⟩) hg2).trans h.2.2.1, (hb.cell (p := ⟨b, off + k * 2, none⟩) hb2).trans h.2.2.2.1, (hb.cell (p := ⟨b, off + k * 2 + 1, none⟩) hb2).trans h.2.2.2.2⟩)
              have hS0 : (Below w2.heap.size wr wr.drew ∧ wr.drew.cell? ⟨W.heap.size, 0, none⟩ = some (.int .i64 d) ∧ wr.drew.cell? ⟨W.heap.size, 1, none⟩ = some (.slice (some ⟨b, off, none⟩) n c) ∧ wr.drew.cell? ⟨b, off + k * 2, none⟩ = some (.int .i64 x.1) ∧ wr.drew.cell? ⟨b, off + k * 2 + 1, none⟩ = some (.int .u64 x.2)) := ⟨(Below.refl _ _).drew, q0, q1, z0, z1⟩
              have HOWA := hide (own_keepB OWQ.out (((Below.refl _ wr).alloc (Nat.le_refl _) (.cells #[.int .i64 x.1, .int .u64 x.2, .int .i64 ((d : Int) - (p : Int)), .int .u64 dv, .int .i64 (k : Int), .int .i64 (m : Int)] 33)).drew))
              have HRD := hide ((Rd.new wr #[.int .i64 x.1, .int .u64 x.2, .int .i64 ((d : Int) - (p : Int)), .int .u64 dv, .int .i64 (k : Int), .int .i64 (m : Int)] 33 6 1 rfl).drew)
              go_upto_region 15 with (fail)
              go_region_held3 (fun wX => (Below w2.heap.size wr wX ∧ wX.cell? ⟨W.heap.size, 0, none⟩ = some (.int .i64 d) ∧ wX.cell? ⟨W.heap.size, 1, none⟩ = some (.slice (some ⟨b, off, none⟩) n c) ∧ wX.cell? ⟨b, off + k * 2, none⟩ = some (.int .i64 x.1) ∧ wX.cell? ⟨b, off + k * 2 + 1, none⟩ = some (.int .u64 x.2)))
                (first | exact hS0 | assumption | exact (Below.refl _ _).alloc hw2 _ | exact HSB.out _ _ (((Below.refl _ _).alloc hw2 _).drew) ⟨Below.refl _ _, q0, q1, z0, z1⟩ | exact HSB.out _ _ ((Below.refl _ _).alloc hw2 _) (by assumption) | exact HSB.out _ _ hb6 (by assumption) | go_keep)
                (first
                  | (go_at_call 40; (with_reducible refine (HTW.out _).mono ?_); rintro e wq ⟨rfl, rfl⟩)
                  | (rw [if_pos (by rfl)]; refine wp_app elR _ _ rfl rfl (HOWA.out) rfl (HRD.out) (by simp [Value.oneCell']) (by omega) (by show w2.heap.size ≤ (wr.alloc _).heap.size; rw [World.size_alloc]; exact Nat.le_succ_of_le hw2) ?_; intro v6 w6 hown6 hb6 _ _; obtain ⟨A6, c6, rfl, hc6, hcm6⟩ := own_form2 hown6; have HO6 := hide hown6; clear hown6))
              rename_i hHeld
              have HB6 := hide (And.left hHeld)
              clear hHeld hS0 HSB z0 z1 q0 q1 ql
              go_wp2_with fail
              with_reducible refine (HTW.out _).mono ?_
              rintro e wq ⟨rfl, rfl⟩
              dsimp only
              go_wp2_with fail
              go_roundw
              case rel =>
                have hcs : Cs encR (List.map (rc (d : Int)) [⟨k, m, x⟩]) = [.int .i64 x.1, .int .u64 x.2, .int .i64 ((d : Int) - (p : Int)), .int .u64 dv, .int .i64 (k : Int), .int .i64 (m : Int)] := by
                  rw [List.map_cons, List.map_nil, HRC.out]; rfl
                refine ⟨k + m, l ++ [⟨k, m, x⟩], by omega, by go_num, ?_, by rw [List.length_append, HLN.out]; simp; omega, HNX.out, (HBE.out.trans (HB4.out.mono HBE.out.size)).trans HB6.out⟩
                rw [List.length_append, HLN.out, List.map_append, Cs_append, hcs]
                exact HO6.out
              case measure => simp [intOf]; omega
      · obtain rfl : k = n := by omega
        have hdone := HSO.out
        rw [← HN.out] at hdone
        have hfin := SoFar.done hdone
        rw [ref_whole HLEN.out hd] at hfin
        have hok : runsOk (runs es) = true := by
          by_cases h : runsOk (runs es) = true
          · exact h
          · rw [if_neg h] at hfin; cases hfin
        rw [if_pos hok] at hfin
        obtain rfl : runs es = l := Option.some.inj hfin
        have hm : mayB d es = true := by rw [mayB_ref, HR.out, hok]; rfl
        obtain rfl : true = o := by rw [← HO.out, hm]
        obtain rfl : (runs es).map (rc d) = ys := by rw [← HY.out]; unfold spansX; rw [if_pos hm]
        obtain ⟨A', c', rfl, hc1, hc2⟩ := own_form2 OW.out
        have HF := hide (HB.out.trans (HBE.out.mono HB.out.size))
        clear hfin hok hm hdone
        go_wp2_with fail
        exact bodyPost_ret (v := .tuple #[.slice A' (runs es).length c', .bool true]) (by simp [results, Try.results13, go_sem]) rfl ⟨A', c', by rw [List.length_map], by rw [List.length_map]; exact ownsRow_base OW.out HB.out.size, HF.out⟩
end Go.Proofs.Ytjlbnegdiabglaa

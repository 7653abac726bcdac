/-
  The reference's: what was retired so many epochs ago, whether a slab is among these, the same rows, the same limbos, since when.
-/
import Derived.Test.YthnpcmigphpolaaDoorLje
set_option linter.unusedSimpArgs false
set_option linter.unusedVariables false
namespace Go.Proofs.YthnpcmigphpolaaDoor
open Go Go.RowKit
attribute [local go_sem] via_cell via_frozen

/-- What the reference has of so many epochs ago. -/
def ofL (l : Lim) (ago : Nat) : List Ent := if l.E < ago then [] else l.at ago
def ofA (E : Nat) (A : Nat → Option Addr) (ago : Nat) : Option Addr := if E < ago then none else A (rowN E ago)
def ofN (E : Nat) (n : Nat → Nat) (ago : Nat) : Nat := if E < ago then 0 else n (rowN E ago)
theorem rowN_ref {E ago : Nat} (h : ago ≤ E) : (E - ago) % 3 = rowN E ago := by unfold rowN; omega
theorem of_rd {w : World} {B : Nat} {A : Nat → Option Addr} {n : Nat → Nat} {l : Lim} (h : LimRd w B A n l.r) (ago : Nat) : Rd w B 2 (ofA l.E A ago) (ofN l.E n ago) (Cs encE (ofL l ago)) ∧ (ofL l ago).length = ofN l.E n ago := by
  unfold ofA ofN ofL
  by_cases hE : l.E < ago
  · rw [if_pos hE, if_pos hE, if_pos hE]; exact ⟨Rd.none_, rfl⟩
  · rw [if_neg hE, if_neg hE, if_neg hE]; exact ⟨h.rd _ (rowN_lt l.E ago), h.len _ (rowN_lt l.E ago)⟩
theorem of_any (A : Nat → Option Addr) (n c : Nat → Nat) (E ago : Nat) (ha : ago < 3) (hE : E < 18446744073709551616) (W : World) :
    Calls Tryd.prog 27 #[.agg (limC E A n c), .int .u64 (ago : Int)] W fun e W' => e = .returned (.slice (ofA E A ago) (ofN E n ago) (ofN E c ago)) ∧ Below W.heap.size W W' := by
  have HB := hide (show Below W.heap.size W (W.alloc (.cells (limC E A n c) 26)) from (Below.refl _ _).alloc (Nat.le_refl _) _)
  have HR := hide (RowAt.new W 26 (limC E A n c))
  have haI : (ago : Int) < 3 := by omega
  have ha0 : (0 : Int) ≤ (ago : Int) := by omega
  by_cases h : E < ago
  · have hd : decide ((E : Int) < (ago : Int)) = true := by simp; omega
    have hdN : decide (E < ago) = true := by simpa using h
    have HF := hide (show ofA E A ago = none ∧ ofN E n ago = 0 ∧ ofN E c ago = 0 from by unfold ofA ofN; simp [h])
    rw [HF.out.1, HF.out.2.1, HF.out.2.2]
    clear h HF
    go_enter Tryd.func27, Tryd.ntmps27
    go_wp2
    go_ret
    exact ⟨rfl, HB.out⟩
  · have hd : decide ((E : Int) < (ago : Int)) = false := by simp; omega
    have hdN : decide (E < ago) = false := by simpa using h
    have hk3 := rowN_lt E ago
    have HF := hide (show ofA E A ago = A (rowN E ago) ∧ ofN E n ago = n (rowN E ago) ∧ ofN E c ago = c (rowN E ago) from by unfold ofA ofN; simp [h])
    have hw1 : IntKind.u64.wrap ((E : Int) - (ago : Int)) = (E : Int) - (ago : Int) := IntWalk.u64_in _ (by omega)
    have hle : (ago : Int) ≤ (E : Int) := by omega
    have hmod : ((E : Int) - (ago : Int)) % 3 = ((rowN E ago : Nat) : Int) := by rw [← rowN_ref (show ago ≤ E by omega)]; omega
    rw [HF.out.1, HF.out.2.1, HF.out.2.2]
    have q0 : (W.alloc (.cells (limC E A n c) 26)).cell? ⟨W.heap.size, 0, none⟩ = some (.int .u64 (E : Int)) := by rw [HR.out.cell 0]; rfl
    have hc := limC_cell HR.out hk3
    have ql := HR.out.lt
    have hkI : ((rowN E ago : Nat) : Int) < 3 := by omega
    clear h HF
    go_enter Tryd.func27, Tryd.ntmps27
    go_wp2_with fail
    generalize W.alloc (.cells (limC E A n c) 26) = w1 at *
    generalize rowN E ago = kk at *
    go_wp2_with fail
    go_ret
    exact ⟨rfl, HB.out⟩
set_option maxHeartbeats 1000000 in
theorem has_any (B : Nat) (A : Option Addr) (c m : Nat) (s : Int) (xs : List Ent) (W : World) (h : Rd W B 2 A m (Cs encE xs)) (hx : xs.length = m) (hm : m ≤ 12288) (hB : B ≤ W.heap.size) (r : Bool) (hr : hasB xs s = r) :
    Calls Tryd.prog 40 #[.slice A m c, .int .i64 s] W fun e W' => e = .returned (.bool r) ∧ Below W.heap.size W W' := by
  have HX := hide hx
  have H := hide h
  have HR := hide hr
  clear h hx hr
  go_enter Tryd.func40, Tryd.ntmps40
  go_wp2_with fail
  go_loopw [9] (fun i wr => ∃ k : Nat, k ≤ m ∧ i = .int .i64 k ∧ (xs.take k).any (fun x => x.1 == s) = false ∧ Below W.heap.size W wr) (fun i _ => m - (intOf i).toNat)
  case atStart => exact ⟨0, Nat.zero_le _, rfl, rfl, Below.refl _ _⟩
  case round =>
    obtain ⟨k, hk, rfl, hno, hbw⟩ := hrel
    have HN := hide hno
    have HBW := hide hbw
    clear hno hbw
    by_cases hlt : k < m
    · have hlx : k < xs.length := by rw [HX.out]; exact hlt
      obtain ⟨b, o, rfl, hb, d0, d1⟩ := (H.out.below (HBW.out.mono hB)).ent HX.out hlt
      have hbl : b < wr.heap.size := Nat.lt_of_lt_of_le hb (Nat.le_trans hB HBW.out.size)
      have hkm : (k : Int) < (m : Int) := by omega
      have HT := hide (any_take_succ (p := fun x => x.1 == s) hlx)
      obtain ⟨x, hxx⟩ : ∃ x, xs.getD k (0, 0) = x := ⟨_, rfl⟩
      rw [hxx] at d0 d1 HT
      obtain ⟨x1, x2⟩ := x
      dsimp only at d0 d1 HT
      rw [HN.out] at HT
      have HB2 := hide (show Below W.heap.size W (wr.alloc (.cells #[.int .i64 x1, .int .u64 x2] 34)) from HBW.out.alloc HBW.out.size _)
      clear hxx hb
      by_cases he : x1 = s
      · subst he
        have hd : (x1 == x1) = true := by simp
        have HF := hide (show true = r from by rw [← HR.out]; unfold hasB; rw [any_of_take (by rw [HT.out]; simp)])
        go_wp2_with fail
        go_ret
        exact ⟨ret_bool HF.out, HB2.out⟩
      · have hd : (x1 == s) = false := by simpa using he
        rw [hd] at HT
        go_wp2_with fail
        go_roundw
        case rel => exact ⟨k + 1, by omega, by go_num, HT.out, HB2.out⟩
        case measure => simp [intOf]; omega
    · have HF := hide (show false = r from by
        have := HN.out
        rw [List.take_of_length_le (by rw [HX.out]; omega)] at this
        rw [← HR.out]; exact this.symm)
      go_wp2_with fail
      go_ret
      exact ⟨ret_bool HF.out, HBW.out⟩
set_option maxHeartbeats 1000000 in
theorem rrow_any (B : Nat) (A1 A2 : Option Addr) (c1 c2 : Nat) (xs ys : List Ent) (W : World) (h1 : Rd W B 2 A1 xs.length (Cs encE xs)) (h2 : Rd W B 2 A2 ys.length (Cs encE ys)) (hB : B ≤ W.heap.size)
    (hl1 : xs.length ≤ 4096) (hl2 : ys.length ≤ 4096) (r : Bool) (hr : decide (xs = ys) = r) :
    Calls Tryd.prog 45 #[.slice A1 xs.length c1, .slice A2 ys.length c2] W fun e W' => e = .returned (.bool r) ∧ Below W.heap.size W W' := by
  subst hr
  by_cases hlen : xs.length = ys.length
  · have ht : ((xs.length : Int) != (ys.length : Int)) = false := by rw [bne_eq_false_iff_eq]; omega
    have HL := hide hlen
    have H1 := hide h1
    have H2 := hide h2
    clear hlen h1 h2
    go_enter Tryd.func45, Tryd.ntmps45
    go_wp2_with fail
    go_loopw [14] (fun i wr => ∃ k : Nat, k ≤ xs.length ∧ i = .int .i64 k ∧ xs.take k = ys.take k ∧ Below W.heap.size W wr) (fun i _ => xs.length - (intOf i).toNat)
    case atStart => exact ⟨0, Nat.zero_le _, rfl, rfl, Below.refl _ _⟩
    case round =>
      obtain ⟨k, hk, rfl, hpre, hbw⟩ := hrel
      have HP := hide hpre
      have HBW := hide hbw
      clear hpre hbw
      by_cases hlt : k < xs.length
      · have hlt2 : k < ys.length := by have := HL.out; omega
        obtain ⟨b1, o1, rfl, hb1, d10, d11⟩ := (H1.out.below (HBW.out.mono hB)).ent rfl hlt
        obtain ⟨b2, o2, rfl, hb2, d20, d21⟩ := (H2.out.below (HBW.out.mono hB)).ent rfl hlt2
        have hbl1 : b1 < wr.heap.size := by have := HBW.out.size; omega
        have hbl2 : b2 < wr.heap.size := by have := HBW.out.size; omega
        have hi1 : (k : Int) < (xs.length : Int) := by omega
        have hi2 : (k : Int) < (ys.length : Int) := by omega
        have HG := hide (show xs.take (k + 1) = xs.take k ++ [xs.getD k (0, 0)] ∧ ys.take (k + 1) = ys.take k ++ [ys.getD k (0, 0)] from ⟨getD_take xs k hlt, getD_take ys k hlt2⟩)
        obtain ⟨x, hxx⟩ : ∃ x, xs.getD k (0, 0) = x := ⟨_, rfl⟩
        obtain ⟨y, hyy⟩ : ∃ y, ys.getD k (0, 0) = y := ⟨_, rfl⟩
        rw [hxx] at d10 d11 HG
        rw [hyy] at d20 d21 HG
        obtain ⟨x1, x2⟩ := x
        obtain ⟨y1, y2⟩ := y
        dsimp only at d10 d11 d20 d21
        have HBN := hide (show Below wr.heap.size wr (wr.alloc (.cells #[.int .i64 x1, .int .u64 x2] 34)) from (Below.refl _ _).alloc (Nat.le_refl _) _)
        have HRN := hide (RowAt.new wr 34 #[.int .i64 x1, .int .u64 x2])
        go_upto_region 6 with (fail)
        generalize wr.alloc (.cells #[.int .i64 x1, .int .u64 x2] 34) = w2 at *
        have e0 := row20 HRN.out
        have e1 := row21 HRN.out
        have el := HRN.out.lt
        have d20 := kept HBN.out d20
        have d21 := kept HBN.out d21
        have hbl2 : b2 < w2.heap.size := by have := HBN.out.size; omega
        have HBE := hide (HBW.out.trans (HBN.out.mono HBW.out.size))
        clear hxx hyy hb1 hb2 d10 d11 hbl1 HBN
        by_cases hxy : ((x1, x2) : Ent) = (y1, y2)
        · have hne := fun w => neqE w (x1, x2) (y1, y2) true (by simpa using hxy)
          have HT := hide (show xs.take (k + 1) = ys.take (k + 1) from by rw [HG.out.1, HG.out.2, HP.out, hxy])
          dsimp only at hne
          clear hxy
          go_quiet (fail)
          have HBQ := hide (below_drewN HBE.out nq)
          generalize w2.drewN nq = w3 at *
          clear e0 e1 el d20 d21 hbl2 hne
          go_wp2_with fail
          go_roundw
          case rel => exact ⟨k + 1, by omega, by go_num, HT.out, HBQ.out⟩
          case measure => simp [intOf]; omega
        · have hne := fun w => neqE w (x1, x2) (y1, y2) false (by simpa using hxy)
          have HF := hide (show false = decide (xs = ys) from by
            symm
            rw [decide_eq_false_iff_not]
            intro e
            have h1 := HG.out.1
            rw [e, HG.out.2] at h1
            have h2 := (List.append_inj h1 rfl).2
            exact hxy (by simpa using h2.symm))
          dsimp only at hne
          clear hxy
          go_quiet (fail)
          have HBQ := hide (below_drewN HBE.out nq)
          generalize w2.drewN nq = w3 at *
          clear e0 e1 el d20 d21 hbl2 hne
          go_wp2_with fail
          go_ret
          exact ⟨ret_bool HF.out, HBQ.out⟩
      · obtain rfl : k = xs.length := by omega
        have HF := hide (show true = decide (xs = ys) from by
          symm
          rw [decide_eq_true_eq]
          have := HP.out
          rwa [List.take_length, HL.out, List.take_length] at this)
        go_wp2_with fail
        go_ret
        exact ⟨ret_bool HF.out, HBW.out⟩
  · have ht : ((xs.length : Int) != (ys.length : Int)) = true := by rw [bne_iff_ne]; omega
    have HF := hide (show false = decide (xs = ys) from by
      symm; rw [decide_eq_false_iff_not]; intro e; exact hlen (by rw [e]))
    clear hlen
    go_enter Tryd.func45, Tryd.ntmps45
    go_wp2_with fail
    go_ret
    exact ⟨ret_bool HF.out, Below.refl _ _⟩
end Go.Proofs.YthnpcmigphpolaaDoor

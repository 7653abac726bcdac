/-
  The reference's: the steps at which something may change; whether all steps are clear.
-/
import Derived.Test.YtegnppmmcchmgaaDoorGud
import Derived.Test.YtegnppmmcchmgaaDoorGupl
set_option linter.unusedSimpArgs false
set_option linter.unusedVariables false
namespace Go.Proofs.YtegnppmmcchmgaaDoor
open Go Go.RowKit
attribute [local go_sem] via_cell via_frozen

theorem elI : ElemOk Tryd.prog 42 3 1 8 (.int .i64 0) := ⟨Tryd.underlying42, by kernel_rfl, rfl, by omega, by omega, by intro u hu; simp [Value.cells] at hu; subst hu; rfl⟩
def inn (a b n : Int) : Bool := decide (a ≤ n) && decide (n ≤ b)
def redgS (a b : Int) (s : Sec) : List Int := [s.1, s.2].filter (inn a b)
def redg (l : List Sec) (a b : Int) : List Int := [a, b] ++ l.flatMap (redgS a b)
theorem redg_take (l : List Sec) (a b : Int) (k : Nat) (hk : k < l.length) : redg (l.take (k + 1)) a b = redg (l.take k) a b ++ redgS a b l[k] := by
  unfold redg
  rw [List.take_succ_eq_append_getElem hk, List.flatMap_append]
  simp
theorem redgS_len (a b : Int) (s : Sec) : (redgS a b s).length ≤ 2 := by unfold redgS; exact List.length_filter_le _ _
theorem redg_len (l : List Sec) (a b : Int) : (redg l a b).length ≤ 2 + 2 * l.length := by
  unfold redg
  rw [List.length_append]
  have : (l.flatMap (redgS a b)).length ≤ 2 * l.length := by
    induction l with
    | nil => simp
    | cons s r ih => rw [List.flatMap_cons, List.length_append, List.length_cons]; have := redgS_len a b s; omega
  show 2 + (l.flatMap (redgS a b)).length ≤ _
  omega
/-- The reference's Clear, by its edges, is clr. -/
theorem redg_clr {l : List Sec} (h : chk 0 l = true) {a b : Int} (ha : 0 ≤ a) (hab : a ≤ b) : (redg l a b).any (opn l) = !clr l a b := by
  rw [Bool.eq_iff_iff, Bool.not_eq_true', Bool.eq_false_iff]
  rw [List.any_eq_true]
  constructor
  · rintro ⟨n, hn, ho⟩ hc
    have hin : a ≤ n ∧ n ≤ b := by
      unfold redg at hn
      rw [List.mem_append] at hn
      rcases hn with hn | hn
      · simp at hn; omega
      · rw [List.mem_flatMap] at hn
        obtain ⟨s, _, hs⟩ := hn
        unfold redgS inn at hs
        rw [List.mem_filter] at hs
        simpa using hs.2
    unfold opn at ho
    rw [List.any_eq_true] at ho
    obtain ⟨s, hs, ho⟩ := ho
    unfold clr at hc
    rw [List.all_eq_true] at hc
    have := hc s hs
    unfold opnS at ho
    simp only [Bool.and_eq_true, Bool.or_eq_true, decide_eq_true_eq, beq_iff_eq, bne_iff_ne, ne_eq] at this ho
    omega
  · intro hc
    have hex : ∃ s ∈ l, ¬ ((s.2 ≠ 0 ∧ s.2 ≤ a) ∨ b < s.1) := by
      apply Classical.byContradiction
      intro hno
      apply hc
      unfold clr
      rw [List.all_eq_true]
      intro s hs
      apply Classical.byContradiction
      intro hn
      apply hno
      refine ⟨s, hs, fun hor => hn ?_⟩
      simp only [Bool.or_eq_true, Bool.and_eq_true, decide_eq_true_eq, bne_iff_ne]
      exact hor
    obtain ⟨s, hs, hn⟩ := hex
    have hsec := chk_sec (Int.le_refl 0) h s hs
    have op : ∀ n, s.1 ≤ n → (s.2 = 0 ∨ n < s.2) → opn l n = true := fun n h1 h2 => by
      unfold opn
      rw [List.any_eq_true]
      exact ⟨s, hs, by unfold opnS; simp only [Bool.and_eq_true, Bool.or_eq_true, decide_eq_true_eq, beq_iff_eq]; exact ⟨h1, h2⟩⟩
    rcases Int.lt_or_le a s.1 with h1 | h1
    · refine ⟨s.1, ?_, op _ (Int.le_refl _) (by omega)⟩
      unfold redg
      rw [List.mem_append]
      right
      rw [List.mem_flatMap]
      refine ⟨s, hs, ?_⟩
      unfold redgS inn
      rw [List.mem_filter]
      exact ⟨by simp, by simp; omega⟩
    · exact ⟨a, by unfold redg; simp, op _ h1 (by omega)⟩
theorem filt_take (a b f t : Int) : ∀ j, j ≤ 2 → (([f, t].take j).filter (inn a b)).length ≤ 2 := fun j hj => by
  have h1 := List.length_filter_le (inn a b) ([f, t].take j)
  rw [List.length_take] at h1
  simp at h1
  omega
theorem row_grown2 {w w' : World} {g : Nat} {t : TypeId} {cs : Array Value} {row : Option Nat} (h : RowAt w g t cs) (hg : w.grownBy w' row) (hne : some g ≠ row) : RowAt w' g t cs := (hg.block g h.lt hne).trans h
/-- What the inner loop holds: what has been kept of the two; the two, in a block of their own. -/
def EdgR (base g : Nat) (out : List Int) (a b f t : Int) (v i : Value) (w0 wr : World) : Prop :=
  ∃ (j : Nat) (u : Value), u = v ∧ j ≤ 2 ∧ i = .int .i64 j ∧ wr.ownsRow base 3 1 u (out ++ ([f, t].take j).filter (inn a b)).length (Cs encI (out ++ ([f, t].take j).filter (inn a b))) ∧ RowAt wr g 3 #[.int .i64 f, .int .i64 t] ∧ some g ≠ u.ownBlock ∧ Below base w0 wr ∧ w0.heap.size ≤ wr.heap.size
set_option maxHeartbeats 2000000 in
theorem redges_any (B : Nat) (A : Option Addr) (c m : Nat) (l : List Sec) (a b : Int) (W : World) (h : Rd W B 2 A m (Cs encS l)) (hx : l.length = m) (hB : B ≤ W.heap.size) (hm : m ≤ 16) :
    Calls Tryd.prog 40 #[.slice A m c, .int .i64 a, .int .i64 b] W fun e W' => ∃ v, e = .returned v ∧ W'.ownsRow W.heap.size 3 1 v (redg l a b).length (Cs encI (redg l a b)) ∧ Below W.heap.size W W' := by
  subst hx
  have H := hide h
  have HO0 := hide (show (W.alloc (.cells #[.int .i64 a, .int .i64 b] 3)).ownsRow W.heap.size 3 1 (.slice (some ⟨W.heap.size, 0, none⟩) 2 2) 2 (Cs encI [a, b]) from World.ownsRow_lit (base := W.heap.size) (e := 3) (size := 1) W #[.int .i64 a, .int .i64 b] 2 (Nat.le_refl _) (by simp [maxLen]) rfl)
  have HB0 := hide (show Below W.heap.size W (W.alloc (.cells #[.int .i64 a, .int .i64 b] 3)) from (Below.refl _ _).alloc (Nat.le_refl _) _)
  clear h
  go_enter Tryd.func40, Tryd.ntmps40
  go_wp2_with fail
  generalize W.alloc (.cells #[.int .i64 a, .int .i64 b] 3) = w0 at *
  go_loopw [7, 17] (fun sv i wr => ∃ (k : Nat) (v : Value), v = sv ∧ k ≤ l.length ∧ i = .int .i64 k ∧ wr.ownsRow W.heap.size 3 1 v (redg (l.take k) a b).length (Cs encI (redg (l.take k) a b)) ∧ Below W.heap.size W wr) (fun _ i _ => l.length - (intOf i).toNat)
  case atStart => exact ⟨0, _, rfl, Nat.zero_le _, rfl, HO0.out, HB0.out⟩
  case round =>
    obtain ⟨k, v, rfl, hk, rfl, hown, hbw⟩ := hrel
    have HO := hide hown
    have HBW := hide hbw
    have hsz := hbw.size
    clear hown hbw
    by_cases hlt : k < l.length
    · obtain ⟨b1, o1, rfl, hb1, d0, d1⟩ := (H.out.below (HBW.out.mono hB)).sec hlt
      have hbl : b1 < wr.heap.size := by omega
      have hki : (k : Int) < (l.length : Int) := by omega
      have HTK := hide (redg_take l a b k hlt)
      have hrl := redg_len (l.take k) a b
      have hrl2 : (redg (l.take k) a b).length ≤ 40 := by rw [List.length_take] at hrl; omega
      obtain ⟨out, hout⟩ : ∃ out, redg (l.take k) a b = out := ⟨_, rfl⟩
      rw [hout] at HO HTK hrl2
      obtain ⟨f, hf⟩ : ∃ f, l[k].1 = f := ⟨_, rfl⟩
      obtain ⟨t, ht⟩ : ∃ t, l[k].2 = t := ⟨_, rfl⟩
      have HS := hide (show l[k] = (f, t) from by rw [← hf, ← ht])
      rw [hf] at d0
      rw [ht] at d1
      rw [HS.out] at HTK
      clear hf ht hb1 hout hrl
      obtain ⟨w1, hw1⟩ : ∃ w1, wr.alloc (.cells #[.int .i64 f, .int .i64 t] 33) = w1 := ⟨_, rfl⟩
      obtain ⟨w2, hw2⟩ : ∃ w2, w1.alloc (.cells #[.int .i64 f, .int .i64 t] 3) = w2 := ⟨_, rfl⟩
      have s1 : w1.heap.size = wr.heap.size + 1 := by rw [← hw1]; simp
      have c1 : Below wr.heap.size wr w1 := by rw [← hw1]; exact (Below.refl _ _).alloc (Nat.le_refl _) _
      have c2 : Below w1.heap.size w1 w2 := by rw [← hw2]; exact (Below.refl _ _).alloc (Nat.le_refl _) _
      have c3 : Below wr.heap.size wr w2 := c1.trans (c2.mono c1.size)
      have r2 : RowAt w2 (wr.heap.size + 1) 3 #[.int .i64 f, .int .i64 t] := by have h := RowAt.new w1 3 #[.int .i64 f, .int .i64 t]; rw [hw2, s1] at h; exact h
      have HO2 := hide (own_keepB HO.out c3)
      have HNE := hide (show some (wr.heap.size + 1) ≠ v.ownBlock from fun e => by have := (HO.out.lt _ e.symm).2; omega)
      have HR2 := hide r2
      have HB2 := hide (HBW.out.trans (c3.mono hsz))
      clear s1 c1 c2 c3 r2
      subst hw2
      subst hw1
      go_wp2_with fail
      generalize (wr.alloc (.cells #[.int .i64 f, .int .i64 t] 33)).alloc (.cells #[.int .i64 f, .int .i64 t] 3) = w2 at *
      have hs2 := HB2.out.size
      go_loopw [7, 27] (fun u i wz => EdgR W.heap.size (wr.heap.size + 1) out a b f t u i w2 wz) (fun _ i _ => 2 - (intOf i).toNat)
      case atStart => exact ⟨0, _, rfl, by omega, rfl, by simpa using HO2.out, HR2.out, HNE.out, Below.refl _ _, Nat.le_refl _⟩
      case round =>
        obtain ⟨j, u, rfl, hj, rfl, hoz, hrz, hnz, hbz, hsz2⟩ := hrel
        have HOZ := hide hoz
        have HRZ := hide hrz
        have HNZ := hide hnz
        have HBZ := hide hbz
        have q0 := row20 hrz
        have q1 := row21 hrz
        have ql := hrz.lt
        have HBWZ := hide (HB2.out.trans hbz)
        clear hoz hrz hnz hbz
        rcases (show j = 0 ∨ j = 1 ∨ j = 2 from by omega) with rfl | rfl | rfl
        · skip
          by_cases ha : a ≤ f
          · by_cases hb : f ≤ b
            · have HT := hide (show ([f, t].take 1).filter (inn a b) = ([f, t].take 0).filter (inn a b) ++ [f] from by simp [inn, ha, hb, List.filter_cons]; try split <;> rfl)
              have hol := filt_take a b f t 0 (by omega)
              have hol2 : (out ++ ([f, t].take 0).filter (inn a b)).length ≤ 42 := by rw [List.length_append]; omega
              have HRD := hide (Rd.new wr #[.int .i64 f] 3 1 1 rfl)
              go_wp2_with (at_builtin; refine wpList_app elI rfl _ _ rfl rfl (HOZ.out.alloc _) rfl HRD.out (by simp [Value.oneCell']) (by omega) (by simp; omega) ?_; intro v3 w3 hown3 hb3 hg3 hv3; have HOK := hide hown3; have HBK := hide ((HBZ.out.alloc (by omega) (.cells #[.int .i64 f] 3)).trans hb3); have HSK := hide hb3.size; have HRK := hide (row_grown2 (HRZ.out.below ((Below.refl _ _).alloc (Nat.le_refl _) (.cells #[.int .i64 f] 3))) hg3 HNZ.out); have HVK := hide hv3; clear hown3 hb3 hg3 hv3)
              go_roundw
              case rel => exact ⟨0 + 1, _, rfl, by omega, by go_num, by rw [HT.out, ← List.append_assoc, Cs_append, List.length_append]; exact HOK.out, HRK.out, fun e => by rcases HVK.out with h | h; exact HNZ.out (e.trans h); rw [h] at e; injection e with e; simp at e; omega, HBK.out, by have := HSK.out; simp at this; omega⟩
              case measure => simp [intOf]
            · have HT := hide (show ([f, t].take 1).filter (inn a b) = ([f, t].take 0).filter (inn a b) from by simp [inn, ha, hb, List.filter_cons])
              go_wp2_with fail
              go_roundw
              case rel => exact ⟨0 + 1, _, rfl, by omega, by go_num, by rw [HT.out]; exact HOZ.out, HRZ.out, HNZ.out, HBZ.out, hsz2⟩
              case measure => simp [intOf]
          · have HT := hide (show ([f, t].take 1).filter (inn a b) = ([f, t].take 0).filter (inn a b) from by simp [inn, ha, List.filter_cons])
            go_wp2_with fail
            go_roundw
            case rel => exact ⟨0 + 1, _, rfl, by omega, by go_num, by rw [HT.out]; exact HOZ.out, HRZ.out, HNZ.out, HBZ.out, hsz2⟩
            case measure => simp [intOf]
        · skip
          by_cases ha : a ≤ t
          · by_cases hb : t ≤ b
            · have HT := hide (show ([f, t].take 2).filter (inn a b) = ([f, t].take 1).filter (inn a b) ++ [t] from by simp [inn, ha, hb, List.filter_cons]; try split <;> rfl)
              have hol := filt_take a b f t 1 (by omega)
              have hol2 : (out ++ ([f, t].take 1).filter (inn a b)).length ≤ 42 := by rw [List.length_append]; omega
              have HRD := hide (Rd.new wr #[.int .i64 t] 3 1 1 rfl)
              go_wp2_with (at_builtin; refine wpList_app elI rfl _ _ rfl rfl (HOZ.out.alloc _) rfl HRD.out (by simp [Value.oneCell']) (by omega) (by simp; omega) ?_; intro v3 w3 hown3 hb3 hg3 hv3; have HOK := hide hown3; have HBK := hide ((HBZ.out.alloc (by omega) (.cells #[.int .i64 t] 3)).trans hb3); have HSK := hide hb3.size; have HRK := hide (row_grown2 (HRZ.out.below ((Below.refl _ _).alloc (Nat.le_refl _) (.cells #[.int .i64 t] 3))) hg3 HNZ.out); have HVK := hide hv3; clear hown3 hb3 hg3 hv3)
              go_roundw
              case rel => exact ⟨1 + 1, _, rfl, by omega, by go_num, by rw [HT.out, ← List.append_assoc, Cs_append, List.length_append]; exact HOK.out, HRK.out, fun e => by rcases HVK.out with h | h; exact HNZ.out (e.trans h); rw [h] at e; injection e with e; simp at e; omega, HBK.out, by have := HSK.out; simp at this; omega⟩
              case measure => simp [intOf]
            · have HT := hide (show ([f, t].take 2).filter (inn a b) = ([f, t].take 1).filter (inn a b) from by simp [inn, ha, hb, List.filter_cons])
              go_wp2_with fail
              go_roundw
              case rel => exact ⟨1 + 1, _, rfl, by omega, by go_num, by rw [HT.out]; exact HOZ.out, HRZ.out, HNZ.out, HBZ.out, hsz2⟩
              case measure => simp [intOf]
          · have HT := hide (show ([f, t].take 2).filter (inn a b) = ([f, t].take 1).filter (inn a b) from by simp [inn, ha, List.filter_cons])
            go_wp2_with fail
            go_roundw
            case rel => exact ⟨1 + 1, _, rfl, by omega, by go_num, by rw [HT.out]; exact HOZ.out, HRZ.out, HNZ.out, HBZ.out, hsz2⟩
            case measure => simp [intOf]
        · have HT := hide (show ([f, t].take 2).filter (inn a b) = redgS a b (f, t) from rfl)
          go_wp2_with fail
          go_roundw
          case rel => exact ⟨k + 1, _, rfl, by omega, by go_num, by rw [HTK.out, ← HT.out]; exact HOZ.out, HBWZ.out⟩
          case measure => simp [intOf]; omega
    · obtain rfl : k = l.length := by omega
      have HF := HO
      rw [List.take_length] at HF
      go_wp2_with fail
      go_ret
      exact ⟨_, rfl, HF.out, HBW.out⟩
set_option maxHeartbeats 2000000 in
theorem rclear_any (B : Nat) (A : Option Addr) (c m : Nat) (l : List Sec) (a b : Int) (W : World) (h : Rd W B 2 A m (Cs encS l)) (hx : l.length = m) (hB : B ≤ W.heap.size) (hm : m ≤ 16) (r : Bool) (hr : (!(redg l a b).any (opn l)) = r) :
    Calls Tryd.prog 24 #[.slice A m c, .int .i64 a, .int .i64 b] W fun e W' => e = .returned (.bool r) ∧ Below W.heap.size W W' := by
  have H := hide h
  have HR := hide hr
  have HE := hide (redges_any B A c m l a b W h hx hB hm)
  have hln := redg_len l a b
  have hln2 : (redg l a b).length ≤ 40 := by omega
  generalize redg l a b = L at *
  clear h hr hln
  go_enter Tryd.func24, Tryd.ntmps24
  go_wp2_with fail
  refine HE.out.mono ?_
  rintro e w1 ⟨v, rfl, hown, hb1⟩
  obtain ⟨AL, cL, rfl, _⟩ := own_form hown
  have HL := hide (Rd.of_own hown)
  have HB1 := hide hb1
  have hs1 := hb1.size
  clear hown hb1
  go_wp2_with fail
  go_loopw [14] (fun i wr => ∃ k : Nat, k ≤ L.length ∧ i = .int .i64 k ∧ (L.take k).any (opn l) = false ∧ Below w1.heap.size w1 wr) (fun i _ => L.length - (intOf i).toNat)
  case atStart => exact ⟨0, Nat.zero_le _, rfl, rfl, Below.refl _ _⟩
  case round =>
    obtain ⟨k, hk, rfl, hpre, hbw⟩ := hrel
    have HP := hide hpre
    have HBW := hide hbw
    have HBWW := hide (HB1.out.trans (hbw.mono hs1))
    have hsw := hbw.size
    clear hpre hbw
    by_cases hlt : k < L.length
    · obtain ⟨b1, o1, rfl, hb1, hc1⟩ := (HL.out.below HBW.out).elem encI_len hlt
      have d0 := hc1 0 _ (by omega) rfl
      simp only [Nat.mul_one, Nat.add_zero] at d0
      have hbl : b1 < wr.heap.size := by omega
      have HX := hide (show L.take (k + 1) = L.take k ++ [L[k]] from List.take_succ_eq_append_getElem hlt)
      have HM := hide (List.getElem_mem hlt)
      generalize L[k] = x at *
      obtain ⟨q, hq⟩ : ∃ q, opn l x = q := ⟨_, rfl⟩
      have HQ := hide hq
      have HOP := hide (ropen_any B A c m l x wr (H.out.below (HBWW.out.mono hB)) hx (Nat.le_trans hB HBWW.out.size) (by omega) q hq)
      clear hc1 hq hb1
      cases q
      · go_wp2_with fail
        refine HOP.out.mono ?_
        rintro e w2 ⟨rfl, hb2⟩
        go_wp2_with fail
        go_roundw
        case rel => exact ⟨k + 1, by omega, by go_num, by rw [HX.out, List.any_append, HP.out]; simpa using HQ.out, HBW.out.trans (hb2.mono hsw)⟩
        case measure => simp [intOf]; omega
      · have HF := hide (show false = r from by
          rw [← HR.out]
          have : L.any (opn l) = true := List.any_eq_true.2 ⟨x, HM.out, HQ.out⟩
          rw [this]; rfl)
        go_wp2_with fail
        refine HOP.out.mono ?_
        rintro e w2 ⟨rfl, hb2⟩
        go_wp2_with fail
        go_ret
        exact ⟨ret_bool HF.out, HBWW.out.trans (hb2.mono HBWW.out.size)⟩
    · obtain rfl : k = L.length := by omega
      have HF := hide (show true = r from by
        rw [← HR.out]
        have := HP.out
        rw [List.take_length] at this
        rw [this]; rfl)
      go_wp2_with fail
      go_ret
      exact ⟨ret_bool HF.out, HBWW.out⟩
end Go.Proofs.YtegnppmmcchmgaaDoor

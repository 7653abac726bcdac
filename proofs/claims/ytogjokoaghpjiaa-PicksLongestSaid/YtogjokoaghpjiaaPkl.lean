/-
  Laps: where they end (the iterator), how many there are: the program's.
-/
import Derived.Test.YtogjokoaghpjiaaPkk
import Derived.Test.YtogjokoaghpjiaaRange4
set_option linter.unusedSimpArgs false
set_option linter.unusedVariables false
namespace Go.Proofs.Ytogjokoaghpjiaa
open Go Go.RowKit
attribute [local go_sem] via_cell via_frozen
attribute [local go_sem] Oper.semAt_some

/-- Who is struck out behind a turn. -/
def outB (t : Tn) (g : Int) : Bool := (g == t.2) || !t.1.contains g
theorem outB_keeps (t : Tn) : (fun g => !outB t g) = keepsB t := by
  funext g
  unfold outB keepsB
  cases h1 : t.1.contains g <;> cases h2 : (g == t.2) <;> simp_all
theorem laps11_any (gb : Nat) (tA : Option Addr) (tc : Nat) (tcan : List Int) (tch x : Int) (W : World) (hb : RowAt W gb 37 #[.slice tA tcan.length tc, .int .i64 tch]) (h : Rd W W.heap.size 1 tA tcan.length (Cs encI tcan)) (hl : tcan.length ≤ 4096) :
    Calls Try.prog 52 #[.int .i64 x, .pointer (some ⟨gb, 0, none⟩)] W fun e W' => e = .returned (.bool (outB (tcan, tch) x)) ∧ W = W' := by
  have q0 := row20 hb
  have q1 := row21 hb
  have ql := hb.lt
  obtain ⟨r, hr⟩ : ∃ r, tcan.contains x = r := ⟨_, rfl⟩
  have HC := hide (contains_any W.heap.size tA tc tcan.length tcan x W h rfl hl (Nat.le_refl _) r hr)
  by_cases he : x = tch
  · have HF := hide (show true = outB (tcan, tch) x from by unfold outB; rw [he]; simp)
    have hd : (x == tch) = true := by simpa using he
    clear he h hb hr
    go_enter Try.func52, Try.ntmps52
    go_wp2_with fail
    go_ret
    exact ⟨ret_bool HF.out, rfl⟩
  · have HF := hide (show (!r) = outB (tcan, tch) x from by unfold outB; rw [hr]; simp [he])
    have hd : (x == tch) = false := by simpa using he
    clear he h hb hr
    go_enter Try.func52, Try.ntmps52
    go_wp2_with fail
    with_reducible refine HC.out.mono ?_
    rintro e w1 ⟨rfl, rfl⟩
    go_wp2_with fail
    go_ret
    exact ⟨ret_bool HF.out, rfl⟩
/-- Where laps end: seg is what there is of a lap, i the next turn's number. -/
def lapGo : List Tn → Nat → List Tn → List Int
  | _, _, [] => []
  | seg, i, t :: l => if (segLeft (seg ++ [t])).isEmpty then (i : Int) :: lapGo [] (i + 1) l else lapGo (seg ++ [t]) (i + 1) l
def lapEnds (l : List Tn) : List Int := lapGo [] 0 l
theorem lapGo_len (n : Nat) (seg l : List Tn) (i : Nat) (hr : ∀ t ∈ seg ++ l, ∀ g ∈ t.1, 0 ≤ g ∧ g < n) : (lapGo seg i l).length = lapsGo n seg l := by
  induction l generalizing seg i with
  | nil => rfl
  | cons t l ih =>
    have hs : lapB n (seg ++ [t]) = (segLeft (seg ++ [t])).isEmpty := by
      cases seg with
      | nil => exact lap_left (fun u hu => hr u (by simp at hu; simp [hu]))
      | cons s seg => exact lap_left (fun u hu => hr u (by simp at hu ⊢; rcases hu with h | h | h <;> simp [h]))
    unfold lapGo lapsGo
    rw [hs]
    split
    · rw [List.length_cons, ih [] (i + 1) (fun u hu => hr u (by simp at hu ⊢; simp [hu]))]; omega
    · exact ih (seg ++ [t]) (i + 1) (fun u hu => hr u (by simpa using hu))
theorem lapGo_le (seg l : List Tn) (i : Nat) : (lapGo seg i l).length ≤ l.length := by
  induction l generalizing seg i with
  | nil => simp [lapGo]
  | cons t l ih =>
    unfold lapGo
    split
    · simp; exact ih _ _
    · exact Nat.le_succ_of_le (ih _ _)
theorem RT.keepH {w w' : World} {B m : Nat} {A : Option Addr} {ts : List Tm} (h : RT w B A m ts) (hk : ∀ j, j < B → w'.heap[j]? = w.heap[j]?) : RT w' B A m ts :=
  ⟨h.rd.keep (fun p hp => cell_of_heap (hk _ hp)), h.len, fun t ht => (h.cans t ht).keep (fun p hp => cell_of_heap (hk _ hp))⟩
def encL (x : Int) : Array Value := #[.int .i64 x]
/-- What the iterator holds of a lap: whom it has left (nothing ahead of a lap). -/
def LeftAt (base : Nat) (w : World) (v : Value) (seg : List Tn) : Prop := seg ≠ [] → segLeft seg ≠ [] ∧ w.ownsRow base 3 1 v (segLeft seg).length (Cs encI (segLeft seg)) ∧ (segLeft seg).length ≤ 4096
set_option maxHeartbeats 4000000 in
theorem laps_seq (B gp : Nat) (A : Option Addr) (c m : Nat) (ts : List Tm) (w : World) (hk : RowAt w gp 34 #[.slice A m c]) (hr : RT w B A m ts) (hB : B ≤ w.heap.size) (hs : SmallT ts) (hne : ∀ t ∈ ts, t.can ≠ []) :
    Seq4 Try.prog 50 #[.pointer (some ⟨gp, 0, none⟩)] encL (fun j => j < B) (fun ys => ys = lapEnds (tns ts)) (fun pre => ∃ r, pre ++ r = lapEnds (tns ts)) (fun _ => False) [] m w := by
  intro l J Jx W hbW hJ hJx hY h0
  have HR := hide (hr.below (hbW.mono hB))
  have hkW := row1 (hk.below hbW)
  have hkl := (hk.below hbW).lt
  have hszW : B ≤ W.heap.size := Nat.le_trans hB hbW.size
  have HL := hide hr.len
  have HS := hide hs
  have HNE := hide hne
  have HJ := hide hJ
  have HY := hide hY
  have H0 := hide h0
  have hm : m ≤ 4096 := by have := hs.1; have := hr.len; omega
  clear hr hk hJ hJx hY h0 hs hne
  refine (callsIn_wide (n := 4)).1 (callsIn_of_wp Try.func50 rfl trivial ?_ rfl)
  simp only [Try.ntmps50, List.size_toArray, List.length_cons, List.length_nil, Nat.reduceAdd, Nat.reduceSub, Array.replicate_succ, Array.replicate_zero, List.push_toArray, List.append_toArray, List.nil_append, List.cons_append]
  refine wpIn_wide.2 ?_
  go_wp2_with fail
  go_step3
  go_wp2_with fail
  go_step3
  go_wp2_with fail
  go_loopw [3, 4, 9] (fun sv sf i wr => ∃ (k : Nat) (seg : List Tn) (pre : List Int) (v : Value), v = sv ∧ k ≤ m ∧ seg.length ≤ k ∧ sf = .int .i64 ((k - seg.length : Nat) : Int) ∧ i = .int .i64 k ∧ lapEnds (tns ts) = pre ++ lapGo seg k ((tns ts).drop k) ∧ J pre wr ∧ LeftAt W.heap.size wr v seg ∧ W.heap.size ≤ wr.heap.size ∧ (∀ j, j < B → wr.heap[j]? = W.heap[j]?)) (fun _ _ i _ => m - (intOf i).toNat)
  case atStart => exact ⟨0, [], [], _, rfl, Nat.zero_le _, Nat.le_refl _, rfl, rfl, rfl, H0.out, fun h => absurd rfl h, Nat.le_refl _, fun _ _ => rfl⟩
  case round =>
    obtain ⟨k, seg, pre, v, rfl, hk, hsk, rfl, rfl, hends, hj, hleft, hsz, hkeep⟩ := hrel
    have HE := hide hends
    have HJk := hide hj
    have HLF := hide hleft
    have HKP := hide hkeep
    clear hends hj hleft hkeep
    by_cases hlt : k < m
    · have hlx : k < ts.length := by rw [HL.out]; exact hlt
      obtain ⟨b, o, rfl, hb, d0, d1, hcan⟩ := (HR.out.keepH HKP.out).at_ hlx
      have hbl : b < wr.heap.size := Nat.lt_of_lt_of_le hb (Nat.le_trans hszW hsz)
      have hkm : (k : Int) < (m : Int) := by omega
      have HDR := hide (show (tns ts).drop k = ts[k].tn :: (tns ts).drop (k + 1) from by
        rw [List.drop_eq_getElem_cons (by rw [tns_len]; exact hlx)]; simp [tns])
      have hcl := HS.out.2 _ (List.getElem_mem hlx)
      have hcn := HNE.out _ (List.getElem_mem hlx)
      generalize ts[k] = tm at *
      obtain ⟨tA, tc, tcan, tch⟩ := tm
      dsimp only [Tm.tn] at *
      obtain ⟨t, ht⟩ : ∃ t : Tn, (tcan, tch) = t := ⟨_, rfl⟩
      have HTT := hide ht
      have HBN := hide (show Below wr.heap.size wr (wr.alloc (.cells #[.slice tA tcan.length tc, .int .i64 tch] 37)) from (Below.refl _ _).alloc (Nat.le_refl _) _)
      have HC := hide (hcan.below (HBN.out.mono (Nat.le_trans hszW hsz)))
      have HRN := hide (RowAt.new wr 37 #[.slice tA tcan.length tc, .int .i64 tch])
      rw [ht] at HDR
      clear hb hcan ht
      cases seg with
      | nil =>
        have hd : ((k : Int) == ((k - ([] : List Tn).length : Nat) : Int)) = true := by simp
        go_wp2_with fail
        generalize wr.alloc (.cells #[.slice tA tcan.length tc, .int .i64 tch] 37) = w1 at *
        have hgb : wr.heap.size < w1.heap.size := HRN.out.lt
        with_reducible refine (CloneI w1.heap.size tA tcan.length tc _ w1 (HC.out.more (by omega)) (Nat.le_refl _) (Cs_one_cell encI_one _) hcl).mono ?_
        rintro e w2 ⟨v2, rfl, hown2, hb2⟩
        obtain ⟨g, cc, rfl, hge, hgl⟩ := hown2.form (List.length_pos_iff.2 hcn)
        have HBS2 := hide (show W.heap.size ≤ w2.heap.size from by have := hb2.size; omega)
        have HBW2 := hide (show Below W.heap.size wr w2 from (HBN.out.mono hsz).trans (hb2.mono (by omega)))
        have hgW : W.heap.size ≤ g := by omega
        have hrow2 := HRN.out.below hb2
        have hc2 := HC.out.below (hb2.mono (by omega))
        have HSL0 := hide (show segLeft [t] = tcan.filter (fun x => !outB (tcan, tch) x) from by rw [segLeft_one, HTT.out, outB_keeps, ← HTT.out])
        have HDEL := hide (delF_any W.heap.size g tcan.length cc 52 #[.pointer (some ⟨wr.heap.size, 0, none⟩)] (enters_of Try.func52 (by kernel_rfl) rfl) (outB (tcan, tch)) tcan w2 (ownsRow_base hown2 (by omega)) rfl hcl hgl
          (fun w x hp hx => laps11_any wr.heap.size tA tc tcan tch x w (hrow2.past hp (by omega)) ((hc2.below (hp.below.mono (by omega))).more (by have := hp.size; omega)) hcl))
        have HLL0 := hide (show (tcan.filter (fun x => !outB (tcan, tch) x)).length ≤ 4096 from Nat.le_trans (List.length_filter_le _ _) hcl)
        obtain ⟨L, hL⟩ : ∃ L, tcan.filter (fun x => !outB (tcan, tch) x) = L := ⟨_, rfl⟩
        rw [hL] at HSL0 HDEL HLL0
        have HLL := HLL0
        have HSL := hide (show segLeft ([] ++ [t]) = L from HSL0.out)
        clear hown2 hb2 hrow2 hc2 hL
        go_wp2_with fail
        with_reducible refine HDEL.out.mono ?_
        rintro e w3 ⟨rfl, how, hpast⟩
        have hsz3 := hpast.size
        have HBS := hide (show W.heap.size ≤ w3.heap.size from Nat.le_trans HBS2.out hsz3)
        have HBW3 := hide (show Below W.heap.size wr w3 from HBW2.out.trans (hpast.below.mono hgW))
        have HOW := hide (show w3.ownsRow W.heap.size 3 1 (.slice (some ⟨g, 0, none⟩) L.length cc) L.length (Cs encI L) from how)
        have HJ3 := hide (HJ.out _ _ _ HJk.out HBW3.out)
        have HK3 := hide (fun j (hj : j < B) => (HBW3.out.block j (Nat.lt_of_lt_of_le hj hszW)).trans (HKP.out j hj))
        clear hsz3 hpast how
        by_cases hz : L = []
        · subst hz
          have HN1 := hide (show lapEnds (tns ts) = (pre ++ [(k : Int)]) ++ lapGo [] (k + 1) ((tns ts).drop (k + 1)) from by rw [HE.out, HDR.out, lapGo, HSL.out]; simp)
          have HPL := hide (show pre.length < m from by
            have h1 := lapGo_le [] (tns ts) 0
            have h2 := HN1.out
            unfold lapEnds at h2
            rw [h2, tns_len, HL.out] at h1
            simp only [List.length_append, List.length_cons, List.length_nil] at h1
            omega)
          obtain ⟨fn, tmps, assign, body, hy, hR⟩ := HY.out pre (k : Int) _ HJ3.out HPL.out
          dsimp only [encL] at hy
          have HRR := hide hR
          clear hR
          go_upto_region 10 with (fail)
          refine (wpIn_wide (n := 4)).1 ?_
          gi_wp2
          refine HRR.out.mono ?_
          rintro e W3 (⟨rfl, hJ3, hz3, hk3⟩ | ⟨rfl, hJx3⟩)
          · have HJ4 := hide hJ3
            have HZ4 := hide (Nat.le_trans HBS.out hz3)
            have HK4 : Hid (∀ j, j < B → W3.heap[j]? = W.heap[j]?) := hide (fun j hj => (hk3 j hj).trans (HK3.out j hj))
            clear hJ3 hk3 hz3
            gi_wp2
            go_wp2_with fail
            go_roundw
            case rel => exact ⟨k + 1, [], pre ++ [(k : Int)], _, rfl, by omega, Nat.zero_le _, by go_num, by go_num, HN1.out, HJ4.out, fun h => absurd rfl h, HZ4.out, HK4.out⟩
            case measure => simp [intOf]; omega
          · have HJ4 := hide hJx3
            clear hJx3
            gi_wp2
            go_wp2_with fail
            rw [Exit.noGoto_normal]
            go_end0
            exact .inl ⟨_, rfl, .inr ⟨_, ⟨_, HN1.out.symm⟩, HJ4.out⟩⟩
        · have hlp : (0 : Int) < (L.length : Int) := by have := List.length_pos_iff.2 hz; omega
          have HN1 := hide (show lapEnds (tns ts) = pre ++ lapGo (([] : List Tn) ++ [t]) (k + 1) ((tns ts).drop (k + 1)) from by rw [HE.out, HDR.out, lapGo, HSL.out]; simp [hz])
          have HLN := hide (show LeftAt W.heap.size w3 (.slice (some ⟨g, 0, none⟩) L.length cc) (([] : List Tn) ++ [t]) from fun _ => by rw [HSL.out]; exact ⟨hz, HOW.out, HLL.out⟩)
          clear hz
          go_wp2_with fail
          go_roundw
          case rel => exact ⟨k + 1, ([] : List Tn) ++ [t], pre, _, rfl, by omega, by simp only [List.length_append, List.length_cons, List.length_nil] at hsk ⊢; omega, by (first | (simp; done) | (simp; omega)), by go_num, HN1.out, HJ3.out, HLN.out, HBS.out, HK3.out⟩
          case measure => simp [intOf]; omega
      | cons s seg =>
        have hd : ((k : Int) == ((k - (s :: seg).length : Nat) : Int)) = false := by rw [beq_eq_false_iff_ne]; simp only [List.length_cons] at hsk ⊢; omega
        obtain ⟨hsn, hown0, hsl⟩ := HLF.out (by simp)
        obtain ⟨X, hX⟩ : ∃ X, segLeft (s :: seg) = X := ⟨_, rfl⟩
        rw [hX] at hsn hown0 hsl
        have HXE := hide hX
        obtain ⟨g, cc, rfl, hge, hgl⟩ := hown0.form (List.length_pos_iff.2 hsn)
        have HOW0 := hide hown0
        have hgW : W.heap.size ≤ g := hge
        clear hown0 hX
        go_upto_region 7 with (fail)
        have hgb : wr.heap.size < (wr.alloc (.cells #[.slice tA tcan.length tc, .int .i64 tch] 37)).heap.size := HRN.out.lt
        have hszb : wr.heap.size ≤ (wr.alloc (.cells #[.slice tA tcan.length tc, .int .i64 tch] 37)).heap.size := Nat.le_of_lt hgb
        have HOW1 := hide (own_keepB HOW0.out HBN.out)
        generalize wr.alloc (.cells #[.slice tA tcan.length tc, .int .i64 tch] 37) = w2 at *
        have HBS2 := hide (show W.heap.size ≤ w2.heap.size from by omega)
        have HBW2 := hide (show Below W.heap.size wr w2 from HBN.out.mono hsz)
        have hrow2 := HRN.out
        have hc2 := HC.out
        have HSL0 := hide (show segLeft ((s :: seg) ++ [t]) = X.filter (fun x => !outB (tcan, tch) x) from by rw [segLeft_snoc, HXE.out, HTT.out, outB_keeps])
        have HDEL := hide (delF_any W.heap.size g X.length cc 52 #[.pointer (some ⟨wr.heap.size, 0, none⟩)] (enters_of Try.func52 (by kernel_rfl) rfl) (outB (tcan, tch)) X w2 HOW1.out rfl hsl (by omega)
          (fun w x hp hx => laps11_any wr.heap.size tA tc tcan tch x w (hrow2.past hp (by omega)) ((hc2.below (hp.below.mono (by omega))).more (by have := hp.size; omega)) hcl))
        have HLL0 := hide (show (X.filter (fun x => !outB (tcan, tch) x)).length ≤ 4096 from Nat.le_trans (List.length_filter_le _ _) hsl)
        obtain ⟨L, hL⟩ : ∃ L, X.filter (fun x => !outB (tcan, tch) x) = L := ⟨_, rfl⟩
        rw [hL] at HSL0 HDEL HLL0
        have HLL := HLL0
        have HSL := HSL0
        clear hrow2 hc2 hL hsn HOW0
        go_wp2_with fail
        with_reducible refine HDEL.out.mono ?_
        rintro e w3 ⟨rfl, how, hpast⟩
        have hsz3 := hpast.size
        have HBS := hide (show W.heap.size ≤ w3.heap.size from Nat.le_trans HBS2.out hsz3)
        have HBW3 := hide (show Below W.heap.size wr w3 from HBW2.out.trans (hpast.below.mono hgW))
        have HOW := hide (show w3.ownsRow W.heap.size 3 1 (.slice (some ⟨g, 0, none⟩) L.length cc) L.length (Cs encI L) from how)
        have HJ3 := hide (HJ.out _ _ _ HJk.out HBW3.out)
        have HK3 := hide (fun j (hj : j < B) => (HBW3.out.block j (Nat.lt_of_lt_of_le hj hszW)).trans (HKP.out j hj))
        clear hsz3 hpast how
        by_cases hz : L = []
        · subst hz
          have HN1 := hide (show lapEnds (tns ts) = (pre ++ [(k : Int)]) ++ lapGo [] (k + 1) ((tns ts).drop (k + 1)) from by rw [HE.out, HDR.out, lapGo, HSL.out]; simp)
          have HPL := hide (show pre.length < m from by
            have h1 := lapGo_le [] (tns ts) 0
            have h2 := HN1.out
            unfold lapEnds at h2
            rw [h2, tns_len, HL.out] at h1
            simp only [List.length_append, List.length_cons, List.length_nil] at h1
            omega)
          obtain ⟨fn, tmps, assign, body, hy, hR⟩ := HY.out pre (k : Int) _ HJ3.out HPL.out
          dsimp only [encL] at hy
          have HRR := hide hR
          clear hR
          go_upto_region 10 with (fail)
          refine (wpIn_wide (n := 4)).1 ?_
          gi_wp2
          refine HRR.out.mono ?_
          rintro e W3 (⟨rfl, hJ3, hz3, hk3⟩ | ⟨rfl, hJx3⟩)
          · have HJ4 := hide hJ3
            have HZ4 := hide (Nat.le_trans HBS.out hz3)
            have HK4 : Hid (∀ j, j < B → W3.heap[j]? = W.heap[j]?) := hide (fun j hj => (hk3 j hj).trans (HK3.out j hj))
            clear hJ3 hk3 hz3
            gi_wp2
            go_wp2_with fail
            go_roundw
            case rel => exact ⟨k + 1, [], pre ++ [(k : Int)], _, rfl, by omega, Nat.zero_le _, by go_num, by go_num, HN1.out, HJ4.out, fun h => absurd rfl h, HZ4.out, HK4.out⟩
            case measure => simp [intOf]; omega
          · have HJ4 := hide hJx3
            clear hJx3
            gi_wp2
            go_wp2_with fail
            rw [Exit.noGoto_normal]
            go_end0
            exact .inl ⟨_, rfl, .inr ⟨_, ⟨_, HN1.out.symm⟩, HJ4.out⟩⟩
        · have hlp : (0 : Int) < (L.length : Int) := by have := List.length_pos_iff.2 hz; omega
          have HN1 := hide (show lapEnds (tns ts) = pre ++ lapGo ((s :: seg) ++ [t]) (k + 1) ((tns ts).drop (k + 1)) from by rw [HE.out, HDR.out, lapGo, HSL.out]; simp [hz])
          have HLN := hide (show LeftAt W.heap.size w3 (.slice (some ⟨g, 0, none⟩) L.length cc) ((s :: seg) ++ [t]) from fun _ => by rw [HSL.out]; exact ⟨hz, HOW.out, HLL.out⟩)
          clear hz
          go_wp2_with fail
          go_roundw
          case rel => exact ⟨k + 1, (s :: seg) ++ [t], pre, _, rfl, by omega, by simp only [List.length_append, List.length_cons, List.length_nil] at hsk ⊢; omega, by (first | (simp; done) | (simp; omega)), by go_num, HN1.out, HJ3.out, HLN.out, HBS.out, HK3.out⟩
          case measure => simp [intOf]; omega
    · obtain rfl : k = m := by omega
      have HF := hide (show lapEnds (tns ts) = pre from by
        rw [HE.out, List.drop_of_length_le (by rw [tns_len, HL.out]; exact Nat.le_refl _)]; simp [lapGo])
      go_wp2_with fail
      rw [Exit.noGoto_normal]
      go_end0
      exact .inl ⟨_, rfl, .inl ⟨_, HF.out.symm, HJk.out⟩⟩
theorem lapsF_any (n : Int) (A : Option Addr) (c m : Nat) (W : World) :
    Calls Try.prog 39 #[.int .i64 n, .slice A m c] W fun e W' => e = .returned (.func (.func 50) #[] #[.pointer (some ⟨W.heap.size, 0, none⟩)]) ∧
      RowAt W' W.heap.size 34 #[.slice A m c] ∧ Below W.heap.size W W' := by
  have H1 := hide (RowAt.new W 34 #[.slice A m c])
  go_enter Try.func39, Try.ntmps39
  go_wp2
  go_ret
  exact ⟨rfl, H1.out, (Below.refl _ _).alloc (Nat.le_refl _) _⟩
/-- How many laps there are. -/
def lapsP (n : Int) (l : List Tn) : Int := if rightB n l then (lapsX n.toNat l : Nat) else 0
theorem lapsP_right {k : Nat} {l : List Tn} (h : rightB (k : Int) l = true) : lapsP k l = ((lapEnds l).length : Int) := by
  unfold lapsP
  rw [h]
  simp only [if_true, Int.toNat_natCast]
  unfold lapsX lapEnds
  rw [lapGo_len k [] l 0 (fun t ht g hg => ?_)]
  obtain ⟨k', hk', _, _, hall⟩ := right_n h
  rw [List.all_eq_true] at hall
  have h1 := hall t (by simpa using ht)
  unfold turnB at h1
  simp only [Bool.and_eq_true] at h1
  exact canB_all h1.1 g hg
/-- The act in which a round begins. -/
def RoundAct (ps : Array Tmp) (vs : Array Value) (T : Array Value) (a' : Act) : Prop := a' = { tmps := (ps.zip vs).foldl (fun t (p, v) => t.setIfInBounds p v) T, defers := [] }
/-- The box of the count. -/
def ManyAt (g : Nat) (pre : List Int) (W : World) : Prop := RowAt W g 3 #[.int .i64 (pre.length : Int)]
theorem ManyAt.stays (g : Nat) : Stays (ManyAt g) := fun _ _ _ h hl => h.lie hl
set_option maxHeartbeats 1000000 in
theorem laps_any (B : Nat) (A : Option Addr) (c m : Nat) (n : Int) (ts : List Tm) (W : World) (h : RT W B A m ts) (hB : B ≤ W.heap.size) (hs : SmallT ts) (r : Int) (hr0 : lapsP n (tns ts) = r) :
    Calls Try.prog 22 #[.int .i64 n, .slice A m c] W fun e W' => e = .returned (.int .i64 r) ∧ Below W.heap.size W W' := by
  have HBN := hide (show Below W.heap.size W (W.alloc (.cells #[.int .i64 0] 3)) from (Below.refl _ _).alloc (Nat.le_refl _) _)
  have HRN := hide (RowAt.new W 3 #[.int .i64 0])
  have hmm : m ≤ 4096 := by have := hs.1; have := h.len; omega
  cases hr : rightB n (tns ts) with
  | false =>
    obtain rfl : 0 = r := by rw [← hr0]; unfold lapsP; rw [hr]; rfl
    have HC := hide (check_any B A c m n ts _ (h.below (HBN.out.mono hB)) (Nat.le_trans hB HBN.out.size) hs 140 (by rw [hr]; rfl))
    clear h hr hr0
    go_enter Try.func22, Try.ntmps22
    go_wp2_with fail
    with_reducible refine HC.out.mono ?_
    rintro e w1 ⟨rfl, hb1⟩
    have R1 := HRN.out.below hb1
    have q0 := row1 R1
    have ql := R1.lt
    have HBE := hide (HBN.out.trans (hb1.mono HBN.out.size))
    clear hb1 R1
    go_wp2_with fail
    go_ret
    exact ⟨rfl, HBE.out⟩
  | true =>
    obtain ⟨k, rfl, hk1, hk8, hall⟩ := right_n hr
    have HX := hide (show ((lapEnds (tns ts)).length : Int) = r from by rw [← hr0, lapsP_right hr])
    have HNE := hide (show ∀ t ∈ ts, t.can ≠ [] from fun t ht => by
      rw [List.all_eq_true] at hall
      have h1 := hall t.tn (List.mem_map.2 ⟨t, ht, rfl⟩)
      unfold turnB at h1
      simp only [Bool.and_eq_true] at h1
      exact canB_ne h1.1)
    have H := hide h
    have HC := hide (check_any B A c m k ts _ (h.below (HBN.out.mono hB)) (Nat.le_trans hB HBN.out.size) hs 0 (by rw [hr]; rfl))
    clear h hr hr0 hall
    refine calls_of_wp_marks Try.func22 rfl ?_
    simp only [Try.ntmps22, List.size_toArray, List.length_cons, List.length_nil, Nat.reduceAdd, Nat.reduceSub, Array.replicate_succ, Array.replicate_zero, List.push_toArray, List.append_toArray, List.nil_append, List.cons_append]
    go_wp2_with fail
    generalize W.alloc (.cells #[.int .i64 0] 3) = w0 at *
    with_reducible refine HC.out.mono ?_
    rintro e w1 ⟨rfl, hb1⟩
    have HR1 := hide (HRN.out.below hb1)
    have HB1 := hide (HBN.out.trans (hb1.mono HBN.out.size))
    have hl1 := HR1.out.lt
    clear hb1 HC
    go_wp2_with fail
    refine (lapsF_any k A c m w1).mono ?_
    rintro e w2 ⟨rfl, hrow, hb2⟩
    have HR2 := hide (HR1.out.below hb2)
    have HB2 := hide (HB1.out.trans (hb2.mono HB1.out.size))
    have hgl := HR2.out.lt
    have hseq := laps_seq B w1.heap.size A c m ts w2 hrow (H.out.below (HB2.out.mono hB)) (Nat.le_trans hB HB2.out.size) hs HNE.out
    have hs2 := hb2.size
    have HB22 := hide hb2
    clear hb2 hrow
    go_wp2_with fail
    refine wp_range4 (gf := 50) (lb := #[.pointer (some ⟨w1.heap.size, 0, none⟩)]) rfl (enters_of Try.func50 (by kernel_rfl) rfl) hseq W.heap.size (by omega) (fun j hj => by show j < _; have : j < B := hj; omega) (Below.refl _ _) (fun _ => rfl)
      (ManyAt W.heap.size) (fun _ _ _ => False) (ManyAt.stays _) (fun _ _ _ _ h _ => h) (fun _ _ _ h hb => h.belowB (by omega) hb) (fun _ _ _ _ h _ => h) HR2.out
      (fun T x a' W2 => RoundAct #[13] (encL x) T a') (fun T a' => fun _ _ _ h _ => h) ?assign ?body ?done ?stop ?panic
    case assign =>
      intro l pre x W2 R hI hb hs hlen hR
      dsimp only [encL] at hR ⊢
      gi_wp2
      exact hR _ _ (KeepsOthers.refl _) (Below.refl _ _) (fun j hj => rfl) hI (by simp [RoundAct])
    case body =>
      rintro l pre x a' W2 hrow hpa hb hs hlen
      have hpa : a' = _ := hpa
      subst hpa
      dsimp only [encL]
      have hrow' : RowAt W2 W.heap.size 3 #[.int .i64 (pre.length : Int)] := hrow
      have q0 := row1 hrow'
      have ql := hrow'.lt
      have qf := hrow'.frozen 0
      have HR := hide hrow'
      have hpl : (pre.length : Int) ≤ 4096 := by omega
      have hwr : wrap64 ((pre.length : Int) + 1) = (pre.length : Int) + 1 := IntWalk.wrap64_in _ (by omega)
      have HLE := hide (show (((pre ++ [x]).length : Nat) : Int) = (pre.length : Int) + 1 from by simp)
      clear hrow hrow'
      generalize (pre.length : Int) = z at *
      gi_wp2
      refine ⟨KeepsOthers.setCell _ _ _, (Below.refl _ _).setCell (p := ⟨W.heap.size, 0, none⟩) (Nat.le_refl _) _, fun j hj => heap_setCell_ne _ _ _ _ (by show j ≠ W.heap.size; omega), ?_⟩
      unfold ManyAt
      rw [HLE.out]
      have h := HR.out.set 0 (.int .i64 (z + 1))
      simpa using h
    case done =>
      rintro ys W2 rfl hrow hb hs hD
      have hrow' : RowAt W2 W.heap.size 3 #[.int .i64 r] := by rw [← HX.out]; exact hrow
      have q0 := row1 hrow'
      have ql := hrow'.lt
      have HD := hide hD
      have HBF := hide (HB2.out.trans hb)
      clear hrow hrow' hb hD
      unfold marked
      go_wp2_with fail
      refine ⟨by simp, .inl ⟨_, _, rfl, run_takeDeferred HD.out, ?_⟩⟩
      refine ⟨_, by simp [results, Try.results22, go_sem], rfl, ?_⟩
      exact HBF.out.trans (below_putObj (o := .deferred (some [])) _ (by have := HB2.out.size; omega))
    case stop =>
      rintro c pre W _ h
      exact h.elim
    case panic =>
      rintro pre W h
      exact h.elim
end Go.Proofs.Ytogjokoaghpjiaa

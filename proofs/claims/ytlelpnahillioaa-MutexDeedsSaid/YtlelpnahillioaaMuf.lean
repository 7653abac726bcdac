/-
  The same mutexes; mutexes in memory of their own; new ones; which ones a goroutine has.
-/
import Derived.Test.YtlelpnahillioaaMue
set_option linter.unusedSimpArgs false
set_option linter.unusedVariables false
namespace Go.Proofs.Ytlelpnahillioaa
open Go Go.RowKit
attribute [local go_sem] via_cell via_frozen

def muEq (x y : Mm) : Bool := decide (x.who = y.who) && decide (x.q = y.q)
theorem muEq_iff (x y : Mm) : muEq x y = true ↔ x.mu = y.mu := by
  unfold muEq Mm.mu
  simp
theorem sameC_any (x y : Mm) (W : World) (h1 : Rd W W.heap.size 1 x.A x.q.length (Cs encI x.q)) (h2 : Rd W W.heap.size 1 y.A y.q.length (Cs encI y.q)) (l1 : x.q.length ≤ 4096) (l2 : y.q.length ≤ 4096) (r : Bool) (hr : muEq x y = r) :
    Calls Try.prog 49 #[.agg (mC x), .agg (mC y)] W fun e W' => e = .returned (.bool r) ∧ Below W.heap.size W W' := by
  obtain ⟨xch, xA, xc, xcan⟩ := x
  obtain ⟨ych, yA, yc, ycan⟩ := y
  dsimp only [mC] at *
  have HB := hide (show Below W.heap.size W ((W.alloc (.cells #[.int .i64 xch, .slice xA xcan.length xc] 47)).alloc (.cells #[.int .i64 ych, .slice yA ycan.length yc] 47)) from ((Below.refl _ _).alloc (Nat.le_refl _) _).alloc (by simp) _)
  unfold muEq at hr
  dsimp only at hr
  by_cases hc : xch = ych
  · have hd : (xch == ych) = true := by simpa using hc
    have HE := hide (EqualI W.heap.size W.heap.size xA yA xc yc xcan ycan _ (h1.below HB.out) (h2.below HB.out) HB.out.size HB.out.size l1 l2 r (by rw [← hr]; simp [hc]))
    clear h1 h2 hr
    subst hc
    go_enter Try.func49, Try.ntmps49
    go_wp2_with fail
    with_reducible refine HE.out.mono ?_
    rintro e w1 ⟨rfl, hb⟩
    have HBF := hide (HB.out.trans (hb.mono HB.out.size))
    clear hb
    go_wp2_with fail
    go_ret
    exact ⟨rfl, HBF.out⟩
  · have hd : (xch == ych) = false := by simpa using hc
    have HF := hide (show false = r from by rw [← hr]; simp [hc])
    clear h1 h2 hr
    go_enter Try.func49, Try.ntmps49
    go_wp2_with fail
    go_ret
    exact ⟨ret_bool HF.out, HB.out⟩
theorem take_mus {ts us : List Mm} {k : Nat} (h1 : k < ts.length) (h2 : k < us.length) : ((mus ts).take (k + 1) = (mus us).take (k + 1)) ↔ ((mus ts).take k = (mus us).take k ∧ muEq (ts.getD k mmZ) (us.getD k mmZ) = true) := by
  have e1 : (mus ts).take (k + 1) = (mus ts).take k ++ [(ts.getD k mmZ).mu] := by rw [← mus_take, takeM_succ h1, ← mus_take]; simp [mus]
  have e2 : (mus us).take (k + 1) = (mus us).take k ++ [(us.getD k mmZ).mu] := by rw [← mus_take, takeM_succ h2, ← mus_take]; simp [mus]
  rw [e1, e2, muEq_iff]
  constructor
  · intro h
    have := List.append_inj' h rfl
    exact ⟨this.1, by simpa using this.2⟩
  · rintro ⟨h, h'⟩
    rw [h, h']
set_option maxHeartbeats 1000000 in
theorem equalF_any (B1 B2 : Nat) (A1 A2 : Option Addr) (c1 c2 m1 m2 : Nat) (ts us : List Mm) (W : World) (h1 : RM W B1 A1 m1 ts) (h2 : RM W B2 A2 m2 us) (hB1 : B1 ≤ W.heap.size) (hB2 : B2 ≤ W.heap.size) (s1 : SmallM ts) (s2 : SmallM us) (r : Bool) (hr : decide (mus ts = mus us) = r) :
    Calls Try.prog 48 #[.slice A1 m1 c1, .slice A2 m2 c2, .func (.func 49) #[] #[]] W fun e W' => e = .returned (.bool r) ∧ Below W.heap.size W W' := by
  have HR := hide hr
  have H1 := hide h1
  have H2 := hide h2
  have L1 := hide h1.len
  have L2 := hide h2.len
  have S1 := hide s1
  have S2 := hide s2
  have hm1 : m1 ≤ 4096 := by have := s1.1; have := h1.len; omega
  have hm2 : m2 ≤ 4096 := by have := s2.1; have := h2.len; omega
  clear h1 h2 hr s1 s2
  by_cases hlen : m1 = m2
  · subst hlen
    have ht : ((m1 : Int) != (m1 : Int)) = false := by simp
    go_enter Try.func48, Try.ntmps48
    go_wp2_with fail
    go_loopw [17] (fun i wr => ∃ k : Nat, k ≤ m1 ∧ i = .int .i64 k ∧ (mus ts).take k = (mus us).take k ∧ Below W.heap.size W wr) (fun i _ => m1 - (intOf i).toNat)
    case atStart => exact ⟨0, Nat.zero_le _, rfl, rfl, Below.refl _ _⟩
    case round =>
      obtain ⟨k, hk, rfl, hpre, hbw⟩ := hrel
      have HP := hide hpre
      have HBW := hide hbw
      clear hpre hbw
      by_cases hlt : k < m1
      · have hx1 : k < ts.length := by rw [L1.out]; exact hlt
        have hx2 : k < us.length := by rw [L2.out]; exact hlt
        obtain ⟨b1, o1, rfl, hb1, d10, d11, hcan1⟩ := (H1.out.below (HBW.out.mono hB1)).at_ hlt
        obtain ⟨b2, o2, rfl, hb2, d20, d21, hcan2⟩ := (H2.out.below (HBW.out.mono hB2)).at_ hlt
        have hbl1 : b1 < wr.heap.size := Nat.lt_of_lt_of_le hb1 (Nat.le_trans hB1 HBW.out.size)
        have hbl2 : b2 < wr.heap.size := Nat.lt_of_lt_of_le hb2 (Nat.le_trans hB2 HBW.out.size)
        have hkm : (k : Int) < (m1 : Int) := by omega
        have HT := hide (take_mus hx1 hx2)
        have hl1 := S1.out.2 _ (getM_mem hx1)
        have hl2 := S2.out.2 _ (getM_mem hx2)
        generalize ts.getD k mmZ = x at *
        generalize us.getD k mmZ = y at *
        obtain ⟨q, hq⟩ : ∃ q, muEq x y = q := ⟨_, rfl⟩
        have HBN := hide (show Below wr.heap.size wr ((wr.alloc (.cells #[.int .i64 x.who, .slice x.A x.q.length x.c] 47)).alloc (.cells #[.int .i64 y.who, .slice y.A y.q.length y.c] 47)) from ((Below.refl _ _).alloc (Nat.le_refl _) _).alloc (by simp) _)
        have HC := hide (sameC_any x y _ (((hcan1.more (Nat.le_trans hB1 HBW.out.size)).below HBN.out).more HBN.out.size) (((hcan2.more (Nat.le_trans hB2 HBW.out.size)).below HBN.out).more HBN.out.size) hl1 hl2 q hq)
        have HQ := hide hq
        dsimp only [mC] at HC
        clear hq hb1 hb2 hcan1 hcan2
        go_wp2_with fail
        with_reducible refine HC.out.mono ?_
        rintro e w2 ⟨rfl, hb2⟩
        have HBE := hide (HBW.out.trans ((HBN.out.trans (hb2.mono HBN.out.size)).mono HBW.out.size))
        clear hb2
        cases q
        · have HF := hide (show false = r from by
            rw [← HR.out, eq_comm, decide_eq_false_iff_not]
            intro h
            have h' := (HT.out.1 (by rw [h])).2
            rw [HQ.out] at h'
            cases h')
          go_wp2_with fail
          go_ret
          exact ⟨ret_bool HF.out, HBE.out⟩
        · have HN := hide (HT.out.2 ⟨HP.out, HQ.out⟩)
          go_wp2_with fail
          go_roundw
          case rel => exact ⟨k + 1, by omega, by go_num, HN.out, HBE.out⟩
          case measure => simp [intOf]; omega
      · have HF := hide (show true = r from by
          rw [← HR.out, eq_comm, decide_eq_true_iff]
          have h := HP.out
          rw [List.take_of_length_le (by rw [mus_len, L1.out]; omega), List.take_of_length_le (by rw [mus_len, L2.out]; omega)] at h
          exact h)
        go_wp2_with fail
        go_ret
        exact ⟨ret_bool HF.out, HBW.out⟩
  · have ht : ((m1 : Int) != (m2 : Int)) = true := by rw [bne_iff_ne]; omega
    have HF := hide (show false = r from by
      rw [← HR.out, eq_comm, decide_eq_false_iff_not]
      intro h
      apply hlen
      rw [← L1.out, ← L2.out, ← mus_len ts, ← mus_len us, h])
    go_enter Try.func48, Try.ntmps48
    go_wp2_with fail
    go_ret
    exact ⟨ret_bool HF.out, Below.refl _ _⟩
theorem same_any (B1 B2 : Nat) (A1 A2 : Option Addr) (c1 c2 m1 m2 : Nat) (ts us : List Mm) (W : World) (h1 : RM W B1 A1 m1 ts) (h2 : RM W B2 A2 m2 us) (hB1 : B1 ≤ W.heap.size) (hB2 : B2 ≤ W.heap.size) (s1 : SmallM ts) (s2 : SmallM us) (r : Bool) (hr : decide (mus ts = mus us) = r) :
    Calls Try.prog 26 #[.slice A1 m1 c1, .slice A2 m2 c2] W fun e W' => e = .returned (.bool r) ∧ Below W.heap.size W W' := by
  have HI := hide (equalF_any B1 B2 A1 A2 c1 c2 m1 m2 ts us W h1 h2 hB1 hB2 s1 s2 r hr)
  clear h1 h2 s1 s2 hr
  go_enter Try.func26, Try.ntmps26
  go_wp2_with fail
  with_reducible refine HI.out.mono ?_
  rintro e w1 ⟨rfl, hb⟩
  go_wp2_with fail
  go_ret
  exact ⟨rfl, hb⟩
theorem Rd.grown {w w' : World} {B sz n : Nat} {A : Option Addr} {xs : List Value} {row : Option Nat} (h : Rd w B sz A n xs) (hg : w.grownBy w' row) (hne : ∀ p, A = some p → some p.block ≠ row) (hB : B ≤ w.heap.size) : Rd w' B sz A n xs :=
  ⟨h.1, fun hn => by
    obtain ⟨b, off, e, hb, hc⟩ := h.2 hn
    exact ⟨b, off, e, hb, fun j u hu => (cell_of_heap (hg.block b (by omega) (hne _ e))).trans (hc j u hu)⟩⟩
theorem Rd.keepA {w w' : World} {B sz n : Nat} {A : Option Addr} {xs : List Value} (h : Rd w B sz A n xs) (hk : ∀ p, A = some p → w'.heap[p.block]? = w.heap[p.block]?) : Rd w' B sz A n xs :=
  ⟨h.1, fun hn => by
    obtain ⟨b, off, e, hb, hc⟩ := h.2 hn
    exact ⟨b, off, e, hb, fun j u hu => (cell_of_heap (p := ⟨b, off + j, none⟩) (hk ⟨b, off, none⟩ e)).trans (hc j u hu)⟩⟩
/-- A mutex's queue, in memory of its own: not in the row's own block. -/
structure QOk (base : Nat) (w : World) (gl : Option Nat) (t : Mm) : Prop where
  rd : Rd w w.heap.size 1 t.A t.q.length (Cs encI t.q)
  cap : t.q.length ≤ t.c ∧ t.c ≤ 9223372036854775807
  fr : ∀ p, t.A = some p → base ≤ p.block ∧ p.block < w.heap.size ∧ some p.block ≠ gl ∧ ∃ cs, RowAt w p.block 3 cs
theorem QOk.keep {base : Nat} {w w' : World} {gl : Option Nat} {t : Mm} (h : QOk base w gl t) (hs : w.heap.size ≤ w'.heap.size) (hk : ∀ p, t.A = some p → w'.heap[p.block]? = w.heap[p.block]?) : QOk base w' gl t := by
  refine ⟨(h.rd.keepA hk).more hs, h.cap, fun p hp => ?_⟩
  obtain ⟨h1, h2, h3, cs, h4⟩ := h.fr p hp
  exact ⟨h1, Nat.lt_of_lt_of_le h2 hs, h3, cs, (hk p hp).trans h4⟩
theorem QOk.below {base : Nat} {w w' : World} {gl : Option Nat} {t : Mm} (h : QOk base w gl t) (hb : Below w.heap.size w w') : QOk base w' gl t := h.keep hb.size (fun p hp => hb.block _ (h.fr p hp).2.1)
theorem QOk.base {b b' : Nat} {w : World} {gl : Option Nat} {t : Mm} (h : QOk b w gl t) (hb : b' ≤ b) : QOk b' w gl t := ⟨h.rd, h.cap, fun p hp => by obtain ⟨h1, h2⟩ := h.fr p hp; exact ⟨Nat.le_trans hb h1, h2⟩⟩
theorem qok_none {base : Nat} {w : World} {gl : Option Nat} {who : Int} : QOk base w gl ⟨who, none, 0, []⟩ := ⟨Rd.none_, ⟨Nat.le_refl _, by show 0 ≤ _; omega⟩, fun p hp => by cases hp⟩
structure MadeM (base : Nat) (w : World) (v : Value) (ts : List Mm) : Prop where
  own : w.ownsRow base 47 2 v ts.length (Cs encM ts)
  qs : ∀ t ∈ ts, QOk base w v.ownBlock t
theorem MadeM.below {base : Nat} {w w' : World} {v : Value} {ts : List Mm} (h : MadeM base w v ts) (hb : Below w.heap.size w w') : MadeM base w' v ts := ⟨own_keepB h.own hb, fun t ht => (h.qs t ht).below hb⟩
theorem MadeM.base {b b' : Nat} {w : World} {v : Value} {ts : List Mm} (h : MadeM b w v ts) (hb : b' ≤ b) : MadeM b' w v ts := ⟨ownsRow_base h.own hb, fun t ht => (h.qs t ht).base hb⟩
theorem MadeM.rm {base : Nat} {w : World} {A : Option Addr} {m c : Nat} {ts : List Mm} (h : MadeM base w (.slice A m c) ts) (hm : ts.length = m) : RM w w.heap.size A m ts := ⟨by subst hm; exact Rd.of_own h.own, hm, fun t ht => (h.qs t ht).rd⟩
theorem MadeM.nil (base : Nat) (w : World) : MadeM base w (.slice none 0 0) [] := ⟨World.ownsRow_nil _ _ _ _, by simp⟩
theorem MadeM.app {base : Nat} {w w' : World} {v v' : Value} {ts : List Mm} {t : Mm} (h : MadeM base w v ts) (ht : QOk base w v.ownBlock t)
    (ho : w'.ownsRow base 47 2 v' (ts.length + 1) (Cs encM ts ++ encM t)) (hg : w.grownBy w' v.ownBlock) (hv : v'.ownBlock = v.ownBlock ∨ v'.ownBlock = some w.heap.size) (hs : w.heap.size ≤ w'.heap.size) : MadeM base w' v' (ts ++ [t]) := by
  have hall : ∀ u ∈ ts ++ [t], QOk base w v.ownBlock u := by
    intro u hu
    rcases List.mem_append.1 hu with h1 | h1
    · exact h.qs u h1
    · obtain rfl := List.mem_singleton.1 h1; exact ht
  refine ⟨by rw [List.length_append, Cs_append, Cs_one]; exact ho, fun u hu => ?_⟩
  have hq := hall u hu
  have hk := hq.keep hs (fun p hp => hg.block _ (hq.fr p hp).2.1 (hq.fr p hp).2.2.1)
  refine ⟨hk.rd, hk.cap, fun p hp => ?_⟩
  obtain ⟨h1, h2, h3, h4⟩ := hk.fr p hp
  refine ⟨h1, h2, ?_, h4⟩
  rcases hv with e | e
  · rw [e]; exact h3
  · rw [e]
    intro h5
    injection h5 with h5
    have := (hq.fr p hp).2.1
    omega
theorem MadeM.small {base : Nat} {w : World} {v : Value} {ts : List Mm} (h : MadeM base w v ts) (hr : RightM (mus ts)) : SmallM ts := by
  refine ⟨by have := hr.hi; rw [mus_len] at this; omega, fun t ht => ?_⟩
  have : t.mu ∈ mus ts := List.mem_map_of_mem ht
  have h2 := hr.q_len this
  exact Nat.le_trans h2 (by omega)
def newL (n : Nat) : List Mm := List.replicate n mmZ
def NewRes (n : Int) (base : Nat) (e : Ending) (W' : World) : Prop := ((1 ≤ n ∧ n ≤ 160 ∧ ∃ A c, e = .returned (.tuple #[.slice A n.toNat c, .int .i64 0]) ∧ MadeM base W' (.slice A n.toNat c) (newL n.toNat) ∧ n.toNat ≤ c ∧ c ≤ 4096) ∨ (¬ (1 ≤ n ∧ n ≤ 160) ∧ e = .returned (.tuple #[.slice none 0 0, .int .i64 2])))
theorem new_any (n : Int) (W : World) :
    Calls Try.prog 20 #[.int .i64 n] W fun e W' => NewRes n W.heap.size e W' ∧ Below W.heap.size W W' := by
  by_cases h1 : n < 1
  · go_enter Try.func20, Try.ntmps20
    go_wp2_with fail
    go_ret2
    exact ⟨.inr ⟨by omega, rfl⟩, Below.refl _ _⟩
  have hd : decide (n < 1) = false := by simpa using h1
  by_cases h2 : 160 < n
  · have hd2 : decide (160 < n) = true := by simpa using h2
    go_enter Try.func20, Try.ntmps20
    go_wp2_with fail
    go_ret2
    exact ⟨.inr ⟨by omega, rfl⟩, Below.refl _ _⟩
  have hd2 : decide (160 < n) = false := by simpa using h2
  obtain ⟨k, rfl⟩ := Int.eq_ofNat_of_zero_le (show 0 ≤ n by omega)
  have hk : k ≤ 160 := by omega
  have hk1 : 1 ≤ k := by omega
  obtain ⟨i0, hi0, hz0, hz1, hz2⟩ := info_parts elM.info
  have hmk := fun w => run_make_rowN (P := Try.prog) 22 47 i0 _ Try.underlying22 hi0 hz0 .i64 .i64 k k (Nat.le_refl _) (by rw [hz2]; omega) (by omega) w
  rw [hz1] at hmk
  have hcs : madeCells #[.int .i64 0, .slice none 0 0] (k * 2) = (Cs encM (newL k)).toArray := by
    apply Array.ext_getElem?
    intro j
    by_cases hj : j < k * 2
    · have h3 : (Cs encM (newL k))[j]? = (encM mmZ)[j % 2]? := by
        have hq : j / 2 < (newL k).length := by simp [newL]; omega
        have := Cs_at encM_len (newL k) (j / 2) (j % 2) hq (by omega)
        rw [show j / 2 * 2 + j % 2 = j by omega] at this
        rw [this]; simp [newL]
      simp only [Array.getElem?_toList, List.getElem?_toArray, h3]
      have h4 : j % 2 = 0 ∨ j % 2 = 1 := by omega
      rcases h4 with h4 | h4 <;> simp [madeCells, hj, h4, encM, mmZ]
    · have h5 : (Cs encM (newL k)).length = k * 2 := by rw [Cs_length encM_len]; simp [newL]
      rw [Array.getElem?_eq_none (by simp [madeCells]; omega), Array.getElem?_eq_none (by simp [h5]; omega)]
  have hown := World.ownsRow_lit (base := W.heap.size) (e := 47) (size := 2) W (Cs encM (newL k)).toArray k (Nat.le_refl _) (by simp [maxLen]; omega) (by simp [Cs_length encM_len, newL])
  have HOWN := hide hown
  have HB := hide (show Below W.heap.size W (W.alloc (.cells (Cs encM (newL k)).toArray 47)) from (Below.refl _ _).alloc (Nat.le_refl _) _)
  have hzc : (Value.agg #[.int .i64 0, .slice none 0 0]).cells = #[.int .i64 0, .slice none 0 0] := rfl
  rw [hzc] at hmk
  simp only [hcs] at hmk
  clear hi0 hz0 hz1 hz2 hown hcs h1 h2 hzc
  go_enter Try.func20, Try.ntmps20
  go_wp2_with fail
  go_ret2
  refine ⟨.inl ⟨by omega, by omega, _, k, rfl, ⟨?_, fun t ht => ?_⟩, by simp, by omega⟩, HB.out⟩
  · simpa [newL] using HOWN.out
  · obtain rfl := List.eq_of_mem_replicate ht
    exact qok_none
end Go.Proofs.Ytlelpnahillioaa

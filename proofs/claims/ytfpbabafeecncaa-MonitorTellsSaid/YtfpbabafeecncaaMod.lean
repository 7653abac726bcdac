/-
  The same monitors: monitor.Same, the reference's Same.
-/
import Derived.Test.YtfpbabafeecncaaMoc
set_option linter.unusedSimpArgs false
set_option linter.unusedVariables false
namespace Go.Proofs.Ytfpbabafeecncaa
open Go Go.RowKit
attribute [local go_sem] via_cell via_frozen

def sameM (a b : Mon) : Bool := decide (a.sl = b.sl) && (decide (a.pin = b.pin) && (decide (a.has = b.has) && decide (a.bad = b.bad)))
theorem sameM_self (a : Mon) : sameM a a = true := by unfold sameM; simp
theorem sameM_iff {a b : Mon} : sameM a b = true ↔ a = b := by
  obtain ⟨a1, a2, a3, a4⟩ := a
  obtain ⟨b1, b2, b3, b4⟩ := b
  unfold sameM
  simp
theorem sameC_any (B1 B2 : Nat) (A1 A2 : Option Addr) (n1 n2 c1 c2 : Nat) (xs ys : List Ent) (W : World) (h1 : Rd W B1 2 A1 n1 (Cs encE xs)) (h2 : Rd W B2 2 A2 n2 (Cs encE ys)) (hx : xs.length = n1) (hy : ys.length = n2) (hB1 : B1 ≤ W.heap.size) (hB2 : B2 ≤ W.heap.size)
    (hl1 : n1 ≤ 4096) (hl2 : n2 ≤ 4096) (r : Bool) (hr : decide (xs = ys) = r) :
    Calls Try.prog 53 #[.slice A1 n1 c1, .slice A2 n2 c2] W fun e W' => e = .returned (.bool r) ∧ Below W.heap.size W W' := by
  subst hx; subst hy
  have HC := hide (EqualE B1 B2 A1 A2 c1 c2 xs ys W h1 h2 hB1 hB2 hl1 hl2 r hr)
  go_enter Try.func53, Try.ntmps53
  go_wp2_with fail
  refine HC.out.mono ?_
  rintro e w1 ⟨rfl, hb⟩
  have HB := hide hb
  clear hb
  go_wp2_with fail
  go_ret
  exact ⟨rfl, HB.out⟩
theorem take_rows {ts us : List Hm} {k : Nat} (h1 : k < ts.length) (h2 : k < us.length) : ((rowsQ ts).take (k + 1) = (rowsQ us).take (k + 1)) ↔ ((rowsQ ts).take k = (rowsQ us).take k ∧ (ts.getD k hmZ).q = (us.getD k hmZ).q) := by
  have e1 : (rowsQ ts).take (k + 1) = (rowsQ ts).take k ++ [(ts.getD k hmZ).q] := by unfold rowsQ; rw [← List.map_take, takeH_succ h1, ← List.map_take]; simp
  have e2 : (rowsQ us).take (k + 1) = (rowsQ us).take k ++ [(us.getD k hmZ).q] := by unfold rowsQ; rw [← List.map_take, takeH_succ h2, ← List.map_take]; simp
  rw [e1, e2]
  constructor
  · intro h
    have := List.append_inj' h rfl
    exact ⟨this.1, by simpa using this.2⟩
  · rintro ⟨h, h'⟩
    rw [h, h']
set_option maxHeartbeats 1000000 in
theorem equalF_any (B1 B2 : Nat) (A1 A2 : Option Addr) (c1 c2 m1 m2 : Nat) (ts us : List Hm) (W : World) (h1 : RH W B1 A1 m1 ts) (h2 : RH W B2 A2 m2 us) (hB1 : B1 ≤ W.heap.size) (hB2 : B2 ≤ W.heap.size) (hm1 : m1 ≤ 4096) (hm2 : m2 ≤ 4096) (s1 : ∀ t ∈ ts, t.q.length ≤ 4096) (s2 : ∀ t ∈ us, t.q.length ≤ 4096) (r : Bool) (hr : decide (rowsQ ts = rowsQ us) = r) :
    Calls Try.prog 56 #[.slice A1 m1 c1, .slice A2 m2 c2, .func (.func 53) #[] #[]] W fun e W' => e = .returned (.bool r) ∧ Below W.heap.size W W' := by
  have HR := hide hr
  have H1 := hide h1
  have H2 := hide h2
  have L1 := hide h1.len
  have L2 := hide h2.len
  have S1 := hide s1
  have S2 := hide s2
  clear h1 h2 hr s1 s2
  by_cases hlen : m1 = m2
  · subst hlen
    have ht : ((m1 : Int) != (m1 : Int)) = false := by simp
    go_enter Try.func56, Try.ntmps56
    go_wp2_with fail
    go_loopw [17] (fun i wr => ∃ k : Nat, k ≤ m1 ∧ i = .int .i64 k ∧ (rowsQ ts).take k = (rowsQ us).take k ∧ Below W.heap.size W wr) (fun i _ => m1 - (intOf i).toNat)
    case atStart => exact ⟨0, Nat.zero_le _, rfl, rfl, Below.refl _ _⟩
    case round =>
      obtain ⟨k, hk, rfl, hpre, hbw⟩ := hrel
      have HP := hide hpre
      have HBW := hide hbw
      clear hpre hbw
      by_cases hlt : k < m1
      · have hx1 : k < ts.length := by rw [L1.out]; exact hlt
        have hx2 : k < us.length := by rw [L2.out]; exact hlt
        obtain ⟨b1, o1, rfl, hb1, d1, hcan1⟩ := (H1.out.below (HBW.out.mono hB1)).at_ hlt
        obtain ⟨b2, o2, rfl, hb2, d2, hcan2⟩ := (H2.out.below (HBW.out.mono hB2)).at_ hlt
        have hbl1 : b1 < wr.heap.size := Nat.lt_of_lt_of_le hb1 (Nat.le_trans hB1 HBW.out.size)
        have hbl2 : b2 < wr.heap.size := Nat.lt_of_lt_of_le hb2 (Nat.le_trans hB2 HBW.out.size)
        have hkm : (k : Int) < (m1 : Int) := by omega
        have HT := hide (take_rows hx1 hx2)
        have hl1 := S1.out _ (getH_mem hx1)
        have hl2 := S2.out _ (getH_mem hx2)
        generalize ts.getD k hmZ = x at *
        generalize us.getD k hmZ = y at *
        obtain ⟨xA, xc, xq⟩ := x
        obtain ⟨yA, yc, yq⟩ := y
        dsimp only at *
        obtain ⟨n1, hn1⟩ : ∃ n, xq.length = n := ⟨_, rfl⟩
        obtain ⟨n2, hn2⟩ : ∃ n, yq.length = n := ⟨_, rfl⟩
        rw [hn1] at hcan1 d1 hl1
        rw [hn2] at hcan2 d2 hl2
        obtain ⟨q, hq⟩ : ∃ q, decide (xq = yq) = q := ⟨_, rfl⟩
        have HC := hide (sameC_any B1 B2 xA yA n1 n2 xc yc xq yq wr hcan1 hcan2 hn1 hn2 (Nat.le_trans hB1 HBW.out.size) (Nat.le_trans hB2 HBW.out.size) hl1 hl2 q hq)
        have HQ := hide hq
        clear hq hb1 hb2 hcan1 hcan2 hn1 hn2
        go_wp2_with fail
        with_reducible refine HC.out.mono ?_
        rintro e w2 ⟨rfl, hb2⟩
        have HBE := hide (HBW.out.trans (hb2.mono HBW.out.size))
        clear hb2
        cases q
        · have HF := hide (show false = r from by
            rw [← HR.out, eq_comm, decide_eq_false_iff_not]
            intro h
            have h' := (HT.out.1 (by rw [h])).2
            exact absurd h' (by simpa using HQ.out))
          go_wp2_with fail
          go_ret
          exact ⟨ret_bool HF.out, HBE.out⟩
        · have HN := hide (HT.out.2 ⟨HP.out, by simpa using HQ.out⟩)
          go_wp2_with fail
          go_roundw
          case rel => exact ⟨k + 1, by omega, by go_num, HN.out, HBE.out⟩
          case measure => simp [intOf]; omega
      · have HF := hide (show true = r from by
          rw [← HR.out, eq_comm, decide_eq_true_iff]
          have h := HP.out
          rw [List.take_of_length_le (by rw [rowsQ_len, L1.out]; omega), List.take_of_length_le (by rw [rowsQ_len, L2.out]; omega)] at h
          exact h)
        go_wp2_with fail
        go_ret
        exact ⟨ret_bool HF.out, HBW.out⟩
  · have ht : ((m1 : Int) != (m2 : Int)) = true := by rw [bne_iff_ne]; omega
    have HF := hide (show false = r from by
      rw [← HR.out, eq_comm, decide_eq_false_iff_not]
      intro h
      apply hlen
      rw [← L1.out, ← L2.out, ← rowsQ_len ts, ← rowsQ_len us, h])
    go_enter Try.func56, Try.ntmps56
    go_wp2_with fail
    go_ret
    exact ⟨ret_bool HF.out, Below.refl _ _⟩
set_option maxRecDepth 20000 in
set_option maxHeartbeats 2000000 in
theorem msameX_any (a0 a1 a2 a3 : Option Addr) (n0 n1 n2 n3 c0 c1 c2 c3 : Nat) (b0 b1 b2 b3 : Option Addr) (k0 k1 k2 k3 d0 d1 d2 d3 : Nat) (ts us : List Hm) (m p : Mon) (W : World) (h1 : MonX W W.heap.size a0 a1 a2 a3 n0 n1 n2 n3 ts m) (h2 : MonX W W.heap.size b0 b1 b2 b3 k0 k1 k2 k3 us p) (s1 : SmallX n0 n1 n2 n3 ts) (s2 : SmallX k0 k1 k2 k3 us) (r : Bool) (hr : sameM m p = r) :
    Calls Try.prog 23 #[.agg (moC a0 a1 a2 a3 n0 n1 n2 n3 c0 c1 c2 c3), .agg (moC b0 b1 b2 b3 k0 k1 k2 k3 d0 d1 d2 d3)] W fun e W' => e = .returned (.bool r) ∧ Below W.heap.size W W' := by
  obtain ⟨w1, hw1⟩ : ∃ w1, W.alloc (.cells (moC a0 a1 a2 a3 n0 n1 n2 n3 c0 c1 c2 c3) 32) = w1 := ⟨_, rfl⟩
  obtain ⟨w2, hw2⟩ : ∃ w2, w1.alloc (.cells (moC b0 b1 b2 b3 k0 k1 k2 k3 d0 d1 d2 d3) 32) = w2 := ⟨_, rfl⟩
  have e1 : w1.heap.size = W.heap.size + 1 := by rw [← hw1]; simp
  have f1 : Below W.heap.size W w1 := by rw [← hw1]; exact (Below.refl _ _).alloc (Nat.le_refl _) _
  have f2 : Below w1.heap.size w1 w2 := by rw [← hw2]; exact (Below.refl _ _).alloc (Nat.le_refl _) _
  have R1 := hide (show RowAt w2 W.heap.size 32 (moC a0 a1 a2 a3 n0 n1 n2 n3 c0 c1 c2 c3) from by have h := RowAt.new W 32 (moC a0 a1 a2 a3 n0 n1 n2 n3 c0 c1 c2 c3); rw [hw1] at h; exact h.below f2)
  have R2 := hide (show RowAt w2 (W.heap.size + 1) 32 (moC b0 b1 b2 b3 k0 k1 k2 k3 d0 d1 d2 d3) from by have h := RowAt.new w1 32 (moC b0 b1 b2 b3 k0 k1 k2 k3 d0 d1 d2 d3); rw [hw2, e1] at h; exact h)
  have HB := hide (f1.trans (f2.mono f1.size))
  have H1 := hide (fun (w : World) (hb : Below W.heap.size W w) => h1.below hb)
  have H2 := hide (fun (w : World) (hb : Below W.heap.size W w) => h2.below hb)
  have S1 := hide s1
  have S2 := hide s2
  unfold sameM at hr
  obtain ⟨q1, hq1⟩ : ∃ q, decide (m.sl = p.sl) = q := ⟨_, rfl⟩
  obtain ⟨q2, hq2⟩ : ∃ q, decide (m.pin = p.pin) = q := ⟨_, rfl⟩
  obtain ⟨q3, hq3⟩ : ∃ q, decide (m.has = p.has) = q := ⟨_, rfl⟩
  obtain ⟨q4, hq4⟩ : ∃ q, decide (m.bad = p.bad) = q := ⟨_, rfl⟩
  rw [hq1, hq2, hq3, hq4] at hr
  have C1 := hide (fun (w : World) (hb : Below W.heap.size W w) => same_any a0 b0 c0 d0 n0 k0 m.sl p.sl w ((h1.below hb).sl.more hb.size) ((h2.below hb).sl.more hb.size) h1.l0 h2.l0 s1.s0 s2.s0 q1 hq1)
  have C2 := hide (fun (w : World) (hb : Below W.heap.size W w) => show Calls Try.prog 55 #[.slice a1 n1 c1, .slice b1 k1 d1] w _ from by
    have h := EqualB W.heap.size W.heap.size a1 b1 c1 d1 m.pin p.pin w (by rw [h1.l1]; exact (h1.below hb).pin) (by rw [h2.l1]; exact (h2.below hb).pin) hb.size hb.size (by rw [h1.l1]; exact s1.s1) (by rw [h2.l1]; exact s2.s1) q2 hq2
    rw [h1.l1, h2.l1] at h
    exact h)
  have C3 := hide (fun (w : World) (hb : Below W.heap.size W w) => equalF_any W.heap.size W.heap.size a2 b2 c2 d2 n2 k2 ts us w (h1.below hb).has (h2.below hb).has hb.size hb.size s1.s2 s2.s2 s1.rows s2.rows q3 (by rw [← hq3, h1.hs, h2.hs]))
  have C4 := hide (fun (w : World) (hb : Below W.heap.size W w) => show Calls Try.prog 28 #[.slice a3 n3 c3, .slice b3 k3 d3] w _ from by
    have h := EqualX W.heap.size W.heap.size a3 b3 c3 d3 m.bad p.bad w (by rw [h1.l3]; exact (h1.below hb).bad) (by rw [h2.l3]; exact (h2.below hb).bad) hb.size hb.size (by rw [h1.l3]; exact s1.s3) (by rw [h2.l3]; exact s2.s3) q4 hq4
    rw [h1.l3, h2.l3] at h
    exact h)
  clear hq1 hq2 hq3 hq4 h1 h2 s1 s2 e1 f1 f2 H1 H2 S1 S2
  have HR := hide hr
  clear hr
  subst hw2
  subst hw1
  go_enter Try.func23, Try.ntmps23
  go_upto_region 2 with (fail)
  generalize (W.alloc (.cells (moC a0 a1 a2 a3 n0 n1 n2 n3 c0 c1 c2 c3) 32)).alloc (.cells (moC b0 b1 b2 b3 k0 k1 k2 k3 d0 d1 d2 d3) 32) = w2 at *
  have x0 : w2.cell? ⟨W.heap.size, 0, none⟩ = some (.slice a0 n0 c0) := by have := R1.out.cell 0; simpa using this
  have x1 : w2.cell? ⟨W.heap.size, 1, none⟩ = some (.slice a1 n1 c1) := by have := R1.out.cell 1; simpa using this
  have x2 : w2.cell? ⟨W.heap.size, 2, none⟩ = some (.slice a2 n2 c2) := by have := R1.out.cell 2; simpa using this
  have x3 : w2.cell? ⟨W.heap.size, 3, none⟩ = some (.slice a3 n3 c3) := by have := R1.out.cell 3; simpa using this
  have xl := R1.out.lt
  have y0 : w2.cell? ⟨(W.heap.size + 1), 0, none⟩ = some (.slice b0 k0 d0) := by have := R2.out.cell 0; simpa using this
  have y1 : w2.cell? ⟨(W.heap.size + 1), 1, none⟩ = some (.slice b1 k1 d1) := by have := R2.out.cell 1; simpa using this
  have y2 : w2.cell? ⟨(W.heap.size + 1), 2, none⟩ = some (.slice b2 k2 d2) := by have := R2.out.cell 2; simpa using this
  have y3 : w2.cell? ⟨(W.heap.size + 1), 3, none⟩ = some (.slice b3 k3 d3) := by have := R2.out.cell 3; simpa using this
  have yl := R2.out.lt
  have HC := hide (C1.out w2 HB.out)
  go_wp2_with fail
  with_reducible refine HC.out.mono ?_
  rintro e u1 ⟨rfl, hb⟩
  replace R1 := hide (R1.out.below hb)
  replace R2 := hide (R2.out.below hb)
  replace HB := hide (HB.out.trans (hb.mono HB.out.size))
  clear hb HC x0 x1 x2 x3 xl y0 y1 y2 y3 yl
  cases q1
  case false =>
    have HF := hide (show false = r from by rw [← HR.out]; simp)
    go_wp2_with fail
    go_ret
    exact ⟨ret_bool HF.out, HB.out⟩
  have x0 : u1.cell? ⟨W.heap.size, 0, none⟩ = some (.slice a0 n0 c0) := by have := R1.out.cell 0; simpa using this
  have x1 : u1.cell? ⟨W.heap.size, 1, none⟩ = some (.slice a1 n1 c1) := by have := R1.out.cell 1; simpa using this
  have x2 : u1.cell? ⟨W.heap.size, 2, none⟩ = some (.slice a2 n2 c2) := by have := R1.out.cell 2; simpa using this
  have x3 : u1.cell? ⟨W.heap.size, 3, none⟩ = some (.slice a3 n3 c3) := by have := R1.out.cell 3; simpa using this
  have xl := R1.out.lt
  have y0 : u1.cell? ⟨(W.heap.size + 1), 0, none⟩ = some (.slice b0 k0 d0) := by have := R2.out.cell 0; simpa using this
  have y1 : u1.cell? ⟨(W.heap.size + 1), 1, none⟩ = some (.slice b1 k1 d1) := by have := R2.out.cell 1; simpa using this
  have y2 : u1.cell? ⟨(W.heap.size + 1), 2, none⟩ = some (.slice b2 k2 d2) := by have := R2.out.cell 2; simpa using this
  have y3 : u1.cell? ⟨(W.heap.size + 1), 3, none⟩ = some (.slice b3 k3 d3) := by have := R2.out.cell 3; simpa using this
  have yl := R2.out.lt
  have HC := hide (C2.out u1 HB.out)
  go_wp2_with fail
  with_reducible refine HC.out.mono ?_
  rintro e u2 ⟨rfl, hb⟩
  replace R1 := hide (R1.out.below hb)
  replace R2 := hide (R2.out.below hb)
  replace HB := hide (HB.out.trans (hb.mono HB.out.size))
  clear hb HC x0 x1 x2 x3 xl y0 y1 y2 y3 yl
  cases q2
  case false =>
    have HF := hide (show false = r from by rw [← HR.out]; simp)
    go_wp2_with fail
    go_ret
    exact ⟨ret_bool HF.out, HB.out⟩
  have x0 : u2.cell? ⟨W.heap.size, 0, none⟩ = some (.slice a0 n0 c0) := by have := R1.out.cell 0; simpa using this
  have x1 : u2.cell? ⟨W.heap.size, 1, none⟩ = some (.slice a1 n1 c1) := by have := R1.out.cell 1; simpa using this
  have x2 : u2.cell? ⟨W.heap.size, 2, none⟩ = some (.slice a2 n2 c2) := by have := R1.out.cell 2; simpa using this
  have x3 : u2.cell? ⟨W.heap.size, 3, none⟩ = some (.slice a3 n3 c3) := by have := R1.out.cell 3; simpa using this
  have xl := R1.out.lt
  have y0 : u2.cell? ⟨(W.heap.size + 1), 0, none⟩ = some (.slice b0 k0 d0) := by have := R2.out.cell 0; simpa using this
  have y1 : u2.cell? ⟨(W.heap.size + 1), 1, none⟩ = some (.slice b1 k1 d1) := by have := R2.out.cell 1; simpa using this
  have y2 : u2.cell? ⟨(W.heap.size + 1), 2, none⟩ = some (.slice b2 k2 d2) := by have := R2.out.cell 2; simpa using this
  have y3 : u2.cell? ⟨(W.heap.size + 1), 3, none⟩ = some (.slice b3 k3 d3) := by have := R2.out.cell 3; simpa using this
  have yl := R2.out.lt
  have HC := hide (C3.out u2 HB.out)
  go_wp2_with fail
  with_reducible refine HC.out.mono ?_
  rintro e u3 ⟨rfl, hb⟩
  replace R1 := hide (R1.out.below hb)
  replace R2 := hide (R2.out.below hb)
  replace HB := hide (HB.out.trans (hb.mono HB.out.size))
  clear hb HC x0 x1 x2 x3 xl y0 y1 y2 y3 yl
  cases q3
  case false =>
    have HF := hide (show false = r from by rw [← HR.out]; simp)
    go_wp2_with fail
    go_ret
    exact ⟨ret_bool HF.out, HB.out⟩
  have x0 : u3.cell? ⟨W.heap.size, 0, none⟩ = some (.slice a0 n0 c0) := by have := R1.out.cell 0; simpa using this
  have x1 : u3.cell? ⟨W.heap.size, 1, none⟩ = some (.slice a1 n1 c1) := by have := R1.out.cell 1; simpa using this
  have x2 : u3.cell? ⟨W.heap.size, 2, none⟩ = some (.slice a2 n2 c2) := by have := R1.out.cell 2; simpa using this
  have x3 : u3.cell? ⟨W.heap.size, 3, none⟩ = some (.slice a3 n3 c3) := by have := R1.out.cell 3; simpa using this
  have xl := R1.out.lt
  have y0 : u3.cell? ⟨(W.heap.size + 1), 0, none⟩ = some (.slice b0 k0 d0) := by have := R2.out.cell 0; simpa using this
  have y1 : u3.cell? ⟨(W.heap.size + 1), 1, none⟩ = some (.slice b1 k1 d1) := by have := R2.out.cell 1; simpa using this
  have y2 : u3.cell? ⟨(W.heap.size + 1), 2, none⟩ = some (.slice b2 k2 d2) := by have := R2.out.cell 2; simpa using this
  have y3 : u3.cell? ⟨(W.heap.size + 1), 3, none⟩ = some (.slice b3 k3 d3) := by have := R2.out.cell 3; simpa using this
  have yl := R2.out.lt
  have HC := hide (C4.out u3 HB.out)
  go_wp2_with fail
  with_reducible refine HC.out.mono ?_
  rintro e u4 ⟨rfl, hb⟩
  replace R1 := hide (R1.out.below hb)
  replace R2 := hide (R2.out.below hb)
  replace HB := hide (HB.out.trans (hb.mono HB.out.size))
  clear hb HC x0 x1 x2 x3 xl y0 y1 y2 y3 yl
  have HF := hide (show q4 = r from by rw [← HR.out]; simp)
  go_wp2_with fail
  go_ret
  exact ⟨ret_bool HF.out, HB.out⟩
theorem msame_any (A : Nat → Option Addr) (n c : Nat → Nat) (A' : Nat → Option Addr) (n' c' : Nat → Nat) (ts us : List Hm) (m p : Mon) (W : World) (h1 : MonRd W W.heap.size A n ts m) (h2 : MonRd W W.heap.size A' n' us p) (s1 : SmallN n ts) (s2 : SmallN n' us) (r : Bool) (hr : sameM m p = r) :
    Calls Try.prog 23 #[.agg (monC A n c), .agg (monC A' n' c')] W fun e W' => e = .returned (.bool r) ∧ Below W.heap.size W W' :=
  msameX_any _ _ _ _ _ _ _ _ _ _ _ _ _ _ _ _ _ _ _ _ _ _ _ _ ts us m p W h1 h2 s1 s2 r hr
end Go.Proofs.Ytfpbabafeecncaa

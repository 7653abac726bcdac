/-
  Monitors in memory of their own; something that is watched.
-/
import Derived.Test.YtfpbabafeecncaaMot
import Derived.Test.YtfpbabafeecncaaHeldT
import Derived.Deep.CutRange
import Derived.Deep.CutBlock
set_option linter.unusedSimpArgs false
set_option linter.unusedVariables false
namespace Go.Proofs.Ytfpbabafeecncaa
open Go Go.RowKit
attribute [local go_sem] via_cell via_frozen

theorem watch_any (k g s z : Int) (W : World) : Calls Try.prog 17 #[.int .i64 k, .int .i64 g, .agg #[.int .i64 s, .int .u64 z]] W fun e W' => e = .returned (.agg #[.int .i64 k, .int .i64 g, .int .i64 s, .int .u64 z]) ∧ Below W.heap.size W W' := by
  have hb : Below W.heap.size W ((W.alloc (.cells #[.int .i64 s, .int .u64 z] 43)).alloc (.cells #[.int .i64 k, .int .i64 g, .int .i64 s, .int .u64 z] 45)) := ((Below.refl _ _).alloc (Nat.le_refl _) _).alloc (by simp) _
  have R2 := hide (RowAt.new (W.alloc (.cells #[.int .i64 s, .int .u64 z] 43)) 45 #[.int .i64 k, .int .i64 g, .int .i64 s, .int .u64 z])
  have HB := hide hb
  clear hb
  go_enter Try.func17, Try.ntmps17
  go_wp2_with fail
  obtain ⟨p0, p1, p2, p3⟩ := row4 R2.out
  have cl := R2.out.lt
  simp only [World.size_alloc] at p0 p1 p2 p3 cl
  refine bodyPost_ret (v := .agg #[.int .i64 k, .int .i64 g, .int .i64 s, .int .u64 z]) (by simp [results, Try.results17, go_sem]) rfl ?_
  exact ⟨rfl, HB.out⟩
/-- As much of a monitor as is gone through. -/
def cutMo (m : Mon) : Mon := ⟨m.sl.take 130, m.pin.take 9, (m.has.take 9).map (List.take 20), m.bad.take 18⟩
/-- While it is copied. -/
structure OwS (W w : World) (gx : Nat) (y0 y1 y3 yh : Option Addr) (n0 n1 n3 k d0 d1 d3 d2 : Nat) (us : List Hm) (m : Mon) : Prop where
  res : RowAt w (W.heap.size + 1) 32 #[.slice none 0 0, .slice none 0 0, .slice none 0 0, .slice none 0 0]
  row : RowAt w gx 32 #[.slice y0 n0 d0, .slice y1 n1 d1, .slice yh k d2, .slice y3 n3 d3]
  gt : W.heap.size + 1 < gx
  sl : w.ownsRow W.heap.size 47 2 (.slice y0 n0 d0) n0 (Cs encE m.sl)
  pin : w.ownsRow W.heap.size 4 1 (.slice y1 n1 d1) n1 (Cs encB m.pin)
  has : w.ownsRow W.heap.size 54 1 (.slice yh k d2) k (Cs encH us)
  rows : ∀ t ∈ us, OwnH w W.heap.size t
  bad : w.ownsRow W.heap.size 45 4 (.slice y3 n3 d3) n3 (Cs encX m.bad)
  l0 : m.sl.length = n0
  l1 : m.pin.length = n1
  l2 : us.length = k
  l3 : m.bad.length = n3
  hs : m.has = rowsQ us
  below : Below W.heap.size W w
theorem OwS.keep {W w w' : World} {gx : Nat} {y0 y1 y3 yh : Option Addr} {n0 n1 n3 k d0 d1 d3 d2 : Nat} {us : List Hm} {m : Mon} (h : OwS W w gx y0 y1 y3 yh n0 n1 n3 k d0 d1 d3 d2 us m) (hb : Below w.heap.size w w') : OwS W w' gx y0 y1 y3 yh n0 n1 n3 k d0 d1 d3 d2 us m :=
  ⟨h.res.below hb, h.row.below hb, h.gt, own_keepB h.sl hb, own_keepB h.pin hb, own_keepB h.has hb, fun t ht => own_keepB (h.rows t ht) hb, own_keepB h.bad hb, h.l0, h.l1, h.l2, h.l3, h.hs, h.below.trans (hb.mono h.below.size)⟩
theorem OwS.mon {W w : World} {gx : Nat} {y0 y1 y3 yh : Option Addr} {n0 n1 n3 k d0 d1 d3 d2 : Nat} {us : List Hm} {m : Mon} (h : OwS W w gx y0 y1 y3 yh n0 n1 n3 k d0 d1 d3 d2 us m) : MonX w w.heap.size y0 y1 yh y3 n0 n1 k n3 us m :=
  ⟨Rd.of_own h.sl, h.l0, Rd.of_own h.pin, h.l1, ⟨Rd.of_own h.has, h.l2, fun t ht => Rd.of_own (h.rows t ht)⟩, h.hs, Rd.of_own h.bad, h.l3⟩
theorem OwS.nx {W w : World} {gx : Nat} {y0 y1 y3 yh : Option Addr} {n0 n1 n3 k d0 d1 d3 d2 : Nat} {us : List Hm} {m : Mon} (h : OwS W w gx y0 y1 y3 yh n0 n1 n3 k d0 d1 d3 d2 us m) : some gx ≠ (Value.slice yh k d2).ownBlock := fun e1 => by
  obtain ⟨_, cs, hr⟩ := own_typ h.has e1.symm
  exact absurd (row_typ hr h.row) (by decide)
theorem OwS.add {W w w6 w7 : World} {gx : Nat} {y0 y1 y3 yh : Option Addr} {n0 n1 n3 k d0 d1 d3 d2 : Nat} {us : List Hm} {m : Mon} (h0 : OwS W w gx y0 y1 y3 yh n0 n1 n3 k d0 d1 d3 d2 us m) (hb : Below w.heap.size w w6) (hg : w6.grownBy w7 (Value.slice yh k d2).ownBlock) {A : Option Addr} {c : Nat} {t : Hm} (ho : w7.ownsRow W.heap.size 54 1 (.slice A (k + 1) c) (k + 1) (Cs encH (us ++ [t]))) (ht : OwnH w6 W.heap.size t) :
    OwS W (w7.setCell ⟨gx, 2, none⟩ (.slice A (k + 1) c)) gx y0 y1 y3 A n0 n1 n3 (k + 1) d0 d1 d3 c (us ++ [t]) ⟨m.sl, m.pin, m.has ++ [t.q], m.bad⟩ := by
  have h := h0.keep hb
  have hr : ∀ g, (Value.slice yh k d2).ownBlock = some g → ∃ cs, RowAt w6 g 54 cs := fun g hg => (own_typ h.has hg).2
  have hrow : RowAt w7 gx 32 #[.slice y0 n0 d0, .slice y1 n1 d1, .slice yh k d2, .slice y3 n3 d3] := (hg.block gx h.row.lt h.nx).trans h.row
  have hres : RowAt w7 (W.heap.size + 1) 32 #[.slice none 0 0, .slice none 0 0, .slice none 0 0, .slice none 0 0] := (hg.block _ h.res.lt (fun e => by obtain ⟨cs, hx⟩ := hr _ e.symm; exact absurd (row_typ hx h.res) (by decide))).trans h.res
  have hgt := h.gt
  refine ⟨hres.setNe (by omega), by have := hrow.set 2 (.slice A (k + 1) c); simpa using this, hgt, own_setT (own_grownT h.sl hg hr (by decide)) hrow (by decide), own_setT (own_grownT h.pin hg hr (by decide)) hrow (by decide), own_setT ho hrow (by decide), fun u hu => ?_, own_setT (own_grownT h.bad hg hr (by decide)) hrow (by decide), h.l0, h.l1, by simp [h.l2], h.l3, ?_, ?_⟩
  · rcases List.mem_append.1 hu with hu | hu
    · exact own_setT (own_grownT (h.rows u hu) hg hr (by decide)) hrow (by decide)
    · rw [List.mem_singleton] at hu
      subst hu
      exact own_setT (own_grownT ht hg hr (by decide)) hrow (by decide)
  · show m.has ++ [t.q] = rowsQ (us ++ [t])
    rw [h.hs]; simp [rowsQ]
  · exact (h.below.trans (gbelow hg (fun g hg => (own_typ h.has hg).1) (Nat.le_refl _) h.below.size)).setCell (p := ⟨gx, 2, none⟩) (by show W.heap.size ≤ gx; omega) _
theorem ows_of {W w : World} {gx : Nat} {y0 y1 y3 : Option Addr} {n0 n1 n3 d0 d1 d3 : Nat} {sl : List Ent} {pin : List Bool} {bad : List Wt} {bx : Array Value} (hb : Below W.heap.size W w) (hres : RowAt w (W.heap.size + 1) 32 #[.slice none 0 0, .slice none 0 0, .slice none 0 0, .slice none 0 0]) (harg : RowAt w W.heap.size 32 bx) (hz : RowAt w gx 32 #[.slice none 0 0, .slice none 0 0, .slice none 0 0, .slice none 0 0]) (hgt : W.heap.size + 1 < gx)
    (h0 : w.ownsRow W.heap.size 47 2 (.slice y0 n0 d0) n0 (Cs encE sl)) (h1 : w.ownsRow W.heap.size 4 1 (.slice y1 n1 d1) n1 (Cs encB pin)) (h3 : w.ownsRow W.heap.size 45 4 (.slice y3 n3 d3) n3 (Cs encX bad)) (l0 : sl.length = n0) (l1 : pin.length = n1) (l3 : bad.length = n3) :
    OwS W ((((w.setCell ⟨gx, 0, none⟩ (.slice y0 n0 d0)).setCell ⟨gx, 1, none⟩ (.slice y1 n1 d1)).setCell ⟨gx, 2, none⟩ (.slice none 0 0)).setCell ⟨gx, 3, none⟩ (.slice y3 n3 d3)) gx y0 y1 y3 none n0 n1 n3 0 d0 d1 d3 0 [] ⟨sl, pin, [], bad⟩ ∧ RowAt ((((w.setCell ⟨gx, 0, none⟩ (.slice y0 n0 d0)).setCell ⟨gx, 1, none⟩ (.slice y1 n1 d1)).setCell ⟨gx, 2, none⟩ (.slice none 0 0)).setCell ⟨gx, 3, none⟩ (.slice y3 n3 d3)) W.heap.size 32 bx := by
  have HL := laidM4_of (n := W.heap.size) (v0 := .slice y0 n0 d0) (v1 := .slice y1 n1 d1) (v2 := .slice none 0 0) (v3 := .slice y3 n3 d3) hz (by omega)
  generalize ((((w.setCell ⟨gx, 0, none⟩ (.slice y0 n0 d0)).setCell ⟨gx, 1, none⟩ (.slice y1 n1 d1)).setCell ⟨gx, 2, none⟩ (.slice none 0 0)).setCell ⟨gx, 3, none⟩ (.slice y3 n3 d3)) = w9 at *
  have ko : ∀ {e : TypeId} {sz n : Nat} {v : Value} {xs : List Value}, w.ownsRow W.heap.size e sz v n xs → e ≠ 32 → w9.ownsRow W.heap.size e sz v n xs := fun ho hne => own_kept ho (fun g hg hl => HL.2.1 g (fun e => by subst e; obtain ⟨_, cs, hr⟩ := own_typ ho hg; exact hne (row_typ hr hz)))
  exact ⟨⟨(HL.2.1 _ (by omega)).trans hres, HL.1, hgt, ko h0 (by decide), ko h1 (by decide), World.ownsRow_nil _ _ _ _, (fun t ht => by cases ht), ko h3 (by decide), l0, l1, rfl, l3, rfl, hb.trans HL.2.2⟩, (HL.2.1 _ (by omega)).trans harg⟩
theorem take_min {α : Type} {xs : List α} {n k m : Nat} (hx : xs.length = n) (hm : min n k = m) : xs.take k = xs.take m := by
  rw [← hm, ← hx, Nat.min_comm]; exact List.take_eq_take_min
set_option maxRecDepth 40000 in
set_option maxHeartbeats 4000000 in
theorem own_any (B : Nat) (a0 a1 a2 a3 : Option Addr) (n0 n1 n2 n3 c0 c1 c2 c3 : Nat) (ts : List Hm) (m : Mon) (W : World) (h : MonX W B a0 a1 a2 a3 n0 n1 n2 n3 ts m) (hB : B ≤ W.heap.size) (hc0 : n0 ≤ c0 ∧ c0 ≤ 9223372036854775807) (hc1 : n1 ≤ c1 ∧ c1 ≤ 9223372036854775807) (hc2 : n2 ≤ c2 ∧ c2 ≤ 9223372036854775807) (hc3 : n3 ≤ c3 ∧ c3 ≤ 9223372036854775807) (hcap : ∀ t ∈ ts, t.q.length ≤ t.c ∧ t.c ≤ 9223372036854775807) :
    Calls Try.prog 21 #[.agg #[.slice a0 n0 c0, .slice a1 n1 c1, .slice a2 n2 c2, .slice a3 n3 c3]] W fun e W' => (∃ v, e = .returned v ∧ MonOut W.heap.size W' v (cutMo m)) ∧ Below W.heap.size W W' := by
  obtain ⟨w1, hw1⟩ : ∃ w1, W.alloc (.cells #[.slice a0 n0 c0, .slice a1 n1 c1, .slice a2 n2 c2, .slice a3 n3 c3] 32) = w1 := ⟨_, rfl⟩
  obtain ⟨w2, hw2⟩ : ∃ w2, w1.alloc (.cells #[.slice none 0 0, .slice none 0 0, .slice none 0 0, .slice none 0 0] 32) = w2 := ⟨_, rfl⟩
  have s1 : w1.heap.size = W.heap.size + 1 := by rw [← hw1]; simp
  have s2 : w2.heap.size = W.heap.size + 1 + 1 := by rw [← hw2]; simp [s1]
  have b1 : Below W.heap.size W w1 := by rw [← hw1]; exact (Below.refl _ _).alloc (Nat.le_refl _) _
  have b2 : Below w1.heap.size w1 w2 := by rw [← hw2]; exact (Below.refl _ _).alloc (Nat.le_refl _) _
  have r1 : RowAt w2 W.heap.size 32 #[.slice a0 n0 c0, .slice a1 n1 c1, .slice a2 n2 c2, .slice a3 n3 c3] := by have h := RowAt.new W 32 #[.slice a0 n0 c0, .slice a1 n1 c1, .slice a2 n2 c2, .slice a3 n3 c3]; rw [hw1] at h; exact h.below b2
  have r2 : RowAt w2 (W.heap.size + 1) 32 #[.slice none 0 0, .slice none 0 0, .slice none 0 0, .slice none 0 0] := by have h := RowAt.new w1 32 #[.slice none 0 0, .slice none 0 0, .slice none 0 0, .slice none 0 0]; rw [hw2, s1] at h; exact h
  have HB := hide (b1.trans (b2.mono b1.size))
  have R1 := hide r1
  have R2 := hide r2
  have S2 := hide s2
  have H := hide h
  have HBB := hide hB
  have HCP := hide hcap
  obtain ⟨m0, hm0⟩ : ∃ m, min n0 130 = m := ⟨_, rfl⟩
  have hmI0 : min (n0 : Int) 130 = (m0 : Int) := by omega
  have hle0 : m0 ≤ n0 := by omega
  have hcap0 : m0 ≤ 130 := by omega
  have hmc0 : (m0 : Int) ≤ (c0 : Int) := by omega
  have hcI0 : (c0 : Int) ≤ 9223372036854775807 := by omega
  have hnI0 : (n0 : Int) ≤ 9223372036854775807 := by omega
  have HM0 := hide hm0
  obtain ⟨m1, hm1⟩ : ∃ m, min n1 9 = m := ⟨_, rfl⟩
  have hmI1 : min (n1 : Int) 9 = (m1 : Int) := by omega
  have hle1 : m1 ≤ n1 := by omega
  have hcap1 : m1 ≤ 9 := by omega
  have hmc1 : (m1 : Int) ≤ (c1 : Int) := by omega
  have hcI1 : (c1 : Int) ≤ 9223372036854775807 := by omega
  have hnI1 : (n1 : Int) ≤ 9223372036854775807 := by omega
  have HM1 := hide hm1
  obtain ⟨m2, hm2⟩ : ∃ m, min n2 9 = m := ⟨_, rfl⟩
  have hmI2 : min (n2 : Int) 9 = (m2 : Int) := by omega
  have hle2 : m2 ≤ n2 := by omega
  have hcap2 : m2 ≤ 9 := by omega
  have hmc2 : (m2 : Int) ≤ (c2 : Int) := by omega
  have hcI2 : (c2 : Int) ≤ 9223372036854775807 := by omega
  have hnI2 : (n2 : Int) ≤ 9223372036854775807 := by omega
  have HM2 := hide hm2
  obtain ⟨m3, hm3⟩ : ∃ m, min n3 18 = m := ⟨_, rfl⟩
  have hmI3 : min (n3 : Int) 18 = (m3 : Int) := by omega
  have hle3 : m3 ≤ n3 := by omega
  have hcap3 : m3 ≤ 18 := by omega
  have hmc3 : (m3 : Int) ≤ (c3 : Int) := by omega
  have hcI3 : (c3 : Int) ≤ 9223372036854775807 := by omega
  have hnI3 : (n3 : Int) ≤ 9223372036854775807 := by omega
  have HM3 := hide hm3
  have HK2 := hide hcap2
  clear b1 b2 r1 r2 s1 s2 h hB hcap hc0 hc1 hc2 hc3 hm0 hm1 hm2 hm3
  subst hw2
  subst hw1
  go_enter Try.func21, Try.ntmps21
  go_upto_region 1 with (fail)
  generalize (W.alloc (.cells #[.slice a0 n0 c0, .slice a1 n1 c1, .slice a2 n2 c2, .slice a3 n3 c3] 32)).alloc (.cells #[.slice none 0 0, .slice none 0 0, .slice none 0 0, .slice none 0 0] 32) = w2 at *
  go_cut [3] from 6 to 34 (fun s3 wx => ∃ gx y0 y1 y3 d0 d1 d3, s3 = .pointer (some ⟨gx, 0, none⟩) ∧ OwS W wx gx y0 y1 y3 none m0 m1 m3 0 d0 d1 d3 0 [] ⟨m.sl.take 130, m.pin.take 9, [], m.bad.take 18⟩ ∧ RowAt wx W.heap.size 32 #[.slice a0 n0 c0, .slice a1 n1 c1, .slice a2 n2 c2, .slice a3 n3 c3])
  case first =>
    have HSF : Hid (∀ wX, Below w2.heap.size w2 wX → wX.cell? ⟨W.heap.size, 0, none⟩ = some (.slice a0 n0 c0) ∧ wX.cell? ⟨W.heap.size, 1, none⟩ = some (.slice a1 n1 c1) ∧ wX.cell? ⟨W.heap.size, 3, none⟩ = some (.slice a3 n3 c3) ∧ W.heap.size < wX.heap.size) := hide (fun wX hx => by
      have hr := R1.out.below hx
      obtain ⟨x0, x1, x2, x3⟩ := row4 hr
      exact ⟨x0, x1, x3, hr.lt⟩)
    have HBc := hide (Below.refl w2.heap.size w2).drew
    have HCS : Hid (∀ wX, Below w2.heap.size w2 wX → Calls Try.prog 46 #[.slice a0 m0 c0] wX fun e W' => ∃ v, e = .returned v ∧ W'.ownsRow wX.heap.size 47 2 v m0 (Cs encE (m.sl.take 130)) ∧ Below wX.heap.size wX W') := hide (fun wX hx => by
      rw [take_min H.out.l0 HM0.out]
      refine CloneS B a0 m0 c0 _ wX ?_ (Nat.le_trans HBB.out (Nat.le_trans HB.out.size hx.size)) (Cs_one_cell encE_one _) (by omega)
      have h := (H.out.sl.below ((HB.out.trans (hx.mono HB.out.size)).mono HBB.out)).take hle0
      rw [← Cs_take encE_len] at h; exact h)
    have HCB : Hid (∀ wX, Below w2.heap.size w2 wX → Calls Try.prog 47 #[.slice a1 m1 c1] wX fun e W' => ∃ v, e = .returned v ∧ W'.ownsRow wX.heap.size 4 1 v m1 (Cs encB (m.pin.take 9)) ∧ Below wX.heap.size wX W') := hide (fun wX hx => by
      rw [take_min H.out.l1 HM1.out]
      refine CloneB B a1 m1 c1 _ wX ?_ (Nat.le_trans HBB.out (Nat.le_trans HB.out.size hx.size)) (Cs_one_cell encB_one _) (by omega)
      have h := (H.out.pin.below ((HB.out.trans (hx.mono HB.out.size)).mono HBB.out)).take hle1
      rw [← Cs_take encB_len] at h; exact h)
    have HCX : Hid (∀ wX, Below w2.heap.size w2 wX → Calls Try.prog 48 #[.slice a3 m3 c3] wX fun e W' => ∃ v, e = .returned v ∧ W'.ownsRow wX.heap.size 45 4 v m3 (Cs encX (m.bad.take 18)) ∧ Below wX.heap.size wX W') := hide (fun wX hx => by
      rw [take_min H.out.l3 HM3.out]
      refine CloneX B a3 m3 c3 _ wX ?_ (Nat.le_trans HBB.out (Nat.le_trans HB.out.size hx.size)) (Cs_one_cell encX_one _) (by omega)
      have h := (H.out.bad.below ((HB.out.trans (hx.mono HB.out.size)).mono HBB.out)).take hle3
      rw [← Cs_take encX_len] at h; exact h)
    refine wp_region_held_drew (S := fun wX => wX.cell? ⟨W.heap.size, 0, none⟩ = some (.slice a0 n0 c0) ∧ wX.cell? ⟨W.heap.size, 1, none⟩ = some (.slice a1 n1 c1) ∧ wX.cell? ⟨W.heap.size, 3, none⟩ = some (.slice a3 n3 c3) ∧ W.heap.size < wX.heap.size) (by kernel_rfl) (HSF.out _ HBc.out) (fun hHeld => ?_)
    have hS0 := HSF.out _ HBc.out
    (refine wpAnyH_take (i := 0) (v := ?_) rfl (by kernel_rfl) (by kernel_rfl) (by kernel_rfl) (fun _ _ _ h => h) (Or.inl ⟨by rfl, ?_⟩) (by assumption) ?_; rotate_left; (focus (intro w hSw; (try dsimp only at hSw); obtain ⟨kf0, kf1, kf2, kf3⟩ := hSw; go_simp; first | done | with_reducible rfl)); (try simp only [Act.put, List.getElem_toArray, List.getElem_cons_succ, List.getElem_cons_zero, List.setIfInBounds_toArray, List.set_cons_zero, List.set_cons_succ]))
    (refine wpAnyH_take (i := 1) (v := ?_) rfl (by kernel_rfl) (by kernel_rfl) (by kernel_rfl) (fun _ _ _ h => h) (Or.inl ⟨by rfl, ?_⟩) (by assumption) ?_; rotate_left; (focus (intro w hSw; (try dsimp only at hSw); obtain ⟨kf0, kf1, kf2, kf3⟩ := hSw; go_simp; first | done | with_reducible rfl)); (try simp only [Act.put, List.getElem_toArray, List.getElem_cons_succ, List.getElem_cons_zero, List.setIfInBounds_toArray, List.set_cons_zero, List.set_cons_succ]))
    (refine wpAnyH_take (i := 2) (v := ?_) rfl (by kernel_rfl) (by kernel_rfl) (by kernel_rfl) (fun _ _ _ h => h) (Or.inl ⟨by rfl, ?_⟩) (by assumption) ?_; rotate_left; (focus (intro w hSw; (try dsimp only at hSw); obtain ⟨kf0, kf1, kf2, kf3⟩ := hSw; go_simp; first | done | with_reducible rfl)); (try simp only [Act.put, List.getElem_toArray, List.getElem_cons_succ, List.getElem_cons_zero, List.setIfInBounds_toArray, List.set_cons_zero, List.set_cons_succ]))
    (refine wpAnyH_take (i := 3) (v := ?_) rfl (by kernel_rfl) (by kernel_rfl) (by kernel_rfl) (fun _ _ _ h => h) (Or.inl ⟨by rfl, ?_⟩) (by assumption) ?_; rotate_left; (focus (intro w hSw; (try dsimp only at hSw); obtain ⟨kf0, kf1, kf2, kf3⟩ := hSw; go_simp; first | done | with_reducible rfl)); (try simp only [Act.put, List.getElem_toArray, List.getElem_cons_succ, List.getElem_cons_zero, List.setIfInBounds_toArray, List.set_cons_zero, List.set_cons_succ]))
    (refine wpAnyH_take (i := 4) (v := ?_) rfl (by kernel_rfl) (by kernel_rfl) (by kernel_rfl) (fun _ _ _ h => h) (Or.inl ⟨by rfl, ?_⟩) (by assumption) ?_; rotate_left; (focus (intro w hSw; (try dsimp only at hSw); obtain ⟨kf0, kf1, kf2, kf3⟩ := hSw; go_simp; first | done | with_reducible rfl)); (try simp only [Act.put, List.getElem_toArray, List.getElem_cons_succ, List.getElem_cons_zero, List.setIfInBounds_toArray, List.set_cons_zero, List.set_cons_succ]))
    (refine wpAnyH_take (i := 5) (v := ?_) rfl (by kernel_rfl) (by kernel_rfl) (by kernel_rfl) (fun _ _ _ h => h) (Or.inl ⟨by rfl, ?_⟩) (by assumption) ?_; rotate_left; (focus (intro w hSw; (try dsimp only at hSw); obtain ⟨kf0, kf1, kf2, kf3⟩ := hSw; go_simp; first | done | with_reducible rfl)); (try simp only [Act.put, List.getElem_toArray, List.getElem_cons_succ, List.getElem_cons_zero, List.setIfInBounds_toArray, List.set_cons_zero, List.set_cons_succ]))
    (refine wpAnyH_take (i := 6) (v := ?_) rfl (by kernel_rfl) (by kernel_rfl) (by kernel_rfl) (fun _ _ _ h => h) (Or.inl ⟨by rfl, ?_⟩) (by assumption) ?_; rotate_left; (focus (intro w hSw; (try dsimp only at hSw); obtain ⟨kf0, kf1, kf2, kf3⟩ := hSw; go_simp; first | done | with_reducible rfl)); (try simp only [Act.put, List.getElem_toArray, List.getElem_cons_succ, List.getElem_cons_zero, List.setIfInBounds_toArray, List.set_cons_zero, List.set_cons_succ]))
    (refine wpAnyH_take (i := 7) (v := ?_) rfl (by kernel_rfl) (by kernel_rfl) (by kernel_rfl) (fun _ _ _ h => h) (Or.inl ⟨by rfl, ?_⟩) (by assumption) ?_; rotate_left; (focus (intro w hSw; (try dsimp only at hSw); obtain ⟨kf0, kf1, kf2, kf3⟩ := hSw; go_simp; first | done | with_reducible rfl)); (try simp only [Act.put, List.getElem_toArray, List.getElem_cons_succ, List.getElem_cons_zero, List.setIfInBounds_toArray, List.set_cons_zero, List.set_cons_succ]))
    (refine wpAnyH_take (i := 8) (v := ?_) rfl (by kernel_rfl) (by kernel_rfl) (by kernel_rfl) (fun _ _ _ h => h) (Or.inl ⟨by rfl, ?_⟩) (by assumption) ?_; rotate_left; (focus (intro w hSw; (try dsimp only at hSw); obtain ⟨kf0, kf1, kf2, kf3⟩ := hSw; go_simp; first | done | with_reducible rfl)); (try simp only [Act.put, List.getElem_toArray, List.getElem_cons_succ, List.getElem_cons_zero, List.setIfInBounds_toArray, List.set_cons_zero, List.set_cons_succ]))
    (refine wpAnyH_take (i := 11) (v := ?_) rfl (by kernel_rfl) (by kernel_rfl) (by kernel_rfl) (fun _ _ _ h => h) (Or.inl ⟨by rfl, ?_⟩) (by assumption) ?_; rotate_left; (focus (intro w hSw; (try dsimp only at hSw); obtain ⟨kf0, kf1, kf2, kf3⟩ := hSw; go_simp; first | done | with_reducible rfl)); (try simp only [Act.put, List.getElem_toArray, List.getElem_cons_succ, List.getElem_cons_zero, List.setIfInBounds_toArray, List.set_cons_zero, List.set_cons_succ]))
    (refine wpAnyH_take (i := 12) (v := ?_) rfl (by kernel_rfl) (by kernel_rfl) (by kernel_rfl) (fun _ _ _ h => h) (Or.inl ⟨by rfl, ?_⟩) (by assumption) ?_; rotate_left; (focus (intro w hSw; (try dsimp only at hSw); obtain ⟨kf0, kf1, kf2, kf3⟩ := hSw; go_simp; first | done | with_reducible rfl)); (try simp only [Act.put, List.getElem_toArray, List.getElem_cons_succ, List.getElem_cons_zero, List.setIfInBounds_toArray, List.set_cons_zero, List.set_cons_succ]))
    (refine wpAnyH_take (i := 13) (v := ?_) rfl (by kernel_rfl) (by kernel_rfl) (by kernel_rfl) (fun _ _ _ h => h) (Or.inl ⟨by rfl, ?_⟩) (by assumption) ?_; rotate_left; (focus (intro w hSw; (try dsimp only at hSw); obtain ⟨kf0, kf1, kf2, kf3⟩ := hSw; go_simp; first | done | with_reducible rfl)); (try simp only [Act.put, List.getElem_toArray, List.getElem_cons_succ, List.getElem_cons_zero, List.setIfInBounds_toArray, List.set_cons_zero, List.set_cons_succ]))
    (refine wpAnyH_take (i := 14) (v := ?_) rfl (by kernel_rfl) (by kernel_rfl) (by kernel_rfl) (fun _ _ _ h => h) (Or.inl ⟨by rfl, ?_⟩) (by assumption) ?_; rotate_left; (focus (intro w hSw; (try dsimp only at hSw); obtain ⟨kf0, kf1, kf2, kf3⟩ := hSw; go_simp; first | done | with_reducible rfl)); (try simp only [Act.put, List.getElem_toArray, List.getElem_cons_succ, List.getElem_cons_zero, List.setIfInBounds_toArray, List.set_cons_zero, List.set_cons_succ]))
    (refine wpAnyH_take (i := 15) (v := ?_) rfl (by kernel_rfl) (by kernel_rfl) (by kernel_rfl) (fun _ _ _ h => h) (Or.inl ⟨by rfl, ?_⟩) (by assumption) ?_; rotate_left; (focus (intro w hSw; (try dsimp only at hSw); obtain ⟨kf0, kf1, kf2, kf3⟩ := hSw; go_simp; first | done | with_reducible rfl)); (try simp only [Act.put, List.getElem_toArray, List.getElem_cons_succ, List.getElem_cons_zero, List.setIfInBounds_toArray, List.set_cons_zero, List.set_cons_succ]))
    (refine wpAnyH_take (i := 16) (v := ?_) rfl (by kernel_rfl) (by kernel_rfl) (by kernel_rfl) (fun _ _ _ h => h) (Or.inl ⟨by rfl, ?_⟩) (by assumption) ?_; rotate_left; (focus (intro w hSw; (try dsimp only at hSw); obtain ⟨kf0, kf1, kf2, kf3⟩ := hSw; go_simp; first | done | with_reducible rfl)); (try simp only [Act.put, List.getElem_toArray, List.getElem_cons_succ, List.getElem_cons_zero, List.setIfInBounds_toArray, List.set_cons_zero, List.set_cons_succ]))
    (refine wpAnyH_take (i := 17) (v := ?_) rfl (by kernel_rfl) (by kernel_rfl) (by kernel_rfl) (fun _ _ _ h => h) (Or.inl ⟨by rfl, ?_⟩) (by assumption) ?_; rotate_left; (focus (intro w hSw; (try dsimp only at hSw); obtain ⟨kf0, kf1, kf2, kf3⟩ := hSw; go_simp; first | done | with_reducible rfl)); (try simp only [Act.put, List.getElem_toArray, List.getElem_cons_succ, List.getElem_cons_zero, List.setIfInBounds_toArray, List.set_cons_zero, List.set_cons_succ]))
    (refine wpAnyH_take (i := 19) (v := ?_) rfl (by kernel_rfl) (by kernel_rfl) (by kernel_rfl) (fun _ _ _ h => h) (Or.inl ⟨by rfl, ?_⟩) (by assumption) ?_; rotate_left; (focus (intro w hSw; (try dsimp only at hSw); obtain ⟨kf0, kf1, kf2, kf3⟩ := hSw; go_simp; first | done | with_reducible rfl)); (try simp only [Act.put, List.getElem_toArray, List.getElem_cons_succ, List.getElem_cons_zero, List.setIfInBounds_toArray, List.set_cons_zero, List.set_cons_succ]))
    (refine wpAnyH_take (i := 20) (v := ?_) rfl (by kernel_rfl) (by kernel_rfl) (by kernel_rfl) (fun _ _ _ h => h) (Or.inl ⟨by rfl, ?_⟩) (by assumption) ?_; rotate_left; (focus (intro w hSw; (try dsimp only at hSw); obtain ⟨kf0, kf1, kf2, kf3⟩ := hSw; go_simp; first | done | with_reducible rfl)); (try simp only [Act.put, List.getElem_toArray, List.getElem_cons_succ, List.getElem_cons_zero, List.setIfInBounds_toArray, List.set_cons_zero, List.set_cons_succ]))
    (refine wpAnyH_take (i := 21) (v := ?_) rfl (by kernel_rfl) (by kernel_rfl) (by kernel_rfl) (fun _ _ _ h => h) (Or.inl ⟨by rfl, ?_⟩) (by assumption) ?_; rotate_left; (focus (intro w hSw; (try dsimp only at hSw); obtain ⟨kf0, kf1, kf2, kf3⟩ := hSw; go_simp; first | done | with_reducible rfl)); (try simp only [Act.put, List.getElem_toArray, List.getElem_cons_succ, List.getElem_cons_zero, List.setIfInBounds_toArray, List.set_cons_zero, List.set_cons_succ]))
    (refine wpAnyH_take (i := 22) (v := ?_) rfl (by kernel_rfl) (by kernel_rfl) (by kernel_rfl) (fun _ _ _ h => h) (Or.inl ⟨by rfl, ?_⟩) (by assumption) ?_; rotate_left; (focus (intro w hSw; (try dsimp only at hSw); obtain ⟨kf0, kf1, kf2, kf3⟩ := hSw; go_simp; first | done | with_reducible rfl)); (try simp only [Act.put, List.getElem_toArray, List.getElem_cons_succ, List.getElem_cons_zero, List.setIfInBounds_toArray, List.set_cons_zero, List.set_cons_succ]))
    (refine wpAnyH_take (i := 23) (v := ?_) rfl (by kernel_rfl) (by kernel_rfl) (by kernel_rfl) (fun _ _ _ h => h) (Or.inl ⟨by rfl, ?_⟩) (by assumption) ?_; rotate_left; (focus (intro w hSw; (try dsimp only at hSw); obtain ⟨kf0, kf1, kf2, kf3⟩ := hSw; go_simp; first | done | with_reducible rfl)); (try simp only [Act.put, List.getElem_toArray, List.getElem_cons_succ, List.getElem_cons_zero, List.setIfInBounds_toArray, List.set_cons_zero, List.set_cons_succ]))
    (refine wpAnyH_take (i := 24) (v := ?_) rfl (by kernel_rfl) (by kernel_rfl) (by kernel_rfl) (fun _ _ _ h => h) (Or.inl ⟨by rfl, ?_⟩) (by assumption) ?_; rotate_left; (focus (intro w hSw; (try dsimp only at hSw); obtain ⟨kf0, kf1, kf2, kf3⟩ := hSw; go_simp; first | done | with_reducible rfl)); (try simp only [Act.put, List.getElem_toArray, List.getElem_cons_succ, List.getElem_cons_zero, List.setIfInBounds_toArray, List.set_cons_zero, List.set_cons_succ]))
    (refine wpAnyH_take (i := 25) (v := ?_) rfl (by kernel_rfl) (by kernel_rfl) (by kernel_rfl) (fun _ _ _ h => h) (Or.inl ⟨by rfl, ?_⟩) (by assumption) ?_; rotate_left; (focus (intro w hSw; (try dsimp only at hSw); obtain ⟨kf0, kf1, kf2, kf3⟩ := hSw; go_simp; first | done | with_reducible rfl)); (try simp only [Act.put, List.getElem_toArray, List.getElem_cons_succ, List.getElem_cons_zero, List.setIfInBounds_toArray, List.set_cons_zero, List.set_cons_succ]))
    refine wpAnyH_ready (rs := [9, 28]) (by kernel_rfl) (by simp) ?_
    refine (AllReadyH.cons rfl (fun K0 hK0 => ?_) (AllReadyH.cons rfl (fun K1 hK1 => ?_) AllReadyH.nil))
    · skip
      go_simp
      with_reducible refine (HCS.out _ HBc.out).mono ?_
      rintro e v1 ⟨vv, rfl, ho, hb⟩
      obtain ⟨Y0, D0, rfl, _⟩ := own_form ho
      have HOS := hide (own_moreB ho (show W.heap.size ≤ _ from Nat.le_trans HB.out.size HBc.out.size))
      have HBc := hide (HBc.out.trans (hb.mono HBc.out.size))
      clear ho hb hS0
      have hS0 := HSF.out _ HBc.out
      refine hK0.out _ _ (hS0) (fun _ => ?_)
      clear hK0 K0
      (try simp only [Act.put, List.getElem_toArray, List.getElem_cons_succ, List.getElem_cons_zero, List.setIfInBounds_toArray, List.set_cons_zero, List.set_cons_succ])
      (refine wpAnyH_take (i := 10) (v := ?_) rfl (by kernel_rfl) (by kernel_rfl) (by kernel_rfl) (fun _ _ _ h => h) (Or.inl ⟨by rfl, ?_⟩) (by assumption) ?_; rotate_left; (focus (intro w hSw; (try dsimp only at hSw); obtain ⟨kf0, kf1, kf2, kf3⟩ := hSw; go_simp; first | done | with_reducible rfl)); (try simp only [Act.put, List.getElem_toArray, List.getElem_cons_succ, List.getElem_cons_zero, List.setIfInBounds_toArray, List.set_cons_zero, List.set_cons_succ]))
      refine wpAnyH_ready (rs := [18, 28]) (by kernel_rfl) (by simp) ?_
      refine (AllReadyH.cons rfl (fun K2 hK2 => ?_) (AllReadyH.cons rfl (fun K3 hK3 => ?_) AllReadyH.nil))
      · skip
        go_simp
        with_reducible refine (HCB.out _ HBc.out).mono ?_
        rintro e v2 ⟨vv, rfl, ho, hb⟩
        obtain ⟨Y1, D1, rfl, _⟩ := own_form ho
        have HOS := hide (own_keepB HOS.out hb)
        have HOB := hide (own_moreB ho (show W.heap.size ≤ _ from Nat.le_trans HB.out.size HBc.out.size))
        have HBc := hide (HBc.out.trans (hb.mono HBc.out.size))
        clear ho hb hS0
        have hS0 := HSF.out _ HBc.out
        refine hK2.out _ _ (hS0) (fun _ => ?_)
        clear hK2 K2
        (try simp only [Act.put, List.getElem_toArray, List.getElem_cons_succ, List.getElem_cons_zero, List.setIfInBounds_toArray, List.set_cons_zero, List.set_cons_succ])
        refine wpAnyH_ready (rs := [26, 28]) (by kernel_rfl) (by simp) ?_
        refine (AllReadyH.cons rfl (fun K4 hK4 => ?_) (AllReadyH.cons rfl (fun K5 hK5 => ?_) AllReadyH.nil))
        · skip
          go_simp
          with_reducible refine (HCX.out _ HBc.out).mono ?_
          rintro e v3 ⟨vv, rfl, ho, hb⟩
          obtain ⟨Y2, D2, rfl, _⟩ := own_form ho
          have HOS := hide (own_keepB HOS.out hb)
          have HOB := hide (own_keepB HOB.out hb)
          have HOX := hide (own_moreB ho (show W.heap.size ≤ _ from Nat.le_trans HB.out.size HBc.out.size))
          have HBc := hide (HBc.out.trans (hb.mono HBc.out.size))
          clear ho hb hS0
          have hS0 := HSF.out _ HBc.out
          refine hK4.out _ _ (hS0) (fun _ => ?_)
          clear hK4 K4
          (try simp only [Act.put, List.getElem_toArray, List.getElem_cons_succ, List.getElem_cons_zero, List.setIfInBounds_toArray, List.set_cons_zero, List.set_cons_succ])
          (refine wpAnyH_take (i := 27) (v := ?_) rfl (by kernel_rfl) (by kernel_rfl) (by kernel_rfl) (fun _ _ _ h => h) (Or.inl ⟨by rfl, ?_⟩) (by assumption) ?_; rotate_left; (focus (intro w hSw; (try dsimp only at hSw); obtain ⟨kf0, kf1, kf2, kf3⟩ := hSw; go_simp; first | done | with_reducible rfl)); (try simp only [Act.put, List.getElem_toArray, List.getElem_cons_succ, List.getElem_cons_zero, List.setIfInBounds_toArray, List.set_cons_zero, List.set_cons_succ]))
          refine wpAnyH_ready (rs := [28]) (by kernel_rfl) (by simp) ?_
          refine (AllReadyH.cons rfl (fun K6 hK6 => ?_) AllReadyH.nil)
          have HAv4 := hide (RowAt.new v3 32 #[.slice none 0 0, .slice none 0 0, .slice none 0 0, .slice none 0 0])
          have HDv4 := hide (show W.heap.size + 1 < v3.heap.size from by have := S2.out; have := HBc.out.size; omega)
          have hbx : Below v3.heap.size v3 (v3.alloc (.cells #[.slice none 0 0, .slice none 0 0, .slice none 0 0, .slice none 0 0] 32)) := (Below.refl _ _).alloc (Nat.le_refl _) _
          have HOS := hide (own_keepB HOS.out hbx)
          have HOB := hide (own_keepB HOB.out hbx)
          have HOX := hide (own_keepB HOX.out hbx)
          have HBc := hide (HBc.out.trans (hbx.mono HBc.out.size))
          go_simp
          clear hS0 hbx
          have hS0 := HSF.out _ HBc.out
          refine hK6.out _ _ (hS0) (fun _ => ?_)
          clear hK6 K6
          (try simp only [Act.put, List.getElem_toArray, List.getElem_cons_succ, List.getElem_cons_zero, List.setIfInBounds_toArray, List.set_cons_zero, List.set_cons_succ])
          generalize v3.alloc (.cells #[.slice none 0 0, .slice none 0 0, .slice none 0 0, .slice none 0 0] 32) = v4 at *
          generalize v3.heap.size = gv4 at *
          clear hS0
          refine wpAnyH_ready (rs := [29]) (by kernel_rfl) (by simp) ?_
          refine (AllReadyH.cons rfl (fun K7 hK7 => ?_) AllReadyH.nil)
          have zf0 := HAv4.out.frozen 0
          have zf1 := HAv4.out.frozen 1
          have zf2 := HAv4.out.frozen 2
          have zf3 := HAv4.out.frozen 3
          obtain ⟨z0, z1, z2, z3⟩ := row4 HAv4.out
          have zl := HAv4.out.lt
          have HFN := hide (ows_of (W := W) (HB.out.trans (HBc.out.mono HB.out.size)) (R2.out.below HBc.out) (R1.out.below HBc.out) HAv4.out HDv4.out HOS.out HOB.out HOX.out (by rw [take_min H.out.l0 HM0.out, List.length_take, H.out.l0]; omega) (by rw [take_min H.out.l1 HM1.out, List.length_take, H.out.l1]; omega) (by rw [take_min H.out.l3 HM3.out, List.length_take, H.out.l3]; omega))
          go_simp
          refine hK7.out _ _ ⟨(row4 HFN.out.2).1, (row4 HFN.out.2).2.1, (row4 HFN.out.2).2.2.2, HFN.out.2.lt⟩ (fun _ => ?_)
          clear hK7 K7 zf0 zf1 zf2 zf3 z0 z1 z2 z3 zl
          (try simp only [Act.put, List.getElem_toArray, List.getElem_cons_succ, List.getElem_cons_zero, List.setIfInBounds_toArray, List.set_cons_zero, List.set_cons_succ])
          refine wpAnyH_done (by kernel_rfl) ?_ _
          go_wp2_with fail
          go_meet
          case rel => exact ⟨_, _, _, _, _, _, _, rfl, HFN.out.1, HFN.out.2⟩
        · skip
          have HAv5 := hide (RowAt.new v2 32 #[.slice none 0 0, .slice none 0 0, .slice none 0 0, .slice none 0 0])
          have HDv5 := hide (show W.heap.size + 1 < v2.heap.size from by have := S2.out; have := HBc.out.size; omega)
          have hbx : Below v2.heap.size v2 (v2.alloc (.cells #[.slice none 0 0, .slice none 0 0, .slice none 0 0, .slice none 0 0] 32)) := (Below.refl _ _).alloc (Nat.le_refl _) _
          have HOS := hide (own_keepB HOS.out hbx)
          have HOB := hide (own_keepB HOB.out hbx)
          have HBc := hide (HBc.out.trans (hbx.mono HBc.out.size))
          go_simp
          clear hS0 hbx
          have hS0 := HSF.out _ HBc.out
          refine hK5.out _ _ (hS0) (fun _ => ?_)
          clear hK5 K5
          (try simp only [Act.put, List.getElem_toArray, List.getElem_cons_succ, List.getElem_cons_zero, List.setIfInBounds_toArray, List.set_cons_zero, List.set_cons_succ])
          generalize v2.alloc (.cells #[.slice none 0 0, .slice none 0 0, .slice none 0 0, .slice none 0 0] 32) = v5 at *
          generalize v2.heap.size = gv5 at *
          refine wpAnyH_ready (rs := [26]) (by kernel_rfl) (by simp) ?_
          refine (AllReadyH.cons rfl (fun K8 hK8 => ?_) AllReadyH.nil)
          go_simp
          with_reducible refine (HCX.out _ HBc.out).mono ?_
          rintro e v6 ⟨vv, rfl, ho, hb⟩
          obtain ⟨Y2, D2, rfl, _⟩ := own_form ho
          have HOS := hide (own_keepB HOS.out hb)
          have HOB := hide (own_keepB HOB.out hb)
          have HOX := hide (own_moreB ho (show W.heap.size ≤ _ from Nat.le_trans HB.out.size HBc.out.size))
          have HAv5 := hide (HAv5.out.below hb)
          have HBc := hide (HBc.out.trans (hb.mono HBc.out.size))
          clear ho hb hS0
          have hS0 := HSF.out _ HBc.out
          refine hK8.out _ _ (hS0) (fun _ => ?_)
          clear hK8 K8
          (try simp only [Act.put, List.getElem_toArray, List.getElem_cons_succ, List.getElem_cons_zero, List.setIfInBounds_toArray, List.set_cons_zero, List.set_cons_succ])
          (refine wpAnyH_take (i := 27) (v := ?_) rfl (by kernel_rfl) (by kernel_rfl) (by kernel_rfl) (fun _ _ _ h => h) (Or.inl ⟨by rfl, ?_⟩) (by assumption) ?_; rotate_left; (focus (intro w hSw; (try dsimp only at hSw); obtain ⟨kf0, kf1, kf2, kf3⟩ := hSw; go_simp; first | done | with_reducible rfl)); (try simp only [Act.put, List.getElem_toArray, List.getElem_cons_succ, List.getElem_cons_zero, List.setIfInBounds_toArray, List.set_cons_zero, List.set_cons_succ]))
          clear hS0
          refine wpAnyH_ready (rs := [29]) (by kernel_rfl) (by simp) ?_
          refine (AllReadyH.cons rfl (fun K9 hK9 => ?_) AllReadyH.nil)
          have zf0 := HAv5.out.frozen 0
          have zf1 := HAv5.out.frozen 1
          have zf2 := HAv5.out.frozen 2
          have zf3 := HAv5.out.frozen 3
          obtain ⟨z0, z1, z2, z3⟩ := row4 HAv5.out
          have zl := HAv5.out.lt
          have HFN := hide (ows_of (W := W) (HB.out.trans (HBc.out.mono HB.out.size)) (R2.out.below HBc.out) (R1.out.below HBc.out) HAv5.out HDv5.out HOS.out HOB.out HOX.out (by rw [take_min H.out.l0 HM0.out, List.length_take, H.out.l0]; omega) (by rw [take_min H.out.l1 HM1.out, List.length_take, H.out.l1]; omega) (by rw [take_min H.out.l3 HM3.out, List.length_take, H.out.l3]; omega))
          go_simp
          refine hK9.out _ _ ⟨(row4 HFN.out.2).1, (row4 HFN.out.2).2.1, (row4 HFN.out.2).2.2.2, HFN.out.2.lt⟩ (fun _ => ?_)
          clear hK9 K9 zf0 zf1 zf2 zf3 z0 z1 z2 z3 zl
          (try simp only [Act.put, List.getElem_toArray, List.getElem_cons_succ, List.getElem_cons_zero, List.setIfInBounds_toArray, List.set_cons_zero, List.set_cons_succ])
          refine wpAnyH_done (by kernel_rfl) ?_ _
          go_wp2_with fail
          go_meet
          case rel => exact ⟨_, _, _, _, _, _, _, rfl, HFN.out.1, HFN.out.2⟩
      · skip
        have HAv7 := hide (RowAt.new v1 32 #[.slice none 0 0, .slice none 0 0, .slice none 0 0, .slice none 0 0])
        have HDv7 := hide (show W.heap.size + 1 < v1.heap.size from by have := S2.out; have := HBc.out.size; omega)
        have hbx : Below v1.heap.size v1 (v1.alloc (.cells #[.slice none 0 0, .slice none 0 0, .slice none 0 0, .slice none 0 0] 32)) := (Below.refl _ _).alloc (Nat.le_refl _) _
        have HOS := hide (own_keepB HOS.out hbx)
        have HBc := hide (HBc.out.trans (hbx.mono HBc.out.size))
        go_simp
        clear hS0 hbx
        have hS0 := HSF.out _ HBc.out
        refine hK3.out _ _ (hS0) (fun _ => ?_)
        clear hK3 K3
        (try simp only [Act.put, List.getElem_toArray, List.getElem_cons_succ, List.getElem_cons_zero, List.setIfInBounds_toArray, List.set_cons_zero, List.set_cons_succ])
        generalize v1.alloc (.cells #[.slice none 0 0, .slice none 0 0, .slice none 0 0, .slice none 0 0] 32) = v7 at *
        generalize v1.heap.size = gv7 at *
        refine wpAnyH_ready (rs := [18]) (by kernel_rfl) (by simp) ?_
        refine (AllReadyH.cons rfl (fun K10 hK10 => ?_) AllReadyH.nil)
        go_simp
        with_reducible refine (HCB.out _ HBc.out).mono ?_
        rintro e v8 ⟨vv, rfl, ho, hb⟩
        obtain ⟨Y1, D1, rfl, _⟩ := own_form ho
        have HOS := hide (own_keepB HOS.out hb)
        have HOB := hide (own_moreB ho (show W.heap.size ≤ _ from Nat.le_trans HB.out.size HBc.out.size))
        have HAv7 := hide (HAv7.out.below hb)
        have HBc := hide (HBc.out.trans (hb.mono HBc.out.size))
        clear ho hb hS0
        have hS0 := HSF.out _ HBc.out
        refine hK10.out _ _ (hS0) (fun _ => ?_)
        clear hK10 K10
        (try simp only [Act.put, List.getElem_toArray, List.getElem_cons_succ, List.getElem_cons_zero, List.setIfInBounds_toArray, List.set_cons_zero, List.set_cons_succ])
        refine wpAnyH_ready (rs := [26]) (by kernel_rfl) (by simp) ?_
        refine (AllReadyH.cons rfl (fun K11 hK11 => ?_) AllReadyH.nil)
        go_simp
        with_reducible refine (HCX.out _ HBc.out).mono ?_
        rintro e v9 ⟨vv, rfl, ho, hb⟩
        obtain ⟨Y2, D2, rfl, _⟩ := own_form ho
        have HOS := hide (own_keepB HOS.out hb)
        have HOB := hide (own_keepB HOB.out hb)
        have HOX := hide (own_moreB ho (show W.heap.size ≤ _ from Nat.le_trans HB.out.size HBc.out.size))
        have HAv7 := hide (HAv7.out.below hb)
        have HBc := hide (HBc.out.trans (hb.mono HBc.out.size))
        clear ho hb hS0
        have hS0 := HSF.out _ HBc.out
        refine hK11.out _ _ (hS0) (fun _ => ?_)
        clear hK11 K11
        (try simp only [Act.put, List.getElem_toArray, List.getElem_cons_succ, List.getElem_cons_zero, List.setIfInBounds_toArray, List.set_cons_zero, List.set_cons_succ])
        (refine wpAnyH_take (i := 27) (v := ?_) rfl (by kernel_rfl) (by kernel_rfl) (by kernel_rfl) (fun _ _ _ h => h) (Or.inl ⟨by rfl, ?_⟩) (by assumption) ?_; rotate_left; (focus (intro w hSw; (try dsimp only at hSw); obtain ⟨kf0, kf1, kf2, kf3⟩ := hSw; go_simp; first | done | with_reducible rfl)); (try simp only [Act.put, List.getElem_toArray, List.getElem_cons_succ, List.getElem_cons_zero, List.setIfInBounds_toArray, List.set_cons_zero, List.set_cons_succ]))
        clear hS0
        refine wpAnyH_ready (rs := [29]) (by kernel_rfl) (by simp) ?_
        refine (AllReadyH.cons rfl (fun K12 hK12 => ?_) AllReadyH.nil)
        have zf0 := HAv7.out.frozen 0
        have zf1 := HAv7.out.frozen 1
        have zf2 := HAv7.out.frozen 2
        have zf3 := HAv7.out.frozen 3
        obtain ⟨z0, z1, z2, z3⟩ := row4 HAv7.out
        have zl := HAv7.out.lt
        have HFN := hide (ows_of (W := W) (HB.out.trans (HBc.out.mono HB.out.size)) (R2.out.below HBc.out) (R1.out.below HBc.out) HAv7.out HDv7.out HOS.out HOB.out HOX.out (by rw [take_min H.out.l0 HM0.out, List.length_take, H.out.l0]; omega) (by rw [take_min H.out.l1 HM1.out, List.length_take, H.out.l1]; omega) (by rw [take_min H.out.l3 HM3.out, List.length_take, H.out.l3]; omega))
        go_simp
        refine hK12.out _ _ ⟨(row4 HFN.out.2).1, (row4 HFN.out.2).2.1, (row4 HFN.out.2).2.2.2, HFN.out.2.lt⟩ (fun _ => ?_)
        clear hK12 K12 zf0 zf1 zf2 zf3 z0 z1 z2 z3 zl
        (try simp only [Act.put, List.getElem_toArray, List.getElem_cons_succ, List.getElem_cons_zero, List.setIfInBounds_toArray, List.set_cons_zero, List.set_cons_succ])
        refine wpAnyH_done (by kernel_rfl) ?_ _
        go_wp2_with fail
        go_meet
        case rel => exact ⟨_, _, _, _, _, _, _, rfl, HFN.out.1, HFN.out.2⟩
    · skip
      have HAv10 := hide (RowAt.new w2 32 #[.slice none 0 0, .slice none 0 0, .slice none 0 0, .slice none 0 0]).drew
      have HDv10 := hide (show W.heap.size + 1 < w2.heap.size from by have := S2.out; omega)
      have hbx : Below w2.heap.size w2 (w2.alloc (.cells #[.slice none 0 0, .slice none 0 0, .slice none 0 0, .slice none 0 0] 32)).drew := ((Below.refl _ _).alloc (Nat.le_refl _) _).drew
      have HBc := hide hbx
      go_simp
      clear hS0 hbx
      have hS0 := HSF.out _ HBc.out
      refine hK1.out _ _ (hS0) (fun _ => ?_)
      clear hK1 K1
      (try simp only [Act.put, List.getElem_toArray, List.getElem_cons_succ, List.getElem_cons_zero, List.setIfInBounds_toArray, List.set_cons_zero, List.set_cons_succ])
      generalize (w2.alloc (.cells #[.slice none 0 0, .slice none 0 0, .slice none 0 0, .slice none 0 0] 32)).drew = v10 at *
      refine wpAnyH_ready (rs := [9]) (by kernel_rfl) (by simp) ?_
      refine (AllReadyH.cons rfl (fun K13 hK13 => ?_) AllReadyH.nil)
      go_simp
      with_reducible refine (HCS.out _ HBc.out).mono ?_
      rintro e v11 ⟨vv, rfl, ho, hb⟩
      obtain ⟨Y0, D0, rfl, _⟩ := own_form ho
      have HOS := hide (own_moreB ho (show W.heap.size ≤ _ from Nat.le_trans HB.out.size HBc.out.size))
      have HAv10 := hide (HAv10.out.below hb)
      have HBc := hide (HBc.out.trans (hb.mono HBc.out.size))
      clear ho hb hS0
      have hS0 := HSF.out _ HBc.out
      refine hK13.out _ _ (hS0) (fun _ => ?_)
      clear hK13 K13
      (try simp only [Act.put, List.getElem_toArray, List.getElem_cons_succ, List.getElem_cons_zero, List.setIfInBounds_toArray, List.set_cons_zero, List.set_cons_succ])
      (refine wpAnyH_take (i := 10) (v := ?_) rfl (by kernel_rfl) (by kernel_rfl) (by kernel_rfl) (fun _ _ _ h => h) (Or.inl ⟨by rfl, ?_⟩) (by assumption) ?_; rotate_left; (focus (intro w hSw; (try dsimp only at hSw); obtain ⟨kf0, kf1, kf2, kf3⟩ := hSw; go_simp; first | done | with_reducible rfl)); (try simp only [Act.put, List.getElem_toArray, List.getElem_cons_succ, List.getElem_cons_zero, List.setIfInBounds_toArray, List.set_cons_zero, List.set_cons_succ]))
      refine wpAnyH_ready (rs := [18]) (by kernel_rfl) (by simp) ?_
      refine (AllReadyH.cons rfl (fun K14 hK14 => ?_) AllReadyH.nil)
      go_simp
      with_reducible refine (HCB.out _ HBc.out).mono ?_
      rintro e v12 ⟨vv, rfl, ho, hb⟩
      obtain ⟨Y1, D1, rfl, _⟩ := own_form ho
      have HOS := hide (own_keepB HOS.out hb)
      have HOB := hide (own_moreB ho (show W.heap.size ≤ _ from Nat.le_trans HB.out.size HBc.out.size))
      have HAv10 := hide (HAv10.out.below hb)
      have HBc := hide (HBc.out.trans (hb.mono HBc.out.size))
      clear ho hb hS0
      have hS0 := HSF.out _ HBc.out
      refine hK14.out _ _ (hS0) (fun _ => ?_)
      clear hK14 K14
      (try simp only [Act.put, List.getElem_toArray, List.getElem_cons_succ, List.getElem_cons_zero, List.setIfInBounds_toArray, List.set_cons_zero, List.set_cons_succ])
      refine wpAnyH_ready (rs := [26]) (by kernel_rfl) (by simp) ?_
      refine (AllReadyH.cons rfl (fun K15 hK15 => ?_) AllReadyH.nil)
      go_simp
      with_reducible refine (HCX.out _ HBc.out).mono ?_
      rintro e v13 ⟨vv, rfl, ho, hb⟩
      obtain ⟨Y2, D2, rfl, _⟩ := own_form ho
      have HOS := hide (own_keepB HOS.out hb)
      have HOB := hide (own_keepB HOB.out hb)
      have HOX := hide (own_moreB ho (show W.heap.size ≤ _ from Nat.le_trans HB.out.size HBc.out.size))
      have HAv10 := hide (HAv10.out.below hb)
      have HBc := hide (HBc.out.trans (hb.mono HBc.out.size))
      clear ho hb hS0
      have hS0 := HSF.out _ HBc.out
      refine hK15.out _ _ (hS0) (fun _ => ?_)
      clear hK15 K15
      (try simp only [Act.put, List.getElem_toArray, List.getElem_cons_succ, List.getElem_cons_zero, List.setIfInBounds_toArray, List.set_cons_zero, List.set_cons_succ])
      (refine wpAnyH_take (i := 27) (v := ?_) rfl (by kernel_rfl) (by kernel_rfl) (by kernel_rfl) (fun _ _ _ h => h) (Or.inl ⟨by rfl, ?_⟩) (by assumption) ?_; rotate_left; (focus (intro w hSw; (try dsimp only at hSw); obtain ⟨kf0, kf1, kf2, kf3⟩ := hSw; go_simp; first | done | with_reducible rfl)); (try simp only [Act.put, List.getElem_toArray, List.getElem_cons_succ, List.getElem_cons_zero, List.setIfInBounds_toArray, List.set_cons_zero, List.set_cons_succ]))
      clear hS0
      refine wpAnyH_ready (rs := [29]) (by kernel_rfl) (by simp) ?_
      refine (AllReadyH.cons rfl (fun K16 hK16 => ?_) AllReadyH.nil)
      have zf0 := HAv10.out.frozen 0
      have zf1 := HAv10.out.frozen 1
      have zf2 := HAv10.out.frozen 2
      have zf3 := HAv10.out.frozen 3
      obtain ⟨z0, z1, z2, z3⟩ := row4 HAv10.out
      have zl := HAv10.out.lt
      have HFN := hide (ows_of (W := W) (HB.out.trans (HBc.out.mono HB.out.size)) (R2.out.below HBc.out) (R1.out.below HBc.out) HAv10.out HDv10.out HOS.out HOB.out HOX.out (by rw [take_min H.out.l0 HM0.out, List.length_take, H.out.l0]; omega) (by rw [take_min H.out.l1 HM1.out, List.length_take, H.out.l1]; omega) (by rw [take_min H.out.l3 HM3.out, List.length_take, H.out.l3]; omega))
      go_simp
      refine hK16.out _ _ ⟨(row4 HFN.out.2).1, (row4 HFN.out.2).2.1, (row4 HFN.out.2).2.2.2, HFN.out.2.lt⟩ (fun _ => ?_)
      clear hK16 K16 zf0 zf1 zf2 zf3 z0 z1 z2 z3 zl
      (try simp only [Act.put, List.getElem_toArray, List.getElem_cons_succ, List.getElem_cons_zero, List.setIfInBounds_toArray, List.set_cons_zero, List.set_cons_succ])
      refine wpAnyH_done (by kernel_rfl) ?_ _
      go_wp2_with fail
      go_meet
      case rel => exact ⟨_, _, _, _, _, _, _, rfl, HFN.out.1, HFN.out.2⟩
  case rest =>
    rename_i K hK
    refine hK _ _ ?_
    clear hK K
    obtain ⟨gx, y0, y1, y3, d0, d1, d3, rfl, how, harg⟩ := hcut
    have HOW := hide how
    obtain ⟨x0, x1, x2, x3⟩ := row4 harg
    have xl := harg.lt
    clear how harg R1 R2
    go_wp2_with fail
    clear x0 x1 x2 x3 xl
    go_loopw [42] (fun i wr => ∃ (k : Nat) (yh : Option Addr) (d2 : Nat) (us : List Hm), k ≤ m2 ∧ i = .int .i64 k ∧ rowsQ us = ((rowsQ ts).take k).map (List.take 20) ∧ (∀ t ∈ us, t.q.length ≤ t.c ∧ t.c ≤ 9223372036854775807) ∧ OwS W wr gx y0 y1 y3 yh m0 m1 m3 k d0 d1 d3 d2 us ⟨m.sl.take 130, m.pin.take 9, rowsQ us, m.bad.take 18⟩) (fun i _ => m2 - (intOf i).toNat)
    case atStart => exact ⟨0, none, 0, [], Nat.zero_le _, rfl, rfl, (fun t ht => by cases ht), HOW.out⟩
    case round =>
      obtain ⟨k, yh, d2, us, hk, rfl, hrq, hcps, hcp⟩ := hrel
      have HRQ := hide hrq
      have HCK := hide hcp
      have HCPS := hide hcps
      clear hrq hcp hcps
      by_cases hlt : k < m2
      · have HLT := hide hlt
        have hlx : k < ts.length := by rw [H.out.has.len]; omega
        have hk2 : k < n2 := by omega
        obtain ⟨b, o, rfl, hb, d0x, hq⟩ := (H.out.has.below (HCK.out.below.mono HBB.out)).at_ hk2
        have hbl : b < wr.heap.size := Nat.lt_of_lt_of_le hb (Nat.le_trans HBB.out HCK.out.below.size)
        have hkm : (k : Int) < (m2 : Int) := by omega
        have hcq := HCP.out _ (getH_mem hlx)
        have HTK := hide (show ((rowsQ ts).take (k + 1)).map (List.take 20) = ((rowsQ ts).take k).map (List.take 20) ++ [(ts.getD k hmZ).q.take 20] from by unfold rowsQ; rw [← List.map_take, takeH_succ hlx, ← List.map_take]; simp)
        generalize ts.getD k hmZ = t at *
        obtain ⟨tA, tc, tq⟩ := t
        dsimp only at *
        obtain ⟨tn, htn⟩ : ∃ n, tq.length = n := ⟨_, rfl⟩
        rw [htn] at d0x hq hcq
        have HN := hide htn
        have HQ := hide hq
        obtain ⟨j, hj⟩ : ∃ j, min tn 20 = j := ⟨_, rfl⟩
        have hjI : min (tn : Int) 20 = (j : Int) := by omega
        have hj1 : j ≤ tn := by omega
        have hj2 : j ≤ 20 := by omega
        have hjc : (j : Int) ≤ (tc : Int) := by omega
        have htI : (tc : Int) ≤ 9223372036854775807 := by omega
        have hlenI : (tn : Int) ≤ 9223372036854775807 := by omega
        have HJT := hide (take_min htn hj)
        have HJL := hide (show (tq.take 20).length = j from by rw [take_min htn hj, List.length_take, htn]; omega)
        clear htn hb hq hj
        go_upto_region 5 with (fail)
        have HFX := hide HCK.out.nx
        have HSX := hide (fun (wX : World) (hgX : wr.grownBy wX (Value.slice yh k d2).ownBlock) => show wX.cell? ⟨gx, 2, none⟩ = some (.slice yh k d2) ∧ gx < wX.heap.size from
          ⟨gcell hgX (row4 HCK.out.row).2.2.1 HCK.out.row.lt HFX.out, Nat.lt_of_lt_of_le HCK.out.row.lt hgX.size⟩)
        have HD := hide (Below.refl wr.heap.size wr).drew
        have HCL : Hid (Calls Try.prog 49 #[.slice tA j tc] wr.drew fun e W' => ∃ v, e = .returned v ∧ W'.ownsRow wr.drew.heap.size 43 2 v j (Cs encE (tq.take 20)) ∧ Below wr.drew.heap.size wr.drew W') := hide (by
          rw [HJT.out]
          refine CloneE B tA j tc _ wr.drew ?_ (Nat.le_trans HBB.out HCK.out.below.size) (Cs_one_cell encE_one _) (by omega)
          have h := (HQ.out.below (HD.out.mono (Nat.le_trans HBB.out HCK.out.below.size))).take hj1
          rw [← Cs_take encE_len] at h; exact h)
        clear d0x hbl hcq
        have hS0 := HSX.out _ (grown_of_below HD.out)
        refine wp_region_T (fun wX => wX.cell? ⟨gx, 2, none⟩ = some (.slice yh k d2) ∧ gx < wX.heap.size) 11 (by kernel_rfl) (HSX.out _ (grown_of_below HD.out)) (fun hHeld => ?_)
        (refine wpAnyT_take (i := 0) (v := ?_) rfl (by kernel_rfl) (by kernel_rfl) (by kernel_rfl) (by kernel_rfl) (fun _ _ _ h => h) (Or.inl ⟨by rfl, ?_⟩) (by assumption) ?_; rotate_left; (focus (intro w hSw; (try dsimp only at hSw); obtain ⟨kf0, kf1⟩ := hSw; go_simp; first | done | with_reducible rfl)); (try simp only [Act.put, List.getElem_toArray, List.getElem_cons_succ, List.getElem_cons_zero, List.setIfInBounds_toArray, List.set_cons_zero, List.set_cons_succ]))
        (refine wpAnyT_take (i := 1) (v := ?_) rfl (by kernel_rfl) (by kernel_rfl) (by kernel_rfl) (by kernel_rfl) (fun _ _ _ h => h) (Or.inl ⟨by rfl, ?_⟩) (by assumption) ?_; rotate_left; (focus (intro w hSw; (try dsimp only at hSw); obtain ⟨kf0, kf1⟩ := hSw; go_simp; first | done | with_reducible rfl)); (try simp only [Act.put, List.getElem_toArray, List.getElem_cons_succ, List.getElem_cons_zero, List.setIfInBounds_toArray, List.set_cons_zero, List.set_cons_succ]))
        (refine wpAnyT_take (i := 2) (v := ?_) rfl (by kernel_rfl) (by kernel_rfl) (by kernel_rfl) (by kernel_rfl) (fun _ _ _ h => h) (Or.inl ⟨by rfl, ?_⟩) (by assumption) ?_; rotate_left; (focus (intro w hSw; (try dsimp only at hSw); obtain ⟨kf0, kf1⟩ := hSw; go_simp; first | done | with_reducible rfl)); (try simp only [Act.put, List.getElem_toArray, List.getElem_cons_succ, List.getElem_cons_zero, List.setIfInBounds_toArray, List.set_cons_zero, List.set_cons_succ]))
        (refine wpAnyT_take (i := 3) (v := ?_) rfl (by kernel_rfl) (by kernel_rfl) (by kernel_rfl) (by kernel_rfl) (fun _ _ _ h => h) (Or.inl ⟨by rfl, ?_⟩) (by assumption) ?_; rotate_left; (focus (intro w hSw; (try dsimp only at hSw); obtain ⟨kf0, kf1⟩ := hSw; go_simp; first | done | with_reducible rfl)); (try simp only [Act.put, List.getElem_toArray, List.getElem_cons_succ, List.getElem_cons_zero, List.setIfInBounds_toArray, List.set_cons_zero, List.set_cons_succ]))
        (refine wpAnyT_take (i := 4) (v := ?_) rfl (by kernel_rfl) (by kernel_rfl) (by kernel_rfl) (by kernel_rfl) (fun _ _ _ h => h) (Or.inl ⟨by rfl, ?_⟩) (by assumption) ?_; rotate_left; (focus (intro w hSw; (try dsimp only at hSw); obtain ⟨kf0, kf1⟩ := hSw; go_simp; first | done | with_reducible rfl)); (try simp only [Act.put, List.getElem_toArray, List.getElem_cons_succ, List.getElem_cons_zero, List.setIfInBounds_toArray, List.set_cons_zero, List.set_cons_succ]))
        (refine wpAnyT_take (i := 5) (v := ?_) rfl (by kernel_rfl) (by kernel_rfl) (by kernel_rfl) (by kernel_rfl) (fun _ _ _ h => h) (Or.inl ⟨by rfl, ?_⟩) (by assumption) ?_; rotate_left; (focus (intro w hSw; (try dsimp only at hSw); obtain ⟨kf0, kf1⟩ := hSw; go_simp; first | done | with_reducible rfl)); (try simp only [Act.put, List.getElem_toArray, List.getElem_cons_succ, List.getElem_cons_zero, List.setIfInBounds_toArray, List.set_cons_zero, List.set_cons_succ]))
        (refine wpAnyT_take (i := 6) (v := ?_) rfl (by kernel_rfl) (by kernel_rfl) (by kernel_rfl) (by kernel_rfl) (fun _ _ _ h => h) (Or.inl ⟨by rfl, ?_⟩) (by assumption) ?_; rotate_left; (focus (intro w hSw; (try dsimp only at hSw); obtain ⟨kf0, kf1⟩ := hSw; go_simp; first | done | with_reducible rfl)); (try simp only [Act.put, List.getElem_toArray, List.getElem_cons_succ, List.getElem_cons_zero, List.setIfInBounds_toArray, List.set_cons_zero, List.set_cons_succ]))
        refine wpAnyT_one (i := 7) rfl (by kernel_rfl) (fun K0 hK0 => ?_)
        go_simp
        with_reducible refine HCL.out.mono ?_
        rintro e w5 ⟨vc, rfl, ho5, hb5⟩
        obtain ⟨Ac, cc, rfl, hcc, hccm⟩ := own_form2 ho5
        have HCC := hide (show j ≤ cc ∧ cc ≤ 9223372036854775807 from ⟨hcc, hccm⟩)
        have HO5 := hide ho5
        have HB5 := hide (HD.out.trans hb5)
        clear ho5 hb5 hS0 hcc hccm
        have hS0 := HSX.out _ (grown_of_below HB5.out)
        refine hK0.out _ _ (fun _ => hS0) ?_
        clear hK0 K0
        (try simp only [Act.put, List.getElem_toArray, List.getElem_cons_succ, List.getElem_cons_zero, List.setIfInBounds_toArray, List.set_cons_zero, List.set_cons_succ])
        refine wpAnyT_one (i := 8) rfl (by kernel_rfl) (fun K1 hK1 => ?_)
        have HB6 := hide (HB5.out.trans (((Below.refl w5.heap.size w5).alloc (Nat.le_refl _) (.cells #[.slice Ac j cc] 54)).mono HB5.out.size))
        have HO6 := hide (own_keepB HO5.out ((Below.refl w5.heap.size w5).alloc (Nat.le_refl _) (.cells #[.slice Ac j cc] 54)))
        have HSRC := hide (Rd.new w5 #[.slice Ac j cc] 54 1 1 rfl)
        go_simp
        clear hS0
        have hS0 := HSX.out _ (grown_of_below HB6.out)
        refine hK1.out _ _ (fun _ => hS0) ?_
        clear hK1 K1
        (try simp only [Act.put, List.getElem_toArray, List.getElem_cons_succ, List.getElem_cons_zero, List.setIfInBounds_toArray, List.set_cons_zero, List.set_cons_succ])
        generalize w5.alloc (.cells #[.slice Ac j cc] 54) = w6 at *
        have HC6 := hide (HCK.out.keep HB6.out)
        refine wpAnyT_one (i := 9) rfl (by kernel_rfl) (fun K2 hK2 => ?_)
        rw [if_pos (by rfl)]
        refine wp_app elH _ _ rfl rfl HC6.out.has rfl HSRC.out (by simp [Value.oneCell']) (by have := HLT.out; have := HK2.out; omega) HC6.out.below.size ?_
        intro v7 w7 hown7 hb7 hg7 hx7
        obtain ⟨A7, c7, rfl, hc7, hcm7⟩ := own_form2 hown7
        clear hS0
        have hS0 := HSX.out _ (grown_trans (grown_of_below HB6.out) hg7)
        have HN7 := hide (HCK.out.add HB6.out hg7 (A := A7) (c := c7) (t := ⟨Ac, cc, tq.take 20⟩) (by rw [Cs_append, Cs_one]; show World.ownsRow w7 _ _ _ _ _ (_ ++ [.slice Ac (tq.take 20).length cc]); rw [HJL.out]; exact hown7) (by show World.ownsRow w6 _ _ _ (.slice Ac (tq.take 20).length cc) (tq.take 20).length _; rw [HJL.out]; exact own_moreB HO6.out HCK.out.below.size))
        have hfr7 : w7.frozen? ⟨gx, 2, none⟩ = false := RowAt.frozen (show RowAt w7 gx _ _ from (hg7.block gx HC6.out.row.lt HFX.out).trans HC6.out.row) 2
        clear hown7 hb7 hg7 hx7 hc7 hcm7
        refine hK2.out _ _ (fun _ => hS0) ?_
        clear hK2 K2
        (try simp only [Act.put, List.getElem_toArray, List.getElem_cons_succ, List.getElem_cons_zero, List.setIfInBounds_toArray, List.set_cons_zero, List.set_cons_succ])
        refine wpAnyT_one (i := 10) rfl (by kernel_rfl) (fun K3 hK3 => ?_)
        go_simp
        refine hK3.out _ _ (fun _ => hS0) ?_
        clear hK3 K3
        (try simp only [Act.put, List.getElem_toArray, List.getElem_cons_succ, List.getElem_cons_zero, List.setIfInBounds_toArray, List.set_cons_zero, List.set_cons_succ])
        refine wpAnyT_one (i := 11) rfl (by kernel_rfl) (fun K4 hK4 => ?_)
        obtain ⟨kf0, kf1⟩ := hS0
        go_simp
        refine hK4.out _ _ (fun h => absurd rfl h) ?_
        clear hK4 K4
        (try simp only [Act.put, List.getElem_toArray, List.getElem_cons_succ, List.getElem_cons_zero, List.setIfInBounds_toArray, List.set_cons_zero, List.set_cons_succ])
        refine wpAnyT_done (by kernel_rfl) ?_ _
        have HRN := hide (show rowsQ (us ++ [(⟨Ac, cc, tq.take 20⟩ : Hm)]) = ((rowsQ ts).take (k + 1)).map (List.take 20) from by rw [HTK.out, ← HRQ.out]; simp [rowsQ])
        have HCN := hide (show ∀ t ∈ us ++ [(⟨Ac, cc, tq.take 20⟩ : Hm)], t.q.length ≤ t.c ∧ t.c ≤ 9223372036854775807 from fun t ht => by
          rcases List.mem_append.1 ht with ht | ht
          · exact HCPS.out t ht
          · rw [List.mem_singleton] at ht
            subst ht
            show (tq.take 20).length ≤ cc ∧ cc ≤ _
            rw [HJL.out]; exact HCC.out)
        rw [show rowsQ us ++ [(⟨Ac, cc, tq.take 20⟩ : Hm).q] = rowsQ (us ++ [(⟨Ac, cc, tq.take 20⟩ : Hm)]) from by simp [rowsQ]] at HN7
        generalize (w7.setCell ⟨gx, 2, none⟩ (.slice A7 (k + 1) c7)) = w9 at *
        clear kf0 kf1 hfr7
        go_wp2_with fail
        go_roundw
        case rel => exact ⟨k + 1, _, _, _, by have := HLT.out; omega, by go_num, HRN.out, HCN.out, HN7.out⟩
        case measure => have := HLT.out; simp [intOf]; omega
      · obtain rfl : k = m2 := by omega
        obtain ⟨x0, x1, x2, x3⟩ := row4 HCK.out.row
        have xl := HCK.out.row.lt
        obtain ⟨z0, z1, z2, z3⟩ := row4 HCK.out.res
        have zl := HCK.out.res.lt
        have f0 := HCK.out.res.frozen 0
        have f1 := HCK.out.res.frozen 1
        have f2 := HCK.out.res.frozen 2
        have f3 := HCK.out.res.frozen 3
        have hne : ¬ gx = W.heap.size + 1 := by have := HCK.out.gt; omega
        have hne2 : ¬ W.heap.size + 1 = gx := by have := HCK.out.gt; omega
        have HHS := hide (show rowsQ us = (cutMo m).has from by rw [HRQ.out]; unfold cutMo; rw [H.out.hs, take_min (show (rowsQ ts).length = n2 from by rw [rowsQ_len, H.out.has.len]) HM2.out])
        go_wp2_with fail
        have HL := laidM4_of (n := W.heap.size) (v0 := .slice y0 m0 d0) (v1 := .slice y1 m1 d1) (v2 := .slice yh k d2) (v3 := .slice y3 m3 d3) HCK.out.res (by omega)
        generalize ((((wr.setCell ⟨W.heap.size + 1, 0, none⟩ (.slice y0 m0 d0)).setCell ⟨W.heap.size + 1, 1, none⟩ (.slice y1 m1 d1)).setCell ⟨W.heap.size + 1, 2, none⟩ (.slice yh k d2)).setCell ⟨W.heap.size + 1, 3, none⟩ (.slice y3 m3 d3)) = w9 at *
        obtain ⟨p0, p1, p2, p3⟩ := row4 HL.1
        have cl := HL.1.lt
        refine bodyPost_ret (v := .agg #[.slice y0 m0 d0, .slice y1 m1 d1, .slice yh k d2, .slice y3 m3 d3]) (by simp [results, Try.results21, go_sem, p0, p1, p2, p3, cl]) rfl ?_
        have ko : ∀ {e : TypeId} {sz n : Nat} {v : Value} {xs : List Value}, wr.ownsRow W.heap.size e sz v n xs → e ≠ 32 → w9.ownsRow W.heap.size e sz v n xs := fun ho hne => own_kept ho (fun g hg hl => HL.2.1 g (fun e => by subst e; obtain ⟨_, cs, hr⟩ := own_typ ho hg; exact hne (row_typ hr HCK.out.res)))
        have hmo : ∀ w' : World, w9.heap.size ≤ w'.heap.size → (∀ j, W.heap.size ≤ j → j < w9.heap.size → w'.heap[j]? = w9.heap[j]?) → MonX w' w'.heap.size y0 y1 yh y3 m0 m1 k m3 us (cutMo m) := fun w' hs' hk' => by
          have kp : ∀ {e : TypeId} {sz n : Nat} {v : Value} {xs : List Value}, wr.ownsRow W.heap.size e sz v n xs → e ≠ 32 → w'.ownsRow W.heap.size e sz v n xs := fun ho hne => own_kept (ko ho hne) (fun g hg hl => hk' g (own_typ ho hg).1 hl)
          exact ⟨Rd.of_own (kp HCK.out.sl (by decide)), HCK.out.l0, Rd.of_own (kp HCK.out.pin (by decide)), HCK.out.l1, ⟨Rd.of_own (kp HCK.out.has (by decide)), HCK.out.l2, fun t ht => Rd.of_own (kp (HCK.out.rows t ht) (by decide))⟩, HHS.out.symm, Rd.of_own (kp HCK.out.bad (by decide)), HCK.out.l3⟩
        exact ⟨⟨_, rfl, ⟨_, _, _, _, _, _, _, _, _, _, _, _, us, rfl, hmo, HCPS.out, own_cap HCK.out.bad⟩⟩, HCK.out.below.trans HL.2.2⟩
end Go.Proofs.Ytfpbabafeecncaa

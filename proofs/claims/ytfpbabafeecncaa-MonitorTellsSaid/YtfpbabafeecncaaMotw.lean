/-
  Which monitors may be, are the same, which touches are good, who holds what, what is safe: the walk.
-/
import Derived.Test.YtfpbabafeecncaaMow
import Derived.Test.YtfpbabafeecncaaMrf
import Derived.Test.YtfpbabafeecncaaMoz
import Derived.Deep.CutRange
import Derived.Deep.CutBlock
set_option linter.unusedSimpArgs false
set_option linter.unusedVariables false
namespace Go.Proofs.Ytfpbabafeecncaa
open Go Go.RowKit
attribute [local go_sem] via_cell via_frozen

theorem cut_fit2 (m : Mon) : FitM (cutMo m) 20 := by
  refine ⟨?_, ?_, ?_, ?_, ?_, by omega⟩
  · simp [cutMo]; omega
  · simp [cutMo]; omega
  · simp [cutMo]; omega
  · simp [cutMo]; omega
  · intro l hl
    simp only [cutMo, List.mem_map] at hl
    obtain ⟨x, _, rfl⟩ := hl
    simp; omega
theorem met_of {m : Mon} (h : OkM m) (e : Ent) : metB m e = meantB m.sl e := by unfold metB; rw [h.ar]; rfl
theorem rgood_eq {m : Mon} (h : OkM m) (k : Int) (g : Nat) (e : Ent) : rgoodB m k g e = goodM m (k, (g : Int), e) := by
  unfold rgoodB goodM tagM
  simp only [met_of h, Int.toNat_natCast]
  cases meantB m.sl e <;> simp [Bool.and_comm]
theorem tag_three {m : Mon} (h : OkM m) {e : Ent} (hm : meantB m.sl e = true) : tagOf m.sl e = 0 ∨ tagOf m.sl e = 1 ∨ tagOf m.sl e = 2 := by
  obtain ⟨k, hk, hkl, _⟩ := meantB_out hm
  have := slabOk_out (arOk_at h.ar hkl)
  unfold tagOf
  rw [hk, Int.toNat_natCast]
  omega
theorem rsafe_eq {m : Mon} (h : OkM m) (e : Ent) : (decide (holdM m e = []) && ((meantB m.sl e && decide (tagOf m.sl e = 1)) || (meantB m.sl e && decide (tagOf m.sl e = 2)))) = SafeM m e := by
  unfold SafeM tagM
  rw [ok_iff.2 h, met_of h]
  cases hm : meantB m.sl e with
  | false => simp
  | true =>
    have := tag_three h hm
    simp only [Bool.true_and, if_pos]
    congr 1
    rcases this with h1 | h1 | h1 <;> rw [h1] <;> rfl
theorem hold_eq {m : Mon} (h : OkM m) (e : Ent) : HoldM m e = holdM m e := by unfold HoldM; rw [if_pos (ok_iff.2 h)]
theorem good_eq {m : Mon} (h : OkM m) (k : Int) (g : Nat) (e : Ent) (hk : k = 4 ∨ k = 5) (hg : g < m.pin.length) : rgoodB m k g e = GoodM m (k, (g : Int), e) := by
  rw [rgood_eq h]
  unfold GoodM goerM
  rw [ok_iff.2 h]
  have h1 : (decide (k = 4) || decide (k = 5)) = true := by simpa using hk
  have h2 : decide ((g : Int) < (m.pin.length : Int)) = true := by simpa using hg
  have h3 : decide (0 ≤ (g : Int)) = true := by simp
  dsimp only
  rw [h1, h2, h3]
  rfl
theorem good_kind {m : Mon} {k g : Int} {e : Ent} (hk : ¬ (k = 4 ∨ k = 5)) : GoodM m (k, g, e) = false := by
  unfold GoodM
  have h1 : (decide (k = 4) || decide (k = 5)) = false := by simpa using hk
  rw [h1]; rfl
theorem good_goer {m : Mon} {k g : Int} {e : Ent} (hg : ¬ (0 ≤ g ∧ g < (m.pin.length : Int))) : GoodM m (k, g, e) = false := by
  unfold GoodM goerM
  have h1 : (decide (0 ≤ g) && decide (g < (m.pin.length : Int))) = false := by simpa using hg
  simp only [h1]
  simp
theorem good_no {m : Mon} (h : m.ok = false) (w : Wt) : GoodM m w = false := by unfold GoodM; rw [h]; simp
theorem safe_no {m : Mon} (h : m.ok = false) (e : Ent) : SafeM m e = false := by unfold SafeM; rw [h]; rfl
theorem hold_no {m : Mon} (h : m.ok = false) (e : Ent) : HoldM m e = [] := by unfold HoldM; rw [h]; rfl
theorem hold_fit {m : Mon} {R : Nat} (hf : FitM m R) (e : Ent) : (HoldM m e).length ≤ 4096 := by
  unfold HoldM holdM
  split
  · exact Nat.le_trans (hold_len2 e m.has 0) hf.has
  · exact Nat.zero_le _
def HoldAt (w : World) (v : Value) (ys : List Int) : Prop := ∃ A c, v = .slice A ys.length c ∧ Rd w w.heap.size 1 A ys.length (Cs encI ys)
theorem HoldAt.below {w w' : World} {v : Value} {ys : List Int} (h : HoldAt w v ys) (hb : Below w.heap.size w w') : HoldAt w' v ys := by
  obtain ⟨A, c, h1, h2⟩ := h
  exact ⟨A, c, h1, h2.belowX hb⟩
theorem vrSame2 {B B' : Nat} {v v' : Value} {m p : Mon} {R R' : Nat} {w : World} (h : MonOut B w v m) (h' : MonOut B' w v' p) (hf : FitM m R) (hf' : FitM p R') (r : Bool) (hr : sameM m p = r) : Calls Try.prog 11 #[v, v'] w fun e W' => e = .returned (.bool r) ∧ Below w.heap.size w W' := by
  obtain ⟨a0, a1, a2, a3, n0, n1, n2, n3, c0, c1, c2, c3, ts, rfl, h1, h2, h3⟩ := h
  obtain ⟨b0, b1, b2, b3, k0, k1, k2, k3, d0, d1, d2, d3, us, rfl, g1, g2, g3⟩ := h'
  have hx := h1 w (Nat.le_refl _) (fun _ _ _ => rfl)
  have gx := g1 w (Nat.le_refl _) (fun _ _ _ => rfl)
  exact rsameM_any a0 a1 a2 a3 n0 n1 n2 n3 c0 c1 c2 c3 b0 b1 b2 b3 k0 k1 k2 k3 d0 d1 d2 d3 ts us m p w hx gx (fit_small hx hf h2).1 (fit_small gx hf' g2).1 r hr
theorem vrRight {B : Nat} {v : Value} {m : Mon} {R : Nat} {w : World} (h : MonOut B w v m) (hf : FitM m R) (r : Bool) (hr : m.ok = r) : Calls Try.prog 22 #[v] w fun e W' => e = .returned (.bool r) ∧ Below w.heap.size w W' := by
  obtain ⟨a0, a1, a2, a3, n0, n1, n2, n3, c0, c1, c2, c3, ts, rfl, h1, h2, h3⟩ := h
  have hx := h1 w (Nat.le_refl _) (fun _ _ _ => rfl)
  exact rrightM_any a0 a1 a2 a3 n0 n1 n2 n3 c0 c1 c2 c3 ts m w hx (fit_small hx hf h2).1 r hr
theorem vrGood {B : Nat} {v : Value} {m : Mon} {R : Nat} {w : World} (h : MonOut B w v m) (hf : FitM m R) (ho : OkM m) (k s z : Int) (g : Nat) (hk : k = 4 ∨ k = 5) (hg : g < m.pin.length) (r : Bool) (hr : GoodM m (k, (g : Int), s, z) = r) : Calls Try.prog 24 #[v, .agg #[.int .i64 k, .int .i64 (g : Int), .int .i64 s, .int .u64 z]] w fun e W' => e = .returned (.bool r) ∧ Below w.heap.size w W' := by
  obtain ⟨a0, a1, a2, a3, n0, n1, n2, n3, c0, c1, c2, c3, ts, rfl, h1, h2, h3⟩ := h
  have hx := h1 w (Nat.le_refl _) (fun _ _ _ => rfl)
  exact rgood_any a0 a1 a2 a3 n0 n1 n2 n3 c0 c1 c2 c3 ts m k s z g w hx (fit_small hx hf h2).1 (by rw [← hx.l1]; exact hg) (by have := ho.has; rw [hx.hs, rowsQ_len, hx.has.len] at this; omega) r (by rw [good_eq ho k g (s, z) hk hg]; exact hr)
theorem vrHold {B : Nat} {v : Value} {m : Mon} {R : Nat} {w : World} (h : MonOut B w v m) (hf : FitM m R) (ho : OkM m) (s z : Int) (ys : List Int) (hy : HoldM m (s, z) = ys) : Calls Try.prog 25 #[v, .agg #[.int .i64 s, .int .u64 z]] w fun e W' => (∃ v, e = .returned v ∧ HoldAt W' v ys) ∧ Below w.heap.size w W' := by
  obtain ⟨a0, a1, a2, a3, n0, n1, n2, n3, c0, c1, c2, c3, ts, rfl, h1, h2, h3⟩ := h
  have hx := h1 w (Nat.le_refl _) (fun _ _ _ => rfl)
  refine (rhold_any a0 a1 a2 a3 n0 n1 n2 n3 c0 c1 c2 c3 ts m s z w hx (fit_small hx hf h2).1 ys (by rw [← hold_eq ho]; exact hy) ys.length rfl).mono ?_
  rintro e W' ⟨⟨A, c, rfl, hr⟩, hb⟩
  exact ⟨⟨_, rfl, A, c, rfl, hr⟩, hb⟩
theorem vrSafe {B : Nat} {v : Value} {m : Mon} {R : Nat} {w : World} (h : MonOut B w v m) (hf : FitM m R) (ho : OkM m) (s z : Int) (r : Bool) (hr : SafeM m (s, z) = r) : Calls Try.prog 26 #[v, .agg #[.int .i64 s, .int .u64 z]] w fun e W' => e = .returned (.bool r) ∧ Below w.heap.size w W' := by
  obtain ⟨a0, a1, a2, a3, n0, n1, n2, n3, c0, c1, c2, c3, ts, rfl, h1, h2, h3⟩ := h
  have hx := h1 w (Nat.le_refl _) (fun _ _ _ => rfl)
  exact rsafe_any a0 a1 a2 a3 n0 n1 n2 n3 c0 c1 c2 c3 ts m s z w hx (fit_small hx hf h2).1 r (by rw [rsafe_eq ho]; exact hr)
/-- An argument: a monitor and its rooms. -/
structure ArgM (w : World) (B : Nat) (cs : Array Value) (m : Mon) : Prop where
  ex : ∃ a0 a1 a2 a3 n0 n1 n2 n3 c0 c1 c2 c3 ts, cs = #[.slice a0 n0 c0, .slice a1 n1 c1, .slice a2 n2 c2, .slice a3 n3 c3] ∧ MonX w B a0 a1 a2 a3 n0 n1 n2 n3 ts m ∧ (n0 ≤ c0 ∧ c0 ≤ 9223372036854775807) ∧ (n1 ≤ c1 ∧ c1 ≤ 9223372036854775807) ∧ (n2 ≤ c2 ∧ c2 ≤ 9223372036854775807) ∧ (n3 ≤ c3 ∧ c3 ≤ 9223372036854775807) ∧ (∀ t ∈ ts, t.q.length ≤ t.c ∧ t.c ≤ 9223372036854775807)
theorem ArgM.below {w w' : World} {B : Nat} {cs : Array Value} {m : Mon} (h : ArgM w B cs m) (hb : Below B w w') : ArgM w' B cs m := by
  obtain ⟨a0, a1, a2, a3, n0, n1, n2, n3, c0, c1, c2, c3, ts, h1, h2, h3⟩ := h.ex
  exact ⟨a0, a1, a2, a3, n0, n1, n2, n3, c0, c1, c2, c3, ts, h1, h2.below hb, h3⟩
theorem vOwn {w : World} {B : Nat} {cs : Array Value} {m : Mon} (h : ArgM w B cs m) (hB : B ≤ w.heap.size) : Calls Try.prog 21 #[.agg cs] w fun e W' => (∃ v, e = .returned v ∧ MonOut w.heap.size W' v (cutMo m)) ∧ Below w.heap.size w W' := by
  obtain ⟨a0, a1, a2, a3, n0, n1, n2, n3, c0, c1, c2, c3, ts, rfl, h2, h3, h4, h5, h6, h7⟩ := h.ex
  exact own_any B a0 a1 a2 a3 n0 n1 n2 n3 c0 c1 c2 c3 ts m w h2 hB h3 h4 h5 h6 h7
set_option maxRecDepth 100000 in
set_option maxHeartbeats 16000000 in
theorem tl_r3 {w0 : World} {gx gy B0 : Nat} {xa0 xa1 xa2 xa3 : Option Addr} {xn0 xn1 xn2 xn3 xc0 xc1 xc2 xc3 : Nat} {ya0 ya1 ya2 ya3 : Option Addr} {yn0 yn1 yn2 yn3 yc0 yc1 yc2 yc3 : Nat} {m p : Mon} (RX : RowAt w0 gx 32 #[.slice xa0 xn0 xc0, .slice xa1 xn1 xc1, .slice xa2 xn2 xc2, .slice xa3 xn3 xc3]) (RY : RowAt w0 gy 32 #[.slice ya0 yn0 yc0, .slice ya1 yn1 yc1, .slice ya2 yn2 yc2, .slice ya3 yn3 yc3]) (MX : ArgM w0 B0 #[.slice xa0 xn0 xc0, .slice xa1 xn1 xc1, .slice xa2 xn2 xc2, .slice xa3 xn3 xc3] m) (MY : ArgM w0 B0 #[.slice ya0 yn0 yc0, .slice ya1 yn1 yc1, .slice ya2 yn2 yc2, .slice ya3 yn3 yc3] p) (hB0 : B0 ≤ w0.heap.size) (a : Act) (Q : Exit → Act → World → Prop) (id : Nat) (hsz : 22 < a.tmps.size) (hA3 : a.tmps[3]? = some (.pointer (some ⟨gx, 0, none⟩))) (hA4 : a.tmps[4]? = some (.pointer (some ⟨gy, 0, none⟩))) (ops : Array Oper) (hops : opsAt Try.f5 3 = some ops) (hQ : ∀ (x19 : Value) (x20 : Value) (x21 : Value) (x22 : Value) (cp cq : Array Value) (g7 g8 : Nat) (w : World), Below w0.heap.size w0 w → RowAt w g7 32 cp → RowAt w g8 32 cq → MonOut 0 w (.agg cp) (cutMo m) → MonOut 0 w (.agg cq) (cutMo p) → Q .normal (puts a (([19, 20, 21, 22, 7, 8] : List Nat).zip [x19, x20, x21, x22, .pointer (some ⟨g7, 0, none⟩), .pointer (some ⟨g8, 0, none⟩)])) w) : (Code.region id ops true).wp Try.prog Q a w0 := by
  have hn : ([19, 20, 21, 22, 7, 8] : List Nat).Nodup := by decide
  have hs : ∀ d ∈ ([19, 20, 21, 22, 7, 8] : List Nat), d < a.tmps.size := fun d hd => Nat.lt_of_le_of_lt ((by decide : ∀ d ∈ ([19, 20, 21, 22, 7, 8] : List Nat), d ≤ 22) d hd) hsz
  conv at hops => lhs; whnf
  injection hops with hops
  subst hops
  refine wp_region_slots [19, 20, 21, 22, 7, 8] (fun L xs w => ∃ x19 : Value, ∃ x20 : Value, ∃ x21 : Value, ∃ x22 : Value, ∃ x7 : Value, ∃ x8 : Value, ∃ cp cq : Array Value, ∃ bp bq g7 g8 : Nat, ∃ up uq : World, xs = [x19, x20, x21, x22, x7, x8] ∧ Below w0.heap.size w0 w ∧ (L 0 = true → x19 = .agg #[.slice xa0 xn0 xc0, .slice xa1 xn1 xc1, .slice xa2 xn2 xc2, .slice xa3 xn3 xc3]) ∧ (L 1 = true → x20 = .agg cp) ∧ (L 1 = true → MonOut bp up (.agg cp) (cutMo m)) ∧ (L 1 = true → Keeps bp up w) ∧ (L 2 = true → x21 = .agg #[.slice ya0 yn0 yc0, .slice ya1 yn1 yc1, .slice ya2 yn2 yc2, .slice ya3 yn3 yc3]) ∧ (L 3 = true → x22 = .agg cq) ∧ (L 3 = true → MonOut bq uq (.agg cq) (cutMo p)) ∧ (L 3 = true → Keeps bq uq w) ∧ (L 4 = true → x7 = .pointer (some ⟨g7, 0, none⟩)) ∧ (L 4 = true → w0.heap.size ≤ g7 ∧ g7 < w.heap.size) ∧ (L 4 = true → L 1 = true → g7 < bp ∨ up.heap.size ≤ g7) ∧ (L 4 = true → L 3 = true → g7 < bq ∨ uq.heap.size ≤ g7) ∧ (L 4 = true → L 6 = false → RowAt w g7 32 #[.slice none 0 0, .slice none 0 0, .slice none 0 0, .slice none 0 0]) ∧ (L 5 = true → x8 = .pointer (some ⟨g8, 0, none⟩)) ∧ (L 5 = true → w0.heap.size ≤ g8 ∧ g8 < w.heap.size) ∧ (L 5 = true → L 1 = true → g8 < bp ∨ up.heap.size ≤ g8) ∧ (L 5 = true → L 3 = true → g8 < bq ∨ uq.heap.size ≤ g8) ∧ (L 5 = true → L 7 = false → RowAt w g8 32 #[.slice none 0 0, .slice none 0 0, .slice none 0 0, .slice none 0 0]) ∧ (L 4 = true → L 5 = true → g7 ≠ g8) ∧ (L 6 = true → L 4 = true → RowAt w g7 32 cp) ∧ (L 7 = true → L 5 = true → RowAt w g8 32 cq)) (by kernel_rfl) (by kernel_rfl) ?_ ?_ ?_
  · exact ⟨_, _, _, _, _, _, #[], #[], 0, 0, 0, 0, w0, w0, rfl, (Below.refl _ _).drew, fun h => nope h rfl, fun h => nope h rfl, fun h => nope h rfl, fun h => nope h rfl, fun h => nope h rfl, fun h => nope h rfl, fun h => nope h rfl, fun h => nope h rfl, fun h => nope h rfl, fun h => nope h rfl, fun h => nope h rfl, fun h => nope h rfl, fun h => nope h rfl, fun h => nope h rfl, fun h => nope h rfl, fun h => nope h rfl, fun h => nope h rfl, fun h => nope h rfl, fun h => nope h rfl, fun h => nope h rfl, fun h => nope h rfl⟩
  · refine OnceFrom.cons (fun L b w K hI hi hon hup hK => ?_) ?_
    · obtain ⟨xs, hbe, x19, x20, x21, x22, x7, x8, cp, cq, bp, bq, g7, g8, up, uq, hxs, hB, hF⟩ := hI
      subst hxs
      have HB := hide hB
      have HF := hide hF
      obtain ⟨f0, f1, f1m, f1k, f2, f3, f3m, f3k, f4, f4a, f4b, f4c, f4r, f5, f5a, f5b, f5c, f5r, f45, f6, f7⟩ := hF
      obtain ⟨c0, c1, c2, c3⟩ := row4 RX
      have q0 := kept hB c0
      have q1 := kept hB c1
      have q2 := kept hB c2
      have q3 := kept hB c3
      clear c0 c1 c2 c3
      have hT3 : b.tmps[3]? = some (.pointer (some ⟨gx, 0, none⟩)) := by rw [hbe]; exact (puts_get_out _ _ _ (by decide)).trans hA3
      have HBE := hide hbe
      clear hB hbe f0 f1 f1m f1k f2 f3 f3m f3k f4 f4a f4b f4c f4r f5 f5a f5b f5c f5r f45 f6 f7
      rw [if_pos (by rfl)]
      go_simp
      obtain ⟨f0, f1, f1m, f1k, f2, f3, f3m, f3k, f4, f4a, f4b, f4c, f4r, f5, f5a, f5b, f5c, f5r, f45, f6, f7⟩ := HF.out
      have hB := HB.out
      refine hK.out _ _ (fun L2 hi2 hn2 => ⟨[(.agg #[.slice xa0 xn0 xc0, .slice xa1 xn1 xc1, .slice xa2 xn2 xc2, .slice xa3 xn3 xc3]), x20, x21, x22, x7, x8], put_in HBE.out hn rfl 0 _ rfl rfl, (.agg #[.slice xa0 xn0 xc0, .slice xa1 xn1 xc1, .slice xa2 xn2 xc2, .slice xa3 xn3 xc3]), x20, x21, x22, x7, x8, cp, cq, bp, bq, g7, g8, up, uq, rfl, hB, (fun g0 => rfl), (fun g1 => have h1 := lt_ (hn2 1 (by decide)) g1; f1 h1), (fun g1 => have h1 := lt_ (hn2 1 (by decide)) g1; f1m h1), (fun g1 => have h1 := lt_ (hn2 1 (by decide)) g1; f1k h1), (fun g2 => have h2 := lt_ (hn2 2 (by decide)) g2; f2 h2), (fun g3 => have h3 := lt_ (hn2 3 (by decide)) g3; f3 h3), (fun g3 => have h3 := lt_ (hn2 3 (by decide)) g3; f3m h3), (fun g3 => have h3 := lt_ (hn2 3 (by decide)) g3; f3k h3), (fun g4 => have h4 := lt_ (hn2 4 (by decide)) g4; f4 h4), (fun g4 => have h4 := lt_ (hn2 4 (by decide)) g4; f4a h4), (fun g4 g1 => have h4 := lt_ (hn2 4 (by decide)) g4; have h1 := lt_ (hn2 1 (by decide)) g1; f4b h4 h1), (fun g4 g3 => have h4 := lt_ (hn2 4 (by decide)) g4; have h3 := lt_ (hn2 3 (by decide)) g3; f4c h4 h3), (fun g4 g6 => have h4 := lt_ (hn2 4 (by decide)) g4; have h6 := lt_ (hn2 6 (by decide)) g6; f4r h4 h6), (fun g5 => have h5 := lt_ (hn2 5 (by decide)) g5; f5 h5), (fun g5 => have h5 := lt_ (hn2 5 (by decide)) g5; f5a h5), (fun g5 g1 => have h5 := lt_ (hn2 5 (by decide)) g5; have h1 := lt_ (hn2 1 (by decide)) g1; f5b h5 h1), (fun g5 g3 => have h5 := lt_ (hn2 5 (by decide)) g5; have h3 := lt_ (hn2 3 (by decide)) g3; f5c h5 h3), (fun g5 g7 => have h5 := lt_ (hn2 5 (by decide)) g5; have h7 := lt_ (hn2 7 (by decide)) g7; f5r h5 h7), (fun g4 g5 => have h4 := lt_ (hn2 4 (by decide)) g4; have h5 := lt_ (hn2 5 (by decide)) g5; f45 h4 h5), (fun g6 g4 => have h6 := lt_ (hn2 6 (by decide)) g6; have h4 := lt_ (hn2 4 (by decide)) g4; f6 h6 h4), (fun g7 g5 => have h7 := lt_ (hn2 7 (by decide)) g7; have h5 := lt_ (hn2 5 (by decide)) g5; f7 h7 h5)⟩)
    refine OnceFrom.cons (fun L b w K hI hi hon hup hK => ?_) ?_
    · obtain ⟨xs, hbe, x19, x20, x21, x22, x7, x8, cp, cq, bp, bq, g7, g8, up, uq, hxs, hB, hF⟩ := hI
      subst hxs
      have d0 : L 0 = true := hon 0 (mem_of_elem (by kernel_rfl))
      have u6 : L 6 = false := hup 6 (mem_of_elem (by kernel_rfl))
      have HB := hide hB
      have HF := hide hF
      obtain ⟨f0, f1, f1m, f1k, f2, f3, f3m, f3k, f4, f4a, f4b, f4c, f4r, f5, f5a, f5b, f5c, f5r, f45, f6, f7⟩ := hF
      have e0 := f0 d0
      subst e0
      have MB := hide (MX.below (hB.mono hB0))
      have HL0 := hide (Nat.le_trans hB0 hB.size)
      have hT19 : b.tmps[19]? = some (.agg #[.slice xa0 xn0 xc0, .slice xa1 xn1 xc1, .slice xa2 xn2 xc2, .slice xa3 xn3 xc3]) := by rw [hbe]; exact puts_get_in _ _ _ hn hs (i := 0) rfl rfl
      have HBE := hide hbe
      clear hB hbe f0 f1 f1m f1k f2 f3 f3m f3k f4 f4a f4b f4c f4r f5 f5a f5b f5c f5r f45 f6 f7
      rw [if_pos (by rfl)]
      go_simp
      with_reducible refine (vOwn MB.out HL0.out).mono ?_
      rintro e w2 ⟨⟨v, rfl, hm5⟩, hb⟩
      obtain ⟨va0, va1, va2, va3, vn0, vn1, vn2, vn3, vc0, vc1, vc2, vc3, rfl⟩ := hm5.form
      obtain ⟨f0, f1, f1m, f1k, f2, f3, f3m, f3k, f4, f4a, f4b, f4c, f4r, f5, f5a, f5b, f5c, f5r, f45, f6, f7⟩ := HF.out
      have hB := HB.out
      refine hK.out _ _ (fun L2 hi2 hn2 => ⟨[(.agg #[.slice xa0 xn0 xc0, .slice xa1 xn1 xc1, .slice xa2 xn2 xc2, .slice xa3 xn3 xc3]), (.agg #[.slice va0 vn0 vc0, .slice va1 vn1 vc1, .slice va2 vn2 vc2, .slice va3 vn3 vc3]), x21, x22, x7, x8], put_in HBE.out hn rfl 1 _ rfl rfl, (.agg #[.slice xa0 xn0 xc0, .slice xa1 xn1 xc1, .slice xa2 xn2 xc2, .slice xa3 xn3 xc3]), (.agg #[.slice va0 vn0 vc0, .slice va1 vn1 vc1, .slice va2 vn2 vc2, .slice va3 vn3 vc3]), x21, x22, x7, x8, #[.slice va0 vn0 vc0, .slice va1 vn1 vc1, .slice va2 vn2 vc2, .slice va3 vn3 vc3], cq, w.heap.size, bq, g7, g8, w2, uq, rfl, (hB.trans (hb.mono hB.size)), (fun g0 => have h0 := lt_ (hn2 0 (by decide)) g0; rfl), (fun g1 => rfl), (fun g1 => hm5), (fun g1 => Keeps.refl _ _), (fun g2 => have h2 := lt_ (hn2 2 (by decide)) g2; f2 h2), (fun g3 => have h3 := lt_ (hn2 3 (by decide)) g3; f3 h3), (fun g3 => have h3 := lt_ (hn2 3 (by decide)) g3; f3m h3), (fun g3 => have h3 := lt_ (hn2 3 (by decide)) g3; (f3k h3).below hb), (fun g4 => have h4 := lt_ (hn2 4 (by decide)) g4; f4 h4), (fun g4 => have h4 := lt_ (hn2 4 (by decide)) g4; ⟨(f4a h4).1, Nat.lt_of_lt_of_le (f4a h4).2 hb.size⟩), (fun g4 g1 => have h4 := lt_ (hn2 4 (by decide)) g4; .inl (f4a h4).2), (fun g4 g3 => have h4 := lt_ (hn2 4 (by decide)) g4; have h3 := lt_ (hn2 3 (by decide)) g3; f4c h4 h3), (fun g4 g6 => have h4 := lt_ (hn2 4 (by decide)) g4; have h6 := lt_ (hn2 6 (by decide)) g6; (f4r h4 h6).below hb), (fun g5 => have h5 := lt_ (hn2 5 (by decide)) g5; f5 h5), (fun g5 => have h5 := lt_ (hn2 5 (by decide)) g5; ⟨(f5a h5).1, Nat.lt_of_lt_of_le (f5a h5).2 hb.size⟩), (fun g5 g1 => have h5 := lt_ (hn2 5 (by decide)) g5; .inl (f5a h5).2), (fun g5 g3 => have h5 := lt_ (hn2 5 (by decide)) g5; have h3 := lt_ (hn2 3 (by decide)) g3; f5c h5 h3), (fun g5 g7 => have h5 := lt_ (hn2 5 (by decide)) g5; have h7 := lt_ (hn2 7 (by decide)) g7; (f5r h5 h7).below hb), (fun g4 g5 => have h4 := lt_ (hn2 4 (by decide)) g4; have h5 := lt_ (hn2 5 (by decide)) g5; f45 h4 h5), (fun g6 g4 => have h6 := lt_ (hn2 6 (by decide)) g6; have h4 := lt_ (hn2 4 (by decide)) g4; nope h6 u6), (fun g7 g5 => have h7 := lt_ (hn2 7 (by decide)) g7; have h5 := lt_ (hn2 5 (by decide)) g5; (f7 h7 h5).below hb)⟩)
    refine OnceFrom.cons (fun L b w K hI hi hon hup hK => ?_) ?_
    · obtain ⟨xs, hbe, x19, x20, x21, x22, x7, x8, cp, cq, bp, bq, g7, g8, up, uq, hxs, hB, hF⟩ := hI
      subst hxs
      have HB := hide hB
      have HF := hide hF
      obtain ⟨f0, f1, f1m, f1k, f2, f3, f3m, f3k, f4, f4a, f4b, f4c, f4r, f5, f5a, f5b, f5c, f5r, f45, f6, f7⟩ := hF
      obtain ⟨c0, c1, c2, c3⟩ := row4 RY
      have q0 := kept hB c0
      have q1 := kept hB c1
      have q2 := kept hB c2
      have q3 := kept hB c3
      clear c0 c1 c2 c3
      have hT4 : b.tmps[4]? = some (.pointer (some ⟨gy, 0, none⟩)) := by rw [hbe]; exact (puts_get_out _ _ _ (by decide)).trans hA4
      have HBE := hide hbe
      clear hB hbe f0 f1 f1m f1k f2 f3 f3m f3k f4 f4a f4b f4c f4r f5 f5a f5b f5c f5r f45 f6 f7
      rw [if_pos (by rfl)]
      go_simp
      obtain ⟨f0, f1, f1m, f1k, f2, f3, f3m, f3k, f4, f4a, f4b, f4c, f4r, f5, f5a, f5b, f5c, f5r, f45, f6, f7⟩ := HF.out
      have hB := HB.out
      refine hK.out _ _ (fun L2 hi2 hn2 => ⟨[x19, x20, (.agg #[.slice ya0 yn0 yc0, .slice ya1 yn1 yc1, .slice ya2 yn2 yc2, .slice ya3 yn3 yc3]), x22, x7, x8], put_in HBE.out hn rfl 2 _ rfl rfl, x19, x20, (.agg #[.slice ya0 yn0 yc0, .slice ya1 yn1 yc1, .slice ya2 yn2 yc2, .slice ya3 yn3 yc3]), x22, x7, x8, cp, cq, bp, bq, g7, g8, up, uq, rfl, hB, (fun g0 => have h0 := lt_ (hn2 0 (by decide)) g0; f0 h0), (fun g1 => have h1 := lt_ (hn2 1 (by decide)) g1; f1 h1), (fun g1 => have h1 := lt_ (hn2 1 (by decide)) g1; f1m h1), (fun g1 => have h1 := lt_ (hn2 1 (by decide)) g1; f1k h1), (fun g2 => rfl), (fun g3 => have h3 := lt_ (hn2 3 (by decide)) g3; f3 h3), (fun g3 => have h3 := lt_ (hn2 3 (by decide)) g3; f3m h3), (fun g3 => have h3 := lt_ (hn2 3 (by decide)) g3; f3k h3), (fun g4 => have h4 := lt_ (hn2 4 (by decide)) g4; f4 h4), (fun g4 => have h4 := lt_ (hn2 4 (by decide)) g4; f4a h4), (fun g4 g1 => have h4 := lt_ (hn2 4 (by decide)) g4; have h1 := lt_ (hn2 1 (by decide)) g1; f4b h4 h1), (fun g4 g3 => have h4 := lt_ (hn2 4 (by decide)) g4; have h3 := lt_ (hn2 3 (by decide)) g3; f4c h4 h3), (fun g4 g6 => have h4 := lt_ (hn2 4 (by decide)) g4; have h6 := lt_ (hn2 6 (by decide)) g6; f4r h4 h6), (fun g5 => have h5 := lt_ (hn2 5 (by decide)) g5; f5 h5), (fun g5 => have h5 := lt_ (hn2 5 (by decide)) g5; f5a h5), (fun g5 g1 => have h5 := lt_ (hn2 5 (by decide)) g5; have h1 := lt_ (hn2 1 (by decide)) g1; f5b h5 h1), (fun g5 g3 => have h5 := lt_ (hn2 5 (by decide)) g5; have h3 := lt_ (hn2 3 (by decide)) g3; f5c h5 h3), (fun g5 g7 => have h5 := lt_ (hn2 5 (by decide)) g5; have h7 := lt_ (hn2 7 (by decide)) g7; f5r h5 h7), (fun g4 g5 => have h4 := lt_ (hn2 4 (by decide)) g4; have h5 := lt_ (hn2 5 (by decide)) g5; f45 h4 h5), (fun g6 g4 => have h6 := lt_ (hn2 6 (by decide)) g6; have h4 := lt_ (hn2 4 (by decide)) g4; f6 h6 h4), (fun g7 g5 => have h7 := lt_ (hn2 7 (by decide)) g7; have h5 := lt_ (hn2 5 (by decide)) g5; f7 h7 h5)⟩)
    refine OnceFrom.cons (fun L b w K hI hi hon hup hK => ?_) ?_
    · obtain ⟨xs, hbe, x19, x20, x21, x22, x7, x8, cp, cq, bp, bq, g7, g8, up, uq, hxs, hB, hF⟩ := hI
      subst hxs
      have d2 : L 2 = true := hon 2 (mem_of_elem (by kernel_rfl))
      have u7 : L 7 = false := hup 7 (mem_of_elem (by kernel_rfl))
      have HB := hide hB
      have HF := hide hF
      obtain ⟨f0, f1, f1m, f1k, f2, f3, f3m, f3k, f4, f4a, f4b, f4c, f4r, f5, f5a, f5b, f5c, f5r, f45, f6, f7⟩ := hF
      have e0 := f2 d2
      subst e0
      have MB := hide (MY.below (hB.mono hB0))
      have HL0 := hide (Nat.le_trans hB0 hB.size)
      have hT21 : b.tmps[21]? = some (.agg #[.slice ya0 yn0 yc0, .slice ya1 yn1 yc1, .slice ya2 yn2 yc2, .slice ya3 yn3 yc3]) := by rw [hbe]; exact puts_get_in _ _ _ hn hs (i := 2) rfl rfl
      have HBE := hide hbe
      clear hB hbe f0 f1 f1m f1k f2 f3 f3m f3k f4 f4a f4b f4c f4r f5 f5a f5b f5c f5r f45 f6 f7
      rw [if_pos (by rfl)]
      go_simp
      with_reducible refine (vOwn MB.out HL0.out).mono ?_
      rintro e w2 ⟨⟨v, rfl, hm5⟩, hb⟩
      obtain ⟨va0, va1, va2, va3, vn0, vn1, vn2, vn3, vc0, vc1, vc2, vc3, rfl⟩ := hm5.form
      obtain ⟨f0, f1, f1m, f1k, f2, f3, f3m, f3k, f4, f4a, f4b, f4c, f4r, f5, f5a, f5b, f5c, f5r, f45, f6, f7⟩ := HF.out
      have hB := HB.out
      refine hK.out _ _ (fun L2 hi2 hn2 => ⟨[x19, x20, (.agg #[.slice ya0 yn0 yc0, .slice ya1 yn1 yc1, .slice ya2 yn2 yc2, .slice ya3 yn3 yc3]), (.agg #[.slice va0 vn0 vc0, .slice va1 vn1 vc1, .slice va2 vn2 vc2, .slice va3 vn3 vc3]), x7, x8], put_in HBE.out hn rfl 3 _ rfl rfl, x19, x20, (.agg #[.slice ya0 yn0 yc0, .slice ya1 yn1 yc1, .slice ya2 yn2 yc2, .slice ya3 yn3 yc3]), (.agg #[.slice va0 vn0 vc0, .slice va1 vn1 vc1, .slice va2 vn2 vc2, .slice va3 vn3 vc3]), x7, x8, cp, #[.slice va0 vn0 vc0, .slice va1 vn1 vc1, .slice va2 vn2 vc2, .slice va3 vn3 vc3], bp, w.heap.size, g7, g8, up, w2, rfl, (hB.trans (hb.mono hB.size)), (fun g0 => have h0 := lt_ (hn2 0 (by decide)) g0; f0 h0), (fun g1 => have h1 := lt_ (hn2 1 (by decide)) g1; f1 h1), (fun g1 => have h1 := lt_ (hn2 1 (by decide)) g1; f1m h1), (fun g1 => have h1 := lt_ (hn2 1 (by decide)) g1; (f1k h1).below hb), (fun g2 => have h2 := lt_ (hn2 2 (by decide)) g2; rfl), (fun g3 => rfl), (fun g3 => hm5), (fun g3 => Keeps.refl _ _), (fun g4 => have h4 := lt_ (hn2 4 (by decide)) g4; f4 h4), (fun g4 => have h4 := lt_ (hn2 4 (by decide)) g4; ⟨(f4a h4).1, Nat.lt_of_lt_of_le (f4a h4).2 hb.size⟩), (fun g4 g1 => have h4 := lt_ (hn2 4 (by decide)) g4; have h1 := lt_ (hn2 1 (by decide)) g1; f4b h4 h1), (fun g4 g3 => have h4 := lt_ (hn2 4 (by decide)) g4; .inl (f4a h4).2), (fun g4 g6 => have h4 := lt_ (hn2 4 (by decide)) g4; have h6 := lt_ (hn2 6 (by decide)) g6; (f4r h4 h6).below hb), (fun g5 => have h5 := lt_ (hn2 5 (by decide)) g5; f5 h5), (fun g5 => have h5 := lt_ (hn2 5 (by decide)) g5; ⟨(f5a h5).1, Nat.lt_of_lt_of_le (f5a h5).2 hb.size⟩), (fun g5 g1 => have h5 := lt_ (hn2 5 (by decide)) g5; have h1 := lt_ (hn2 1 (by decide)) g1; f5b h5 h1), (fun g5 g3 => have h5 := lt_ (hn2 5 (by decide)) g5; .inl (f5a h5).2), (fun g5 g7 => have h5 := lt_ (hn2 5 (by decide)) g5; have h7 := lt_ (hn2 7 (by decide)) g7; (f5r h5 h7).below hb), (fun g4 g5 => have h4 := lt_ (hn2 4 (by decide)) g4; have h5 := lt_ (hn2 5 (by decide)) g5; f45 h4 h5), (fun g6 g4 => have h6 := lt_ (hn2 6 (by decide)) g6; have h4 := lt_ (hn2 4 (by decide)) g4; (f6 h6 h4).below hb), (fun g7 g5 => have h7 := lt_ (hn2 7 (by decide)) g7; have h5 := lt_ (hn2 5 (by decide)) g5; nope h7 u7)⟩)
    refine OnceFrom.cons (fun L b w K hI hi hon hup hK => ?_) ?_
    · obtain ⟨xs, hbe, x19, x20, x21, x22, x7, x8, cp, cq, bp, bq, g7, g8, up, uq, hxs, hB, hF⟩ := hI
      subst hxs
      have u6 : L 6 = false := hup 6 (mem_of_elem (by kernel_rfl))
      have HB := hide hB
      have HF := hide hF
      obtain ⟨f0, f1, f1m, f1k, f2, f3, f3m, f3k, f4, f4a, f4b, f4c, f4r, f5, f5a, f5b, f5c, f5r, f45, f6, f7⟩ := hF
      have HBE := hide hbe
      clear hB hbe f0 f1 f1m f1k f2 f3 f3m f3k f4 f4a f4b f4c f4r f5 f5a f5b f5c f5r f45 f6 f7
      rw [if_pos (by rfl)]
      go_simp
      obtain ⟨f0, f1, f1m, f1k, f2, f3, f3m, f3k, f4, f4a, f4b, f4c, f4r, f5, f5a, f5b, f5c, f5r, f45, f6, f7⟩ := HF.out
      have hB := HB.out
      have hb : Below w.heap.size w (w.alloc (.cells #[.slice none 0 0, .slice none 0 0, .slice none 0 0, .slice none 0 0] 32)) := (Below.refl _ _).alloc (Nat.le_refl _) _
      refine hK.out _ _ (fun L2 hi2 hn2 => ⟨[x19, x20, x21, x22, (.pointer (some ⟨w.heap.size, 0, none⟩)), x8], put_in HBE.out hn rfl 4 _ rfl rfl, x19, x20, x21, x22, (.pointer (some ⟨w.heap.size, 0, none⟩)), x8, cp, cq, bp, bq, w.heap.size, g8, up, uq, rfl, (hB.trans (hb.mono hB.size)), (fun g0 => have h0 := lt_ (hn2 0 (by decide)) g0; f0 h0), (fun g1 => have h1 := lt_ (hn2 1 (by decide)) g1; f1 h1), (fun g1 => have h1 := lt_ (hn2 1 (by decide)) g1; f1m h1), (fun g1 => have h1 := lt_ (hn2 1 (by decide)) g1; (f1k h1).below hb), (fun g2 => have h2 := lt_ (hn2 2 (by decide)) g2; f2 h2), (fun g3 => have h3 := lt_ (hn2 3 (by decide)) g3; f3 h3), (fun g3 => have h3 := lt_ (hn2 3 (by decide)) g3; f3m h3), (fun g3 => have h3 := lt_ (hn2 3 (by decide)) g3; (f3k h3).below hb), (fun g4 => rfl), (fun g4 => ⟨hB.size, by simp⟩), (fun g4 g1 => have h1 := lt_ (hn2 1 (by decide)) g1; .inr (f1k h1).1), (fun g4 g3 => have h3 := lt_ (hn2 3 (by decide)) g3; .inr (f3k h3).1), (fun g4 g6 => have h6 := lt_ (hn2 6 (by decide)) g6; RowAt.new w _ _), (fun g5 => have h5 := lt_ (hn2 5 (by decide)) g5; f5 h5), (fun g5 => have h5 := lt_ (hn2 5 (by decide)) g5; ⟨(f5a h5).1, Nat.lt_of_lt_of_le (f5a h5).2 hb.size⟩), (fun g5 g1 => have h5 := lt_ (hn2 5 (by decide)) g5; have h1 := lt_ (hn2 1 (by decide)) g1; f5b h5 h1), (fun g5 g3 => have h5 := lt_ (hn2 5 (by decide)) g5; have h3 := lt_ (hn2 3 (by decide)) g3; f5c h5 h3), (fun g5 g7 => have h5 := lt_ (hn2 5 (by decide)) g5; have h7 := lt_ (hn2 7 (by decide)) g7; (f5r h5 h7).below hb), (fun g4 g5 => have h5 := lt_ (hn2 5 (by decide)) g5; Nat.ne_of_gt (f5a h5).2), (fun g6 g4 => have h6 := lt_ (hn2 6 (by decide)) g6; nope h6 u6), (fun g7 g5 => have h7 := lt_ (hn2 7 (by decide)) g7; have h5 := lt_ (hn2 5 (by decide)) g5; (f7 h7 h5).below hb)⟩)
    refine OnceFrom.cons (fun L b w K hI hi hon hup hK => ?_) ?_
    · obtain ⟨xs, hbe, x19, x20, x21, x22, x7, x8, cp, cq, bp, bq, g7, g8, up, uq, hxs, hB, hF⟩ := hI
      subst hxs
      have u7 : L 7 = false := hup 7 (mem_of_elem (by kernel_rfl))
      have HB := hide hB
      have HF := hide hF
      obtain ⟨f0, f1, f1m, f1k, f2, f3, f3m, f3k, f4, f4a, f4b, f4c, f4r, f5, f5a, f5b, f5c, f5r, f45, f6, f7⟩ := hF
      have HBE := hide hbe
      clear hB hbe f0 f1 f1m f1k f2 f3 f3m f3k f4 f4a f4b f4c f4r f5 f5a f5b f5c f5r f45 f6 f7
      rw [if_pos (by rfl)]
      go_simp
      obtain ⟨f0, f1, f1m, f1k, f2, f3, f3m, f3k, f4, f4a, f4b, f4c, f4r, f5, f5a, f5b, f5c, f5r, f45, f6, f7⟩ := HF.out
      have hB := HB.out
      have hb : Below w.heap.size w (w.alloc (.cells #[.slice none 0 0, .slice none 0 0, .slice none 0 0, .slice none 0 0] 32)) := (Below.refl _ _).alloc (Nat.le_refl _) _
      refine hK.out _ _ (fun L2 hi2 hn2 => ⟨[x19, x20, x21, x22, x7, (.pointer (some ⟨w.heap.size, 0, none⟩))], put_in HBE.out hn rfl 5 _ rfl rfl, x19, x20, x21, x22, x7, (.pointer (some ⟨w.heap.size, 0, none⟩)), cp, cq, bp, bq, g7, w.heap.size, up, uq, rfl, (hB.trans (hb.mono hB.size)), (fun g0 => have h0 := lt_ (hn2 0 (by decide)) g0; f0 h0), (fun g1 => have h1 := lt_ (hn2 1 (by decide)) g1; f1 h1), (fun g1 => have h1 := lt_ (hn2 1 (by decide)) g1; f1m h1), (fun g1 => have h1 := lt_ (hn2 1 (by decide)) g1; (f1k h1).below hb), (fun g2 => have h2 := lt_ (hn2 2 (by decide)) g2; f2 h2), (fun g3 => have h3 := lt_ (hn2 3 (by decide)) g3; f3 h3), (fun g3 => have h3 := lt_ (hn2 3 (by decide)) g3; f3m h3), (fun g3 => have h3 := lt_ (hn2 3 (by decide)) g3; (f3k h3).below hb), (fun g4 => have h4 := lt_ (hn2 4 (by decide)) g4; f4 h4), (fun g4 => have h4 := lt_ (hn2 4 (by decide)) g4; ⟨(f4a h4).1, Nat.lt_of_lt_of_le (f4a h4).2 hb.size⟩), (fun g4 g1 => have h4 := lt_ (hn2 4 (by decide)) g4; have h1 := lt_ (hn2 1 (by decide)) g1; f4b h4 h1), (fun g4 g3 => have h4 := lt_ (hn2 4 (by decide)) g4; have h3 := lt_ (hn2 3 (by decide)) g3; f4c h4 h3), (fun g4 g6 => have h4 := lt_ (hn2 4 (by decide)) g4; have h6 := lt_ (hn2 6 (by decide)) g6; (f4r h4 h6).below hb), (fun g5 => rfl), (fun g5 => ⟨hB.size, by simp⟩), (fun g5 g1 => have h1 := lt_ (hn2 1 (by decide)) g1; .inr (f1k h1).1), (fun g5 g3 => have h3 := lt_ (hn2 3 (by decide)) g3; .inr (f3k h3).1), (fun g5 g7 => have h7 := lt_ (hn2 7 (by decide)) g7; RowAt.new w _ _), (fun g4 g5 => have h4 := lt_ (hn2 4 (by decide)) g4; Nat.ne_of_lt (f4a h4).2), (fun g6 g4 => have h6 := lt_ (hn2 6 (by decide)) g6; have h4 := lt_ (hn2 4 (by decide)) g4; (f6 h6 h4).below hb), (fun g7 g5 => have h7 := lt_ (hn2 7 (by decide)) g7; nope h7 u7)⟩)
    refine OnceFrom.cons (fun L b w K hI hi hon hup hK => ?_) ?_
    · obtain ⟨xs, hbe, x19, x20, x21, x22, x7, x8, cp, cq, bp, bq, g7, g8, up, uq, hxs, hB, hF⟩ := hI
      subst hxs
      have d4 : L 4 = true := hon 4 (mem_of_elem (by kernel_rfl))
      have d1 : L 1 = true := hon 1 (mem_of_elem (by kernel_rfl))
      have HB := hide hB
      have HF := hide hF
      obtain ⟨f0, f1, f1m, f1k, f2, f3, f3m, f3k, f4, f4a, f4b, f4c, f4r, f5, f5a, f5b, f5c, f5r, f45, f6, f7⟩ := hF
      have e8 := f4 d4
      have e5 := f1 d1
      obtain ⟨va0, va1, va2, va3, vn0, vn1, vn2, vn3, vc0, vc1, vc2, vc3, hv⟩ := (f1m d1).form
      injection hv with hv
      subst e8
      subst e5
      subst hv
      have R8 := f4r d4 hi
      obtain ⟨q0, q1, q2, q3⟩ := row4 R8
      have ql := R8.lt
      have p0 := R8.frozen 0
      have p1 := R8.frozen 1
      have p2 := R8.frozen 2
      have p3 := R8.frozen 3
      replace R8 := hide R8
      have hT7 : b.tmps[7]? = some (.pointer (some ⟨g7, 0, none⟩)) := by rw [hbe]; exact puts_get_in _ _ _ hn hs (i := 4) rfl rfl
      have hT20 : b.tmps[20]? = some (.agg #[.slice va0 vn0 vc0, .slice va1 vn1 vc1, .slice va2 vn2 vc2, .slice va3 vn3 vc3]) := by rw [hbe]; exact puts_get_in _ _ _ hn hs (i := 1) rfl rfl
      have HBE := hide hbe
      clear hB hbe f0 f1 f1m f1k f2 f3 f3m f3k f4 f4a f4b f4c f4r f5 f5a f5b f5c f5r f45 f6 f7
      rw [if_pos (by rfl)]
      go_simp
      obtain ⟨f0, f1, f1m, f1k, f2, f3, f3m, f3k, f4, f4a, f4b, f4c, f4r, f5, f5a, f5b, f5c, f5r, f45, f6, f7⟩ := HF.out
      have hB := HB.out
      have HL := laidM4_of (n := w0.heap.size) (v0 := .slice va0 vn0 vc0) (v1 := .slice va1 vn1 vc1) (v2 := .slice va2 vn2 vc2) (v3 := .slice va3 vn3 vc3) R8.out (f4a d4).1
      refine hK.out _ _ (fun L2 hi2 hn2 => ⟨[x19, (.agg #[.slice va0 vn0 vc0, .slice va1 vn1 vc1, .slice va2 vn2 vc2, .slice va3 vn3 vc3]), x21, x22, (.pointer (some ⟨g7, 0, none⟩)), x8], HBE.out, x19, (.agg #[.slice va0 vn0 vc0, .slice va1 vn1 vc1, .slice va2 vn2 vc2, .slice va3 vn3 vc3]), x21, x22, (.pointer (some ⟨g7, 0, none⟩)), x8, #[.slice va0 vn0 vc0, .slice va1 vn1 vc1, .slice va2 vn2 vc2, .slice va3 vn3 vc3], cq, bp, bq, g7, g8, up, uq, rfl, (hB.trans HL.2.2), (fun g0 => have h0 := lt_ (hn2 0 (by decide)) g0; f0 h0), (fun g1 => have h1 := lt_ (hn2 1 (by decide)) g1; rfl), (fun g1 => have h1 := lt_ (hn2 1 (by decide)) g1; f1m h1), (fun g1 => have h1 := lt_ (hn2 1 (by decide)) g1; (f1k h1).store (f4b d4 h1) HL.2.1 HL.2.2.size), (fun g2 => have h2 := lt_ (hn2 2 (by decide)) g2; f2 h2), (fun g3 => have h3 := lt_ (hn2 3 (by decide)) g3; f3 h3), (fun g3 => have h3 := lt_ (hn2 3 (by decide)) g3; f3m h3), (fun g3 => have h3 := lt_ (hn2 3 (by decide)) g3; (f3k h3).store (f4c d4 h3) HL.2.1 HL.2.2.size), (fun g4 => have h4 := lt_ (hn2 4 (by decide)) g4; rfl), (fun g4 => have h4 := lt_ (hn2 4 (by decide)) g4; ⟨(f4a h4).1, Nat.lt_of_lt_of_le (f4a h4).2 HL.2.2.size⟩), (fun g4 g1 => have h4 := lt_ (hn2 4 (by decide)) g4; have h1 := lt_ (hn2 1 (by decide)) g1; f4b h4 h1), (fun g4 g3 => have h4 := lt_ (hn2 4 (by decide)) g4; have h3 := lt_ (hn2 3 (by decide)) g3; f4c h4 h3), (fun g4 g6 => nope hi2 g6), (fun g5 => have h5 := lt_ (hn2 5 (by decide)) g5; f5 h5), (fun g5 => have h5 := lt_ (hn2 5 (by decide)) g5; ⟨(f5a h5).1, Nat.lt_of_lt_of_le (f5a h5).2 HL.2.2.size⟩), (fun g5 g1 => have h5 := lt_ (hn2 5 (by decide)) g5; have h1 := lt_ (hn2 1 (by decide)) g1; f5b h5 h1), (fun g5 g3 => have h5 := lt_ (hn2 5 (by decide)) g5; have h3 := lt_ (hn2 3 (by decide)) g3; f5c h5 h3), (fun g5 g7 => have h5 := lt_ (hn2 5 (by decide)) g5; have h7 := lt_ (hn2 7 (by decide)) g7; (HL.2.1 _ (Ne.symm (f45 d4 h5))).trans (f5r h5 h7)), (fun g4 g5 => have h4 := lt_ (hn2 4 (by decide)) g4; have h5 := lt_ (hn2 5 (by decide)) g5; f45 h4 h5), (fun g6 g4 => have h4 := lt_ (hn2 4 (by decide)) g4; HL.1), (fun g7 g5 => have h7 := lt_ (hn2 7 (by decide)) g7; have h5 := lt_ (hn2 5 (by decide)) g5; (HL.2.1 _ (Ne.symm (f45 d4 h5))).trans (f7 h7 h5))⟩)
    refine OnceFrom.cons (fun L b w K hI hi hon hup hK => ?_) ?_
    · obtain ⟨xs, hbe, x19, x20, x21, x22, x7, x8, cp, cq, bp, bq, g7, g8, up, uq, hxs, hB, hF⟩ := hI
      subst hxs
      have d5 : L 5 = true := hon 5 (mem_of_elem (by kernel_rfl))
      have d3 : L 3 = true := hon 3 (mem_of_elem (by kernel_rfl))
      have HB := hide hB
      have HF := hide hF
      obtain ⟨f0, f1, f1m, f1k, f2, f3, f3m, f3k, f4, f4a, f4b, f4c, f4r, f5, f5a, f5b, f5c, f5r, f45, f6, f7⟩ := hF
      have e8 := f5 d5
      have e5 := f3 d3
      obtain ⟨va0, va1, va2, va3, vn0, vn1, vn2, vn3, vc0, vc1, vc2, vc3, hv⟩ := (f3m d3).form
      injection hv with hv
      subst e8
      subst e5
      subst hv
      have R8 := f5r d5 hi
      obtain ⟨q0, q1, q2, q3⟩ := row4 R8
      have ql := R8.lt
      have p0 := R8.frozen 0
      have p1 := R8.frozen 1
      have p2 := R8.frozen 2
      have p3 := R8.frozen 3
      replace R8 := hide R8
      have hT8 : b.tmps[8]? = some (.pointer (some ⟨g8, 0, none⟩)) := by rw [hbe]; exact puts_get_in _ _ _ hn hs (i := 5) rfl rfl
      have hT22 : b.tmps[22]? = some (.agg #[.slice va0 vn0 vc0, .slice va1 vn1 vc1, .slice va2 vn2 vc2, .slice va3 vn3 vc3]) := by rw [hbe]; exact puts_get_in _ _ _ hn hs (i := 3) rfl rfl
      have HBE := hide hbe
      clear hB hbe f0 f1 f1m f1k f2 f3 f3m f3k f4 f4a f4b f4c f4r f5 f5a f5b f5c f5r f45 f6 f7
      rw [if_pos (by rfl)]
      go_simp
      obtain ⟨f0, f1, f1m, f1k, f2, f3, f3m, f3k, f4, f4a, f4b, f4c, f4r, f5, f5a, f5b, f5c, f5r, f45, f6, f7⟩ := HF.out
      have hB := HB.out
      have HL := laidM4_of (n := w0.heap.size) (v0 := .slice va0 vn0 vc0) (v1 := .slice va1 vn1 vc1) (v2 := .slice va2 vn2 vc2) (v3 := .slice va3 vn3 vc3) R8.out (f5a d5).1
      refine hK.out _ _ (fun L2 hi2 hn2 => ⟨[x19, x20, x21, (.agg #[.slice va0 vn0 vc0, .slice va1 vn1 vc1, .slice va2 vn2 vc2, .slice va3 vn3 vc3]), x7, (.pointer (some ⟨g8, 0, none⟩))], HBE.out, x19, x20, x21, (.agg #[.slice va0 vn0 vc0, .slice va1 vn1 vc1, .slice va2 vn2 vc2, .slice va3 vn3 vc3]), x7, (.pointer (some ⟨g8, 0, none⟩)), cp, #[.slice va0 vn0 vc0, .slice va1 vn1 vc1, .slice va2 vn2 vc2, .slice va3 vn3 vc3], bp, bq, g7, g8, up, uq, rfl, (hB.trans HL.2.2), (fun g0 => have h0 := lt_ (hn2 0 (by decide)) g0; f0 h0), (fun g1 => have h1 := lt_ (hn2 1 (by decide)) g1; f1 h1), (fun g1 => have h1 := lt_ (hn2 1 (by decide)) g1; f1m h1), (fun g1 => have h1 := lt_ (hn2 1 (by decide)) g1; (f1k h1).store (f5b d5 h1) HL.2.1 HL.2.2.size), (fun g2 => have h2 := lt_ (hn2 2 (by decide)) g2; f2 h2), (fun g3 => have h3 := lt_ (hn2 3 (by decide)) g3; rfl), (fun g3 => have h3 := lt_ (hn2 3 (by decide)) g3; f3m h3), (fun g3 => have h3 := lt_ (hn2 3 (by decide)) g3; (f3k h3).store (f5c d5 h3) HL.2.1 HL.2.2.size), (fun g4 => have h4 := lt_ (hn2 4 (by decide)) g4; f4 h4), (fun g4 => have h4 := lt_ (hn2 4 (by decide)) g4; ⟨(f4a h4).1, Nat.lt_of_lt_of_le (f4a h4).2 HL.2.2.size⟩), (fun g4 g1 => have h4 := lt_ (hn2 4 (by decide)) g4; have h1 := lt_ (hn2 1 (by decide)) g1; f4b h4 h1), (fun g4 g3 => have h4 := lt_ (hn2 4 (by decide)) g4; have h3 := lt_ (hn2 3 (by decide)) g3; f4c h4 h3), (fun g4 g6 => have h4 := lt_ (hn2 4 (by decide)) g4; have h6 := lt_ (hn2 6 (by decide)) g6; (HL.2.1 _ (f45 h4 d5)).trans (f4r h4 h6)), (fun g5 => have h5 := lt_ (hn2 5 (by decide)) g5; rfl), (fun g5 => have h5 := lt_ (hn2 5 (by decide)) g5; ⟨(f5a h5).1, Nat.lt_of_lt_of_le (f5a h5).2 HL.2.2.size⟩), (fun g5 g1 => have h5 := lt_ (hn2 5 (by decide)) g5; have h1 := lt_ (hn2 1 (by decide)) g1; f5b h5 h1), (fun g5 g3 => have h5 := lt_ (hn2 5 (by decide)) g5; have h3 := lt_ (hn2 3 (by decide)) g3; f5c h5 h3), (fun g5 g7 => nope hi2 g7), (fun g4 g5 => have h4 := lt_ (hn2 4 (by decide)) g4; have h5 := lt_ (hn2 5 (by decide)) g5; f45 h4 h5), (fun g6 g4 => have h6 := lt_ (hn2 6 (by decide)) g6; have h4 := lt_ (hn2 4 (by decide)) g4; (HL.2.1 _ (f45 h4 d5)).trans (f6 h6 h4)), (fun g7 g5 => have h5 := lt_ (hn2 5 (by decide)) g5; HL.1)⟩)
    exact trivial
  · intro L xs w hL hR
    obtain ⟨x19, x20, x21, x22, x7, x8, cp, cq, bp, bq, g7, g8, up, uq, hxs, hB, f0, f1, f1m, f1k, f2, f3, f3m, f3k, f4, f4a, f4b, f4c, f4r, f5, f5a, f5b, f5c, f5r, f45, f6, f7⟩ := hR
    subst hxs
    have d0 : L 0 = true := hL 0 (by decide)
    have d1 : L 1 = true := hL 1 (by decide)
    have d2 : L 2 = true := hL 2 (by decide)
    have d3 : L 3 = true := hL 3 (by decide)
    have d4 : L 4 = true := hL 4 (by decide)
    have d5 : L 5 = true := hL 5 (by decide)
    have d6 : L 6 = true := hL 6 (by decide)
    have d7 : L 7 = true := hL 7 (by decide)
    have e4 := f4 d4
    subst e4
    have e5 := f5 d5
    subst e5
    refine hQ x19 x20 x21 x22 cp cq g7 g8 w hB (f6 d6 d4) (f7 d7 d5) (((f1m d1).other (f1k d1).1 (f1k d1).2).up (Nat.zero_le _)) (((f3m d3).other (f3k d3).1 (f3k d3).2).up (Nat.zero_le _))
set_option maxRecDepth 100000 in
set_option maxHeartbeats 16000000 in
theorem Tells_walk (xa0 xa1 xa2 xa3 : Option Addr) (xn0 xn1 xn2 xn3 xc0 xc1 xc2 xc3 : Nat) (ts : List Hm) (m0 : Mon) (ya0 ya1 ya2 ya3 : Option Addr) (yn0 yn1 yn2 yn3 yc0 yc1 yc2 yc3 : Nat) (us : List Hm) (p0 : Mon) (A : Option Addr) (c n : Nat) (l : List Wt) (W : World)
    (hx0 : MonX W W.heap.size xa0 xa1 xa2 xa3 xn0 xn1 xn2 xn3 ts m0) (hcx0 : xn0 ≤ xc0 ∧ xc0 ≤ 9223372036854775807) (hcx1 : xn1 ≤ xc1 ∧ xc1 ≤ 9223372036854775807) (hcx2 : xn2 ≤ xc2 ∧ xc2 ≤ 9223372036854775807) (hcx3 : xn3 ≤ xc3 ∧ xc3 ≤ 9223372036854775807) (hcapx : ∀ t ∈ ts, t.q.length ≤ t.c ∧ t.c ≤ 9223372036854775807)
    (hy0 : MonX W W.heap.size ya0 ya1 ya2 ya3 yn0 yn1 yn2 yn3 us p0) (hcy0 : yn0 ≤ yc0 ∧ yc0 ≤ 9223372036854775807) (hcy1 : yn1 ≤ yc1 ∧ yc1 ≤ 9223372036854775807) (hcy2 : yn2 ≤ yc2 ∧ yc2 ≤ 9223372036854775807) (hcy3 : yn3 ≤ yc3 ∧ yc3 ≤ 9223372036854775807) (hcapy : ∀ t ∈ us, t.q.length ≤ t.c ∧ t.c ≤ 9223372036854775807)
    (hl : Rd W W.heap.size 4 A n (Cs encX l)) (hx : l.length = n) (hn : n ≤ 9223372036854775807) (hU : ∀ e ∈ l, U64 e.2.2.2) :
    Calls Try.prog 5 #[.agg #[.slice xa0 xn0 xc0, .slice xa1 xn1 xc1, .slice xa2 xn2 xc2, .slice xa3 xn3 xc3], .agg #[.slice ya0 yn0 yc0, .slice ya1 yn1 yc1, .slice ya2 yn2 yc2, .slice ya3 yn3 yc3], .slice A n c] W fun e W' => e = .returned (.bool true) ∧ Below W.heap.size W W' := by
  have HX := hide hl
  have HLX := hide hx
  have HU := hide hU
  have AX := hide (show ArgM W W.heap.size #[.slice xa0 xn0 xc0, .slice xa1 xn1 xc1, .slice xa2 xn2 xc2, .slice xa3 xn3 xc3] m0 from ⟨_, _, _, _, _, _, _, _, _, _, _, _, ts, rfl, hx0, hcx0, hcx1, hcx2, hcx3, hcapx⟩)
  have AY := hide (show ArgM W W.heap.size #[.slice ya0 yn0 yc0, .slice ya1 yn1 yc1, .slice ya2 yn2 yc2, .slice ya3 yn3 yc3] p0 from ⟨_, _, _, _, _, _, _, _, _, _, _, _, us, rfl, hy0, hcy0, hcy1, hcy2, hcy3, hcapy⟩)
  have hb1 : Below W.heap.size W (W.alloc (.cells #[.slice xa0 xn0 xc0, .slice xa1 xn1 xc1, .slice xa2 xn2 xc2, .slice xa3 xn3 xc3] 32)) := (Below.refl _ _).alloc (Nat.le_refl _) _
  have hb2 : Below (W.alloc (.cells #[.slice xa0 xn0 xc0, .slice xa1 xn1 xc1, .slice xa2 xn2 xc2, .slice xa3 xn3 xc3] 32)).heap.size (W.alloc (.cells #[.slice xa0 xn0 xc0, .slice xa1 xn1 xc1, .slice xa2 xn2 xc2, .slice xa3 xn3 xc3] 32)) ((W.alloc (.cells #[.slice xa0 xn0 xc0, .slice xa1 xn1 xc1, .slice xa2 xn2 xc2, .slice xa3 xn3 xc3] 32)).alloc (.cells #[.slice ya0 yn0 yc0, .slice ya1 yn1 yc1, .slice ya2 yn2 yc2, .slice ya3 yn3 yc3] 32)) := (Below.refl _ _).alloc (Nat.le_refl _) _
  have R3 := hide ((RowAt.new W 32 #[.slice xa0 xn0 xc0, .slice xa1 xn1 xc1, .slice xa2 xn2 xc2, .slice xa3 xn3 xc3]).below hb2)
  have R4 := hide (show RowAt ((W.alloc (.cells #[.slice xa0 xn0 xc0, .slice xa1 xn1 xc1, .slice xa2 xn2 xc2, .slice xa3 xn3 xc3] 32)).alloc (.cells #[.slice ya0 yn0 yc0, .slice ya1 yn1 yc1, .slice ya2 yn2 yc2, .slice ya3 yn3 yc3] 32)) (W.heap.size + 1) 32 #[.slice ya0 yn0 yc0, .slice ya1 yn1 yc1, .slice ya2 yn2 yc2, .slice ya3 yn3 yc3] from by have h := RowAt.new (W.alloc (.cells #[.slice xa0 xn0 xc0, .slice xa1 xn1 xc1, .slice xa2 xn2 xc2, .slice xa3 xn3 xc3] 32)) 32 #[.slice ya0 yn0 yc0, .slice ya1 yn1 yc1, .slice ya2 yn2 yc2, .slice ya3 yn3 yc3]; simpa using h)
  have HB := hide (hb1.trans (hb2.mono hb1.size))
  clear hl hx hU hb1 hb2 hx0 hy0 hcx0 hcx1 hcx2 hcx3 hcy0 hcy1 hcy2 hcy3 hcapx hcapy
  go_enter Try.func5, Try.ntmps5
  go_wp2_with fail
  generalize ((W.alloc (.cells #[.slice xa0 xn0 xc0, .slice xa1 xn1 xc1, .slice xa2 xn2 xc2, .slice xa3 xn3 xc3] 32)).alloc (.cells #[.slice ya0 yn0 yc0, .slice ya1 yn1 yc1, .slice ya2 yn2 yc2, .slice ya3 yn3 yc3] 32)) = w1 at *
  with_reducible refine (wakes_any w1).mono ?_
  rintro e w2 ⟨rfl, hb⟩
  replace R3 := hide (R3.out.below hb)
  replace R4 := hide (R4.out.below hb)
  replace HB := hide (HB.out.trans (hb.mono HB.out.size))
  clear hb
  go_upto_region 3 with (fail)
  refine tl_r3 R3.out R4.out (AX.out.below HB.out) (AY.out.below HB.out) HB.out.size _ _ _ (by simp) rfl rfl _ (by kernel_rfl) (fun y19 y20 y21 y22 cp cq g7 g8 w3 hb r7 r8 m7 m8 => ?_)
  simp only [puts_cons, zC, zN, puts_nil, yZ, yS]
  obtain ⟨ua0, ua1, ua2, ua3, un0, un1, un2, un3, uc0, uc1, uc2, uc3, hv7⟩ := m7.form
  obtain ⟨va0, va1, va2, va3, vn0, vn1, vn2, vn3, vc0, vc1, vc2, vc3, hv8⟩ := m8.form
  injection hv7 with hv7
  injection hv8 with hv8
  subst hv7 hv8
  replace R3 := hide (R3.out.below hb)
  replace R4 := hide (R4.out.below hb)
  replace HB := hide (HB.out.trans (hb.mono HB.out.size))
  have R7 := hide r7
  have R8 := hide r8
  have M7 := hide m7
  have M8 := hide m8
  have HF7 := hide (cut_fit2 m0)
  have HF8 := hide (cut_fit2 p0)
  clear hb r7 r8 m7 m8
  generalize hcm : cutMo m0 = m at *
  have HCM := hide hcm
  clear hcm
  generalize cutMo p0 = p at *
  have HSS := hide (show sameM m m = true from sameM_self _)
  obtain ⟨sb, hsb⟩ : ∃ b, sameM m p = b := ⟨_, rfl⟩
  have HSB := hide hsb
  obtain ⟨ok, hok⟩ : ∃ b, m.ok = b := ⟨_, rfl⟩
  have HOK := hide hok
  clear hsb hok
  obtain ⟨s0, s1, s2, s3⟩ := row4 R7.out
  have sl := R7.out.lt
  go_wp2_with fail
  with_reducible refine (vrRight M7.out HF7.out ok HOK.out).mono ?_
  rintro e w4 ⟨rfl, hb⟩
  replace R3 := hide (R3.out.below hb)
  replace R7 := hide (R7.out.below hb)
  replace R8 := hide (R8.out.below hb)
  replace M7 := hide (M7.out.below hb)
  replace M8 := hide (M8.out.below hb)
  replace HB := hide (HB.out.trans (hb.mono HB.out.size))
  clear s0 s1 s2 s3 sl
  clear hb R4 AY
  obtain ⟨s0, s1, s2, s3⟩ := row4 R7.out
  have sl := R7.out.lt
  go_wp2_with fail
  with_reducible refine (vCheck M7.out HF7.out (errM m.ok) rfl).mono ?_
  rw [HOK.out]
  rintro e w5 ⟨rfl, hb⟩
  replace R3 := hide (R3.out.below hb)
  replace R7 := hide (R7.out.below hb)
  replace R8 := hide (R8.out.below hb)
  replace M7 := hide (M7.out.below hb)
  replace M8 := hide (M8.out.below hb)
  replace HB := hide (HB.out.trans (hb.mono HB.out.size))
  clear s0 s1 s2 s3 sl
  clear hb
  obtain ⟨s0, s1, s2, s3⟩ := row4 R7.out
  have sl := R7.out.lt
  obtain ⟨t0, t1, t2, t3⟩ := row4 R8.out
  have tl := R8.out.lt
  obtain ⟨q0, q1, q2, q3⟩ := row4 R3.out
  have ql := R3.out.lt
  go_upto_region 6 with (fail)
  go_cut [54] from 27 to 54 (fun s54 wx => s54 = .bool false ∧ Below w5.heap.size w5 wx)
  case first =>
    cases ok
    case false =>
      simp only [errM]
      refine wp_region_held_drew (S := fun wX => Below w5.heap.size w5 wX) (by kernel_rfl) (Below.refl _ _).drew (fun hHeld => ?_)
      clear hHeld
      have HQ := hide ((Below.refl w5.heap.size w5).drew)
      have hS0 := HQ.out
      (refine wpAnyH_take (i := 0) (v := ?_) rfl (by kernel_rfl) (by kernel_rfl) (by kernel_rfl) (fun _ _ _ h => h) (Or.inl ⟨by kernel_rfl, ?_⟩) (by assumption) ?_; rotate_left; (focus (intro w hSw; (try dsimp only at hSw); go_simp; first | done | with_reducible rfl)); (try simp only [Act.put, zE, zS, zZ, zB, yZ, yS]))
      (refine wpAnyH_take (i := 1) (v := ?_) rfl (by kernel_rfl) (by kernel_rfl) (by kernel_rfl) (fun _ _ _ h => h) (Or.inl ⟨by kernel_rfl, ?_⟩) (by assumption) ?_; rotate_left; (focus (intro w hSw; (try dsimp only at hSw); go_simp; first | done | with_reducible rfl)); (try simp only [Act.put, zE, zS, zZ, zB, yZ, yS]))
      (refine wpAnyH_take (i := 2) (v := ?_) rfl (by kernel_rfl) (by kernel_rfl) (by kernel_rfl) (fun _ _ _ h => h) (Or.inl ⟨by kernel_rfl, ?_⟩) (by assumption) ?_; rotate_left; (focus (intro w hSw; (try dsimp only at hSw); go_simp; first | done | with_reducible rfl)); (try simp only [Act.put, zE, zS, zZ, zB, yZ, yS]))
      (refine wpAnyH_take (i := 3) (v := ?_) rfl (by kernel_rfl) (by kernel_rfl) (by kernel_rfl) (fun _ _ _ h => h) (Or.inl ⟨by kernel_rfl, ?_⟩) (by assumption) ?_; rotate_left; (focus (intro w hSw; (try dsimp only at hSw); go_simp; first | done | with_reducible rfl)); (try simp only [Act.put, zE, zS, zZ, zB, yZ, yS]))
      (refine wpAnyH_take (i := 4) (v := ?_) rfl (by kernel_rfl) (by kernel_rfl) (by kernel_rfl) (fun _ _ _ h => h) (Or.inl ⟨by kernel_rfl, ?_⟩) (by assumption) ?_; rotate_left; (focus (intro w hSw; (try dsimp only at hSw); go_simp; first | done | with_reducible rfl)); (try simp only [Act.put, zE, zS, zZ, zB, yZ, yS]))
      (refine wpAnyH_take (i := 5) (v := ?_) rfl (by kernel_rfl) (by kernel_rfl) (by kernel_rfl) (fun _ _ _ h => h) (Or.inl ⟨by kernel_rfl, ?_⟩) (by assumption) ?_; rotate_left; (focus (intro w hSw; (try dsimp only at hSw); go_simp; first | done | with_reducible rfl)); (try simp only [Act.put, zE, zS, zZ, zB, yZ, yS]))
      (refine wpAnyH_take (i := 6) (v := ?_) rfl (by kernel_rfl) (by kernel_rfl) (by kernel_rfl) (fun _ _ _ h => h) (Or.inl ⟨by kernel_rfl, ?_⟩) (by assumption) ?_; rotate_left; (focus (intro w hSw; (try dsimp only at hSw); go_simp; first | done | with_reducible rfl)); (try simp only [Act.put, zE, zS, zZ, zB, yZ, yS]))
      (refine wpAnyH_take (i := 7) (v := ?_) rfl (by kernel_rfl) (by kernel_rfl) (by kernel_rfl) (fun _ _ _ h => h) (Or.inl ⟨by kernel_rfl, ?_⟩) (by assumption) ?_; rotate_left; (focus (intro w hSw; (try dsimp only at hSw); go_simp; first | done | with_reducible rfl)); (try simp only [Act.put, zE, zS, zZ, zB, yZ, yS]))
      (refine wpAnyH_take (i := 8) (v := ?_) rfl (by kernel_rfl) (by kernel_rfl) (by kernel_rfl) (fun _ _ _ h => h) (Or.inl ⟨by kernel_rfl, ?_⟩) (by assumption) ?_; rotate_left; (focus (intro w hSw; (try dsimp only at hSw); go_simp; first | done | with_reducible rfl)); (try simp only [Act.put, zE, zS, zZ, zB, yZ, yS]))
      (refine wpAnyH_take (i := 9) (v := ?_) rfl (by kernel_rfl) (by kernel_rfl) (by kernel_rfl) (fun _ _ _ h => h) (Or.inl ⟨by kernel_rfl, ?_⟩) (by assumption) ?_; rotate_left; (focus (intro w hSw; (try dsimp only at hSw); go_simp; first | done | with_reducible rfl)); (try simp only [Act.put, zE, zS, zZ, zB, yZ, yS]))
      (refine wpAnyH_take (i := 10) (v := ?_) rfl (by kernel_rfl) (by kernel_rfl) (by kernel_rfl) (fun _ _ _ h => h) (Or.inl ⟨by kernel_rfl, ?_⟩) (by assumption) ?_; rotate_left; (focus (intro w hSw; (try dsimp only at hSw); go_simp; first | done | with_reducible rfl)); (try simp only [Act.put, zE, zS, zZ, zB, yZ, yS]))
      (refine wpAnyH_take (i := 11) (v := ?_) rfl (by kernel_rfl) (by kernel_rfl) (by kernel_rfl) (fun _ _ _ h => h) (Or.inl ⟨by kernel_rfl, ?_⟩) (by assumption) ?_; rotate_left; (focus (intro w hSw; (try dsimp only at hSw); go_simp; first | done | with_reducible rfl)); (try simp only [Act.put, zE, zS, zZ, zB, yZ, yS]))
      (refine wpAnyH_take (i := 12) (v := ?_) rfl (by kernel_rfl) (by kernel_rfl) (by kernel_rfl) (fun _ _ _ h => h) (Or.inl ⟨by kernel_rfl, ?_⟩) (by assumption) ?_; rotate_left; (focus (intro w hSw; (try dsimp only at hSw); go_simp; first | done | with_reducible rfl)); (try simp only [Act.put, zE, zS, zZ, zB, yZ, yS]))
      (refine wpAnyH_take (i := 13) (v := ?_) rfl (by kernel_rfl) (by kernel_rfl) (by kernel_rfl) (fun _ _ _ h => h) (Or.inl ⟨by kernel_rfl, ?_⟩) (by assumption) ?_; rotate_left; (focus (intro w hSw; (try dsimp only at hSw); have kf0 := kept hSw s0; have kf1 := kept hSw s1; have kf2 := kept hSw s2; have kf3 := kept hSw s3; go_simp; first | done | with_reducible rfl)); (try simp only [Act.put, zE, zS, zZ, zB, yZ, yS]))
      (refine wpAnyH_take (i := 14) (v := ?_) rfl (by kernel_rfl) (by kernel_rfl) (by kernel_rfl) (fun _ _ _ h => h) (Or.inl ⟨by kernel_rfl, ?_⟩) (by assumption) ?_; rotate_left; (focus (intro w hSw; (try dsimp only at hSw); have kf0 := kept hSw t0; have kf1 := kept hSw t1; have kf2 := kept hSw t2; have kf3 := kept hSw t3; go_simp; first | done | with_reducible rfl)); (try simp only [Act.put, zE, zS, zZ, zB, yZ, yS]))
      (refine wpAnyH_take (i := 16) (v := ?_) rfl (by kernel_rfl) (by kernel_rfl) (by kernel_rfl) (fun _ _ _ h => h) (Or.inl ⟨by kernel_rfl, ?_⟩) (by assumption) ?_; rotate_left; (focus (intro w hSw; (try dsimp only at hSw); have kf0 := kept hSw s0; have kf1 := kept hSw s1; have kf2 := kept hSw s2; have kf3 := kept hSw s3; go_simp; first | done | with_reducible rfl)); (try simp only [Act.put, zE, zS, zZ, zB, yZ, yS]))
      (refine wpAnyH_take (i := 17) (v := ?_) rfl (by kernel_rfl) (by kernel_rfl) (by kernel_rfl) (fun _ _ _ h => h) (Or.inl ⟨by kernel_rfl, ?_⟩) (by assumption) ?_; rotate_left; (focus (intro w hSw; (try dsimp only at hSw); have kf0 := kept hSw t0; have kf1 := kept hSw t1; have kf2 := kept hSw t2; have kf3 := kept hSw t3; go_simp; first | done | with_reducible rfl)); (try simp only [Act.put, zE, zS, zZ, zB, yZ, yS]))
      refine wpAnyH_ready (rs := [15]) (by kernel_rfl) (by simp) ?_
      refine (AllReadyH.cons rfl (fun K1 hK1 => ?_) AllReadyH.nil)
      rw [if_pos (by kernel_rfl)]
      go_simp
      with_reducible refine (vSame (M7.out.below HQ.out) (M8.out.below HQ.out) HF7.out HF8.out sb HSB.out).mono ?_
      rintro e v1 ⟨rfl, hb⟩
      replace HQ := hide (HQ.out.trans (hb.mono HQ.out.size))
      clear hb
      refine hK1.out _ _ HQ.out (fun _ => ?_)
      clear hK1 K1 hS0
      have hS0 := HQ.out
      (try simp only [Act.put, zE, zS, zZ, zB, yZ, yS])
      refine wpAnyH_ready (rs := [18]) (by kernel_rfl) (by simp) ?_
      refine (AllReadyH.cons rfl (fun K2 hK2 => ?_) AllReadyH.nil)
      rw [if_pos (by kernel_rfl)]
      go_simp
      with_reducible refine (vrSame2 (M7.out.below HQ.out) (M8.out.below HQ.out) HF7.out HF8.out sb HSB.out).mono ?_
      rintro e v2 ⟨rfl, hb⟩
      replace HQ := hide (HQ.out.trans (hb.mono HQ.out.size))
      clear hb
      refine hK2.out _ _ HQ.out (fun _ => ?_)
      clear hK2 K2 hS0
      have hS0 := HQ.out
      (try simp only [Act.put, zE, zS, zZ, zB, yZ, yS])
      (refine wpAnyH_take (i := 19) (v := ?_) rfl (by kernel_rfl) (by kernel_rfl) (by kernel_rfl) (fun _ _ _ h => h) (Or.inl ⟨by kernel_rfl, ?_⟩) (by assumption) ?_; rotate_left; (focus (intro w hSw; (try dsimp only at hSw); go_simp; first | done | with_reducible rfl)); (try simp only [Act.put, zE, zS, zZ, zB, yZ, yS]))
      (refine wpAnyH_take (i := 20) (v := ?_) rfl (by kernel_rfl) (by kernel_rfl) (by kernel_rfl) (fun _ _ _ h => h) (Or.inl ⟨by kernel_rfl, ?_⟩) (by assumption) ?_; rotate_left; (focus (intro w hSw; (try dsimp only at hSw); go_simp; first | done | with_reducible rfl)); (try simp only [Act.put, zE, zS, zZ, zB, yZ, yS]))
      (refine wpAnyH_take (i := 21) (v := ?_) rfl (by kernel_rfl) (by kernel_rfl) (by kernel_rfl) (fun _ _ _ h => h) (Or.inl ⟨by kernel_rfl, ?_⟩) (by assumption) ?_; rotate_left; (focus (intro w hSw; (try dsimp only at hSw); go_simp; first | done | with_reducible rfl)); (try simp only [Act.put, zE, zS, zZ, zB, yZ, yS]))
      (refine wpAnyH_take (i := 22) (v := ?_) rfl (by kernel_rfl) (by kernel_rfl) (by kernel_rfl) (fun _ _ _ h => h) (Or.inl ⟨by kernel_rfl, ?_⟩) (by assumption) ?_; rotate_left; (focus (intro w hSw; (try dsimp only at hSw); have kf0 := kept hSw s0; have kf1 := kept hSw s1; have kf2 := kept hSw s2; have kf3 := kept hSw s3; go_simp; first | done | with_reducible rfl)); (try simp only [Act.put, zE, zS, zZ, zB, yZ, yS]))
      (refine wpAnyH_take (i := 23) (v := ?_) rfl (by kernel_rfl) (by kernel_rfl) (by kernel_rfl) (fun _ _ _ h => h) (Or.inl ⟨by kernel_rfl, ?_⟩) (by assumption) ?_; rotate_left; (focus (intro w hSw; (try dsimp only at hSw); have kf0 := kept hSw q0; have kf1 := kept hSw q1; have kf2 := kept hSw q2; have kf3 := kept hSw q3; go_simp; first | done | with_reducible rfl)); (try simp only [Act.put, zE, zS, zZ, zB, yZ, yS]))
      refine wpAnyH_ready (rs := [24]) (by kernel_rfl) (by simp) ?_
      refine (AllReadyH.cons rfl (fun K3 hK3 => ?_) AllReadyH.nil)
      rw [if_pos (by kernel_rfl)]
      go_simp
      with_reducible refine (vOwn (AX.out.below (HB.out.trans (HQ.out.mono HB.out.size))) (HB.out.trans (HQ.out.mono HB.out.size)).size).mono ?_
      rintro e v3 ⟨⟨vv, rfl, hm⟩, hb⟩
      rw [HCM.out] at hm
      have HM9 := hide hm
      clear hm
      replace HQ := hide (HQ.out.trans (hb.mono HQ.out.size))
      clear hb
      refine hK3.out _ _ HQ.out (fun _ => ?_)
      clear hK3 K3 hS0
      have hS0 := HQ.out
      (try simp only [Act.put, zE, zS, zZ, zB, yZ, yS])
      refine wpAnyH_ready (rs := [25]) (by kernel_rfl) (by simp) ?_
      refine (AllReadyH.cons rfl (fun K4 hK4 => ?_) AllReadyH.nil)
      rw [if_pos (by kernel_rfl)]
      go_simp
      with_reducible refine (vSame (M7.out.below HQ.out) HM9.out HF7.out HF7.out true HSS.out).mono ?_
      rintro e v4 ⟨rfl, hb⟩
      replace HQ := hide (HQ.out.trans (hb.mono HQ.out.size))
      clear hb
      refine hK4.out _ _ HQ.out (fun _ => ?_)
      clear hK4 K4 hS0
      have hS0 := HQ.out
      (try simp only [Act.put, zE, zS, zZ, zB, yZ, yS])
      (refine wpAnyH_take (i := 26) (v := ?_) rfl (by kernel_rfl) (by kernel_rfl) (by kernel_rfl) (fun _ _ _ h => h) (Or.inl ⟨by kernel_rfl, ?_⟩) (by assumption) ?_; rotate_left; (focus (intro w hSw; (try dsimp only at hSw); go_simp; first | done | with_reducible rfl)); (try simp only [Act.put, zE, zS, zZ, zB, yZ, yS]))
      (refine wpAnyH_take (i := 27) (v := ?_) rfl (by kernel_rfl) (by kernel_rfl) (by kernel_rfl) (fun _ _ _ h => h) (Or.inl ⟨by kernel_rfl, ?_⟩) (by assumption) ?_; rotate_left; (focus (intro w hSw; (try dsimp only at hSw); go_simp; first | done | with_reducible rfl)); (try simp only [Act.put, zE, zS, zZ, zB, yZ, yS]))
      clear hS0
      refine wpAnyH_done (by kernel_rfl) ?_ _
      go_wp2_with fail
      go_meet
      case rel => exact ⟨rfl, HQ.out⟩
    case true =>
      simp only [errM]
      refine wp_region_held_drew (S := fun wX => Below w5.heap.size w5 wX) (by kernel_rfl) (Below.refl _ _).drew (fun hHeld => ?_)
      clear hHeld
      have HQ := hide ((Below.refl w5.heap.size w5).drew)
      have hS0 := HQ.out
      (refine wpAnyH_take (i := 0) (v := ?_) rfl (by kernel_rfl) (by kernel_rfl) (by kernel_rfl) (fun _ _ _ h => h) (Or.inl ⟨by kernel_rfl, ?_⟩) (by assumption) ?_; rotate_left; (focus (intro w hSw; (try dsimp only at hSw); go_simp; first | done | with_reducible rfl)); (try simp only [Act.put, zE, zS, zZ, zB, yZ, yS]))
      (refine wpAnyH_take (i := 1) (v := ?_) rfl (by kernel_rfl) (by kernel_rfl) (by kernel_rfl) (fun _ _ _ h => h) (Or.inl ⟨by kernel_rfl, ?_⟩) (by assumption) ?_; rotate_left; (focus (intro w hSw; (try dsimp only at hSw); go_simp; first | done | with_reducible rfl)); (try simp only [Act.put, zE, zS, zZ, zB, yZ, yS]))
      (refine wpAnyH_take (i := 2) (v := ?_) rfl (by kernel_rfl) (by kernel_rfl) (by kernel_rfl) (fun _ _ _ h => h) (Or.inl ⟨by kernel_rfl, ?_⟩) (by assumption) ?_; rotate_left; (focus (intro w hSw; (try dsimp only at hSw); go_simp; first | done | with_reducible rfl)); (try simp only [Act.put, zE, zS, zZ, zB, yZ, yS]))
      (refine wpAnyH_take (i := 3) (v := ?_) rfl (by kernel_rfl) (by kernel_rfl) (by kernel_rfl) (fun _ _ _ h => h) (Or.inl ⟨by kernel_rfl, ?_⟩) (by assumption) ?_; rotate_left; (focus (intro w hSw; (try dsimp only at hSw); go_simp; first | done | with_reducible rfl)); (try simp only [Act.put, zE, zS, zZ, zB, yZ, yS]))
      (refine wpAnyH_take (i := 4) (v := ?_) rfl (by kernel_rfl) (by kernel_rfl) (by kernel_rfl) (fun _ _ _ h => h) (Or.inl ⟨by kernel_rfl, ?_⟩) (by assumption) ?_; rotate_left; (focus (intro w hSw; (try dsimp only at hSw); go_simp; first | done | with_reducible rfl)); (try simp only [Act.put, zE, zS, zZ, zB, yZ, yS]))
      (refine wpAnyH_take (i := 5) (v := ?_) rfl (by kernel_rfl) (by kernel_rfl) (by kernel_rfl) (fun _ _ _ h => h) (Or.inl ⟨by kernel_rfl, ?_⟩) (by assumption) ?_; rotate_left; (focus (intro w hSw; (try dsimp only at hSw); go_simp; first | done | with_reducible rfl)); (try simp only [Act.put, zE, zS, zZ, zB, yZ, yS]))
      (refine wpAnyH_take (i := 6) (v := ?_) rfl (by kernel_rfl) (by kernel_rfl) (by kernel_rfl) (fun _ _ _ h => h) (Or.inl ⟨by kernel_rfl, ?_⟩) (by assumption) ?_; rotate_left; (focus (intro w hSw; (try dsimp only at hSw); go_simp; first | done | with_reducible rfl)); (try simp only [Act.put, zE, zS, zZ, zB, yZ, yS]))
      (refine wpAnyH_take (i := 7) (v := ?_) rfl (by kernel_rfl) (by kernel_rfl) (by kernel_rfl) (fun _ _ _ h => h) (Or.inl ⟨by kernel_rfl, ?_⟩) (by assumption) ?_; rotate_left; (focus (intro w hSw; (try dsimp only at hSw); go_simp; first | done | with_reducible rfl)); (try simp only [Act.put, zE, zS, zZ, zB, yZ, yS]))
      (refine wpAnyH_take (i := 8) (v := undef) rfl (by kernel_rfl) (by kernel_rfl) (by kernel_rfl) (fun _ _ _ h => h) (Or.inr ⟨by kernel_rfl, rfl⟩) (by assumption) ?_; (try simp only [Act.put, zE, zS, zZ, zB, yZ, yS]))
      (refine wpAnyH_take (i := 9) (v := undef) rfl (by kernel_rfl) (by kernel_rfl) (by kernel_rfl) (fun _ _ _ h => h) (Or.inr ⟨by kernel_rfl, rfl⟩) (by assumption) ?_; (try simp only [Act.put, zE, zS, zZ, zB, yZ, yS]))
      (refine wpAnyH_take (i := 10) (v := ?_) rfl (by kernel_rfl) (by kernel_rfl) (by kernel_rfl) (fun _ _ _ h => h) (Or.inl ⟨by kernel_rfl, ?_⟩) (by assumption) ?_; rotate_left; (focus (intro w hSw; (try dsimp only at hSw); go_simp; first | done | with_reducible rfl)); (try simp only [Act.put, zE, zS, zZ, zB, yZ, yS]))
      (refine wpAnyH_take (i := 11) (v := ?_) rfl (by kernel_rfl) (by kernel_rfl) (by kernel_rfl) (fun _ _ _ h => h) (Or.inl ⟨by kernel_rfl, ?_⟩) (by assumption) ?_; rotate_left; (focus (intro w hSw; (try dsimp only at hSw); go_simp; first | done | with_reducible rfl)); (try simp only [Act.put, zE, zS, zZ, zB, yZ, yS]))
      (refine wpAnyH_take (i := 12) (v := ?_) rfl (by kernel_rfl) (by kernel_rfl) (by kernel_rfl) (fun _ _ _ h => h) (Or.inl ⟨by kernel_rfl, ?_⟩) (by assumption) ?_; rotate_left; (focus (intro w hSw; (try dsimp only at hSw); go_simp; first | done | with_reducible rfl)); (try simp only [Act.put, zE, zS, zZ, zB, yZ, yS]))
      (refine wpAnyH_take (i := 13) (v := ?_) rfl (by kernel_rfl) (by kernel_rfl) (by kernel_rfl) (fun _ _ _ h => h) (Or.inl ⟨by kernel_rfl, ?_⟩) (by assumption) ?_; rotate_left; (focus (intro w hSw; (try dsimp only at hSw); have kf0 := kept hSw s0; have kf1 := kept hSw s1; have kf2 := kept hSw s2; have kf3 := kept hSw s3; go_simp; first | done | with_reducible rfl)); (try simp only [Act.put, zE, zS, zZ, zB, yZ, yS]))
      (refine wpAnyH_take (i := 14) (v := ?_) rfl (by kernel_rfl) (by kernel_rfl) (by kernel_rfl) (fun _ _ _ h => h) (Or.inl ⟨by kernel_rfl, ?_⟩) (by assumption) ?_; rotate_left; (focus (intro w hSw; (try dsimp only at hSw); have kf0 := kept hSw t0; have kf1 := kept hSw t1; have kf2 := kept hSw t2; have kf3 := kept hSw t3; go_simp; first | done | with_reducible rfl)); (try simp only [Act.put, zE, zS, zZ, zB, yZ, yS]))
      (refine wpAnyH_take (i := 16) (v := ?_) rfl (by kernel_rfl) (by kernel_rfl) (by kernel_rfl) (fun _ _ _ h => h) (Or.inl ⟨by kernel_rfl, ?_⟩) (by assumption) ?_; rotate_left; (focus (intro w hSw; (try dsimp only at hSw); have kf0 := kept hSw s0; have kf1 := kept hSw s1; have kf2 := kept hSw s2; have kf3 := kept hSw s3; go_simp; first | done | with_reducible rfl)); (try simp only [Act.put, zE, zS, zZ, zB, yZ, yS]))
      (refine wpAnyH_take (i := 17) (v := ?_) rfl (by kernel_rfl) (by kernel_rfl) (by kernel_rfl) (fun _ _ _ h => h) (Or.inl ⟨by kernel_rfl, ?_⟩) (by assumption) ?_; rotate_left; (focus (intro w hSw; (try dsimp only at hSw); have kf0 := kept hSw t0; have kf1 := kept hSw t1; have kf2 := kept hSw t2; have kf3 := kept hSw t3; go_simp; first | done | with_reducible rfl)); (try simp only [Act.put, zE, zS, zZ, zB, yZ, yS]))
      refine wpAnyH_ready (rs := [15]) (by kernel_rfl) (by simp) ?_
      refine (AllReadyH.cons rfl (fun K1 hK1 => ?_) AllReadyH.nil)
      rw [if_pos (by kernel_rfl)]
      go_simp
      with_reducible refine (vSame (M7.out.below HQ.out) (M8.out.below HQ.out) HF7.out HF8.out sb HSB.out).mono ?_
      rintro e v1 ⟨rfl, hb⟩
      replace HQ := hide (HQ.out.trans (hb.mono HQ.out.size))
      clear hb
      refine hK1.out _ _ HQ.out (fun _ => ?_)
      clear hK1 K1 hS0
      have hS0 := HQ.out
      (try simp only [Act.put, zE, zS, zZ, zB, yZ, yS])
      refine wpAnyH_ready (rs := [18]) (by kernel_rfl) (by simp) ?_
      refine (AllReadyH.cons rfl (fun K2 hK2 => ?_) AllReadyH.nil)
      rw [if_pos (by kernel_rfl)]
      go_simp
      with_reducible refine (vrSame2 (M7.out.below HQ.out) (M8.out.below HQ.out) HF7.out HF8.out sb HSB.out).mono ?_
      rintro e v2 ⟨rfl, hb⟩
      replace HQ := hide (HQ.out.trans (hb.mono HQ.out.size))
      clear hb
      refine hK2.out _ _ HQ.out (fun _ => ?_)
      clear hK2 K2 hS0
      have hS0 := HQ.out
      (try simp only [Act.put, zE, zS, zZ, zB, yZ, yS])
      (refine wpAnyH_take (i := 19) (v := ?_) rfl (by kernel_rfl) (by kernel_rfl) (by kernel_rfl) (fun _ _ _ h => h) (Or.inl ⟨by kernel_rfl, ?_⟩) (by assumption) ?_; rotate_left; (focus (intro w hSw; (try dsimp only at hSw); go_simp; first | done | with_reducible rfl)); (try simp only [Act.put, zE, zS, zZ, zB, yZ, yS]))
      (refine wpAnyH_take (i := 20) (v := ?_) rfl (by kernel_rfl) (by kernel_rfl) (by kernel_rfl) (fun _ _ _ h => h) (Or.inl ⟨by kernel_rfl, ?_⟩) (by assumption) ?_; rotate_left; (focus (intro w hSw; (try dsimp only at hSw); go_simp; first | done | with_reducible rfl)); (try simp only [Act.put, zE, zS, zZ, zB, yZ, yS]))
      (refine wpAnyH_take (i := 21) (v := ?_) rfl (by kernel_rfl) (by kernel_rfl) (by kernel_rfl) (fun _ _ _ h => h) (Or.inl ⟨by kernel_rfl, ?_⟩) (by assumption) ?_; rotate_left; (focus (intro w hSw; (try dsimp only at hSw); go_simp; first | done | with_reducible rfl)); (try simp only [Act.put, zE, zS, zZ, zB, yZ, yS]))
      (refine wpAnyH_take (i := 22) (v := ?_) rfl (by kernel_rfl) (by kernel_rfl) (by kernel_rfl) (fun _ _ _ h => h) (Or.inl ⟨by kernel_rfl, ?_⟩) (by assumption) ?_; rotate_left; (focus (intro w hSw; (try dsimp only at hSw); have kf0 := kept hSw s0; have kf1 := kept hSw s1; have kf2 := kept hSw s2; have kf3 := kept hSw s3; go_simp; first | done | with_reducible rfl)); (try simp only [Act.put, zE, zS, zZ, zB, yZ, yS]))
      (refine wpAnyH_take (i := 23) (v := ?_) rfl (by kernel_rfl) (by kernel_rfl) (by kernel_rfl) (fun _ _ _ h => h) (Or.inl ⟨by kernel_rfl, ?_⟩) (by assumption) ?_; rotate_left; (focus (intro w hSw; (try dsimp only at hSw); have kf0 := kept hSw q0; have kf1 := kept hSw q1; have kf2 := kept hSw q2; have kf3 := kept hSw q3; go_simp; first | done | with_reducible rfl)); (try simp only [Act.put, zE, zS, zZ, zB, yZ, yS]))
      refine wpAnyH_ready (rs := [24]) (by kernel_rfl) (by simp) ?_
      refine (AllReadyH.cons rfl (fun K3 hK3 => ?_) AllReadyH.nil)
      rw [if_pos (by kernel_rfl)]
      go_simp
      with_reducible refine (vOwn (AX.out.below (HB.out.trans (HQ.out.mono HB.out.size))) (HB.out.trans (HQ.out.mono HB.out.size)).size).mono ?_
      rintro e v3 ⟨⟨vv, rfl, hm⟩, hb⟩
      rw [HCM.out] at hm
      have HM9 := hide hm
      clear hm
      replace HQ := hide (HQ.out.trans (hb.mono HQ.out.size))
      clear hb
      refine hK3.out _ _ HQ.out (fun _ => ?_)
      clear hK3 K3 hS0
      have hS0 := HQ.out
      (try simp only [Act.put, zE, zS, zZ, zB, yZ, yS])
      refine wpAnyH_ready (rs := [25]) (by kernel_rfl) (by simp) ?_
      refine (AllReadyH.cons rfl (fun K4 hK4 => ?_) AllReadyH.nil)
      rw [if_pos (by kernel_rfl)]
      go_simp
      with_reducible refine (vSame (M7.out.below HQ.out) HM9.out HF7.out HF7.out true HSS.out).mono ?_
      rintro e v4 ⟨rfl, hb⟩
      replace HQ := hide (HQ.out.trans (hb.mono HQ.out.size))
      clear hb
      refine hK4.out _ _ HQ.out (fun _ => ?_)
      clear hK4 K4 hS0
      have hS0 := HQ.out
      (try simp only [Act.put, zE, zS, zZ, zB, yZ, yS])
      (refine wpAnyH_take (i := 26) (v := ?_) rfl (by kernel_rfl) (by kernel_rfl) (by kernel_rfl) (fun _ _ _ h => h) (Or.inl ⟨by kernel_rfl, ?_⟩) (by assumption) ?_; rotate_left; (focus (intro w hSw; (try dsimp only at hSw); go_simp; first | done | with_reducible rfl)); (try simp only [Act.put, zE, zS, zZ, zB, yZ, yS]))
      (refine wpAnyH_take (i := 27) (v := ?_) rfl (by kernel_rfl) (by kernel_rfl) (by kernel_rfl) (fun _ _ _ h => h) (Or.inl ⟨by kernel_rfl, ?_⟩) (by assumption) ?_; rotate_left; (focus (intro w hSw; (try dsimp only at hSw); go_simp; first | done | with_reducible rfl)); (try simp only [Act.put, zE, zS, zZ, zB, yZ, yS]))
      clear hS0
      refine wpAnyH_done (by kernel_rfl) ?_ _
      go_wp2_with fail
      go_meet
      case rel => exact ⟨rfl, HQ.out⟩
  case rest =>
    obtain ⟨rfl, hb⟩ := hcut
    obtain ⟨w6, hw6⟩ : ∃ w, w = wc := ⟨_, rfl⟩
    subst hw6
    rename_i K hK
    refine hK _ _ ?_
    clear hK K
    replace R3 := hide (R3.out.below hb)
    replace R7 := hide (R7.out.below hb)
    replace M7 := hide (M7.out.below hb)
    replace HB := hide (HB.out.trans (hb.mono HB.out.size))
    clear s0 s1 s2 s3 sl t0 t1 t2 t3 tl q0 q1 q2 q3 ql
    clear hb M8 R8 HSB HF8
    go_wp2_with fail
    go_loopw [57] (fun i wr => ∃ k : Nat, k ≤ n ∧ i = .int .i64 k ∧ Below w6.heap.size w6 wr) (fun i _ => n - (intOf i).toNat)
    case atStart => exact ⟨0, Nat.zero_le _, rfl, Below.refl _ _⟩
    case round =>
      obtain ⟨k, hk, rfl, hbw⟩ := hrel
      obtain ⟨w7, hw7⟩ : ∃ w, w = wr := ⟨_, rfl⟩
      subst hw7
      have R3B := hide (R3.out.below hbw)
      have R7B := hide (R7.out.below hbw)
      have M7B := hide (M7.out.below hbw)
      have HBR := hide hbw
      have HBB := hide (HB.out.trans (hbw.mono HB.out.size))
      clear hbw
      by_cases hlt : k < n
      case neg =>
        obtain rfl : k = n := by omega
        obtain ⟨s0, s1, s2, s3⟩ := row4 R7B.out
        have sl := R7B.out.lt
        obtain ⟨q0, q1, q2, q3⟩ := row4 R3B.out
        have ql := R3B.out.lt
        go_upto_region 21 with (fail)
        refine wp_region_held_drew (S := fun wX => Below w7.heap.size w7 wX) (by kernel_rfl) (Below.refl _ _).drew (fun hHeld => ?_)
        clear hHeld
        have HQ := hide ((Below.refl w7.heap.size w7).drew)
        have hS0 := HQ.out
        (refine wpAnyH_take (i := 0) (v := ?_) rfl (by kernel_rfl) (by kernel_rfl) (by kernel_rfl) (fun _ _ _ h => h) (Or.inl ⟨by kernel_rfl, ?_⟩) (by assumption) ?_; rotate_left; (focus (intro w hSw; (try dsimp only at hSw); have kf0 := kept hSw s0; have kf1 := kept hSw s1; have kf2 := kept hSw s2; have kf3 := kept hSw s3; go_simp; first | done | with_reducible rfl)); (try simp only [Act.put, zE, zS, zZ, zB, yZ, yS]))
        (refine wpAnyH_take (i := 1) (v := ?_) rfl (by kernel_rfl) (by kernel_rfl) (by kernel_rfl) (fun _ _ _ h => h) (Or.inl ⟨by kernel_rfl, ?_⟩) (by assumption) ?_; rotate_left; (focus (intro w hSw; (try dsimp only at hSw); have kf0 := kept hSw q0; have kf1 := kept hSw q1; have kf2 := kept hSw q2; have kf3 := kept hSw q3; go_simp; first | done | with_reducible rfl)); (try simp only [Act.put, zE, zS, zZ, zB, yZ, yS]))
        refine wpAnyH_ready (rs := [2]) (by kernel_rfl) (by simp) ?_
        refine (AllReadyH.cons rfl (fun K1 hK1 => ?_) AllReadyH.nil)
        rw [if_pos (by kernel_rfl)]
        go_simp
        with_reducible refine (vOwn (AX.out.below (HBB.out.trans (HQ.out.mono HBB.out.size))) (HBB.out.trans (HQ.out.mono HBB.out.size)).size).mono ?_
        rintro e v3 ⟨⟨vv, rfl, hm⟩, hb⟩
        rw [HCM.out] at hm
        have HM9 := hide hm
        clear hm
        replace HQ := hide (HQ.out.trans (hb.mono HQ.out.size))
        clear hb
        refine hK1.out _ _ HQ.out (fun _ => ?_)
        clear hK1 K1 hS0
        have hS0 := HQ.out
        (try simp only [Act.put, zE, zS, zZ, zB, yZ, yS])
        refine wpAnyH_ready (rs := [3]) (by kernel_rfl) (by simp) ?_
        refine (AllReadyH.cons rfl (fun K2 hK2 => ?_) AllReadyH.nil)
        rw [if_pos (by kernel_rfl)]
        go_simp
        with_reducible refine (vrSame2 (M7B.out.below HQ.out) HM9.out HF7.out HF7.out true HSS.out).mono ?_
        rintro e v4 ⟨rfl, hb⟩
        replace HQ := hide (HQ.out.trans (hb.mono HQ.out.size))
        clear hb
        refine hK2.out _ _ HQ.out (fun _ => ?_)
        clear hK2 K2 hS0
        have hS0 := HQ.out
        (try simp only [Act.put, zE, zS, zZ, zB, yZ, yS])
        (refine wpAnyH_take (i := 4) (v := ?_) rfl (by kernel_rfl) (by kernel_rfl) (by kernel_rfl) (fun _ _ _ h => h) (Or.inl ⟨by kernel_rfl, ?_⟩) (by assumption) ?_; rotate_left; (focus (intro w hSw; (try dsimp only at hSw); go_simp; first | done | with_reducible rfl)); (try simp only [Act.put, zE, zS, zZ, zB, yZ, yS]))
        clear hS0
        refine wpAnyH_done (by kernel_rfl) ?_ _
        have HBN := hide (HBB.out.trans (HQ.out.mono HBB.out.size))
        clear s0 s1 s2 s3 sl q0 q1 q2 q3 ql
        go_wp2_with fail
        go_ret
        exact ⟨rfl, HBN.out⟩
      case pos =>
        obtain ⟨b, o, rfl, hb, d0, d1, d2, d3⟩ := (HX.out.below HBB.out).watchAt HLX.out hlt
        have hbl : b < w7.heap.size := Nat.lt_of_lt_of_le hb HBB.out.size
        have hkm : (k : Int) < (n : Int) := by omega
        generalize l.getD k (0, 0, 0, 0) = t at *
        obtain ⟨tk, tg, ts1, tz⟩ := t
        dsimp only at *
        clear hb
        by_cases h10 : k = 10
        · have hd : ((k : Int) == 10) = true := by simp; omega
          clear h10
          go_upto_region 11 with (refine wpList_store_new rfl 45 _ _ rfl _ #[.int .i64 tk, .int .i64 tg, .int .i64 ts1, .int .u64 tz] w7.heap.size rfl rfl rfl (by kernel_rfl) rfl (by simp [Value.oneCell']) ?_)
          have hbn : Below w7.heap.size w7 (w7.alloc (.cells #[.int .i64 tk, .int .i64 tg, .int .i64 ts1, .int .u64 tz] 45)) := (Below.refl _ _).alloc (Nat.le_refl _) _
          replace R3B := hide (R3B.out.below hbn)
          replace R7B := hide (R7B.out.below hbn)
          replace M7B := hide (M7B.out.below hbn)
          replace HBB := hide (HBB.out.trans (hbn.mono HBB.out.size))
          clear hbn d0 d1 d2 d3 hbl HBR
          generalize w7.alloc (.cells #[.int .i64 tk, .int .i64 tg, .int .i64 ts1, .int .u64 tz] 45) = w8 at *
          obtain ⟨s0, s1, s2, s3⟩ := row4 R7B.out
          have sl := R7B.out.lt
          obtain ⟨q0, q1, q2, q3⟩ := row4 R3B.out
          have ql := R3B.out.lt
          go_upto_region 21 with (fail)
          refine wp_region_held_drew (S := fun wX => Below w8.heap.size w8 wX) (by kernel_rfl) (Below.refl _ _).drew (fun hHeld => ?_)
          clear hHeld
          have HQ := hide ((Below.refl w8.heap.size w8).drew)
          have hS0 := HQ.out
          (refine wpAnyH_take (i := 0) (v := ?_) rfl (by kernel_rfl) (by kernel_rfl) (by kernel_rfl) (fun _ _ _ h => h) (Or.inl ⟨by kernel_rfl, ?_⟩) (by assumption) ?_; rotate_left; (focus (intro w hSw; (try dsimp only at hSw); have kf0 := kept hSw s0; have kf1 := kept hSw s1; have kf2 := kept hSw s2; have kf3 := kept hSw s3; go_simp; first | done | with_reducible rfl)); (try simp only [Act.put, zE, zS, zZ, zB, yZ, yS]))
          (refine wpAnyH_take (i := 1) (v := ?_) rfl (by kernel_rfl) (by kernel_rfl) (by kernel_rfl) (fun _ _ _ h => h) (Or.inl ⟨by kernel_rfl, ?_⟩) (by assumption) ?_; rotate_left; (focus (intro w hSw; (try dsimp only at hSw); have kf0 := kept hSw q0; have kf1 := kept hSw q1; have kf2 := kept hSw q2; have kf3 := kept hSw q3; go_simp; first | done | with_reducible rfl)); (try simp only [Act.put, zE, zS, zZ, zB, yZ, yS]))
          refine wpAnyH_ready (rs := [2]) (by kernel_rfl) (by simp) ?_
          refine (AllReadyH.cons rfl (fun K1 hK1 => ?_) AllReadyH.nil)
          rw [if_pos (by kernel_rfl)]
          go_simp
          with_reducible refine (vOwn (AX.out.below (HBB.out.trans (HQ.out.mono HBB.out.size))) (HBB.out.trans (HQ.out.mono HBB.out.size)).size).mono ?_
          rintro e v3 ⟨⟨vv, rfl, hm⟩, hb⟩
          rw [HCM.out] at hm
          have HM9 := hide hm
          clear hm
          replace HQ := hide (HQ.out.trans (hb.mono HQ.out.size))
          clear hb
          refine hK1.out _ _ HQ.out (fun _ => ?_)
          clear hK1 K1 hS0
          have hS0 := HQ.out
          (try simp only [Act.put, zE, zS, zZ, zB, yZ, yS])
          refine wpAnyH_ready (rs := [3]) (by kernel_rfl) (by simp) ?_
          refine (AllReadyH.cons rfl (fun K2 hK2 => ?_) AllReadyH.nil)
          rw [if_pos (by kernel_rfl)]
          go_simp
          with_reducible refine (vrSame2 (M7B.out.below HQ.out) HM9.out HF7.out HF7.out true HSS.out).mono ?_
          rintro e v4 ⟨rfl, hb⟩
          replace HQ := hide (HQ.out.trans (hb.mono HQ.out.size))
          clear hb
          refine hK2.out _ _ HQ.out (fun _ => ?_)
          clear hK2 K2 hS0
          have hS0 := HQ.out
          (try simp only [Act.put, zE, zS, zZ, zB, yZ, yS])
          (refine wpAnyH_take (i := 4) (v := ?_) rfl (by kernel_rfl) (by kernel_rfl) (by kernel_rfl) (fun _ _ _ h => h) (Or.inl ⟨by kernel_rfl, ?_⟩) (by assumption) ?_; rotate_left; (focus (intro w hSw; (try dsimp only at hSw); go_simp; first | done | with_reducible rfl)); (try simp only [Act.put, zE, zS, zZ, zB, yZ, yS]))
          clear hS0
          refine wpAnyH_done (by kernel_rfl) ?_ _
          have HBN := hide (HBB.out.trans (HQ.out.mono HBB.out.size))
          clear s0 s1 s2 s3 sl q0 q1 q2 q3 ql
          go_wp2_with fail
          go_ret
          exact ⟨rfl, HBN.out⟩
        · have hd : ((k : Int) == 10) = false := by rw [beq_eq_false_iff_ne]; omega
          go_upto_region 11 with (refine wpList_store_new rfl 45 _ _ rfl _ #[.int .i64 tk, .int .i64 tg, .int .i64 ts1, .int .u64 tz] w7.heap.size rfl rfl rfl (by kernel_rfl) rfl (by simp [Value.oneCell']) ?_)
          have hbn : Below w7.heap.size w7 (w7.alloc (.cells #[.int .i64 tk, .int .i64 tg, .int .i64 ts1, .int .u64 tz] 45)) := (Below.refl _ _).alloc (Nat.le_refl _) _
          have R12 := hide (RowAt.new w7 45 #[.int .i64 tk, .int .i64 tg, .int .i64 ts1, .int .u64 tz])
          replace R7B := hide (R7B.out.below hbn)
          replace M7B := hide (M7B.out.below hbn)
          replace HBR := hide (HBR.out.trans (hbn.mono HBR.out.size))
          clear hbn d0 d1 d2 d3 hbl R3B HBB h10
          generalize w7.alloc (.cells #[.int .i64 tk, .int .i64 tg, .int .i64 ts1, .int .u64 tz] 45) = w8 at *
          generalize w7.heap.size = g12 at *
          obtain ⟨gd, hgd⟩ : ∃ b, GoodM m (tk, tg, ts1, tz) = b := ⟨_, rfl⟩
          obtain ⟨sf, hsf⟩ : ∃ b, SafeM m (ts1, tz) = b := ⟨_, rfl⟩
          obtain ⟨hs, hhs⟩ : ∃ b, HoldM m (ts1, tz) = b := ⟨_, rfl⟩
          have HGD := hide hgd
          have HSF := hide hsf
          have HHS := hide hhs
          clear hgd hsf hhs
          obtain ⟨s0, s1, s2, s3⟩ := row4 R7B.out
          have sl := R7B.out.lt
          obtain ⟨r0, r1, r2, r3⟩ := row4 R12.out
          have rl := R12.out.lt
          go_upto_if 64 with (fail)
          go_cut [13, 14, 15] from 64 to 99 (fun s13 s14 s15 wx => HoldAt wx s13 hs ∧ s14 = .bool gd ∧ s15 = .bool sf ∧ Below w8.heap.size w8 wx)
          case first =>
            cases ok
            case false =>
              have hg0 : gd = false := by rw [← HGD.out]; exact good_no HOK.out _
              have hs0 : sf = false := by rw [← HSF.out]; exact safe_no HOK.out _
              have hh0 : hs = [] := by rw [← HHS.out]; exact hold_no HOK.out _
              subst hg0 hs0 hh0
              go_wp2_with fail
              go_meet
              case rel => exact ⟨⟨none, 0, rfl, Rd.none_⟩, rfl, rfl, Below.refl _ _⟩
            case true =>
              have HO := hide (ok_iff.1 HOK.out)
              obtain ⟨vs, hv, _⟩ := M7B.out.view
              have HPL := hide (show m.pin.length = un1 from hv.l1)
              clear hv
              go_upto_region 15 with (fail)
              obtain ⟨tb, htb⟩ : ∃ b, decide (tk = 4 ∨ tk = 5) = b := ⟨_, rfl⟩
              go_cut [16] from 65 to 72 (fun s16 wx => s16 = .bool tb ∧ wx = w8)
              case first =>
                by_cases h4 : tk = 4
                · have hd : (tk == 4) = true := by simpa using h4
                  have : tb = true := by rw [← htb]; simp [h4]
                  subst this
                  clear htb
                  subst h4
                  go_wp2_with fail
                  go_meet
                  case rel => exact ⟨rfl, rfl⟩
                · have hd : (tk == 4) = false := by simpa using h4
                  by_cases h5 : tk = 5
                  · have hd5 : (tk == 5) = true := by simpa using h5
                    have : tb = true := by rw [← htb]; simp [h5]
                    subst this
                    subst h5
                    clear htb h4
                    go_wp2_with fail
                    go_meet
                    case rel => exact ⟨rfl, rfl⟩
                  · have hd5 : (tk == 5) = false := by simpa using h5
                    have : tb = false := by rw [← htb]; simp [h4, h5]
                    subst this
                    clear htb h4 h5
                    go_wp2_with fail
                    go_meet
                    case rel => exact ⟨rfl, rfl⟩
              case rest =>
                rename_i K hK
                obtain ⟨rfl, hwc⟩ := hcut
                obtain ⟨w9, hw9⟩ : ∃ w, w = wc := ⟨_, rfl⟩
                subst hw9
                subst hwc
                refine hK _ _ ?_
                clear hK K
                go_upto_region 16 with (fail)
                have HTB := hide htb
                clear htb
                go_cut [14] from 73 to 91 (fun s14 wx => s14 = .bool gd ∧ Below w9.heap.size w9 wx)
                case first =>
                  cases tb
                  case false =>
                    have hg0 : gd = false := by rw [← HGD.out]; exact good_kind (by simpa using HTB.out)
                    subst hg0
                    go_wp2_with fail
                    go_meet
                    case rel => exact ⟨rfl, Below.refl _ _⟩
                  case true =>
                    have HTK := hide (show tk = 4 ∨ tk = 5 by simpa using HTB.out)
                    by_cases h0 : 0 ≤ tg
                    case neg =>
                      have hd : decide (0 ≤ tg) = false := by simpa using h0
                      have hg0 : gd = false := by rw [← HGD.out]; exact good_goer (fun h => h0 h.1)
                      subst hg0
                      clear h0
                      go_wp2_with fail
                      go_meet
                      case rel => exact ⟨rfl, Below.refl _ _⟩
                    case pos =>
                      have hd0 : decide (0 ≤ tg) = true := by simpa using h0
                      by_cases h1 : tg < (un1 : Int)
                      case neg =>
                        have hd : decide (tg < (un1 : Int)) = false := by simpa using h1
                        have hg0 : gd = false := by rw [← HGD.out]; exact good_goer (fun h => h1 (by rw [← HPL.out]; exact h.2))
                        subst hg0
                        clear h0 h1
                        go_wp2_with fail
                        go_meet
                        case rel => exact ⟨rfl, Below.refl _ _⟩
                      case pos =>
                        have hd1 : decide (tg < (un1 : Int)) = true := by simpa using h1
                        obtain ⟨g, rfl⟩ := Int.eq_ofNat_of_zero_le h0
                        have HGL := hide (show g < m.pin.length by rw [HPL.out]; omega)
                        have hgN : g < un1 := by omega
                        have hd2 : decide (g < un1) = true := by simpa using hgN
                        have hd3 : (g : Int) < (un1 : Int) := by omega
                        clear h0 h1
                        go_wp2_with fail
                        with_reducible refine (vrGood M7B.out HF7.out HO.out tk ts1 tz g HTK.out HGL.out gd HGD.out).mono ?_
                        rintro e w10 ⟨rfl, hb⟩
                        have HBG := hide hb
                        clear hb s0 s1 s2 s3 sl r0 r1 r2 r3 rl
                        go_wp2_with fail
                        go_meet
                        case rel => exact ⟨rfl, HBG.out⟩
                case rest =>
                  rename_i K hK
                  obtain ⟨rfl, hb⟩ := hcut
                  obtain ⟨w10, hw10⟩ : ∃ w, w = wc := ⟨_, rfl⟩
                  subst hw10
                  refine hK _ _ ?_
                  clear hK K
                  have R7C := hide (R7B.out.below hb)
                  have R12C := hide (R12.out.below hb)
                  have M7C := hide (M7B.out.below hb)
                  have HBG := hide hb
                  clear hb s0 s1 s2 s3 sl r0 r1 r2 r3 rl
                  obtain ⟨s0, s1, s2, s3⟩ := row4 R7C.out
                  have sl := R7C.out.lt
                  obtain ⟨r0, r1, r2, r3⟩ := row4 R12C.out
                  have rl := R12C.out.lt
                  go_upto_region 17 with (fail)
                  refine wp_region_held_drew (S := fun wX => Below w10.heap.size w10 wX) (by kernel_rfl) (Below.refl _ _).drew (fun hHeld => ?_)
                  clear hHeld
                  have HQ := hide ((Below.refl w10.heap.size w10).drew)
                  have hS0 := HQ.out
                  (refine wpAnyH_take (i := 0) (v := ?_) rfl (by kernel_rfl) (by kernel_rfl) (by kernel_rfl) (fun _ _ _ h => h) (Or.inl ⟨by kernel_rfl, ?_⟩) (by assumption) ?_; rotate_left; (focus (intro w hSw; (try dsimp only at hSw); have kf0 := kept hSw s0; have kf1 := kept hSw s1; have kf2 := kept hSw s2; have kf3 := kept hSw s3; go_simp; first | done | with_reducible rfl)); (try simp only [Act.put, zE, zS, zZ, zB, yZ, yS]))
                  (refine wpAnyH_take (i := 1) (v := ?_) rfl (by kernel_rfl) (by kernel_rfl) (by kernel_rfl) (fun _ _ _ h => h) (Or.inl ⟨by kernel_rfl, ?_⟩) (by assumption) ?_; rotate_left; (focus (intro w hSw; (try dsimp only at hSw); go_simp; first | done | with_reducible rfl)); (try simp only [Act.put, zE, zS, zZ, zB, yZ, yS]))
                  (refine wpAnyH_take (i := 2) (v := ?_) rfl (by kernel_rfl) (by kernel_rfl) (by kernel_rfl) (fun _ _ _ h => h) (Or.inl ⟨by kernel_rfl, ?_⟩) (by assumption) ?_; rotate_left; (focus (intro w hSw; (try dsimp only at hSw); have kf0 := kept hSw r0; have kf1 := kept hSw r1; have kf2 := kept hSw r2; have kf3 := kept hSw r3; go_simp; first | done | with_reducible rfl)); (try simp only [Act.put, zE, zS, zZ, zB, yZ, yS]))
                  (refine wpAnyH_take (i := 4) (v := ?_) rfl (by kernel_rfl) (by kernel_rfl) (by kernel_rfl) (fun _ _ _ h => h) (Or.inl ⟨by kernel_rfl, ?_⟩) (by assumption) ?_; rotate_left; (focus (intro w hSw; (try dsimp only at hSw); have kf0 := kept hSw s0; have kf1 := kept hSw s1; have kf2 := kept hSw s2; have kf3 := kept hSw s3; go_simp; first | done | with_reducible rfl)); (try simp only [Act.put, zE, zS, zZ, zB, yZ, yS]))
                  (refine wpAnyH_take (i := 5) (v := ?_) rfl (by kernel_rfl) (by kernel_rfl) (by kernel_rfl) (fun _ _ _ h => h) (Or.inl ⟨by kernel_rfl, ?_⟩) (by assumption) ?_; rotate_left; (focus (intro w hSw; (try dsimp only at hSw); go_simp; first | done | with_reducible rfl)); (try simp only [Act.put, zE, zS, zZ, zB, yZ, yS]))
                  (refine wpAnyH_take (i := 6) (v := ?_) rfl (by kernel_rfl) (by kernel_rfl) (by kernel_rfl) (fun _ _ _ h => h) (Or.inl ⟨by kernel_rfl, ?_⟩) (by assumption) ?_; rotate_left; (focus (intro w hSw; (try dsimp only at hSw); have kf0 := kept hSw r0; have kf1 := kept hSw r1; have kf2 := kept hSw r2; have kf3 := kept hSw r3; go_simp; first | done | with_reducible rfl)); (try simp only [Act.put, zE, zS, zZ, zB, yZ, yS]))
                  refine wpAnyH_ready (rs := [3]) (by kernel_rfl) (by simp) ?_
                  refine (AllReadyH.cons rfl (fun K1 hK1 => ?_) AllReadyH.nil)
                  rw [if_pos (by kernel_rfl)]
                  go_simp
                  with_reducible refine (vrHold (M7C.out.below HQ.out) HF7.out HO.out ts1 tz hs HHS.out).mono ?_
                  rintro e v3 ⟨⟨vh, rfl, hh⟩, hb⟩
                  have HHA := hide hh
                  clear hh
                  replace HQ := hide (HQ.out.trans (hb.mono HQ.out.size))
                  clear hb
                  refine hK1.out _ _ HQ.out (fun _ => ?_)
                  clear hK1 K1 hS0
                  have hS0 := HQ.out
                  (try simp only [Act.put, zE, zS, zZ, zB, yZ, yS])
                  refine wpAnyH_ready (rs := [7]) (by kernel_rfl) (by simp) ?_
                  refine (AllReadyH.cons rfl (fun K2 hK2 => ?_) AllReadyH.nil)
                  rw [if_pos (by kernel_rfl)]
                  go_simp
                  with_reducible refine (vrSafe (M7C.out.below HQ.out) HF7.out HO.out ts1 tz sf HSF.out).mono ?_
                  rintro e v4 ⟨rfl, hb⟩
                  replace HHA := hide (HHA.out.below hb)
                  replace HQ := hide (HQ.out.trans (hb.mono HQ.out.size))
                  clear hb
                  refine hK2.out _ _ HQ.out (fun _ => ?_)
                  clear hK2 K2 hS0
                  have hS0 := HQ.out
                  (try simp only [Act.put, zE, zS, zZ, zB, yZ, yS])
                  (refine wpAnyH_take (i := 8) (v := ?_) rfl (by kernel_rfl) (by kernel_rfl) (by kernel_rfl) (fun _ _ _ h => h) (Or.inl ⟨by kernel_rfl, ?_⟩) (by assumption) ?_; rotate_left; (focus (intro w hSw; (try dsimp only at hSw); go_simp; first | done | with_reducible rfl)); (try simp only [Act.put, zE, zS, zZ, zB, yZ, yS]))
                  (refine wpAnyH_take (i := 9) (v := ?_) rfl (by kernel_rfl) (by kernel_rfl) (by kernel_rfl) (fun _ _ _ h => h) (Or.inl ⟨by kernel_rfl, ?_⟩) (by assumption) ?_; rotate_left; (focus (intro w hSw; (try dsimp only at hSw); go_simp; first | done | with_reducible rfl)); (try simp only [Act.put, zE, zS, zZ, zB, yZ, yS]))
                  clear hS0
                  refine wpAnyH_done (by kernel_rfl) ?_ _
                  have HBN := hide (HBG.out.trans (HQ.out.mono HBG.out.size))
                  clear s0 s1 s2 s3 sl r0 r1 r2 r3 rl
                  go_wp2_with fail
                  go_meet
                  case rel => exact ⟨HHA.out, rfl, rfl, HBN.out⟩
          case rest =>
            obtain ⟨hh, rfl, rfl, hb⟩ := hcut
            obtain ⟨w10, hw10⟩ : ∃ w, w = wc := ⟨_, rfl⟩
            subst hw10
            rename_i K hK
            refine hK _ _ ?_
            clear hK K
            obtain ⟨AH, cH, hvh, hrh⟩ := hh
            subst hvh
            have HRH := hide hrh
            have R7C := hide (R7B.out.below hb)
            have R12C := hide (R12.out.below hb)
            have M7C := hide (M7B.out.below hb)
            replace HBR := hide (HBR.out.trans (hb.mono HBR.out.size))
            have HH4 := hide (show hs.length ≤ 4096 from by rw [← HHS.out]; exact hold_fit HF7.out _)
            clear hb hrh s0 s1 s2 s3 sl r0 r1 r2 r3 rl R7B R12 M7B
            obtain ⟨hq, hhq⟩ : ∃ q, hs.length = q := ⟨_, rfl⟩
            rw [hhq] at HRH HH4
            rw [hhq]
            have HHQ := hide hhq
            clear hhq
            obtain ⟨s0, s1, s2, s3⟩ := row4 R7C.out
            have sl := R7C.out.lt
            obtain ⟨r0, r1, r2, r3⟩ := row4 R12C.out
            have rl := R12C.out.lt
            go_wp2_with fail
            with_reducible refine (vGood M7C.out HF7.out tk tg ts1 tz gd HGD.out).mono ?_
            rintro e w11 ⟨rfl, hb⟩
            replace R7C := hide (R7C.out.below hb)
            replace R12C := hide (R12C.out.below hb)
            replace M7C := hide (M7C.out.below hb)
            replace HRH := hide (HRH.out.belowX hb)
            replace HBR := hide (HBR.out.trans (hb.mono HBR.out.size))
            clear hb s0 s1 s2 s3 sl r0 r1 r2 r3 rl
            obtain ⟨s0, s1, s2, s3⟩ := row4 R7C.out
            have sl := R7C.out.lt
            obtain ⟨r0, r1, r2, r3⟩ := row4 R12C.out
            have rl := R12C.out.lt
            have hgg : (gd != gd) = false := by simp
            go_wp2_with fail
            with_reducible refine (vSafe M7C.out HF7.out ts1 tz sf HSF.out).mono ?_
            rintro e w12 ⟨rfl, hb⟩
            replace R7C := hide (R7C.out.below hb)
            replace R12C := hide (R12C.out.below hb)
            replace M7C := hide (M7C.out.below hb)
            replace HRH := hide (HRH.out.belowX hb)
            replace HBR := hide (HBR.out.trans (hb.mono HBR.out.size))
            clear hb s0 s1 s2 s3 sl r0 r1 r2 r3 rl
            obtain ⟨s0, s1, s2, s3⟩ := row4 R7C.out
            have sl := R7C.out.lt
            obtain ⟨r0, r1, r2, r3⟩ := row4 R12C.out
            have rl := R12C.out.lt
            have hss : (sf != sf) = false := by simp
            go_wp2_with fail
            with_reducible refine (vHolders M7C.out HF7.out ts1 tz hs HHS.out hq HHQ.out).mono ?_
            rintro e w13 ⟨⟨AG, cG, rfl, hrg⟩, hb⟩
            have HRG := hide hrg
            replace HRH := hide (HRH.out.belowX hb)
            replace HBR := hide (HBR.out.trans (hb.mono HBR.out.size))
            clear hb hrg s0 s1 s2 s3 sl r0 r1 r2 r3 rl
            go_wp2_with fail
            with_reducible refine (eqIn AG AH cG cH hq hq hs hs w13 HRG.out HRH.out HHQ.out HHQ.out HH4.out HH4.out true (by simp)).mono ?_
            rintro e w14 ⟨rfl, hb⟩
            replace HBR := hide (HBR.out.trans (hb.mono HBR.out.size))
            clear hb
            go_wp2_with fail
            go_roundw
            case rel => exact ⟨k + 1, by omega, by go_num, HBR.out⟩
            case measure => simp [intOf]; omega
end Go.Proofs.Ytfpbabafeecncaa

/-
  Does a monitor's layer do anything? Its statements that draw their order, each by itself.
-/
import Derived.Test.YtfpbabafeecncaaMov
import Derived.Test.YtfpbabafeecncaaMowp
import Derived.Test.YtfpbabafeecncaaOnce
import Derived.Deep.RegionHeld3
import Derived.Deep.CutRange
import Derived.Deep.CutBlock
set_option linter.unusedSimpArgs false
set_option linter.unusedVariables false
namespace Go.Proofs.Ytfpbabafeecncaa
open Go Go.RowKit
attribute [local go_sem] via_cell via_frozen

theorem wkU : ∀ x : Wt, x.2.2.2 = 0 → U64 x.2.2.2 := fun x h => by rw [h]; exact ⟨by omega, by omega⟩
theorem eqEn (A1 A2 : Option Addr) (c1 c2 n1 n2 : Nat) (xs ys : List Ent) (W : World) (h1 : Rd W W.heap.size 2 A1 n1 (Cs encE xs)) (h2 : Rd W W.heap.size 2 A2 n2 (Cs encE ys)) (hx : xs.length = n1) (hy : ys.length = n2) (hl1 : n1 ≤ 4096) (hl2 : n2 ≤ 4096) (r : Bool) (hr : decide (xs = ys) = r) :
    Calls Try.prog 30 #[.slice A1 n1 c1, .slice A2 n2 c2] W fun e W' => e = .returned (.bool r) ∧ Below W.heap.size W W' := by
  subst hx hy
  exact EqualE _ _ A1 A2 c1 c2 xs ys W h1 h2 (Nat.le_refl _) (Nat.le_refl _) hl1 hl2 r hr
theorem eqIn (A1 A2 : Option Addr) (c1 c2 n1 n2 : Nat) (xs ys : List Int) (W : World) (h1 : Rd W W.heap.size 1 A1 n1 (Cs encI xs)) (h2 : Rd W W.heap.size 1 A2 n2 (Cs encI ys)) (hx : xs.length = n1) (hy : ys.length = n2) (hl1 : n1 ≤ 4096) (hl2 : n2 ≤ 4096) (r : Bool) (hr : decide (xs = ys) = r) :
    Calls Try.prog 27 #[.slice A1 n1 c1, .slice A2 n2 c2] W fun e W' => e = .returned (.bool r) ∧ Below W.heap.size W W' := by
  subst hx hy
  exact EqualI _ _ A1 A2 c1 c2 xs ys W h1 h2 (Nat.le_refl _) (Nat.le_refl _) hl1 hl2 r hr
theorem u640 : U64 0 := wkU (0, 0, 0, 0) rfl
theorem wlU1 : ∀ x ∈ wl1, U64 x.2.2.2 := by
  intro x hx
  refine wkU x ?_
  simp at hx
  rcases hx with rfl | rfl | rfl | rfl <;> rfl
theorem wlU2 : ∀ x ∈ wl2, U64 x.2.2.2 := by
  intro x hx
  refine wkU x ?_
  simp at hx
  rcases hx with rfl | rfl | rfl | rfl <;> rfl
theorem fit0 : FitM (newM 2 2) 20 := ⟨by simp [newM], by simp [newM], by simp [newM], by simp [newM], (by intro l hl; simp [newM] at hl; subst hl; simp), by omega⟩
theorem fit1 : FitM wk1 20 := ⟨by simp [wk1], by simp [wk1], by simp [wk1], by simp [wk1], (by intro l hl; simp [wk1] at hl; rcases hl with rfl | rfl <;> simp), by omega⟩
theorem fit2 : FitM wk2 20 := ⟨by simp [wk2], by simp [wk2], by simp [wk2], by simp [wk2], (by intro l hl; simp [wk2] at hl; rcases hl with rfl | rfl <;> simp), by omega⟩
theorem fit3 : FitM wk3 20 := ⟨by simp [wk3], by simp [wk3], by simp [wk3], by simp [wk3], (by intro l hl; simp [wk3] at hl; rcases hl with rfl | rfl <;> simp), by omega⟩
theorem fit4 : FitM wk4 20 := ⟨by simp [wk4], by simp [wk4], by simp [wk4], by simp [wk4], (by intro l hl; simp [wk4] at hl; rcases hl with rfl | rfl <;> simp), by omega⟩
theorem rdE_store {w w' : World} {n g : Nat} {A : Option Addr} {xs : List Ent} {t : TypeId} {b0 b1 b2 b3 : Option Addr} {k0 k1 k2 k3 d0 d1 d2 d3 : Nat} (h : Rd w w.heap.size 2 A n (Cs encE xs)) (hx : xs.length = n) (R : RowAt w g t #[.slice b0 k0 d0, .slice b1 k1 d1, .slice b2 k2 d2, .slice b3 k3 d3]) (hk : ∀ j, j ≠ g → w'.heap[j]? = w.heap[j]?) : Rd w' w'.heap.size 2 A n (Cs encE xs) := by
  refine h.moved (fun p hp h0 => hk _ ?_)
  intro hpg
  obtain ⟨b, o, e, hb, hc⟩ := h.2 h0
  rw [hp] at e
  injection e with e
  subst e
  have hpg : b = g := hpg
  subst hpg
  cases xs with
  | nil => simp at hx; omega
  | cons x xs =>
    have h1 := hc 0 (.int .i64 x.1) rfl
    have h2 := R.cell (o + 0)
    rw [h2] at h1
    rcases o with _ | _ | _ | _ | o <;> simp at h1
/-- What lay in u from block b on lies so in w. -/
def Keeps (b : Nat) (u w : World) : Prop := u.heap.size ≤ w.heap.size ∧ ∀ j, b ≤ j → j < u.heap.size → w.heap[j]? = u.heap[j]?
theorem Keeps.refl (b : Nat) (u : World) : Keeps b u u := ⟨Nat.le_refl _, fun _ _ _ => rfl⟩
theorem Keeps.below {b : Nat} {u w w' : World} (h : Keeps b u w) (hb : Below w.heap.size w w') : Keeps b u w' := ⟨Nat.le_trans h.1 hb.size, fun j h1 h2 => (hb.block j (Nat.lt_of_lt_of_le h2 h.1)).trans (h.2 j h1 h2)⟩
theorem Keeps.store {b g : Nat} {u w w' : World} (h : Keeps b u w) (hg : g < b ∨ u.heap.size ≤ g) (hk : ∀ j, j ≠ g → w'.heap[j]? = w.heap[j]?) (hs : w.heap.size ≤ w'.heap.size) : Keeps b u w' :=
  ⟨Nat.le_trans h.1 hs, fun j h1 h2 => (hk j (by omega)).trans (h.2 j h1 h2)⟩
theorem laidE2_of {n g : Nat} {w : World} {v0 v1 u0 u1 : Value} (h : RowAt w g 43 #[u0, u1]) (hn : n ≤ g) :
    RowAt ((w.setCell ⟨g, 0, none⟩ v0).setCell ⟨g, 1, none⟩ v1) g 43 #[v0, v1] ∧ (∀ j, j ≠ g → ((w.setCell ⟨g, 0, none⟩ v0).setCell ⟨g, 1, none⟩ v1).heap[j]? = w.heap[j]?) ∧ Below n w ((w.setCell ⟨g, 0, none⟩ v0).setCell ⟨g, 1, none⟩ v1) :=
  ⟨by simpa using (h.set 0 v0).set 1 v1, fun j hj => by rw [heap_setCell_ne _ _ _ _ hj, heap_setCell_ne _ _ _ _ hj], ((Below.refl _ _).setCell (p := ⟨g, 0, none⟩) hn _).setCell (p := ⟨g, 1, none⟩) hn _⟩
/-- The boxes of the two entries. -/
structure WkE (W w : World) : Prop where
  r1 : RowAt w W.heap.size 43 #[.int .i64 0, .int .u64 0]
  r2 : RowAt w (W.heap.size + 1) 43 #[.int .i64 0, .int .u64 0]
  below : Below W.heap.size W w
theorem WkE.keep {W w w' : World} (h : WkE W w) (hb : Below w.heap.size w w') : WkE W w' := ⟨h.r1.below hb, h.r2.below hb, h.below.trans (hb.mono h.below.size)⟩
theorem WkE.other {W w w' : World} {g : Nat} (h : WkE W w) (hg : W.heap.size + 1 < g) (hk : ∀ j, j ≠ g → w'.heap[j]? = w.heap[j]?) (hb : Below W.heap.size w w') : WkE W w' :=
  ⟨(hk _ (by omega)).trans h.r1, (hk _ (by omega)).trans h.r2, h.below.trans hb⟩
theorem Rd.belowX {w w' : World} {sz n : Nat} {A : Option Addr} {cs : List Value} (h : Rd w w.heap.size sz A n cs) (hb : Below w.heap.size w w') : Rd w' w'.heap.size sz A n cs := (h.below hb).more hb.size
def WkS1 (w : World) (W : World) : Prop := w.cell? ⟨W.heap.size, 0, none⟩ = some (.int .i64 0) ∧ w.cell? ⟨W.heap.size, 1, none⟩ = some (.int .u64 0) ∧ w.cell? ⟨W.heap.size + 1, 0, none⟩ = some (.int .i64 0) ∧ w.cell? ⟨W.heap.size + 1, 1, none⟩ = some (.int .u64 0) ∧ W.heap.size < w.heap.size ∧ W.heap.size + 1 < w.heap.size
theorem WkE.s1 {W w : World} (h : WkE W w) : w.cell? ⟨W.heap.size, 0, none⟩ = some (.int .i64 0) ∧ w.cell? ⟨W.heap.size, 1, none⟩ = some (.int .u64 0) ∧ w.cell? ⟨W.heap.size + 1, 0, none⟩ = some (.int .i64 0) ∧ w.cell? ⟨W.heap.size + 1, 1, none⟩ = some (.int .u64 0) ∧ W.heap.size < w.heap.size ∧ W.heap.size + 1 < w.heap.size :=
  ⟨row20 h.r1, row21 h.r1, row20 h.r2, row21 h.r2, h.r1.lt, h.r2.lt⟩
set_option maxRecDepth 100000 in
set_option maxHeartbeats 16000000 in
theorem wk_r3 {w0 : World} {N0 g0 g1 g2 B0 : Nat} {ya0 ya1 ya2 ya3 : Option Addr} {yn0 yn1 yn2 yn3 yc0 yc1 yc2 yc3 : Nat} (hN : N0 ≤ w0.heap.size) (hN0 : N0 ≤ g0) (R0 : RowAt w0 g0 32 #[.slice ya0 yn0 yc0, .slice ya1 yn1 yc1, .slice ya2 yn2 yc2, .slice ya3 yn3 yc3]) (R1 : RowAt w0 g1 43 #[.int .i64 0, .int .u64 0]) (R2 : RowAt w0 g2 43 #[.int .i64 0, .int .u64 0]) (M0 : MonOut B0 w0 (.agg #[.slice ya0 yn0 yc0, .slice ya1 yn1 yc1, .slice ya2 yn2 yc2, .slice ya3 yn3 yc3]) (newM 2 2)) (a : Act) (Q : Exit → Act → World → Prop) (id : Nat) (hsz : 39 < a.tmps.size) (hA3 : a.tmps[3]? = some (.pointer (some ⟨g0, 0, none⟩))) (hA1 : a.tmps[1]? = some (.pointer (some ⟨g1, 0, none⟩))) (hA2 : a.tmps[2]? = some (.pointer (some ⟨g2, 0, none⟩))) (ops : Array Oper) (hops : opsAt Try.f7 3 = some ops) (hQ : ∀ (x26 : Value) (x27 : Value) (x28 : Value) (x29 : Value) (x30 : Value) (x31 : Value) (x32 : Value) (x33 : Value) (x34 : Value) (x35 : Value) (x36 : Value) (x25 : Value) (x37 : Value) (x38 : Value) (x39 : Value) (AR : Option Addr) (cR : Nat) (za0 za1 za2 za3 : Option Addr) (zn0 zn1 zn2 zn3 zc0 zc1 zc2 zc3 : Nat) (w : World) {b3 : Nat}, Below N0 w0 w → RowAt w g1 43 #[.int .i64 0, .int .u64 0] → RowAt w g2 43 #[.int .i64 0, .int .u64 0] → RowAt w g0 32 #[.slice za0 zn0 zc0, .slice za1 zn1 zc1, .slice za2 zn2 zc2, .slice za3 zn3 zc3] → MonOut b3 w (.agg #[.slice za0 zn0 zc0, .slice za1 zn1 zc1, .slice za2 zn2 zc2, .slice za3 zn3 zc3]) wk1 → w0.heap.size ≤ b3 → Rd w w.heap.size 2 AR 1 (Cs encE [(0, 0)]) → Q .normal (puts a (([26, 27, 28, 29, 30, 31, 32, 33, 34, 35, 36, 25, 37, 38, 39, 5, 6] : List Nat).zip [x26, x27, x28, x29, x30, x31, x32, x33, x34, x35, x36, x25, x37, x38, x39, .slice AR 1 cR, .int .i64 0])) w) : (Code.region id ops true).wp Try.prog Q a w0 := by
  have hn : ([26, 27, 28, 29, 30, 31, 32, 33, 34, 35, 36, 25, 37, 38, 39, 5, 6] : List Nat).Nodup := by decide
  have hs : ∀ d ∈ ([26, 27, 28, 29, 30, 31, 32, 33, 34, 35, 36, 25, 37, 38, 39, 5, 6] : List Nat), d < a.tmps.size := fun d hd => Nat.lt_of_le_of_lt ((by decide : ∀ d ∈ ([26, 27, 28, 29, 30, 31, 32, 33, 34, 35, 36, 25, 37, 38, 39, 5, 6] : List Nat), d ≤ 39) d hd) hsz
  conv at hops => lhs; whnf
  injection hops with hops
  subst hops
  refine wp_region_slots [26, 27, 28, 29, 30, 31, 32, 33, 34, 35, 36, 25, 37, 38, 39, 5, 6] (fun L xs w => ∃ x26 : Value, ∃ x27 : Value, ∃ x28 : Value, ∃ x29 : Value, ∃ x30 : Value, ∃ x31 : Value, ∃ x32 : Value, ∃ x33 : Value, ∃ x34 : Value, ∃ x35 : Value, ∃ x36 : Value, ∃ x25 : Value, ∃ x37 : Value, ∃ x38 : Value, ∃ x39 : Value, ∃ x5 : Value, ∃ x6 : Value, ∃ za0 za1 za2 za3 AR : Option Addr, ∃ zn0 zn1 zn2 zn3 zc0 zc1 zc2 zc3 cR : Nat, ∃ b3 gs : Nat, ∃ u : World, xs = [x26, x27, x28, x29, x30, x31, x32, x33, x34, x35, x36, x25, x37, x38, x39, x5, x6] ∧ Below N0 w0 w ∧ (RowAt w g1 43 #[.int .i64 0, .int .u64 0]) ∧ (RowAt w g2 43 #[.int .i64 0, .int .u64 0]) ∧ (L 15 = false → RowAt w g0 32 #[.slice ya0 yn0 yc0, .slice ya1 yn1 yc1, .slice ya2 yn2 yc2, .slice ya3 yn3 yc3]) ∧ (L 15 = false → MonOut B0 w (.agg #[.slice ya0 yn0 yc0, .slice ya1 yn1 yc1, .slice ya2 yn2 yc2, .slice ya3 yn3 yc3]) (newM 2 2)) ∧ (L 0 = true → x26 = .agg #[.slice ya0 yn0 yc0, .slice ya1 yn1 yc1, .slice ya2 yn2 yc2, .slice ya3 yn3 yc3]) ∧ (L 1 = true → x27 = .agg #[.int .i64 0, .int .u64 0]) ∧ (L 2 = true → x28 = .agg #[.int .i64 1, .int .i64 0, .int .i64 0, .int .u64 0]) ∧ (L 3 = true → x29 = .agg #[.int .i64 0, .int .u64 0]) ∧ (L 4 = true → x30 = .agg #[.int .i64 6, .int .i64 0, .int .i64 0, .int .u64 0]) ∧ (L 5 = true → x31 = .agg #[.int .i64 0, .int .u64 0]) ∧ (L 6 = true → x32 = .agg #[.int .i64 1, .int .i64 1, .int .i64 0, .int .u64 0]) ∧ (L 7 = true → x33 = .agg #[.int .i64 0, .int .u64 0]) ∧ (L 8 = true → x34 = .agg #[.int .i64 3, .int .i64 1, .int .i64 0, .int .u64 0]) ∧ (L 9 = true → x35 = .slice (some ⟨gs, 0, none⟩) 4 4) ∧ (L 9 = true → L 15 = false → Rd w w.heap.size 4 (some ⟨gs, 0, none⟩) 4 (Cs encX wl1)) ∧ (L 10 = true → x36 = .tuple #[.agg #[.slice za0 zn0 zc0, .slice za1 zn1 zc1, .slice za2 zn2 zc2, .slice za3 zn3 zc3], .slice AR 1 cR, .int .i64 0]) ∧ (L 10 = true → MonOut b3 u (.agg #[.slice za0 zn0 zc0, .slice za1 zn1 zc1, .slice za2 zn2 zc2, .slice za3 zn3 zc3]) wk1) ∧ (L 10 = true → Keeps b3 u w) ∧ (L 10 = true → w0.heap.size ≤ b3) ∧ (L 10 = true → Rd w w.heap.size 2 AR 1 (Cs encE [(0, 0)])) ∧ (L 11 = true → x25 = .tuple #[.agg #[.slice za0 zn0 zc0, .slice za1 zn1 zc1, .slice za2 zn2 zc2, .slice za3 zn3 zc3], .slice AR 1 cR, .int .i64 0]) ∧ (L 12 = true → x37 = .agg #[.slice za0 zn0 zc0, .slice za1 zn1 zc1, .slice za2 zn2 zc2, .slice za3 zn3 zc3]) ∧ (L 13 = true → x38 = .slice AR 1 cR) ∧ (L 14 = true → x39 = .int .i64 0) ∧ (L 15 = true → RowAt w g0 32 #[.slice za0 zn0 zc0, .slice za1 zn1 zc1, .slice za2 zn2 zc2, .slice za3 zn3 zc3]) ∧ (L 16 = true → x5 = .slice AR 1 cR) ∧ (L 17 = true → x6 = .int .i64 0)) (by kernel_rfl) (by kernel_rfl) ?_ ?_ ?_
  · exact ⟨_, _, _, _, _, _, _, _, _, _, _, _, _, _, _, _, _, none, none, none, none, none, 0, 0, 0, 0, 0, 0, 0, 0, 0, 0, 0, w0, rfl, (Below.refl _ _).drew, R1.below (Below.refl _ _).drew, R2.below (Below.refl _ _).drew, fun _ => R0.below (Below.refl _ _).drew, fun _ => M0.below (Below.refl _ _).drew, fun h => nope h rfl, fun h => nope h rfl, fun h => nope h rfl, fun h => nope h rfl, fun h => nope h rfl, fun h => nope h rfl, fun h => nope h rfl, fun h => nope h rfl, fun h => nope h rfl, fun h => nope h rfl, fun h _ => nope h rfl, fun h => nope h rfl, fun h => nope h rfl, fun h => nope h rfl, fun h => nope h rfl, fun h => nope h rfl, fun h => nope h rfl, fun h => nope h rfl, fun h => nope h rfl, fun h => nope h rfl, fun h => nope h rfl, fun h => nope h rfl, fun h => nope h rfl⟩
  · refine OnceFrom.cons (fun L b w K hI hi hon hup hK => ?_) ?_
    · obtain ⟨xs, hbe, x26, x27, x28, x29, x30, x31, x32, x33, x34, x35, x36, x25, x37, x38, x39, x5, x6, za0, za1, za2, za3, AR, zn0, zn1, zn2, zn3, zc0, zc1, zc2, zc3, cR, b3, gs, u, hxs, hB, hF⟩ := hI
      subst hxs
      have HB := hide hB
      have HF := hide hF
      obtain ⟨r1, r2, rm, mm, f0, f1, f2, f3, f4, f5, f6, f7, f8, f9, f9r, f10, f10m, f10k, f10b, f10r, f11, f12, f13, f14, fs, fi1, fi2⟩ := hF
      have us : L 15 = false := hup 15 (mem_of_elem (by kernel_rfl))
      obtain ⟨q0, q1, q2, q3⟩ := row4 (rm us)
      have hT3 : b.tmps[3]? = some (.pointer (some ⟨g0, 0, none⟩)) := by rw [hbe]; exact (puts_get_out _ _ _ (by decide)).trans hA3
      have HBE := hide hbe
      clear hB hbe r1 r2 rm mm f0 f1 f2 f3 f4 f5 f6 f7 f8 f9 f9r f10 f10m f10k f10b f10r f11 f12 f13 f14 fs fi1 fi2
      rw [if_pos (by rfl)]
      go_simp
      obtain ⟨r1, r2, rm, mm, f0, f1, f2, f3, f4, f5, f6, f7, f8, f9, f9r, f10, f10m, f10k, f10b, f10r, f11, f12, f13, f14, fs, fi1, fi2⟩ := HF.out
      have hB := HB.out
      refine hK.out _ _ (fun L2 hi2 hn2 => ⟨[(.agg #[.slice ya0 yn0 yc0, .slice ya1 yn1 yc1, .slice ya2 yn2 yc2, .slice ya3 yn3 yc3]), x27, x28, x29, x30, x31, x32, x33, x34, x35, x36, x25, x37, x38, x39, x5, x6], put_in HBE.out hn rfl 0 _ rfl rfl, (.agg #[.slice ya0 yn0 yc0, .slice ya1 yn1 yc1, .slice ya2 yn2 yc2, .slice ya3 yn3 yc3]), x27, x28, x29, x30, x31, x32, x33, x34, x35, x36, x25, x37, x38, x39, x5, x6, za0, za1, za2, za3, AR, zn0, zn1, zn2, zn3, zc0, zc1, zc2, zc3, cR, b3, gs, u, rfl, hB, (r1 ), (r2 ), (fun g15 => have h15 := lt_ (hn2 15 (by decide)) g15; rm h15), (fun g15 => have h15 := lt_ (hn2 15 (by decide)) g15; mm h15), (fun g0 => rfl), (fun g1 => have h1 := lt_ (hn2 1 (by decide)) g1; f1 h1), (fun g2 => have h2 := lt_ (hn2 2 (by decide)) g2; f2 h2), (fun g3 => have h3 := lt_ (hn2 3 (by decide)) g3; f3 h3), (fun g4 => have h4 := lt_ (hn2 4 (by decide)) g4; f4 h4), (fun g5 => have h5 := lt_ (hn2 5 (by decide)) g5; f5 h5), (fun g6 => have h6 := lt_ (hn2 6 (by decide)) g6; f6 h6), (fun g7 => have h7 := lt_ (hn2 7 (by decide)) g7; f7 h7), (fun g8 => have h8 := lt_ (hn2 8 (by decide)) g8; f8 h8), (fun g9 => have h9 := lt_ (hn2 9 (by decide)) g9; f9 h9), (fun g9 g15 => have h9 := lt_ (hn2 9 (by decide)) g9; have h15 := lt_ (hn2 15 (by decide)) g15; f9r h9 h15), (fun g10 => have h10 := lt_ (hn2 10 (by decide)) g10; f10 h10), (fun g10 => have h10 := lt_ (hn2 10 (by decide)) g10; f10m h10), (fun g10 => have h10 := lt_ (hn2 10 (by decide)) g10; f10k h10), (fun g10 => have h10 := lt_ (hn2 10 (by decide)) g10; f10b h10), (fun g10 => have h10 := lt_ (hn2 10 (by decide)) g10; f10r h10), (fun g11 => have h11 := lt_ (hn2 11 (by decide)) g11; f11 h11), (fun g12 => have h12 := lt_ (hn2 12 (by decide)) g12; f12 h12), (fun g13 => have h13 := lt_ (hn2 13 (by decide)) g13; f13 h13), (fun g14 => have h14 := lt_ (hn2 14 (by decide)) g14; f14 h14), (fun g15 => have h15 := lt_ (hn2 15 (by decide)) g15; fs h15), (fun g16 => have h16 := lt_ (hn2 16 (by decide)) g16; fi1 h16), (fun g17 => have h17 := lt_ (hn2 17 (by decide)) g17; fi2 h17)⟩)
    refine OnceFrom.cons (fun L b w K hI hi hon hup hK => ?_) ?_
    · obtain ⟨xs, hbe, x26, x27, x28, x29, x30, x31, x32, x33, x34, x35, x36, x25, x37, x38, x39, x5, x6, za0, za1, za2, za3, AR, zn0, zn1, zn2, zn3, zc0, zc1, zc2, zc3, cR, b3, gs, u, hxs, hB, hF⟩ := hI
      subst hxs
      have HB := hide hB
      have HF := hide hF
      obtain ⟨r1, r2, rm, mm, f0, f1, f2, f3, f4, f5, f6, f7, f8, f9, f9r, f10, f10m, f10k, f10b, f10r, f11, f12, f13, f14, fs, fi1, fi2⟩ := hF
      have q0 := row20 r2
      have q1 := row21 r2
      have hT2 : b.tmps[2]? = some (.pointer (some ⟨g2, 0, none⟩)) := by rw [hbe]; exact (puts_get_out _ _ _ (by decide)).trans hA2
      have HBE := hide hbe
      clear hB hbe r1 r2 rm mm f0 f1 f2 f3 f4 f5 f6 f7 f8 f9 f9r f10 f10m f10k f10b f10r f11 f12 f13 f14 fs fi1 fi2
      rw [if_pos (by rfl)]
      go_simp
      obtain ⟨r1, r2, rm, mm, f0, f1, f2, f3, f4, f5, f6, f7, f8, f9, f9r, f10, f10m, f10k, f10b, f10r, f11, f12, f13, f14, fs, fi1, fi2⟩ := HF.out
      have hB := HB.out
      refine hK.out _ _ (fun L2 hi2 hn2 => ⟨[x26, (.agg #[.int .i64 0, .int .u64 0]), x28, x29, x30, x31, x32, x33, x34, x35, x36, x25, x37, x38, x39, x5, x6], put_in HBE.out hn rfl 1 _ rfl rfl, x26, (.agg #[.int .i64 0, .int .u64 0]), x28, x29, x30, x31, x32, x33, x34, x35, x36, x25, x37, x38, x39, x5, x6, za0, za1, za2, za3, AR, zn0, zn1, zn2, zn3, zc0, zc1, zc2, zc3, cR, b3, gs, u, rfl, hB, (r1 ), (r2 ), (fun g15 => have h15 := lt_ (hn2 15 (by decide)) g15; rm h15), (fun g15 => have h15 := lt_ (hn2 15 (by decide)) g15; mm h15), (fun g0 => have h0 := lt_ (hn2 0 (by decide)) g0; f0 h0), (fun g1 => rfl), (fun g2 => have h2 := lt_ (hn2 2 (by decide)) g2; f2 h2), (fun g3 => have h3 := lt_ (hn2 3 (by decide)) g3; f3 h3), (fun g4 => have h4 := lt_ (hn2 4 (by decide)) g4; f4 h4), (fun g5 => have h5 := lt_ (hn2 5 (by decide)) g5; f5 h5), (fun g6 => have h6 := lt_ (hn2 6 (by decide)) g6; f6 h6), (fun g7 => have h7 := lt_ (hn2 7 (by decide)) g7; f7 h7), (fun g8 => have h8 := lt_ (hn2 8 (by decide)) g8; f8 h8), (fun g9 => have h9 := lt_ (hn2 9 (by decide)) g9; f9 h9), (fun g9 g15 => have h9 := lt_ (hn2 9 (by decide)) g9; have h15 := lt_ (hn2 15 (by decide)) g15; f9r h9 h15), (fun g10 => have h10 := lt_ (hn2 10 (by decide)) g10; f10 h10), (fun g10 => have h10 := lt_ (hn2 10 (by decide)) g10; f10m h10), (fun g10 => have h10 := lt_ (hn2 10 (by decide)) g10; f10k h10), (fun g10 => have h10 := lt_ (hn2 10 (by decide)) g10; f10b h10), (fun g10 => have h10 := lt_ (hn2 10 (by decide)) g10; f10r h10), (fun g11 => have h11 := lt_ (hn2 11 (by decide)) g11; f11 h11), (fun g12 => have h12 := lt_ (hn2 12 (by decide)) g12; f12 h12), (fun g13 => have h13 := lt_ (hn2 13 (by decide)) g13; f13 h13), (fun g14 => have h14 := lt_ (hn2 14 (by decide)) g14; f14 h14), (fun g15 => have h15 := lt_ (hn2 15 (by decide)) g15; fs h15), (fun g16 => have h16 := lt_ (hn2 16 (by decide)) g16; fi1 h16), (fun g17 => have h17 := lt_ (hn2 17 (by decide)) g17; fi2 h17)⟩)
    refine OnceFrom.cons (fun L b w K hI hi hon hup hK => ?_) ?_
    · obtain ⟨xs, hbe, x26, x27, x28, x29, x30, x31, x32, x33, x34, x35, x36, x25, x37, x38, x39, x5, x6, za0, za1, za2, za3, AR, zn0, zn1, zn2, zn3, zc0, zc1, zc2, zc3, cR, b3, gs, u, hxs, hB, hF⟩ := hI
      subst hxs
      have d1 : L 1 = true := hon 1 (mem_of_elem (by kernel_rfl))
      have HB := hide hB
      have HF := hide hF
      obtain ⟨r1, r2, rm, mm, f0, f1, f2, f3, f4, f5, f6, f7, f8, f9, f9r, f10, f10m, f10k, f10b, f10r, f11, f12, f13, f14, fs, fi1, fi2⟩ := hF
      have e1 := f1 d1
      subst e1
      have hT27 : b.tmps[27]? = some (.agg #[.int .i64 0, .int .u64 0]) := by rw [hbe]; exact puts_get_in _ _ _ hn hs (i := 1) rfl rfl
      have HBE := hide hbe
      clear hB hbe r1 r2 rm mm f0 f1 f2 f3 f4 f5 f6 f7 f8 f9 f9r f10 f10m f10k f10b f10r f11 f12 f13 f14 fs fi1 fi2
      rw [if_pos (by rfl)]
      go_simp
      with_reducible refine (watch_any 1 0 0 0 w).mono ?_
      rintro e w2 ⟨rfl, hb⟩
      obtain ⟨r1, r2, rm, mm, f0, f1, f2, f3, f4, f5, f6, f7, f8, f9, f9r, f10, f10m, f10k, f10b, f10r, f11, f12, f13, f14, fs, fi1, fi2⟩ := HF.out
      have hB := HB.out
      have hB0 : w0.heap.size ≤ w.heap.size := hB.size
      refine hK.out _ _ (fun L2 hi2 hn2 => ⟨[x26, (.agg #[.int .i64 0, .int .u64 0]), (.agg #[.int .i64 1, .int .i64 0, .int .i64 0, .int .u64 0]), x29, x30, x31, x32, x33, x34, x35, x36, x25, x37, x38, x39, x5, x6], put_in HBE.out hn rfl 2 _ rfl rfl, x26, (.agg #[.int .i64 0, .int .u64 0]), (.agg #[.int .i64 1, .int .i64 0, .int .i64 0, .int .u64 0]), x29, x30, x31, x32, x33, x34, x35, x36, x25, x37, x38, x39, x5, x6, za0, za1, za2, za3, AR, zn0, zn1, zn2, zn3, zc0, zc1, zc2, zc3, cR, b3, gs, u, rfl, (hB.trans (hb.mono (Nat.le_trans hN hB0))), ((r1 ).below hb), ((r2 ).below hb), (fun g15 => have h15 := lt_ (hn2 15 (by decide)) g15; (rm h15).below hb), (fun g15 => have h15 := lt_ (hn2 15 (by decide)) g15; (mm h15).below hb), (fun g0 => have h0 := lt_ (hn2 0 (by decide)) g0; f0 h0), (fun g1 => have h1 := lt_ (hn2 1 (by decide)) g1; rfl), (fun g2 => rfl), (fun g3 => have h3 := lt_ (hn2 3 (by decide)) g3; f3 h3), (fun g4 => have h4 := lt_ (hn2 4 (by decide)) g4; f4 h4), (fun g5 => have h5 := lt_ (hn2 5 (by decide)) g5; f5 h5), (fun g6 => have h6 := lt_ (hn2 6 (by decide)) g6; f6 h6), (fun g7 => have h7 := lt_ (hn2 7 (by decide)) g7; f7 h7), (fun g8 => have h8 := lt_ (hn2 8 (by decide)) g8; f8 h8), (fun g9 => have h9 := lt_ (hn2 9 (by decide)) g9; f9 h9), (fun g9 g15 => have h9 := lt_ (hn2 9 (by decide)) g9; have h15 := lt_ (hn2 15 (by decide)) g15; (f9r h9 h15).belowX hb), (fun g10 => have h10 := lt_ (hn2 10 (by decide)) g10; f10 h10), (fun g10 => have h10 := lt_ (hn2 10 (by decide)) g10; f10m h10), (fun g10 => have h10 := lt_ (hn2 10 (by decide)) g10; (f10k h10).below hb), (fun g10 => have h10 := lt_ (hn2 10 (by decide)) g10; f10b h10), (fun g10 => have h10 := lt_ (hn2 10 (by decide)) g10; (f10r h10).belowX hb), (fun g11 => have h11 := lt_ (hn2 11 (by decide)) g11; f11 h11), (fun g12 => have h12 := lt_ (hn2 12 (by decide)) g12; f12 h12), (fun g13 => have h13 := lt_ (hn2 13 (by decide)) g13; f13 h13), (fun g14 => have h14 := lt_ (hn2 14 (by decide)) g14; f14 h14), (fun g15 => have h15 := lt_ (hn2 15 (by decide)) g15; (fs h15).below hb), (fun g16 => have h16 := lt_ (hn2 16 (by decide)) g16; fi1 h16), (fun g17 => have h17 := lt_ (hn2 17 (by decide)) g17; fi2 h17)⟩)
    refine OnceFrom.cons (fun L b w K hI hi hon hup hK => ?_) ?_
    · obtain ⟨xs, hbe, x26, x27, x28, x29, x30, x31, x32, x33, x34, x35, x36, x25, x37, x38, x39, x5, x6, za0, za1, za2, za3, AR, zn0, zn1, zn2, zn3, zc0, zc1, zc2, zc3, cR, b3, gs, u, hxs, hB, hF⟩ := hI
      subst hxs
      have HB := hide hB
      have HF := hide hF
      obtain ⟨r1, r2, rm, mm, f0, f1, f2, f3, f4, f5, f6, f7, f8, f9, f9r, f10, f10m, f10k, f10b, f10r, f11, f12, f13, f14, fs, fi1, fi2⟩ := hF
      have q0 := row20 r2
      have q1 := row21 r2
      have hT2 : b.tmps[2]? = some (.pointer (some ⟨g2, 0, none⟩)) := by rw [hbe]; exact (puts_get_out _ _ _ (by decide)).trans hA2
      have HBE := hide hbe
      clear hB hbe r1 r2 rm mm f0 f1 f2 f3 f4 f5 f6 f7 f8 f9 f9r f10 f10m f10k f10b f10r f11 f12 f13 f14 fs fi1 fi2
      rw [if_pos (by rfl)]
      go_simp
      obtain ⟨r1, r2, rm, mm, f0, f1, f2, f3, f4, f5, f6, f7, f8, f9, f9r, f10, f10m, f10k, f10b, f10r, f11, f12, f13, f14, fs, fi1, fi2⟩ := HF.out
      have hB := HB.out
      refine hK.out _ _ (fun L2 hi2 hn2 => ⟨[x26, x27, x28, (.agg #[.int .i64 0, .int .u64 0]), x30, x31, x32, x33, x34, x35, x36, x25, x37, x38, x39, x5, x6], put_in HBE.out hn rfl 3 _ rfl rfl, x26, x27, x28, (.agg #[.int .i64 0, .int .u64 0]), x30, x31, x32, x33, x34, x35, x36, x25, x37, x38, x39, x5, x6, za0, za1, za2, za3, AR, zn0, zn1, zn2, zn3, zc0, zc1, zc2, zc3, cR, b3, gs, u, rfl, hB, (r1 ), (r2 ), (fun g15 => have h15 := lt_ (hn2 15 (by decide)) g15; rm h15), (fun g15 => have h15 := lt_ (hn2 15 (by decide)) g15; mm h15), (fun g0 => have h0 := lt_ (hn2 0 (by decide)) g0; f0 h0), (fun g1 => have h1 := lt_ (hn2 1 (by decide)) g1; f1 h1), (fun g2 => have h2 := lt_ (hn2 2 (by decide)) g2; f2 h2), (fun g3 => rfl), (fun g4 => have h4 := lt_ (hn2 4 (by decide)) g4; f4 h4), (fun g5 => have h5 := lt_ (hn2 5 (by decide)) g5; f5 h5), (fun g6 => have h6 := lt_ (hn2 6 (by decide)) g6; f6 h6), (fun g7 => have h7 := lt_ (hn2 7 (by decide)) g7; f7 h7), (fun g8 => have h8 := lt_ (hn2 8 (by decide)) g8; f8 h8), (fun g9 => have h9 := lt_ (hn2 9 (by decide)) g9; f9 h9), (fun g9 g15 => have h9 := lt_ (hn2 9 (by decide)) g9; have h15 := lt_ (hn2 15 (by decide)) g15; f9r h9 h15), (fun g10 => have h10 := lt_ (hn2 10 (by decide)) g10; f10 h10), (fun g10 => have h10 := lt_ (hn2 10 (by decide)) g10; f10m h10), (fun g10 => have h10 := lt_ (hn2 10 (by decide)) g10; f10k h10), (fun g10 => have h10 := lt_ (hn2 10 (by decide)) g10; f10b h10), (fun g10 => have h10 := lt_ (hn2 10 (by decide)) g10; f10r h10), (fun g11 => have h11 := lt_ (hn2 11 (by decide)) g11; f11 h11), (fun g12 => have h12 := lt_ (hn2 12 (by decide)) g12; f12 h12), (fun g13 => have h13 := lt_ (hn2 13 (by decide)) g13; f13 h13), (fun g14 => have h14 := lt_ (hn2 14 (by decide)) g14; f14 h14), (fun g15 => have h15 := lt_ (hn2 15 (by decide)) g15; fs h15), (fun g16 => have h16 := lt_ (hn2 16 (by decide)) g16; fi1 h16), (fun g17 => have h17 := lt_ (hn2 17 (by decide)) g17; fi2 h17)⟩)
    refine OnceFrom.cons (fun L b w K hI hi hon hup hK => ?_) ?_
    · obtain ⟨xs, hbe, x26, x27, x28, x29, x30, x31, x32, x33, x34, x35, x36, x25, x37, x38, x39, x5, x6, za0, za1, za2, za3, AR, zn0, zn1, zn2, zn3, zc0, zc1, zc2, zc3, cR, b3, gs, u, hxs, hB, hF⟩ := hI
      subst hxs
      have d3 : L 3 = true := hon 3 (mem_of_elem (by kernel_rfl))
      have HB := hide hB
      have HF := hide hF
      obtain ⟨r1, r2, rm, mm, f0, f1, f2, f3, f4, f5, f6, f7, f8, f9, f9r, f10, f10m, f10k, f10b, f10r, f11, f12, f13, f14, fs, fi1, fi2⟩ := hF
      have e1 := f3 d3
      subst e1
      have hT29 : b.tmps[29]? = some (.agg #[.int .i64 0, .int .u64 0]) := by rw [hbe]; exact puts_get_in _ _ _ hn hs (i := 3) rfl rfl
      have HBE := hide hbe
      clear hB hbe r1 r2 rm mm f0 f1 f2 f3 f4 f5 f6 f7 f8 f9 f9r f10 f10m f10k f10b f10r f11 f12 f13 f14 fs fi1 fi2
      rw [if_pos (by rfl)]
      go_simp
      with_reducible refine (watch_any 6 0 0 0 w).mono ?_
      rintro e w2 ⟨rfl, hb⟩
      obtain ⟨r1, r2, rm, mm, f0, f1, f2, f3, f4, f5, f6, f7, f8, f9, f9r, f10, f10m, f10k, f10b, f10r, f11, f12, f13, f14, fs, fi1, fi2⟩ := HF.out
      have hB := HB.out
      have hB0 : w0.heap.size ≤ w.heap.size := hB.size
      refine hK.out _ _ (fun L2 hi2 hn2 => ⟨[x26, x27, x28, (.agg #[.int .i64 0, .int .u64 0]), (.agg #[.int .i64 6, .int .i64 0, .int .i64 0, .int .u64 0]), x31, x32, x33, x34, x35, x36, x25, x37, x38, x39, x5, x6], put_in HBE.out hn rfl 4 _ rfl rfl, x26, x27, x28, (.agg #[.int .i64 0, .int .u64 0]), (.agg #[.int .i64 6, .int .i64 0, .int .i64 0, .int .u64 0]), x31, x32, x33, x34, x35, x36, x25, x37, x38, x39, x5, x6, za0, za1, za2, za3, AR, zn0, zn1, zn2, zn3, zc0, zc1, zc2, zc3, cR, b3, gs, u, rfl, (hB.trans (hb.mono (Nat.le_trans hN hB0))), ((r1 ).below hb), ((r2 ).below hb), (fun g15 => have h15 := lt_ (hn2 15 (by decide)) g15; (rm h15).below hb), (fun g15 => have h15 := lt_ (hn2 15 (by decide)) g15; (mm h15).below hb), (fun g0 => have h0 := lt_ (hn2 0 (by decide)) g0; f0 h0), (fun g1 => have h1 := lt_ (hn2 1 (by decide)) g1; f1 h1), (fun g2 => have h2 := lt_ (hn2 2 (by decide)) g2; f2 h2), (fun g3 => have h3 := lt_ (hn2 3 (by decide)) g3; rfl), (fun g4 => rfl), (fun g5 => have h5 := lt_ (hn2 5 (by decide)) g5; f5 h5), (fun g6 => have h6 := lt_ (hn2 6 (by decide)) g6; f6 h6), (fun g7 => have h7 := lt_ (hn2 7 (by decide)) g7; f7 h7), (fun g8 => have h8 := lt_ (hn2 8 (by decide)) g8; f8 h8), (fun g9 => have h9 := lt_ (hn2 9 (by decide)) g9; f9 h9), (fun g9 g15 => have h9 := lt_ (hn2 9 (by decide)) g9; have h15 := lt_ (hn2 15 (by decide)) g15; (f9r h9 h15).belowX hb), (fun g10 => have h10 := lt_ (hn2 10 (by decide)) g10; f10 h10), (fun g10 => have h10 := lt_ (hn2 10 (by decide)) g10; f10m h10), (fun g10 => have h10 := lt_ (hn2 10 (by decide)) g10; (f10k h10).below hb), (fun g10 => have h10 := lt_ (hn2 10 (by decide)) g10; f10b h10), (fun g10 => have h10 := lt_ (hn2 10 (by decide)) g10; (f10r h10).belowX hb), (fun g11 => have h11 := lt_ (hn2 11 (by decide)) g11; f11 h11), (fun g12 => have h12 := lt_ (hn2 12 (by decide)) g12; f12 h12), (fun g13 => have h13 := lt_ (hn2 13 (by decide)) g13; f13 h13), (fun g14 => have h14 := lt_ (hn2 14 (by decide)) g14; f14 h14), (fun g15 => have h15 := lt_ (hn2 15 (by decide)) g15; (fs h15).below hb), (fun g16 => have h16 := lt_ (hn2 16 (by decide)) g16; fi1 h16), (fun g17 => have h17 := lt_ (hn2 17 (by decide)) g17; fi2 h17)⟩)
    refine OnceFrom.cons (fun L b w K hI hi hon hup hK => ?_) ?_
    · obtain ⟨xs, hbe, x26, x27, x28, x29, x30, x31, x32, x33, x34, x35, x36, x25, x37, x38, x39, x5, x6, za0, za1, za2, za3, AR, zn0, zn1, zn2, zn3, zc0, zc1, zc2, zc3, cR, b3, gs, u, hxs, hB, hF⟩ := hI
      subst hxs
      have HB := hide hB
      have HF := hide hF
      obtain ⟨r1, r2, rm, mm, f0, f1, f2, f3, f4, f5, f6, f7, f8, f9, f9r, f10, f10m, f10k, f10b, f10r, f11, f12, f13, f14, fs, fi1, fi2⟩ := hF
      have q0 := row20 r2
      have q1 := row21 r2
      have hT2 : b.tmps[2]? = some (.pointer (some ⟨g2, 0, none⟩)) := by rw [hbe]; exact (puts_get_out _ _ _ (by decide)).trans hA2
      have HBE := hide hbe
      clear hB hbe r1 r2 rm mm f0 f1 f2 f3 f4 f5 f6 f7 f8 f9 f9r f10 f10m f10k f10b f10r f11 f12 f13 f14 fs fi1 fi2
      rw [if_pos (by rfl)]
      go_simp
      obtain ⟨r1, r2, rm, mm, f0, f1, f2, f3, f4, f5, f6, f7, f8, f9, f9r, f10, f10m, f10k, f10b, f10r, f11, f12, f13, f14, fs, fi1, fi2⟩ := HF.out
      have hB := HB.out
      refine hK.out _ _ (fun L2 hi2 hn2 => ⟨[x26, x27, x28, x29, x30, (.agg #[.int .i64 0, .int .u64 0]), x32, x33, x34, x35, x36, x25, x37, x38, x39, x5, x6], put_in HBE.out hn rfl 5 _ rfl rfl, x26, x27, x28, x29, x30, (.agg #[.int .i64 0, .int .u64 0]), x32, x33, x34, x35, x36, x25, x37, x38, x39, x5, x6, za0, za1, za2, za3, AR, zn0, zn1, zn2, zn3, zc0, zc1, zc2, zc3, cR, b3, gs, u, rfl, hB, (r1 ), (r2 ), (fun g15 => have h15 := lt_ (hn2 15 (by decide)) g15; rm h15), (fun g15 => have h15 := lt_ (hn2 15 (by decide)) g15; mm h15), (fun g0 => have h0 := lt_ (hn2 0 (by decide)) g0; f0 h0), (fun g1 => have h1 := lt_ (hn2 1 (by decide)) g1; f1 h1), (fun g2 => have h2 := lt_ (hn2 2 (by decide)) g2; f2 h2), (fun g3 => have h3 := lt_ (hn2 3 (by decide)) g3; f3 h3), (fun g4 => have h4 := lt_ (hn2 4 (by decide)) g4; f4 h4), (fun g5 => rfl), (fun g6 => have h6 := lt_ (hn2 6 (by decide)) g6; f6 h6), (fun g7 => have h7 := lt_ (hn2 7 (by decide)) g7; f7 h7), (fun g8 => have h8 := lt_ (hn2 8 (by decide)) g8; f8 h8), (fun g9 => have h9 := lt_ (hn2 9 (by decide)) g9; f9 h9), (fun g9 g15 => have h9 := lt_ (hn2 9 (by decide)) g9; have h15 := lt_ (hn2 15 (by decide)) g15; f9r h9 h15), (fun g10 => have h10 := lt_ (hn2 10 (by decide)) g10; f10 h10), (fun g10 => have h10 := lt_ (hn2 10 (by decide)) g10; f10m h10), (fun g10 => have h10 := lt_ (hn2 10 (by decide)) g10; f10k h10), (fun g10 => have h10 := lt_ (hn2 10 (by decide)) g10; f10b h10), (fun g10 => have h10 := lt_ (hn2 10 (by decide)) g10; f10r h10), (fun g11 => have h11 := lt_ (hn2 11 (by decide)) g11; f11 h11), (fun g12 => have h12 := lt_ (hn2 12 (by decide)) g12; f12 h12), (fun g13 => have h13 := lt_ (hn2 13 (by decide)) g13; f13 h13), (fun g14 => have h14 := lt_ (hn2 14 (by decide)) g14; f14 h14), (fun g15 => have h15 := lt_ (hn2 15 (by decide)) g15; fs h15), (fun g16 => have h16 := lt_ (hn2 16 (by decide)) g16; fi1 h16), (fun g17 => have h17 := lt_ (hn2 17 (by decide)) g17; fi2 h17)⟩)
    refine OnceFrom.cons (fun L b w K hI hi hon hup hK => ?_) ?_
    · obtain ⟨xs, hbe, x26, x27, x28, x29, x30, x31, x32, x33, x34, x35, x36, x25, x37, x38, x39, x5, x6, za0, za1, za2, za3, AR, zn0, zn1, zn2, zn3, zc0, zc1, zc2, zc3, cR, b3, gs, u, hxs, hB, hF⟩ := hI
      subst hxs
      have d5 : L 5 = true := hon 5 (mem_of_elem (by kernel_rfl))
      have HB := hide hB
      have HF := hide hF
      obtain ⟨r1, r2, rm, mm, f0, f1, f2, f3, f4, f5, f6, f7, f8, f9, f9r, f10, f10m, f10k, f10b, f10r, f11, f12, f13, f14, fs, fi1, fi2⟩ := hF
      have e1 := f5 d5
      subst e1
      have hT31 : b.tmps[31]? = some (.agg #[.int .i64 0, .int .u64 0]) := by rw [hbe]; exact puts_get_in _ _ _ hn hs (i := 5) rfl rfl
      have HBE := hide hbe
      clear hB hbe r1 r2 rm mm f0 f1 f2 f3 f4 f5 f6 f7 f8 f9 f9r f10 f10m f10k f10b f10r f11 f12 f13 f14 fs fi1 fi2
      rw [if_pos (by rfl)]
      go_simp
      with_reducible refine (watch_any 1 1 0 0 w).mono ?_
      rintro e w2 ⟨rfl, hb⟩
      obtain ⟨r1, r2, rm, mm, f0, f1, f2, f3, f4, f5, f6, f7, f8, f9, f9r, f10, f10m, f10k, f10b, f10r, f11, f12, f13, f14, fs, fi1, fi2⟩ := HF.out
      have hB := HB.out
      have hB0 : w0.heap.size ≤ w.heap.size := hB.size
      refine hK.out _ _ (fun L2 hi2 hn2 => ⟨[x26, x27, x28, x29, x30, (.agg #[.int .i64 0, .int .u64 0]), (.agg #[.int .i64 1, .int .i64 1, .int .i64 0, .int .u64 0]), x33, x34, x35, x36, x25, x37, x38, x39, x5, x6], put_in HBE.out hn rfl 6 _ rfl rfl, x26, x27, x28, x29, x30, (.agg #[.int .i64 0, .int .u64 0]), (.agg #[.int .i64 1, .int .i64 1, .int .i64 0, .int .u64 0]), x33, x34, x35, x36, x25, x37, x38, x39, x5, x6, za0, za1, za2, za3, AR, zn0, zn1, zn2, zn3, zc0, zc1, zc2, zc3, cR, b3, gs, u, rfl, (hB.trans (hb.mono (Nat.le_trans hN hB0))), ((r1 ).below hb), ((r2 ).below hb), (fun g15 => have h15 := lt_ (hn2 15 (by decide)) g15; (rm h15).below hb), (fun g15 => have h15 := lt_ (hn2 15 (by decide)) g15; (mm h15).below hb), (fun g0 => have h0 := lt_ (hn2 0 (by decide)) g0; f0 h0), (fun g1 => have h1 := lt_ (hn2 1 (by decide)) g1; f1 h1), (fun g2 => have h2 := lt_ (hn2 2 (by decide)) g2; f2 h2), (fun g3 => have h3 := lt_ (hn2 3 (by decide)) g3; f3 h3), (fun g4 => have h4 := lt_ (hn2 4 (by decide)) g4; f4 h4), (fun g5 => have h5 := lt_ (hn2 5 (by decide)) g5; rfl), (fun g6 => rfl), (fun g7 => have h7 := lt_ (hn2 7 (by decide)) g7; f7 h7), (fun g8 => have h8 := lt_ (hn2 8 (by decide)) g8; f8 h8), (fun g9 => have h9 := lt_ (hn2 9 (by decide)) g9; f9 h9), (fun g9 g15 => have h9 := lt_ (hn2 9 (by decide)) g9; have h15 := lt_ (hn2 15 (by decide)) g15; (f9r h9 h15).belowX hb), (fun g10 => have h10 := lt_ (hn2 10 (by decide)) g10; f10 h10), (fun g10 => have h10 := lt_ (hn2 10 (by decide)) g10; f10m h10), (fun g10 => have h10 := lt_ (hn2 10 (by decide)) g10; (f10k h10).below hb), (fun g10 => have h10 := lt_ (hn2 10 (by decide)) g10; f10b h10), (fun g10 => have h10 := lt_ (hn2 10 (by decide)) g10; (f10r h10).belowX hb), (fun g11 => have h11 := lt_ (hn2 11 (by decide)) g11; f11 h11), (fun g12 => have h12 := lt_ (hn2 12 (by decide)) g12; f12 h12), (fun g13 => have h13 := lt_ (hn2 13 (by decide)) g13; f13 h13), (fun g14 => have h14 := lt_ (hn2 14 (by decide)) g14; f14 h14), (fun g15 => have h15 := lt_ (hn2 15 (by decide)) g15; (fs h15).below hb), (fun g16 => have h16 := lt_ (hn2 16 (by decide)) g16; fi1 h16), (fun g17 => have h17 := lt_ (hn2 17 (by decide)) g17; fi2 h17)⟩)
    refine OnceFrom.cons (fun L b w K hI hi hon hup hK => ?_) ?_
    · obtain ⟨xs, hbe, x26, x27, x28, x29, x30, x31, x32, x33, x34, x35, x36, x25, x37, x38, x39, x5, x6, za0, za1, za2, za3, AR, zn0, zn1, zn2, zn3, zc0, zc1, zc2, zc3, cR, b3, gs, u, hxs, hB, hF⟩ := hI
      subst hxs
      have HB := hide hB
      have HF := hide hF
      obtain ⟨r1, r2, rm, mm, f0, f1, f2, f3, f4, f5, f6, f7, f8, f9, f9r, f10, f10m, f10k, f10b, f10r, f11, f12, f13, f14, fs, fi1, fi2⟩ := hF
      have q0 := row20 r1
      have q1 := row21 r1
      have hT1 : b.tmps[1]? = some (.pointer (some ⟨g1, 0, none⟩)) := by rw [hbe]; exact (puts_get_out _ _ _ (by decide)).trans hA1
      have HBE := hide hbe
      clear hB hbe r1 r2 rm mm f0 f1 f2 f3 f4 f5 f6 f7 f8 f9 f9r f10 f10m f10k f10b f10r f11 f12 f13 f14 fs fi1 fi2
      rw [if_pos (by rfl)]
      go_simp
      obtain ⟨r1, r2, rm, mm, f0, f1, f2, f3, f4, f5, f6, f7, f8, f9, f9r, f10, f10m, f10k, f10b, f10r, f11, f12, f13, f14, fs, fi1, fi2⟩ := HF.out
      have hB := HB.out
      refine hK.out _ _ (fun L2 hi2 hn2 => ⟨[x26, x27, x28, x29, x30, x31, x32, (.agg #[.int .i64 0, .int .u64 0]), x34, x35, x36, x25, x37, x38, x39, x5, x6], put_in HBE.out hn rfl 7 _ rfl rfl, x26, x27, x28, x29, x30, x31, x32, (.agg #[.int .i64 0, .int .u64 0]), x34, x35, x36, x25, x37, x38, x39, x5, x6, za0, za1, za2, za3, AR, zn0, zn1, zn2, zn3, zc0, zc1, zc2, zc3, cR, b3, gs, u, rfl, hB, (r1 ), (r2 ), (fun g15 => have h15 := lt_ (hn2 15 (by decide)) g15; rm h15), (fun g15 => have h15 := lt_ (hn2 15 (by decide)) g15; mm h15), (fun g0 => have h0 := lt_ (hn2 0 (by decide)) g0; f0 h0), (fun g1 => have h1 := lt_ (hn2 1 (by decide)) g1; f1 h1), (fun g2 => have h2 := lt_ (hn2 2 (by decide)) g2; f2 h2), (fun g3 => have h3 := lt_ (hn2 3 (by decide)) g3; f3 h3), (fun g4 => have h4 := lt_ (hn2 4 (by decide)) g4; f4 h4), (fun g5 => have h5 := lt_ (hn2 5 (by decide)) g5; f5 h5), (fun g6 => have h6 := lt_ (hn2 6 (by decide)) g6; f6 h6), (fun g7 => rfl), (fun g8 => have h8 := lt_ (hn2 8 (by decide)) g8; f8 h8), (fun g9 => have h9 := lt_ (hn2 9 (by decide)) g9; f9 h9), (fun g9 g15 => have h9 := lt_ (hn2 9 (by decide)) g9; have h15 := lt_ (hn2 15 (by decide)) g15; f9r h9 h15), (fun g10 => have h10 := lt_ (hn2 10 (by decide)) g10; f10 h10), (fun g10 => have h10 := lt_ (hn2 10 (by decide)) g10; f10m h10), (fun g10 => have h10 := lt_ (hn2 10 (by decide)) g10; f10k h10), (fun g10 => have h10 := lt_ (hn2 10 (by decide)) g10; f10b h10), (fun g10 => have h10 := lt_ (hn2 10 (by decide)) g10; f10r h10), (fun g11 => have h11 := lt_ (hn2 11 (by decide)) g11; f11 h11), (fun g12 => have h12 := lt_ (hn2 12 (by decide)) g12; f12 h12), (fun g13 => have h13 := lt_ (hn2 13 (by decide)) g13; f13 h13), (fun g14 => have h14 := lt_ (hn2 14 (by decide)) g14; f14 h14), (fun g15 => have h15 := lt_ (hn2 15 (by decide)) g15; fs h15), (fun g16 => have h16 := lt_ (hn2 16 (by decide)) g16; fi1 h16), (fun g17 => have h17 := lt_ (hn2 17 (by decide)) g17; fi2 h17)⟩)
    refine OnceFrom.cons (fun L b w K hI hi hon hup hK => ?_) ?_
    · obtain ⟨xs, hbe, x26, x27, x28, x29, x30, x31, x32, x33, x34, x35, x36, x25, x37, x38, x39, x5, x6, za0, za1, za2, za3, AR, zn0, zn1, zn2, zn3, zc0, zc1, zc2, zc3, cR, b3, gs, u, hxs, hB, hF⟩ := hI
      subst hxs
      have d7 : L 7 = true := hon 7 (mem_of_elem (by kernel_rfl))
      have HB := hide hB
      have HF := hide hF
      obtain ⟨r1, r2, rm, mm, f0, f1, f2, f3, f4, f5, f6, f7, f8, f9, f9r, f10, f10m, f10k, f10b, f10r, f11, f12, f13, f14, fs, fi1, fi2⟩ := hF
      have e1 := f7 d7
      subst e1
      have hT33 : b.tmps[33]? = some (.agg #[.int .i64 0, .int .u64 0]) := by rw [hbe]; exact puts_get_in _ _ _ hn hs (i := 7) rfl rfl
      have HBE := hide hbe
      clear hB hbe r1 r2 rm mm f0 f1 f2 f3 f4 f5 f6 f7 f8 f9 f9r f10 f10m f10k f10b f10r f11 f12 f13 f14 fs fi1 fi2
      rw [if_pos (by rfl)]
      go_simp
      with_reducible refine (watch_any 3 1 0 0 w).mono ?_
      rintro e w2 ⟨rfl, hb⟩
      obtain ⟨r1, r2, rm, mm, f0, f1, f2, f3, f4, f5, f6, f7, f8, f9, f9r, f10, f10m, f10k, f10b, f10r, f11, f12, f13, f14, fs, fi1, fi2⟩ := HF.out
      have hB := HB.out
      have hB0 : w0.heap.size ≤ w.heap.size := hB.size
      refine hK.out _ _ (fun L2 hi2 hn2 => ⟨[x26, x27, x28, x29, x30, x31, x32, (.agg #[.int .i64 0, .int .u64 0]), (.agg #[.int .i64 3, .int .i64 1, .int .i64 0, .int .u64 0]), x35, x36, x25, x37, x38, x39, x5, x6], put_in HBE.out hn rfl 8 _ rfl rfl, x26, x27, x28, x29, x30, x31, x32, (.agg #[.int .i64 0, .int .u64 0]), (.agg #[.int .i64 3, .int .i64 1, .int .i64 0, .int .u64 0]), x35, x36, x25, x37, x38, x39, x5, x6, za0, za1, za2, za3, AR, zn0, zn1, zn2, zn3, zc0, zc1, zc2, zc3, cR, b3, gs, u, rfl, (hB.trans (hb.mono (Nat.le_trans hN hB0))), ((r1 ).below hb), ((r2 ).below hb), (fun g15 => have h15 := lt_ (hn2 15 (by decide)) g15; (rm h15).below hb), (fun g15 => have h15 := lt_ (hn2 15 (by decide)) g15; (mm h15).below hb), (fun g0 => have h0 := lt_ (hn2 0 (by decide)) g0; f0 h0), (fun g1 => have h1 := lt_ (hn2 1 (by decide)) g1; f1 h1), (fun g2 => have h2 := lt_ (hn2 2 (by decide)) g2; f2 h2), (fun g3 => have h3 := lt_ (hn2 3 (by decide)) g3; f3 h3), (fun g4 => have h4 := lt_ (hn2 4 (by decide)) g4; f4 h4), (fun g5 => have h5 := lt_ (hn2 5 (by decide)) g5; f5 h5), (fun g6 => have h6 := lt_ (hn2 6 (by decide)) g6; f6 h6), (fun g7 => have h7 := lt_ (hn2 7 (by decide)) g7; rfl), (fun g8 => rfl), (fun g9 => have h9 := lt_ (hn2 9 (by decide)) g9; f9 h9), (fun g9 g15 => have h9 := lt_ (hn2 9 (by decide)) g9; have h15 := lt_ (hn2 15 (by decide)) g15; (f9r h9 h15).belowX hb), (fun g10 => have h10 := lt_ (hn2 10 (by decide)) g10; f10 h10), (fun g10 => have h10 := lt_ (hn2 10 (by decide)) g10; f10m h10), (fun g10 => have h10 := lt_ (hn2 10 (by decide)) g10; (f10k h10).below hb), (fun g10 => have h10 := lt_ (hn2 10 (by decide)) g10; f10b h10), (fun g10 => have h10 := lt_ (hn2 10 (by decide)) g10; (f10r h10).belowX hb), (fun g11 => have h11 := lt_ (hn2 11 (by decide)) g11; f11 h11), (fun g12 => have h12 := lt_ (hn2 12 (by decide)) g12; f12 h12), (fun g13 => have h13 := lt_ (hn2 13 (by decide)) g13; f13 h13), (fun g14 => have h14 := lt_ (hn2 14 (by decide)) g14; f14 h14), (fun g15 => have h15 := lt_ (hn2 15 (by decide)) g15; (fs h15).below hb), (fun g16 => have h16 := lt_ (hn2 16 (by decide)) g16; fi1 h16), (fun g17 => have h17 := lt_ (hn2 17 (by decide)) g17; fi2 h17)⟩)
    refine OnceFrom.cons (fun L b w K hI hi hon hup hK => ?_) ?_
    · obtain ⟨xs, hbe, x26, x27, x28, x29, x30, x31, x32, x33, x34, x35, x36, x25, x37, x38, x39, x5, x6, za0, za1, za2, za3, AR, zn0, zn1, zn2, zn3, zc0, zc1, zc2, zc3, cR, b3, gs, u, hxs, hB, hF⟩ := hI
      subst hxs
      have d2 : L 2 = true := hon 2 (mem_of_elem (by kernel_rfl))
      have d4 : L 4 = true := hon 4 (mem_of_elem (by kernel_rfl))
      have d6 : L 6 = true := hon 6 (mem_of_elem (by kernel_rfl))
      have d8 : L 8 = true := hon 8 (mem_of_elem (by kernel_rfl))
      have HB := hide hB
      have HF := hide hF
      obtain ⟨r1, r2, rm, mm, f0, f1, f2, f3, f4, f5, f6, f7, f8, f9, f9r, f10, f10m, f10k, f10b, f10r, f11, f12, f13, f14, fs, fi1, fi2⟩ := hF
      have e2 := f2 d2
      subst e2
      have e4 := f4 d4
      subst e4
      have e6 := f6 d6
      subst e6
      have e8 := f8 d8
      subst e8
      have hT28 : b.tmps[28]? = some (.agg #[.int .i64 1, .int .i64 0, .int .i64 0, .int .u64 0]) := by rw [hbe]; exact puts_get_in _ _ _ hn hs (i := 2) rfl rfl
      have hT30 : b.tmps[30]? = some (.agg #[.int .i64 6, .int .i64 0, .int .i64 0, .int .u64 0]) := by rw [hbe]; exact puts_get_in _ _ _ hn hs (i := 4) rfl rfl
      have hT32 : b.tmps[32]? = some (.agg #[.int .i64 1, .int .i64 1, .int .i64 0, .int .u64 0]) := by rw [hbe]; exact puts_get_in _ _ _ hn hs (i := 6) rfl rfl
      have hT34 : b.tmps[34]? = some (.agg #[.int .i64 3, .int .i64 1, .int .i64 0, .int .u64 0]) := by rw [hbe]; exact puts_get_in _ _ _ hn hs (i := 8) rfl rfl
      have HBE := hide hbe
      clear hB hbe r1 r2 rm mm f0 f1 f2 f3 f4 f5 f6 f7 f8 f9 f9r f10 f10m f10k f10b f10r f11 f12 f13 f14 fs fi1 fi2
      rw [if_pos (by rfl)]
      go_simp
      obtain ⟨r1, r2, rm, mm, f0, f1, f2, f3, f4, f5, f6, f7, f8, f9, f9r, f10, f10m, f10k, f10b, f10r, f11, f12, f13, f14, fs, fi1, fi2⟩ := HF.out
      have hB := HB.out
      have hb : Below w.heap.size w (w.alloc (.cells #[.int .i64 1, .int .i64 0, .int .i64 0, .int .u64 0, .int .i64 6, .int .i64 0, .int .i64 0, .int .u64 0, .int .i64 1, .int .i64 1, .int .i64 0, .int .u64 0, .int .i64 3, .int .i64 1, .int .i64 0, .int .u64 0] 45)) := (Below.refl _ _).alloc (Nat.le_refl _) _
      have hB0 : w0.heap.size ≤ w.heap.size := hB.size
      refine hK.out _ _ (fun L2 hi2 hn2 => ⟨[x26, x27, (.agg #[.int .i64 1, .int .i64 0, .int .i64 0, .int .u64 0]), x29, (.agg #[.int .i64 6, .int .i64 0, .int .i64 0, .int .u64 0]), x31, (.agg #[.int .i64 1, .int .i64 1, .int .i64 0, .int .u64 0]), x33, (.agg #[.int .i64 3, .int .i64 1, .int .i64 0, .int .u64 0]), (.slice (some ⟨w.heap.size, 0, none⟩) 4 4), x36, x25, x37, x38, x39, x5, x6], put_in HBE.out hn rfl 9 _ rfl rfl, x26, x27, (.agg #[.int .i64 1, .int .i64 0, .int .i64 0, .int .u64 0]), x29, (.agg #[.int .i64 6, .int .i64 0, .int .i64 0, .int .u64 0]), x31, (.agg #[.int .i64 1, .int .i64 1, .int .i64 0, .int .u64 0]), x33, (.agg #[.int .i64 3, .int .i64 1, .int .i64 0, .int .u64 0]), (.slice (some ⟨w.heap.size, 0, none⟩) 4 4), x36, x25, x37, x38, x39, x5, x6, za0, za1, za2, za3, AR, zn0, zn1, zn2, zn3, zc0, zc1, zc2, zc3, cR, b3, w.heap.size, u, rfl, (hB.trans (hb.mono (Nat.le_trans hN hB0))), ((r1 ).below hb), ((r2 ).below hb), (fun g15 => have h15 := lt_ (hn2 15 (by decide)) g15; (rm h15).below hb), (fun g15 => have h15 := lt_ (hn2 15 (by decide)) g15; (mm h15).below hb), (fun g0 => have h0 := lt_ (hn2 0 (by decide)) g0; f0 h0), (fun g1 => have h1 := lt_ (hn2 1 (by decide)) g1; f1 h1), (fun g2 => have h2 := lt_ (hn2 2 (by decide)) g2; rfl), (fun g3 => have h3 := lt_ (hn2 3 (by decide)) g3; f3 h3), (fun g4 => have h4 := lt_ (hn2 4 (by decide)) g4; rfl), (fun g5 => have h5 := lt_ (hn2 5 (by decide)) g5; f5 h5), (fun g6 => have h6 := lt_ (hn2 6 (by decide)) g6; rfl), (fun g7 => have h7 := lt_ (hn2 7 (by decide)) g7; f7 h7), (fun g8 => have h8 := lt_ (hn2 8 (by decide)) g8; rfl), (fun g9 => rfl), (fun g9 g15 => have h15 := lt_ (hn2 15 (by decide)) g15; (Rd.new w #[.int .i64 1, .int .i64 0, .int .i64 0, .int .u64 0, .int .i64 6, .int .i64 0, .int .i64 0, .int .u64 0, .int .i64 1, .int .i64 1, .int .i64 0, .int .u64 0, .int .i64 3, .int .i64 1, .int .i64 0, .int .u64 0] 45 4 4 rfl).more (by simp)), (fun g10 => have h10 := lt_ (hn2 10 (by decide)) g10; f10 h10), (fun g10 => have h10 := lt_ (hn2 10 (by decide)) g10; f10m h10), (fun g10 => have h10 := lt_ (hn2 10 (by decide)) g10; (f10k h10).below hb), (fun g10 => have h10 := lt_ (hn2 10 (by decide)) g10; f10b h10), (fun g10 => have h10 := lt_ (hn2 10 (by decide)) g10; (f10r h10).belowX hb), (fun g11 => have h11 := lt_ (hn2 11 (by decide)) g11; f11 h11), (fun g12 => have h12 := lt_ (hn2 12 (by decide)) g12; f12 h12), (fun g13 => have h13 := lt_ (hn2 13 (by decide)) g13; f13 h13), (fun g14 => have h14 := lt_ (hn2 14 (by decide)) g14; f14 h14), (fun g15 => have h15 := lt_ (hn2 15 (by decide)) g15; (fs h15).below hb), (fun g16 => have h16 := lt_ (hn2 16 (by decide)) g16; fi1 h16), (fun g17 => have h17 := lt_ (hn2 17 (by decide)) g17; fi2 h17)⟩)
    refine OnceFrom.cons (fun L b w K hI hi hon hup hK => ?_) ?_
    · obtain ⟨xs, hbe, x26, x27, x28, x29, x30, x31, x32, x33, x34, x35, x36, x25, x37, x38, x39, x5, x6, za0, za1, za2, za3, AR, zn0, zn1, zn2, zn3, zc0, zc1, zc2, zc3, cR, b3, gs, u, hxs, hB, hF⟩ := hI
      subst hxs
      have d0 : L 0 = true := hon 0 (mem_of_elem (by kernel_rfl))
      have d9 : L 9 = true := hon 9 (mem_of_elem (by kernel_rfl))
      have u11 : L 11 = false := hup 11 (mem_of_elem (by kernel_rfl))
      have u12 : L 12 = false := hup 12 (mem_of_elem (by kernel_rfl))
      have u13 : L 13 = false := hup 13 (mem_of_elem (by kernel_rfl))
      have u15 : L 15 = false := hup 15 (mem_of_elem (by kernel_rfl))
      have HB := hide hB
      have HF := hide hF
      obtain ⟨r1, r2, rm, mm, f0, f1, f2, f3, f4, f5, f6, f7, f8, f9, f9r, f10, f10m, f10k, f10b, f10r, f11, f12, f13, f14, fs, fi1, fi2⟩ := hF
      have e0 := f0 d0
      subst e0
      have e9 := f9 d9
      subst e9
      have MB := hide (mm u15)
      have HSL := hide (f9r d9 u15)
      have hT26 : b.tmps[26]? = some (.agg #[.slice ya0 yn0 yc0, .slice ya1 yn1 yc1, .slice ya2 yn2 yc2, .slice ya3 yn3 yc3]) := by rw [hbe]; exact puts_get_in _ _ _ hn hs (i := 0) rfl rfl
      have hT35 : b.tmps[35]? = some (.slice (some ⟨gs, 0, none⟩) 4 4) := by rw [hbe]; exact puts_get_in _ _ _ hn hs (i := 9) rfl rfl
      have HBE := hide hbe
      clear hB hbe r1 r2 rm mm f0 f1 f2 f3 f4 f5 f6 f7 f8 f9 f9r f10 f10m f10k f10b f10r f11 f12 f13 f14 fs fi1 fi2
      rw [if_pos (by rfl)]
      go_simp
      with_reducible refine (vRun MB.out fit0 (some ⟨gs, 0, none⟩) 4 4 wl1 HSL.out rfl wlU1 (by omega)).mono ?_
      rintro e w2 ⟨⟨vv, A5, n5, c5, rfl, hm5, hr5, hl5⟩, hb⟩
      rw [wkR1] at hm5 hr5 hl5 ⊢
      have hm5 : MonOut w.heap.size w2 vv wk1 := hm5
      have hl5 : 1 = n5 := hl5
      subst hl5
      have hr5 : Rd w2 w2.heap.size 2 A5 1 (Cs encE [(0, 0)]) := hr5
      obtain ⟨va0, va1, va2, va3, vn0, vn1, vn2, vn3, vc0, vc1, vc2, vc3, rfl⟩ := hm5.form
      obtain ⟨r1, r2, rm, mm, f0, f1, f2, f3, f4, f5, f6, f7, f8, f9, f9r, f10, f10m, f10k, f10b, f10r, f11, f12, f13, f14, fs, fi1, fi2⟩ := HF.out
      have hB := HB.out
      have hB0 : w0.heap.size ≤ w.heap.size := hB.size
      refine hK.out _ _ (fun L2 hi2 hn2 => ⟨[(.agg #[.slice ya0 yn0 yc0, .slice ya1 yn1 yc1, .slice ya2 yn2 yc2, .slice ya3 yn3 yc3]), x27, x28, x29, x30, x31, x32, x33, x34, (.slice (some ⟨gs, 0, none⟩) 4 4), (.tuple #[.agg #[.slice va0 vn0 vc0, .slice va1 vn1 vc1, .slice va2 vn2 vc2, .slice va3 vn3 vc3], .slice A5 1 c5, .int .i64 0]), x25, x37, x38, x39, x5, x6], put_in HBE.out hn rfl 10 _ rfl rfl, (.agg #[.slice ya0 yn0 yc0, .slice ya1 yn1 yc1, .slice ya2 yn2 yc2, .slice ya3 yn3 yc3]), x27, x28, x29, x30, x31, x32, x33, x34, (.slice (some ⟨gs, 0, none⟩) 4 4), (.tuple #[.agg #[.slice va0 vn0 vc0, .slice va1 vn1 vc1, .slice va2 vn2 vc2, .slice va3 vn3 vc3], .slice A5 1 c5, .int .i64 0]), x25, x37, x38, x39, x5, x6, va0, va1, va2, va3, A5, vn0, vn1, vn2, vn3, vc0, vc1, vc2, vc3, c5, w.heap.size, gs, w2, rfl, (hB.trans (hb.mono (Nat.le_trans hN hB0))), ((r1 ).below hb), ((r2 ).below hb), (fun g15 => have h15 := lt_ (hn2 15 (by decide)) g15; (rm h15).below hb), (fun g15 => have h15 := lt_ (hn2 15 (by decide)) g15; (mm h15).below hb), (fun g0 => have h0 := lt_ (hn2 0 (by decide)) g0; rfl), (fun g1 => have h1 := lt_ (hn2 1 (by decide)) g1; f1 h1), (fun g2 => have h2 := lt_ (hn2 2 (by decide)) g2; f2 h2), (fun g3 => have h3 := lt_ (hn2 3 (by decide)) g3; f3 h3), (fun g4 => have h4 := lt_ (hn2 4 (by decide)) g4; f4 h4), (fun g5 => have h5 := lt_ (hn2 5 (by decide)) g5; f5 h5), (fun g6 => have h6 := lt_ (hn2 6 (by decide)) g6; f6 h6), (fun g7 => have h7 := lt_ (hn2 7 (by decide)) g7; f7 h7), (fun g8 => have h8 := lt_ (hn2 8 (by decide)) g8; f8 h8), (fun g9 => have h9 := lt_ (hn2 9 (by decide)) g9; rfl), (fun g9 g15 => have h9 := lt_ (hn2 9 (by decide)) g9; have h15 := lt_ (hn2 15 (by decide)) g15; (f9r h9 h15).belowX hb), (fun g10 => rfl), (fun g10 => hm5), (fun g10 => Keeps.refl _ _), (fun g10 => hB0), (fun g10 => hr5), (fun g11 => have h11 := lt_ (hn2 11 (by decide)) g11; nope h11 u11), (fun g12 => have h12 := lt_ (hn2 12 (by decide)) g12; nope h12 u12), (fun g13 => have h13 := lt_ (hn2 13 (by decide)) g13; nope h13 u13), (fun g14 => have h14 := lt_ (hn2 14 (by decide)) g14; f14 h14), (fun g15 => have h15 := lt_ (hn2 15 (by decide)) g15; nope h15 u15), (fun g16 => have h16 := lt_ (hn2 16 (by decide)) g16; nope h16 (hup 16 (mem_of_elem (by kernel_rfl)))), (fun g17 => have h17 := lt_ (hn2 17 (by decide)) g17; fi2 h17)⟩)
    refine OnceFrom.cons (fun L b w K hI hi hon hup hK => ?_) ?_
    · obtain ⟨xs, hbe, x26, x27, x28, x29, x30, x31, x32, x33, x34, x35, x36, x25, x37, x38, x39, x5, x6, za0, za1, za2, za3, AR, zn0, zn1, zn2, zn3, zc0, zc1, zc2, zc3, cR, b3, gs, u, hxs, hB, hF⟩ := hI
      subst hxs
      have d10 : L 10 = true := hon 10 (mem_of_elem (by kernel_rfl))
      have HB := hide hB
      have HF := hide hF
      obtain ⟨r1, r2, rm, mm, f0, f1, f2, f3, f4, f5, f6, f7, f8, f9, f9r, f10, f10m, f10k, f10b, f10r, f11, f12, f13, f14, fs, fi1, fi2⟩ := hF
      have e10 := f10 d10
      subst e10
      have hT36 : b.tmps[36]? = some (.tuple #[.agg #[.slice za0 zn0 zc0, .slice za1 zn1 zc1, .slice za2 zn2 zc2, .slice za3 zn3 zc3], .slice AR 1 cR, .int .i64 0]) := by rw [hbe]; exact puts_get_in _ _ _ hn hs (i := 10) rfl rfl
      have HBE := hide hbe
      clear hB hbe r1 r2 rm mm f0 f1 f2 f3 f4 f5 f6 f7 f8 f9 f9r f10 f10m f10k f10b f10r f11 f12 f13 f14 fs fi1 fi2
      rw [if_pos (by rfl)]
      go_simp
      obtain ⟨r1, r2, rm, mm, f0, f1, f2, f3, f4, f5, f6, f7, f8, f9, f9r, f10, f10m, f10k, f10b, f10r, f11, f12, f13, f14, fs, fi1, fi2⟩ := HF.out
      have hB := HB.out
      refine hK.out _ _ (fun L2 hi2 hn2 => ⟨[x26, x27, x28, x29, x30, x31, x32, x33, x34, x35, (.tuple #[.agg #[.slice za0 zn0 zc0, .slice za1 zn1 zc1, .slice za2 zn2 zc2, .slice za3 zn3 zc3], .slice AR 1 cR, .int .i64 0]), (.tuple #[.agg #[.slice za0 zn0 zc0, .slice za1 zn1 zc1, .slice za2 zn2 zc2, .slice za3 zn3 zc3], .slice AR 1 cR, .int .i64 0]), x37, x38, x39, x5, x6], put_in HBE.out hn rfl 11 _ rfl rfl, x26, x27, x28, x29, x30, x31, x32, x33, x34, x35, (.tuple #[.agg #[.slice za0 zn0 zc0, .slice za1 zn1 zc1, .slice za2 zn2 zc2, .slice za3 zn3 zc3], .slice AR 1 cR, .int .i64 0]), (.tuple #[.agg #[.slice za0 zn0 zc0, .slice za1 zn1 zc1, .slice za2 zn2 zc2, .slice za3 zn3 zc3], .slice AR 1 cR, .int .i64 0]), x37, x38, x39, x5, x6, za0, za1, za2, za3, AR, zn0, zn1, zn2, zn3, zc0, zc1, zc2, zc3, cR, b3, gs, u, rfl, hB, (r1 ), (r2 ), (fun g15 => have h15 := lt_ (hn2 15 (by decide)) g15; rm h15), (fun g15 => have h15 := lt_ (hn2 15 (by decide)) g15; mm h15), (fun g0 => have h0 := lt_ (hn2 0 (by decide)) g0; f0 h0), (fun g1 => have h1 := lt_ (hn2 1 (by decide)) g1; f1 h1), (fun g2 => have h2 := lt_ (hn2 2 (by decide)) g2; f2 h2), (fun g3 => have h3 := lt_ (hn2 3 (by decide)) g3; f3 h3), (fun g4 => have h4 := lt_ (hn2 4 (by decide)) g4; f4 h4), (fun g5 => have h5 := lt_ (hn2 5 (by decide)) g5; f5 h5), (fun g6 => have h6 := lt_ (hn2 6 (by decide)) g6; f6 h6), (fun g7 => have h7 := lt_ (hn2 7 (by decide)) g7; f7 h7), (fun g8 => have h8 := lt_ (hn2 8 (by decide)) g8; f8 h8), (fun g9 => have h9 := lt_ (hn2 9 (by decide)) g9; f9 h9), (fun g9 g15 => have h9 := lt_ (hn2 9 (by decide)) g9; have h15 := lt_ (hn2 15 (by decide)) g15; f9r h9 h15), (fun g10 => have h10 := lt_ (hn2 10 (by decide)) g10; rfl), (fun g10 => have h10 := lt_ (hn2 10 (by decide)) g10; f10m h10), (fun g10 => have h10 := lt_ (hn2 10 (by decide)) g10; f10k h10), (fun g10 => have h10 := lt_ (hn2 10 (by decide)) g10; f10b h10), (fun g10 => have h10 := lt_ (hn2 10 (by decide)) g10; f10r h10), (fun g11 => rfl), (fun g12 => have h12 := lt_ (hn2 12 (by decide)) g12; f12 h12), (fun g13 => have h13 := lt_ (hn2 13 (by decide)) g13; f13 h13), (fun g14 => have h14 := lt_ (hn2 14 (by decide)) g14; f14 h14), (fun g15 => have h15 := lt_ (hn2 15 (by decide)) g15; fs h15), (fun g16 => have h16 := lt_ (hn2 16 (by decide)) g16; fi1 h16), (fun g17 => have h17 := lt_ (hn2 17 (by decide)) g17; fi2 h17)⟩)
    refine OnceFrom.cons (fun L b w K hI hi hon hup hK => ?_) ?_
    · obtain ⟨xs, hbe, x26, x27, x28, x29, x30, x31, x32, x33, x34, x35, x36, x25, x37, x38, x39, x5, x6, za0, za1, za2, za3, AR, zn0, zn1, zn2, zn3, zc0, zc1, zc2, zc3, cR, b3, gs, u, hxs, hB, hF⟩ := hI
      subst hxs
      have d11 : L 11 = true := hon 11 (mem_of_elem (by kernel_rfl))
      have HB := hide hB
      have HF := hide hF
      obtain ⟨r1, r2, rm, mm, f0, f1, f2, f3, f4, f5, f6, f7, f8, f9, f9r, f10, f10m, f10k, f10b, f10r, f11, f12, f13, f14, fs, fi1, fi2⟩ := hF
      have e11 := f11 d11
      subst e11
      have hT25 : b.tmps[25]? = some (.tuple #[.agg #[.slice za0 zn0 zc0, .slice za1 zn1 zc1, .slice za2 zn2 zc2, .slice za3 zn3 zc3], .slice AR 1 cR, .int .i64 0]) := by rw [hbe]; exact puts_get_in _ _ _ hn hs (i := 11) rfl rfl
      have HBE := hide hbe
      clear hB hbe r1 r2 rm mm f0 f1 f2 f3 f4 f5 f6 f7 f8 f9 f9r f10 f10m f10k f10b f10r f11 f12 f13 f14 fs fi1 fi2
      rw [if_pos (by rfl)]
      go_simp
      obtain ⟨r1, r2, rm, mm, f0, f1, f2, f3, f4, f5, f6, f7, f8, f9, f9r, f10, f10m, f10k, f10b, f10r, f11, f12, f13, f14, fs, fi1, fi2⟩ := HF.out
      have hB := HB.out
      refine hK.out _ _ (fun L2 hi2 hn2 => ⟨[x26, x27, x28, x29, x30, x31, x32, x33, x34, x35, x36, (.tuple #[.agg #[.slice za0 zn0 zc0, .slice za1 zn1 zc1, .slice za2 zn2 zc2, .slice za3 zn3 zc3], .slice AR 1 cR, .int .i64 0]), (.agg #[.slice za0 zn0 zc0, .slice za1 zn1 zc1, .slice za2 zn2 zc2, .slice za3 zn3 zc3]), x38, x39, x5, x6], put_in HBE.out hn rfl 12 _ rfl rfl, x26, x27, x28, x29, x30, x31, x32, x33, x34, x35, x36, (.tuple #[.agg #[.slice za0 zn0 zc0, .slice za1 zn1 zc1, .slice za2 zn2 zc2, .slice za3 zn3 zc3], .slice AR 1 cR, .int .i64 0]), (.agg #[.slice za0 zn0 zc0, .slice za1 zn1 zc1, .slice za2 zn2 zc2, .slice za3 zn3 zc3]), x38, x39, x5, x6, za0, za1, za2, za3, AR, zn0, zn1, zn2, zn3, zc0, zc1, zc2, zc3, cR, b3, gs, u, rfl, hB, (r1 ), (r2 ), (fun g15 => have h15 := lt_ (hn2 15 (by decide)) g15; rm h15), (fun g15 => have h15 := lt_ (hn2 15 (by decide)) g15; mm h15), (fun g0 => have h0 := lt_ (hn2 0 (by decide)) g0; f0 h0), (fun g1 => have h1 := lt_ (hn2 1 (by decide)) g1; f1 h1), (fun g2 => have h2 := lt_ (hn2 2 (by decide)) g2; f2 h2), (fun g3 => have h3 := lt_ (hn2 3 (by decide)) g3; f3 h3), (fun g4 => have h4 := lt_ (hn2 4 (by decide)) g4; f4 h4), (fun g5 => have h5 := lt_ (hn2 5 (by decide)) g5; f5 h5), (fun g6 => have h6 := lt_ (hn2 6 (by decide)) g6; f6 h6), (fun g7 => have h7 := lt_ (hn2 7 (by decide)) g7; f7 h7), (fun g8 => have h8 := lt_ (hn2 8 (by decide)) g8; f8 h8), (fun g9 => have h9 := lt_ (hn2 9 (by decide)) g9; f9 h9), (fun g9 g15 => have h9 := lt_ (hn2 9 (by decide)) g9; have h15 := lt_ (hn2 15 (by decide)) g15; f9r h9 h15), (fun g10 => have h10 := lt_ (hn2 10 (by decide)) g10; f10 h10), (fun g10 => have h10 := lt_ (hn2 10 (by decide)) g10; f10m h10), (fun g10 => have h10 := lt_ (hn2 10 (by decide)) g10; f10k h10), (fun g10 => have h10 := lt_ (hn2 10 (by decide)) g10; f10b h10), (fun g10 => have h10 := lt_ (hn2 10 (by decide)) g10; f10r h10), (fun g11 => have h11 := lt_ (hn2 11 (by decide)) g11; rfl), (fun g12 => rfl), (fun g13 => have h13 := lt_ (hn2 13 (by decide)) g13; f13 h13), (fun g14 => have h14 := lt_ (hn2 14 (by decide)) g14; f14 h14), (fun g15 => have h15 := lt_ (hn2 15 (by decide)) g15; fs h15), (fun g16 => have h16 := lt_ (hn2 16 (by decide)) g16; fi1 h16), (fun g17 => have h17 := lt_ (hn2 17 (by decide)) g17; fi2 h17)⟩)
    refine OnceFrom.cons (fun L b w K hI hi hon hup hK => ?_) ?_
    · obtain ⟨xs, hbe, x26, x27, x28, x29, x30, x31, x32, x33, x34, x35, x36, x25, x37, x38, x39, x5, x6, za0, za1, za2, za3, AR, zn0, zn1, zn2, zn3, zc0, zc1, zc2, zc3, cR, b3, gs, u, hxs, hB, hF⟩ := hI
      subst hxs
      have d11 : L 11 = true := hon 11 (mem_of_elem (by kernel_rfl))
      have HB := hide hB
      have HF := hide hF
      obtain ⟨r1, r2, rm, mm, f0, f1, f2, f3, f4, f5, f6, f7, f8, f9, f9r, f10, f10m, f10k, f10b, f10r, f11, f12, f13, f14, fs, fi1, fi2⟩ := hF
      have e11 := f11 d11
      subst e11
      have hT25 : b.tmps[25]? = some (.tuple #[.agg #[.slice za0 zn0 zc0, .slice za1 zn1 zc1, .slice za2 zn2 zc2, .slice za3 zn3 zc3], .slice AR 1 cR, .int .i64 0]) := by rw [hbe]; exact puts_get_in _ _ _ hn hs (i := 11) rfl rfl
      have HBE := hide hbe
      clear hB hbe r1 r2 rm mm f0 f1 f2 f3 f4 f5 f6 f7 f8 f9 f9r f10 f10m f10k f10b f10r f11 f12 f13 f14 fs fi1 fi2
      rw [if_pos (by rfl)]
      go_simp
      obtain ⟨r1, r2, rm, mm, f0, f1, f2, f3, f4, f5, f6, f7, f8, f9, f9r, f10, f10m, f10k, f10b, f10r, f11, f12, f13, f14, fs, fi1, fi2⟩ := HF.out
      have hB := HB.out
      refine hK.out _ _ (fun L2 hi2 hn2 => ⟨[x26, x27, x28, x29, x30, x31, x32, x33, x34, x35, x36, (.tuple #[.agg #[.slice za0 zn0 zc0, .slice za1 zn1 zc1, .slice za2 zn2 zc2, .slice za3 zn3 zc3], .slice AR 1 cR, .int .i64 0]), x37, (.slice AR 1 cR), x39, x5, x6], put_in HBE.out hn rfl 13 _ rfl rfl, x26, x27, x28, x29, x30, x31, x32, x33, x34, x35, x36, (.tuple #[.agg #[.slice za0 zn0 zc0, .slice za1 zn1 zc1, .slice za2 zn2 zc2, .slice za3 zn3 zc3], .slice AR 1 cR, .int .i64 0]), x37, (.slice AR 1 cR), x39, x5, x6, za0, za1, za2, za3, AR, zn0, zn1, zn2, zn3, zc0, zc1, zc2, zc3, cR, b3, gs, u, rfl, hB, (r1 ), (r2 ), (fun g15 => have h15 := lt_ (hn2 15 (by decide)) g15; rm h15), (fun g15 => have h15 := lt_ (hn2 15 (by decide)) g15; mm h15), (fun g0 => have h0 := lt_ (hn2 0 (by decide)) g0; f0 h0), (fun g1 => have h1 := lt_ (hn2 1 (by decide)) g1; f1 h1), (fun g2 => have h2 := lt_ (hn2 2 (by decide)) g2; f2 h2), (fun g3 => have h3 := lt_ (hn2 3 (by decide)) g3; f3 h3), (fun g4 => have h4 := lt_ (hn2 4 (by decide)) g4; f4 h4), (fun g5 => have h5 := lt_ (hn2 5 (by decide)) g5; f5 h5), (fun g6 => have h6 := lt_ (hn2 6 (by decide)) g6; f6 h6), (fun g7 => have h7 := lt_ (hn2 7 (by decide)) g7; f7 h7), (fun g8 => have h8 := lt_ (hn2 8 (by decide)) g8; f8 h8), (fun g9 => have h9 := lt_ (hn2 9 (by decide)) g9; f9 h9), (fun g9 g15 => have h9 := lt_ (hn2 9 (by decide)) g9; have h15 := lt_ (hn2 15 (by decide)) g15; f9r h9 h15), (fun g10 => have h10 := lt_ (hn2 10 (by decide)) g10; f10 h10), (fun g10 => have h10 := lt_ (hn2 10 (by decide)) g10; f10m h10), (fun g10 => have h10 := lt_ (hn2 10 (by decide)) g10; f10k h10), (fun g10 => have h10 := lt_ (hn2 10 (by decide)) g10; f10b h10), (fun g10 => have h10 := lt_ (hn2 10 (by decide)) g10; f10r h10), (fun g11 => have h11 := lt_ (hn2 11 (by decide)) g11; rfl), (fun g12 => have h12 := lt_ (hn2 12 (by decide)) g12; f12 h12), (fun g13 => rfl), (fun g14 => have h14 := lt_ (hn2 14 (by decide)) g14; f14 h14), (fun g15 => have h15 := lt_ (hn2 15 (by decide)) g15; fs h15), (fun g16 => have h16 := lt_ (hn2 16 (by decide)) g16; fi1 h16), (fun g17 => have h17 := lt_ (hn2 17 (by decide)) g17; fi2 h17)⟩)
    refine OnceFrom.cons (fun L b w K hI hi hon hup hK => ?_) ?_
    · obtain ⟨xs, hbe, x26, x27, x28, x29, x30, x31, x32, x33, x34, x35, x36, x25, x37, x38, x39, x5, x6, za0, za1, za2, za3, AR, zn0, zn1, zn2, zn3, zc0, zc1, zc2, zc3, cR, b3, gs, u, hxs, hB, hF⟩ := hI
      subst hxs
      have d11 : L 11 = true := hon 11 (mem_of_elem (by kernel_rfl))
      have HB := hide hB
      have HF := hide hF
      obtain ⟨r1, r2, rm, mm, f0, f1, f2, f3, f4, f5, f6, f7, f8, f9, f9r, f10, f10m, f10k, f10b, f10r, f11, f12, f13, f14, fs, fi1, fi2⟩ := hF
      have e11 := f11 d11
      subst e11
      have hT25 : b.tmps[25]? = some (.tuple #[.agg #[.slice za0 zn0 zc0, .slice za1 zn1 zc1, .slice za2 zn2 zc2, .slice za3 zn3 zc3], .slice AR 1 cR, .int .i64 0]) := by rw [hbe]; exact puts_get_in _ _ _ hn hs (i := 11) rfl rfl
      have HBE := hide hbe
      clear hB hbe r1 r2 rm mm f0 f1 f2 f3 f4 f5 f6 f7 f8 f9 f9r f10 f10m f10k f10b f10r f11 f12 f13 f14 fs fi1 fi2
      rw [if_pos (by rfl)]
      go_simp
      obtain ⟨r1, r2, rm, mm, f0, f1, f2, f3, f4, f5, f6, f7, f8, f9, f9r, f10, f10m, f10k, f10b, f10r, f11, f12, f13, f14, fs, fi1, fi2⟩ := HF.out
      have hB := HB.out
      refine hK.out _ _ (fun L2 hi2 hn2 => ⟨[x26, x27, x28, x29, x30, x31, x32, x33, x34, x35, x36, (.tuple #[.agg #[.slice za0 zn0 zc0, .slice za1 zn1 zc1, .slice za2 zn2 zc2, .slice za3 zn3 zc3], .slice AR 1 cR, .int .i64 0]), x37, x38, (.int .i64 0), x5, x6], put_in HBE.out hn rfl 14 _ rfl rfl, x26, x27, x28, x29, x30, x31, x32, x33, x34, x35, x36, (.tuple #[.agg #[.slice za0 zn0 zc0, .slice za1 zn1 zc1, .slice za2 zn2 zc2, .slice za3 zn3 zc3], .slice AR 1 cR, .int .i64 0]), x37, x38, (.int .i64 0), x5, x6, za0, za1, za2, za3, AR, zn0, zn1, zn2, zn3, zc0, zc1, zc2, zc3, cR, b3, gs, u, rfl, hB, (r1 ), (r2 ), (fun g15 => have h15 := lt_ (hn2 15 (by decide)) g15; rm h15), (fun g15 => have h15 := lt_ (hn2 15 (by decide)) g15; mm h15), (fun g0 => have h0 := lt_ (hn2 0 (by decide)) g0; f0 h0), (fun g1 => have h1 := lt_ (hn2 1 (by decide)) g1; f1 h1), (fun g2 => have h2 := lt_ (hn2 2 (by decide)) g2; f2 h2), (fun g3 => have h3 := lt_ (hn2 3 (by decide)) g3; f3 h3), (fun g4 => have h4 := lt_ (hn2 4 (by decide)) g4; f4 h4), (fun g5 => have h5 := lt_ (hn2 5 (by decide)) g5; f5 h5), (fun g6 => have h6 := lt_ (hn2 6 (by decide)) g6; f6 h6), (fun g7 => have h7 := lt_ (hn2 7 (by decide)) g7; f7 h7), (fun g8 => have h8 := lt_ (hn2 8 (by decide)) g8; f8 h8), (fun g9 => have h9 := lt_ (hn2 9 (by decide)) g9; f9 h9), (fun g9 g15 => have h9 := lt_ (hn2 9 (by decide)) g9; have h15 := lt_ (hn2 15 (by decide)) g15; f9r h9 h15), (fun g10 => have h10 := lt_ (hn2 10 (by decide)) g10; f10 h10), (fun g10 => have h10 := lt_ (hn2 10 (by decide)) g10; f10m h10), (fun g10 => have h10 := lt_ (hn2 10 (by decide)) g10; f10k h10), (fun g10 => have h10 := lt_ (hn2 10 (by decide)) g10; f10b h10), (fun g10 => have h10 := lt_ (hn2 10 (by decide)) g10; f10r h10), (fun g11 => have h11 := lt_ (hn2 11 (by decide)) g11; rfl), (fun g12 => have h12 := lt_ (hn2 12 (by decide)) g12; f12 h12), (fun g13 => have h13 := lt_ (hn2 13 (by decide)) g13; f13 h13), (fun g14 => rfl), (fun g15 => have h15 := lt_ (hn2 15 (by decide)) g15; fs h15), (fun g16 => have h16 := lt_ (hn2 16 (by decide)) g16; fi1 h16), (fun g17 => have h17 := lt_ (hn2 17 (by decide)) g17; fi2 h17)⟩)
    refine OnceFrom.cons (fun L b w K hI hi hon hup hK => ?_) ?_
    · obtain ⟨xs, hbe, x26, x27, x28, x29, x30, x31, x32, x33, x34, x35, x36, x25, x37, x38, x39, x5, x6, za0, za1, za2, za3, AR, zn0, zn1, zn2, zn3, zc0, zc1, zc2, zc3, cR, b3, gs, u, hxs, hB, hF⟩ := hI
      subst hxs
      have d12 : L 12 = true := hon 12 (mem_of_elem (by kernel_rfl))
      have d10 : L 10 = true := hon 10 (mem_of_elem (by kernel_rfl))
      have HB := hide hB
      have HF := hide hF
      obtain ⟨r1, r2, rm, mm, f0, f1, f2, f3, f4, f5, f6, f7, f8, f9, f9r, f10, f10m, f10k, f10b, f10r, f11, f12, f13, f14, fs, fi1, fi2⟩ := hF
      have e12 := f12 d12
      subst e12
      have R8 := rm hi
      obtain ⟨q0, q1, q2, q3⟩ := row4 R8
      have ql := R8.lt
      have p0 := R8.frozen 0
      have p1 := R8.frozen 1
      have p2 := R8.frozen 2
      have p3 := R8.frozen 3
      replace R8 := hide R8
      have hT37 : b.tmps[37]? = some (.agg #[.slice za0 zn0 zc0, .slice za1 zn1 zc1, .slice za2 zn2 zc2, .slice za3 zn3 zc3]) := by rw [hbe]; exact puts_get_in _ _ _ hn hs (i := 12) rfl rfl
      have hT3 : b.tmps[3]? = some (.pointer (some ⟨g0, 0, none⟩)) := by rw [hbe]; exact (puts_get_out _ _ _ (by decide)).trans hA3
      have HBE := hide hbe
      clear hB hbe r1 r2 rm mm f0 f1 f2 f3 f4 f5 f6 f7 f8 f9 f9r f10 f10m f10k f10b f10r f11 f12 f13 f14 fs fi1 fi2
      rw [if_pos (by rfl)]
      go_simp
      obtain ⟨r1, r2, rm, mm, f0, f1, f2, f3, f4, f5, f6, f7, f8, f9, f9r, f10, f10m, f10k, f10b, f10r, f11, f12, f13, f14, fs, fi1, fi2⟩ := HF.out
      have hB := HB.out
      have HL := laidM4_of (n := N0) (v0 := .slice za0 zn0 zc0) (v1 := .slice za1 zn1 zc1) (v2 := .slice za2 zn2 zc2) (v3 := .slice za3 zn3 zc3) R8.out hN0
      refine hK.out _ _ (fun L2 hi2 hn2 => ⟨[x26, x27, x28, x29, x30, x31, x32, x33, x34, x35, x36, x25, (.agg #[.slice za0 zn0 zc0, .slice za1 zn1 zc1, .slice za2 zn2 zc2, .slice za3 zn3 zc3]), x38, x39, x5, x6], HBE.out, x26, x27, x28, x29, x30, x31, x32, x33, x34, x35, x36, x25, (.agg #[.slice za0 zn0 zc0, .slice za1 zn1 zc1, .slice za2 zn2 zc2, .slice za3 zn3 zc3]), x38, x39, x5, x6, za0, za1, za2, za3, AR, zn0, zn1, zn2, zn3, zc0, zc1, zc2, zc3, cR, b3, gs, u, rfl, (hB.trans HL.2.2), ((HL.2.1 _ (fun e => by have h1 := r1; rw [e] at h1; exact absurd (row_typ h1 R8.out) (by decide))).trans r1), ((HL.2.1 _ (fun e => by have h1 := r2; rw [e] at h1; exact absurd (row_typ h1 R8.out) (by decide))).trans r2), (fun g15 => nope hi2 g15), (fun g15 => nope hi2 g15), (fun g0 => have h0 := lt_ (hn2 0 (by decide)) g0; f0 h0), (fun g1 => have h1 := lt_ (hn2 1 (by decide)) g1; f1 h1), (fun g2 => have h2 := lt_ (hn2 2 (by decide)) g2; f2 h2), (fun g3 => have h3 := lt_ (hn2 3 (by decide)) g3; f3 h3), (fun g4 => have h4 := lt_ (hn2 4 (by decide)) g4; f4 h4), (fun g5 => have h5 := lt_ (hn2 5 (by decide)) g5; f5 h5), (fun g6 => have h6 := lt_ (hn2 6 (by decide)) g6; f6 h6), (fun g7 => have h7 := lt_ (hn2 7 (by decide)) g7; f7 h7), (fun g8 => have h8 := lt_ (hn2 8 (by decide)) g8; f8 h8), (fun g9 => have h9 := lt_ (hn2 9 (by decide)) g9; f9 h9), (fun g9 g15 => nope hi2 g15), (fun g10 => have h10 := lt_ (hn2 10 (by decide)) g10; f10 h10), (fun g10 => have h10 := lt_ (hn2 10 (by decide)) g10; f10m h10), (fun g10 => have h10 := lt_ (hn2 10 (by decide)) g10; (f10k d10).store (.inl (Nat.lt_of_lt_of_le R0.lt (f10b d10))) HL.2.1 HL.2.2.size), (fun g10 => have h10 := lt_ (hn2 10 (by decide)) g10; f10b h10), (fun g10 => have h10 := lt_ (hn2 10 (by decide)) g10; rdE_store (f10r d10) rfl R8.out HL.2.1), (fun g11 => have h11 := lt_ (hn2 11 (by decide)) g11; f11 h11), (fun g12 => have h12 := lt_ (hn2 12 (by decide)) g12; rfl), (fun g13 => have h13 := lt_ (hn2 13 (by decide)) g13; f13 h13), (fun g14 => have h14 := lt_ (hn2 14 (by decide)) g14; f14 h14), (fun g15 => HL.1), (fun g16 => have h16 := lt_ (hn2 16 (by decide)) g16; fi1 h16), (fun g17 => have h17 := lt_ (hn2 17 (by decide)) g17; fi2 h17)⟩)
    refine OnceFrom.cons (fun L b w K hI hi hon hup hK => ?_) ?_
    · obtain ⟨xs, hbe, x26, x27, x28, x29, x30, x31, x32, x33, x34, x35, x36, x25, x37, x38, x39, x5, x6, za0, za1, za2, za3, AR, zn0, zn1, zn2, zn3, zc0, zc1, zc2, zc3, cR, b3, gs, u, hxs, hB, hF⟩ := hI
      subst hxs
      have d13 : L 13 = true := hon 13 (mem_of_elem (by kernel_rfl))
      have HB := hide hB
      have HF := hide hF
      obtain ⟨r1, r2, rm, mm, f0, f1, f2, f3, f4, f5, f6, f7, f8, f9, f9r, f10, f10m, f10k, f10b, f10r, f11, f12, f13, f14, fs, fi1, fi2⟩ := hF
      have e13 := f13 d13
      subst e13
      have hT38 : b.tmps[38]? = some (.slice AR 1 cR) := by rw [hbe]; exact puts_get_in _ _ _ hn hs (i := 13) rfl rfl
      have HBE := hide hbe
      clear hB hbe r1 r2 rm mm f0 f1 f2 f3 f4 f5 f6 f7 f8 f9 f9r f10 f10m f10k f10b f10r f11 f12 f13 f14 fs fi1 fi2
      rw [if_pos (by rfl)]
      go_simp
      obtain ⟨r1, r2, rm, mm, f0, f1, f2, f3, f4, f5, f6, f7, f8, f9, f9r, f10, f10m, f10k, f10b, f10r, f11, f12, f13, f14, fs, fi1, fi2⟩ := HF.out
      have hB := HB.out
      refine hK.out _ _ (fun L2 hi2 hn2 => ⟨[x26, x27, x28, x29, x30, x31, x32, x33, x34, x35, x36, x25, x37, (.slice AR 1 cR), x39, (.slice AR 1 cR), x6], put_in HBE.out hn rfl 15 _ rfl rfl, x26, x27, x28, x29, x30, x31, x32, x33, x34, x35, x36, x25, x37, (.slice AR 1 cR), x39, (.slice AR 1 cR), x6, za0, za1, za2, za3, AR, zn0, zn1, zn2, zn3, zc0, zc1, zc2, zc3, cR, b3, gs, u, rfl, hB, (r1 ), (r2 ), (fun g15 => have h15 := lt_ (hn2 15 (by decide)) g15; rm h15), (fun g15 => have h15 := lt_ (hn2 15 (by decide)) g15; mm h15), (fun g0 => have h0 := lt_ (hn2 0 (by decide)) g0; f0 h0), (fun g1 => have h1 := lt_ (hn2 1 (by decide)) g1; f1 h1), (fun g2 => have h2 := lt_ (hn2 2 (by decide)) g2; f2 h2), (fun g3 => have h3 := lt_ (hn2 3 (by decide)) g3; f3 h3), (fun g4 => have h4 := lt_ (hn2 4 (by decide)) g4; f4 h4), (fun g5 => have h5 := lt_ (hn2 5 (by decide)) g5; f5 h5), (fun g6 => have h6 := lt_ (hn2 6 (by decide)) g6; f6 h6), (fun g7 => have h7 := lt_ (hn2 7 (by decide)) g7; f7 h7), (fun g8 => have h8 := lt_ (hn2 8 (by decide)) g8; f8 h8), (fun g9 => have h9 := lt_ (hn2 9 (by decide)) g9; f9 h9), (fun g9 g15 => have h9 := lt_ (hn2 9 (by decide)) g9; have h15 := lt_ (hn2 15 (by decide)) g15; f9r h9 h15), (fun g10 => have h10 := lt_ (hn2 10 (by decide)) g10; f10 h10), (fun g10 => have h10 := lt_ (hn2 10 (by decide)) g10; f10m h10), (fun g10 => have h10 := lt_ (hn2 10 (by decide)) g10; f10k h10), (fun g10 => have h10 := lt_ (hn2 10 (by decide)) g10; f10b h10), (fun g10 => have h10 := lt_ (hn2 10 (by decide)) g10; f10r h10), (fun g11 => have h11 := lt_ (hn2 11 (by decide)) g11; f11 h11), (fun g12 => have h12 := lt_ (hn2 12 (by decide)) g12; f12 h12), (fun g13 => have h13 := lt_ (hn2 13 (by decide)) g13; rfl), (fun g14 => have h14 := lt_ (hn2 14 (by decide)) g14; f14 h14), (fun g15 => have h15 := lt_ (hn2 15 (by decide)) g15; fs h15), (fun g16 => rfl), (fun g17 => have h17 := lt_ (hn2 17 (by decide)) g17; fi2 h17)⟩)
    refine OnceFrom.cons (fun L b w K hI hi hon hup hK => ?_) ?_
    · obtain ⟨xs, hbe, x26, x27, x28, x29, x30, x31, x32, x33, x34, x35, x36, x25, x37, x38, x39, x5, x6, za0, za1, za2, za3, AR, zn0, zn1, zn2, zn3, zc0, zc1, zc2, zc3, cR, b3, gs, u, hxs, hB, hF⟩ := hI
      subst hxs
      have d14 : L 14 = true := hon 14 (mem_of_elem (by kernel_rfl))
      have HB := hide hB
      have HF := hide hF
      obtain ⟨r1, r2, rm, mm, f0, f1, f2, f3, f4, f5, f6, f7, f8, f9, f9r, f10, f10m, f10k, f10b, f10r, f11, f12, f13, f14, fs, fi1, fi2⟩ := hF
      have e14 := f14 d14
      subst e14
      have hT39 : b.tmps[39]? = some (.int .i64 0) := by rw [hbe]; exact puts_get_in _ _ _ hn hs (i := 14) rfl rfl
      have HBE := hide hbe
      clear hB hbe r1 r2 rm mm f0 f1 f2 f3 f4 f5 f6 f7 f8 f9 f9r f10 f10m f10k f10b f10r f11 f12 f13 f14 fs fi1 fi2
      rw [if_pos (by rfl)]
      go_simp
      obtain ⟨r1, r2, rm, mm, f0, f1, f2, f3, f4, f5, f6, f7, f8, f9, f9r, f10, f10m, f10k, f10b, f10r, f11, f12, f13, f14, fs, fi1, fi2⟩ := HF.out
      have hB := HB.out
      refine hK.out _ _ (fun L2 hi2 hn2 => ⟨[x26, x27, x28, x29, x30, x31, x32, x33, x34, x35, x36, x25, x37, x38, (.int .i64 0), x5, (.int .i64 0)], put_in HBE.out hn rfl 16 _ rfl rfl, x26, x27, x28, x29, x30, x31, x32, x33, x34, x35, x36, x25, x37, x38, (.int .i64 0), x5, (.int .i64 0), za0, za1, za2, za3, AR, zn0, zn1, zn2, zn3, zc0, zc1, zc2, zc3, cR, b3, gs, u, rfl, hB, (r1 ), (r2 ), (fun g15 => have h15 := lt_ (hn2 15 (by decide)) g15; rm h15), (fun g15 => have h15 := lt_ (hn2 15 (by decide)) g15; mm h15), (fun g0 => have h0 := lt_ (hn2 0 (by decide)) g0; f0 h0), (fun g1 => have h1 := lt_ (hn2 1 (by decide)) g1; f1 h1), (fun g2 => have h2 := lt_ (hn2 2 (by decide)) g2; f2 h2), (fun g3 => have h3 := lt_ (hn2 3 (by decide)) g3; f3 h3), (fun g4 => have h4 := lt_ (hn2 4 (by decide)) g4; f4 h4), (fun g5 => have h5 := lt_ (hn2 5 (by decide)) g5; f5 h5), (fun g6 => have h6 := lt_ (hn2 6 (by decide)) g6; f6 h6), (fun g7 => have h7 := lt_ (hn2 7 (by decide)) g7; f7 h7), (fun g8 => have h8 := lt_ (hn2 8 (by decide)) g8; f8 h8), (fun g9 => have h9 := lt_ (hn2 9 (by decide)) g9; f9 h9), (fun g9 g15 => have h9 := lt_ (hn2 9 (by decide)) g9; have h15 := lt_ (hn2 15 (by decide)) g15; f9r h9 h15), (fun g10 => have h10 := lt_ (hn2 10 (by decide)) g10; f10 h10), (fun g10 => have h10 := lt_ (hn2 10 (by decide)) g10; f10m h10), (fun g10 => have h10 := lt_ (hn2 10 (by decide)) g10; f10k h10), (fun g10 => have h10 := lt_ (hn2 10 (by decide)) g10; f10b h10), (fun g10 => have h10 := lt_ (hn2 10 (by decide)) g10; f10r h10), (fun g11 => have h11 := lt_ (hn2 11 (by decide)) g11; f11 h11), (fun g12 => have h12 := lt_ (hn2 12 (by decide)) g12; f12 h12), (fun g13 => have h13 := lt_ (hn2 13 (by decide)) g13; f13 h13), (fun g14 => have h14 := lt_ (hn2 14 (by decide)) g14; rfl), (fun g15 => have h15 := lt_ (hn2 15 (by decide)) g15; fs h15), (fun g16 => have h16 := lt_ (hn2 16 (by decide)) g16; fi1 h16), (fun g17 => rfl)⟩)
    exact trivial
  · intro L xs w hL hR
    obtain ⟨x26, x27, x28, x29, x30, x31, x32, x33, x34, x35, x36, x25, x37, x38, x39, x5, x6, za0, za1, za2, za3, AR, zn0, zn1, zn2, zn3, zc0, zc1, zc2, zc3, cR, b3, gs, u, hxs, hB, r1, r2, rm, mm, f0, f1, f2, f3, f4, f5, f6, f7, f8, f9, f9r, f10, f10m, f10k, f10b, f10r, f11, f12, f13, f14, fs, fi1, fi2⟩ := hR
    subst hxs
    have d0 : L 0 = true := hL 0 (by decide)
    have d1 : L 1 = true := hL 1 (by decide)
    have d2 : L 2 = true := hL 2 (by decide)
    have d3 : L 3 = true := hL 3 (by decide)
    have d4 : L 4 = true := hL 4 (by decide)
    have d5 : L 5 = true := hL 5 (by decide)
    have d6 : L 6 = true := hL 6 (by decide)
    have d7 : L 7 = true := hL 7 (by decide)
    have d8 : L 8 = true := hL 8 (by decide)
    have d9 : L 9 = true := hL 9 (by decide)
    have d10 : L 10 = true := hL 10 (by decide)
    have d11 : L 11 = true := hL 11 (by decide)
    have d12 : L 12 = true := hL 12 (by decide)
    have d13 : L 13 = true := hL 13 (by decide)
    have d14 : L 14 = true := hL 14 (by decide)
    have d15 : L 15 = true := hL 15 (by decide)
    have d16 : L 16 = true := hL 16 (by decide)
    have d17 : L 17 = true := hL 17 (by decide)
    have e16 := fi1 d16
    subst e16
    have e17 := fi2 d17
    subst e17
    refine hQ x26 x27 x28 x29 x30 x31 x32 x33 x34 x35 x36 x25 x37 x38 x39 AR cR za0 za1 za2 za3 zn0 zn1 zn2 zn3 zc0 zc1 zc2 zc3 w hB r1 r2 (fs d15) ((f10m d10).other (f10k d10).1 (f10k d10).2) (f10b d10) (f10r d10)
set_option maxRecDepth 100000 in
set_option maxHeartbeats 16000000 in
theorem wk_r4 {w0 : World} {N0 g0 g1 g2 B0 : Nat} {ya0 ya1 ya2 ya3 : Option Addr} {yn0 yn1 yn2 yn3 yc0 yc1 yc2 yc3 : Nat} (hN : N0 ≤ w0.heap.size) (R0 : RowAt w0 g0 32 #[.slice ya0 yn0 yc0, .slice ya1 yn1 yc1, .slice ya2 yn2 yc2, .slice ya3 yn3 yc3]) (R1 : RowAt w0 g1 43 #[.int .i64 0, .int .u64 0]) (R2 : RowAt w0 g2 43 #[.int .i64 0, .int .u64 0]) (M0 : MonOut B0 w0 (.agg #[.slice ya0 yn0 yc0, .slice ya1 yn1 yc1, .slice ya2 yn2 yc2, .slice ya3 yn3 yc3]) wk1) (a : Act) (Q : Exit → Act → World → Prop) (id : Nat) (hsz : 54 < a.tmps.size) (hA3 : a.tmps[3]? = some (.pointer (some ⟨g0, 0, none⟩))) (hA1 : a.tmps[1]? = some (.pointer (some ⟨g1, 0, none⟩))) (hA2 : a.tmps[2]? = some (.pointer (some ⟨g2, 0, none⟩))) (ops : Array Oper) (hops : opsAt Try.f7 4 = some ops) (hQ : ∀ (x41 : Value) (x42 : Value) (x43 : Value) (x44 : Value) (x45 : Value) (x46 : Value) (x47 : Value) (x48 : Value) (x49 : Value) (x50 : Value) (x51 : Value) (x40 : Value) (x52 : Value) (x53 : Value) (x54 : Value) (AR : Option Addr) (cR gm : Nat) (za0 za1 za2 za3 : Option Addr) (zn0 zn1 zn2 zn3 zc0 zc1 zc2 zc3 : Nat) (w : World) {b3 : Nat}, Below N0 w0 w → RowAt w g1 43 #[.int .i64 0, .int .u64 0] → RowAt w g2 43 #[.int .i64 0, .int .u64 0] → w0.heap.size ≤ gm → RowAt w g0 32 #[.slice ya0 yn0 yc0, .slice ya1 yn1 yc1, .slice ya2 yn2 yc2, .slice ya3 yn3 yc3] → RowAt w gm 32 #[.slice za0 zn0 zc0, .slice za1 zn1 zc1, .slice za2 zn2 zc2, .slice za3 zn3 zc3] → MonOut b3 w (.agg #[.slice za0 zn0 zc0, .slice za1 zn1 zc1, .slice za2 zn2 zc2, .slice za3 zn3 zc3]) wk2 → w0.heap.size ≤ b3 → Rd w w.heap.size 2 AR 1 (Cs encE [(0, 1)]) → Q .normal (puts a (([41, 42, 43, 44, 45, 46, 47, 48, 49, 50, 51, 40, 52, 53, 54, 7, 8, 9] : List Nat).zip [x41, x42, x43, x44, x45, x46, x47, x48, x49, x50, x51, x40, x52, x53, x54, (.pointer (some ⟨gm, 0, none⟩)), .slice AR 1 cR, .int .i64 0])) w) : (Code.region id ops true).wp Try.prog Q a w0 := by
  have hn : ([41, 42, 43, 44, 45, 46, 47, 48, 49, 50, 51, 40, 52, 53, 54, 7, 8, 9] : List Nat).Nodup := by decide
  have hs : ∀ d ∈ ([41, 42, 43, 44, 45, 46, 47, 48, 49, 50, 51, 40, 52, 53, 54, 7, 8, 9] : List Nat), d < a.tmps.size := fun d hd => Nat.lt_of_le_of_lt ((by decide : ∀ d ∈ ([41, 42, 43, 44, 45, 46, 47, 48, 49, 50, 51, 40, 52, 53, 54, 7, 8, 9] : List Nat), d ≤ 54) d hd) hsz
  conv at hops => lhs; whnf
  injection hops with hops
  subst hops
  refine wp_region_slots [41, 42, 43, 44, 45, 46, 47, 48, 49, 50, 51, 40, 52, 53, 54, 7, 8, 9] (fun L xs w => ∃ x41 : Value, ∃ x42 : Value, ∃ x43 : Value, ∃ x44 : Value, ∃ x45 : Value, ∃ x46 : Value, ∃ x47 : Value, ∃ x48 : Value, ∃ x49 : Value, ∃ x50 : Value, ∃ x51 : Value, ∃ x40 : Value, ∃ x52 : Value, ∃ x53 : Value, ∃ x54 : Value, ∃ x7 : Value, ∃ x8 : Value, ∃ x9 : Value, ∃ za0 za1 za2 za3 AR : Option Addr, ∃ zn0 zn1 zn2 zn3 zc0 zc1 zc2 zc3 cR : Nat, ∃ b3 gs gm : Nat, ∃ u : World, xs = [x41, x42, x43, x44, x45, x46, x47, x48, x49, x50, x51, x40, x52, x53, x54, x7, x8, x9] ∧ Below N0 w0 w ∧ (RowAt w g1 43 #[.int .i64 0, .int .u64 0]) ∧ (RowAt w g2 43 #[.int .i64 0, .int .u64 0]) ∧ (RowAt w g0 32 #[.slice ya0 yn0 yc0, .slice ya1 yn1 yc1, .slice ya2 yn2 yc2, .slice ya3 yn3 yc3]) ∧ (L 16 = false → MonOut B0 w (.agg #[.slice ya0 yn0 yc0, .slice ya1 yn1 yc1, .slice ya2 yn2 yc2, .slice ya3 yn3 yc3]) wk1) ∧ (L 0 = true → x41 = .agg #[.slice ya0 yn0 yc0, .slice ya1 yn1 yc1, .slice ya2 yn2 yc2, .slice ya3 yn3 yc3]) ∧ (L 1 = true → x42 = .agg #[.int .i64 0, .int .u64 0]) ∧ (L 2 = true → x43 = .agg #[.int .i64 7, .int .i64 0, .int .i64 0, .int .u64 0]) ∧ (L 3 = true → x44 = .agg #[.int .i64 0, .int .u64 0]) ∧ (L 4 = true → x45 = .agg #[.int .i64 8, .int .i64 0, .int .i64 0, .int .u64 0]) ∧ (L 5 = true → x46 = .agg #[.int .i64 0, .int .u64 0]) ∧ (L 6 = true → x47 = .agg #[.int .i64 6, .int .i64 0, .int .i64 0, .int .u64 0]) ∧ (L 7 = true → x48 = .agg #[.int .i64 0, .int .u64 0]) ∧ (L 8 = true → x49 = .agg #[.int .i64 4, .int .i64 1, .int .i64 0, .int .u64 0]) ∧ (L 9 = true → x50 = .slice (some ⟨gs, 0, none⟩) 4 4) ∧ (L 9 = true → L 16 = false → Rd w w.heap.size 4 (some ⟨gs, 0, none⟩) 4 (Cs encX wl2)) ∧ (L 10 = true → x51 = .tuple #[.agg #[.slice za0 zn0 zc0, .slice za1 zn1 zc1, .slice za2 zn2 zc2, .slice za3 zn3 zc3], .slice AR 1 cR, .int .i64 0]) ∧ (L 10 = true → MonOut b3 u (.agg #[.slice za0 zn0 zc0, .slice za1 zn1 zc1, .slice za2 zn2 zc2, .slice za3 zn3 zc3]) wk2) ∧ (L 10 = true → Keeps b3 u w) ∧ (L 10 = true → w0.heap.size ≤ b3) ∧ (L 10 = true → Rd w w.heap.size 2 AR 1 (Cs encE [(0, 1)])) ∧ (L 11 = true → x40 = .tuple #[.agg #[.slice za0 zn0 zc0, .slice za1 zn1 zc1, .slice za2 zn2 zc2, .slice za3 zn3 zc3], .slice AR 1 cR, .int .i64 0]) ∧ (L 12 = true → x52 = .agg #[.slice za0 zn0 zc0, .slice za1 zn1 zc1, .slice za2 zn2 zc2, .slice za3 zn3 zc3]) ∧ (L 13 = true → x53 = .slice AR 1 cR) ∧ (L 14 = true → x54 = .int .i64 0) ∧ (L 15 = true → x7 = .pointer (some ⟨gm, 0, none⟩)) ∧ (L 15 = true → w0.heap.size ≤ gm ∧ gm < w.heap.size) ∧ (L 15 = true → L 10 = true → gm < b3 ∨ u.heap.size ≤ gm) ∧ (L 15 = true → L 16 = false → RowAt w gm 32 #[.slice none 0 0, .slice none 0 0, .slice none 0 0, .slice none 0 0]) ∧ (L 16 = true → RowAt w gm 32 #[.slice za0 zn0 zc0, .slice za1 zn1 zc1, .slice za2 zn2 zc2, .slice za3 zn3 zc3]) ∧ (L 17 = true → x8 = .slice AR 1 cR) ∧ (L 18 = true → x9 = .int .i64 0)) (by kernel_rfl) (by kernel_rfl) ?_ ?_ ?_
  · exact ⟨_, _, _, _, _, _, _, _, _, _, _, _, _, _, _, _, _, _, none, none, none, none, none, 0, 0, 0, 0, 0, 0, 0, 0, 0, 0, 0, 0, w0, rfl, (Below.refl _ _).drew, R1.below (Below.refl _ _).drew, R2.below (Below.refl _ _).drew, R0.below (Below.refl _ _).drew, fun _ => M0.below (Below.refl _ _).drew, fun h => nope h rfl, fun h => nope h rfl, fun h => nope h rfl, fun h => nope h rfl, fun h => nope h rfl, fun h => nope h rfl, fun h => nope h rfl, fun h => nope h rfl, fun h => nope h rfl, fun h => nope h rfl, fun h _ => nope h rfl, fun h => nope h rfl, fun h => nope h rfl, fun h => nope h rfl, fun h => nope h rfl, fun h => nope h rfl, fun h => nope h rfl, fun h => nope h rfl, fun h => nope h rfl, fun h => nope h rfl, fun h => nope h rfl, fun h => nope h rfl, fun h => nope h rfl, fun h => nope h rfl, fun h => nope h rfl, fun h => nope h rfl, fun h => nope h rfl⟩
  · refine OnceFrom.cons (fun L b w K hI hi hon hup hK => ?_) ?_
    · obtain ⟨xs, hbe, x41, x42, x43, x44, x45, x46, x47, x48, x49, x50, x51, x40, x52, x53, x54, x7, x8, x9, za0, za1, za2, za3, AR, zn0, zn1, zn2, zn3, zc0, zc1, zc2, zc3, cR, b3, gs, gm, u, hxs, hB, hF⟩ := hI
      subst hxs
      have HB := hide hB
      have HF := hide hF
      obtain ⟨r1, r2, rm, mm, f0, f1, f2, f3, f4, f5, f6, f7, f8, f9, f9r, f10, f10m, f10k, f10b, f10r, f11, f12, f13, f14, f15, f15a, f15b, f15r, fs, fi1, fi2⟩ := hF
      have us : L 16 = false := hup 16 (mem_of_elem (by kernel_rfl))
      obtain ⟨q0, q1, q2, q3⟩ := row4 (rm)
      have hT3 : b.tmps[3]? = some (.pointer (some ⟨g0, 0, none⟩)) := by rw [hbe]; exact (puts_get_out _ _ _ (by decide)).trans hA3
      have HBE := hide hbe
      clear hB hbe r1 r2 rm mm f0 f1 f2 f3 f4 f5 f6 f7 f8 f9 f9r f10 f10m f10k f10b f10r f11 f12 f13 f14 f15 f15a f15b f15r fs fi1 fi2
      rw [if_pos (by rfl)]
      go_simp
      obtain ⟨r1, r2, rm, mm, f0, f1, f2, f3, f4, f5, f6, f7, f8, f9, f9r, f10, f10m, f10k, f10b, f10r, f11, f12, f13, f14, f15, f15a, f15b, f15r, fs, fi1, fi2⟩ := HF.out
      have hB := HB.out
      refine hK.out _ _ (fun L2 hi2 hn2 => ⟨[(.agg #[.slice ya0 yn0 yc0, .slice ya1 yn1 yc1, .slice ya2 yn2 yc2, .slice ya3 yn3 yc3]), x42, x43, x44, x45, x46, x47, x48, x49, x50, x51, x40, x52, x53, x54, x7, x8, x9], put_in HBE.out hn rfl 0 _ rfl rfl, (.agg #[.slice ya0 yn0 yc0, .slice ya1 yn1 yc1, .slice ya2 yn2 yc2, .slice ya3 yn3 yc3]), x42, x43, x44, x45, x46, x47, x48, x49, x50, x51, x40, x52, x53, x54, x7, x8, x9, za0, za1, za2, za3, AR, zn0, zn1, zn2, zn3, zc0, zc1, zc2, zc3, cR, b3, gs, gm, u, rfl, hB, (r1 ), (r2 ), (rm ), (fun g16 => have h16 := lt_ (hn2 16 (by decide)) g16; mm h16), (fun g0 => rfl), (fun g1 => have h1 := lt_ (hn2 1 (by decide)) g1; f1 h1), (fun g2 => have h2 := lt_ (hn2 2 (by decide)) g2; f2 h2), (fun g3 => have h3 := lt_ (hn2 3 (by decide)) g3; f3 h3), (fun g4 => have h4 := lt_ (hn2 4 (by decide)) g4; f4 h4), (fun g5 => have h5 := lt_ (hn2 5 (by decide)) g5; f5 h5), (fun g6 => have h6 := lt_ (hn2 6 (by decide)) g6; f6 h6), (fun g7 => have h7 := lt_ (hn2 7 (by decide)) g7; f7 h7), (fun g8 => have h8 := lt_ (hn2 8 (by decide)) g8; f8 h8), (fun g9 => have h9 := lt_ (hn2 9 (by decide)) g9; f9 h9), (fun g9 g16 => have h9 := lt_ (hn2 9 (by decide)) g9; have h16 := lt_ (hn2 16 (by decide)) g16; f9r h9 h16), (fun g10 => have h10 := lt_ (hn2 10 (by decide)) g10; f10 h10), (fun g10 => have h10 := lt_ (hn2 10 (by decide)) g10; f10m h10), (fun g10 => have h10 := lt_ (hn2 10 (by decide)) g10; f10k h10), (fun g10 => have h10 := lt_ (hn2 10 (by decide)) g10; f10b h10), (fun g10 => have h10 := lt_ (hn2 10 (by decide)) g10; f10r h10), (fun g11 => have h11 := lt_ (hn2 11 (by decide)) g11; f11 h11), (fun g12 => have h12 := lt_ (hn2 12 (by decide)) g12; f12 h12), (fun g13 => have h13 := lt_ (hn2 13 (by decide)) g13; f13 h13), (fun g14 => have h14 := lt_ (hn2 14 (by decide)) g14; f14 h14), (fun g15 => have h15 := lt_ (hn2 15 (by decide)) g15; f15 h15), (fun g15 => have h15 := lt_ (hn2 15 (by decide)) g15; f15a h15), (fun g15 g10 => have h15 := lt_ (hn2 15 (by decide)) g15; have h10 := lt_ (hn2 10 (by decide)) g10; f15b h15 h10), (fun g15 g16 => have h15 := lt_ (hn2 15 (by decide)) g15; have h16 := lt_ (hn2 16 (by decide)) g16; f15r h15 h16), (fun g16 => have h16 := lt_ (hn2 16 (by decide)) g16; fs h16), (fun g17 => have h17 := lt_ (hn2 17 (by decide)) g17; fi1 h17), (fun g18 => have h18 := lt_ (hn2 18 (by decide)) g18; fi2 h18)⟩)
    refine OnceFrom.cons (fun L b w K hI hi hon hup hK => ?_) ?_
    · obtain ⟨xs, hbe, x41, x42, x43, x44, x45, x46, x47, x48, x49, x50, x51, x40, x52, x53, x54, x7, x8, x9, za0, za1, za2, za3, AR, zn0, zn1, zn2, zn3, zc0, zc1, zc2, zc3, cR, b3, gs, gm, u, hxs, hB, hF⟩ := hI
      subst hxs
      have HB := hide hB
      have HF := hide hF
      obtain ⟨r1, r2, rm, mm, f0, f1, f2, f3, f4, f5, f6, f7, f8, f9, f9r, f10, f10m, f10k, f10b, f10r, f11, f12, f13, f14, f15, f15a, f15b, f15r, fs, fi1, fi2⟩ := hF
      have q0 := row20 r1
      have q1 := row21 r1
      have hT1 : b.tmps[1]? = some (.pointer (some ⟨g1, 0, none⟩)) := by rw [hbe]; exact (puts_get_out _ _ _ (by decide)).trans hA1
      have HBE := hide hbe
      clear hB hbe r1 r2 rm mm f0 f1 f2 f3 f4 f5 f6 f7 f8 f9 f9r f10 f10m f10k f10b f10r f11 f12 f13 f14 f15 f15a f15b f15r fs fi1 fi2
      rw [if_pos (by rfl)]
      go_simp
      obtain ⟨r1, r2, rm, mm, f0, f1, f2, f3, f4, f5, f6, f7, f8, f9, f9r, f10, f10m, f10k, f10b, f10r, f11, f12, f13, f14, f15, f15a, f15b, f15r, fs, fi1, fi2⟩ := HF.out
      have hB := HB.out
      refine hK.out _ _ (fun L2 hi2 hn2 => ⟨[x41, (.agg #[.int .i64 0, .int .u64 0]), x43, x44, x45, x46, x47, x48, x49, x50, x51, x40, x52, x53, x54, x7, x8, x9], put_in HBE.out hn rfl 1 _ rfl rfl, x41, (.agg #[.int .i64 0, .int .u64 0]), x43, x44, x45, x46, x47, x48, x49, x50, x51, x40, x52, x53, x54, x7, x8, x9, za0, za1, za2, za3, AR, zn0, zn1, zn2, zn3, zc0, zc1, zc2, zc3, cR, b3, gs, gm, u, rfl, hB, (r1 ), (r2 ), (rm ), (fun g16 => have h16 := lt_ (hn2 16 (by decide)) g16; mm h16), (fun g0 => have h0 := lt_ (hn2 0 (by decide)) g0; f0 h0), (fun g1 => rfl), (fun g2 => have h2 := lt_ (hn2 2 (by decide)) g2; f2 h2), (fun g3 => have h3 := lt_ (hn2 3 (by decide)) g3; f3 h3), (fun g4 => have h4 := lt_ (hn2 4 (by decide)) g4; f4 h4), (fun g5 => have h5 := lt_ (hn2 5 (by decide)) g5; f5 h5), (fun g6 => have h6 := lt_ (hn2 6 (by decide)) g6; f6 h6), (fun g7 => have h7 := lt_ (hn2 7 (by decide)) g7; f7 h7), (fun g8 => have h8 := lt_ (hn2 8 (by decide)) g8; f8 h8), (fun g9 => have h9 := lt_ (hn2 9 (by decide)) g9; f9 h9), (fun g9 g16 => have h9 := lt_ (hn2 9 (by decide)) g9; have h16 := lt_ (hn2 16 (by decide)) g16; f9r h9 h16), (fun g10 => have h10 := lt_ (hn2 10 (by decide)) g10; f10 h10), (fun g10 => have h10 := lt_ (hn2 10 (by decide)) g10; f10m h10), (fun g10 => have h10 := lt_ (hn2 10 (by decide)) g10; f10k h10), (fun g10 => have h10 := lt_ (hn2 10 (by decide)) g10; f10b h10), (fun g10 => have h10 := lt_ (hn2 10 (by decide)) g10; f10r h10), (fun g11 => have h11 := lt_ (hn2 11 (by decide)) g11; f11 h11), (fun g12 => have h12 := lt_ (hn2 12 (by decide)) g12; f12 h12), (fun g13 => have h13 := lt_ (hn2 13 (by decide)) g13; f13 h13), (fun g14 => have h14 := lt_ (hn2 14 (by decide)) g14; f14 h14), (fun g15 => have h15 := lt_ (hn2 15 (by decide)) g15; f15 h15), (fun g15 => have h15 := lt_ (hn2 15 (by decide)) g15; f15a h15), (fun g15 g10 => have h15 := lt_ (hn2 15 (by decide)) g15; have h10 := lt_ (hn2 10 (by decide)) g10; f15b h15 h10), (fun g15 g16 => have h15 := lt_ (hn2 15 (by decide)) g15; have h16 := lt_ (hn2 16 (by decide)) g16; f15r h15 h16), (fun g16 => have h16 := lt_ (hn2 16 (by decide)) g16; fs h16), (fun g17 => have h17 := lt_ (hn2 17 (by decide)) g17; fi1 h17), (fun g18 => have h18 := lt_ (hn2 18 (by decide)) g18; fi2 h18)⟩)
    refine OnceFrom.cons (fun L b w K hI hi hon hup hK => ?_) ?_
    · obtain ⟨xs, hbe, x41, x42, x43, x44, x45, x46, x47, x48, x49, x50, x51, x40, x52, x53, x54, x7, x8, x9, za0, za1, za2, za3, AR, zn0, zn1, zn2, zn3, zc0, zc1, zc2, zc3, cR, b3, gs, gm, u, hxs, hB, hF⟩ := hI
      subst hxs
      have d1 : L 1 = true := hon 1 (mem_of_elem (by kernel_rfl))
      have HB := hide hB
      have HF := hide hF
      obtain ⟨r1, r2, rm, mm, f0, f1, f2, f3, f4, f5, f6, f7, f8, f9, f9r, f10, f10m, f10k, f10b, f10r, f11, f12, f13, f14, f15, f15a, f15b, f15r, fs, fi1, fi2⟩ := hF
      have e1 := f1 d1
      subst e1
      have hT42 : b.tmps[42]? = some (.agg #[.int .i64 0, .int .u64 0]) := by rw [hbe]; exact puts_get_in _ _ _ hn hs (i := 1) rfl rfl
      have HBE := hide hbe
      clear hB hbe r1 r2 rm mm f0 f1 f2 f3 f4 f5 f6 f7 f8 f9 f9r f10 f10m f10k f10b f10r f11 f12 f13 f14 f15 f15a f15b f15r fs fi1 fi2
      rw [if_pos (by rfl)]
      go_simp
      with_reducible refine (watch_any 7 0 0 0 w).mono ?_
      rintro e w2 ⟨rfl, hb⟩
      obtain ⟨r1, r2, rm, mm, f0, f1, f2, f3, f4, f5, f6, f7, f8, f9, f9r, f10, f10m, f10k, f10b, f10r, f11, f12, f13, f14, f15, f15a, f15b, f15r, fs, fi1, fi2⟩ := HF.out
      have hB := HB.out
      have hB0 : w0.heap.size ≤ w.heap.size := hB.size
      refine hK.out _ _ (fun L2 hi2 hn2 => ⟨[x41, (.agg #[.int .i64 0, .int .u64 0]), (.agg #[.int .i64 7, .int .i64 0, .int .i64 0, .int .u64 0]), x44, x45, x46, x47, x48, x49, x50, x51, x40, x52, x53, x54, x7, x8, x9], put_in HBE.out hn rfl 2 _ rfl rfl, x41, (.agg #[.int .i64 0, .int .u64 0]), (.agg #[.int .i64 7, .int .i64 0, .int .i64 0, .int .u64 0]), x44, x45, x46, x47, x48, x49, x50, x51, x40, x52, x53, x54, x7, x8, x9, za0, za1, za2, za3, AR, zn0, zn1, zn2, zn3, zc0, zc1, zc2, zc3, cR, b3, gs, gm, u, rfl, (hB.trans (hb.mono (Nat.le_trans hN hB0))), ((r1 ).below hb), ((r2 ).below hb), ((rm ).below hb), (fun g16 => have h16 := lt_ (hn2 16 (by decide)) g16; (mm h16).below hb), (fun g0 => have h0 := lt_ (hn2 0 (by decide)) g0; f0 h0), (fun g1 => have h1 := lt_ (hn2 1 (by decide)) g1; rfl), (fun g2 => rfl), (fun g3 => have h3 := lt_ (hn2 3 (by decide)) g3; f3 h3), (fun g4 => have h4 := lt_ (hn2 4 (by decide)) g4; f4 h4), (fun g5 => have h5 := lt_ (hn2 5 (by decide)) g5; f5 h5), (fun g6 => have h6 := lt_ (hn2 6 (by decide)) g6; f6 h6), (fun g7 => have h7 := lt_ (hn2 7 (by decide)) g7; f7 h7), (fun g8 => have h8 := lt_ (hn2 8 (by decide)) g8; f8 h8), (fun g9 => have h9 := lt_ (hn2 9 (by decide)) g9; f9 h9), (fun g9 g16 => have h9 := lt_ (hn2 9 (by decide)) g9; have h16 := lt_ (hn2 16 (by decide)) g16; (f9r h9 h16).belowX hb), (fun g10 => have h10 := lt_ (hn2 10 (by decide)) g10; f10 h10), (fun g10 => have h10 := lt_ (hn2 10 (by decide)) g10; f10m h10), (fun g10 => have h10 := lt_ (hn2 10 (by decide)) g10; (f10k h10).below hb), (fun g10 => have h10 := lt_ (hn2 10 (by decide)) g10; f10b h10), (fun g10 => have h10 := lt_ (hn2 10 (by decide)) g10; (f10r h10).belowX hb), (fun g11 => have h11 := lt_ (hn2 11 (by decide)) g11; f11 h11), (fun g12 => have h12 := lt_ (hn2 12 (by decide)) g12; f12 h12), (fun g13 => have h13 := lt_ (hn2 13 (by decide)) g13; f13 h13), (fun g14 => have h14 := lt_ (hn2 14 (by decide)) g14; f14 h14), (fun g15 => have h15 := lt_ (hn2 15 (by decide)) g15; f15 h15), (fun g15 => have h15 := lt_ (hn2 15 (by decide)) g15; ⟨(f15a h15).1, Nat.lt_of_lt_of_le (f15a h15).2 hb.size⟩), (fun g15 g10 => have h15 := lt_ (hn2 15 (by decide)) g15; have h10 := lt_ (hn2 10 (by decide)) g10; f15b h15 h10), (fun g15 g16 => have h15 := lt_ (hn2 15 (by decide)) g15; have h16 := lt_ (hn2 16 (by decide)) g16; (f15r h15 h16).below hb), (fun g16 => have h16 := lt_ (hn2 16 (by decide)) g16; (fs h16).below hb), (fun g17 => have h17 := lt_ (hn2 17 (by decide)) g17; fi1 h17), (fun g18 => have h18 := lt_ (hn2 18 (by decide)) g18; fi2 h18)⟩)
    refine OnceFrom.cons (fun L b w K hI hi hon hup hK => ?_) ?_
    · obtain ⟨xs, hbe, x41, x42, x43, x44, x45, x46, x47, x48, x49, x50, x51, x40, x52, x53, x54, x7, x8, x9, za0, za1, za2, za3, AR, zn0, zn1, zn2, zn3, zc0, zc1, zc2, zc3, cR, b3, gs, gm, u, hxs, hB, hF⟩ := hI
      subst hxs
      have HB := hide hB
      have HF := hide hF
      obtain ⟨r1, r2, rm, mm, f0, f1, f2, f3, f4, f5, f6, f7, f8, f9, f9r, f10, f10m, f10k, f10b, f10r, f11, f12, f13, f14, f15, f15a, f15b, f15r, fs, fi1, fi2⟩ := hF
      have q0 := row20 r1
      have q1 := row21 r1
      have hT1 : b.tmps[1]? = some (.pointer (some ⟨g1, 0, none⟩)) := by rw [hbe]; exact (puts_get_out _ _ _ (by decide)).trans hA1
      have HBE := hide hbe
      clear hB hbe r1 r2 rm mm f0 f1 f2 f3 f4 f5 f6 f7 f8 f9 f9r f10 f10m f10k f10b f10r f11 f12 f13 f14 f15 f15a f15b f15r fs fi1 fi2
      rw [if_pos (by rfl)]
      go_simp
      obtain ⟨r1, r2, rm, mm, f0, f1, f2, f3, f4, f5, f6, f7, f8, f9, f9r, f10, f10m, f10k, f10b, f10r, f11, f12, f13, f14, f15, f15a, f15b, f15r, fs, fi1, fi2⟩ := HF.out
      have hB := HB.out
      refine hK.out _ _ (fun L2 hi2 hn2 => ⟨[x41, x42, x43, (.agg #[.int .i64 0, .int .u64 0]), x45, x46, x47, x48, x49, x50, x51, x40, x52, x53, x54, x7, x8, x9], put_in HBE.out hn rfl 3 _ rfl rfl, x41, x42, x43, (.agg #[.int .i64 0, .int .u64 0]), x45, x46, x47, x48, x49, x50, x51, x40, x52, x53, x54, x7, x8, x9, za0, za1, za2, za3, AR, zn0, zn1, zn2, zn3, zc0, zc1, zc2, zc3, cR, b3, gs, gm, u, rfl, hB, (r1 ), (r2 ), (rm ), (fun g16 => have h16 := lt_ (hn2 16 (by decide)) g16; mm h16), (fun g0 => have h0 := lt_ (hn2 0 (by decide)) g0; f0 h0), (fun g1 => have h1 := lt_ (hn2 1 (by decide)) g1; f1 h1), (fun g2 => have h2 := lt_ (hn2 2 (by decide)) g2; f2 h2), (fun g3 => rfl), (fun g4 => have h4 := lt_ (hn2 4 (by decide)) g4; f4 h4), (fun g5 => have h5 := lt_ (hn2 5 (by decide)) g5; f5 h5), (fun g6 => have h6 := lt_ (hn2 6 (by decide)) g6; f6 h6), (fun g7 => have h7 := lt_ (hn2 7 (by decide)) g7; f7 h7), (fun g8 => have h8 := lt_ (hn2 8 (by decide)) g8; f8 h8), (fun g9 => have h9 := lt_ (hn2 9 (by decide)) g9; f9 h9), (fun g9 g16 => have h9 := lt_ (hn2 9 (by decide)) g9; have h16 := lt_ (hn2 16 (by decide)) g16; f9r h9 h16), (fun g10 => have h10 := lt_ (hn2 10 (by decide)) g10; f10 h10), (fun g10 => have h10 := lt_ (hn2 10 (by decide)) g10; f10m h10), (fun g10 => have h10 := lt_ (hn2 10 (by decide)) g10; f10k h10), (fun g10 => have h10 := lt_ (hn2 10 (by decide)) g10; f10b h10), (fun g10 => have h10 := lt_ (hn2 10 (by decide)) g10; f10r h10), (fun g11 => have h11 := lt_ (hn2 11 (by decide)) g11; f11 h11), (fun g12 => have h12 := lt_ (hn2 12 (by decide)) g12; f12 h12), (fun g13 => have h13 := lt_ (hn2 13 (by decide)) g13; f13 h13), (fun g14 => have h14 := lt_ (hn2 14 (by decide)) g14; f14 h14), (fun g15 => have h15 := lt_ (hn2 15 (by decide)) g15; f15 h15), (fun g15 => have h15 := lt_ (hn2 15 (by decide)) g15; f15a h15), (fun g15 g10 => have h15 := lt_ (hn2 15 (by decide)) g15; have h10 := lt_ (hn2 10 (by decide)) g10; f15b h15 h10), (fun g15 g16 => have h15 := lt_ (hn2 15 (by decide)) g15; have h16 := lt_ (hn2 16 (by decide)) g16; f15r h15 h16), (fun g16 => have h16 := lt_ (hn2 16 (by decide)) g16; fs h16), (fun g17 => have h17 := lt_ (hn2 17 (by decide)) g17; fi1 h17), (fun g18 => have h18 := lt_ (hn2 18 (by decide)) g18; fi2 h18)⟩)
    refine OnceFrom.cons (fun L b w K hI hi hon hup hK => ?_) ?_
    · obtain ⟨xs, hbe, x41, x42, x43, x44, x45, x46, x47, x48, x49, x50, x51, x40, x52, x53, x54, x7, x8, x9, za0, za1, za2, za3, AR, zn0, zn1, zn2, zn3, zc0, zc1, zc2, zc3, cR, b3, gs, gm, u, hxs, hB, hF⟩ := hI
      subst hxs
      have d3 : L 3 = true := hon 3 (mem_of_elem (by kernel_rfl))
      have HB := hide hB
      have HF := hide hF
      obtain ⟨r1, r2, rm, mm, f0, f1, f2, f3, f4, f5, f6, f7, f8, f9, f9r, f10, f10m, f10k, f10b, f10r, f11, f12, f13, f14, f15, f15a, f15b, f15r, fs, fi1, fi2⟩ := hF
      have e1 := f3 d3
      subst e1
      have hT44 : b.tmps[44]? = some (.agg #[.int .i64 0, .int .u64 0]) := by rw [hbe]; exact puts_get_in _ _ _ hn hs (i := 3) rfl rfl
      have HBE := hide hbe
      clear hB hbe r1 r2 rm mm f0 f1 f2 f3 f4 f5 f6 f7 f8 f9 f9r f10 f10m f10k f10b f10r f11 f12 f13 f14 f15 f15a f15b f15r fs fi1 fi2
      rw [if_pos (by rfl)]
      go_simp
      with_reducible refine (watch_any 8 0 0 0 w).mono ?_
      rintro e w2 ⟨rfl, hb⟩
      obtain ⟨r1, r2, rm, mm, f0, f1, f2, f3, f4, f5, f6, f7, f8, f9, f9r, f10, f10m, f10k, f10b, f10r, f11, f12, f13, f14, f15, f15a, f15b, f15r, fs, fi1, fi2⟩ := HF.out
      have hB := HB.out
      have hB0 : w0.heap.size ≤ w.heap.size := hB.size
      refine hK.out _ _ (fun L2 hi2 hn2 => ⟨[x41, x42, x43, (.agg #[.int .i64 0, .int .u64 0]), (.agg #[.int .i64 8, .int .i64 0, .int .i64 0, .int .u64 0]), x46, x47, x48, x49, x50, x51, x40, x52, x53, x54, x7, x8, x9], put_in HBE.out hn rfl 4 _ rfl rfl, x41, x42, x43, (.agg #[.int .i64 0, .int .u64 0]), (.agg #[.int .i64 8, .int .i64 0, .int .i64 0, .int .u64 0]), x46, x47, x48, x49, x50, x51, x40, x52, x53, x54, x7, x8, x9, za0, za1, za2, za3, AR, zn0, zn1, zn2, zn3, zc0, zc1, zc2, zc3, cR, b3, gs, gm, u, rfl, (hB.trans (hb.mono (Nat.le_trans hN hB0))), ((r1 ).below hb), ((r2 ).below hb), ((rm ).below hb), (fun g16 => have h16 := lt_ (hn2 16 (by decide)) g16; (mm h16).below hb), (fun g0 => have h0 := lt_ (hn2 0 (by decide)) g0; f0 h0), (fun g1 => have h1 := lt_ (hn2 1 (by decide)) g1; f1 h1), (fun g2 => have h2 := lt_ (hn2 2 (by decide)) g2; f2 h2), (fun g3 => have h3 := lt_ (hn2 3 (by decide)) g3; rfl), (fun g4 => rfl), (fun g5 => have h5 := lt_ (hn2 5 (by decide)) g5; f5 h5), (fun g6 => have h6 := lt_ (hn2 6 (by decide)) g6; f6 h6), (fun g7 => have h7 := lt_ (hn2 7 (by decide)) g7; f7 h7), (fun g8 => have h8 := lt_ (hn2 8 (by decide)) g8; f8 h8), (fun g9 => have h9 := lt_ (hn2 9 (by decide)) g9; f9 h9), (fun g9 g16 => have h9 := lt_ (hn2 9 (by decide)) g9; have h16 := lt_ (hn2 16 (by decide)) g16; (f9r h9 h16).belowX hb), (fun g10 => have h10 := lt_ (hn2 10 (by decide)) g10; f10 h10), (fun g10 => have h10 := lt_ (hn2 10 (by decide)) g10; f10m h10), (fun g10 => have h10 := lt_ (hn2 10 (by decide)) g10; (f10k h10).below hb), (fun g10 => have h10 := lt_ (hn2 10 (by decide)) g10; f10b h10), (fun g10 => have h10 := lt_ (hn2 10 (by decide)) g10; (f10r h10).belowX hb), (fun g11 => have h11 := lt_ (hn2 11 (by decide)) g11; f11 h11), (fun g12 => have h12 := lt_ (hn2 12 (by decide)) g12; f12 h12), (fun g13 => have h13 := lt_ (hn2 13 (by decide)) g13; f13 h13), (fun g14 => have h14 := lt_ (hn2 14 (by decide)) g14; f14 h14), (fun g15 => have h15 := lt_ (hn2 15 (by decide)) g15; f15 h15), (fun g15 => have h15 := lt_ (hn2 15 (by decide)) g15; ⟨(f15a h15).1, Nat.lt_of_lt_of_le (f15a h15).2 hb.size⟩), (fun g15 g10 => have h15 := lt_ (hn2 15 (by decide)) g15; have h10 := lt_ (hn2 10 (by decide)) g10; f15b h15 h10), (fun g15 g16 => have h15 := lt_ (hn2 15 (by decide)) g15; have h16 := lt_ (hn2 16 (by decide)) g16; (f15r h15 h16).below hb), (fun g16 => have h16 := lt_ (hn2 16 (by decide)) g16; (fs h16).below hb), (fun g17 => have h17 := lt_ (hn2 17 (by decide)) g17; fi1 h17), (fun g18 => have h18 := lt_ (hn2 18 (by decide)) g18; fi2 h18)⟩)
    refine OnceFrom.cons (fun L b w K hI hi hon hup hK => ?_) ?_
    · obtain ⟨xs, hbe, x41, x42, x43, x44, x45, x46, x47, x48, x49, x50, x51, x40, x52, x53, x54, x7, x8, x9, za0, za1, za2, za3, AR, zn0, zn1, zn2, zn3, zc0, zc1, zc2, zc3, cR, b3, gs, gm, u, hxs, hB, hF⟩ := hI
      subst hxs
      have HB := hide hB
      have HF := hide hF
      obtain ⟨r1, r2, rm, mm, f0, f1, f2, f3, f4, f5, f6, f7, f8, f9, f9r, f10, f10m, f10k, f10b, f10r, f11, f12, f13, f14, f15, f15a, f15b, f15r, fs, fi1, fi2⟩ := hF
      have q0 := row20 r2
      have q1 := row21 r2
      have hT2 : b.tmps[2]? = some (.pointer (some ⟨g2, 0, none⟩)) := by rw [hbe]; exact (puts_get_out _ _ _ (by decide)).trans hA2
      have HBE := hide hbe
      clear hB hbe r1 r2 rm mm f0 f1 f2 f3 f4 f5 f6 f7 f8 f9 f9r f10 f10m f10k f10b f10r f11 f12 f13 f14 f15 f15a f15b f15r fs fi1 fi2
      rw [if_pos (by rfl)]
      go_simp
      obtain ⟨r1, r2, rm, mm, f0, f1, f2, f3, f4, f5, f6, f7, f8, f9, f9r, f10, f10m, f10k, f10b, f10r, f11, f12, f13, f14, f15, f15a, f15b, f15r, fs, fi1, fi2⟩ := HF.out
      have hB := HB.out
      refine hK.out _ _ (fun L2 hi2 hn2 => ⟨[x41, x42, x43, x44, x45, (.agg #[.int .i64 0, .int .u64 0]), x47, x48, x49, x50, x51, x40, x52, x53, x54, x7, x8, x9], put_in HBE.out hn rfl 5 _ rfl rfl, x41, x42, x43, x44, x45, (.agg #[.int .i64 0, .int .u64 0]), x47, x48, x49, x50, x51, x40, x52, x53, x54, x7, x8, x9, za0, za1, za2, za3, AR, zn0, zn1, zn2, zn3, zc0, zc1, zc2, zc3, cR, b3, gs, gm, u, rfl, hB, (r1 ), (r2 ), (rm ), (fun g16 => have h16 := lt_ (hn2 16 (by decide)) g16; mm h16), (fun g0 => have h0 := lt_ (hn2 0 (by decide)) g0; f0 h0), (fun g1 => have h1 := lt_ (hn2 1 (by decide)) g1; f1 h1), (fun g2 => have h2 := lt_ (hn2 2 (by decide)) g2; f2 h2), (fun g3 => have h3 := lt_ (hn2 3 (by decide)) g3; f3 h3), (fun g4 => have h4 := lt_ (hn2 4 (by decide)) g4; f4 h4), (fun g5 => rfl), (fun g6 => have h6 := lt_ (hn2 6 (by decide)) g6; f6 h6), (fun g7 => have h7 := lt_ (hn2 7 (by decide)) g7; f7 h7), (fun g8 => have h8 := lt_ (hn2 8 (by decide)) g8; f8 h8), (fun g9 => have h9 := lt_ (hn2 9 (by decide)) g9; f9 h9), (fun g9 g16 => have h9 := lt_ (hn2 9 (by decide)) g9; have h16 := lt_ (hn2 16 (by decide)) g16; f9r h9 h16), (fun g10 => have h10 := lt_ (hn2 10 (by decide)) g10; f10 h10), (fun g10 => have h10 := lt_ (hn2 10 (by decide)) g10; f10m h10), (fun g10 => have h10 := lt_ (hn2 10 (by decide)) g10; f10k h10), (fun g10 => have h10 := lt_ (hn2 10 (by decide)) g10; f10b h10), (fun g10 => have h10 := lt_ (hn2 10 (by decide)) g10; f10r h10), (fun g11 => have h11 := lt_ (hn2 11 (by decide)) g11; f11 h11), (fun g12 => have h12 := lt_ (hn2 12 (by decide)) g12; f12 h12), (fun g13 => have h13 := lt_ (hn2 13 (by decide)) g13; f13 h13), (fun g14 => have h14 := lt_ (hn2 14 (by decide)) g14; f14 h14), (fun g15 => have h15 := lt_ (hn2 15 (by decide)) g15; f15 h15), (fun g15 => have h15 := lt_ (hn2 15 (by decide)) g15; f15a h15), (fun g15 g10 => have h15 := lt_ (hn2 15 (by decide)) g15; have h10 := lt_ (hn2 10 (by decide)) g10; f15b h15 h10), (fun g15 g16 => have h15 := lt_ (hn2 15 (by decide)) g15; have h16 := lt_ (hn2 16 (by decide)) g16; f15r h15 h16), (fun g16 => have h16 := lt_ (hn2 16 (by decide)) g16; fs h16), (fun g17 => have h17 := lt_ (hn2 17 (by decide)) g17; fi1 h17), (fun g18 => have h18 := lt_ (hn2 18 (by decide)) g18; fi2 h18)⟩)
    refine OnceFrom.cons (fun L b w K hI hi hon hup hK => ?_) ?_
    · obtain ⟨xs, hbe, x41, x42, x43, x44, x45, x46, x47, x48, x49, x50, x51, x40, x52, x53, x54, x7, x8, x9, za0, za1, za2, za3, AR, zn0, zn1, zn2, zn3, zc0, zc1, zc2, zc3, cR, b3, gs, gm, u, hxs, hB, hF⟩ := hI
      subst hxs
      have d5 : L 5 = true := hon 5 (mem_of_elem (by kernel_rfl))
      have HB := hide hB
      have HF := hide hF
      obtain ⟨r1, r2, rm, mm, f0, f1, f2, f3, f4, f5, f6, f7, f8, f9, f9r, f10, f10m, f10k, f10b, f10r, f11, f12, f13, f14, f15, f15a, f15b, f15r, fs, fi1, fi2⟩ := hF
      have e1 := f5 d5
      subst e1
      have hT46 : b.tmps[46]? = some (.agg #[.int .i64 0, .int .u64 0]) := by rw [hbe]; exact puts_get_in _ _ _ hn hs (i := 5) rfl rfl
      have HBE := hide hbe
      clear hB hbe r1 r2 rm mm f0 f1 f2 f3 f4 f5 f6 f7 f8 f9 f9r f10 f10m f10k f10b f10r f11 f12 f13 f14 f15 f15a f15b f15r fs fi1 fi2
      rw [if_pos (by rfl)]
      go_simp
      with_reducible refine (watch_any 6 0 0 0 w).mono ?_
      rintro e w2 ⟨rfl, hb⟩
      obtain ⟨r1, r2, rm, mm, f0, f1, f2, f3, f4, f5, f6, f7, f8, f9, f9r, f10, f10m, f10k, f10b, f10r, f11, f12, f13, f14, f15, f15a, f15b, f15r, fs, fi1, fi2⟩ := HF.out
      have hB := HB.out
      have hB0 : w0.heap.size ≤ w.heap.size := hB.size
      refine hK.out _ _ (fun L2 hi2 hn2 => ⟨[x41, x42, x43, x44, x45, (.agg #[.int .i64 0, .int .u64 0]), (.agg #[.int .i64 6, .int .i64 0, .int .i64 0, .int .u64 0]), x48, x49, x50, x51, x40, x52, x53, x54, x7, x8, x9], put_in HBE.out hn rfl 6 _ rfl rfl, x41, x42, x43, x44, x45, (.agg #[.int .i64 0, .int .u64 0]), (.agg #[.int .i64 6, .int .i64 0, .int .i64 0, .int .u64 0]), x48, x49, x50, x51, x40, x52, x53, x54, x7, x8, x9, za0, za1, za2, za3, AR, zn0, zn1, zn2, zn3, zc0, zc1, zc2, zc3, cR, b3, gs, gm, u, rfl, (hB.trans (hb.mono (Nat.le_trans hN hB0))), ((r1 ).below hb), ((r2 ).below hb), ((rm ).below hb), (fun g16 => have h16 := lt_ (hn2 16 (by decide)) g16; (mm h16).below hb), (fun g0 => have h0 := lt_ (hn2 0 (by decide)) g0; f0 h0), (fun g1 => have h1 := lt_ (hn2 1 (by decide)) g1; f1 h1), (fun g2 => have h2 := lt_ (hn2 2 (by decide)) g2; f2 h2), (fun g3 => have h3 := lt_ (hn2 3 (by decide)) g3; f3 h3), (fun g4 => have h4 := lt_ (hn2 4 (by decide)) g4; f4 h4), (fun g5 => have h5 := lt_ (hn2 5 (by decide)) g5; rfl), (fun g6 => rfl), (fun g7 => have h7 := lt_ (hn2 7 (by decide)) g7; f7 h7), (fun g8 => have h8 := lt_ (hn2 8 (by decide)) g8; f8 h8), (fun g9 => have h9 := lt_ (hn2 9 (by decide)) g9; f9 h9), (fun g9 g16 => have h9 := lt_ (hn2 9 (by decide)) g9; have h16 := lt_ (hn2 16 (by decide)) g16; (f9r h9 h16).belowX hb), (fun g10 => have h10 := lt_ (hn2 10 (by decide)) g10; f10 h10), (fun g10 => have h10 := lt_ (hn2 10 (by decide)) g10; f10m h10), (fun g10 => have h10 := lt_ (hn2 10 (by decide)) g10; (f10k h10).below hb), (fun g10 => have h10 := lt_ (hn2 10 (by decide)) g10; f10b h10), (fun g10 => have h10 := lt_ (hn2 10 (by decide)) g10; (f10r h10).belowX hb), (fun g11 => have h11 := lt_ (hn2 11 (by decide)) g11; f11 h11), (fun g12 => have h12 := lt_ (hn2 12 (by decide)) g12; f12 h12), (fun g13 => have h13 := lt_ (hn2 13 (by decide)) g13; f13 h13), (fun g14 => have h14 := lt_ (hn2 14 (by decide)) g14; f14 h14), (fun g15 => have h15 := lt_ (hn2 15 (by decide)) g15; f15 h15), (fun g15 => have h15 := lt_ (hn2 15 (by decide)) g15; ⟨(f15a h15).1, Nat.lt_of_lt_of_le (f15a h15).2 hb.size⟩), (fun g15 g10 => have h15 := lt_ (hn2 15 (by decide)) g15; have h10 := lt_ (hn2 10 (by decide)) g10; f15b h15 h10), (fun g15 g16 => have h15 := lt_ (hn2 15 (by decide)) g15; have h16 := lt_ (hn2 16 (by decide)) g16; (f15r h15 h16).below hb), (fun g16 => have h16 := lt_ (hn2 16 (by decide)) g16; (fs h16).below hb), (fun g17 => have h17 := lt_ (hn2 17 (by decide)) g17; fi1 h17), (fun g18 => have h18 := lt_ (hn2 18 (by decide)) g18; fi2 h18)⟩)
    refine OnceFrom.cons (fun L b w K hI hi hon hup hK => ?_) ?_
    · obtain ⟨xs, hbe, x41, x42, x43, x44, x45, x46, x47, x48, x49, x50, x51, x40, x52, x53, x54, x7, x8, x9, za0, za1, za2, za3, AR, zn0, zn1, zn2, zn3, zc0, zc1, zc2, zc3, cR, b3, gs, gm, u, hxs, hB, hF⟩ := hI
      subst hxs
      have HB := hide hB
      have HF := hide hF
      obtain ⟨r1, r2, rm, mm, f0, f1, f2, f3, f4, f5, f6, f7, f8, f9, f9r, f10, f10m, f10k, f10b, f10r, f11, f12, f13, f14, f15, f15a, f15b, f15r, fs, fi1, fi2⟩ := hF
      have q0 := row20 r1
      have q1 := row21 r1
      have hT1 : b.tmps[1]? = some (.pointer (some ⟨g1, 0, none⟩)) := by rw [hbe]; exact (puts_get_out _ _ _ (by decide)).trans hA1
      have HBE := hide hbe
      clear hB hbe r1 r2 rm mm f0 f1 f2 f3 f4 f5 f6 f7 f8 f9 f9r f10 f10m f10k f10b f10r f11 f12 f13 f14 f15 f15a f15b f15r fs fi1 fi2
      rw [if_pos (by rfl)]
      go_simp
      obtain ⟨r1, r2, rm, mm, f0, f1, f2, f3, f4, f5, f6, f7, f8, f9, f9r, f10, f10m, f10k, f10b, f10r, f11, f12, f13, f14, f15, f15a, f15b, f15r, fs, fi1, fi2⟩ := HF.out
      have hB := HB.out
      refine hK.out _ _ (fun L2 hi2 hn2 => ⟨[x41, x42, x43, x44, x45, x46, x47, (.agg #[.int .i64 0, .int .u64 0]), x49, x50, x51, x40, x52, x53, x54, x7, x8, x9], put_in HBE.out hn rfl 7 _ rfl rfl, x41, x42, x43, x44, x45, x46, x47, (.agg #[.int .i64 0, .int .u64 0]), x49, x50, x51, x40, x52, x53, x54, x7, x8, x9, za0, za1, za2, za3, AR, zn0, zn1, zn2, zn3, zc0, zc1, zc2, zc3, cR, b3, gs, gm, u, rfl, hB, (r1 ), (r2 ), (rm ), (fun g16 => have h16 := lt_ (hn2 16 (by decide)) g16; mm h16), (fun g0 => have h0 := lt_ (hn2 0 (by decide)) g0; f0 h0), (fun g1 => have h1 := lt_ (hn2 1 (by decide)) g1; f1 h1), (fun g2 => have h2 := lt_ (hn2 2 (by decide)) g2; f2 h2), (fun g3 => have h3 := lt_ (hn2 3 (by decide)) g3; f3 h3), (fun g4 => have h4 := lt_ (hn2 4 (by decide)) g4; f4 h4), (fun g5 => have h5 := lt_ (hn2 5 (by decide)) g5; f5 h5), (fun g6 => have h6 := lt_ (hn2 6 (by decide)) g6; f6 h6), (fun g7 => rfl), (fun g8 => have h8 := lt_ (hn2 8 (by decide)) g8; f8 h8), (fun g9 => have h9 := lt_ (hn2 9 (by decide)) g9; f9 h9), (fun g9 g16 => have h9 := lt_ (hn2 9 (by decide)) g9; have h16 := lt_ (hn2 16 (by decide)) g16; f9r h9 h16), (fun g10 => have h10 := lt_ (hn2 10 (by decide)) g10; f10 h10), (fun g10 => have h10 := lt_ (hn2 10 (by decide)) g10; f10m h10), (fun g10 => have h10 := lt_ (hn2 10 (by decide)) g10; f10k h10), (fun g10 => have h10 := lt_ (hn2 10 (by decide)) g10; f10b h10), (fun g10 => have h10 := lt_ (hn2 10 (by decide)) g10; f10r h10), (fun g11 => have h11 := lt_ (hn2 11 (by decide)) g11; f11 h11), (fun g12 => have h12 := lt_ (hn2 12 (by decide)) g12; f12 h12), (fun g13 => have h13 := lt_ (hn2 13 (by decide)) g13; f13 h13), (fun g14 => have h14 := lt_ (hn2 14 (by decide)) g14; f14 h14), (fun g15 => have h15 := lt_ (hn2 15 (by decide)) g15; f15 h15), (fun g15 => have h15 := lt_ (hn2 15 (by decide)) g15; f15a h15), (fun g15 g10 => have h15 := lt_ (hn2 15 (by decide)) g15; have h10 := lt_ (hn2 10 (by decide)) g10; f15b h15 h10), (fun g15 g16 => have h15 := lt_ (hn2 15 (by decide)) g15; have h16 := lt_ (hn2 16 (by decide)) g16; f15r h15 h16), (fun g16 => have h16 := lt_ (hn2 16 (by decide)) g16; fs h16), (fun g17 => have h17 := lt_ (hn2 17 (by decide)) g17; fi1 h17), (fun g18 => have h18 := lt_ (hn2 18 (by decide)) g18; fi2 h18)⟩)
    refine OnceFrom.cons (fun L b w K hI hi hon hup hK => ?_) ?_
    · obtain ⟨xs, hbe, x41, x42, x43, x44, x45, x46, x47, x48, x49, x50, x51, x40, x52, x53, x54, x7, x8, x9, za0, za1, za2, za3, AR, zn0, zn1, zn2, zn3, zc0, zc1, zc2, zc3, cR, b3, gs, gm, u, hxs, hB, hF⟩ := hI
      subst hxs
      have d7 : L 7 = true := hon 7 (mem_of_elem (by kernel_rfl))
      have HB := hide hB
      have HF := hide hF
      obtain ⟨r1, r2, rm, mm, f0, f1, f2, f3, f4, f5, f6, f7, f8, f9, f9r, f10, f10m, f10k, f10b, f10r, f11, f12, f13, f14, f15, f15a, f15b, f15r, fs, fi1, fi2⟩ := hF
      have e1 := f7 d7
      subst e1
      have hT48 : b.tmps[48]? = some (.agg #[.int .i64 0, .int .u64 0]) := by rw [hbe]; exact puts_get_in _ _ _ hn hs (i := 7) rfl rfl
      have HBE := hide hbe
      clear hB hbe r1 r2 rm mm f0 f1 f2 f3 f4 f5 f6 f7 f8 f9 f9r f10 f10m f10k f10b f10r f11 f12 f13 f14 f15 f15a f15b f15r fs fi1 fi2
      rw [if_pos (by rfl)]
      go_simp
      with_reducible refine (watch_any 4 1 0 0 w).mono ?_
      rintro e w2 ⟨rfl, hb⟩
      obtain ⟨r1, r2, rm, mm, f0, f1, f2, f3, f4, f5, f6, f7, f8, f9, f9r, f10, f10m, f10k, f10b, f10r, f11, f12, f13, f14, f15, f15a, f15b, f15r, fs, fi1, fi2⟩ := HF.out
      have hB := HB.out
      have hB0 : w0.heap.size ≤ w.heap.size := hB.size
      refine hK.out _ _ (fun L2 hi2 hn2 => ⟨[x41, x42, x43, x44, x45, x46, x47, (.agg #[.int .i64 0, .int .u64 0]), (.agg #[.int .i64 4, .int .i64 1, .int .i64 0, .int .u64 0]), x50, x51, x40, x52, x53, x54, x7, x8, x9], put_in HBE.out hn rfl 8 _ rfl rfl, x41, x42, x43, x44, x45, x46, x47, (.agg #[.int .i64 0, .int .u64 0]), (.agg #[.int .i64 4, .int .i64 1, .int .i64 0, .int .u64 0]), x50, x51, x40, x52, x53, x54, x7, x8, x9, za0, za1, za2, za3, AR, zn0, zn1, zn2, zn3, zc0, zc1, zc2, zc3, cR, b3, gs, gm, u, rfl, (hB.trans (hb.mono (Nat.le_trans hN hB0))), ((r1 ).below hb), ((r2 ).below hb), ((rm ).below hb), (fun g16 => have h16 := lt_ (hn2 16 (by decide)) g16; (mm h16).below hb), (fun g0 => have h0 := lt_ (hn2 0 (by decide)) g0; f0 h0), (fun g1 => have h1 := lt_ (hn2 1 (by decide)) g1; f1 h1), (fun g2 => have h2 := lt_ (hn2 2 (by decide)) g2; f2 h2), (fun g3 => have h3 := lt_ (hn2 3 (by decide)) g3; f3 h3), (fun g4 => have h4 := lt_ (hn2 4 (by decide)) g4; f4 h4), (fun g5 => have h5 := lt_ (hn2 5 (by decide)) g5; f5 h5), (fun g6 => have h6 := lt_ (hn2 6 (by decide)) g6; f6 h6), (fun g7 => have h7 := lt_ (hn2 7 (by decide)) g7; rfl), (fun g8 => rfl), (fun g9 => have h9 := lt_ (hn2 9 (by decide)) g9; f9 h9), (fun g9 g16 => have h9 := lt_ (hn2 9 (by decide)) g9; have h16 := lt_ (hn2 16 (by decide)) g16; (f9r h9 h16).belowX hb), (fun g10 => have h10 := lt_ (hn2 10 (by decide)) g10; f10 h10), (fun g10 => have h10 := lt_ (hn2 10 (by decide)) g10; f10m h10), (fun g10 => have h10 := lt_ (hn2 10 (by decide)) g10; (f10k h10).below hb), (fun g10 => have h10 := lt_ (hn2 10 (by decide)) g10; f10b h10), (fun g10 => have h10 := lt_ (hn2 10 (by decide)) g10; (f10r h10).belowX hb), (fun g11 => have h11 := lt_ (hn2 11 (by decide)) g11; f11 h11), (fun g12 => have h12 := lt_ (hn2 12 (by decide)) g12; f12 h12), (fun g13 => have h13 := lt_ (hn2 13 (by decide)) g13; f13 h13), (fun g14 => have h14 := lt_ (hn2 14 (by decide)) g14; f14 h14), (fun g15 => have h15 := lt_ (hn2 15 (by decide)) g15; f15 h15), (fun g15 => have h15 := lt_ (hn2 15 (by decide)) g15; ⟨(f15a h15).1, Nat.lt_of_lt_of_le (f15a h15).2 hb.size⟩), (fun g15 g10 => have h15 := lt_ (hn2 15 (by decide)) g15; have h10 := lt_ (hn2 10 (by decide)) g10; f15b h15 h10), (fun g15 g16 => have h15 := lt_ (hn2 15 (by decide)) g15; have h16 := lt_ (hn2 16 (by decide)) g16; (f15r h15 h16).below hb), (fun g16 => have h16 := lt_ (hn2 16 (by decide)) g16; (fs h16).below hb), (fun g17 => have h17 := lt_ (hn2 17 (by decide)) g17; fi1 h17), (fun g18 => have h18 := lt_ (hn2 18 (by decide)) g18; fi2 h18)⟩)
    refine OnceFrom.cons (fun L b w K hI hi hon hup hK => ?_) ?_
    · obtain ⟨xs, hbe, x41, x42, x43, x44, x45, x46, x47, x48, x49, x50, x51, x40, x52, x53, x54, x7, x8, x9, za0, za1, za2, za3, AR, zn0, zn1, zn2, zn3, zc0, zc1, zc2, zc3, cR, b3, gs, gm, u, hxs, hB, hF⟩ := hI
      subst hxs
      have d2 : L 2 = true := hon 2 (mem_of_elem (by kernel_rfl))
      have d4 : L 4 = true := hon 4 (mem_of_elem (by kernel_rfl))
      have d6 : L 6 = true := hon 6 (mem_of_elem (by kernel_rfl))
      have d8 : L 8 = true := hon 8 (mem_of_elem (by kernel_rfl))
      have HB := hide hB
      have HF := hide hF
      obtain ⟨r1, r2, rm, mm, f0, f1, f2, f3, f4, f5, f6, f7, f8, f9, f9r, f10, f10m, f10k, f10b, f10r, f11, f12, f13, f14, f15, f15a, f15b, f15r, fs, fi1, fi2⟩ := hF
      have e2 := f2 d2
      subst e2
      have e4 := f4 d4
      subst e4
      have e6 := f6 d6
      subst e6
      have e8 := f8 d8
      subst e8
      have hT43 : b.tmps[43]? = some (.agg #[.int .i64 7, .int .i64 0, .int .i64 0, .int .u64 0]) := by rw [hbe]; exact puts_get_in _ _ _ hn hs (i := 2) rfl rfl
      have hT45 : b.tmps[45]? = some (.agg #[.int .i64 8, .int .i64 0, .int .i64 0, .int .u64 0]) := by rw [hbe]; exact puts_get_in _ _ _ hn hs (i := 4) rfl rfl
      have hT47 : b.tmps[47]? = some (.agg #[.int .i64 6, .int .i64 0, .int .i64 0, .int .u64 0]) := by rw [hbe]; exact puts_get_in _ _ _ hn hs (i := 6) rfl rfl
      have hT49 : b.tmps[49]? = some (.agg #[.int .i64 4, .int .i64 1, .int .i64 0, .int .u64 0]) := by rw [hbe]; exact puts_get_in _ _ _ hn hs (i := 8) rfl rfl
      have HBE := hide hbe
      clear hB hbe r1 r2 rm mm f0 f1 f2 f3 f4 f5 f6 f7 f8 f9 f9r f10 f10m f10k f10b f10r f11 f12 f13 f14 f15 f15a f15b f15r fs fi1 fi2
      rw [if_pos (by rfl)]
      go_simp
      obtain ⟨r1, r2, rm, mm, f0, f1, f2, f3, f4, f5, f6, f7, f8, f9, f9r, f10, f10m, f10k, f10b, f10r, f11, f12, f13, f14, f15, f15a, f15b, f15r, fs, fi1, fi2⟩ := HF.out
      have hB := HB.out
      have hb : Below w.heap.size w (w.alloc (.cells #[.int .i64 7, .int .i64 0, .int .i64 0, .int .u64 0, .int .i64 8, .int .i64 0, .int .i64 0, .int .u64 0, .int .i64 6, .int .i64 0, .int .i64 0, .int .u64 0, .int .i64 4, .int .i64 1, .int .i64 0, .int .u64 0] 45)) := (Below.refl _ _).alloc (Nat.le_refl _) _
      have hB0 : w0.heap.size ≤ w.heap.size := hB.size
      refine hK.out _ _ (fun L2 hi2 hn2 => ⟨[x41, x42, (.agg #[.int .i64 7, .int .i64 0, .int .i64 0, .int .u64 0]), x44, (.agg #[.int .i64 8, .int .i64 0, .int .i64 0, .int .u64 0]), x46, (.agg #[.int .i64 6, .int .i64 0, .int .i64 0, .int .u64 0]), x48, (.agg #[.int .i64 4, .int .i64 1, .int .i64 0, .int .u64 0]), (.slice (some ⟨w.heap.size, 0, none⟩) 4 4), x51, x40, x52, x53, x54, x7, x8, x9], put_in HBE.out hn rfl 9 _ rfl rfl, x41, x42, (.agg #[.int .i64 7, .int .i64 0, .int .i64 0, .int .u64 0]), x44, (.agg #[.int .i64 8, .int .i64 0, .int .i64 0, .int .u64 0]), x46, (.agg #[.int .i64 6, .int .i64 0, .int .i64 0, .int .u64 0]), x48, (.agg #[.int .i64 4, .int .i64 1, .int .i64 0, .int .u64 0]), (.slice (some ⟨w.heap.size, 0, none⟩) 4 4), x51, x40, x52, x53, x54, x7, x8, x9, za0, za1, za2, za3, AR, zn0, zn1, zn2, zn3, zc0, zc1, zc2, zc3, cR, b3, w.heap.size, gm, u, rfl, (hB.trans (hb.mono (Nat.le_trans hN hB0))), ((r1 ).below hb), ((r2 ).below hb), ((rm ).below hb), (fun g16 => have h16 := lt_ (hn2 16 (by decide)) g16; (mm h16).below hb), (fun g0 => have h0 := lt_ (hn2 0 (by decide)) g0; f0 h0), (fun g1 => have h1 := lt_ (hn2 1 (by decide)) g1; f1 h1), (fun g2 => have h2 := lt_ (hn2 2 (by decide)) g2; rfl), (fun g3 => have h3 := lt_ (hn2 3 (by decide)) g3; f3 h3), (fun g4 => have h4 := lt_ (hn2 4 (by decide)) g4; rfl), (fun g5 => have h5 := lt_ (hn2 5 (by decide)) g5; f5 h5), (fun g6 => have h6 := lt_ (hn2 6 (by decide)) g6; rfl), (fun g7 => have h7 := lt_ (hn2 7 (by decide)) g7; f7 h7), (fun g8 => have h8 := lt_ (hn2 8 (by decide)) g8; rfl), (fun g9 => rfl), (fun g9 g16 => have h16 := lt_ (hn2 16 (by decide)) g16; (Rd.new w #[.int .i64 7, .int .i64 0, .int .i64 0, .int .u64 0, .int .i64 8, .int .i64 0, .int .i64 0, .int .u64 0, .int .i64 6, .int .i64 0, .int .i64 0, .int .u64 0, .int .i64 4, .int .i64 1, .int .i64 0, .int .u64 0] 45 4 4 rfl).more (by simp)), (fun g10 => have h10 := lt_ (hn2 10 (by decide)) g10; f10 h10), (fun g10 => have h10 := lt_ (hn2 10 (by decide)) g10; f10m h10), (fun g10 => have h10 := lt_ (hn2 10 (by decide)) g10; (f10k h10).below hb), (fun g10 => have h10 := lt_ (hn2 10 (by decide)) g10; f10b h10), (fun g10 => have h10 := lt_ (hn2 10 (by decide)) g10; (f10r h10).belowX hb), (fun g11 => have h11 := lt_ (hn2 11 (by decide)) g11; f11 h11), (fun g12 => have h12 := lt_ (hn2 12 (by decide)) g12; f12 h12), (fun g13 => have h13 := lt_ (hn2 13 (by decide)) g13; f13 h13), (fun g14 => have h14 := lt_ (hn2 14 (by decide)) g14; f14 h14), (fun g15 => have h15 := lt_ (hn2 15 (by decide)) g15; f15 h15), (fun g15 => have h15 := lt_ (hn2 15 (by decide)) g15; ⟨(f15a h15).1, Nat.lt_of_lt_of_le (f15a h15).2 hb.size⟩), (fun g15 g10 => have h15 := lt_ (hn2 15 (by decide)) g15; have h10 := lt_ (hn2 10 (by decide)) g10; f15b h15 h10), (fun g15 g16 => have h15 := lt_ (hn2 15 (by decide)) g15; have h16 := lt_ (hn2 16 (by decide)) g16; (f15r h15 h16).below hb), (fun g16 => have h16 := lt_ (hn2 16 (by decide)) g16; (fs h16).below hb), (fun g17 => have h17 := lt_ (hn2 17 (by decide)) g17; fi1 h17), (fun g18 => have h18 := lt_ (hn2 18 (by decide)) g18; fi2 h18)⟩)
    refine OnceFrom.cons (fun L b w K hI hi hon hup hK => ?_) ?_
    · obtain ⟨xs, hbe, x41, x42, x43, x44, x45, x46, x47, x48, x49, x50, x51, x40, x52, x53, x54, x7, x8, x9, za0, za1, za2, za3, AR, zn0, zn1, zn2, zn3, zc0, zc1, zc2, zc3, cR, b3, gs, gm, u, hxs, hB, hF⟩ := hI
      subst hxs
      have d0 : L 0 = true := hon 0 (mem_of_elem (by kernel_rfl))
      have d9 : L 9 = true := hon 9 (mem_of_elem (by kernel_rfl))
      have u11 : L 11 = false := hup 11 (mem_of_elem (by kernel_rfl))
      have u12 : L 12 = false := hup 12 (mem_of_elem (by kernel_rfl))
      have u13 : L 13 = false := hup 13 (mem_of_elem (by kernel_rfl))
      have u16 : L 16 = false := hup 16 (mem_of_elem (by kernel_rfl))
      have HB := hide hB
      have HF := hide hF
      obtain ⟨r1, r2, rm, mm, f0, f1, f2, f3, f4, f5, f6, f7, f8, f9, f9r, f10, f10m, f10k, f10b, f10r, f11, f12, f13, f14, f15, f15a, f15b, f15r, fs, fi1, fi2⟩ := hF
      have e0 := f0 d0
      subst e0
      have e9 := f9 d9
      subst e9
      have MB := hide (mm u16)
      have HSL := hide (f9r d9 u16)
      have hT41 : b.tmps[41]? = some (.agg #[.slice ya0 yn0 yc0, .slice ya1 yn1 yc1, .slice ya2 yn2 yc2, .slice ya3 yn3 yc3]) := by rw [hbe]; exact puts_get_in _ _ _ hn hs (i := 0) rfl rfl
      have hT50 : b.tmps[50]? = some (.slice (some ⟨gs, 0, none⟩) 4 4) := by rw [hbe]; exact puts_get_in _ _ _ hn hs (i := 9) rfl rfl
      have HBE := hide hbe
      clear hB hbe r1 r2 rm mm f0 f1 f2 f3 f4 f5 f6 f7 f8 f9 f9r f10 f10m f10k f10b f10r f11 f12 f13 f14 f15 f15a f15b f15r fs fi1 fi2
      rw [if_pos (by rfl)]
      go_simp
      with_reducible refine (vRun MB.out fit1 (some ⟨gs, 0, none⟩) 4 4 wl2 HSL.out rfl wlU2 (by omega)).mono ?_
      rintro e w2 ⟨⟨vv, A5, n5, c5, rfl, hm5, hr5, hl5⟩, hb⟩
      rw [wkR2] at hm5 hr5 hl5 ⊢
      have hm5 : MonOut w.heap.size w2 vv wk2 := hm5
      have hl5 : 1 = n5 := hl5
      subst hl5
      have hr5 : Rd w2 w2.heap.size 2 A5 1 (Cs encE [(0, 1)]) := hr5
      obtain ⟨va0, va1, va2, va3, vn0, vn1, vn2, vn3, vc0, vc1, vc2, vc3, rfl⟩ := hm5.form
      obtain ⟨r1, r2, rm, mm, f0, f1, f2, f3, f4, f5, f6, f7, f8, f9, f9r, f10, f10m, f10k, f10b, f10r, f11, f12, f13, f14, f15, f15a, f15b, f15r, fs, fi1, fi2⟩ := HF.out
      have hB := HB.out
      have hB0 : w0.heap.size ≤ w.heap.size := hB.size
      refine hK.out _ _ (fun L2 hi2 hn2 => ⟨[(.agg #[.slice ya0 yn0 yc0, .slice ya1 yn1 yc1, .slice ya2 yn2 yc2, .slice ya3 yn3 yc3]), x42, x43, x44, x45, x46, x47, x48, x49, (.slice (some ⟨gs, 0, none⟩) 4 4), (.tuple #[.agg #[.slice va0 vn0 vc0, .slice va1 vn1 vc1, .slice va2 vn2 vc2, .slice va3 vn3 vc3], .slice A5 1 c5, .int .i64 0]), x40, x52, x53, x54, x7, x8, x9], put_in HBE.out hn rfl 10 _ rfl rfl, (.agg #[.slice ya0 yn0 yc0, .slice ya1 yn1 yc1, .slice ya2 yn2 yc2, .slice ya3 yn3 yc3]), x42, x43, x44, x45, x46, x47, x48, x49, (.slice (some ⟨gs, 0, none⟩) 4 4), (.tuple #[.agg #[.slice va0 vn0 vc0, .slice va1 vn1 vc1, .slice va2 vn2 vc2, .slice va3 vn3 vc3], .slice A5 1 c5, .int .i64 0]), x40, x52, x53, x54, x7, x8, x9, va0, va1, va2, va3, A5, vn0, vn1, vn2, vn3, vc0, vc1, vc2, vc3, c5, w.heap.size, gs, gm, w2, rfl, (hB.trans (hb.mono (Nat.le_trans hN hB0))), ((r1 ).below hb), ((r2 ).below hb), ((rm ).below hb), (fun g16 => have h16 := lt_ (hn2 16 (by decide)) g16; (mm h16).below hb), (fun g0 => have h0 := lt_ (hn2 0 (by decide)) g0; rfl), (fun g1 => have h1 := lt_ (hn2 1 (by decide)) g1; f1 h1), (fun g2 => have h2 := lt_ (hn2 2 (by decide)) g2; f2 h2), (fun g3 => have h3 := lt_ (hn2 3 (by decide)) g3; f3 h3), (fun g4 => have h4 := lt_ (hn2 4 (by decide)) g4; f4 h4), (fun g5 => have h5 := lt_ (hn2 5 (by decide)) g5; f5 h5), (fun g6 => have h6 := lt_ (hn2 6 (by decide)) g6; f6 h6), (fun g7 => have h7 := lt_ (hn2 7 (by decide)) g7; f7 h7), (fun g8 => have h8 := lt_ (hn2 8 (by decide)) g8; f8 h8), (fun g9 => have h9 := lt_ (hn2 9 (by decide)) g9; rfl), (fun g9 g16 => have h9 := lt_ (hn2 9 (by decide)) g9; have h16 := lt_ (hn2 16 (by decide)) g16; (f9r h9 h16).belowX hb), (fun g10 => rfl), (fun g10 => hm5), (fun g10 => Keeps.refl _ _), (fun g10 => hB0), (fun g10 => hr5), (fun g11 => have h11 := lt_ (hn2 11 (by decide)) g11; nope h11 u11), (fun g12 => have h12 := lt_ (hn2 12 (by decide)) g12; nope h12 u12), (fun g13 => have h13 := lt_ (hn2 13 (by decide)) g13; nope h13 u13), (fun g14 => have h14 := lt_ (hn2 14 (by decide)) g14; f14 h14), (fun g15 => have h15 := lt_ (hn2 15 (by decide)) g15; f15 h15), (fun g15 => have h15 := lt_ (hn2 15 (by decide)) g15; ⟨(f15a h15).1, Nat.lt_of_lt_of_le (f15a h15).2 hb.size⟩), (fun g15 g10 => have h15 := lt_ (hn2 15 (by decide)) g15; .inl (f15a h15).2), (fun g15 g16 => have h15 := lt_ (hn2 15 (by decide)) g15; have h16 := lt_ (hn2 16 (by decide)) g16; (f15r h15 h16).below hb), (fun g16 => have h16 := lt_ (hn2 16 (by decide)) g16; nope h16 u16), (fun g17 => have h17 := lt_ (hn2 17 (by decide)) g17; nope h17 (hup 17 (mem_of_elem (by kernel_rfl)))), (fun g18 => have h18 := lt_ (hn2 18 (by decide)) g18; fi2 h18)⟩)
    refine OnceFrom.cons (fun L b w K hI hi hon hup hK => ?_) ?_
    · obtain ⟨xs, hbe, x41, x42, x43, x44, x45, x46, x47, x48, x49, x50, x51, x40, x52, x53, x54, x7, x8, x9, za0, za1, za2, za3, AR, zn0, zn1, zn2, zn3, zc0, zc1, zc2, zc3, cR, b3, gs, gm, u, hxs, hB, hF⟩ := hI
      subst hxs
      have d10 : L 10 = true := hon 10 (mem_of_elem (by kernel_rfl))
      have HB := hide hB
      have HF := hide hF
      obtain ⟨r1, r2, rm, mm, f0, f1, f2, f3, f4, f5, f6, f7, f8, f9, f9r, f10, f10m, f10k, f10b, f10r, f11, f12, f13, f14, f15, f15a, f15b, f15r, fs, fi1, fi2⟩ := hF
      have e10 := f10 d10
      subst e10
      have hT51 : b.tmps[51]? = some (.tuple #[.agg #[.slice za0 zn0 zc0, .slice za1 zn1 zc1, .slice za2 zn2 zc2, .slice za3 zn3 zc3], .slice AR 1 cR, .int .i64 0]) := by rw [hbe]; exact puts_get_in _ _ _ hn hs (i := 10) rfl rfl
      have HBE := hide hbe
      clear hB hbe r1 r2 rm mm f0 f1 f2 f3 f4 f5 f6 f7 f8 f9 f9r f10 f10m f10k f10b f10r f11 f12 f13 f14 f15 f15a f15b f15r fs fi1 fi2
      rw [if_pos (by rfl)]
      go_simp
      obtain ⟨r1, r2, rm, mm, f0, f1, f2, f3, f4, f5, f6, f7, f8, f9, f9r, f10, f10m, f10k, f10b, f10r, f11, f12, f13, f14, f15, f15a, f15b, f15r, fs, fi1, fi2⟩ := HF.out
      have hB := HB.out
      refine hK.out _ _ (fun L2 hi2 hn2 => ⟨[x41, x42, x43, x44, x45, x46, x47, x48, x49, x50, (.tuple #[.agg #[.slice za0 zn0 zc0, .slice za1 zn1 zc1, .slice za2 zn2 zc2, .slice za3 zn3 zc3], .slice AR 1 cR, .int .i64 0]), (.tuple #[.agg #[.slice za0 zn0 zc0, .slice za1 zn1 zc1, .slice za2 zn2 zc2, .slice za3 zn3 zc3], .slice AR 1 cR, .int .i64 0]), x52, x53, x54, x7, x8, x9], put_in HBE.out hn rfl 11 _ rfl rfl, x41, x42, x43, x44, x45, x46, x47, x48, x49, x50, (.tuple #[.agg #[.slice za0 zn0 zc0, .slice za1 zn1 zc1, .slice za2 zn2 zc2, .slice za3 zn3 zc3], .slice AR 1 cR, .int .i64 0]), (.tuple #[.agg #[.slice za0 zn0 zc0, .slice za1 zn1 zc1, .slice za2 zn2 zc2, .slice za3 zn3 zc3], .slice AR 1 cR, .int .i64 0]), x52, x53, x54, x7, x8, x9, za0, za1, za2, za3, AR, zn0, zn1, zn2, zn3, zc0, zc1, zc2, zc3, cR, b3, gs, gm, u, rfl, hB, (r1 ), (r2 ), (rm ), (fun g16 => have h16 := lt_ (hn2 16 (by decide)) g16; mm h16), (fun g0 => have h0 := lt_ (hn2 0 (by decide)) g0; f0 h0), (fun g1 => have h1 := lt_ (hn2 1 (by decide)) g1; f1 h1), (fun g2 => have h2 := lt_ (hn2 2 (by decide)) g2; f2 h2), (fun g3 => have h3 := lt_ (hn2 3 (by decide)) g3; f3 h3), (fun g4 => have h4 := lt_ (hn2 4 (by decide)) g4; f4 h4), (fun g5 => have h5 := lt_ (hn2 5 (by decide)) g5; f5 h5), (fun g6 => have h6 := lt_ (hn2 6 (by decide)) g6; f6 h6), (fun g7 => have h7 := lt_ (hn2 7 (by decide)) g7; f7 h7), (fun g8 => have h8 := lt_ (hn2 8 (by decide)) g8; f8 h8), (fun g9 => have h9 := lt_ (hn2 9 (by decide)) g9; f9 h9), (fun g9 g16 => have h9 := lt_ (hn2 9 (by decide)) g9; have h16 := lt_ (hn2 16 (by decide)) g16; f9r h9 h16), (fun g10 => have h10 := lt_ (hn2 10 (by decide)) g10; rfl), (fun g10 => have h10 := lt_ (hn2 10 (by decide)) g10; f10m h10), (fun g10 => have h10 := lt_ (hn2 10 (by decide)) g10; f10k h10), (fun g10 => have h10 := lt_ (hn2 10 (by decide)) g10; f10b h10), (fun g10 => have h10 := lt_ (hn2 10 (by decide)) g10; f10r h10), (fun g11 => rfl), (fun g12 => have h12 := lt_ (hn2 12 (by decide)) g12; f12 h12), (fun g13 => have h13 := lt_ (hn2 13 (by decide)) g13; f13 h13), (fun g14 => have h14 := lt_ (hn2 14 (by decide)) g14; f14 h14), (fun g15 => have h15 := lt_ (hn2 15 (by decide)) g15; f15 h15), (fun g15 => have h15 := lt_ (hn2 15 (by decide)) g15; f15a h15), (fun g15 g10 => have h15 := lt_ (hn2 15 (by decide)) g15; have h10 := lt_ (hn2 10 (by decide)) g10; f15b h15 h10), (fun g15 g16 => have h15 := lt_ (hn2 15 (by decide)) g15; have h16 := lt_ (hn2 16 (by decide)) g16; f15r h15 h16), (fun g16 => have h16 := lt_ (hn2 16 (by decide)) g16; fs h16), (fun g17 => have h17 := lt_ (hn2 17 (by decide)) g17; fi1 h17), (fun g18 => have h18 := lt_ (hn2 18 (by decide)) g18; fi2 h18)⟩)
    refine OnceFrom.cons (fun L b w K hI hi hon hup hK => ?_) ?_
    · obtain ⟨xs, hbe, x41, x42, x43, x44, x45, x46, x47, x48, x49, x50, x51, x40, x52, x53, x54, x7, x8, x9, za0, za1, za2, za3, AR, zn0, zn1, zn2, zn3, zc0, zc1, zc2, zc3, cR, b3, gs, gm, u, hxs, hB, hF⟩ := hI
      subst hxs
      have d11 : L 11 = true := hon 11 (mem_of_elem (by kernel_rfl))
      have HB := hide hB
      have HF := hide hF
      obtain ⟨r1, r2, rm, mm, f0, f1, f2, f3, f4, f5, f6, f7, f8, f9, f9r, f10, f10m, f10k, f10b, f10r, f11, f12, f13, f14, f15, f15a, f15b, f15r, fs, fi1, fi2⟩ := hF
      have e11 := f11 d11
      subst e11
      have hT40 : b.tmps[40]? = some (.tuple #[.agg #[.slice za0 zn0 zc0, .slice za1 zn1 zc1, .slice za2 zn2 zc2, .slice za3 zn3 zc3], .slice AR 1 cR, .int .i64 0]) := by rw [hbe]; exact puts_get_in _ _ _ hn hs (i := 11) rfl rfl
      have HBE := hide hbe
      clear hB hbe r1 r2 rm mm f0 f1 f2 f3 f4 f5 f6 f7 f8 f9 f9r f10 f10m f10k f10b f10r f11 f12 f13 f14 f15 f15a f15b f15r fs fi1 fi2
      rw [if_pos (by rfl)]
      go_simp
      obtain ⟨r1, r2, rm, mm, f0, f1, f2, f3, f4, f5, f6, f7, f8, f9, f9r, f10, f10m, f10k, f10b, f10r, f11, f12, f13, f14, f15, f15a, f15b, f15r, fs, fi1, fi2⟩ := HF.out
      have hB := HB.out
      refine hK.out _ _ (fun L2 hi2 hn2 => ⟨[x41, x42, x43, x44, x45, x46, x47, x48, x49, x50, x51, (.tuple #[.agg #[.slice za0 zn0 zc0, .slice za1 zn1 zc1, .slice za2 zn2 zc2, .slice za3 zn3 zc3], .slice AR 1 cR, .int .i64 0]), (.agg #[.slice za0 zn0 zc0, .slice za1 zn1 zc1, .slice za2 zn2 zc2, .slice za3 zn3 zc3]), x53, x54, x7, x8, x9], put_in HBE.out hn rfl 12 _ rfl rfl, x41, x42, x43, x44, x45, x46, x47, x48, x49, x50, x51, (.tuple #[.agg #[.slice za0 zn0 zc0, .slice za1 zn1 zc1, .slice za2 zn2 zc2, .slice za3 zn3 zc3], .slice AR 1 cR, .int .i64 0]), (.agg #[.slice za0 zn0 zc0, .slice za1 zn1 zc1, .slice za2 zn2 zc2, .slice za3 zn3 zc3]), x53, x54, x7, x8, x9, za0, za1, za2, za3, AR, zn0, zn1, zn2, zn3, zc0, zc1, zc2, zc3, cR, b3, gs, gm, u, rfl, hB, (r1 ), (r2 ), (rm ), (fun g16 => have h16 := lt_ (hn2 16 (by decide)) g16; mm h16), (fun g0 => have h0 := lt_ (hn2 0 (by decide)) g0; f0 h0), (fun g1 => have h1 := lt_ (hn2 1 (by decide)) g1; f1 h1), (fun g2 => have h2 := lt_ (hn2 2 (by decide)) g2; f2 h2), (fun g3 => have h3 := lt_ (hn2 3 (by decide)) g3; f3 h3), (fun g4 => have h4 := lt_ (hn2 4 (by decide)) g4; f4 h4), (fun g5 => have h5 := lt_ (hn2 5 (by decide)) g5; f5 h5), (fun g6 => have h6 := lt_ (hn2 6 (by decide)) g6; f6 h6), (fun g7 => have h7 := lt_ (hn2 7 (by decide)) g7; f7 h7), (fun g8 => have h8 := lt_ (hn2 8 (by decide)) g8; f8 h8), (fun g9 => have h9 := lt_ (hn2 9 (by decide)) g9; f9 h9), (fun g9 g16 => have h9 := lt_ (hn2 9 (by decide)) g9; have h16 := lt_ (hn2 16 (by decide)) g16; f9r h9 h16), (fun g10 => have h10 := lt_ (hn2 10 (by decide)) g10; f10 h10), (fun g10 => have h10 := lt_ (hn2 10 (by decide)) g10; f10m h10), (fun g10 => have h10 := lt_ (hn2 10 (by decide)) g10; f10k h10), (fun g10 => have h10 := lt_ (hn2 10 (by decide)) g10; f10b h10), (fun g10 => have h10 := lt_ (hn2 10 (by decide)) g10; f10r h10), (fun g11 => have h11 := lt_ (hn2 11 (by decide)) g11; rfl), (fun g12 => rfl), (fun g13 => have h13 := lt_ (hn2 13 (by decide)) g13; f13 h13), (fun g14 => have h14 := lt_ (hn2 14 (by decide)) g14; f14 h14), (fun g15 => have h15 := lt_ (hn2 15 (by decide)) g15; f15 h15), (fun g15 => have h15 := lt_ (hn2 15 (by decide)) g15; f15a h15), (fun g15 g10 => have h15 := lt_ (hn2 15 (by decide)) g15; have h10 := lt_ (hn2 10 (by decide)) g10; f15b h15 h10), (fun g15 g16 => have h15 := lt_ (hn2 15 (by decide)) g15; have h16 := lt_ (hn2 16 (by decide)) g16; f15r h15 h16), (fun g16 => have h16 := lt_ (hn2 16 (by decide)) g16; fs h16), (fun g17 => have h17 := lt_ (hn2 17 (by decide)) g17; fi1 h17), (fun g18 => have h18 := lt_ (hn2 18 (by decide)) g18; fi2 h18)⟩)
    refine OnceFrom.cons (fun L b w K hI hi hon hup hK => ?_) ?_
    · obtain ⟨xs, hbe, x41, x42, x43, x44, x45, x46, x47, x48, x49, x50, x51, x40, x52, x53, x54, x7, x8, x9, za0, za1, za2, za3, AR, zn0, zn1, zn2, zn3, zc0, zc1, zc2, zc3, cR, b3, gs, gm, u, hxs, hB, hF⟩ := hI
      subst hxs
      have d11 : L 11 = true := hon 11 (mem_of_elem (by kernel_rfl))
      have HB := hide hB
      have HF := hide hF
      obtain ⟨r1, r2, rm, mm, f0, f1, f2, f3, f4, f5, f6, f7, f8, f9, f9r, f10, f10m, f10k, f10b, f10r, f11, f12, f13, f14, f15, f15a, f15b, f15r, fs, fi1, fi2⟩ := hF
      have e11 := f11 d11
      subst e11
      have hT40 : b.tmps[40]? = some (.tuple #[.agg #[.slice za0 zn0 zc0, .slice za1 zn1 zc1, .slice za2 zn2 zc2, .slice za3 zn3 zc3], .slice AR 1 cR, .int .i64 0]) := by rw [hbe]; exact puts_get_in _ _ _ hn hs (i := 11) rfl rfl
      have HBE := hide hbe
      clear hB hbe r1 r2 rm mm f0 f1 f2 f3 f4 f5 f6 f7 f8 f9 f9r f10 f10m f10k f10b f10r f11 f12 f13 f14 f15 f15a f15b f15r fs fi1 fi2
      rw [if_pos (by rfl)]
      go_simp
      obtain ⟨r1, r2, rm, mm, f0, f1, f2, f3, f4, f5, f6, f7, f8, f9, f9r, f10, f10m, f10k, f10b, f10r, f11, f12, f13, f14, f15, f15a, f15b, f15r, fs, fi1, fi2⟩ := HF.out
      have hB := HB.out
      refine hK.out _ _ (fun L2 hi2 hn2 => ⟨[x41, x42, x43, x44, x45, x46, x47, x48, x49, x50, x51, (.tuple #[.agg #[.slice za0 zn0 zc0, .slice za1 zn1 zc1, .slice za2 zn2 zc2, .slice za3 zn3 zc3], .slice AR 1 cR, .int .i64 0]), x52, (.slice AR 1 cR), x54, x7, x8, x9], put_in HBE.out hn rfl 13 _ rfl rfl, x41, x42, x43, x44, x45, x46, x47, x48, x49, x50, x51, (.tuple #[.agg #[.slice za0 zn0 zc0, .slice za1 zn1 zc1, .slice za2 zn2 zc2, .slice za3 zn3 zc3], .slice AR 1 cR, .int .i64 0]), x52, (.slice AR 1 cR), x54, x7, x8, x9, za0, za1, za2, za3, AR, zn0, zn1, zn2, zn3, zc0, zc1, zc2, zc3, cR, b3, gs, gm, u, rfl, hB, (r1 ), (r2 ), (rm ), (fun g16 => have h16 := lt_ (hn2 16 (by decide)) g16; mm h16), (fun g0 => have h0 := lt_ (hn2 0 (by decide)) g0; f0 h0), (fun g1 => have h1 := lt_ (hn2 1 (by decide)) g1; f1 h1), (fun g2 => have h2 := lt_ (hn2 2 (by decide)) g2; f2 h2), (fun g3 => have h3 := lt_ (hn2 3 (by decide)) g3; f3 h3), (fun g4 => have h4 := lt_ (hn2 4 (by decide)) g4; f4 h4), (fun g5 => have h5 := lt_ (hn2 5 (by decide)) g5; f5 h5), (fun g6 => have h6 := lt_ (hn2 6 (by decide)) g6; f6 h6), (fun g7 => have h7 := lt_ (hn2 7 (by decide)) g7; f7 h7), (fun g8 => have h8 := lt_ (hn2 8 (by decide)) g8; f8 h8), (fun g9 => have h9 := lt_ (hn2 9 (by decide)) g9; f9 h9), (fun g9 g16 => have h9 := lt_ (hn2 9 (by decide)) g9; have h16 := lt_ (hn2 16 (by decide)) g16; f9r h9 h16), (fun g10 => have h10 := lt_ (hn2 10 (by decide)) g10; f10 h10), (fun g10 => have h10 := lt_ (hn2 10 (by decide)) g10; f10m h10), (fun g10 => have h10 := lt_ (hn2 10 (by decide)) g10; f10k h10), (fun g10 => have h10 := lt_ (hn2 10 (by decide)) g10; f10b h10), (fun g10 => have h10 := lt_ (hn2 10 (by decide)) g10; f10r h10), (fun g11 => have h11 := lt_ (hn2 11 (by decide)) g11; rfl), (fun g12 => have h12 := lt_ (hn2 12 (by decide)) g12; f12 h12), (fun g13 => rfl), (fun g14 => have h14 := lt_ (hn2 14 (by decide)) g14; f14 h14), (fun g15 => have h15 := lt_ (hn2 15 (by decide)) g15; f15 h15), (fun g15 => have h15 := lt_ (hn2 15 (by decide)) g15; f15a h15), (fun g15 g10 => have h15 := lt_ (hn2 15 (by decide)) g15; have h10 := lt_ (hn2 10 (by decide)) g10; f15b h15 h10), (fun g15 g16 => have h15 := lt_ (hn2 15 (by decide)) g15; have h16 := lt_ (hn2 16 (by decide)) g16; f15r h15 h16), (fun g16 => have h16 := lt_ (hn2 16 (by decide)) g16; fs h16), (fun g17 => have h17 := lt_ (hn2 17 (by decide)) g17; fi1 h17), (fun g18 => have h18 := lt_ (hn2 18 (by decide)) g18; fi2 h18)⟩)
    refine OnceFrom.cons (fun L b w K hI hi hon hup hK => ?_) ?_
    · obtain ⟨xs, hbe, x41, x42, x43, x44, x45, x46, x47, x48, x49, x50, x51, x40, x52, x53, x54, x7, x8, x9, za0, za1, za2, za3, AR, zn0, zn1, zn2, zn3, zc0, zc1, zc2, zc3, cR, b3, gs, gm, u, hxs, hB, hF⟩ := hI
      subst hxs
      have d11 : L 11 = true := hon 11 (mem_of_elem (by kernel_rfl))
      have HB := hide hB
      have HF := hide hF
      obtain ⟨r1, r2, rm, mm, f0, f1, f2, f3, f4, f5, f6, f7, f8, f9, f9r, f10, f10m, f10k, f10b, f10r, f11, f12, f13, f14, f15, f15a, f15b, f15r, fs, fi1, fi2⟩ := hF
      have e11 := f11 d11
      subst e11
      have hT40 : b.tmps[40]? = some (.tuple #[.agg #[.slice za0 zn0 zc0, .slice za1 zn1 zc1, .slice za2 zn2 zc2, .slice za3 zn3 zc3], .slice AR 1 cR, .int .i64 0]) := by rw [hbe]; exact puts_get_in _ _ _ hn hs (i := 11) rfl rfl
      have HBE := hide hbe
      clear hB hbe r1 r2 rm mm f0 f1 f2 f3 f4 f5 f6 f7 f8 f9 f9r f10 f10m f10k f10b f10r f11 f12 f13 f14 f15 f15a f15b f15r fs fi1 fi2
      rw [if_pos (by rfl)]
      go_simp
      obtain ⟨r1, r2, rm, mm, f0, f1, f2, f3, f4, f5, f6, f7, f8, f9, f9r, f10, f10m, f10k, f10b, f10r, f11, f12, f13, f14, f15, f15a, f15b, f15r, fs, fi1, fi2⟩ := HF.out
      have hB := HB.out
      refine hK.out _ _ (fun L2 hi2 hn2 => ⟨[x41, x42, x43, x44, x45, x46, x47, x48, x49, x50, x51, (.tuple #[.agg #[.slice za0 zn0 zc0, .slice za1 zn1 zc1, .slice za2 zn2 zc2, .slice za3 zn3 zc3], .slice AR 1 cR, .int .i64 0]), x52, x53, (.int .i64 0), x7, x8, x9], put_in HBE.out hn rfl 14 _ rfl rfl, x41, x42, x43, x44, x45, x46, x47, x48, x49, x50, x51, (.tuple #[.agg #[.slice za0 zn0 zc0, .slice za1 zn1 zc1, .slice za2 zn2 zc2, .slice za3 zn3 zc3], .slice AR 1 cR, .int .i64 0]), x52, x53, (.int .i64 0), x7, x8, x9, za0, za1, za2, za3, AR, zn0, zn1, zn2, zn3, zc0, zc1, zc2, zc3, cR, b3, gs, gm, u, rfl, hB, (r1 ), (r2 ), (rm ), (fun g16 => have h16 := lt_ (hn2 16 (by decide)) g16; mm h16), (fun g0 => have h0 := lt_ (hn2 0 (by decide)) g0; f0 h0), (fun g1 => have h1 := lt_ (hn2 1 (by decide)) g1; f1 h1), (fun g2 => have h2 := lt_ (hn2 2 (by decide)) g2; f2 h2), (fun g3 => have h3 := lt_ (hn2 3 (by decide)) g3; f3 h3), (fun g4 => have h4 := lt_ (hn2 4 (by decide)) g4; f4 h4), (fun g5 => have h5 := lt_ (hn2 5 (by decide)) g5; f5 h5), (fun g6 => have h6 := lt_ (hn2 6 (by decide)) g6; f6 h6), (fun g7 => have h7 := lt_ (hn2 7 (by decide)) g7; f7 h7), (fun g8 => have h8 := lt_ (hn2 8 (by decide)) g8; f8 h8), (fun g9 => have h9 := lt_ (hn2 9 (by decide)) g9; f9 h9), (fun g9 g16 => have h9 := lt_ (hn2 9 (by decide)) g9; have h16 := lt_ (hn2 16 (by decide)) g16; f9r h9 h16), (fun g10 => have h10 := lt_ (hn2 10 (by decide)) g10; f10 h10), (fun g10 => have h10 := lt_ (hn2 10 (by decide)) g10; f10m h10), (fun g10 => have h10 := lt_ (hn2 10 (by decide)) g10; f10k h10), (fun g10 => have h10 := lt_ (hn2 10 (by decide)) g10; f10b h10), (fun g10 => have h10 := lt_ (hn2 10 (by decide)) g10; f10r h10), (fun g11 => have h11 := lt_ (hn2 11 (by decide)) g11; rfl), (fun g12 => have h12 := lt_ (hn2 12 (by decide)) g12; f12 h12), (fun g13 => have h13 := lt_ (hn2 13 (by decide)) g13; f13 h13), (fun g14 => rfl), (fun g15 => have h15 := lt_ (hn2 15 (by decide)) g15; f15 h15), (fun g15 => have h15 := lt_ (hn2 15 (by decide)) g15; f15a h15), (fun g15 g10 => have h15 := lt_ (hn2 15 (by decide)) g15; have h10 := lt_ (hn2 10 (by decide)) g10; f15b h15 h10), (fun g15 g16 => have h15 := lt_ (hn2 15 (by decide)) g15; have h16 := lt_ (hn2 16 (by decide)) g16; f15r h15 h16), (fun g16 => have h16 := lt_ (hn2 16 (by decide)) g16; fs h16), (fun g17 => have h17 := lt_ (hn2 17 (by decide)) g17; fi1 h17), (fun g18 => have h18 := lt_ (hn2 18 (by decide)) g18; fi2 h18)⟩)
    refine OnceFrom.cons (fun L b w K hI hi hon hup hK => ?_) ?_
    · obtain ⟨xs, hbe, x41, x42, x43, x44, x45, x46, x47, x48, x49, x50, x51, x40, x52, x53, x54, x7, x8, x9, za0, za1, za2, za3, AR, zn0, zn1, zn2, zn3, zc0, zc1, zc2, zc3, cR, b3, gs, gm, u, hxs, hB, hF⟩ := hI
      subst hxs
      have u16 : L 16 = false := hup 16 (mem_of_elem (by kernel_rfl))
      have HB := hide hB
      have HF := hide hF
      obtain ⟨r1, r2, rm, mm, f0, f1, f2, f3, f4, f5, f6, f7, f8, f9, f9r, f10, f10m, f10k, f10b, f10r, f11, f12, f13, f14, f15, f15a, f15b, f15r, fs, fi1, fi2⟩ := hF
      have HBE := hide hbe
      clear hB hbe r1 r2 rm mm f0 f1 f2 f3 f4 f5 f6 f7 f8 f9 f9r f10 f10m f10k f10b f10r f11 f12 f13 f14 f15 f15a f15b f15r fs fi1 fi2
      rw [if_pos (by rfl)]
      go_simp
      obtain ⟨r1, r2, rm, mm, f0, f1, f2, f3, f4, f5, f6, f7, f8, f9, f9r, f10, f10m, f10k, f10b, f10r, f11, f12, f13, f14, f15, f15a, f15b, f15r, fs, fi1, fi2⟩ := HF.out
      have hB := HB.out
      have hb : Below w.heap.size w (w.alloc (.cells #[.slice none 0 0, .slice none 0 0, .slice none 0 0, .slice none 0 0] 32)) := (Below.refl _ _).alloc (Nat.le_refl _) _
      have hB0 : w0.heap.size ≤ w.heap.size := hB.size
      refine hK.out _ _ (fun L2 hi2 hn2 => ⟨[x41, x42, x43, x44, x45, x46, x47, x48, x49, x50, x51, x40, x52, x53, x54, (.pointer (some ⟨w.heap.size, 0, none⟩)), x8, x9], put_in HBE.out hn rfl 15 _ rfl rfl, x41, x42, x43, x44, x45, x46, x47, x48, x49, x50, x51, x40, x52, x53, x54, (.pointer (some ⟨w.heap.size, 0, none⟩)), x8, x9, za0, za1, za2, za3, AR, zn0, zn1, zn2, zn3, zc0, zc1, zc2, zc3, cR, b3, gs, w.heap.size, u, rfl, (hB.trans (hb.mono (Nat.le_trans hN hB0))), ((r1 ).below hb), ((r2 ).below hb), ((rm ).below hb), (fun g16 => have h16 := lt_ (hn2 16 (by decide)) g16; (mm h16).below hb), (fun g0 => have h0 := lt_ (hn2 0 (by decide)) g0; f0 h0), (fun g1 => have h1 := lt_ (hn2 1 (by decide)) g1; f1 h1), (fun g2 => have h2 := lt_ (hn2 2 (by decide)) g2; f2 h2), (fun g3 => have h3 := lt_ (hn2 3 (by decide)) g3; f3 h3), (fun g4 => have h4 := lt_ (hn2 4 (by decide)) g4; f4 h4), (fun g5 => have h5 := lt_ (hn2 5 (by decide)) g5; f5 h5), (fun g6 => have h6 := lt_ (hn2 6 (by decide)) g6; f6 h6), (fun g7 => have h7 := lt_ (hn2 7 (by decide)) g7; f7 h7), (fun g8 => have h8 := lt_ (hn2 8 (by decide)) g8; f8 h8), (fun g9 => have h9 := lt_ (hn2 9 (by decide)) g9; f9 h9), (fun g9 g16 => have h9 := lt_ (hn2 9 (by decide)) g9; have h16 := lt_ (hn2 16 (by decide)) g16; (f9r h9 h16).belowX hb), (fun g10 => have h10 := lt_ (hn2 10 (by decide)) g10; f10 h10), (fun g10 => have h10 := lt_ (hn2 10 (by decide)) g10; f10m h10), (fun g10 => have h10 := lt_ (hn2 10 (by decide)) g10; (f10k h10).below hb), (fun g10 => have h10 := lt_ (hn2 10 (by decide)) g10; f10b h10), (fun g10 => have h10 := lt_ (hn2 10 (by decide)) g10; (f10r h10).belowX hb), (fun g11 => have h11 := lt_ (hn2 11 (by decide)) g11; f11 h11), (fun g12 => have h12 := lt_ (hn2 12 (by decide)) g12; f12 h12), (fun g13 => have h13 := lt_ (hn2 13 (by decide)) g13; f13 h13), (fun g14 => have h14 := lt_ (hn2 14 (by decide)) g14; f14 h14), (fun g15 => rfl), (fun g15 => ⟨hB.size, by simp⟩), (fun g15 g10 => have h10 := lt_ (hn2 10 (by decide)) g10; .inr (f10k h10).1), (fun g15 g16 => have h16 := lt_ (hn2 16 (by decide)) g16; RowAt.new w _ _), (fun g16 => have h16 := lt_ (hn2 16 (by decide)) g16; nope h16 u16), (fun g17 => have h17 := lt_ (hn2 17 (by decide)) g17; fi1 h17), (fun g18 => have h18 := lt_ (hn2 18 (by decide)) g18; fi2 h18)⟩)
    refine OnceFrom.cons (fun L b w K hI hi hon hup hK => ?_) ?_
    · obtain ⟨xs, hbe, x41, x42, x43, x44, x45, x46, x47, x48, x49, x50, x51, x40, x52, x53, x54, x7, x8, x9, za0, za1, za2, za3, AR, zn0, zn1, zn2, zn3, zc0, zc1, zc2, zc3, cR, b3, gs, gm, u, hxs, hB, hF⟩ := hI
      subst hxs
      have d12 : L 12 = true := hon 12 (mem_of_elem (by kernel_rfl))
      have d10 : L 10 = true := hon 10 (mem_of_elem (by kernel_rfl))
      have d15 : L 15 = true := hon 15 (mem_of_elem (by kernel_rfl))
      have HB := hide hB
      have HF := hide hF
      obtain ⟨r1, r2, rm, mm, f0, f1, f2, f3, f4, f5, f6, f7, f8, f9, f9r, f10, f10m, f10k, f10b, f10r, f11, f12, f13, f14, f15, f15a, f15b, f15r, fs, fi1, fi2⟩ := hF
      have e15 := f15 d15
      subst e15
      have e12 := f12 d12
      subst e12
      have R8 := f15r d15 hi
      obtain ⟨q0, q1, q2, q3⟩ := row4 R8
      have ql := R8.lt
      have p0 := R8.frozen 0
      have p1 := R8.frozen 1
      have p2 := R8.frozen 2
      have p3 := R8.frozen 3
      replace R8 := hide R8
      have hT52 : b.tmps[52]? = some (.agg #[.slice za0 zn0 zc0, .slice za1 zn1 zc1, .slice za2 zn2 zc2, .slice za3 zn3 zc3]) := by rw [hbe]; exact puts_get_in _ _ _ hn hs (i := 12) rfl rfl
      have hT7 : b.tmps[7]? = some (.pointer (some ⟨gm, 0, none⟩)) := by rw [hbe]; exact puts_get_in _ _ _ hn hs (i := 15) rfl rfl
      have HBE := hide hbe
      clear hB hbe r1 r2 rm mm f0 f1 f2 f3 f4 f5 f6 f7 f8 f9 f9r f10 f10m f10k f10b f10r f11 f12 f13 f14 f15 f15a f15b f15r fs fi1 fi2
      rw [if_pos (by rfl)]
      go_simp
      obtain ⟨r1, r2, rm, mm, f0, f1, f2, f3, f4, f5, f6, f7, f8, f9, f9r, f10, f10m, f10k, f10b, f10r, f11, f12, f13, f14, f15, f15a, f15b, f15r, fs, fi1, fi2⟩ := HF.out
      have hB := HB.out
      have HL := laidM4_of (n := N0) (v0 := .slice za0 zn0 zc0) (v1 := .slice za1 zn1 zc1) (v2 := .slice za2 zn2 zc2) (v3 := .slice za3 zn3 zc3) R8.out (Nat.le_trans hN (f15a d15).1)
      refine hK.out _ _ (fun L2 hi2 hn2 => ⟨[x41, x42, x43, x44, x45, x46, x47, x48, x49, x50, x51, x40, (.agg #[.slice za0 zn0 zc0, .slice za1 zn1 zc1, .slice za2 zn2 zc2, .slice za3 zn3 zc3]), x53, x54, (.pointer (some ⟨gm, 0, none⟩)), x8, x9], HBE.out, x41, x42, x43, x44, x45, x46, x47, x48, x49, x50, x51, x40, (.agg #[.slice za0 zn0 zc0, .slice za1 zn1 zc1, .slice za2 zn2 zc2, .slice za3 zn3 zc3]), x53, x54, (.pointer (some ⟨gm, 0, none⟩)), x8, x9, za0, za1, za2, za3, AR, zn0, zn1, zn2, zn3, zc0, zc1, zc2, zc3, cR, b3, gs, gm, u, rfl, (hB.trans HL.2.2), ((HL.2.1 _ (fun e => by have h1 := r1; rw [e] at h1; exact absurd (row_typ h1 R8.out) (by decide))).trans r1), ((HL.2.1 _ (fun e => by have h1 := r2; rw [e] at h1; exact absurd (row_typ h1 R8.out) (by decide))).trans r2), ((HL.2.1 _ (by have := (f15a d15).1; have := R0.lt; omega)).trans rm), (fun g16 => nope hi2 g16), (fun g0 => have h0 := lt_ (hn2 0 (by decide)) g0; f0 h0), (fun g1 => have h1 := lt_ (hn2 1 (by decide)) g1; f1 h1), (fun g2 => have h2 := lt_ (hn2 2 (by decide)) g2; f2 h2), (fun g3 => have h3 := lt_ (hn2 3 (by decide)) g3; f3 h3), (fun g4 => have h4 := lt_ (hn2 4 (by decide)) g4; f4 h4), (fun g5 => have h5 := lt_ (hn2 5 (by decide)) g5; f5 h5), (fun g6 => have h6 := lt_ (hn2 6 (by decide)) g6; f6 h6), (fun g7 => have h7 := lt_ (hn2 7 (by decide)) g7; f7 h7), (fun g8 => have h8 := lt_ (hn2 8 (by decide)) g8; f8 h8), (fun g9 => have h9 := lt_ (hn2 9 (by decide)) g9; f9 h9), (fun g9 g16 => nope hi2 g16), (fun g10 => have h10 := lt_ (hn2 10 (by decide)) g10; f10 h10), (fun g10 => have h10 := lt_ (hn2 10 (by decide)) g10; f10m h10), (fun g10 => have h10 := lt_ (hn2 10 (by decide)) g10; (f10k d10).store (f15b d15 d10) HL.2.1 HL.2.2.size), (fun g10 => have h10 := lt_ (hn2 10 (by decide)) g10; f10b h10), (fun g10 => have h10 := lt_ (hn2 10 (by decide)) g10; rdE_store (f10r d10) rfl R8.out HL.2.1), (fun g11 => have h11 := lt_ (hn2 11 (by decide)) g11; f11 h11), (fun g12 => have h12 := lt_ (hn2 12 (by decide)) g12; rfl), (fun g13 => have h13 := lt_ (hn2 13 (by decide)) g13; f13 h13), (fun g14 => have h14 := lt_ (hn2 14 (by decide)) g14; f14 h14), (fun g15 => have h15 := lt_ (hn2 15 (by decide)) g15; rfl), (fun g15 => have h15 := lt_ (hn2 15 (by decide)) g15; ⟨(f15a d15).1, Nat.lt_of_lt_of_le (f15a d15).2 HL.2.2.size⟩), (fun g15 g10 => have h15 := lt_ (hn2 15 (by decide)) g15; have h10 := lt_ (hn2 10 (by decide)) g10; f15b h15 h10), (fun g15 g16 => nope hi2 g16), (fun g16 => HL.1), (fun g17 => have h17 := lt_ (hn2 17 (by decide)) g17; fi1 h17), (fun g18 => have h18 := lt_ (hn2 18 (by decide)) g18; fi2 h18)⟩)
    refine OnceFrom.cons (fun L b w K hI hi hon hup hK => ?_) ?_
    · obtain ⟨xs, hbe, x41, x42, x43, x44, x45, x46, x47, x48, x49, x50, x51, x40, x52, x53, x54, x7, x8, x9, za0, za1, za2, za3, AR, zn0, zn1, zn2, zn3, zc0, zc1, zc2, zc3, cR, b3, gs, gm, u, hxs, hB, hF⟩ := hI
      subst hxs
      have d13 : L 13 = true := hon 13 (mem_of_elem (by kernel_rfl))
      have HB := hide hB
      have HF := hide hF
      obtain ⟨r1, r2, rm, mm, f0, f1, f2, f3, f4, f5, f6, f7, f8, f9, f9r, f10, f10m, f10k, f10b, f10r, f11, f12, f13, f14, f15, f15a, f15b, f15r, fs, fi1, fi2⟩ := hF
      have e13 := f13 d13
      subst e13
      have hT53 : b.tmps[53]? = some (.slice AR 1 cR) := by rw [hbe]; exact puts_get_in _ _ _ hn hs (i := 13) rfl rfl
      have HBE := hide hbe
      clear hB hbe r1 r2 rm mm f0 f1 f2 f3 f4 f5 f6 f7 f8 f9 f9r f10 f10m f10k f10b f10r f11 f12 f13 f14 f15 f15a f15b f15r fs fi1 fi2
      rw [if_pos (by rfl)]
      go_simp
      obtain ⟨r1, r2, rm, mm, f0, f1, f2, f3, f4, f5, f6, f7, f8, f9, f9r, f10, f10m, f10k, f10b, f10r, f11, f12, f13, f14, f15, f15a, f15b, f15r, fs, fi1, fi2⟩ := HF.out
      have hB := HB.out
      refine hK.out _ _ (fun L2 hi2 hn2 => ⟨[x41, x42, x43, x44, x45, x46, x47, x48, x49, x50, x51, x40, x52, (.slice AR 1 cR), x54, x7, (.slice AR 1 cR), x9], put_in HBE.out hn rfl 16 _ rfl rfl, x41, x42, x43, x44, x45, x46, x47, x48, x49, x50, x51, x40, x52, (.slice AR 1 cR), x54, x7, (.slice AR 1 cR), x9, za0, za1, za2, za3, AR, zn0, zn1, zn2, zn3, zc0, zc1, zc2, zc3, cR, b3, gs, gm, u, rfl, hB, (r1 ), (r2 ), (rm ), (fun g16 => have h16 := lt_ (hn2 16 (by decide)) g16; mm h16), (fun g0 => have h0 := lt_ (hn2 0 (by decide)) g0; f0 h0), (fun g1 => have h1 := lt_ (hn2 1 (by decide)) g1; f1 h1), (fun g2 => have h2 := lt_ (hn2 2 (by decide)) g2; f2 h2), (fun g3 => have h3 := lt_ (hn2 3 (by decide)) g3; f3 h3), (fun g4 => have h4 := lt_ (hn2 4 (by decide)) g4; f4 h4), (fun g5 => have h5 := lt_ (hn2 5 (by decide)) g5; f5 h5), (fun g6 => have h6 := lt_ (hn2 6 (by decide)) g6; f6 h6), (fun g7 => have h7 := lt_ (hn2 7 (by decide)) g7; f7 h7), (fun g8 => have h8 := lt_ (hn2 8 (by decide)) g8; f8 h8), (fun g9 => have h9 := lt_ (hn2 9 (by decide)) g9; f9 h9), (fun g9 g16 => have h9 := lt_ (hn2 9 (by decide)) g9; have h16 := lt_ (hn2 16 (by decide)) g16; f9r h9 h16), (fun g10 => have h10 := lt_ (hn2 10 (by decide)) g10; f10 h10), (fun g10 => have h10 := lt_ (hn2 10 (by decide)) g10; f10m h10), (fun g10 => have h10 := lt_ (hn2 10 (by decide)) g10; f10k h10), (fun g10 => have h10 := lt_ (hn2 10 (by decide)) g10; f10b h10), (fun g10 => have h10 := lt_ (hn2 10 (by decide)) g10; f10r h10), (fun g11 => have h11 := lt_ (hn2 11 (by decide)) g11; f11 h11), (fun g12 => have h12 := lt_ (hn2 12 (by decide)) g12; f12 h12), (fun g13 => have h13 := lt_ (hn2 13 (by decide)) g13; rfl), (fun g14 => have h14 := lt_ (hn2 14 (by decide)) g14; f14 h14), (fun g15 => have h15 := lt_ (hn2 15 (by decide)) g15; f15 h15), (fun g15 => have h15 := lt_ (hn2 15 (by decide)) g15; f15a h15), (fun g15 g10 => have h15 := lt_ (hn2 15 (by decide)) g15; have h10 := lt_ (hn2 10 (by decide)) g10; f15b h15 h10), (fun g15 g16 => have h15 := lt_ (hn2 15 (by decide)) g15; have h16 := lt_ (hn2 16 (by decide)) g16; f15r h15 h16), (fun g16 => have h16 := lt_ (hn2 16 (by decide)) g16; fs h16), (fun g17 => rfl), (fun g18 => have h18 := lt_ (hn2 18 (by decide)) g18; fi2 h18)⟩)
    refine OnceFrom.cons (fun L b w K hI hi hon hup hK => ?_) ?_
    · obtain ⟨xs, hbe, x41, x42, x43, x44, x45, x46, x47, x48, x49, x50, x51, x40, x52, x53, x54, x7, x8, x9, za0, za1, za2, za3, AR, zn0, zn1, zn2, zn3, zc0, zc1, zc2, zc3, cR, b3, gs, gm, u, hxs, hB, hF⟩ := hI
      subst hxs
      have d14 : L 14 = true := hon 14 (mem_of_elem (by kernel_rfl))
      have HB := hide hB
      have HF := hide hF
      obtain ⟨r1, r2, rm, mm, f0, f1, f2, f3, f4, f5, f6, f7, f8, f9, f9r, f10, f10m, f10k, f10b, f10r, f11, f12, f13, f14, f15, f15a, f15b, f15r, fs, fi1, fi2⟩ := hF
      have e14 := f14 d14
      subst e14
      have hT54 : b.tmps[54]? = some (.int .i64 0) := by rw [hbe]; exact puts_get_in _ _ _ hn hs (i := 14) rfl rfl
      have HBE := hide hbe
      clear hB hbe r1 r2 rm mm f0 f1 f2 f3 f4 f5 f6 f7 f8 f9 f9r f10 f10m f10k f10b f10r f11 f12 f13 f14 f15 f15a f15b f15r fs fi1 fi2
      rw [if_pos (by rfl)]
      go_simp
      obtain ⟨r1, r2, rm, mm, f0, f1, f2, f3, f4, f5, f6, f7, f8, f9, f9r, f10, f10m, f10k, f10b, f10r, f11, f12, f13, f14, f15, f15a, f15b, f15r, fs, fi1, fi2⟩ := HF.out
      have hB := HB.out
      refine hK.out _ _ (fun L2 hi2 hn2 => ⟨[x41, x42, x43, x44, x45, x46, x47, x48, x49, x50, x51, x40, x52, x53, (.int .i64 0), x7, x8, (.int .i64 0)], put_in HBE.out hn rfl 17 _ rfl rfl, x41, x42, x43, x44, x45, x46, x47, x48, x49, x50, x51, x40, x52, x53, (.int .i64 0), x7, x8, (.int .i64 0), za0, za1, za2, za3, AR, zn0, zn1, zn2, zn3, zc0, zc1, zc2, zc3, cR, b3, gs, gm, u, rfl, hB, (r1 ), (r2 ), (rm ), (fun g16 => have h16 := lt_ (hn2 16 (by decide)) g16; mm h16), (fun g0 => have h0 := lt_ (hn2 0 (by decide)) g0; f0 h0), (fun g1 => have h1 := lt_ (hn2 1 (by decide)) g1; f1 h1), (fun g2 => have h2 := lt_ (hn2 2 (by decide)) g2; f2 h2), (fun g3 => have h3 := lt_ (hn2 3 (by decide)) g3; f3 h3), (fun g4 => have h4 := lt_ (hn2 4 (by decide)) g4; f4 h4), (fun g5 => have h5 := lt_ (hn2 5 (by decide)) g5; f5 h5), (fun g6 => have h6 := lt_ (hn2 6 (by decide)) g6; f6 h6), (fun g7 => have h7 := lt_ (hn2 7 (by decide)) g7; f7 h7), (fun g8 => have h8 := lt_ (hn2 8 (by decide)) g8; f8 h8), (fun g9 => have h9 := lt_ (hn2 9 (by decide)) g9; f9 h9), (fun g9 g16 => have h9 := lt_ (hn2 9 (by decide)) g9; have h16 := lt_ (hn2 16 (by decide)) g16; f9r h9 h16), (fun g10 => have h10 := lt_ (hn2 10 (by decide)) g10; f10 h10), (fun g10 => have h10 := lt_ (hn2 10 (by decide)) g10; f10m h10), (fun g10 => have h10 := lt_ (hn2 10 (by decide)) g10; f10k h10), (fun g10 => have h10 := lt_ (hn2 10 (by decide)) g10; f10b h10), (fun g10 => have h10 := lt_ (hn2 10 (by decide)) g10; f10r h10), (fun g11 => have h11 := lt_ (hn2 11 (by decide)) g11; f11 h11), (fun g12 => have h12 := lt_ (hn2 12 (by decide)) g12; f12 h12), (fun g13 => have h13 := lt_ (hn2 13 (by decide)) g13; f13 h13), (fun g14 => have h14 := lt_ (hn2 14 (by decide)) g14; rfl), (fun g15 => have h15 := lt_ (hn2 15 (by decide)) g15; f15 h15), (fun g15 => have h15 := lt_ (hn2 15 (by decide)) g15; f15a h15), (fun g15 g10 => have h15 := lt_ (hn2 15 (by decide)) g15; have h10 := lt_ (hn2 10 (by decide)) g10; f15b h15 h10), (fun g15 g16 => have h15 := lt_ (hn2 15 (by decide)) g15; have h16 := lt_ (hn2 16 (by decide)) g16; f15r h15 h16), (fun g16 => have h16 := lt_ (hn2 16 (by decide)) g16; fs h16), (fun g17 => have h17 := lt_ (hn2 17 (by decide)) g17; fi1 h17), (fun g18 => rfl)⟩)
    exact trivial
  · intro L xs w hL hR
    obtain ⟨x41, x42, x43, x44, x45, x46, x47, x48, x49, x50, x51, x40, x52, x53, x54, x7, x8, x9, za0, za1, za2, za3, AR, zn0, zn1, zn2, zn3, zc0, zc1, zc2, zc3, cR, b3, gs, gm, u, hxs, hB, r1, r2, rm, mm, f0, f1, f2, f3, f4, f5, f6, f7, f8, f9, f9r, f10, f10m, f10k, f10b, f10r, f11, f12, f13, f14, f15, f15a, f15b, f15r, fs, fi1, fi2⟩ := hR
    subst hxs
    have d0 : L 0 = true := hL 0 (by decide)
    have d1 : L 1 = true := hL 1 (by decide)
    have d2 : L 2 = true := hL 2 (by decide)
    have d3 : L 3 = true := hL 3 (by decide)
    have d4 : L 4 = true := hL 4 (by decide)
    have d5 : L 5 = true := hL 5 (by decide)
    have d6 : L 6 = true := hL 6 (by decide)
    have d7 : L 7 = true := hL 7 (by decide)
    have d8 : L 8 = true := hL 8 (by decide)
    have d9 : L 9 = true := hL 9 (by decide)
    have d10 : L 10 = true := hL 10 (by decide)
    have d11 : L 11 = true := hL 11 (by decide)
    have d12 : L 12 = true := hL 12 (by decide)
    have d13 : L 13 = true := hL 13 (by decide)
    have d14 : L 14 = true := hL 14 (by decide)
    have d15 : L 15 = true := hL 15 (by decide)
    have d16 : L 16 = true := hL 16 (by decide)
    have d17 : L 17 = true := hL 17 (by decide)
    have d18 : L 18 = true := hL 18 (by decide)
    have e15 := f15 d15
    subst e15
    have e17 := fi1 d17
    subst e17
    have e18 := fi2 d18
    subst e18
    refine hQ x41 x42 x43 x44 x45 x46 x47 x48 x49 x50 x51 x40 x52 x53 x54 AR cR gm za0 za1 za2 za3 zn0 zn1 zn2 zn3 zc0 zc1 zc2 zc3 w hB r1 r2 (f15a d15).1 rm (fs d16) ((f10m d10).other (f10k d10).1 (f10k d10).2) (f10b d10) (f10r d10)
set_option maxRecDepth 100000 in
set_option maxHeartbeats 16000000 in
theorem wk_r5 {w0 : World} {g0 g1 B0 : Nat} {ya0 ya1 ya2 ya3 : Option Addr} {yn0 yn1 yn2 yn3 yc0 yc1 yc2 yc3 : Nat} (R0 : RowAt w0 g0 32 #[.slice ya0 yn0 yc0, .slice ya1 yn1 yc1, .slice ya2 yn2 yc2, .slice ya3 yn3 yc3]) (R1 : RowAt w0 g1 43 #[.int .i64 0, .int .u64 0]) (M0 : MonOut B0 w0 (.agg #[.slice ya0 yn0 yc0, .slice ya1 yn1 yc1, .slice ya2 yn2 yc2, .slice ya3 yn3 yc3]) wk1) (a : Act) (Q : Exit → Act → World → Prop) (id : Nat) (hsz : 62 < a.tmps.size) (hA3 : a.tmps[3]? = some (.pointer (some ⟨g0, 0, none⟩))) (hA1 : a.tmps[1]? = some (.pointer (some ⟨g1, 0, none⟩))) (ops : Array Oper) (hops : opsAt Try.f7 5 = some ops) (hQ : ∀ (x56 : Value) (x57 : Value) (x58 : Value) (x59 : Value) (x55 : Value) (x60 : Value) (x61 : Value) (x62 : Value) (gm ge : Nat) (za0 za1 za2 za3 : Option Addr) (zn0 zn1 zn2 zn3 zc0 zc1 zc2 zc3 : Nat) (w : World), Below w0.heap.size w0 w → RowAt w gm 32 #[.slice za0 zn0 zc0, .slice za1 zn1 zc1, .slice za2 zn2 zc2, .slice za3 zn3 zc3] → MonOut 0 w (.agg #[.slice za0 zn0 zc0, .slice za1 zn1 zc1, .slice za2 zn2 zc2, .slice za3 zn3 zc3]) wk3 → Q .normal (puts a (([56, 57, 58, 59, 55, 60, 61, 62, 10, 11, 12] : List Nat).zip [x56, x57, x58, x59, x55, x60, x61, x62, (.pointer (some ⟨gm, 0, none⟩)), (.pointer (some ⟨ge, 0, none⟩)), .int .i64 0])) w) : (Code.region id ops true).wp Try.prog Q a w0 := by
  have hn : ([56, 57, 58, 59, 55, 60, 61, 62, 10, 11, 12] : List Nat).Nodup := by decide
  have hs : ∀ d ∈ ([56, 57, 58, 59, 55, 60, 61, 62, 10, 11, 12] : List Nat), d < a.tmps.size := fun d hd => Nat.lt_of_le_of_lt ((by decide : ∀ d ∈ ([56, 57, 58, 59, 55, 60, 61, 62, 10, 11, 12] : List Nat), d ≤ 62) d hd) hsz
  conv at hops => lhs; whnf
  injection hops with hops
  subst hops
  refine wp_region_slots [56, 57, 58, 59, 55, 60, 61, 62, 10, 11, 12] (fun L xs w => ∃ x56 : Value, ∃ x57 : Value, ∃ x58 : Value, ∃ x59 : Value, ∃ x55 : Value, ∃ x60 : Value, ∃ x61 : Value, ∃ x62 : Value, ∃ x10 : Value, ∃ x11 : Value, ∃ x12 : Value, ∃ za0 za1 za2 za3 : Option Addr, ∃ zn0 zn1 zn2 zn3 zc0 zc1 zc2 zc3 : Nat, ∃ b3 gm ge : Nat, ∃ u : World, xs = [x56, x57, x58, x59, x55, x60, x61, x62, x10, x11, x12] ∧ Below w0.heap.size w0 w ∧ (L 0 = true → x56 = .agg #[.slice ya0 yn0 yc0, .slice ya1 yn1 yc1, .slice ya2 yn2 yc2, .slice ya3 yn3 yc3]) ∧ (L 1 = true → x57 = .agg #[.int .i64 0, .int .u64 0]) ∧ (L 2 = true → x58 = .agg #[.int .i64 7, .int .i64 0, .int .i64 0, .int .u64 0]) ∧ (L 3 = true → x59 = .tuple #[.agg #[.slice za0 zn0 zc0, .slice za1 zn1 zc1, .slice za2 zn2 zc2, .slice za3 zn3 zc3], .agg #[.int .i64 0, .int .u64 0], .int .i64 0]) ∧ (L 3 = true → MonOut b3 u (.agg #[.slice za0 zn0 zc0, .slice za1 zn1 zc1, .slice za2 zn2 zc2, .slice za3 zn3 zc3]) wk3) ∧ (L 3 = true → Keeps b3 u w) ∧ (L 4 = true → x55 = .tuple #[.agg #[.slice za0 zn0 zc0, .slice za1 zn1 zc1, .slice za2 zn2 zc2, .slice za3 zn3 zc3], .agg #[.int .i64 0, .int .u64 0], .int .i64 0]) ∧ (L 5 = true → x60 = .agg #[.slice za0 zn0 zc0, .slice za1 zn1 zc1, .slice za2 zn2 zc2, .slice za3 zn3 zc3]) ∧ (L 6 = true → x61 = .agg #[.int .i64 0, .int .u64 0]) ∧ (L 7 = true → x62 = .int .i64 0) ∧ (L 8 = true → x10 = .pointer (some ⟨gm, 0, none⟩)) ∧ (L 8 = true → w0.heap.size ≤ gm ∧ gm < w.heap.size) ∧ (L 8 = true → L 3 = true → gm < b3 ∨ u.heap.size ≤ gm) ∧ (L 8 = true → L 10 = false → RowAt w gm 32 #[.slice none 0 0, .slice none 0 0, .slice none 0 0, .slice none 0 0]) ∧ (L 9 = true → x11 = .pointer (some ⟨ge, 0, none⟩)) ∧ (L 9 = true → w0.heap.size ≤ ge ∧ ge < w.heap.size) ∧ (L 9 = true → L 3 = true → ge < b3 ∨ u.heap.size ≤ ge) ∧ (L 9 = true → RowAt w ge 43 #[.int .i64 0, .int .u64 0]) ∧ (L 10 = true → RowAt w gm 32 #[.slice za0 zn0 zc0, .slice za1 zn1 zc1, .slice za2 zn2 zc2, .slice za3 zn3 zc3]) ∧ (L 12 = true → x12 = .int .i64 0)) (by kernel_rfl) (by kernel_rfl) ?_ ?_ ?_
  · exact ⟨_, _, _, _, _, _, _, _, _, _, _, none, none, none, none, 0, 0, 0, 0, 0, 0, 0, 0, 0, 0, 0, w0, rfl, (Below.refl _ _).drew, fun h => nope h rfl, fun h => nope h rfl, fun h => nope h rfl, fun h => nope h rfl, fun h => nope h rfl, fun h => nope h rfl, fun h => nope h rfl, fun h => nope h rfl, fun h => nope h rfl, fun h => nope h rfl, fun h => nope h rfl, fun h => nope h rfl, fun h => nope h rfl, fun h => nope h rfl, fun h => nope h rfl, fun h => nope h rfl, fun h => nope h rfl, fun h => nope h rfl, fun h => nope h rfl, fun h => nope h rfl⟩
  · refine OnceFrom.cons (fun L b w K hI hi hon hup hK => ?_) ?_
    · obtain ⟨xs, hbe, x56, x57, x58, x59, x55, x60, x61, x62, x10, x11, x12, za0, za1, za2, za3, zn0, zn1, zn2, zn3, zc0, zc1, zc2, zc3, b3, gm, ge, u, hxs, hB, hF⟩ := hI
      subst hxs
      have HB := hide hB
      have HF := hide hF
      obtain ⟨f0, f1, f2, f3, f3m, f3k, f4, f5, f6, f7, f8, f8a, f8b, f8r, f9, f9a, f9b, f9r, f10, f12⟩ := hF
      obtain ⟨c0, c1, c2, c3⟩ := row4 R0
      have q0 := kept hB c0
      have q1 := kept hB c1
      have q2 := kept hB c2
      have q3 := kept hB c3
      clear c0 c1 c2 c3
      have hT3 : b.tmps[3]? = some (.pointer (some ⟨g0, 0, none⟩)) := by rw [hbe]; exact (puts_get_out _ _ _ (by decide)).trans hA3
      have HBE := hide hbe
      clear hB hbe f0 f1 f2 f3 f3m f3k f4 f5 f6 f7 f8 f8a f8b f8r f9 f9a f9b f9r f10 f12
      rw [if_pos (by rfl)]
      go_simp
      obtain ⟨f0, f1, f2, f3, f3m, f3k, f4, f5, f6, f7, f8, f8a, f8b, f8r, f9, f9a, f9b, f9r, f10, f12⟩ := HF.out
      have hB := HB.out
      refine hK.out _ _ (fun L2 hi2 hn2 => ⟨[(.agg #[.slice ya0 yn0 yc0, .slice ya1 yn1 yc1, .slice ya2 yn2 yc2, .slice ya3 yn3 yc3]), x57, x58, x59, x55, x60, x61, x62, x10, x11, x12], put_in HBE.out hn rfl 0 _ rfl rfl, (.agg #[.slice ya0 yn0 yc0, .slice ya1 yn1 yc1, .slice ya2 yn2 yc2, .slice ya3 yn3 yc3]), x57, x58, x59, x55, x60, x61, x62, x10, x11, x12, za0, za1, za2, za3, zn0, zn1, zn2, zn3, zc0, zc1, zc2, zc3, b3, gm, ge, u, rfl, hB, (fun g0 => rfl), (fun g1 => have h1 := lt_ (hn2 1 (by decide)) g1; f1 h1), (fun g2 => have h2 := lt_ (hn2 2 (by decide)) g2; f2 h2), (fun g3 => have h3 := lt_ (hn2 3 (by decide)) g3; f3 h3), (fun g3 => have h3 := lt_ (hn2 3 (by decide)) g3; f3m h3), (fun g3 => have h3 := lt_ (hn2 3 (by decide)) g3; f3k h3), (fun g4 => have h4 := lt_ (hn2 4 (by decide)) g4; f4 h4), (fun g5 => have h5 := lt_ (hn2 5 (by decide)) g5; f5 h5), (fun g6 => have h6 := lt_ (hn2 6 (by decide)) g6; f6 h6), (fun g7 => have h7 := lt_ (hn2 7 (by decide)) g7; f7 h7), (fun g8 => have h8 := lt_ (hn2 8 (by decide)) g8; f8 h8), (fun g8 => have h8 := lt_ (hn2 8 (by decide)) g8; f8a h8), (fun g8 g3 => have h8 := lt_ (hn2 8 (by decide)) g8; have h3 := lt_ (hn2 3 (by decide)) g3; f8b h8 h3), (fun g8 g10 => have h8 := lt_ (hn2 8 (by decide)) g8; have h10 := lt_ (hn2 10 (by decide)) g10; f8r h8 h10), (fun g9 => have h9 := lt_ (hn2 9 (by decide)) g9; f9 h9), (fun g9 => have h9 := lt_ (hn2 9 (by decide)) g9; f9a h9), (fun g9 g3 => have h9 := lt_ (hn2 9 (by decide)) g9; have h3 := lt_ (hn2 3 (by decide)) g3; f9b h9 h3), (fun g9 => have h9 := lt_ (hn2 9 (by decide)) g9; f9r h9), (fun g10 => have h10 := lt_ (hn2 10 (by decide)) g10; f10 h10), (fun g12 => have h12 := lt_ (hn2 12 (by decide)) g12; f12 h12)⟩)
    refine OnceFrom.cons (fun L b w K hI hi hon hup hK => ?_) ?_
    · obtain ⟨xs, hbe, x56, x57, x58, x59, x55, x60, x61, x62, x10, x11, x12, za0, za1, za2, za3, zn0, zn1, zn2, zn3, zc0, zc1, zc2, zc3, b3, gm, ge, u, hxs, hB, hF⟩ := hI
      subst hxs
      have HB := hide hB
      have HF := hide hF
      obtain ⟨f0, f1, f2, f3, f3m, f3k, f4, f5, f6, f7, f8, f8a, f8b, f8r, f9, f9a, f9b, f9r, f10, f12⟩ := hF
      have q0 := kept hB (row20 R1)
      have q1 := kept hB (row21 R1)
      have hT1 : b.tmps[1]? = some (.pointer (some ⟨g1, 0, none⟩)) := by rw [hbe]; exact (puts_get_out _ _ _ (by decide)).trans hA1
      have HBE := hide hbe
      clear hB hbe f0 f1 f2 f3 f3m f3k f4 f5 f6 f7 f8 f8a f8b f8r f9 f9a f9b f9r f10 f12
      rw [if_pos (by rfl)]
      go_simp
      obtain ⟨f0, f1, f2, f3, f3m, f3k, f4, f5, f6, f7, f8, f8a, f8b, f8r, f9, f9a, f9b, f9r, f10, f12⟩ := HF.out
      have hB := HB.out
      refine hK.out _ _ (fun L2 hi2 hn2 => ⟨[x56, (.agg #[.int .i64 0, .int .u64 0]), x58, x59, x55, x60, x61, x62, x10, x11, x12], put_in HBE.out hn rfl 1 _ rfl rfl, x56, (.agg #[.int .i64 0, .int .u64 0]), x58, x59, x55, x60, x61, x62, x10, x11, x12, za0, za1, za2, za3, zn0, zn1, zn2, zn3, zc0, zc1, zc2, zc3, b3, gm, ge, u, rfl, hB, (fun g0 => have h0 := lt_ (hn2 0 (by decide)) g0; f0 h0), (fun g1 => rfl), (fun g2 => have h2 := lt_ (hn2 2 (by decide)) g2; f2 h2), (fun g3 => have h3 := lt_ (hn2 3 (by decide)) g3; f3 h3), (fun g3 => have h3 := lt_ (hn2 3 (by decide)) g3; f3m h3), (fun g3 => have h3 := lt_ (hn2 3 (by decide)) g3; f3k h3), (fun g4 => have h4 := lt_ (hn2 4 (by decide)) g4; f4 h4), (fun g5 => have h5 := lt_ (hn2 5 (by decide)) g5; f5 h5), (fun g6 => have h6 := lt_ (hn2 6 (by decide)) g6; f6 h6), (fun g7 => have h7 := lt_ (hn2 7 (by decide)) g7; f7 h7), (fun g8 => have h8 := lt_ (hn2 8 (by decide)) g8; f8 h8), (fun g8 => have h8 := lt_ (hn2 8 (by decide)) g8; f8a h8), (fun g8 g3 => have h8 := lt_ (hn2 8 (by decide)) g8; have h3 := lt_ (hn2 3 (by decide)) g3; f8b h8 h3), (fun g8 g10 => have h8 := lt_ (hn2 8 (by decide)) g8; have h10 := lt_ (hn2 10 (by decide)) g10; f8r h8 h10), (fun g9 => have h9 := lt_ (hn2 9 (by decide)) g9; f9 h9), (fun g9 => have h9 := lt_ (hn2 9 (by decide)) g9; f9a h9), (fun g9 g3 => have h9 := lt_ (hn2 9 (by decide)) g9; have h3 := lt_ (hn2 3 (by decide)) g3; f9b h9 h3), (fun g9 => have h9 := lt_ (hn2 9 (by decide)) g9; f9r h9), (fun g10 => have h10 := lt_ (hn2 10 (by decide)) g10; f10 h10), (fun g12 => have h12 := lt_ (hn2 12 (by decide)) g12; f12 h12)⟩)
    refine OnceFrom.cons (fun L b w K hI hi hon hup hK => ?_) ?_
    · obtain ⟨xs, hbe, x56, x57, x58, x59, x55, x60, x61, x62, x10, x11, x12, za0, za1, za2, za3, zn0, zn1, zn2, zn3, zc0, zc1, zc2, zc3, b3, gm, ge, u, hxs, hB, hF⟩ := hI
      subst hxs
      have d1 : L 1 = true := hon 1 (mem_of_elem (by kernel_rfl))
      have HB := hide hB
      have HF := hide hF
      obtain ⟨f0, f1, f2, f3, f3m, f3k, f4, f5, f6, f7, f8, f8a, f8b, f8r, f9, f9a, f9b, f9r, f10, f12⟩ := hF
      have e1 := f1 d1
      subst e1
      have hT57 : b.tmps[57]? = some (.agg #[.int .i64 0, .int .u64 0]) := by rw [hbe]; exact puts_get_in _ _ _ hn hs (i := 1) rfl rfl
      have HBE := hide hbe
      clear hB hbe f0 f1 f2 f3 f3m f3k f4 f5 f6 f7 f8 f8a f8b f8r f9 f9a f9b f9r f10 f12
      rw [if_pos (by rfl)]
      go_simp
      with_reducible refine (watch_any 7 0 0 0 w).mono ?_
      rintro e w2 ⟨rfl, hb⟩
      obtain ⟨f0, f1, f2, f3, f3m, f3k, f4, f5, f6, f7, f8, f8a, f8b, f8r, f9, f9a, f9b, f9r, f10, f12⟩ := HF.out
      have hB := HB.out
      refine hK.out _ _ (fun L2 hi2 hn2 => ⟨[x56, (.agg #[.int .i64 0, .int .u64 0]), (.agg #[.int .i64 7, .int .i64 0, .int .i64 0, .int .u64 0]), x59, x55, x60, x61, x62, x10, x11, x12], put_in HBE.out hn rfl 2 _ rfl rfl, x56, (.agg #[.int .i64 0, .int .u64 0]), (.agg #[.int .i64 7, .int .i64 0, .int .i64 0, .int .u64 0]), x59, x55, x60, x61, x62, x10, x11, x12, za0, za1, za2, za3, zn0, zn1, zn2, zn3, zc0, zc1, zc2, zc3, b3, gm, ge, u, rfl, (hB.trans (hb.mono hB.size)), (fun g0 => have h0 := lt_ (hn2 0 (by decide)) g0; f0 h0), (fun g1 => have h1 := lt_ (hn2 1 (by decide)) g1; rfl), (fun g2 => rfl), (fun g3 => have h3 := lt_ (hn2 3 (by decide)) g3; f3 h3), (fun g3 => have h3 := lt_ (hn2 3 (by decide)) g3; f3m h3), (fun g3 => have h3 := lt_ (hn2 3 (by decide)) g3; (f3k h3).below hb), (fun g4 => have h4 := lt_ (hn2 4 (by decide)) g4; f4 h4), (fun g5 => have h5 := lt_ (hn2 5 (by decide)) g5; f5 h5), (fun g6 => have h6 := lt_ (hn2 6 (by decide)) g6; f6 h6), (fun g7 => have h7 := lt_ (hn2 7 (by decide)) g7; f7 h7), (fun g8 => have h8 := lt_ (hn2 8 (by decide)) g8; f8 h8), (fun g8 => have h8 := lt_ (hn2 8 (by decide)) g8; ⟨(f8a h8).1, Nat.lt_of_lt_of_le (f8a h8).2 hb.size⟩), (fun g8 g3 => have h8 := lt_ (hn2 8 (by decide)) g8; have h3 := lt_ (hn2 3 (by decide)) g3; f8b h8 h3), (fun g8 g10 => have h8 := lt_ (hn2 8 (by decide)) g8; have h10 := lt_ (hn2 10 (by decide)) g10; (f8r h8 h10).below hb), (fun g9 => have h9 := lt_ (hn2 9 (by decide)) g9; f9 h9), (fun g9 => have h9 := lt_ (hn2 9 (by decide)) g9; ⟨(f9a h9).1, Nat.lt_of_lt_of_le (f9a h9).2 hb.size⟩), (fun g9 g3 => have h9 := lt_ (hn2 9 (by decide)) g9; have h3 := lt_ (hn2 3 (by decide)) g3; f9b h9 h3), (fun g9 => have h9 := lt_ (hn2 9 (by decide)) g9; (f9r h9).below hb), (fun g10 => have h10 := lt_ (hn2 10 (by decide)) g10; (f10 h10).below hb), (fun g12 => have h12 := lt_ (hn2 12 (by decide)) g12; f12 h12)⟩)
    refine OnceFrom.cons (fun L b w K hI hi hon hup hK => ?_) ?_
    · obtain ⟨xs, hbe, x56, x57, x58, x59, x55, x60, x61, x62, x10, x11, x12, za0, za1, za2, za3, zn0, zn1, zn2, zn3, zc0, zc1, zc2, zc3, b3, gm, ge, u, hxs, hB, hF⟩ := hI
      subst hxs
      have d0 : L 0 = true := hon 0 (mem_of_elem (by kernel_rfl))
      have d2 : L 2 = true := hon 2 (mem_of_elem (by kernel_rfl))
      have u4 : L 4 = false := hup 4 (mem_of_elem (by kernel_rfl))
      have u5 : L 5 = false := hup 5 (mem_of_elem (by kernel_rfl))
      have u10 : L 10 = false := hup 10 (mem_of_elem (by kernel_rfl))
      have HB := hide hB
      have HF := hide hF
      obtain ⟨f0, f1, f2, f3, f3m, f3k, f4, f5, f6, f7, f8, f8a, f8b, f8r, f9, f9a, f9b, f9r, f10, f12⟩ := hF
      have e0 := f0 d0
      have e2 := f2 d2
      subst e0
      subst e2
      have MB := hide (M0.below hB)
      have hT56 : b.tmps[56]? = some (.agg #[.slice ya0 yn0 yc0, .slice ya1 yn1 yc1, .slice ya2 yn2 yc2, .slice ya3 yn3 yc3]) := by rw [hbe]; exact puts_get_in _ _ _ hn hs (i := 0) rfl rfl
      have hT58 : b.tmps[58]? = some (.agg #[.int .i64 7, .int .i64 0, .int .i64 0, .int .u64 0]) := by rw [hbe]; exact puts_get_in _ _ _ hn hs (i := 2) rfl rfl
      have HBE := hide hbe
      clear hB hbe f0 f1 f2 f3 f3m f3k f4 f5 f6 f7 f8 f8a f8b f8r f9 f9a f9b f9r f10 f12
      rw [if_pos (by rfl)]
      go_simp
      with_reducible refine (vDo MB.out fit1 7 0 0 0 u640).mono ?_
      rintro e w2 ⟨⟨vv, rfl, hm5⟩, hb⟩
      have ke : outE (DoM wk1 (7, 0, 0, 0)) = (0, 0) := rfl
      have kk : outK (DoM wk1 (7, 0, 0, 0)) = 0 := rfl
      rw [ke, kk]
      have hm5 : MonOut w.heap.size w2 vv wk3 := hm5
      clear ke kk
      obtain ⟨va0, va1, va2, va3, vn0, vn1, vn2, vn3, vc0, vc1, vc2, vc3, rfl⟩ := hm5.form
      obtain ⟨f0, f1, f2, f3, f3m, f3k, f4, f5, f6, f7, f8, f8a, f8b, f8r, f9, f9a, f9b, f9r, f10, f12⟩ := HF.out
      have hB := HB.out
      refine hK.out _ _ (fun L2 hi2 hn2 => ⟨[(.agg #[.slice ya0 yn0 yc0, .slice ya1 yn1 yc1, .slice ya2 yn2 yc2, .slice ya3 yn3 yc3]), x57, (.agg #[.int .i64 7, .int .i64 0, .int .i64 0, .int .u64 0]), (.tuple #[.agg #[.slice va0 vn0 vc0, .slice va1 vn1 vc1, .slice va2 vn2 vc2, .slice va3 vn3 vc3], .agg #[.int .i64 0, .int .u64 0], .int .i64 0]), x55, x60, x61, x62, x10, x11, x12], put_in HBE.out hn rfl 3 _ rfl rfl, (.agg #[.slice ya0 yn0 yc0, .slice ya1 yn1 yc1, .slice ya2 yn2 yc2, .slice ya3 yn3 yc3]), x57, (.agg #[.int .i64 7, .int .i64 0, .int .i64 0, .int .u64 0]), (.tuple #[.agg #[.slice va0 vn0 vc0, .slice va1 vn1 vc1, .slice va2 vn2 vc2, .slice va3 vn3 vc3], .agg #[.int .i64 0, .int .u64 0], .int .i64 0]), x55, x60, x61, x62, x10, x11, x12, va0, va1, va2, va3, vn0, vn1, vn2, vn3, vc0, vc1, vc2, vc3, w.heap.size, gm, ge, w2, rfl, (hB.trans (hb.mono hB.size)), (fun g0 => have h0 := lt_ (hn2 0 (by decide)) g0; rfl), (fun g1 => have h1 := lt_ (hn2 1 (by decide)) g1; f1 h1), (fun g2 => have h2 := lt_ (hn2 2 (by decide)) g2; rfl), (fun g3 => rfl), (fun g3 => hm5), (fun g3 => Keeps.refl _ _), (fun g4 => have h4 := lt_ (hn2 4 (by decide)) g4; nope h4 u4), (fun g5 => have h5 := lt_ (hn2 5 (by decide)) g5; nope h5 u5), (fun g6 => have h6 := lt_ (hn2 6 (by decide)) g6; f6 h6), (fun g7 => have h7 := lt_ (hn2 7 (by decide)) g7; f7 h7), (fun g8 => have h8 := lt_ (hn2 8 (by decide)) g8; f8 h8), (fun g8 => have h8 := lt_ (hn2 8 (by decide)) g8; ⟨(f8a h8).1, Nat.lt_of_lt_of_le (f8a h8).2 hb.size⟩), (fun g8 g3 => have h8 := lt_ (hn2 8 (by decide)) g8; .inl (f8a h8).2), (fun g8 g10 => have h8 := lt_ (hn2 8 (by decide)) g8; have h10 := lt_ (hn2 10 (by decide)) g10; (f8r h8 h10).below hb), (fun g9 => have h9 := lt_ (hn2 9 (by decide)) g9; f9 h9), (fun g9 => have h9 := lt_ (hn2 9 (by decide)) g9; ⟨(f9a h9).1, Nat.lt_of_lt_of_le (f9a h9).2 hb.size⟩), (fun g9 g3 => have h9 := lt_ (hn2 9 (by decide)) g9; .inl (f9a h9).2), (fun g9 => have h9 := lt_ (hn2 9 (by decide)) g9; (f9r h9).below hb), (fun g10 => have h10 := lt_ (hn2 10 (by decide)) g10; nope h10 u10), (fun g12 => have h12 := lt_ (hn2 12 (by decide)) g12; f12 h12)⟩)
    refine OnceFrom.cons (fun L b w K hI hi hon hup hK => ?_) ?_
    · obtain ⟨xs, hbe, x56, x57, x58, x59, x55, x60, x61, x62, x10, x11, x12, za0, za1, za2, za3, zn0, zn1, zn2, zn3, zc0, zc1, zc2, zc3, b3, gm, ge, u, hxs, hB, hF⟩ := hI
      subst hxs
      have d3 : L 3 = true := hon 3 (mem_of_elem (by kernel_rfl))
      have HB := hide hB
      have HF := hide hF
      obtain ⟨f0, f1, f2, f3, f3m, f3k, f4, f5, f6, f7, f8, f8a, f8b, f8r, f9, f9a, f9b, f9r, f10, f12⟩ := hF
      have e3 := f3 d3
      subst e3
      have hT59 : b.tmps[59]? = some (.tuple #[.agg #[.slice za0 zn0 zc0, .slice za1 zn1 zc1, .slice za2 zn2 zc2, .slice za3 zn3 zc3], .agg #[.int .i64 0, .int .u64 0], .int .i64 0]) := by rw [hbe]; exact puts_get_in _ _ _ hn hs (i := 3) rfl rfl
      have HBE := hide hbe
      clear hB hbe f0 f1 f2 f3 f3m f3k f4 f5 f6 f7 f8 f8a f8b f8r f9 f9a f9b f9r f10 f12
      rw [if_pos (by rfl)]
      go_simp
      obtain ⟨f0, f1, f2, f3, f3m, f3k, f4, f5, f6, f7, f8, f8a, f8b, f8r, f9, f9a, f9b, f9r, f10, f12⟩ := HF.out
      have hB := HB.out
      refine hK.out _ _ (fun L2 hi2 hn2 => ⟨[x56, x57, x58, (.tuple #[.agg #[.slice za0 zn0 zc0, .slice za1 zn1 zc1, .slice za2 zn2 zc2, .slice za3 zn3 zc3], .agg #[.int .i64 0, .int .u64 0], .int .i64 0]), (.tuple #[.agg #[.slice za0 zn0 zc0, .slice za1 zn1 zc1, .slice za2 zn2 zc2, .slice za3 zn3 zc3], .agg #[.int .i64 0, .int .u64 0], .int .i64 0]), x60, x61, x62, x10, x11, x12], put_in HBE.out hn rfl 4 _ rfl rfl, x56, x57, x58, (.tuple #[.agg #[.slice za0 zn0 zc0, .slice za1 zn1 zc1, .slice za2 zn2 zc2, .slice za3 zn3 zc3], .agg #[.int .i64 0, .int .u64 0], .int .i64 0]), (.tuple #[.agg #[.slice za0 zn0 zc0, .slice za1 zn1 zc1, .slice za2 zn2 zc2, .slice za3 zn3 zc3], .agg #[.int .i64 0, .int .u64 0], .int .i64 0]), x60, x61, x62, x10, x11, x12, za0, za1, za2, za3, zn0, zn1, zn2, zn3, zc0, zc1, zc2, zc3, b3, gm, ge, u, rfl, hB, (fun g0 => have h0 := lt_ (hn2 0 (by decide)) g0; f0 h0), (fun g1 => have h1 := lt_ (hn2 1 (by decide)) g1; f1 h1), (fun g2 => have h2 := lt_ (hn2 2 (by decide)) g2; f2 h2), (fun g3 => have h3 := lt_ (hn2 3 (by decide)) g3; rfl), (fun g3 => have h3 := lt_ (hn2 3 (by decide)) g3; f3m h3), (fun g3 => have h3 := lt_ (hn2 3 (by decide)) g3; f3k h3), (fun g4 => rfl), (fun g5 => have h5 := lt_ (hn2 5 (by decide)) g5; f5 h5), (fun g6 => have h6 := lt_ (hn2 6 (by decide)) g6; f6 h6), (fun g7 => have h7 := lt_ (hn2 7 (by decide)) g7; f7 h7), (fun g8 => have h8 := lt_ (hn2 8 (by decide)) g8; f8 h8), (fun g8 => have h8 := lt_ (hn2 8 (by decide)) g8; f8a h8), (fun g8 g3 => have h8 := lt_ (hn2 8 (by decide)) g8; have h3 := lt_ (hn2 3 (by decide)) g3; f8b h8 h3), (fun g8 g10 => have h8 := lt_ (hn2 8 (by decide)) g8; have h10 := lt_ (hn2 10 (by decide)) g10; f8r h8 h10), (fun g9 => have h9 := lt_ (hn2 9 (by decide)) g9; f9 h9), (fun g9 => have h9 := lt_ (hn2 9 (by decide)) g9; f9a h9), (fun g9 g3 => have h9 := lt_ (hn2 9 (by decide)) g9; have h3 := lt_ (hn2 3 (by decide)) g3; f9b h9 h3), (fun g9 => have h9 := lt_ (hn2 9 (by decide)) g9; f9r h9), (fun g10 => have h10 := lt_ (hn2 10 (by decide)) g10; f10 h10), (fun g12 => have h12 := lt_ (hn2 12 (by decide)) g12; f12 h12)⟩)
    refine OnceFrom.cons (fun L b w K hI hi hon hup hK => ?_) ?_
    · obtain ⟨xs, hbe, x56, x57, x58, x59, x55, x60, x61, x62, x10, x11, x12, za0, za1, za2, za3, zn0, zn1, zn2, zn3, zc0, zc1, zc2, zc3, b3, gm, ge, u, hxs, hB, hF⟩ := hI
      subst hxs
      have d4 : L 4 = true := hon 4 (mem_of_elem (by kernel_rfl))
      have HB := hide hB
      have HF := hide hF
      obtain ⟨f0, f1, f2, f3, f3m, f3k, f4, f5, f6, f7, f8, f8a, f8b, f8r, f9, f9a, f9b, f9r, f10, f12⟩ := hF
      have e4 := f4 d4
      subst e4
      have hT55 : b.tmps[55]? = some (.tuple #[.agg #[.slice za0 zn0 zc0, .slice za1 zn1 zc1, .slice za2 zn2 zc2, .slice za3 zn3 zc3], .agg #[.int .i64 0, .int .u64 0], .int .i64 0]) := by rw [hbe]; exact puts_get_in _ _ _ hn hs (i := 4) rfl rfl
      have HBE := hide hbe
      clear hB hbe f0 f1 f2 f3 f3m f3k f4 f5 f6 f7 f8 f8a f8b f8r f9 f9a f9b f9r f10 f12
      rw [if_pos (by rfl)]
      go_simp
      obtain ⟨f0, f1, f2, f3, f3m, f3k, f4, f5, f6, f7, f8, f8a, f8b, f8r, f9, f9a, f9b, f9r, f10, f12⟩ := HF.out
      have hB := HB.out
      refine hK.out _ _ (fun L2 hi2 hn2 => ⟨[x56, x57, x58, x59, (.tuple #[.agg #[.slice za0 zn0 zc0, .slice za1 zn1 zc1, .slice za2 zn2 zc2, .slice za3 zn3 zc3], .agg #[.int .i64 0, .int .u64 0], .int .i64 0]), (.agg #[.slice za0 zn0 zc0, .slice za1 zn1 zc1, .slice za2 zn2 zc2, .slice za3 zn3 zc3]), x61, x62, x10, x11, x12], put_in HBE.out hn rfl 5 _ rfl rfl, x56, x57, x58, x59, (.tuple #[.agg #[.slice za0 zn0 zc0, .slice za1 zn1 zc1, .slice za2 zn2 zc2, .slice za3 zn3 zc3], .agg #[.int .i64 0, .int .u64 0], .int .i64 0]), (.agg #[.slice za0 zn0 zc0, .slice za1 zn1 zc1, .slice za2 zn2 zc2, .slice za3 zn3 zc3]), x61, x62, x10, x11, x12, za0, za1, za2, za3, zn0, zn1, zn2, zn3, zc0, zc1, zc2, zc3, b3, gm, ge, u, rfl, hB, (fun g0 => have h0 := lt_ (hn2 0 (by decide)) g0; f0 h0), (fun g1 => have h1 := lt_ (hn2 1 (by decide)) g1; f1 h1), (fun g2 => have h2 := lt_ (hn2 2 (by decide)) g2; f2 h2), (fun g3 => have h3 := lt_ (hn2 3 (by decide)) g3; f3 h3), (fun g3 => have h3 := lt_ (hn2 3 (by decide)) g3; f3m h3), (fun g3 => have h3 := lt_ (hn2 3 (by decide)) g3; f3k h3), (fun g4 => have h4 := lt_ (hn2 4 (by decide)) g4; rfl), (fun g5 => rfl), (fun g6 => have h6 := lt_ (hn2 6 (by decide)) g6; f6 h6), (fun g7 => have h7 := lt_ (hn2 7 (by decide)) g7; f7 h7), (fun g8 => have h8 := lt_ (hn2 8 (by decide)) g8; f8 h8), (fun g8 => have h8 := lt_ (hn2 8 (by decide)) g8; f8a h8), (fun g8 g3 => have h8 := lt_ (hn2 8 (by decide)) g8; have h3 := lt_ (hn2 3 (by decide)) g3; f8b h8 h3), (fun g8 g10 => have h8 := lt_ (hn2 8 (by decide)) g8; have h10 := lt_ (hn2 10 (by decide)) g10; f8r h8 h10), (fun g9 => have h9 := lt_ (hn2 9 (by decide)) g9; f9 h9), (fun g9 => have h9 := lt_ (hn2 9 (by decide)) g9; f9a h9), (fun g9 g3 => have h9 := lt_ (hn2 9 (by decide)) g9; have h3 := lt_ (hn2 3 (by decide)) g3; f9b h9 h3), (fun g9 => have h9 := lt_ (hn2 9 (by decide)) g9; f9r h9), (fun g10 => have h10 := lt_ (hn2 10 (by decide)) g10; f10 h10), (fun g12 => have h12 := lt_ (hn2 12 (by decide)) g12; f12 h12)⟩)
    refine OnceFrom.cons (fun L b w K hI hi hon hup hK => ?_) ?_
    · obtain ⟨xs, hbe, x56, x57, x58, x59, x55, x60, x61, x62, x10, x11, x12, za0, za1, za2, za3, zn0, zn1, zn2, zn3, zc0, zc1, zc2, zc3, b3, gm, ge, u, hxs, hB, hF⟩ := hI
      subst hxs
      have d4 : L 4 = true := hon 4 (mem_of_elem (by kernel_rfl))
      have HB := hide hB
      have HF := hide hF
      obtain ⟨f0, f1, f2, f3, f3m, f3k, f4, f5, f6, f7, f8, f8a, f8b, f8r, f9, f9a, f9b, f9r, f10, f12⟩ := hF
      have e4 := f4 d4
      subst e4
      have hT55 : b.tmps[55]? = some (.tuple #[.agg #[.slice za0 zn0 zc0, .slice za1 zn1 zc1, .slice za2 zn2 zc2, .slice za3 zn3 zc3], .agg #[.int .i64 0, .int .u64 0], .int .i64 0]) := by rw [hbe]; exact puts_get_in _ _ _ hn hs (i := 4) rfl rfl
      have HBE := hide hbe
      clear hB hbe f0 f1 f2 f3 f3m f3k f4 f5 f6 f7 f8 f8a f8b f8r f9 f9a f9b f9r f10 f12
      rw [if_pos (by rfl)]
      go_simp
      obtain ⟨f0, f1, f2, f3, f3m, f3k, f4, f5, f6, f7, f8, f8a, f8b, f8r, f9, f9a, f9b, f9r, f10, f12⟩ := HF.out
      have hB := HB.out
      refine hK.out _ _ (fun L2 hi2 hn2 => ⟨[x56, x57, x58, x59, (.tuple #[.agg #[.slice za0 zn0 zc0, .slice za1 zn1 zc1, .slice za2 zn2 zc2, .slice za3 zn3 zc3], .agg #[.int .i64 0, .int .u64 0], .int .i64 0]), x60, (.agg #[.int .i64 0, .int .u64 0]), x62, x10, x11, x12], put_in HBE.out hn rfl 6 _ rfl rfl, x56, x57, x58, x59, (.tuple #[.agg #[.slice za0 zn0 zc0, .slice za1 zn1 zc1, .slice za2 zn2 zc2, .slice za3 zn3 zc3], .agg #[.int .i64 0, .int .u64 0], .int .i64 0]), x60, (.agg #[.int .i64 0, .int .u64 0]), x62, x10, x11, x12, za0, za1, za2, za3, zn0, zn1, zn2, zn3, zc0, zc1, zc2, zc3, b3, gm, ge, u, rfl, hB, (fun g0 => have h0 := lt_ (hn2 0 (by decide)) g0; f0 h0), (fun g1 => have h1 := lt_ (hn2 1 (by decide)) g1; f1 h1), (fun g2 => have h2 := lt_ (hn2 2 (by decide)) g2; f2 h2), (fun g3 => have h3 := lt_ (hn2 3 (by decide)) g3; f3 h3), (fun g3 => have h3 := lt_ (hn2 3 (by decide)) g3; f3m h3), (fun g3 => have h3 := lt_ (hn2 3 (by decide)) g3; f3k h3), (fun g4 => have h4 := lt_ (hn2 4 (by decide)) g4; rfl), (fun g5 => have h5 := lt_ (hn2 5 (by decide)) g5; f5 h5), (fun g6 => rfl), (fun g7 => have h7 := lt_ (hn2 7 (by decide)) g7; f7 h7), (fun g8 => have h8 := lt_ (hn2 8 (by decide)) g8; f8 h8), (fun g8 => have h8 := lt_ (hn2 8 (by decide)) g8; f8a h8), (fun g8 g3 => have h8 := lt_ (hn2 8 (by decide)) g8; have h3 := lt_ (hn2 3 (by decide)) g3; f8b h8 h3), (fun g8 g10 => have h8 := lt_ (hn2 8 (by decide)) g8; have h10 := lt_ (hn2 10 (by decide)) g10; f8r h8 h10), (fun g9 => have h9 := lt_ (hn2 9 (by decide)) g9; f9 h9), (fun g9 => have h9 := lt_ (hn2 9 (by decide)) g9; f9a h9), (fun g9 g3 => have h9 := lt_ (hn2 9 (by decide)) g9; have h3 := lt_ (hn2 3 (by decide)) g3; f9b h9 h3), (fun g9 => have h9 := lt_ (hn2 9 (by decide)) g9; f9r h9), (fun g10 => have h10 := lt_ (hn2 10 (by decide)) g10; f10 h10), (fun g12 => have h12 := lt_ (hn2 12 (by decide)) g12; f12 h12)⟩)
    refine OnceFrom.cons (fun L b w K hI hi hon hup hK => ?_) ?_
    · obtain ⟨xs, hbe, x56, x57, x58, x59, x55, x60, x61, x62, x10, x11, x12, za0, za1, za2, za3, zn0, zn1, zn2, zn3, zc0, zc1, zc2, zc3, b3, gm, ge, u, hxs, hB, hF⟩ := hI
      subst hxs
      have d4 : L 4 = true := hon 4 (mem_of_elem (by kernel_rfl))
      have HB := hide hB
      have HF := hide hF
      obtain ⟨f0, f1, f2, f3, f3m, f3k, f4, f5, f6, f7, f8, f8a, f8b, f8r, f9, f9a, f9b, f9r, f10, f12⟩ := hF
      have e4 := f4 d4
      subst e4
      have hT55 : b.tmps[55]? = some (.tuple #[.agg #[.slice za0 zn0 zc0, .slice za1 zn1 zc1, .slice za2 zn2 zc2, .slice za3 zn3 zc3], .agg #[.int .i64 0, .int .u64 0], .int .i64 0]) := by rw [hbe]; exact puts_get_in _ _ _ hn hs (i := 4) rfl rfl
      have HBE := hide hbe
      clear hB hbe f0 f1 f2 f3 f3m f3k f4 f5 f6 f7 f8 f8a f8b f8r f9 f9a f9b f9r f10 f12
      rw [if_pos (by rfl)]
      go_simp
      obtain ⟨f0, f1, f2, f3, f3m, f3k, f4, f5, f6, f7, f8, f8a, f8b, f8r, f9, f9a, f9b, f9r, f10, f12⟩ := HF.out
      have hB := HB.out
      refine hK.out _ _ (fun L2 hi2 hn2 => ⟨[x56, x57, x58, x59, (.tuple #[.agg #[.slice za0 zn0 zc0, .slice za1 zn1 zc1, .slice za2 zn2 zc2, .slice za3 zn3 zc3], .agg #[.int .i64 0, .int .u64 0], .int .i64 0]), x60, x61, (.int .i64 0), x10, x11, x12], put_in HBE.out hn rfl 7 _ rfl rfl, x56, x57, x58, x59, (.tuple #[.agg #[.slice za0 zn0 zc0, .slice za1 zn1 zc1, .slice za2 zn2 zc2, .slice za3 zn3 zc3], .agg #[.int .i64 0, .int .u64 0], .int .i64 0]), x60, x61, (.int .i64 0), x10, x11, x12, za0, za1, za2, za3, zn0, zn1, zn2, zn3, zc0, zc1, zc2, zc3, b3, gm, ge, u, rfl, hB, (fun g0 => have h0 := lt_ (hn2 0 (by decide)) g0; f0 h0), (fun g1 => have h1 := lt_ (hn2 1 (by decide)) g1; f1 h1), (fun g2 => have h2 := lt_ (hn2 2 (by decide)) g2; f2 h2), (fun g3 => have h3 := lt_ (hn2 3 (by decide)) g3; f3 h3), (fun g3 => have h3 := lt_ (hn2 3 (by decide)) g3; f3m h3), (fun g3 => have h3 := lt_ (hn2 3 (by decide)) g3; f3k h3), (fun g4 => have h4 := lt_ (hn2 4 (by decide)) g4; rfl), (fun g5 => have h5 := lt_ (hn2 5 (by decide)) g5; f5 h5), (fun g6 => have h6 := lt_ (hn2 6 (by decide)) g6; f6 h6), (fun g7 => rfl), (fun g8 => have h8 := lt_ (hn2 8 (by decide)) g8; f8 h8), (fun g8 => have h8 := lt_ (hn2 8 (by decide)) g8; f8a h8), (fun g8 g3 => have h8 := lt_ (hn2 8 (by decide)) g8; have h3 := lt_ (hn2 3 (by decide)) g3; f8b h8 h3), (fun g8 g10 => have h8 := lt_ (hn2 8 (by decide)) g8; have h10 := lt_ (hn2 10 (by decide)) g10; f8r h8 h10), (fun g9 => have h9 := lt_ (hn2 9 (by decide)) g9; f9 h9), (fun g9 => have h9 := lt_ (hn2 9 (by decide)) g9; f9a h9), (fun g9 g3 => have h9 := lt_ (hn2 9 (by decide)) g9; have h3 := lt_ (hn2 3 (by decide)) g3; f9b h9 h3), (fun g9 => have h9 := lt_ (hn2 9 (by decide)) g9; f9r h9), (fun g10 => have h10 := lt_ (hn2 10 (by decide)) g10; f10 h10), (fun g12 => have h12 := lt_ (hn2 12 (by decide)) g12; f12 h12)⟩)
    refine OnceFrom.cons (fun L b w K hI hi hon hup hK => ?_) ?_
    · obtain ⟨xs, hbe, x56, x57, x58, x59, x55, x60, x61, x62, x10, x11, x12, za0, za1, za2, za3, zn0, zn1, zn2, zn3, zc0, zc1, zc2, zc3, b3, gm, ge, u, hxs, hB, hF⟩ := hI
      subst hxs
      have u10 : L 10 = false := hup 10 (mem_of_elem (by kernel_rfl))
      have HB := hide hB
      have HF := hide hF
      obtain ⟨f0, f1, f2, f3, f3m, f3k, f4, f5, f6, f7, f8, f8a, f8b, f8r, f9, f9a, f9b, f9r, f10, f12⟩ := hF
      have HBE := hide hbe
      clear hB hbe f0 f1 f2 f3 f3m f3k f4 f5 f6 f7 f8 f8a f8b f8r f9 f9a f9b f9r f10 f12
      rw [if_pos (by rfl)]
      go_simp
      obtain ⟨f0, f1, f2, f3, f3m, f3k, f4, f5, f6, f7, f8, f8a, f8b, f8r, f9, f9a, f9b, f9r, f10, f12⟩ := HF.out
      have hB := HB.out
      have hb : Below w.heap.size w (w.alloc (.cells #[.slice none 0 0, .slice none 0 0, .slice none 0 0, .slice none 0 0] 32)) := (Below.refl _ _).alloc (Nat.le_refl _) _
      refine hK.out _ _ (fun L2 hi2 hn2 => ⟨[x56, x57, x58, x59, x55, x60, x61, x62, (.pointer (some ⟨w.heap.size, 0, none⟩)), x11, x12], put_in HBE.out hn rfl 8 _ rfl rfl, x56, x57, x58, x59, x55, x60, x61, x62, (.pointer (some ⟨w.heap.size, 0, none⟩)), x11, x12, za0, za1, za2, za3, zn0, zn1, zn2, zn3, zc0, zc1, zc2, zc3, b3, w.heap.size, ge, u, rfl, (hB.trans (hb.mono hB.size)), (fun g0 => have h0 := lt_ (hn2 0 (by decide)) g0; f0 h0), (fun g1 => have h1 := lt_ (hn2 1 (by decide)) g1; f1 h1), (fun g2 => have h2 := lt_ (hn2 2 (by decide)) g2; f2 h2), (fun g3 => have h3 := lt_ (hn2 3 (by decide)) g3; f3 h3), (fun g3 => have h3 := lt_ (hn2 3 (by decide)) g3; f3m h3), (fun g3 => have h3 := lt_ (hn2 3 (by decide)) g3; (f3k h3).below hb), (fun g4 => have h4 := lt_ (hn2 4 (by decide)) g4; f4 h4), (fun g5 => have h5 := lt_ (hn2 5 (by decide)) g5; f5 h5), (fun g6 => have h6 := lt_ (hn2 6 (by decide)) g6; f6 h6), (fun g7 => have h7 := lt_ (hn2 7 (by decide)) g7; f7 h7), (fun g8 => rfl), (fun g8 => ⟨hB.size, by simp⟩), (fun g8 g3 => have h3 := lt_ (hn2 3 (by decide)) g3; .inr (f3k h3).1), (fun g8 g10 => have h10 := lt_ (hn2 10 (by decide)) g10; RowAt.new w _ _), (fun g9 => have h9 := lt_ (hn2 9 (by decide)) g9; f9 h9), (fun g9 => have h9 := lt_ (hn2 9 (by decide)) g9; ⟨(f9a h9).1, Nat.lt_of_lt_of_le (f9a h9).2 hb.size⟩), (fun g9 g3 => have h9 := lt_ (hn2 9 (by decide)) g9; have h3 := lt_ (hn2 3 (by decide)) g3; f9b h9 h3), (fun g9 => have h9 := lt_ (hn2 9 (by decide)) g9; (f9r h9).below hb), (fun g10 => have h10 := lt_ (hn2 10 (by decide)) g10; nope h10 u10), (fun g12 => have h12 := lt_ (hn2 12 (by decide)) g12; f12 h12)⟩)
    refine OnceFrom.cons (fun L b w K hI hi hon hup hK => ?_) ?_
    · obtain ⟨xs, hbe, x56, x57, x58, x59, x55, x60, x61, x62, x10, x11, x12, za0, za1, za2, za3, zn0, zn1, zn2, zn3, zc0, zc1, zc2, zc3, b3, gm, ge, u, hxs, hB, hF⟩ := hI
      subst hxs
      have HB := hide hB
      have HF := hide hF
      obtain ⟨f0, f1, f2, f3, f3m, f3k, f4, f5, f6, f7, f8, f8a, f8b, f8r, f9, f9a, f9b, f9r, f10, f12⟩ := hF
      have HBE := hide hbe
      clear hB hbe f0 f1 f2 f3 f3m f3k f4 f5 f6 f7 f8 f8a f8b f8r f9 f9a f9b f9r f10 f12
      rw [if_pos (by rfl)]
      go_simp
      obtain ⟨f0, f1, f2, f3, f3m, f3k, f4, f5, f6, f7, f8, f8a, f8b, f8r, f9, f9a, f9b, f9r, f10, f12⟩ := HF.out
      have hB := HB.out
      have hb : Below w.heap.size w (w.alloc (.cells #[.int .i64 0, .int .u64 0] 43)) := (Below.refl _ _).alloc (Nat.le_refl _) _
      refine hK.out _ _ (fun L2 hi2 hn2 => ⟨[x56, x57, x58, x59, x55, x60, x61, x62, x10, (.pointer (some ⟨w.heap.size, 0, none⟩)), x12], put_in HBE.out hn rfl 9 _ rfl rfl, x56, x57, x58, x59, x55, x60, x61, x62, x10, (.pointer (some ⟨w.heap.size, 0, none⟩)), x12, za0, za1, za2, za3, zn0, zn1, zn2, zn3, zc0, zc1, zc2, zc3, b3, gm, w.heap.size, u, rfl, (hB.trans (hb.mono hB.size)), (fun g0 => have h0 := lt_ (hn2 0 (by decide)) g0; f0 h0), (fun g1 => have h1 := lt_ (hn2 1 (by decide)) g1; f1 h1), (fun g2 => have h2 := lt_ (hn2 2 (by decide)) g2; f2 h2), (fun g3 => have h3 := lt_ (hn2 3 (by decide)) g3; f3 h3), (fun g3 => have h3 := lt_ (hn2 3 (by decide)) g3; f3m h3), (fun g3 => have h3 := lt_ (hn2 3 (by decide)) g3; (f3k h3).below hb), (fun g4 => have h4 := lt_ (hn2 4 (by decide)) g4; f4 h4), (fun g5 => have h5 := lt_ (hn2 5 (by decide)) g5; f5 h5), (fun g6 => have h6 := lt_ (hn2 6 (by decide)) g6; f6 h6), (fun g7 => have h7 := lt_ (hn2 7 (by decide)) g7; f7 h7), (fun g8 => have h8 := lt_ (hn2 8 (by decide)) g8; f8 h8), (fun g8 => have h8 := lt_ (hn2 8 (by decide)) g8; ⟨(f8a h8).1, Nat.lt_of_lt_of_le (f8a h8).2 hb.size⟩), (fun g8 g3 => have h8 := lt_ (hn2 8 (by decide)) g8; have h3 := lt_ (hn2 3 (by decide)) g3; f8b h8 h3), (fun g8 g10 => have h8 := lt_ (hn2 8 (by decide)) g8; have h10 := lt_ (hn2 10 (by decide)) g10; (f8r h8 h10).below hb), (fun g9 => rfl), (fun g9 => ⟨hB.size, by simp⟩), (fun g9 g3 => have h3 := lt_ (hn2 3 (by decide)) g3; .inr (f3k h3).1), (fun g9 => RowAt.new w _ _), (fun g10 => have h10 := lt_ (hn2 10 (by decide)) g10; (f10 h10).below hb), (fun g12 => have h12 := lt_ (hn2 12 (by decide)) g12; f12 h12)⟩)
    refine OnceFrom.cons (fun L b w K hI hi hon hup hK => ?_) ?_
    · obtain ⟨xs, hbe, x56, x57, x58, x59, x55, x60, x61, x62, x10, x11, x12, za0, za1, za2, za3, zn0, zn1, zn2, zn3, zc0, zc1, zc2, zc3, b3, gm, ge, u, hxs, hB, hF⟩ := hI
      subst hxs
      have d8 : L 8 = true := hon 8 (mem_of_elem (by kernel_rfl))
      have d5 : L 5 = true := hon 5 (mem_of_elem (by kernel_rfl))
      have HB := hide hB
      have HF := hide hF
      obtain ⟨f0, f1, f2, f3, f3m, f3k, f4, f5, f6, f7, f8, f8a, f8b, f8r, f9, f9a, f9b, f9r, f10, f12⟩ := hF
      have e8 := f8 d8
      have e5 := f5 d5
      subst e8
      subst e5
      have R8 := f8r d8 hi
      obtain ⟨q0, q1, q2, q3⟩ := row4 R8
      have ql := R8.lt
      have p0 := R8.frozen 0
      have p1 := R8.frozen 1
      have p2 := R8.frozen 2
      have p3 := R8.frozen 3
      replace R8 := hide R8
      have hT10 : b.tmps[10]? = some (.pointer (some ⟨gm, 0, none⟩)) := by rw [hbe]; exact puts_get_in _ _ _ hn hs (i := 8) rfl rfl
      have hT60 : b.tmps[60]? = some (.agg #[.slice za0 zn0 zc0, .slice za1 zn1 zc1, .slice za2 zn2 zc2, .slice za3 zn3 zc3]) := by rw [hbe]; exact puts_get_in _ _ _ hn hs (i := 5) rfl rfl
      have HBE := hide hbe
      clear hB hbe f0 f1 f2 f3 f3m f3k f4 f5 f6 f7 f8 f8a f8b f8r f9 f9a f9b f9r f10 f12
      rw [if_pos (by rfl)]
      go_simp
      obtain ⟨f0, f1, f2, f3, f3m, f3k, f4, f5, f6, f7, f8, f8a, f8b, f8r, f9, f9a, f9b, f9r, f10, f12⟩ := HF.out
      have hB := HB.out
      have HL := laidM4_of (n := w0.heap.size) (v0 := .slice za0 zn0 zc0) (v1 := .slice za1 zn1 zc1) (v2 := .slice za2 zn2 zc2) (v3 := .slice za3 zn3 zc3) R8.out (f8a d8).1
      refine hK.out _ _ (fun L2 hi2 hn2 => ⟨[x56, x57, x58, x59, x55, (.agg #[.slice za0 zn0 zc0, .slice za1 zn1 zc1, .slice za2 zn2 zc2, .slice za3 zn3 zc3]), x61, x62, (.pointer (some ⟨gm, 0, none⟩)), x11, x12], HBE.out, x56, x57, x58, x59, x55, (.agg #[.slice za0 zn0 zc0, .slice za1 zn1 zc1, .slice za2 zn2 zc2, .slice za3 zn3 zc3]), x61, x62, (.pointer (some ⟨gm, 0, none⟩)), x11, x12, za0, za1, za2, za3, zn0, zn1, zn2, zn3, zc0, zc1, zc2, zc3, b3, gm, ge, u, rfl, (hB.trans HL.2.2), (fun g0 => have h0 := lt_ (hn2 0 (by decide)) g0; f0 h0), (fun g1 => have h1 := lt_ (hn2 1 (by decide)) g1; f1 h1), (fun g2 => have h2 := lt_ (hn2 2 (by decide)) g2; f2 h2), (fun g3 => have h3 := lt_ (hn2 3 (by decide)) g3; f3 h3), (fun g3 => have h3 := lt_ (hn2 3 (by decide)) g3; f3m h3), (fun g3 => have h3 := lt_ (hn2 3 (by decide)) g3; (f3k h3).store (f8b d8 h3) HL.2.1 HL.2.2.size), (fun g4 => have h4 := lt_ (hn2 4 (by decide)) g4; f4 h4), (fun g5 => have h5 := lt_ (hn2 5 (by decide)) g5; rfl), (fun g6 => have h6 := lt_ (hn2 6 (by decide)) g6; f6 h6), (fun g7 => have h7 := lt_ (hn2 7 (by decide)) g7; f7 h7), (fun g8 => have h8 := lt_ (hn2 8 (by decide)) g8; rfl), (fun g8 => have h8 := lt_ (hn2 8 (by decide)) g8; ⟨(f8a h8).1, Nat.lt_of_lt_of_le (f8a h8).2 HL.2.2.size⟩), (fun g8 g3 => have h8 := lt_ (hn2 8 (by decide)) g8; have h3 := lt_ (hn2 3 (by decide)) g3; f8b h8 h3), (fun g8 g10 => nope hi2 g10), (fun g9 => have h9 := lt_ (hn2 9 (by decide)) g9; f9 h9), (fun g9 => have h9 := lt_ (hn2 9 (by decide)) g9; ⟨(f9a h9).1, Nat.lt_of_lt_of_le (f9a h9).2 HL.2.2.size⟩), (fun g9 g3 => have h9 := lt_ (hn2 9 (by decide)) g9; have h3 := lt_ (hn2 3 (by decide)) g3; f9b h9 h3), (fun g9 => have h9 := lt_ (hn2 9 (by decide)) g9; (HL.2.1 _ (fun e => by have h1 := f9r h9; rw [e] at h1; exact absurd (row_typ h1 R8.out) (by decide))).trans (f9r h9)), (fun g10 => HL.1), (fun g12 => have h12 := lt_ (hn2 12 (by decide)) g12; f12 h12)⟩)
    refine OnceFrom.cons (fun L b w K hI hi hon hup hK => ?_) ?_
    · obtain ⟨xs, hbe, x56, x57, x58, x59, x55, x60, x61, x62, x10, x11, x12, za0, za1, za2, za3, zn0, zn1, zn2, zn3, zc0, zc1, zc2, zc3, b3, gm, ge, u, hxs, hB, hF⟩ := hI
      subst hxs
      have d9 : L 9 = true := hon 9 (mem_of_elem (by kernel_rfl))
      have d6 : L 6 = true := hon 6 (mem_of_elem (by kernel_rfl))
      have d10 : L 10 = true := hon 10 (mem_of_elem (by kernel_rfl))
      have HB := hide hB
      have HF := hide hF
      obtain ⟨f0, f1, f2, f3, f3m, f3k, f4, f5, f6, f7, f8, f8a, f8b, f8r, f9, f9a, f9b, f9r, f10, f12⟩ := hF
      have e9 := f9 d9
      have e6 := f6 d6
      subst e9
      subst e6
      have R9 := f9r d9
      have q0 := row20 R9
      have q1 := row21 R9
      have ql := R9.lt
      have p0 := R9.frozen 0
      have p1 := R9.frozen 1
      replace R9 := hide R9
      have hT11 : b.tmps[11]? = some (.pointer (some ⟨ge, 0, none⟩)) := by rw [hbe]; exact puts_get_in _ _ _ hn hs (i := 9) rfl rfl
      have hT61 : b.tmps[61]? = some (.agg #[.int .i64 0, .int .u64 0]) := by rw [hbe]; exact puts_get_in _ _ _ hn hs (i := 6) rfl rfl
      have HBE := hide hbe
      clear hB hbe f0 f1 f2 f3 f3m f3k f4 f5 f6 f7 f8 f8a f8b f8r f9 f9a f9b f9r f10 f12
      rw [if_pos (by rfl)]
      go_simp
      obtain ⟨f0, f1, f2, f3, f3m, f3k, f4, f5, f6, f7, f8, f8a, f8b, f8r, f9, f9a, f9b, f9r, f10, f12⟩ := HF.out
      have hB := HB.out
      have HL := laidE2_of (v0 := .int .i64 0) (v1 := .int .u64 0) R9.out (f9a d9).1
      refine hK.out _ _ (fun L2 hi2 hn2 => ⟨[x56, x57, x58, x59, x55, x60, (.agg #[.int .i64 0, .int .u64 0]), x62, x10, (.pointer (some ⟨ge, 0, none⟩)), x12], HBE.out, x56, x57, x58, x59, x55, x60, (.agg #[.int .i64 0, .int .u64 0]), x62, x10, (.pointer (some ⟨ge, 0, none⟩)), x12, za0, za1, za2, za3, zn0, zn1, zn2, zn3, zc0, zc1, zc2, zc3, b3, gm, ge, u, rfl, (hB.trans HL.2.2), (fun g0 => have h0 := lt_ (hn2 0 (by decide)) g0; f0 h0), (fun g1 => have h1 := lt_ (hn2 1 (by decide)) g1; f1 h1), (fun g2 => have h2 := lt_ (hn2 2 (by decide)) g2; f2 h2), (fun g3 => have h3 := lt_ (hn2 3 (by decide)) g3; f3 h3), (fun g3 => have h3 := lt_ (hn2 3 (by decide)) g3; f3m h3), (fun g3 => have h3 := lt_ (hn2 3 (by decide)) g3; (f3k h3).store (f9b d9 h3) HL.2.1 HL.2.2.size), (fun g4 => have h4 := lt_ (hn2 4 (by decide)) g4; f4 h4), (fun g5 => have h5 := lt_ (hn2 5 (by decide)) g5; f5 h5), (fun g6 => have h6 := lt_ (hn2 6 (by decide)) g6; rfl), (fun g7 => have h7 := lt_ (hn2 7 (by decide)) g7; f7 h7), (fun g8 => have h8 := lt_ (hn2 8 (by decide)) g8; f8 h8), (fun g8 => have h8 := lt_ (hn2 8 (by decide)) g8; ⟨(f8a h8).1, Nat.lt_of_lt_of_le (f8a h8).2 HL.2.2.size⟩), (fun g8 g3 => have h8 := lt_ (hn2 8 (by decide)) g8; have h3 := lt_ (hn2 3 (by decide)) g3; f8b h8 h3), (fun g8 g10 => have h8 := lt_ (hn2 8 (by decide)) g8; have h10 := lt_ (hn2 10 (by decide)) g10; nope d10 h10), (fun g9 => have h9 := lt_ (hn2 9 (by decide)) g9; rfl), (fun g9 => have h9 := lt_ (hn2 9 (by decide)) g9; ⟨(f9a h9).1, Nat.lt_of_lt_of_le (f9a h9).2 HL.2.2.size⟩), (fun g9 g3 => have h9 := lt_ (hn2 9 (by decide)) g9; have h3 := lt_ (hn2 3 (by decide)) g3; f9b h9 h3), (fun g9 => have h9 := lt_ (hn2 9 (by decide)) g9; HL.1), (fun g10 => have h10 := lt_ (hn2 10 (by decide)) g10; (HL.2.1 _ (fun e => by have h1 := f10 h10; rw [e] at h1; exact absurd (row_typ R9.out h1) (by decide))).trans (f10 h10)), (fun g12 => have h12 := lt_ (hn2 12 (by decide)) g12; f12 h12)⟩)
    refine OnceFrom.cons (fun L b w K hI hi hon hup hK => ?_) ?_
    · obtain ⟨xs, hbe, x56, x57, x58, x59, x55, x60, x61, x62, x10, x11, x12, za0, za1, za2, za3, zn0, zn1, zn2, zn3, zc0, zc1, zc2, zc3, b3, gm, ge, u, hxs, hB, hF⟩ := hI
      subst hxs
      have d7 : L 7 = true := hon 7 (mem_of_elem (by kernel_rfl))
      have HB := hide hB
      have HF := hide hF
      obtain ⟨f0, f1, f2, f3, f3m, f3k, f4, f5, f6, f7, f8, f8a, f8b, f8r, f9, f9a, f9b, f9r, f10, f12⟩ := hF
      have e7 := f7 d7
      subst e7
      have hT62 : b.tmps[62]? = some (.int .i64 0) := by rw [hbe]; exact puts_get_in _ _ _ hn hs (i := 7) rfl rfl
      have HBE := hide hbe
      clear hB hbe f0 f1 f2 f3 f3m f3k f4 f5 f6 f7 f8 f8a f8b f8r f9 f9a f9b f9r f10 f12
      rw [if_pos (by rfl)]
      go_simp
      obtain ⟨f0, f1, f2, f3, f3m, f3k, f4, f5, f6, f7, f8, f8a, f8b, f8r, f9, f9a, f9b, f9r, f10, f12⟩ := HF.out
      have hB := HB.out
      refine hK.out _ _ (fun L2 hi2 hn2 => ⟨[x56, x57, x58, x59, x55, x60, x61, (.int .i64 0), x10, x11, (.int .i64 0)], put_in HBE.out hn rfl 10 _ rfl rfl, x56, x57, x58, x59, x55, x60, x61, (.int .i64 0), x10, x11, (.int .i64 0), za0, za1, za2, za3, zn0, zn1, zn2, zn3, zc0, zc1, zc2, zc3, b3, gm, ge, u, rfl, hB, (fun g0 => have h0 := lt_ (hn2 0 (by decide)) g0; f0 h0), (fun g1 => have h1 := lt_ (hn2 1 (by decide)) g1; f1 h1), (fun g2 => have h2 := lt_ (hn2 2 (by decide)) g2; f2 h2), (fun g3 => have h3 := lt_ (hn2 3 (by decide)) g3; f3 h3), (fun g3 => have h3 := lt_ (hn2 3 (by decide)) g3; f3m h3), (fun g3 => have h3 := lt_ (hn2 3 (by decide)) g3; f3k h3), (fun g4 => have h4 := lt_ (hn2 4 (by decide)) g4; f4 h4), (fun g5 => have h5 := lt_ (hn2 5 (by decide)) g5; f5 h5), (fun g6 => have h6 := lt_ (hn2 6 (by decide)) g6; f6 h6), (fun g7 => have h7 := lt_ (hn2 7 (by decide)) g7; rfl), (fun g8 => have h8 := lt_ (hn2 8 (by decide)) g8; f8 h8), (fun g8 => have h8 := lt_ (hn2 8 (by decide)) g8; f8a h8), (fun g8 g3 => have h8 := lt_ (hn2 8 (by decide)) g8; have h3 := lt_ (hn2 3 (by decide)) g3; f8b h8 h3), (fun g8 g10 => have h8 := lt_ (hn2 8 (by decide)) g8; have h10 := lt_ (hn2 10 (by decide)) g10; f8r h8 h10), (fun g9 => have h9 := lt_ (hn2 9 (by decide)) g9; f9 h9), (fun g9 => have h9 := lt_ (hn2 9 (by decide)) g9; f9a h9), (fun g9 g3 => have h9 := lt_ (hn2 9 (by decide)) g9; have h3 := lt_ (hn2 3 (by decide)) g3; f9b h9 h3), (fun g9 => have h9 := lt_ (hn2 9 (by decide)) g9; f9r h9), (fun g10 => have h10 := lt_ (hn2 10 (by decide)) g10; f10 h10), (fun g12 => rfl)⟩)
    exact trivial
  · intro L xs w hL hR
    obtain ⟨x56, x57, x58, x59, x55, x60, x61, x62, x10, x11, x12, za0, za1, za2, za3, zn0, zn1, zn2, zn3, zc0, zc1, zc2, zc3, b3, gm, ge, u, hxs, hB, f0, f1, f2, f3, f3m, f3k, f4, f5, f6, f7, f8, f8a, f8b, f8r, f9, f9a, f9b, f9r, f10, f12⟩ := hR
    subst hxs
    have d0 : L 0 = true := hL 0 (by decide)
    have d1 : L 1 = true := hL 1 (by decide)
    have d2 : L 2 = true := hL 2 (by decide)
    have d3 : L 3 = true := hL 3 (by decide)
    have d4 : L 4 = true := hL 4 (by decide)
    have d5 : L 5 = true := hL 5 (by decide)
    have d6 : L 6 = true := hL 6 (by decide)
    have d7 : L 7 = true := hL 7 (by decide)
    have d8 : L 8 = true := hL 8 (by decide)
    have d9 : L 9 = true := hL 9 (by decide)
    have d10 : L 10 = true := hL 10 (by decide)
    have d11 : L 11 = true := hL 11 (by decide)
    have d12 : L 12 = true := hL 12 (by decide)
    have e8 := f8 d8
    subst e8
    have e9 := f9 d9
    subst e9
    have e12 := f12 d12
    subst e12
    refine hQ x56 x57 x58 x59 x55 x60 x61 x62 gm ge za0 za1 za2 za3 zn0 zn1 zn2 zn3 zc0 zc1 zc2 zc3 w hB (f10 d10) (((f3m d3).other (f3k d3).1 (f3k d3).2).up (Nat.zero_le _))
set_option maxRecDepth 100000 in
set_option maxHeartbeats 16000000 in
theorem wk_r6 {w0 : World} {g0 g1 B0 : Nat} {ya0 ya1 ya2 ya3 : Option Addr} {yn0 yn1 yn2 yn3 yc0 yc1 yc2 yc3 : Nat} (R0 : RowAt w0 g0 32 #[.slice ya0 yn0 yc0, .slice ya1 yn1 yc1, .slice ya2 yn2 yc2, .slice ya3 yn3 yc3]) (R1 : RowAt w0 g1 43 #[.int .i64 0, .int .u64 0]) (M0 : MonOut B0 w0 (.agg #[.slice ya0 yn0 yc0, .slice ya1 yn1 yc1, .slice ya2 yn2 yc2, .slice ya3 yn3 yc3]) wk2) (a : Act) (Q : Exit → Act → World → Prop) (id : Nat) (hsz : 70 < a.tmps.size) (hA7 : a.tmps[7]? = some (.pointer (some ⟨g0, 0, none⟩))) (hA2 : a.tmps[2]? = some (.pointer (some ⟨g1, 0, none⟩))) (ops : Array Oper) (hops : opsAt Try.f7 6 = some ops) (hQ : ∀ (x64 : Value) (x65 : Value) (x66 : Value) (x67 : Value) (x63 : Value) (x68 : Value) (x69 : Value) (x70 : Value) (gm ge : Nat) (za0 za1 za2 za3 : Option Addr) (zn0 zn1 zn2 zn3 zc0 zc1 zc2 zc3 : Nat) (w : World), Below w0.heap.size w0 w → RowAt w gm 32 #[.slice za0 zn0 zc0, .slice za1 zn1 zc1, .slice za2 zn2 zc2, .slice za3 zn3 zc3] → MonOut 0 w (.agg #[.slice za0 zn0 zc0, .slice za1 zn1 zc1, .slice za2 zn2 zc2, .slice za3 zn3 zc3]) wk4 → Q .normal (puts a (([64, 65, 66, 67, 63, 68, 69, 70, 13, 14, 15] : List Nat).zip [x64, x65, x66, x67, x63, x68, x69, x70, (.pointer (some ⟨gm, 0, none⟩)), (.pointer (some ⟨ge, 0, none⟩)), .int .i64 0])) w) : (Code.region id ops true).wp Try.prog Q a w0 := by
  have hn : ([64, 65, 66, 67, 63, 68, 69, 70, 13, 14, 15] : List Nat).Nodup := by decide
  have hs : ∀ d ∈ ([64, 65, 66, 67, 63, 68, 69, 70, 13, 14, 15] : List Nat), d < a.tmps.size := fun d hd => Nat.lt_of_le_of_lt ((by decide : ∀ d ∈ ([64, 65, 66, 67, 63, 68, 69, 70, 13, 14, 15] : List Nat), d ≤ 70) d hd) hsz
  conv at hops => lhs; whnf
  injection hops with hops
  subst hops
  refine wp_region_slots [64, 65, 66, 67, 63, 68, 69, 70, 13, 14, 15] (fun L xs w => ∃ x64 : Value, ∃ x65 : Value, ∃ x66 : Value, ∃ x67 : Value, ∃ x63 : Value, ∃ x68 : Value, ∃ x69 : Value, ∃ x70 : Value, ∃ x13 : Value, ∃ x14 : Value, ∃ x15 : Value, ∃ za0 za1 za2 za3 : Option Addr, ∃ zn0 zn1 zn2 zn3 zc0 zc1 zc2 zc3 : Nat, ∃ b3 gm ge : Nat, ∃ u : World, xs = [x64, x65, x66, x67, x63, x68, x69, x70, x13, x14, x15] ∧ Below w0.heap.size w0 w ∧ (L 0 = true → x64 = .agg #[.slice ya0 yn0 yc0, .slice ya1 yn1 yc1, .slice ya2 yn2 yc2, .slice ya3 yn3 yc3]) ∧ (L 1 = true → x65 = .agg #[.int .i64 0, .int .u64 0]) ∧ (L 2 = true → x66 = .agg #[.int .i64 2, .int .i64 1, .int .i64 0, .int .u64 0]) ∧ (L 3 = true → x67 = .tuple #[.agg #[.slice za0 zn0 zc0, .slice za1 zn1 zc1, .slice za2 zn2 zc2, .slice za3 zn3 zc3], .agg #[.int .i64 0, .int .u64 0], .int .i64 0]) ∧ (L 3 = true → MonOut b3 u (.agg #[.slice za0 zn0 zc0, .slice za1 zn1 zc1, .slice za2 zn2 zc2, .slice za3 zn3 zc3]) wk4) ∧ (L 3 = true → Keeps b3 u w) ∧ (L 4 = true → x63 = .tuple #[.agg #[.slice za0 zn0 zc0, .slice za1 zn1 zc1, .slice za2 zn2 zc2, .slice za3 zn3 zc3], .agg #[.int .i64 0, .int .u64 0], .int .i64 0]) ∧ (L 5 = true → x68 = .agg #[.slice za0 zn0 zc0, .slice za1 zn1 zc1, .slice za2 zn2 zc2, .slice za3 zn3 zc3]) ∧ (L 6 = true → x69 = .agg #[.int .i64 0, .int .u64 0]) ∧ (L 7 = true → x70 = .int .i64 0) ∧ (L 8 = true → x13 = .pointer (some ⟨gm, 0, none⟩)) ∧ (L 8 = true → w0.heap.size ≤ gm ∧ gm < w.heap.size) ∧ (L 8 = true → L 3 = true → gm < b3 ∨ u.heap.size ≤ gm) ∧ (L 8 = true → L 10 = false → RowAt w gm 32 #[.slice none 0 0, .slice none 0 0, .slice none 0 0, .slice none 0 0]) ∧ (L 9 = true → x14 = .pointer (some ⟨ge, 0, none⟩)) ∧ (L 9 = true → w0.heap.size ≤ ge ∧ ge < w.heap.size) ∧ (L 9 = true → L 3 = true → ge < b3 ∨ u.heap.size ≤ ge) ∧ (L 9 = true → RowAt w ge 43 #[.int .i64 0, .int .u64 0]) ∧ (L 10 = true → RowAt w gm 32 #[.slice za0 zn0 zc0, .slice za1 zn1 zc1, .slice za2 zn2 zc2, .slice za3 zn3 zc3]) ∧ (L 12 = true → x15 = .int .i64 0)) (by kernel_rfl) (by kernel_rfl) ?_ ?_ ?_
  · exact ⟨_, _, _, _, _, _, _, _, _, _, _, none, none, none, none, 0, 0, 0, 0, 0, 0, 0, 0, 0, 0, 0, w0, rfl, (Below.refl _ _).drew, fun h => nope h rfl, fun h => nope h rfl, fun h => nope h rfl, fun h => nope h rfl, fun h => nope h rfl, fun h => nope h rfl, fun h => nope h rfl, fun h => nope h rfl, fun h => nope h rfl, fun h => nope h rfl, fun h => nope h rfl, fun h => nope h rfl, fun h => nope h rfl, fun h => nope h rfl, fun h => nope h rfl, fun h => nope h rfl, fun h => nope h rfl, fun h => nope h rfl, fun h => nope h rfl, fun h => nope h rfl⟩
  · refine OnceFrom.cons (fun L b w K hI hi hon hup hK => ?_) ?_
    · obtain ⟨xs, hbe, x64, x65, x66, x67, x63, x68, x69, x70, x13, x14, x15, za0, za1, za2, za3, zn0, zn1, zn2, zn3, zc0, zc1, zc2, zc3, b3, gm, ge, u, hxs, hB, hF⟩ := hI
      subst hxs
      have HB := hide hB
      have HF := hide hF
      obtain ⟨f0, f1, f2, f3, f3m, f3k, f4, f5, f6, f7, f8, f8a, f8b, f8r, f9, f9a, f9b, f9r, f10, f12⟩ := hF
      obtain ⟨c0, c1, c2, c3⟩ := row4 R0
      have q0 := kept hB c0
      have q1 := kept hB c1
      have q2 := kept hB c2
      have q3 := kept hB c3
      clear c0 c1 c2 c3
      have hT7 : b.tmps[7]? = some (.pointer (some ⟨g0, 0, none⟩)) := by rw [hbe]; exact (puts_get_out _ _ _ (by decide)).trans hA7
      have HBE := hide hbe
      clear hB hbe f0 f1 f2 f3 f3m f3k f4 f5 f6 f7 f8 f8a f8b f8r f9 f9a f9b f9r f10 f12
      rw [if_pos (by rfl)]
      go_simp
      obtain ⟨f0, f1, f2, f3, f3m, f3k, f4, f5, f6, f7, f8, f8a, f8b, f8r, f9, f9a, f9b, f9r, f10, f12⟩ := HF.out
      have hB := HB.out
      refine hK.out _ _ (fun L2 hi2 hn2 => ⟨[(.agg #[.slice ya0 yn0 yc0, .slice ya1 yn1 yc1, .slice ya2 yn2 yc2, .slice ya3 yn3 yc3]), x65, x66, x67, x63, x68, x69, x70, x13, x14, x15], put_in HBE.out hn rfl 0 _ rfl rfl, (.agg #[.slice ya0 yn0 yc0, .slice ya1 yn1 yc1, .slice ya2 yn2 yc2, .slice ya3 yn3 yc3]), x65, x66, x67, x63, x68, x69, x70, x13, x14, x15, za0, za1, za2, za3, zn0, zn1, zn2, zn3, zc0, zc1, zc2, zc3, b3, gm, ge, u, rfl, hB, (fun g0 => rfl), (fun g1 => have h1 := lt_ (hn2 1 (by decide)) g1; f1 h1), (fun g2 => have h2 := lt_ (hn2 2 (by decide)) g2; f2 h2), (fun g3 => have h3 := lt_ (hn2 3 (by decide)) g3; f3 h3), (fun g3 => have h3 := lt_ (hn2 3 (by decide)) g3; f3m h3), (fun g3 => have h3 := lt_ (hn2 3 (by decide)) g3; f3k h3), (fun g4 => have h4 := lt_ (hn2 4 (by decide)) g4; f4 h4), (fun g5 => have h5 := lt_ (hn2 5 (by decide)) g5; f5 h5), (fun g6 => have h6 := lt_ (hn2 6 (by decide)) g6; f6 h6), (fun g7 => have h7 := lt_ (hn2 7 (by decide)) g7; f7 h7), (fun g8 => have h8 := lt_ (hn2 8 (by decide)) g8; f8 h8), (fun g8 => have h8 := lt_ (hn2 8 (by decide)) g8; f8a h8), (fun g8 g3 => have h8 := lt_ (hn2 8 (by decide)) g8; have h3 := lt_ (hn2 3 (by decide)) g3; f8b h8 h3), (fun g8 g10 => have h8 := lt_ (hn2 8 (by decide)) g8; have h10 := lt_ (hn2 10 (by decide)) g10; f8r h8 h10), (fun g9 => have h9 := lt_ (hn2 9 (by decide)) g9; f9 h9), (fun g9 => have h9 := lt_ (hn2 9 (by decide)) g9; f9a h9), (fun g9 g3 => have h9 := lt_ (hn2 9 (by decide)) g9; have h3 := lt_ (hn2 3 (by decide)) g3; f9b h9 h3), (fun g9 => have h9 := lt_ (hn2 9 (by decide)) g9; f9r h9), (fun g10 => have h10 := lt_ (hn2 10 (by decide)) g10; f10 h10), (fun g12 => have h12 := lt_ (hn2 12 (by decide)) g12; f12 h12)⟩)
    refine OnceFrom.cons (fun L b w K hI hi hon hup hK => ?_) ?_
    · obtain ⟨xs, hbe, x64, x65, x66, x67, x63, x68, x69, x70, x13, x14, x15, za0, za1, za2, za3, zn0, zn1, zn2, zn3, zc0, zc1, zc2, zc3, b3, gm, ge, u, hxs, hB, hF⟩ := hI
      subst hxs
      have HB := hide hB
      have HF := hide hF
      obtain ⟨f0, f1, f2, f3, f3m, f3k, f4, f5, f6, f7, f8, f8a, f8b, f8r, f9, f9a, f9b, f9r, f10, f12⟩ := hF
      have q0 := kept hB (row20 R1)
      have q1 := kept hB (row21 R1)
      have hT2 : b.tmps[2]? = some (.pointer (some ⟨g1, 0, none⟩)) := by rw [hbe]; exact (puts_get_out _ _ _ (by decide)).trans hA2
      have HBE := hide hbe
      clear hB hbe f0 f1 f2 f3 f3m f3k f4 f5 f6 f7 f8 f8a f8b f8r f9 f9a f9b f9r f10 f12
      rw [if_pos (by rfl)]
      go_simp
      obtain ⟨f0, f1, f2, f3, f3m, f3k, f4, f5, f6, f7, f8, f8a, f8b, f8r, f9, f9a, f9b, f9r, f10, f12⟩ := HF.out
      have hB := HB.out
      refine hK.out _ _ (fun L2 hi2 hn2 => ⟨[x64, (.agg #[.int .i64 0, .int .u64 0]), x66, x67, x63, x68, x69, x70, x13, x14, x15], put_in HBE.out hn rfl 1 _ rfl rfl, x64, (.agg #[.int .i64 0, .int .u64 0]), x66, x67, x63, x68, x69, x70, x13, x14, x15, za0, za1, za2, za3, zn0, zn1, zn2, zn3, zc0, zc1, zc2, zc3, b3, gm, ge, u, rfl, hB, (fun g0 => have h0 := lt_ (hn2 0 (by decide)) g0; f0 h0), (fun g1 => rfl), (fun g2 => have h2 := lt_ (hn2 2 (by decide)) g2; f2 h2), (fun g3 => have h3 := lt_ (hn2 3 (by decide)) g3; f3 h3), (fun g3 => have h3 := lt_ (hn2 3 (by decide)) g3; f3m h3), (fun g3 => have h3 := lt_ (hn2 3 (by decide)) g3; f3k h3), (fun g4 => have h4 := lt_ (hn2 4 (by decide)) g4; f4 h4), (fun g5 => have h5 := lt_ (hn2 5 (by decide)) g5; f5 h5), (fun g6 => have h6 := lt_ (hn2 6 (by decide)) g6; f6 h6), (fun g7 => have h7 := lt_ (hn2 7 (by decide)) g7; f7 h7), (fun g8 => have h8 := lt_ (hn2 8 (by decide)) g8; f8 h8), (fun g8 => have h8 := lt_ (hn2 8 (by decide)) g8; f8a h8), (fun g8 g3 => have h8 := lt_ (hn2 8 (by decide)) g8; have h3 := lt_ (hn2 3 (by decide)) g3; f8b h8 h3), (fun g8 g10 => have h8 := lt_ (hn2 8 (by decide)) g8; have h10 := lt_ (hn2 10 (by decide)) g10; f8r h8 h10), (fun g9 => have h9 := lt_ (hn2 9 (by decide)) g9; f9 h9), (fun g9 => have h9 := lt_ (hn2 9 (by decide)) g9; f9a h9), (fun g9 g3 => have h9 := lt_ (hn2 9 (by decide)) g9; have h3 := lt_ (hn2 3 (by decide)) g3; f9b h9 h3), (fun g9 => have h9 := lt_ (hn2 9 (by decide)) g9; f9r h9), (fun g10 => have h10 := lt_ (hn2 10 (by decide)) g10; f10 h10), (fun g12 => have h12 := lt_ (hn2 12 (by decide)) g12; f12 h12)⟩)
    refine OnceFrom.cons (fun L b w K hI hi hon hup hK => ?_) ?_
    · obtain ⟨xs, hbe, x64, x65, x66, x67, x63, x68, x69, x70, x13, x14, x15, za0, za1, za2, za3, zn0, zn1, zn2, zn3, zc0, zc1, zc2, zc3, b3, gm, ge, u, hxs, hB, hF⟩ := hI
      subst hxs
      have d1 : L 1 = true := hon 1 (mem_of_elem (by kernel_rfl))
      have HB := hide hB
      have HF := hide hF
      obtain ⟨f0, f1, f2, f3, f3m, f3k, f4, f5, f6, f7, f8, f8a, f8b, f8r, f9, f9a, f9b, f9r, f10, f12⟩ := hF
      have e1 := f1 d1
      subst e1
      have hT65 : b.tmps[65]? = some (.agg #[.int .i64 0, .int .u64 0]) := by rw [hbe]; exact puts_get_in _ _ _ hn hs (i := 1) rfl rfl
      have HBE := hide hbe
      clear hB hbe f0 f1 f2 f3 f3m f3k f4 f5 f6 f7 f8 f8a f8b f8r f9 f9a f9b f9r f10 f12
      rw [if_pos (by rfl)]
      go_simp
      with_reducible refine (watch_any 2 1 0 0 w).mono ?_
      rintro e w2 ⟨rfl, hb⟩
      obtain ⟨f0, f1, f2, f3, f3m, f3k, f4, f5, f6, f7, f8, f8a, f8b, f8r, f9, f9a, f9b, f9r, f10, f12⟩ := HF.out
      have hB := HB.out
      refine hK.out _ _ (fun L2 hi2 hn2 => ⟨[x64, (.agg #[.int .i64 0, .int .u64 0]), (.agg #[.int .i64 2, .int .i64 1, .int .i64 0, .int .u64 0]), x67, x63, x68, x69, x70, x13, x14, x15], put_in HBE.out hn rfl 2 _ rfl rfl, x64, (.agg #[.int .i64 0, .int .u64 0]), (.agg #[.int .i64 2, .int .i64 1, .int .i64 0, .int .u64 0]), x67, x63, x68, x69, x70, x13, x14, x15, za0, za1, za2, za3, zn0, zn1, zn2, zn3, zc0, zc1, zc2, zc3, b3, gm, ge, u, rfl, (hB.trans (hb.mono hB.size)), (fun g0 => have h0 := lt_ (hn2 0 (by decide)) g0; f0 h0), (fun g1 => have h1 := lt_ (hn2 1 (by decide)) g1; rfl), (fun g2 => rfl), (fun g3 => have h3 := lt_ (hn2 3 (by decide)) g3; f3 h3), (fun g3 => have h3 := lt_ (hn2 3 (by decide)) g3; f3m h3), (fun g3 => have h3 := lt_ (hn2 3 (by decide)) g3; (f3k h3).below hb), (fun g4 => have h4 := lt_ (hn2 4 (by decide)) g4; f4 h4), (fun g5 => have h5 := lt_ (hn2 5 (by decide)) g5; f5 h5), (fun g6 => have h6 := lt_ (hn2 6 (by decide)) g6; f6 h6), (fun g7 => have h7 := lt_ (hn2 7 (by decide)) g7; f7 h7), (fun g8 => have h8 := lt_ (hn2 8 (by decide)) g8; f8 h8), (fun g8 => have h8 := lt_ (hn2 8 (by decide)) g8; ⟨(f8a h8).1, Nat.lt_of_lt_of_le (f8a h8).2 hb.size⟩), (fun g8 g3 => have h8 := lt_ (hn2 8 (by decide)) g8; have h3 := lt_ (hn2 3 (by decide)) g3; f8b h8 h3), (fun g8 g10 => have h8 := lt_ (hn2 8 (by decide)) g8; have h10 := lt_ (hn2 10 (by decide)) g10; (f8r h8 h10).below hb), (fun g9 => have h9 := lt_ (hn2 9 (by decide)) g9; f9 h9), (fun g9 => have h9 := lt_ (hn2 9 (by decide)) g9; ⟨(f9a h9).1, Nat.lt_of_lt_of_le (f9a h9).2 hb.size⟩), (fun g9 g3 => have h9 := lt_ (hn2 9 (by decide)) g9; have h3 := lt_ (hn2 3 (by decide)) g3; f9b h9 h3), (fun g9 => have h9 := lt_ (hn2 9 (by decide)) g9; (f9r h9).below hb), (fun g10 => have h10 := lt_ (hn2 10 (by decide)) g10; (f10 h10).below hb), (fun g12 => have h12 := lt_ (hn2 12 (by decide)) g12; f12 h12)⟩)
    refine OnceFrom.cons (fun L b w K hI hi hon hup hK => ?_) ?_
    · obtain ⟨xs, hbe, x64, x65, x66, x67, x63, x68, x69, x70, x13, x14, x15, za0, za1, za2, za3, zn0, zn1, zn2, zn3, zc0, zc1, zc2, zc3, b3, gm, ge, u, hxs, hB, hF⟩ := hI
      subst hxs
      have d0 : L 0 = true := hon 0 (mem_of_elem (by kernel_rfl))
      have d2 : L 2 = true := hon 2 (mem_of_elem (by kernel_rfl))
      have u4 : L 4 = false := hup 4 (mem_of_elem (by kernel_rfl))
      have u5 : L 5 = false := hup 5 (mem_of_elem (by kernel_rfl))
      have u10 : L 10 = false := hup 10 (mem_of_elem (by kernel_rfl))
      have HB := hide hB
      have HF := hide hF
      obtain ⟨f0, f1, f2, f3, f3m, f3k, f4, f5, f6, f7, f8, f8a, f8b, f8r, f9, f9a, f9b, f9r, f10, f12⟩ := hF
      have e0 := f0 d0
      have e2 := f2 d2
      subst e0
      subst e2
      have MB := hide (M0.below hB)
      have hT64 : b.tmps[64]? = some (.agg #[.slice ya0 yn0 yc0, .slice ya1 yn1 yc1, .slice ya2 yn2 yc2, .slice ya3 yn3 yc3]) := by rw [hbe]; exact puts_get_in _ _ _ hn hs (i := 0) rfl rfl
      have hT66 : b.tmps[66]? = some (.agg #[.int .i64 2, .int .i64 1, .int .i64 0, .int .u64 0]) := by rw [hbe]; exact puts_get_in _ _ _ hn hs (i := 2) rfl rfl
      have HBE := hide hbe
      clear hB hbe f0 f1 f2 f3 f3m f3k f4 f5 f6 f7 f8 f8a f8b f8r f9 f9a f9b f9r f10 f12
      rw [if_pos (by rfl)]
      go_simp
      with_reducible refine (vDo MB.out fit2 2 1 0 0 u640).mono ?_
      rintro e w2 ⟨⟨vv, rfl, hm5⟩, hb⟩
      have ke : outE (DoM wk2 (2, 1, 0, 0)) = (0, 0) := rfl
      have kk : outK (DoM wk2 (2, 1, 0, 0)) = 0 := rfl
      rw [ke, kk]
      have hm5 : MonOut w.heap.size w2 vv wk4 := hm5
      clear ke kk
      obtain ⟨va0, va1, va2, va3, vn0, vn1, vn2, vn3, vc0, vc1, vc2, vc3, rfl⟩ := hm5.form
      obtain ⟨f0, f1, f2, f3, f3m, f3k, f4, f5, f6, f7, f8, f8a, f8b, f8r, f9, f9a, f9b, f9r, f10, f12⟩ := HF.out
      have hB := HB.out
      refine hK.out _ _ (fun L2 hi2 hn2 => ⟨[(.agg #[.slice ya0 yn0 yc0, .slice ya1 yn1 yc1, .slice ya2 yn2 yc2, .slice ya3 yn3 yc3]), x65, (.agg #[.int .i64 2, .int .i64 1, .int .i64 0, .int .u64 0]), (.tuple #[.agg #[.slice va0 vn0 vc0, .slice va1 vn1 vc1, .slice va2 vn2 vc2, .slice va3 vn3 vc3], .agg #[.int .i64 0, .int .u64 0], .int .i64 0]), x63, x68, x69, x70, x13, x14, x15], put_in HBE.out hn rfl 3 _ rfl rfl, (.agg #[.slice ya0 yn0 yc0, .slice ya1 yn1 yc1, .slice ya2 yn2 yc2, .slice ya3 yn3 yc3]), x65, (.agg #[.int .i64 2, .int .i64 1, .int .i64 0, .int .u64 0]), (.tuple #[.agg #[.slice va0 vn0 vc0, .slice va1 vn1 vc1, .slice va2 vn2 vc2, .slice va3 vn3 vc3], .agg #[.int .i64 0, .int .u64 0], .int .i64 0]), x63, x68, x69, x70, x13, x14, x15, va0, va1, va2, va3, vn0, vn1, vn2, vn3, vc0, vc1, vc2, vc3, w.heap.size, gm, ge, w2, rfl, (hB.trans (hb.mono hB.size)), (fun g0 => have h0 := lt_ (hn2 0 (by decide)) g0; rfl), (fun g1 => have h1 := lt_ (hn2 1 (by decide)) g1; f1 h1), (fun g2 => have h2 := lt_ (hn2 2 (by decide)) g2; rfl), (fun g3 => rfl), (fun g3 => hm5), (fun g3 => Keeps.refl _ _), (fun g4 => have h4 := lt_ (hn2 4 (by decide)) g4; nope h4 u4), (fun g5 => have h5 := lt_ (hn2 5 (by decide)) g5; nope h5 u5), (fun g6 => have h6 := lt_ (hn2 6 (by decide)) g6; f6 h6), (fun g7 => have h7 := lt_ (hn2 7 (by decide)) g7; f7 h7), (fun g8 => have h8 := lt_ (hn2 8 (by decide)) g8; f8 h8), (fun g8 => have h8 := lt_ (hn2 8 (by decide)) g8; ⟨(f8a h8).1, Nat.lt_of_lt_of_le (f8a h8).2 hb.size⟩), (fun g8 g3 => have h8 := lt_ (hn2 8 (by decide)) g8; .inl (f8a h8).2), (fun g8 g10 => have h8 := lt_ (hn2 8 (by decide)) g8; have h10 := lt_ (hn2 10 (by decide)) g10; (f8r h8 h10).below hb), (fun g9 => have h9 := lt_ (hn2 9 (by decide)) g9; f9 h9), (fun g9 => have h9 := lt_ (hn2 9 (by decide)) g9; ⟨(f9a h9).1, Nat.lt_of_lt_of_le (f9a h9).2 hb.size⟩), (fun g9 g3 => have h9 := lt_ (hn2 9 (by decide)) g9; .inl (f9a h9).2), (fun g9 => have h9 := lt_ (hn2 9 (by decide)) g9; (f9r h9).below hb), (fun g10 => have h10 := lt_ (hn2 10 (by decide)) g10; nope h10 u10), (fun g12 => have h12 := lt_ (hn2 12 (by decide)) g12; f12 h12)⟩)
    refine OnceFrom.cons (fun L b w K hI hi hon hup hK => ?_) ?_
    · obtain ⟨xs, hbe, x64, x65, x66, x67, x63, x68, x69, x70, x13, x14, x15, za0, za1, za2, za3, zn0, zn1, zn2, zn3, zc0, zc1, zc2, zc3, b3, gm, ge, u, hxs, hB, hF⟩ := hI
      subst hxs
      have d3 : L 3 = true := hon 3 (mem_of_elem (by kernel_rfl))
      have HB := hide hB
      have HF := hide hF
      obtain ⟨f0, f1, f2, f3, f3m, f3k, f4, f5, f6, f7, f8, f8a, f8b, f8r, f9, f9a, f9b, f9r, f10, f12⟩ := hF
      have e3 := f3 d3
      subst e3
      have hT67 : b.tmps[67]? = some (.tuple #[.agg #[.slice za0 zn0 zc0, .slice za1 zn1 zc1, .slice za2 zn2 zc2, .slice za3 zn3 zc3], .agg #[.int .i64 0, .int .u64 0], .int .i64 0]) := by rw [hbe]; exact puts_get_in _ _ _ hn hs (i := 3) rfl rfl
      have HBE := hide hbe
      clear hB hbe f0 f1 f2 f3 f3m f3k f4 f5 f6 f7 f8 f8a f8b f8r f9 f9a f9b f9r f10 f12
      rw [if_pos (by rfl)]
      go_simp
      obtain ⟨f0, f1, f2, f3, f3m, f3k, f4, f5, f6, f7, f8, f8a, f8b, f8r, f9, f9a, f9b, f9r, f10, f12⟩ := HF.out
      have hB := HB.out
      refine hK.out _ _ (fun L2 hi2 hn2 => ⟨[x64, x65, x66, (.tuple #[.agg #[.slice za0 zn0 zc0, .slice za1 zn1 zc1, .slice za2 zn2 zc2, .slice za3 zn3 zc3], .agg #[.int .i64 0, .int .u64 0], .int .i64 0]), (.tuple #[.agg #[.slice za0 zn0 zc0, .slice za1 zn1 zc1, .slice za2 zn2 zc2, .slice za3 zn3 zc3], .agg #[.int .i64 0, .int .u64 0], .int .i64 0]), x68, x69, x70, x13, x14, x15], put_in HBE.out hn rfl 4 _ rfl rfl, x64, x65, x66, (.tuple #[.agg #[.slice za0 zn0 zc0, .slice za1 zn1 zc1, .slice za2 zn2 zc2, .slice za3 zn3 zc3], .agg #[.int .i64 0, .int .u64 0], .int .i64 0]), (.tuple #[.agg #[.slice za0 zn0 zc0, .slice za1 zn1 zc1, .slice za2 zn2 zc2, .slice za3 zn3 zc3], .agg #[.int .i64 0, .int .u64 0], .int .i64 0]), x68, x69, x70, x13, x14, x15, za0, za1, za2, za3, zn0, zn1, zn2, zn3, zc0, zc1, zc2, zc3, b3, gm, ge, u, rfl, hB, (fun g0 => have h0 := lt_ (hn2 0 (by decide)) g0; f0 h0), (fun g1 => have h1 := lt_ (hn2 1 (by decide)) g1; f1 h1), (fun g2 => have h2 := lt_ (hn2 2 (by decide)) g2; f2 h2), (fun g3 => have h3 := lt_ (hn2 3 (by decide)) g3; rfl), (fun g3 => have h3 := lt_ (hn2 3 (by decide)) g3; f3m h3), (fun g3 => have h3 := lt_ (hn2 3 (by decide)) g3; f3k h3), (fun g4 => rfl), (fun g5 => have h5 := lt_ (hn2 5 (by decide)) g5; f5 h5), (fun g6 => have h6 := lt_ (hn2 6 (by decide)) g6; f6 h6), (fun g7 => have h7 := lt_ (hn2 7 (by decide)) g7; f7 h7), (fun g8 => have h8 := lt_ (hn2 8 (by decide)) g8; f8 h8), (fun g8 => have h8 := lt_ (hn2 8 (by decide)) g8; f8a h8), (fun g8 g3 => have h8 := lt_ (hn2 8 (by decide)) g8; have h3 := lt_ (hn2 3 (by decide)) g3; f8b h8 h3), (fun g8 g10 => have h8 := lt_ (hn2 8 (by decide)) g8; have h10 := lt_ (hn2 10 (by decide)) g10; f8r h8 h10), (fun g9 => have h9 := lt_ (hn2 9 (by decide)) g9; f9 h9), (fun g9 => have h9 := lt_ (hn2 9 (by decide)) g9; f9a h9), (fun g9 g3 => have h9 := lt_ (hn2 9 (by decide)) g9; have h3 := lt_ (hn2 3 (by decide)) g3; f9b h9 h3), (fun g9 => have h9 := lt_ (hn2 9 (by decide)) g9; f9r h9), (fun g10 => have h10 := lt_ (hn2 10 (by decide)) g10; f10 h10), (fun g12 => have h12 := lt_ (hn2 12 (by decide)) g12; f12 h12)⟩)
    refine OnceFrom.cons (fun L b w K hI hi hon hup hK => ?_) ?_
    · obtain ⟨xs, hbe, x64, x65, x66, x67, x63, x68, x69, x70, x13, x14, x15, za0, za1, za2, za3, zn0, zn1, zn2, zn3, zc0, zc1, zc2, zc3, b3, gm, ge, u, hxs, hB, hF⟩ := hI
      subst hxs
      have d4 : L 4 = true := hon 4 (mem_of_elem (by kernel_rfl))
      have HB := hide hB
      have HF := hide hF
      obtain ⟨f0, f1, f2, f3, f3m, f3k, f4, f5, f6, f7, f8, f8a, f8b, f8r, f9, f9a, f9b, f9r, f10, f12⟩ := hF
      have e4 := f4 d4
      subst e4
      have hT63 : b.tmps[63]? = some (.tuple #[.agg #[.slice za0 zn0 zc0, .slice za1 zn1 zc1, .slice za2 zn2 zc2, .slice za3 zn3 zc3], .agg #[.int .i64 0, .int .u64 0], .int .i64 0]) := by rw [hbe]; exact puts_get_in _ _ _ hn hs (i := 4) rfl rfl
      have HBE := hide hbe
      clear hB hbe f0 f1 f2 f3 f3m f3k f4 f5 f6 f7 f8 f8a f8b f8r f9 f9a f9b f9r f10 f12
      rw [if_pos (by rfl)]
      go_simp
      obtain ⟨f0, f1, f2, f3, f3m, f3k, f4, f5, f6, f7, f8, f8a, f8b, f8r, f9, f9a, f9b, f9r, f10, f12⟩ := HF.out
      have hB := HB.out
      refine hK.out _ _ (fun L2 hi2 hn2 => ⟨[x64, x65, x66, x67, (.tuple #[.agg #[.slice za0 zn0 zc0, .slice za1 zn1 zc1, .slice za2 zn2 zc2, .slice za3 zn3 zc3], .agg #[.int .i64 0, .int .u64 0], .int .i64 0]), (.agg #[.slice za0 zn0 zc0, .slice za1 zn1 zc1, .slice za2 zn2 zc2, .slice za3 zn3 zc3]), x69, x70, x13, x14, x15], put_in HBE.out hn rfl 5 _ rfl rfl, x64, x65, x66, x67, (.tuple #[.agg #[.slice za0 zn0 zc0, .slice za1 zn1 zc1, .slice za2 zn2 zc2, .slice za3 zn3 zc3], .agg #[.int .i64 0, .int .u64 0], .int .i64 0]), (.agg #[.slice za0 zn0 zc0, .slice za1 zn1 zc1, .slice za2 zn2 zc2, .slice za3 zn3 zc3]), x69, x70, x13, x14, x15, za0, za1, za2, za3, zn0, zn1, zn2, zn3, zc0, zc1, zc2, zc3, b3, gm, ge, u, rfl, hB, (fun g0 => have h0 := lt_ (hn2 0 (by decide)) g0; f0 h0), (fun g1 => have h1 := lt_ (hn2 1 (by decide)) g1; f1 h1), (fun g2 => have h2 := lt_ (hn2 2 (by decide)) g2; f2 h2), (fun g3 => have h3 := lt_ (hn2 3 (by decide)) g3; f3 h3), (fun g3 => have h3 := lt_ (hn2 3 (by decide)) g3; f3m h3), (fun g3 => have h3 := lt_ (hn2 3 (by decide)) g3; f3k h3), (fun g4 => have h4 := lt_ (hn2 4 (by decide)) g4; rfl), (fun g5 => rfl), (fun g6 => have h6 := lt_ (hn2 6 (by decide)) g6; f6 h6), (fun g7 => have h7 := lt_ (hn2 7 (by decide)) g7; f7 h7), (fun g8 => have h8 := lt_ (hn2 8 (by decide)) g8; f8 h8), (fun g8 => have h8 := lt_ (hn2 8 (by decide)) g8; f8a h8), (fun g8 g3 => have h8 := lt_ (hn2 8 (by decide)) g8; have h3 := lt_ (hn2 3 (by decide)) g3; f8b h8 h3), (fun g8 g10 => have h8 := lt_ (hn2 8 (by decide)) g8; have h10 := lt_ (hn2 10 (by decide)) g10; f8r h8 h10), (fun g9 => have h9 := lt_ (hn2 9 (by decide)) g9; f9 h9), (fun g9 => have h9 := lt_ (hn2 9 (by decide)) g9; f9a h9), (fun g9 g3 => have h9 := lt_ (hn2 9 (by decide)) g9; have h3 := lt_ (hn2 3 (by decide)) g3; f9b h9 h3), (fun g9 => have h9 := lt_ (hn2 9 (by decide)) g9; f9r h9), (fun g10 => have h10 := lt_ (hn2 10 (by decide)) g10; f10 h10), (fun g12 => have h12 := lt_ (hn2 12 (by decide)) g12; f12 h12)⟩)
    refine OnceFrom.cons (fun L b w K hI hi hon hup hK => ?_) ?_
    · obtain ⟨xs, hbe, x64, x65, x66, x67, x63, x68, x69, x70, x13, x14, x15, za0, za1, za2, za3, zn0, zn1, zn2, zn3, zc0, zc1, zc2, zc3, b3, gm, ge, u, hxs, hB, hF⟩ := hI
      subst hxs
      have d4 : L 4 = true := hon 4 (mem_of_elem (by kernel_rfl))
      have HB := hide hB
      have HF := hide hF
      obtain ⟨f0, f1, f2, f3, f3m, f3k, f4, f5, f6, f7, f8, f8a, f8b, f8r, f9, f9a, f9b, f9r, f10, f12⟩ := hF
      have e4 := f4 d4
      subst e4
      have hT63 : b.tmps[63]? = some (.tuple #[.agg #[.slice za0 zn0 zc0, .slice za1 zn1 zc1, .slice za2 zn2 zc2, .slice za3 zn3 zc3], .agg #[.int .i64 0, .int .u64 0], .int .i64 0]) := by rw [hbe]; exact puts_get_in _ _ _ hn hs (i := 4) rfl rfl
      have HBE := hide hbe
      clear hB hbe f0 f1 f2 f3 f3m f3k f4 f5 f6 f7 f8 f8a f8b f8r f9 f9a f9b f9r f10 f12
      rw [if_pos (by rfl)]
      go_simp
      obtain ⟨f0, f1, f2, f3, f3m, f3k, f4, f5, f6, f7, f8, f8a, f8b, f8r, f9, f9a, f9b, f9r, f10, f12⟩ := HF.out
      have hB := HB.out
      refine hK.out _ _ (fun L2 hi2 hn2 => ⟨[x64, x65, x66, x67, (.tuple #[.agg #[.slice za0 zn0 zc0, .slice za1 zn1 zc1, .slice za2 zn2 zc2, .slice za3 zn3 zc3], .agg #[.int .i64 0, .int .u64 0], .int .i64 0]), x68, (.agg #[.int .i64 0, .int .u64 0]), x70, x13, x14, x15], put_in HBE.out hn rfl 6 _ rfl rfl, x64, x65, x66, x67, (.tuple #[.agg #[.slice za0 zn0 zc0, .slice za1 zn1 zc1, .slice za2 zn2 zc2, .slice za3 zn3 zc3], .agg #[.int .i64 0, .int .u64 0], .int .i64 0]), x68, (.agg #[.int .i64 0, .int .u64 0]), x70, x13, x14, x15, za0, za1, za2, za3, zn0, zn1, zn2, zn3, zc0, zc1, zc2, zc3, b3, gm, ge, u, rfl, hB, (fun g0 => have h0 := lt_ (hn2 0 (by decide)) g0; f0 h0), (fun g1 => have h1 := lt_ (hn2 1 (by decide)) g1; f1 h1), (fun g2 => have h2 := lt_ (hn2 2 (by decide)) g2; f2 h2), (fun g3 => have h3 := lt_ (hn2 3 (by decide)) g3; f3 h3), (fun g3 => have h3 := lt_ (hn2 3 (by decide)) g3; f3m h3), (fun g3 => have h3 := lt_ (hn2 3 (by decide)) g3; f3k h3), (fun g4 => have h4 := lt_ (hn2 4 (by decide)) g4; rfl), (fun g5 => have h5 := lt_ (hn2 5 (by decide)) g5; f5 h5), (fun g6 => rfl), (fun g7 => have h7 := lt_ (hn2 7 (by decide)) g7; f7 h7), (fun g8 => have h8 := lt_ (hn2 8 (by decide)) g8; f8 h8), (fun g8 => have h8 := lt_ (hn2 8 (by decide)) g8; f8a h8), (fun g8 g3 => have h8 := lt_ (hn2 8 (by decide)) g8; have h3 := lt_ (hn2 3 (by decide)) g3; f8b h8 h3), (fun g8 g10 => have h8 := lt_ (hn2 8 (by decide)) g8; have h10 := lt_ (hn2 10 (by decide)) g10; f8r h8 h10), (fun g9 => have h9 := lt_ (hn2 9 (by decide)) g9; f9 h9), (fun g9 => have h9 := lt_ (hn2 9 (by decide)) g9; f9a h9), (fun g9 g3 => have h9 := lt_ (hn2 9 (by decide)) g9; have h3 := lt_ (hn2 3 (by decide)) g3; f9b h9 h3), (fun g9 => have h9 := lt_ (hn2 9 (by decide)) g9; f9r h9), (fun g10 => have h10 := lt_ (hn2 10 (by decide)) g10; f10 h10), (fun g12 => have h12 := lt_ (hn2 12 (by decide)) g12; f12 h12)⟩)
    refine OnceFrom.cons (fun L b w K hI hi hon hup hK => ?_) ?_
    · obtain ⟨xs, hbe, x64, x65, x66, x67, x63, x68, x69, x70, x13, x14, x15, za0, za1, za2, za3, zn0, zn1, zn2, zn3, zc0, zc1, zc2, zc3, b3, gm, ge, u, hxs, hB, hF⟩ := hI
      subst hxs
      have d4 : L 4 = true := hon 4 (mem_of_elem (by kernel_rfl))
      have HB := hide hB
      have HF := hide hF
      obtain ⟨f0, f1, f2, f3, f3m, f3k, f4, f5, f6, f7, f8, f8a, f8b, f8r, f9, f9a, f9b, f9r, f10, f12⟩ := hF
      have e4 := f4 d4
      subst e4
      have hT63 : b.tmps[63]? = some (.tuple #[.agg #[.slice za0 zn0 zc0, .slice za1 zn1 zc1, .slice za2 zn2 zc2, .slice za3 zn3 zc3], .agg #[.int .i64 0, .int .u64 0], .int .i64 0]) := by rw [hbe]; exact puts_get_in _ _ _ hn hs (i := 4) rfl rfl
      have HBE := hide hbe
      clear hB hbe f0 f1 f2 f3 f3m f3k f4 f5 f6 f7 f8 f8a f8b f8r f9 f9a f9b f9r f10 f12
      rw [if_pos (by rfl)]
      go_simp
      obtain ⟨f0, f1, f2, f3, f3m, f3k, f4, f5, f6, f7, f8, f8a, f8b, f8r, f9, f9a, f9b, f9r, f10, f12⟩ := HF.out
      have hB := HB.out
      refine hK.out _ _ (fun L2 hi2 hn2 => ⟨[x64, x65, x66, x67, (.tuple #[.agg #[.slice za0 zn0 zc0, .slice za1 zn1 zc1, .slice za2 zn2 zc2, .slice za3 zn3 zc3], .agg #[.int .i64 0, .int .u64 0], .int .i64 0]), x68, x69, (.int .i64 0), x13, x14, x15], put_in HBE.out hn rfl 7 _ rfl rfl, x64, x65, x66, x67, (.tuple #[.agg #[.slice za0 zn0 zc0, .slice za1 zn1 zc1, .slice za2 zn2 zc2, .slice za3 zn3 zc3], .agg #[.int .i64 0, .int .u64 0], .int .i64 0]), x68, x69, (.int .i64 0), x13, x14, x15, za0, za1, za2, za3, zn0, zn1, zn2, zn3, zc0, zc1, zc2, zc3, b3, gm, ge, u, rfl, hB, (fun g0 => have h0 := lt_ (hn2 0 (by decide)) g0; f0 h0), (fun g1 => have h1 := lt_ (hn2 1 (by decide)) g1; f1 h1), (fun g2 => have h2 := lt_ (hn2 2 (by decide)) g2; f2 h2), (fun g3 => have h3 := lt_ (hn2 3 (by decide)) g3; f3 h3), (fun g3 => have h3 := lt_ (hn2 3 (by decide)) g3; f3m h3), (fun g3 => have h3 := lt_ (hn2 3 (by decide)) g3; f3k h3), (fun g4 => have h4 := lt_ (hn2 4 (by decide)) g4; rfl), (fun g5 => have h5 := lt_ (hn2 5 (by decide)) g5; f5 h5), (fun g6 => have h6 := lt_ (hn2 6 (by decide)) g6; f6 h6), (fun g7 => rfl), (fun g8 => have h8 := lt_ (hn2 8 (by decide)) g8; f8 h8), (fun g8 => have h8 := lt_ (hn2 8 (by decide)) g8; f8a h8), (fun g8 g3 => have h8 := lt_ (hn2 8 (by decide)) g8; have h3 := lt_ (hn2 3 (by decide)) g3; f8b h8 h3), (fun g8 g10 => have h8 := lt_ (hn2 8 (by decide)) g8; have h10 := lt_ (hn2 10 (by decide)) g10; f8r h8 h10), (fun g9 => have h9 := lt_ (hn2 9 (by decide)) g9; f9 h9), (fun g9 => have h9 := lt_ (hn2 9 (by decide)) g9; f9a h9), (fun g9 g3 => have h9 := lt_ (hn2 9 (by decide)) g9; have h3 := lt_ (hn2 3 (by decide)) g3; f9b h9 h3), (fun g9 => have h9 := lt_ (hn2 9 (by decide)) g9; f9r h9), (fun g10 => have h10 := lt_ (hn2 10 (by decide)) g10; f10 h10), (fun g12 => have h12 := lt_ (hn2 12 (by decide)) g12; f12 h12)⟩)
    refine OnceFrom.cons (fun L b w K hI hi hon hup hK => ?_) ?_
    · obtain ⟨xs, hbe, x64, x65, x66, x67, x63, x68, x69, x70, x13, x14, x15, za0, za1, za2, za3, zn0, zn1, zn2, zn3, zc0, zc1, zc2, zc3, b3, gm, ge, u, hxs, hB, hF⟩ := hI
      subst hxs
      have u10 : L 10 = false := hup 10 (mem_of_elem (by kernel_rfl))
      have HB := hide hB
      have HF := hide hF
      obtain ⟨f0, f1, f2, f3, f3m, f3k, f4, f5, f6, f7, f8, f8a, f8b, f8r, f9, f9a, f9b, f9r, f10, f12⟩ := hF
      have HBE := hide hbe
      clear hB hbe f0 f1 f2 f3 f3m f3k f4 f5 f6 f7 f8 f8a f8b f8r f9 f9a f9b f9r f10 f12
      rw [if_pos (by rfl)]
      go_simp
      obtain ⟨f0, f1, f2, f3, f3m, f3k, f4, f5, f6, f7, f8, f8a, f8b, f8r, f9, f9a, f9b, f9r, f10, f12⟩ := HF.out
      have hB := HB.out
      have hb : Below w.heap.size w (w.alloc (.cells #[.slice none 0 0, .slice none 0 0, .slice none 0 0, .slice none 0 0] 32)) := (Below.refl _ _).alloc (Nat.le_refl _) _
      refine hK.out _ _ (fun L2 hi2 hn2 => ⟨[x64, x65, x66, x67, x63, x68, x69, x70, (.pointer (some ⟨w.heap.size, 0, none⟩)), x14, x15], put_in HBE.out hn rfl 8 _ rfl rfl, x64, x65, x66, x67, x63, x68, x69, x70, (.pointer (some ⟨w.heap.size, 0, none⟩)), x14, x15, za0, za1, za2, za3, zn0, zn1, zn2, zn3, zc0, zc1, zc2, zc3, b3, w.heap.size, ge, u, rfl, (hB.trans (hb.mono hB.size)), (fun g0 => have h0 := lt_ (hn2 0 (by decide)) g0; f0 h0), (fun g1 => have h1 := lt_ (hn2 1 (by decide)) g1; f1 h1), (fun g2 => have h2 := lt_ (hn2 2 (by decide)) g2; f2 h2), (fun g3 => have h3 := lt_ (hn2 3 (by decide)) g3; f3 h3), (fun g3 => have h3 := lt_ (hn2 3 (by decide)) g3; f3m h3), (fun g3 => have h3 := lt_ (hn2 3 (by decide)) g3; (f3k h3).below hb), (fun g4 => have h4 := lt_ (hn2 4 (by decide)) g4; f4 h4), (fun g5 => have h5 := lt_ (hn2 5 (by decide)) g5; f5 h5), (fun g6 => have h6 := lt_ (hn2 6 (by decide)) g6; f6 h6), (fun g7 => have h7 := lt_ (hn2 7 (by decide)) g7; f7 h7), (fun g8 => rfl), (fun g8 => ⟨hB.size, by simp⟩), (fun g8 g3 => have h3 := lt_ (hn2 3 (by decide)) g3; .inr (f3k h3).1), (fun g8 g10 => have h10 := lt_ (hn2 10 (by decide)) g10; RowAt.new w _ _), (fun g9 => have h9 := lt_ (hn2 9 (by decide)) g9; f9 h9), (fun g9 => have h9 := lt_ (hn2 9 (by decide)) g9; ⟨(f9a h9).1, Nat.lt_of_lt_of_le (f9a h9).2 hb.size⟩), (fun g9 g3 => have h9 := lt_ (hn2 9 (by decide)) g9; have h3 := lt_ (hn2 3 (by decide)) g3; f9b h9 h3), (fun g9 => have h9 := lt_ (hn2 9 (by decide)) g9; (f9r h9).below hb), (fun g10 => have h10 := lt_ (hn2 10 (by decide)) g10; nope h10 u10), (fun g12 => have h12 := lt_ (hn2 12 (by decide)) g12; f12 h12)⟩)
    refine OnceFrom.cons (fun L b w K hI hi hon hup hK => ?_) ?_
    · obtain ⟨xs, hbe, x64, x65, x66, x67, x63, x68, x69, x70, x13, x14, x15, za0, za1, za2, za3, zn0, zn1, zn2, zn3, zc0, zc1, zc2, zc3, b3, gm, ge, u, hxs, hB, hF⟩ := hI
      subst hxs
      have HB := hide hB
      have HF := hide hF
      obtain ⟨f0, f1, f2, f3, f3m, f3k, f4, f5, f6, f7, f8, f8a, f8b, f8r, f9, f9a, f9b, f9r, f10, f12⟩ := hF
      have HBE := hide hbe
      clear hB hbe f0 f1 f2 f3 f3m f3k f4 f5 f6 f7 f8 f8a f8b f8r f9 f9a f9b f9r f10 f12
      rw [if_pos (by rfl)]
      go_simp
      obtain ⟨f0, f1, f2, f3, f3m, f3k, f4, f5, f6, f7, f8, f8a, f8b, f8r, f9, f9a, f9b, f9r, f10, f12⟩ := HF.out
      have hB := HB.out
      have hb : Below w.heap.size w (w.alloc (.cells #[.int .i64 0, .int .u64 0] 43)) := (Below.refl _ _).alloc (Nat.le_refl _) _
      refine hK.out _ _ (fun L2 hi2 hn2 => ⟨[x64, x65, x66, x67, x63, x68, x69, x70, x13, (.pointer (some ⟨w.heap.size, 0, none⟩)), x15], put_in HBE.out hn rfl 9 _ rfl rfl, x64, x65, x66, x67, x63, x68, x69, x70, x13, (.pointer (some ⟨w.heap.size, 0, none⟩)), x15, za0, za1, za2, za3, zn0, zn1, zn2, zn3, zc0, zc1, zc2, zc3, b3, gm, w.heap.size, u, rfl, (hB.trans (hb.mono hB.size)), (fun g0 => have h0 := lt_ (hn2 0 (by decide)) g0; f0 h0), (fun g1 => have h1 := lt_ (hn2 1 (by decide)) g1; f1 h1), (fun g2 => have h2 := lt_ (hn2 2 (by decide)) g2; f2 h2), (fun g3 => have h3 := lt_ (hn2 3 (by decide)) g3; f3 h3), (fun g3 => have h3 := lt_ (hn2 3 (by decide)) g3; f3m h3), (fun g3 => have h3 := lt_ (hn2 3 (by decide)) g3; (f3k h3).below hb), (fun g4 => have h4 := lt_ (hn2 4 (by decide)) g4; f4 h4), (fun g5 => have h5 := lt_ (hn2 5 (by decide)) g5; f5 h5), (fun g6 => have h6 := lt_ (hn2 6 (by decide)) g6; f6 h6), (fun g7 => have h7 := lt_ (hn2 7 (by decide)) g7; f7 h7), (fun g8 => have h8 := lt_ (hn2 8 (by decide)) g8; f8 h8), (fun g8 => have h8 := lt_ (hn2 8 (by decide)) g8; ⟨(f8a h8).1, Nat.lt_of_lt_of_le (f8a h8).2 hb.size⟩), (fun g8 g3 => have h8 := lt_ (hn2 8 (by decide)) g8; have h3 := lt_ (hn2 3 (by decide)) g3; f8b h8 h3), (fun g8 g10 => have h8 := lt_ (hn2 8 (by decide)) g8; have h10 := lt_ (hn2 10 (by decide)) g10; (f8r h8 h10).below hb), (fun g9 => rfl), (fun g9 => ⟨hB.size, by simp⟩), (fun g9 g3 => have h3 := lt_ (hn2 3 (by decide)) g3; .inr (f3k h3).1), (fun g9 => RowAt.new w _ _), (fun g10 => have h10 := lt_ (hn2 10 (by decide)) g10; (f10 h10).below hb), (fun g12 => have h12 := lt_ (hn2 12 (by decide)) g12; f12 h12)⟩)
    refine OnceFrom.cons (fun L b w K hI hi hon hup hK => ?_) ?_
    · obtain ⟨xs, hbe, x64, x65, x66, x67, x63, x68, x69, x70, x13, x14, x15, za0, za1, za2, za3, zn0, zn1, zn2, zn3, zc0, zc1, zc2, zc3, b3, gm, ge, u, hxs, hB, hF⟩ := hI
      subst hxs
      have d8 : L 8 = true := hon 8 (mem_of_elem (by kernel_rfl))
      have d5 : L 5 = true := hon 5 (mem_of_elem (by kernel_rfl))
      have HB := hide hB
      have HF := hide hF
      obtain ⟨f0, f1, f2, f3, f3m, f3k, f4, f5, f6, f7, f8, f8a, f8b, f8r, f9, f9a, f9b, f9r, f10, f12⟩ := hF
      have e8 := f8 d8
      have e5 := f5 d5
      subst e8
      subst e5
      have R8 := f8r d8 hi
      obtain ⟨q0, q1, q2, q3⟩ := row4 R8
      have ql := R8.lt
      have p0 := R8.frozen 0
      have p1 := R8.frozen 1
      have p2 := R8.frozen 2
      have p3 := R8.frozen 3
      replace R8 := hide R8
      have hT13 : b.tmps[13]? = some (.pointer (some ⟨gm, 0, none⟩)) := by rw [hbe]; exact puts_get_in _ _ _ hn hs (i := 8) rfl rfl
      have hT68 : b.tmps[68]? = some (.agg #[.slice za0 zn0 zc0, .slice za1 zn1 zc1, .slice za2 zn2 zc2, .slice za3 zn3 zc3]) := by rw [hbe]; exact puts_get_in _ _ _ hn hs (i := 5) rfl rfl
      have HBE := hide hbe
      clear hB hbe f0 f1 f2 f3 f3m f3k f4 f5 f6 f7 f8 f8a f8b f8r f9 f9a f9b f9r f10 f12
      rw [if_pos (by rfl)]
      go_simp
      obtain ⟨f0, f1, f2, f3, f3m, f3k, f4, f5, f6, f7, f8, f8a, f8b, f8r, f9, f9a, f9b, f9r, f10, f12⟩ := HF.out
      have hB := HB.out
      have HL := laidM4_of (n := w0.heap.size) (v0 := .slice za0 zn0 zc0) (v1 := .slice za1 zn1 zc1) (v2 := .slice za2 zn2 zc2) (v3 := .slice za3 zn3 zc3) R8.out (f8a d8).1
      refine hK.out _ _ (fun L2 hi2 hn2 => ⟨[x64, x65, x66, x67, x63, (.agg #[.slice za0 zn0 zc0, .slice za1 zn1 zc1, .slice za2 zn2 zc2, .slice za3 zn3 zc3]), x69, x70, (.pointer (some ⟨gm, 0, none⟩)), x14, x15], HBE.out, x64, x65, x66, x67, x63, (.agg #[.slice za0 zn0 zc0, .slice za1 zn1 zc1, .slice za2 zn2 zc2, .slice za3 zn3 zc3]), x69, x70, (.pointer (some ⟨gm, 0, none⟩)), x14, x15, za0, za1, za2, za3, zn0, zn1, zn2, zn3, zc0, zc1, zc2, zc3, b3, gm, ge, u, rfl, (hB.trans HL.2.2), (fun g0 => have h0 := lt_ (hn2 0 (by decide)) g0; f0 h0), (fun g1 => have h1 := lt_ (hn2 1 (by decide)) g1; f1 h1), (fun g2 => have h2 := lt_ (hn2 2 (by decide)) g2; f2 h2), (fun g3 => have h3 := lt_ (hn2 3 (by decide)) g3; f3 h3), (fun g3 => have h3 := lt_ (hn2 3 (by decide)) g3; f3m h3), (fun g3 => have h3 := lt_ (hn2 3 (by decide)) g3; (f3k h3).store (f8b d8 h3) HL.2.1 HL.2.2.size), (fun g4 => have h4 := lt_ (hn2 4 (by decide)) g4; f4 h4), (fun g5 => have h5 := lt_ (hn2 5 (by decide)) g5; rfl), (fun g6 => have h6 := lt_ (hn2 6 (by decide)) g6; f6 h6), (fun g7 => have h7 := lt_ (hn2 7 (by decide)) g7; f7 h7), (fun g8 => have h8 := lt_ (hn2 8 (by decide)) g8; rfl), (fun g8 => have h8 := lt_ (hn2 8 (by decide)) g8; ⟨(f8a h8).1, Nat.lt_of_lt_of_le (f8a h8).2 HL.2.2.size⟩), (fun g8 g3 => have h8 := lt_ (hn2 8 (by decide)) g8; have h3 := lt_ (hn2 3 (by decide)) g3; f8b h8 h3), (fun g8 g10 => nope hi2 g10), (fun g9 => have h9 := lt_ (hn2 9 (by decide)) g9; f9 h9), (fun g9 => have h9 := lt_ (hn2 9 (by decide)) g9; ⟨(f9a h9).1, Nat.lt_of_lt_of_le (f9a h9).2 HL.2.2.size⟩), (fun g9 g3 => have h9 := lt_ (hn2 9 (by decide)) g9; have h3 := lt_ (hn2 3 (by decide)) g3; f9b h9 h3), (fun g9 => have h9 := lt_ (hn2 9 (by decide)) g9; (HL.2.1 _ (fun e => by have h1 := f9r h9; rw [e] at h1; exact absurd (row_typ h1 R8.out) (by decide))).trans (f9r h9)), (fun g10 => HL.1), (fun g12 => have h12 := lt_ (hn2 12 (by decide)) g12; f12 h12)⟩)
    refine OnceFrom.cons (fun L b w K hI hi hon hup hK => ?_) ?_
    · obtain ⟨xs, hbe, x64, x65, x66, x67, x63, x68, x69, x70, x13, x14, x15, za0, za1, za2, za3, zn0, zn1, zn2, zn3, zc0, zc1, zc2, zc3, b3, gm, ge, u, hxs, hB, hF⟩ := hI
      subst hxs
      have d9 : L 9 = true := hon 9 (mem_of_elem (by kernel_rfl))
      have d6 : L 6 = true := hon 6 (mem_of_elem (by kernel_rfl))
      have d10 : L 10 = true := hon 10 (mem_of_elem (by kernel_rfl))
      have HB := hide hB
      have HF := hide hF
      obtain ⟨f0, f1, f2, f3, f3m, f3k, f4, f5, f6, f7, f8, f8a, f8b, f8r, f9, f9a, f9b, f9r, f10, f12⟩ := hF
      have e9 := f9 d9
      have e6 := f6 d6
      subst e9
      subst e6
      have R9 := f9r d9
      have q0 := row20 R9
      have q1 := row21 R9
      have ql := R9.lt
      have p0 := R9.frozen 0
      have p1 := R9.frozen 1
      replace R9 := hide R9
      have hT14 : b.tmps[14]? = some (.pointer (some ⟨ge, 0, none⟩)) := by rw [hbe]; exact puts_get_in _ _ _ hn hs (i := 9) rfl rfl
      have hT69 : b.tmps[69]? = some (.agg #[.int .i64 0, .int .u64 0]) := by rw [hbe]; exact puts_get_in _ _ _ hn hs (i := 6) rfl rfl
      have HBE := hide hbe
      clear hB hbe f0 f1 f2 f3 f3m f3k f4 f5 f6 f7 f8 f8a f8b f8r f9 f9a f9b f9r f10 f12
      rw [if_pos (by rfl)]
      go_simp
      obtain ⟨f0, f1, f2, f3, f3m, f3k, f4, f5, f6, f7, f8, f8a, f8b, f8r, f9, f9a, f9b, f9r, f10, f12⟩ := HF.out
      have hB := HB.out
      have HL := laidE2_of (v0 := .int .i64 0) (v1 := .int .u64 0) R9.out (f9a d9).1
      refine hK.out _ _ (fun L2 hi2 hn2 => ⟨[x64, x65, x66, x67, x63, x68, (.agg #[.int .i64 0, .int .u64 0]), x70, x13, (.pointer (some ⟨ge, 0, none⟩)), x15], HBE.out, x64, x65, x66, x67, x63, x68, (.agg #[.int .i64 0, .int .u64 0]), x70, x13, (.pointer (some ⟨ge, 0, none⟩)), x15, za0, za1, za2, za3, zn0, zn1, zn2, zn3, zc0, zc1, zc2, zc3, b3, gm, ge, u, rfl, (hB.trans HL.2.2), (fun g0 => have h0 := lt_ (hn2 0 (by decide)) g0; f0 h0), (fun g1 => have h1 := lt_ (hn2 1 (by decide)) g1; f1 h1), (fun g2 => have h2 := lt_ (hn2 2 (by decide)) g2; f2 h2), (fun g3 => have h3 := lt_ (hn2 3 (by decide)) g3; f3 h3), (fun g3 => have h3 := lt_ (hn2 3 (by decide)) g3; f3m h3), (fun g3 => have h3 := lt_ (hn2 3 (by decide)) g3; (f3k h3).store (f9b d9 h3) HL.2.1 HL.2.2.size), (fun g4 => have h4 := lt_ (hn2 4 (by decide)) g4; f4 h4), (fun g5 => have h5 := lt_ (hn2 5 (by decide)) g5; f5 h5), (fun g6 => have h6 := lt_ (hn2 6 (by decide)) g6; rfl), (fun g7 => have h7 := lt_ (hn2 7 (by decide)) g7; f7 h7), (fun g8 => have h8 := lt_ (hn2 8 (by decide)) g8; f8 h8), (fun g8 => have h8 := lt_ (hn2 8 (by decide)) g8; ⟨(f8a h8).1, Nat.lt_of_lt_of_le (f8a h8).2 HL.2.2.size⟩), (fun g8 g3 => have h8 := lt_ (hn2 8 (by decide)) g8; have h3 := lt_ (hn2 3 (by decide)) g3; f8b h8 h3), (fun g8 g10 => have h8 := lt_ (hn2 8 (by decide)) g8; have h10 := lt_ (hn2 10 (by decide)) g10; nope d10 h10), (fun g9 => have h9 := lt_ (hn2 9 (by decide)) g9; rfl), (fun g9 => have h9 := lt_ (hn2 9 (by decide)) g9; ⟨(f9a h9).1, Nat.lt_of_lt_of_le (f9a h9).2 HL.2.2.size⟩), (fun g9 g3 => have h9 := lt_ (hn2 9 (by decide)) g9; have h3 := lt_ (hn2 3 (by decide)) g3; f9b h9 h3), (fun g9 => have h9 := lt_ (hn2 9 (by decide)) g9; HL.1), (fun g10 => have h10 := lt_ (hn2 10 (by decide)) g10; (HL.2.1 _ (fun e => by have h1 := f10 h10; rw [e] at h1; exact absurd (row_typ R9.out h1) (by decide))).trans (f10 h10)), (fun g12 => have h12 := lt_ (hn2 12 (by decide)) g12; f12 h12)⟩)
    refine OnceFrom.cons (fun L b w K hI hi hon hup hK => ?_) ?_
    · obtain ⟨xs, hbe, x64, x65, x66, x67, x63, x68, x69, x70, x13, x14, x15, za0, za1, za2, za3, zn0, zn1, zn2, zn3, zc0, zc1, zc2, zc3, b3, gm, ge, u, hxs, hB, hF⟩ := hI
      subst hxs
      have d7 : L 7 = true := hon 7 (mem_of_elem (by kernel_rfl))
      have HB := hide hB
      have HF := hide hF
      obtain ⟨f0, f1, f2, f3, f3m, f3k, f4, f5, f6, f7, f8, f8a, f8b, f8r, f9, f9a, f9b, f9r, f10, f12⟩ := hF
      have e7 := f7 d7
      subst e7
      have hT70 : b.tmps[70]? = some (.int .i64 0) := by rw [hbe]; exact puts_get_in _ _ _ hn hs (i := 7) rfl rfl
      have HBE := hide hbe
      clear hB hbe f0 f1 f2 f3 f3m f3k f4 f5 f6 f7 f8 f8a f8b f8r f9 f9a f9b f9r f10 f12
      rw [if_pos (by rfl)]
      go_simp
      obtain ⟨f0, f1, f2, f3, f3m, f3k, f4, f5, f6, f7, f8, f8a, f8b, f8r, f9, f9a, f9b, f9r, f10, f12⟩ := HF.out
      have hB := HB.out
      refine hK.out _ _ (fun L2 hi2 hn2 => ⟨[x64, x65, x66, x67, x63, x68, x69, (.int .i64 0), x13, x14, (.int .i64 0)], put_in HBE.out hn rfl 10 _ rfl rfl, x64, x65, x66, x67, x63, x68, x69, (.int .i64 0), x13, x14, (.int .i64 0), za0, za1, za2, za3, zn0, zn1, zn2, zn3, zc0, zc1, zc2, zc3, b3, gm, ge, u, rfl, hB, (fun g0 => have h0 := lt_ (hn2 0 (by decide)) g0; f0 h0), (fun g1 => have h1 := lt_ (hn2 1 (by decide)) g1; f1 h1), (fun g2 => have h2 := lt_ (hn2 2 (by decide)) g2; f2 h2), (fun g3 => have h3 := lt_ (hn2 3 (by decide)) g3; f3 h3), (fun g3 => have h3 := lt_ (hn2 3 (by decide)) g3; f3m h3), (fun g3 => have h3 := lt_ (hn2 3 (by decide)) g3; f3k h3), (fun g4 => have h4 := lt_ (hn2 4 (by decide)) g4; f4 h4), (fun g5 => have h5 := lt_ (hn2 5 (by decide)) g5; f5 h5), (fun g6 => have h6 := lt_ (hn2 6 (by decide)) g6; f6 h6), (fun g7 => have h7 := lt_ (hn2 7 (by decide)) g7; rfl), (fun g8 => have h8 := lt_ (hn2 8 (by decide)) g8; f8 h8), (fun g8 => have h8 := lt_ (hn2 8 (by decide)) g8; f8a h8), (fun g8 g3 => have h8 := lt_ (hn2 8 (by decide)) g8; have h3 := lt_ (hn2 3 (by decide)) g3; f8b h8 h3), (fun g8 g10 => have h8 := lt_ (hn2 8 (by decide)) g8; have h10 := lt_ (hn2 10 (by decide)) g10; f8r h8 h10), (fun g9 => have h9 := lt_ (hn2 9 (by decide)) g9; f9 h9), (fun g9 => have h9 := lt_ (hn2 9 (by decide)) g9; f9a h9), (fun g9 g3 => have h9 := lt_ (hn2 9 (by decide)) g9; have h3 := lt_ (hn2 3 (by decide)) g3; f9b h9 h3), (fun g9 => have h9 := lt_ (hn2 9 (by decide)) g9; f9r h9), (fun g10 => have h10 := lt_ (hn2 10 (by decide)) g10; f10 h10), (fun g12 => rfl)⟩)
    exact trivial
  · intro L xs w hL hR
    obtain ⟨x64, x65, x66, x67, x63, x68, x69, x70, x13, x14, x15, za0, za1, za2, za3, zn0, zn1, zn2, zn3, zc0, zc1, zc2, zc3, b3, gm, ge, u, hxs, hB, f0, f1, f2, f3, f3m, f3k, f4, f5, f6, f7, f8, f8a, f8b, f8r, f9, f9a, f9b, f9r, f10, f12⟩ := hR
    subst hxs
    have d0 : L 0 = true := hL 0 (by decide)
    have d1 : L 1 = true := hL 1 (by decide)
    have d2 : L 2 = true := hL 2 (by decide)
    have d3 : L 3 = true := hL 3 (by decide)
    have d4 : L 4 = true := hL 4 (by decide)
    have d5 : L 5 = true := hL 5 (by decide)
    have d6 : L 6 = true := hL 6 (by decide)
    have d7 : L 7 = true := hL 7 (by decide)
    have d8 : L 8 = true := hL 8 (by decide)
    have d9 : L 9 = true := hL 9 (by decide)
    have d10 : L 10 = true := hL 10 (by decide)
    have d11 : L 11 = true := hL 11 (by decide)
    have d12 : L 12 = true := hL 12 (by decide)
    have e8 := f8 d8
    subst e8
    have e9 := f9 d9
    subst e9
    have e12 := f12 d12
    subst e12
    refine hQ x64 x65 x66 x67 x63 x68 x69 x70 gm ge za0 za1 za2 za3 zn0 zn1 zn2 zn3 zc0 zc1 zc2 zc3 w hB (f10 d10) (((f3m d3).other (f3k d3).1 (f3k d3).2).up (Nat.zero_le _))
set_option maxRecDepth 100000 in
set_option maxHeartbeats 16000000 in
theorem wk_r7 {w0 : World} {g0 g1 B0 : Nat} {ya0 ya1 ya2 ya3 : Option Addr} {yn0 yn1 yn2 yn3 yc0 yc1 yc2 yc3 : Nat} (R0 : RowAt w0 g0 32 #[.slice ya0 yn0 yc0, .slice ya1 yn1 yc1, .slice ya2 yn2 yc2, .slice ya3 yn3 yc3]) (R1 : RowAt w0 g1 43 #[.int .i64 0, .int .u64 0]) (M0 : MonOut B0 w0 (.agg #[.slice ya0 yn0 yc0, .slice ya1 yn1 yc1, .slice ya2 yn2 yc2, .slice ya3 yn3 yc3]) wk4) (a : Act) (Q : Exit → Act → World → Prop) (id : Nat) (hsz : 78 < a.tmps.size) (hA13 : a.tmps[13]? = some (.pointer (some ⟨g0, 0, none⟩))) (hA2 : a.tmps[2]? = some (.pointer (some ⟨g1, 0, none⟩))) (ops : Array Oper) (hops : opsAt Try.f7 7 = some ops) (hQ : ∀ (x72 : Value) (x73 : Value) (x74 : Value) (x75 : Value) (x71 : Value) (x76 : Value) (x77 : Value) (x78 : Value) (gm ge : Nat) (za0 za1 za2 za3 : Option Addr) (zn0 zn1 zn2 zn3 zc0 zc1 zc2 zc3 : Nat) (w : World), Below w0.heap.size w0 w → RowAt w gm 32 #[.slice za0 zn0 zc0, .slice za1 zn1 zc1, .slice za2 zn2 zc2, .slice za3 zn3 zc3] → MonOut 0 w (.agg #[.slice za0 zn0 zc0, .slice za1 zn1 zc1, .slice za2 zn2 zc2, .slice za3 zn3 zc3]) mon0 → Q .normal (puts a (([72, 73, 74, 75, 71, 76, 77, 78, 16, 17, 18] : List Nat).zip [x72, x73, x74, x75, x71, x76, x77, x78, (.pointer (some ⟨gm, 0, none⟩)), (.pointer (some ⟨ge, 0, none⟩)), .int .i64 4])) w) : (Code.region id ops true).wp Try.prog Q a w0 := by
  have hn : ([72, 73, 74, 75, 71, 76, 77, 78, 16, 17, 18] : List Nat).Nodup := by decide
  have hs : ∀ d ∈ ([72, 73, 74, 75, 71, 76, 77, 78, 16, 17, 18] : List Nat), d < a.tmps.size := fun d hd => Nat.lt_of_le_of_lt ((by decide : ∀ d ∈ ([72, 73, 74, 75, 71, 76, 77, 78, 16, 17, 18] : List Nat), d ≤ 78) d hd) hsz
  conv at hops => lhs; whnf
  injection hops with hops
  subst hops
  refine wp_region_slots [72, 73, 74, 75, 71, 76, 77, 78, 16, 17, 18] (fun L xs w => ∃ x72 : Value, ∃ x73 : Value, ∃ x74 : Value, ∃ x75 : Value, ∃ x71 : Value, ∃ x76 : Value, ∃ x77 : Value, ∃ x78 : Value, ∃ x16 : Value, ∃ x17 : Value, ∃ x18 : Value, ∃ za0 za1 za2 za3 : Option Addr, ∃ zn0 zn1 zn2 zn3 zc0 zc1 zc2 zc3 : Nat, ∃ b3 gm ge : Nat, ∃ u : World, xs = [x72, x73, x74, x75, x71, x76, x77, x78, x16, x17, x18] ∧ Below w0.heap.size w0 w ∧ (L 0 = true → x72 = .agg #[.slice ya0 yn0 yc0, .slice ya1 yn1 yc1, .slice ya2 yn2 yc2, .slice ya3 yn3 yc3]) ∧ (L 1 = true → x73 = .agg #[.int .i64 0, .int .u64 0]) ∧ (L 2 = true → x74 = .agg #[.int .i64 2, .int .i64 1, .int .i64 0, .int .u64 0]) ∧ (L 3 = true → x75 = .tuple #[.agg #[.slice za0 zn0 zc0, .slice za1 zn1 zc1, .slice za2 zn2 zc2, .slice za3 zn3 zc3], .agg #[.int .i64 0, .int .u64 0], .int .i64 4]) ∧ (L 3 = true → MonOut b3 u (.agg #[.slice za0 zn0 zc0, .slice za1 zn1 zc1, .slice za2 zn2 zc2, .slice za3 zn3 zc3]) mon0) ∧ (L 3 = true → Keeps b3 u w) ∧ (L 4 = true → x71 = .tuple #[.agg #[.slice za0 zn0 zc0, .slice za1 zn1 zc1, .slice za2 zn2 zc2, .slice za3 zn3 zc3], .agg #[.int .i64 0, .int .u64 0], .int .i64 4]) ∧ (L 5 = true → x76 = .agg #[.slice za0 zn0 zc0, .slice za1 zn1 zc1, .slice za2 zn2 zc2, .slice za3 zn3 zc3]) ∧ (L 6 = true → x77 = .agg #[.int .i64 0, .int .u64 0]) ∧ (L 7 = true → x78 = .int .i64 4) ∧ (L 8 = true → x16 = .pointer (some ⟨gm, 0, none⟩)) ∧ (L 8 = true → w0.heap.size ≤ gm ∧ gm < w.heap.size) ∧ (L 8 = true → L 3 = true → gm < b3 ∨ u.heap.size ≤ gm) ∧ (L 8 = true → L 10 = false → RowAt w gm 32 #[.slice none 0 0, .slice none 0 0, .slice none 0 0, .slice none 0 0]) ∧ (L 9 = true → x17 = .pointer (some ⟨ge, 0, none⟩)) ∧ (L 9 = true → w0.heap.size ≤ ge ∧ ge < w.heap.size) ∧ (L 9 = true → L 3 = true → ge < b3 ∨ u.heap.size ≤ ge) ∧ (L 9 = true → RowAt w ge 43 #[.int .i64 0, .int .u64 0]) ∧ (L 10 = true → RowAt w gm 32 #[.slice za0 zn0 zc0, .slice za1 zn1 zc1, .slice za2 zn2 zc2, .slice za3 zn3 zc3]) ∧ (L 12 = true → x18 = .int .i64 4)) (by kernel_rfl) (by kernel_rfl) ?_ ?_ ?_
  · exact ⟨_, _, _, _, _, _, _, _, _, _, _, none, none, none, none, 0, 0, 0, 0, 0, 0, 0, 0, 0, 0, 0, w0, rfl, (Below.refl _ _).drew, fun h => nope h rfl, fun h => nope h rfl, fun h => nope h rfl, fun h => nope h rfl, fun h => nope h rfl, fun h => nope h rfl, fun h => nope h rfl, fun h => nope h rfl, fun h => nope h rfl, fun h => nope h rfl, fun h => nope h rfl, fun h => nope h rfl, fun h => nope h rfl, fun h => nope h rfl, fun h => nope h rfl, fun h => nope h rfl, fun h => nope h rfl, fun h => nope h rfl, fun h => nope h rfl, fun h => nope h rfl⟩
  · refine OnceFrom.cons (fun L b w K hI hi hon hup hK => ?_) ?_
    · obtain ⟨xs, hbe, x72, x73, x74, x75, x71, x76, x77, x78, x16, x17, x18, za0, za1, za2, za3, zn0, zn1, zn2, zn3, zc0, zc1, zc2, zc3, b3, gm, ge, u, hxs, hB, hF⟩ := hI
      subst hxs
      have HB := hide hB
      have HF := hide hF
      obtain ⟨f0, f1, f2, f3, f3m, f3k, f4, f5, f6, f7, f8, f8a, f8b, f8r, f9, f9a, f9b, f9r, f10, f12⟩ := hF
      obtain ⟨c0, c1, c2, c3⟩ := row4 R0
      have q0 := kept hB c0
      have q1 := kept hB c1
      have q2 := kept hB c2
      have q3 := kept hB c3
      clear c0 c1 c2 c3
      have hT13 : b.tmps[13]? = some (.pointer (some ⟨g0, 0, none⟩)) := by rw [hbe]; exact (puts_get_out _ _ _ (by decide)).trans hA13
      have HBE := hide hbe
      clear hB hbe f0 f1 f2 f3 f3m f3k f4 f5 f6 f7 f8 f8a f8b f8r f9 f9a f9b f9r f10 f12
      rw [if_pos (by rfl)]
      go_simp
      obtain ⟨f0, f1, f2, f3, f3m, f3k, f4, f5, f6, f7, f8, f8a, f8b, f8r, f9, f9a, f9b, f9r, f10, f12⟩ := HF.out
      have hB := HB.out
      refine hK.out _ _ (fun L2 hi2 hn2 => ⟨[(.agg #[.slice ya0 yn0 yc0, .slice ya1 yn1 yc1, .slice ya2 yn2 yc2, .slice ya3 yn3 yc3]), x73, x74, x75, x71, x76, x77, x78, x16, x17, x18], put_in HBE.out hn rfl 0 _ rfl rfl, (.agg #[.slice ya0 yn0 yc0, .slice ya1 yn1 yc1, .slice ya2 yn2 yc2, .slice ya3 yn3 yc3]), x73, x74, x75, x71, x76, x77, x78, x16, x17, x18, za0, za1, za2, za3, zn0, zn1, zn2, zn3, zc0, zc1, zc2, zc3, b3, gm, ge, u, rfl, hB, (fun g0 => rfl), (fun g1 => have h1 := lt_ (hn2 1 (by decide)) g1; f1 h1), (fun g2 => have h2 := lt_ (hn2 2 (by decide)) g2; f2 h2), (fun g3 => have h3 := lt_ (hn2 3 (by decide)) g3; f3 h3), (fun g3 => have h3 := lt_ (hn2 3 (by decide)) g3; f3m h3), (fun g3 => have h3 := lt_ (hn2 3 (by decide)) g3; f3k h3), (fun g4 => have h4 := lt_ (hn2 4 (by decide)) g4; f4 h4), (fun g5 => have h5 := lt_ (hn2 5 (by decide)) g5; f5 h5), (fun g6 => have h6 := lt_ (hn2 6 (by decide)) g6; f6 h6), (fun g7 => have h7 := lt_ (hn2 7 (by decide)) g7; f7 h7), (fun g8 => have h8 := lt_ (hn2 8 (by decide)) g8; f8 h8), (fun g8 => have h8 := lt_ (hn2 8 (by decide)) g8; f8a h8), (fun g8 g3 => have h8 := lt_ (hn2 8 (by decide)) g8; have h3 := lt_ (hn2 3 (by decide)) g3; f8b h8 h3), (fun g8 g10 => have h8 := lt_ (hn2 8 (by decide)) g8; have h10 := lt_ (hn2 10 (by decide)) g10; f8r h8 h10), (fun g9 => have h9 := lt_ (hn2 9 (by decide)) g9; f9 h9), (fun g9 => have h9 := lt_ (hn2 9 (by decide)) g9; f9a h9), (fun g9 g3 => have h9 := lt_ (hn2 9 (by decide)) g9; have h3 := lt_ (hn2 3 (by decide)) g3; f9b h9 h3), (fun g9 => have h9 := lt_ (hn2 9 (by decide)) g9; f9r h9), (fun g10 => have h10 := lt_ (hn2 10 (by decide)) g10; f10 h10), (fun g12 => have h12 := lt_ (hn2 12 (by decide)) g12; f12 h12)⟩)
    refine OnceFrom.cons (fun L b w K hI hi hon hup hK => ?_) ?_
    · obtain ⟨xs, hbe, x72, x73, x74, x75, x71, x76, x77, x78, x16, x17, x18, za0, za1, za2, za3, zn0, zn1, zn2, zn3, zc0, zc1, zc2, zc3, b3, gm, ge, u, hxs, hB, hF⟩ := hI
      subst hxs
      have HB := hide hB
      have HF := hide hF
      obtain ⟨f0, f1, f2, f3, f3m, f3k, f4, f5, f6, f7, f8, f8a, f8b, f8r, f9, f9a, f9b, f9r, f10, f12⟩ := hF
      have q0 := kept hB (row20 R1)
      have q1 := kept hB (row21 R1)
      have hT2 : b.tmps[2]? = some (.pointer (some ⟨g1, 0, none⟩)) := by rw [hbe]; exact (puts_get_out _ _ _ (by decide)).trans hA2
      have HBE := hide hbe
      clear hB hbe f0 f1 f2 f3 f3m f3k f4 f5 f6 f7 f8 f8a f8b f8r f9 f9a f9b f9r f10 f12
      rw [if_pos (by rfl)]
      go_simp
      obtain ⟨f0, f1, f2, f3, f3m, f3k, f4, f5, f6, f7, f8, f8a, f8b, f8r, f9, f9a, f9b, f9r, f10, f12⟩ := HF.out
      have hB := HB.out
      refine hK.out _ _ (fun L2 hi2 hn2 => ⟨[x72, (.agg #[.int .i64 0, .int .u64 0]), x74, x75, x71, x76, x77, x78, x16, x17, x18], put_in HBE.out hn rfl 1 _ rfl rfl, x72, (.agg #[.int .i64 0, .int .u64 0]), x74, x75, x71, x76, x77, x78, x16, x17, x18, za0, za1, za2, za3, zn0, zn1, zn2, zn3, zc0, zc1, zc2, zc3, b3, gm, ge, u, rfl, hB, (fun g0 => have h0 := lt_ (hn2 0 (by decide)) g0; f0 h0), (fun g1 => rfl), (fun g2 => have h2 := lt_ (hn2 2 (by decide)) g2; f2 h2), (fun g3 => have h3 := lt_ (hn2 3 (by decide)) g3; f3 h3), (fun g3 => have h3 := lt_ (hn2 3 (by decide)) g3; f3m h3), (fun g3 => have h3 := lt_ (hn2 3 (by decide)) g3; f3k h3), (fun g4 => have h4 := lt_ (hn2 4 (by decide)) g4; f4 h4), (fun g5 => have h5 := lt_ (hn2 5 (by decide)) g5; f5 h5), (fun g6 => have h6 := lt_ (hn2 6 (by decide)) g6; f6 h6), (fun g7 => have h7 := lt_ (hn2 7 (by decide)) g7; f7 h7), (fun g8 => have h8 := lt_ (hn2 8 (by decide)) g8; f8 h8), (fun g8 => have h8 := lt_ (hn2 8 (by decide)) g8; f8a h8), (fun g8 g3 => have h8 := lt_ (hn2 8 (by decide)) g8; have h3 := lt_ (hn2 3 (by decide)) g3; f8b h8 h3), (fun g8 g10 => have h8 := lt_ (hn2 8 (by decide)) g8; have h10 := lt_ (hn2 10 (by decide)) g10; f8r h8 h10), (fun g9 => have h9 := lt_ (hn2 9 (by decide)) g9; f9 h9), (fun g9 => have h9 := lt_ (hn2 9 (by decide)) g9; f9a h9), (fun g9 g3 => have h9 := lt_ (hn2 9 (by decide)) g9; have h3 := lt_ (hn2 3 (by decide)) g3; f9b h9 h3), (fun g9 => have h9 := lt_ (hn2 9 (by decide)) g9; f9r h9), (fun g10 => have h10 := lt_ (hn2 10 (by decide)) g10; f10 h10), (fun g12 => have h12 := lt_ (hn2 12 (by decide)) g12; f12 h12)⟩)
    refine OnceFrom.cons (fun L b w K hI hi hon hup hK => ?_) ?_
    · obtain ⟨xs, hbe, x72, x73, x74, x75, x71, x76, x77, x78, x16, x17, x18, za0, za1, za2, za3, zn0, zn1, zn2, zn3, zc0, zc1, zc2, zc3, b3, gm, ge, u, hxs, hB, hF⟩ := hI
      subst hxs
      have d1 : L 1 = true := hon 1 (mem_of_elem (by kernel_rfl))
      have HB := hide hB
      have HF := hide hF
      obtain ⟨f0, f1, f2, f3, f3m, f3k, f4, f5, f6, f7, f8, f8a, f8b, f8r, f9, f9a, f9b, f9r, f10, f12⟩ := hF
      have e1 := f1 d1
      subst e1
      have hT73 : b.tmps[73]? = some (.agg #[.int .i64 0, .int .u64 0]) := by rw [hbe]; exact puts_get_in _ _ _ hn hs (i := 1) rfl rfl
      have HBE := hide hbe
      clear hB hbe f0 f1 f2 f3 f3m f3k f4 f5 f6 f7 f8 f8a f8b f8r f9 f9a f9b f9r f10 f12
      rw [if_pos (by rfl)]
      go_simp
      with_reducible refine (watch_any 2 1 0 0 w).mono ?_
      rintro e w2 ⟨rfl, hb⟩
      obtain ⟨f0, f1, f2, f3, f3m, f3k, f4, f5, f6, f7, f8, f8a, f8b, f8r, f9, f9a, f9b, f9r, f10, f12⟩ := HF.out
      have hB := HB.out
      refine hK.out _ _ (fun L2 hi2 hn2 => ⟨[x72, (.agg #[.int .i64 0, .int .u64 0]), (.agg #[.int .i64 2, .int .i64 1, .int .i64 0, .int .u64 0]), x75, x71, x76, x77, x78, x16, x17, x18], put_in HBE.out hn rfl 2 _ rfl rfl, x72, (.agg #[.int .i64 0, .int .u64 0]), (.agg #[.int .i64 2, .int .i64 1, .int .i64 0, .int .u64 0]), x75, x71, x76, x77, x78, x16, x17, x18, za0, za1, za2, za3, zn0, zn1, zn2, zn3, zc0, zc1, zc2, zc3, b3, gm, ge, u, rfl, (hB.trans (hb.mono hB.size)), (fun g0 => have h0 := lt_ (hn2 0 (by decide)) g0; f0 h0), (fun g1 => have h1 := lt_ (hn2 1 (by decide)) g1; rfl), (fun g2 => rfl), (fun g3 => have h3 := lt_ (hn2 3 (by decide)) g3; f3 h3), (fun g3 => have h3 := lt_ (hn2 3 (by decide)) g3; f3m h3), (fun g3 => have h3 := lt_ (hn2 3 (by decide)) g3; (f3k h3).below hb), (fun g4 => have h4 := lt_ (hn2 4 (by decide)) g4; f4 h4), (fun g5 => have h5 := lt_ (hn2 5 (by decide)) g5; f5 h5), (fun g6 => have h6 := lt_ (hn2 6 (by decide)) g6; f6 h6), (fun g7 => have h7 := lt_ (hn2 7 (by decide)) g7; f7 h7), (fun g8 => have h8 := lt_ (hn2 8 (by decide)) g8; f8 h8), (fun g8 => have h8 := lt_ (hn2 8 (by decide)) g8; ⟨(f8a h8).1, Nat.lt_of_lt_of_le (f8a h8).2 hb.size⟩), (fun g8 g3 => have h8 := lt_ (hn2 8 (by decide)) g8; have h3 := lt_ (hn2 3 (by decide)) g3; f8b h8 h3), (fun g8 g10 => have h8 := lt_ (hn2 8 (by decide)) g8; have h10 := lt_ (hn2 10 (by decide)) g10; (f8r h8 h10).below hb), (fun g9 => have h9 := lt_ (hn2 9 (by decide)) g9; f9 h9), (fun g9 => have h9 := lt_ (hn2 9 (by decide)) g9; ⟨(f9a h9).1, Nat.lt_of_lt_of_le (f9a h9).2 hb.size⟩), (fun g9 g3 => have h9 := lt_ (hn2 9 (by decide)) g9; have h3 := lt_ (hn2 3 (by decide)) g3; f9b h9 h3), (fun g9 => have h9 := lt_ (hn2 9 (by decide)) g9; (f9r h9).below hb), (fun g10 => have h10 := lt_ (hn2 10 (by decide)) g10; (f10 h10).below hb), (fun g12 => have h12 := lt_ (hn2 12 (by decide)) g12; f12 h12)⟩)
    refine OnceFrom.cons (fun L b w K hI hi hon hup hK => ?_) ?_
    · obtain ⟨xs, hbe, x72, x73, x74, x75, x71, x76, x77, x78, x16, x17, x18, za0, za1, za2, za3, zn0, zn1, zn2, zn3, zc0, zc1, zc2, zc3, b3, gm, ge, u, hxs, hB, hF⟩ := hI
      subst hxs
      have d0 : L 0 = true := hon 0 (mem_of_elem (by kernel_rfl))
      have d2 : L 2 = true := hon 2 (mem_of_elem (by kernel_rfl))
      have u4 : L 4 = false := hup 4 (mem_of_elem (by kernel_rfl))
      have u5 : L 5 = false := hup 5 (mem_of_elem (by kernel_rfl))
      have u10 : L 10 = false := hup 10 (mem_of_elem (by kernel_rfl))
      have HB := hide hB
      have HF := hide hF
      obtain ⟨f0, f1, f2, f3, f3m, f3k, f4, f5, f6, f7, f8, f8a, f8b, f8r, f9, f9a, f9b, f9r, f10, f12⟩ := hF
      have e0 := f0 d0
      have e2 := f2 d2
      subst e0
      subst e2
      have MB := hide (M0.below hB)
      have hT72 : b.tmps[72]? = some (.agg #[.slice ya0 yn0 yc0, .slice ya1 yn1 yc1, .slice ya2 yn2 yc2, .slice ya3 yn3 yc3]) := by rw [hbe]; exact puts_get_in _ _ _ hn hs (i := 0) rfl rfl
      have hT74 : b.tmps[74]? = some (.agg #[.int .i64 2, .int .i64 1, .int .i64 0, .int .u64 0]) := by rw [hbe]; exact puts_get_in _ _ _ hn hs (i := 2) rfl rfl
      have HBE := hide hbe
      clear hB hbe f0 f1 f2 f3 f3m f3k f4 f5 f6 f7 f8 f8a f8b f8r f9 f9a f9b f9r f10 f12
      rw [if_pos (by rfl)]
      go_simp
      with_reducible refine (vDo MB.out fit4 2 1 0 0 u640).mono ?_
      rintro e w2 ⟨⟨vv, rfl, hm5⟩, hb⟩
      have ke : outE (DoM wk4 (2, 1, 0, 0)) = (0, 0) := rfl
      have kk : outK (DoM wk4 (2, 1, 0, 0)) = 4 := rfl
      rw [ke, kk]
      have hm5 : MonOut w.heap.size w2 vv mon0 := hm5
      clear ke kk
      obtain ⟨va0, va1, va2, va3, vn0, vn1, vn2, vn3, vc0, vc1, vc2, vc3, rfl⟩ := hm5.form
      obtain ⟨f0, f1, f2, f3, f3m, f3k, f4, f5, f6, f7, f8, f8a, f8b, f8r, f9, f9a, f9b, f9r, f10, f12⟩ := HF.out
      have hB := HB.out
      refine hK.out _ _ (fun L2 hi2 hn2 => ⟨[(.agg #[.slice ya0 yn0 yc0, .slice ya1 yn1 yc1, .slice ya2 yn2 yc2, .slice ya3 yn3 yc3]), x73, (.agg #[.int .i64 2, .int .i64 1, .int .i64 0, .int .u64 0]), (.tuple #[.agg #[.slice va0 vn0 vc0, .slice va1 vn1 vc1, .slice va2 vn2 vc2, .slice va3 vn3 vc3], .agg #[.int .i64 0, .int .u64 0], .int .i64 4]), x71, x76, x77, x78, x16, x17, x18], put_in HBE.out hn rfl 3 _ rfl rfl, (.agg #[.slice ya0 yn0 yc0, .slice ya1 yn1 yc1, .slice ya2 yn2 yc2, .slice ya3 yn3 yc3]), x73, (.agg #[.int .i64 2, .int .i64 1, .int .i64 0, .int .u64 0]), (.tuple #[.agg #[.slice va0 vn0 vc0, .slice va1 vn1 vc1, .slice va2 vn2 vc2, .slice va3 vn3 vc3], .agg #[.int .i64 0, .int .u64 0], .int .i64 4]), x71, x76, x77, x78, x16, x17, x18, va0, va1, va2, va3, vn0, vn1, vn2, vn3, vc0, vc1, vc2, vc3, w.heap.size, gm, ge, w2, rfl, (hB.trans (hb.mono hB.size)), (fun g0 => have h0 := lt_ (hn2 0 (by decide)) g0; rfl), (fun g1 => have h1 := lt_ (hn2 1 (by decide)) g1; f1 h1), (fun g2 => have h2 := lt_ (hn2 2 (by decide)) g2; rfl), (fun g3 => rfl), (fun g3 => hm5), (fun g3 => Keeps.refl _ _), (fun g4 => have h4 := lt_ (hn2 4 (by decide)) g4; nope h4 u4), (fun g5 => have h5 := lt_ (hn2 5 (by decide)) g5; nope h5 u5), (fun g6 => have h6 := lt_ (hn2 6 (by decide)) g6; f6 h6), (fun g7 => have h7 := lt_ (hn2 7 (by decide)) g7; f7 h7), (fun g8 => have h8 := lt_ (hn2 8 (by decide)) g8; f8 h8), (fun g8 => have h8 := lt_ (hn2 8 (by decide)) g8; ⟨(f8a h8).1, Nat.lt_of_lt_of_le (f8a h8).2 hb.size⟩), (fun g8 g3 => have h8 := lt_ (hn2 8 (by decide)) g8; .inl (f8a h8).2), (fun g8 g10 => have h8 := lt_ (hn2 8 (by decide)) g8; have h10 := lt_ (hn2 10 (by decide)) g10; (f8r h8 h10).below hb), (fun g9 => have h9 := lt_ (hn2 9 (by decide)) g9; f9 h9), (fun g9 => have h9 := lt_ (hn2 9 (by decide)) g9; ⟨(f9a h9).1, Nat.lt_of_lt_of_le (f9a h9).2 hb.size⟩), (fun g9 g3 => have h9 := lt_ (hn2 9 (by decide)) g9; .inl (f9a h9).2), (fun g9 => have h9 := lt_ (hn2 9 (by decide)) g9; (f9r h9).below hb), (fun g10 => have h10 := lt_ (hn2 10 (by decide)) g10; nope h10 u10), (fun g12 => have h12 := lt_ (hn2 12 (by decide)) g12; f12 h12)⟩)
    refine OnceFrom.cons (fun L b w K hI hi hon hup hK => ?_) ?_
    · obtain ⟨xs, hbe, x72, x73, x74, x75, x71, x76, x77, x78, x16, x17, x18, za0, za1, za2, za3, zn0, zn1, zn2, zn3, zc0, zc1, zc2, zc3, b3, gm, ge, u, hxs, hB, hF⟩ := hI
      subst hxs
      have d3 : L 3 = true := hon 3 (mem_of_elem (by kernel_rfl))
      have HB := hide hB
      have HF := hide hF
      obtain ⟨f0, f1, f2, f3, f3m, f3k, f4, f5, f6, f7, f8, f8a, f8b, f8r, f9, f9a, f9b, f9r, f10, f12⟩ := hF
      have e3 := f3 d3
      subst e3
      have hT75 : b.tmps[75]? = some (.tuple #[.agg #[.slice za0 zn0 zc0, .slice za1 zn1 zc1, .slice za2 zn2 zc2, .slice za3 zn3 zc3], .agg #[.int .i64 0, .int .u64 0], .int .i64 4]) := by rw [hbe]; exact puts_get_in _ _ _ hn hs (i := 3) rfl rfl
      have HBE := hide hbe
      clear hB hbe f0 f1 f2 f3 f3m f3k f4 f5 f6 f7 f8 f8a f8b f8r f9 f9a f9b f9r f10 f12
      rw [if_pos (by rfl)]
      go_simp
      obtain ⟨f0, f1, f2, f3, f3m, f3k, f4, f5, f6, f7, f8, f8a, f8b, f8r, f9, f9a, f9b, f9r, f10, f12⟩ := HF.out
      have hB := HB.out
      refine hK.out _ _ (fun L2 hi2 hn2 => ⟨[x72, x73, x74, (.tuple #[.agg #[.slice za0 zn0 zc0, .slice za1 zn1 zc1, .slice za2 zn2 zc2, .slice za3 zn3 zc3], .agg #[.int .i64 0, .int .u64 0], .int .i64 4]), (.tuple #[.agg #[.slice za0 zn0 zc0, .slice za1 zn1 zc1, .slice za2 zn2 zc2, .slice za3 zn3 zc3], .agg #[.int .i64 0, .int .u64 0], .int .i64 4]), x76, x77, x78, x16, x17, x18], put_in HBE.out hn rfl 4 _ rfl rfl, x72, x73, x74, (.tuple #[.agg #[.slice za0 zn0 zc0, .slice za1 zn1 zc1, .slice za2 zn2 zc2, .slice za3 zn3 zc3], .agg #[.int .i64 0, .int .u64 0], .int .i64 4]), (.tuple #[.agg #[.slice za0 zn0 zc0, .slice za1 zn1 zc1, .slice za2 zn2 zc2, .slice za3 zn3 zc3], .agg #[.int .i64 0, .int .u64 0], .int .i64 4]), x76, x77, x78, x16, x17, x18, za0, za1, za2, za3, zn0, zn1, zn2, zn3, zc0, zc1, zc2, zc3, b3, gm, ge, u, rfl, hB, (fun g0 => have h0 := lt_ (hn2 0 (by decide)) g0; f0 h0), (fun g1 => have h1 := lt_ (hn2 1 (by decide)) g1; f1 h1), (fun g2 => have h2 := lt_ (hn2 2 (by decide)) g2; f2 h2), (fun g3 => have h3 := lt_ (hn2 3 (by decide)) g3; rfl), (fun g3 => have h3 := lt_ (hn2 3 (by decide)) g3; f3m h3), (fun g3 => have h3 := lt_ (hn2 3 (by decide)) g3; f3k h3), (fun g4 => rfl), (fun g5 => have h5 := lt_ (hn2 5 (by decide)) g5; f5 h5), (fun g6 => have h6 := lt_ (hn2 6 (by decide)) g6; f6 h6), (fun g7 => have h7 := lt_ (hn2 7 (by decide)) g7; f7 h7), (fun g8 => have h8 := lt_ (hn2 8 (by decide)) g8; f8 h8), (fun g8 => have h8 := lt_ (hn2 8 (by decide)) g8; f8a h8), (fun g8 g3 => have h8 := lt_ (hn2 8 (by decide)) g8; have h3 := lt_ (hn2 3 (by decide)) g3; f8b h8 h3), (fun g8 g10 => have h8 := lt_ (hn2 8 (by decide)) g8; have h10 := lt_ (hn2 10 (by decide)) g10; f8r h8 h10), (fun g9 => have h9 := lt_ (hn2 9 (by decide)) g9; f9 h9), (fun g9 => have h9 := lt_ (hn2 9 (by decide)) g9; f9a h9), (fun g9 g3 => have h9 := lt_ (hn2 9 (by decide)) g9; have h3 := lt_ (hn2 3 (by decide)) g3; f9b h9 h3), (fun g9 => have h9 := lt_ (hn2 9 (by decide)) g9; f9r h9), (fun g10 => have h10 := lt_ (hn2 10 (by decide)) g10; f10 h10), (fun g12 => have h12 := lt_ (hn2 12 (by decide)) g12; f12 h12)⟩)
    refine OnceFrom.cons (fun L b w K hI hi hon hup hK => ?_) ?_
    · obtain ⟨xs, hbe, x72, x73, x74, x75, x71, x76, x77, x78, x16, x17, x18, za0, za1, za2, za3, zn0, zn1, zn2, zn3, zc0, zc1, zc2, zc3, b3, gm, ge, u, hxs, hB, hF⟩ := hI
      subst hxs
      have d4 : L 4 = true := hon 4 (mem_of_elem (by kernel_rfl))
      have HB := hide hB
      have HF := hide hF
      obtain ⟨f0, f1, f2, f3, f3m, f3k, f4, f5, f6, f7, f8, f8a, f8b, f8r, f9, f9a, f9b, f9r, f10, f12⟩ := hF
      have e4 := f4 d4
      subst e4
      have hT71 : b.tmps[71]? = some (.tuple #[.agg #[.slice za0 zn0 zc0, .slice za1 zn1 zc1, .slice za2 zn2 zc2, .slice za3 zn3 zc3], .agg #[.int .i64 0, .int .u64 0], .int .i64 4]) := by rw [hbe]; exact puts_get_in _ _ _ hn hs (i := 4) rfl rfl
      have HBE := hide hbe
      clear hB hbe f0 f1 f2 f3 f3m f3k f4 f5 f6 f7 f8 f8a f8b f8r f9 f9a f9b f9r f10 f12
      rw [if_pos (by rfl)]
      go_simp
      obtain ⟨f0, f1, f2, f3, f3m, f3k, f4, f5, f6, f7, f8, f8a, f8b, f8r, f9, f9a, f9b, f9r, f10, f12⟩ := HF.out
      have hB := HB.out
      refine hK.out _ _ (fun L2 hi2 hn2 => ⟨[x72, x73, x74, x75, (.tuple #[.agg #[.slice za0 zn0 zc0, .slice za1 zn1 zc1, .slice za2 zn2 zc2, .slice za3 zn3 zc3], .agg #[.int .i64 0, .int .u64 0], .int .i64 4]), (.agg #[.slice za0 zn0 zc0, .slice za1 zn1 zc1, .slice za2 zn2 zc2, .slice za3 zn3 zc3]), x77, x78, x16, x17, x18], put_in HBE.out hn rfl 5 _ rfl rfl, x72, x73, x74, x75, (.tuple #[.agg #[.slice za0 zn0 zc0, .slice za1 zn1 zc1, .slice za2 zn2 zc2, .slice za3 zn3 zc3], .agg #[.int .i64 0, .int .u64 0], .int .i64 4]), (.agg #[.slice za0 zn0 zc0, .slice za1 zn1 zc1, .slice za2 zn2 zc2, .slice za3 zn3 zc3]), x77, x78, x16, x17, x18, za0, za1, za2, za3, zn0, zn1, zn2, zn3, zc0, zc1, zc2, zc3, b3, gm, ge, u, rfl, hB, (fun g0 => have h0 := lt_ (hn2 0 (by decide)) g0; f0 h0), (fun g1 => have h1 := lt_ (hn2 1 (by decide)) g1; f1 h1), (fun g2 => have h2 := lt_ (hn2 2 (by decide)) g2; f2 h2), (fun g3 => have h3 := lt_ (hn2 3 (by decide)) g3; f3 h3), (fun g3 => have h3 := lt_ (hn2 3 (by decide)) g3; f3m h3), (fun g3 => have h3 := lt_ (hn2 3 (by decide)) g3; f3k h3), (fun g4 => have h4 := lt_ (hn2 4 (by decide)) g4; rfl), (fun g5 => rfl), (fun g6 => have h6 := lt_ (hn2 6 (by decide)) g6; f6 h6), (fun g7 => have h7 := lt_ (hn2 7 (by decide)) g7; f7 h7), (fun g8 => have h8 := lt_ (hn2 8 (by decide)) g8; f8 h8), (fun g8 => have h8 := lt_ (hn2 8 (by decide)) g8; f8a h8), (fun g8 g3 => have h8 := lt_ (hn2 8 (by decide)) g8; have h3 := lt_ (hn2 3 (by decide)) g3; f8b h8 h3), (fun g8 g10 => have h8 := lt_ (hn2 8 (by decide)) g8; have h10 := lt_ (hn2 10 (by decide)) g10; f8r h8 h10), (fun g9 => have h9 := lt_ (hn2 9 (by decide)) g9; f9 h9), (fun g9 => have h9 := lt_ (hn2 9 (by decide)) g9; f9a h9), (fun g9 g3 => have h9 := lt_ (hn2 9 (by decide)) g9; have h3 := lt_ (hn2 3 (by decide)) g3; f9b h9 h3), (fun g9 => have h9 := lt_ (hn2 9 (by decide)) g9; f9r h9), (fun g10 => have h10 := lt_ (hn2 10 (by decide)) g10; f10 h10), (fun g12 => have h12 := lt_ (hn2 12 (by decide)) g12; f12 h12)⟩)
    refine OnceFrom.cons (fun L b w K hI hi hon hup hK => ?_) ?_
    · obtain ⟨xs, hbe, x72, x73, x74, x75, x71, x76, x77, x78, x16, x17, x18, za0, za1, za2, za3, zn0, zn1, zn2, zn3, zc0, zc1, zc2, zc3, b3, gm, ge, u, hxs, hB, hF⟩ := hI
      subst hxs
      have d4 : L 4 = true := hon 4 (mem_of_elem (by kernel_rfl))
      have HB := hide hB
      have HF := hide hF
      obtain ⟨f0, f1, f2, f3, f3m, f3k, f4, f5, f6, f7, f8, f8a, f8b, f8r, f9, f9a, f9b, f9r, f10, f12⟩ := hF
      have e4 := f4 d4
      subst e4
      have hT71 : b.tmps[71]? = some (.tuple #[.agg #[.slice za0 zn0 zc0, .slice za1 zn1 zc1, .slice za2 zn2 zc2, .slice za3 zn3 zc3], .agg #[.int .i64 0, .int .u64 0], .int .i64 4]) := by rw [hbe]; exact puts_get_in _ _ _ hn hs (i := 4) rfl rfl
      have HBE := hide hbe
      clear hB hbe f0 f1 f2 f3 f3m f3k f4 f5 f6 f7 f8 f8a f8b f8r f9 f9a f9b f9r f10 f12
      rw [if_pos (by rfl)]
      go_simp
      obtain ⟨f0, f1, f2, f3, f3m, f3k, f4, f5, f6, f7, f8, f8a, f8b, f8r, f9, f9a, f9b, f9r, f10, f12⟩ := HF.out
      have hB := HB.out
      refine hK.out _ _ (fun L2 hi2 hn2 => ⟨[x72, x73, x74, x75, (.tuple #[.agg #[.slice za0 zn0 zc0, .slice za1 zn1 zc1, .slice za2 zn2 zc2, .slice za3 zn3 zc3], .agg #[.int .i64 0, .int .u64 0], .int .i64 4]), x76, (.agg #[.int .i64 0, .int .u64 0]), x78, x16, x17, x18], put_in HBE.out hn rfl 6 _ rfl rfl, x72, x73, x74, x75, (.tuple #[.agg #[.slice za0 zn0 zc0, .slice za1 zn1 zc1, .slice za2 zn2 zc2, .slice za3 zn3 zc3], .agg #[.int .i64 0, .int .u64 0], .int .i64 4]), x76, (.agg #[.int .i64 0, .int .u64 0]), x78, x16, x17, x18, za0, za1, za2, za3, zn0, zn1, zn2, zn3, zc0, zc1, zc2, zc3, b3, gm, ge, u, rfl, hB, (fun g0 => have h0 := lt_ (hn2 0 (by decide)) g0; f0 h0), (fun g1 => have h1 := lt_ (hn2 1 (by decide)) g1; f1 h1), (fun g2 => have h2 := lt_ (hn2 2 (by decide)) g2; f2 h2), (fun g3 => have h3 := lt_ (hn2 3 (by decide)) g3; f3 h3), (fun g3 => have h3 := lt_ (hn2 3 (by decide)) g3; f3m h3), (fun g3 => have h3 := lt_ (hn2 3 (by decide)) g3; f3k h3), (fun g4 => have h4 := lt_ (hn2 4 (by decide)) g4; rfl), (fun g5 => have h5 := lt_ (hn2 5 (by decide)) g5; f5 h5), (fun g6 => rfl), (fun g7 => have h7 := lt_ (hn2 7 (by decide)) g7; f7 h7), (fun g8 => have h8 := lt_ (hn2 8 (by decide)) g8; f8 h8), (fun g8 => have h8 := lt_ (hn2 8 (by decide)) g8; f8a h8), (fun g8 g3 => have h8 := lt_ (hn2 8 (by decide)) g8; have h3 := lt_ (hn2 3 (by decide)) g3; f8b h8 h3), (fun g8 g10 => have h8 := lt_ (hn2 8 (by decide)) g8; have h10 := lt_ (hn2 10 (by decide)) g10; f8r h8 h10), (fun g9 => have h9 := lt_ (hn2 9 (by decide)) g9; f9 h9), (fun g9 => have h9 := lt_ (hn2 9 (by decide)) g9; f9a h9), (fun g9 g3 => have h9 := lt_ (hn2 9 (by decide)) g9; have h3 := lt_ (hn2 3 (by decide)) g3; f9b h9 h3), (fun g9 => have h9 := lt_ (hn2 9 (by decide)) g9; f9r h9), (fun g10 => have h10 := lt_ (hn2 10 (by decide)) g10; f10 h10), (fun g12 => have h12 := lt_ (hn2 12 (by decide)) g12; f12 h12)⟩)
    refine OnceFrom.cons (fun L b w K hI hi hon hup hK => ?_) ?_
    · obtain ⟨xs, hbe, x72, x73, x74, x75, x71, x76, x77, x78, x16, x17, x18, za0, za1, za2, za3, zn0, zn1, zn2, zn3, zc0, zc1, zc2, zc3, b3, gm, ge, u, hxs, hB, hF⟩ := hI
      subst hxs
      have d4 : L 4 = true := hon 4 (mem_of_elem (by kernel_rfl))
      have HB := hide hB
      have HF := hide hF
      obtain ⟨f0, f1, f2, f3, f3m, f3k, f4, f5, f6, f7, f8, f8a, f8b, f8r, f9, f9a, f9b, f9r, f10, f12⟩ := hF
      have e4 := f4 d4
      subst e4
      have hT71 : b.tmps[71]? = some (.tuple #[.agg #[.slice za0 zn0 zc0, .slice za1 zn1 zc1, .slice za2 zn2 zc2, .slice za3 zn3 zc3], .agg #[.int .i64 0, .int .u64 0], .int .i64 4]) := by rw [hbe]; exact puts_get_in _ _ _ hn hs (i := 4) rfl rfl
      have HBE := hide hbe
      clear hB hbe f0 f1 f2 f3 f3m f3k f4 f5 f6 f7 f8 f8a f8b f8r f9 f9a f9b f9r f10 f12
      rw [if_pos (by rfl)]
      go_simp
      obtain ⟨f0, f1, f2, f3, f3m, f3k, f4, f5, f6, f7, f8, f8a, f8b, f8r, f9, f9a, f9b, f9r, f10, f12⟩ := HF.out
      have hB := HB.out
      refine hK.out _ _ (fun L2 hi2 hn2 => ⟨[x72, x73, x74, x75, (.tuple #[.agg #[.slice za0 zn0 zc0, .slice za1 zn1 zc1, .slice za2 zn2 zc2, .slice za3 zn3 zc3], .agg #[.int .i64 0, .int .u64 0], .int .i64 4]), x76, x77, (.int .i64 4), x16, x17, x18], put_in HBE.out hn rfl 7 _ rfl rfl, x72, x73, x74, x75, (.tuple #[.agg #[.slice za0 zn0 zc0, .slice za1 zn1 zc1, .slice za2 zn2 zc2, .slice za3 zn3 zc3], .agg #[.int .i64 0, .int .u64 0], .int .i64 4]), x76, x77, (.int .i64 4), x16, x17, x18, za0, za1, za2, za3, zn0, zn1, zn2, zn3, zc0, zc1, zc2, zc3, b3, gm, ge, u, rfl, hB, (fun g0 => have h0 := lt_ (hn2 0 (by decide)) g0; f0 h0), (fun g1 => have h1 := lt_ (hn2 1 (by decide)) g1; f1 h1), (fun g2 => have h2 := lt_ (hn2 2 (by decide)) g2; f2 h2), (fun g3 => have h3 := lt_ (hn2 3 (by decide)) g3; f3 h3), (fun g3 => have h3 := lt_ (hn2 3 (by decide)) g3; f3m h3), (fun g3 => have h3 := lt_ (hn2 3 (by decide)) g3; f3k h3), (fun g4 => have h4 := lt_ (hn2 4 (by decide)) g4; rfl), (fun g5 => have h5 := lt_ (hn2 5 (by decide)) g5; f5 h5), (fun g6 => have h6 := lt_ (hn2 6 (by decide)) g6; f6 h6), (fun g7 => rfl), (fun g8 => have h8 := lt_ (hn2 8 (by decide)) g8; f8 h8), (fun g8 => have h8 := lt_ (hn2 8 (by decide)) g8; f8a h8), (fun g8 g3 => have h8 := lt_ (hn2 8 (by decide)) g8; have h3 := lt_ (hn2 3 (by decide)) g3; f8b h8 h3), (fun g8 g10 => have h8 := lt_ (hn2 8 (by decide)) g8; have h10 := lt_ (hn2 10 (by decide)) g10; f8r h8 h10), (fun g9 => have h9 := lt_ (hn2 9 (by decide)) g9; f9 h9), (fun g9 => have h9 := lt_ (hn2 9 (by decide)) g9; f9a h9), (fun g9 g3 => have h9 := lt_ (hn2 9 (by decide)) g9; have h3 := lt_ (hn2 3 (by decide)) g3; f9b h9 h3), (fun g9 => have h9 := lt_ (hn2 9 (by decide)) g9; f9r h9), (fun g10 => have h10 := lt_ (hn2 10 (by decide)) g10; f10 h10), (fun g12 => have h12 := lt_ (hn2 12 (by decide)) g12; f12 h12)⟩)
    refine OnceFrom.cons (fun L b w K hI hi hon hup hK => ?_) ?_
    · obtain ⟨xs, hbe, x72, x73, x74, x75, x71, x76, x77, x78, x16, x17, x18, za0, za1, za2, za3, zn0, zn1, zn2, zn3, zc0, zc1, zc2, zc3, b3, gm, ge, u, hxs, hB, hF⟩ := hI
      subst hxs
      have u10 : L 10 = false := hup 10 (mem_of_elem (by kernel_rfl))
      have HB := hide hB
      have HF := hide hF
      obtain ⟨f0, f1, f2, f3, f3m, f3k, f4, f5, f6, f7, f8, f8a, f8b, f8r, f9, f9a, f9b, f9r, f10, f12⟩ := hF
      have HBE := hide hbe
      clear hB hbe f0 f1 f2 f3 f3m f3k f4 f5 f6 f7 f8 f8a f8b f8r f9 f9a f9b f9r f10 f12
      rw [if_pos (by rfl)]
      go_simp
      obtain ⟨f0, f1, f2, f3, f3m, f3k, f4, f5, f6, f7, f8, f8a, f8b, f8r, f9, f9a, f9b, f9r, f10, f12⟩ := HF.out
      have hB := HB.out
      have hb : Below w.heap.size w (w.alloc (.cells #[.slice none 0 0, .slice none 0 0, .slice none 0 0, .slice none 0 0] 32)) := (Below.refl _ _).alloc (Nat.le_refl _) _
      refine hK.out _ _ (fun L2 hi2 hn2 => ⟨[x72, x73, x74, x75, x71, x76, x77, x78, (.pointer (some ⟨w.heap.size, 0, none⟩)), x17, x18], put_in HBE.out hn rfl 8 _ rfl rfl, x72, x73, x74, x75, x71, x76, x77, x78, (.pointer (some ⟨w.heap.size, 0, none⟩)), x17, x18, za0, za1, za2, za3, zn0, zn1, zn2, zn3, zc0, zc1, zc2, zc3, b3, w.heap.size, ge, u, rfl, (hB.trans (hb.mono hB.size)), (fun g0 => have h0 := lt_ (hn2 0 (by decide)) g0; f0 h0), (fun g1 => have h1 := lt_ (hn2 1 (by decide)) g1; f1 h1), (fun g2 => have h2 := lt_ (hn2 2 (by decide)) g2; f2 h2), (fun g3 => have h3 := lt_ (hn2 3 (by decide)) g3; f3 h3), (fun g3 => have h3 := lt_ (hn2 3 (by decide)) g3; f3m h3), (fun g3 => have h3 := lt_ (hn2 3 (by decide)) g3; (f3k h3).below hb), (fun g4 => have h4 := lt_ (hn2 4 (by decide)) g4; f4 h4), (fun g5 => have h5 := lt_ (hn2 5 (by decide)) g5; f5 h5), (fun g6 => have h6 := lt_ (hn2 6 (by decide)) g6; f6 h6), (fun g7 => have h7 := lt_ (hn2 7 (by decide)) g7; f7 h7), (fun g8 => rfl), (fun g8 => ⟨hB.size, by simp⟩), (fun g8 g3 => have h3 := lt_ (hn2 3 (by decide)) g3; .inr (f3k h3).1), (fun g8 g10 => have h10 := lt_ (hn2 10 (by decide)) g10; RowAt.new w _ _), (fun g9 => have h9 := lt_ (hn2 9 (by decide)) g9; f9 h9), (fun g9 => have h9 := lt_ (hn2 9 (by decide)) g9; ⟨(f9a h9).1, Nat.lt_of_lt_of_le (f9a h9).2 hb.size⟩), (fun g9 g3 => have h9 := lt_ (hn2 9 (by decide)) g9; have h3 := lt_ (hn2 3 (by decide)) g3; f9b h9 h3), (fun g9 => have h9 := lt_ (hn2 9 (by decide)) g9; (f9r h9).below hb), (fun g10 => have h10 := lt_ (hn2 10 (by decide)) g10; nope h10 u10), (fun g12 => have h12 := lt_ (hn2 12 (by decide)) g12; f12 h12)⟩)
    refine OnceFrom.cons (fun L b w K hI hi hon hup hK => ?_) ?_
    · obtain ⟨xs, hbe, x72, x73, x74, x75, x71, x76, x77, x78, x16, x17, x18, za0, za1, za2, za3, zn0, zn1, zn2, zn3, zc0, zc1, zc2, zc3, b3, gm, ge, u, hxs, hB, hF⟩ := hI
      subst hxs
      have HB := hide hB
      have HF := hide hF
      obtain ⟨f0, f1, f2, f3, f3m, f3k, f4, f5, f6, f7, f8, f8a, f8b, f8r, f9, f9a, f9b, f9r, f10, f12⟩ := hF
      have HBE := hide hbe
      clear hB hbe f0 f1 f2 f3 f3m f3k f4 f5 f6 f7 f8 f8a f8b f8r f9 f9a f9b f9r f10 f12
      rw [if_pos (by rfl)]
      go_simp
      obtain ⟨f0, f1, f2, f3, f3m, f3k, f4, f5, f6, f7, f8, f8a, f8b, f8r, f9, f9a, f9b, f9r, f10, f12⟩ := HF.out
      have hB := HB.out
      have hb : Below w.heap.size w (w.alloc (.cells #[.int .i64 0, .int .u64 0] 43)) := (Below.refl _ _).alloc (Nat.le_refl _) _
      refine hK.out _ _ (fun L2 hi2 hn2 => ⟨[x72, x73, x74, x75, x71, x76, x77, x78, x16, (.pointer (some ⟨w.heap.size, 0, none⟩)), x18], put_in HBE.out hn rfl 9 _ rfl rfl, x72, x73, x74, x75, x71, x76, x77, x78, x16, (.pointer (some ⟨w.heap.size, 0, none⟩)), x18, za0, za1, za2, za3, zn0, zn1, zn2, zn3, zc0, zc1, zc2, zc3, b3, gm, w.heap.size, u, rfl, (hB.trans (hb.mono hB.size)), (fun g0 => have h0 := lt_ (hn2 0 (by decide)) g0; f0 h0), (fun g1 => have h1 := lt_ (hn2 1 (by decide)) g1; f1 h1), (fun g2 => have h2 := lt_ (hn2 2 (by decide)) g2; f2 h2), (fun g3 => have h3 := lt_ (hn2 3 (by decide)) g3; f3 h3), (fun g3 => have h3 := lt_ (hn2 3 (by decide)) g3; f3m h3), (fun g3 => have h3 := lt_ (hn2 3 (by decide)) g3; (f3k h3).below hb), (fun g4 => have h4 := lt_ (hn2 4 (by decide)) g4; f4 h4), (fun g5 => have h5 := lt_ (hn2 5 (by decide)) g5; f5 h5), (fun g6 => have h6 := lt_ (hn2 6 (by decide)) g6; f6 h6), (fun g7 => have h7 := lt_ (hn2 7 (by decide)) g7; f7 h7), (fun g8 => have h8 := lt_ (hn2 8 (by decide)) g8; f8 h8), (fun g8 => have h8 := lt_ (hn2 8 (by decide)) g8; ⟨(f8a h8).1, Nat.lt_of_lt_of_le (f8a h8).2 hb.size⟩), (fun g8 g3 => have h8 := lt_ (hn2 8 (by decide)) g8; have h3 := lt_ (hn2 3 (by decide)) g3; f8b h8 h3), (fun g8 g10 => have h8 := lt_ (hn2 8 (by decide)) g8; have h10 := lt_ (hn2 10 (by decide)) g10; (f8r h8 h10).below hb), (fun g9 => rfl), (fun g9 => ⟨hB.size, by simp⟩), (fun g9 g3 => have h3 := lt_ (hn2 3 (by decide)) g3; .inr (f3k h3).1), (fun g9 => RowAt.new w _ _), (fun g10 => have h10 := lt_ (hn2 10 (by decide)) g10; (f10 h10).below hb), (fun g12 => have h12 := lt_ (hn2 12 (by decide)) g12; f12 h12)⟩)
    refine OnceFrom.cons (fun L b w K hI hi hon hup hK => ?_) ?_
    · obtain ⟨xs, hbe, x72, x73, x74, x75, x71, x76, x77, x78, x16, x17, x18, za0, za1, za2, za3, zn0, zn1, zn2, zn3, zc0, zc1, zc2, zc3, b3, gm, ge, u, hxs, hB, hF⟩ := hI
      subst hxs
      have d8 : L 8 = true := hon 8 (mem_of_elem (by kernel_rfl))
      have d5 : L 5 = true := hon 5 (mem_of_elem (by kernel_rfl))
      have HB := hide hB
      have HF := hide hF
      obtain ⟨f0, f1, f2, f3, f3m, f3k, f4, f5, f6, f7, f8, f8a, f8b, f8r, f9, f9a, f9b, f9r, f10, f12⟩ := hF
      have e8 := f8 d8
      have e5 := f5 d5
      subst e8
      subst e5
      have R8 := f8r d8 hi
      obtain ⟨q0, q1, q2, q3⟩ := row4 R8
      have ql := R8.lt
      have p0 := R8.frozen 0
      have p1 := R8.frozen 1
      have p2 := R8.frozen 2
      have p3 := R8.frozen 3
      replace R8 := hide R8
      have hT16 : b.tmps[16]? = some (.pointer (some ⟨gm, 0, none⟩)) := by rw [hbe]; exact puts_get_in _ _ _ hn hs (i := 8) rfl rfl
      have hT76 : b.tmps[76]? = some (.agg #[.slice za0 zn0 zc0, .slice za1 zn1 zc1, .slice za2 zn2 zc2, .slice za3 zn3 zc3]) := by rw [hbe]; exact puts_get_in _ _ _ hn hs (i := 5) rfl rfl
      have HBE := hide hbe
      clear hB hbe f0 f1 f2 f3 f3m f3k f4 f5 f6 f7 f8 f8a f8b f8r f9 f9a f9b f9r f10 f12
      rw [if_pos (by rfl)]
      go_simp
      obtain ⟨f0, f1, f2, f3, f3m, f3k, f4, f5, f6, f7, f8, f8a, f8b, f8r, f9, f9a, f9b, f9r, f10, f12⟩ := HF.out
      have hB := HB.out
      have HL := laidM4_of (n := w0.heap.size) (v0 := .slice za0 zn0 zc0) (v1 := .slice za1 zn1 zc1) (v2 := .slice za2 zn2 zc2) (v3 := .slice za3 zn3 zc3) R8.out (f8a d8).1
      refine hK.out _ _ (fun L2 hi2 hn2 => ⟨[x72, x73, x74, x75, x71, (.agg #[.slice za0 zn0 zc0, .slice za1 zn1 zc1, .slice za2 zn2 zc2, .slice za3 zn3 zc3]), x77, x78, (.pointer (some ⟨gm, 0, none⟩)), x17, x18], HBE.out, x72, x73, x74, x75, x71, (.agg #[.slice za0 zn0 zc0, .slice za1 zn1 zc1, .slice za2 zn2 zc2, .slice za3 zn3 zc3]), x77, x78, (.pointer (some ⟨gm, 0, none⟩)), x17, x18, za0, za1, za2, za3, zn0, zn1, zn2, zn3, zc0, zc1, zc2, zc3, b3, gm, ge, u, rfl, (hB.trans HL.2.2), (fun g0 => have h0 := lt_ (hn2 0 (by decide)) g0; f0 h0), (fun g1 => have h1 := lt_ (hn2 1 (by decide)) g1; f1 h1), (fun g2 => have h2 := lt_ (hn2 2 (by decide)) g2; f2 h2), (fun g3 => have h3 := lt_ (hn2 3 (by decide)) g3; f3 h3), (fun g3 => have h3 := lt_ (hn2 3 (by decide)) g3; f3m h3), (fun g3 => have h3 := lt_ (hn2 3 (by decide)) g3; (f3k h3).store (f8b d8 h3) HL.2.1 HL.2.2.size), (fun g4 => have h4 := lt_ (hn2 4 (by decide)) g4; f4 h4), (fun g5 => have h5 := lt_ (hn2 5 (by decide)) g5; rfl), (fun g6 => have h6 := lt_ (hn2 6 (by decide)) g6; f6 h6), (fun g7 => have h7 := lt_ (hn2 7 (by decide)) g7; f7 h7), (fun g8 => have h8 := lt_ (hn2 8 (by decide)) g8; rfl), (fun g8 => have h8 := lt_ (hn2 8 (by decide)) g8; ⟨(f8a h8).1, Nat.lt_of_lt_of_le (f8a h8).2 HL.2.2.size⟩), (fun g8 g3 => have h8 := lt_ (hn2 8 (by decide)) g8; have h3 := lt_ (hn2 3 (by decide)) g3; f8b h8 h3), (fun g8 g10 => nope hi2 g10), (fun g9 => have h9 := lt_ (hn2 9 (by decide)) g9; f9 h9), (fun g9 => have h9 := lt_ (hn2 9 (by decide)) g9; ⟨(f9a h9).1, Nat.lt_of_lt_of_le (f9a h9).2 HL.2.2.size⟩), (fun g9 g3 => have h9 := lt_ (hn2 9 (by decide)) g9; have h3 := lt_ (hn2 3 (by decide)) g3; f9b h9 h3), (fun g9 => have h9 := lt_ (hn2 9 (by decide)) g9; (HL.2.1 _ (fun e => by have h1 := f9r h9; rw [e] at h1; exact absurd (row_typ h1 R8.out) (by decide))).trans (f9r h9)), (fun g10 => HL.1), (fun g12 => have h12 := lt_ (hn2 12 (by decide)) g12; f12 h12)⟩)
    refine OnceFrom.cons (fun L b w K hI hi hon hup hK => ?_) ?_
    · obtain ⟨xs, hbe, x72, x73, x74, x75, x71, x76, x77, x78, x16, x17, x18, za0, za1, za2, za3, zn0, zn1, zn2, zn3, zc0, zc1, zc2, zc3, b3, gm, ge, u, hxs, hB, hF⟩ := hI
      subst hxs
      have d9 : L 9 = true := hon 9 (mem_of_elem (by kernel_rfl))
      have d6 : L 6 = true := hon 6 (mem_of_elem (by kernel_rfl))
      have d10 : L 10 = true := hon 10 (mem_of_elem (by kernel_rfl))
      have HB := hide hB
      have HF := hide hF
      obtain ⟨f0, f1, f2, f3, f3m, f3k, f4, f5, f6, f7, f8, f8a, f8b, f8r, f9, f9a, f9b, f9r, f10, f12⟩ := hF
      have e9 := f9 d9
      have e6 := f6 d6
      subst e9
      subst e6
      have R9 := f9r d9
      have q0 := row20 R9
      have q1 := row21 R9
      have ql := R9.lt
      have p0 := R9.frozen 0
      have p1 := R9.frozen 1
      replace R9 := hide R9
      have hT17 : b.tmps[17]? = some (.pointer (some ⟨ge, 0, none⟩)) := by rw [hbe]; exact puts_get_in _ _ _ hn hs (i := 9) rfl rfl
      have hT77 : b.tmps[77]? = some (.agg #[.int .i64 0, .int .u64 0]) := by rw [hbe]; exact puts_get_in _ _ _ hn hs (i := 6) rfl rfl
      have HBE := hide hbe
      clear hB hbe f0 f1 f2 f3 f3m f3k f4 f5 f6 f7 f8 f8a f8b f8r f9 f9a f9b f9r f10 f12
      rw [if_pos (by rfl)]
      go_simp
      obtain ⟨f0, f1, f2, f3, f3m, f3k, f4, f5, f6, f7, f8, f8a, f8b, f8r, f9, f9a, f9b, f9r, f10, f12⟩ := HF.out
      have hB := HB.out
      have HL := laidE2_of (v0 := .int .i64 0) (v1 := .int .u64 0) R9.out (f9a d9).1
      refine hK.out _ _ (fun L2 hi2 hn2 => ⟨[x72, x73, x74, x75, x71, x76, (.agg #[.int .i64 0, .int .u64 0]), x78, x16, (.pointer (some ⟨ge, 0, none⟩)), x18], HBE.out, x72, x73, x74, x75, x71, x76, (.agg #[.int .i64 0, .int .u64 0]), x78, x16, (.pointer (some ⟨ge, 0, none⟩)), x18, za0, za1, za2, za3, zn0, zn1, zn2, zn3, zc0, zc1, zc2, zc3, b3, gm, ge, u, rfl, (hB.trans HL.2.2), (fun g0 => have h0 := lt_ (hn2 0 (by decide)) g0; f0 h0), (fun g1 => have h1 := lt_ (hn2 1 (by decide)) g1; f1 h1), (fun g2 => have h2 := lt_ (hn2 2 (by decide)) g2; f2 h2), (fun g3 => have h3 := lt_ (hn2 3 (by decide)) g3; f3 h3), (fun g3 => have h3 := lt_ (hn2 3 (by decide)) g3; f3m h3), (fun g3 => have h3 := lt_ (hn2 3 (by decide)) g3; (f3k h3).store (f9b d9 h3) HL.2.1 HL.2.2.size), (fun g4 => have h4 := lt_ (hn2 4 (by decide)) g4; f4 h4), (fun g5 => have h5 := lt_ (hn2 5 (by decide)) g5; f5 h5), (fun g6 => have h6 := lt_ (hn2 6 (by decide)) g6; rfl), (fun g7 => have h7 := lt_ (hn2 7 (by decide)) g7; f7 h7), (fun g8 => have h8 := lt_ (hn2 8 (by decide)) g8; f8 h8), (fun g8 => have h8 := lt_ (hn2 8 (by decide)) g8; ⟨(f8a h8).1, Nat.lt_of_lt_of_le (f8a h8).2 HL.2.2.size⟩), (fun g8 g3 => have h8 := lt_ (hn2 8 (by decide)) g8; have h3 := lt_ (hn2 3 (by decide)) g3; f8b h8 h3), (fun g8 g10 => have h8 := lt_ (hn2 8 (by decide)) g8; have h10 := lt_ (hn2 10 (by decide)) g10; nope d10 h10), (fun g9 => have h9 := lt_ (hn2 9 (by decide)) g9; rfl), (fun g9 => have h9 := lt_ (hn2 9 (by decide)) g9; ⟨(f9a h9).1, Nat.lt_of_lt_of_le (f9a h9).2 HL.2.2.size⟩), (fun g9 g3 => have h9 := lt_ (hn2 9 (by decide)) g9; have h3 := lt_ (hn2 3 (by decide)) g3; f9b h9 h3), (fun g9 => have h9 := lt_ (hn2 9 (by decide)) g9; HL.1), (fun g10 => have h10 := lt_ (hn2 10 (by decide)) g10; (HL.2.1 _ (fun e => by have h1 := f10 h10; rw [e] at h1; exact absurd (row_typ R9.out h1) (by decide))).trans (f10 h10)), (fun g12 => have h12 := lt_ (hn2 12 (by decide)) g12; f12 h12)⟩)
    refine OnceFrom.cons (fun L b w K hI hi hon hup hK => ?_) ?_
    · obtain ⟨xs, hbe, x72, x73, x74, x75, x71, x76, x77, x78, x16, x17, x18, za0, za1, za2, za3, zn0, zn1, zn2, zn3, zc0, zc1, zc2, zc3, b3, gm, ge, u, hxs, hB, hF⟩ := hI
      subst hxs
      have d7 : L 7 = true := hon 7 (mem_of_elem (by kernel_rfl))
      have HB := hide hB
      have HF := hide hF
      obtain ⟨f0, f1, f2, f3, f3m, f3k, f4, f5, f6, f7, f8, f8a, f8b, f8r, f9, f9a, f9b, f9r, f10, f12⟩ := hF
      have e7 := f7 d7
      subst e7
      have hT78 : b.tmps[78]? = some (.int .i64 4) := by rw [hbe]; exact puts_get_in _ _ _ hn hs (i := 7) rfl rfl
      have HBE := hide hbe
      clear hB hbe f0 f1 f2 f3 f3m f3k f4 f5 f6 f7 f8 f8a f8b f8r f9 f9a f9b f9r f10 f12
      rw [if_pos (by rfl)]
      go_simp
      obtain ⟨f0, f1, f2, f3, f3m, f3k, f4, f5, f6, f7, f8, f8a, f8b, f8r, f9, f9a, f9b, f9r, f10, f12⟩ := HF.out
      have hB := HB.out
      refine hK.out _ _ (fun L2 hi2 hn2 => ⟨[x72, x73, x74, x75, x71, x76, x77, (.int .i64 4), x16, x17, (.int .i64 4)], put_in HBE.out hn rfl 10 _ rfl rfl, x72, x73, x74, x75, x71, x76, x77, (.int .i64 4), x16, x17, (.int .i64 4), za0, za1, za2, za3, zn0, zn1, zn2, zn3, zc0, zc1, zc2, zc3, b3, gm, ge, u, rfl, hB, (fun g0 => have h0 := lt_ (hn2 0 (by decide)) g0; f0 h0), (fun g1 => have h1 := lt_ (hn2 1 (by decide)) g1; f1 h1), (fun g2 => have h2 := lt_ (hn2 2 (by decide)) g2; f2 h2), (fun g3 => have h3 := lt_ (hn2 3 (by decide)) g3; f3 h3), (fun g3 => have h3 := lt_ (hn2 3 (by decide)) g3; f3m h3), (fun g3 => have h3 := lt_ (hn2 3 (by decide)) g3; f3k h3), (fun g4 => have h4 := lt_ (hn2 4 (by decide)) g4; f4 h4), (fun g5 => have h5 := lt_ (hn2 5 (by decide)) g5; f5 h5), (fun g6 => have h6 := lt_ (hn2 6 (by decide)) g6; f6 h6), (fun g7 => have h7 := lt_ (hn2 7 (by decide)) g7; rfl), (fun g8 => have h8 := lt_ (hn2 8 (by decide)) g8; f8 h8), (fun g8 => have h8 := lt_ (hn2 8 (by decide)) g8; f8a h8), (fun g8 g3 => have h8 := lt_ (hn2 8 (by decide)) g8; have h3 := lt_ (hn2 3 (by decide)) g3; f8b h8 h3), (fun g8 g10 => have h8 := lt_ (hn2 8 (by decide)) g8; have h10 := lt_ (hn2 10 (by decide)) g10; f8r h8 h10), (fun g9 => have h9 := lt_ (hn2 9 (by decide)) g9; f9 h9), (fun g9 => have h9 := lt_ (hn2 9 (by decide)) g9; f9a h9), (fun g9 g3 => have h9 := lt_ (hn2 9 (by decide)) g9; have h3 := lt_ (hn2 3 (by decide)) g3; f9b h9 h3), (fun g9 => have h9 := lt_ (hn2 9 (by decide)) g9; f9r h9), (fun g10 => have h10 := lt_ (hn2 10 (by decide)) g10; f10 h10), (fun g12 => rfl)⟩)
    exact trivial
  · intro L xs w hL hR
    obtain ⟨x72, x73, x74, x75, x71, x76, x77, x78, x16, x17, x18, za0, za1, za2, za3, zn0, zn1, zn2, zn3, zc0, zc1, zc2, zc3, b3, gm, ge, u, hxs, hB, f0, f1, f2, f3, f3m, f3k, f4, f5, f6, f7, f8, f8a, f8b, f8r, f9, f9a, f9b, f9r, f10, f12⟩ := hR
    subst hxs
    have d0 : L 0 = true := hL 0 (by decide)
    have d1 : L 1 = true := hL 1 (by decide)
    have d2 : L 2 = true := hL 2 (by decide)
    have d3 : L 3 = true := hL 3 (by decide)
    have d4 : L 4 = true := hL 4 (by decide)
    have d5 : L 5 = true := hL 5 (by decide)
    have d6 : L 6 = true := hL 6 (by decide)
    have d7 : L 7 = true := hL 7 (by decide)
    have d8 : L 8 = true := hL 8 (by decide)
    have d9 : L 9 = true := hL 9 (by decide)
    have d10 : L 10 = true := hL 10 (by decide)
    have d11 : L 11 = true := hL 11 (by decide)
    have d12 : L 12 = true := hL 12 (by decide)
    have e8 := f8 d8
    subst e8
    have e9 := f9 d9
    subst e9
    have e12 := f12 d12
    subst e12
    refine hQ x72 x73 x74 x75 x71 x76 x77 x78 gm ge za0 za1 za2 za3 zn0 zn1 zn2 zn3 zc0 zc1 zc2 zc3 w hB (f10 d10) (((f3m d3).other (f3k d3).1 (f3k d3).2).up (Nat.zero_le _))
end Go.Proofs.Ytfpbabafeecncaa

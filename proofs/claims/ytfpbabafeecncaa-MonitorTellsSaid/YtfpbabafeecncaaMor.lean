/-
  Touches that are good; who holds what; what is safe.
-/
import Derived.Test.YtfpbabafeecncaaMoq
set_option linter.unusedSimpArgs false
set_option linter.unusedVariables false
namespace Go.Proofs.Ytfpbabafeecncaa
open Go Go.RowKit
attribute [local go_sem] via_cell via_frozen Oper.semAt_some

theorem monlen {w : World} {B : Nat} {a0 a1 a2 a3 : Option Addr} {n0 n1 n2 n3 : Nat} {ts : List Hm} {m : Mon} (h : MonX w B a0 a1 a2 a3 n0 n1 n2 n3 ts m) (ho : OkM m) : n2 = n1 := by
  have h1 := ho.has
  rw [h.hs, rowsQ_len, h.has.len, h.l1] at h1
  exact h1
set_option maxRecDepth 20000 in
set_option maxHeartbeats 2000000 in
theorem Good_any (a0 a1 a2 a3 : Option Addr) (n0 n1 n2 n3 c0 c1 c2 c3 : Nat) (ts : List Hm) (m : Mon) (k gi s z : Int) (W : World) (h : MonX W W.heap.size a0 a1 a2 a3 n0 n1 n2 n3 ts m) (hs : SmallX n0 n1 n2 n3 ts) (r : Bool) (hr : GoodM m (k, gi, s, z) = r) :
    Calls Try.prog 16 #[.agg (moC a0 a1 a2 a3 n0 n1 n2 n3 c0 c1 c2 c3), .agg #[.int .i64 k, .int .i64 gi, .int .i64 s, .int .u64 z]] W fun e W' => e = .returned (.bool r) ∧ Below W.heap.size W W' := by
  obtain ⟨w1, hw1⟩ : ∃ w1, W.alloc (.cells (moC a0 a1 a2 a3 n0 n1 n2 n3 c0 c1 c2 c3) 32) = w1 := ⟨_, rfl⟩
  obtain ⟨w2, hw2⟩ : ∃ w2, w1.alloc (.cells #[.int .i64 k, .int .i64 gi, .int .i64 s, .int .u64 z] 45) = w2 := ⟨_, rfl⟩
  have e1 : w1.heap.size = W.heap.size + 1 := by rw [← hw1]; simp
  have b1 : Below W.heap.size W w1 := by rw [← hw1]; exact (Below.refl _ _).alloc (Nat.le_refl _) _
  have b2 : Below w1.heap.size w1 w2 := by rw [← hw2]; exact (Below.refl _ _).alloc (Nat.le_refl _) _
  have r1 : RowAt w2 W.heap.size 32 (moC a0 a1 a2 a3 n0 n1 n2 n3 c0 c1 c2 c3) := by have h := RowAt.new W 32 (moC a0 a1 a2 a3 n0 n1 n2 n3 c0 c1 c2 c3); rw [hw1] at h; exact h.below b2
  have r2 : RowAt w2 (W.heap.size + 1) 45 #[.int .i64 k, .int .i64 gi, .int .i64 s, .int .u64 z] := by have h := RowAt.new w1 45 #[.int .i64 k, .int .i64 gi, .int .i64 s, .int .u64 z]; rw [hw2, e1] at h; exact h
  have HB := hide (b1.trans (b2.mono b1.size))
  have R1 := hide r1
  have R2 := hide r2
  have H := hide ((h.below HB.out).more HB.out.size)
  have HS := hide hs
  have HR := hide hr
  have HL1 := hide (show m.pin.length = n1 from h.l1)
  obtain ⟨x0, x1, x2, x3⟩ := row4 r1
  have xl := r1.lt
  obtain ⟨y0, y1, y2, y3⟩ := row4 r2
  have yl := r2.lt
  obtain ⟨bk, hbk⟩ : ∃ b, (decide (k = 4) || decide (k = 5)) = b := ⟨_, rfl⟩
  obtain ⟨bo, hbo⟩ : ∃ b, m.ok = b := ⟨_, rfl⟩
  have HBO := hide hbo
  have HCC := hide (mcheckX_any w2.heap.size a0 a1 a2 a3 n0 n1 n2 n3 c0 c1 c2 c3 ts m w2 H.out (Nat.le_refl _) hs _ rfl)
  rw [show errM m.ok = errM bo from by rw [hbo]] at HCC
  clear b1 b2 r1 r2 h hs hr hbo
  subst hw2
  subst hw1
  go_enter Try.func16, Try.ntmps16
  go_upto_region 1 with (fail)
  generalize (W.alloc (.cells #[.slice a0 n0 c0, .slice a1 n1 c1, .slice a2 n2 c2, .slice a3 n3 c3] 32)).alloc (.cells #[.int .i64 k, .int .i64 gi, .int .i64 s, .int .u64 z] 45) = w2 at *
  go_cut [5] from 6 to 14 (fun s5 wx => s5 = .bool bk ∧ w2 = wx)
  case first =>
    by_cases j1 : k = 4
    · have hd : (k == 4) = true := by simpa using j1
      have hI : bk = true := by rw [← hbk]; simp [j1]
      clear j1 hbk
      go_wp2_with fail
      go_meet
      case rel => exact ⟨by rw [hI], rfl⟩
    · have hd : (k == 4) = false := by simpa using j1
      obtain ⟨b5, h5⟩ : ∃ b, (k == 5) = b := ⟨_, rfl⟩
      have hI : bk = b5 := by rw [← hbk, ← h5]; simp [j1, BEq.beq]
      clear j1 hbk
      go_wp2_with fail
      go_meet
      case rel => exact ⟨by rw [hI], rfl⟩
  case rest =>
    rename_i K hK
    refine hK _ _ ?_
    clear hK K
    obtain ⟨rfl, rfl⟩ := hcut
    have HBK := hide hbk
    clear hbk
    cases bk with
    | false =>
      have HF := hide (show false = r from by rw [← HR.out]; unfold GoodM; rw [HBK.out]; rfl)
      go_wp2_with fail
      go_ret
      rw [← HF.out]; exact ⟨rfl, HB.out⟩
    | true =>
      cases bo with
      | false =>
        have HF := hide (show false = r from by rw [← HR.out]; unfold GoodM; rw [HBO.out]; simp)
        go_wp2_with fail
        with_reducible refine HCC.out.mono ?_
        rintro e w3 ⟨rfl, hb⟩
        have HB3 := hide (HB.out.trans (hb.mono HB.out.size))
        clear hb x0 x1 x2 x3 xl y0 y1 y2 y3 yl
        simp only [errM]
        go_wp2_with fail
        go_ret
        rw [← HF.out]; exact ⟨rfl, HB3.out⟩
      | true =>
        have HOK := hide (ok_iff.1 HBO.out)
        have HN := hide (monlen H.out HOK.out)
        by_cases g1 : 0 ≤ gi
        case neg =>
          have hd : decide (0 ≤ gi) = false := by simpa using g1
          have HF := hide (show false = r from by rw [← HR.out]; unfold GoodM goerM; rw [hd]; simp)
          clear g1
          go_wp2_with fail
          with_reducible refine HCC.out.mono ?_
          rintro e w3 ⟨rfl, hb⟩
          have HB3 := hide (HB.out.trans (hb.mono HB.out.size))
          have R2 := hide (R2.out.below hb)
          obtain ⟨z0, z1, z2, z3⟩ := row4 R2.out
          have zl := R2.out.lt
          clear hb x0 x1 x2 x3 xl y0 y1 y2 y3 yl
          simp only [errM]
          go_wp2_with fail
          go_ret
          rw [← HF.out]; exact ⟨rfl, HB3.out⟩
        have hd1 : decide (0 ≤ gi) = true := by simpa using g1
        by_cases g2 : gi < (n1 : Int)
        case neg =>
          have hd : decide (gi < (n1 : Int)) = false := by simpa using g2
          have HF := hide (show false = r from by rw [← HR.out]; unfold GoodM goerM; rw [HL1.out, hd]; simp)
          clear g1 g2
          go_wp2_with fail
          with_reducible refine HCC.out.mono ?_
          rintro e w3 ⟨rfl, hb⟩
          have HB3 := hide (HB.out.trans (hb.mono HB.out.size))
          have R1 := hide (R1.out.below hb)
          have R2 := hide (R2.out.below hb)
          clear x0 x1 x2 x3 xl y0 y1 y2 y3 yl
          obtain ⟨x0, x1, x2, x3⟩ := row4 R1.out
          have xl := R1.out.lt
          obtain ⟨z0, z1, z2, z3⟩ := row4 R2.out
          have zl := R2.out.lt
          clear hb
          simp only [errM]
          go_wp2_with fail
          go_ret
          rw [← HF.out]; exact ⟨rfl, HB3.out⟩
        have hd2 : decide (gi < (n1 : Int)) = true := by simpa using g2
        have HG := hide (show goerM m gi = true from by unfold goerM; rw [HL1.out, hd1, hd2]; rfl)
        obtain ⟨g, hg⟩ := Int.eq_ofNat_of_zero_le g1
        subst hg
        obtain ⟨bg, hbg⟩ : ∃ b, goodM m (k, (g : Int), s, z) = b := ⟨_, rfl⟩
        have HBG := hide hbg
        have HF := hide (show bg = r from by rw [← HR.out, ← hbg]; unfold GoodM; rw [HBK.out, HBO.out, HG.out]; simp)
        have HGL := hide (show g < n1 from by omega)
        clear g1 g2 hbg
        go_wp2_with fail
        with_reducible refine HCC.out.mono ?_
        rintro e w3 ⟨rfl, hb⟩
        have HB3 := hide (HB.out.trans (hb.mono HB.out.size))
        have HC := hide (mgoodX_any a0 a1 a2 a3 n0 n1 n2 n3 c0 c1 c2 c3 ts m k s z g w3 ((H.out.below hb).more hb.size) HS.out HGL.out (by have := HN.out; have := HGL.out; omega) bg HBG.out)
        have R1 := hide (R1.out.below hb)
        have R2 := hide (R2.out.below hb)
        clear x0 x1 x2 x3 xl y0 y1 y2 y3 yl
        obtain ⟨x0, x1, x2, x3⟩ := row4 R1.out
        have xl := R1.out.lt
        obtain ⟨z0, z1, z2, z3⟩ := row4 R2.out
        have zl := R2.out.lt
        clear hb
        simp only [errM]
        go_wp2_with fail
        with_reducible refine HC.out.mono ?_
        rintro e w4 ⟨rfl, hb⟩
        have HB4 := hide (HB3.out.trans (hb.mono HB3.out.size))
        clear hb
        go_wp2_with fail
        go_ret
        rw [← HF.out]; exact ⟨rfl, HB4.out⟩
theorem elI : ElemOk Try.prog 58 3 1 8 (.int .i64 0) := ⟨Try.underlying58, by kernel_rfl, rfl, by omega, by omega, by intro u hu; simp [Value.cells] at hu; subst hu; rfl⟩
/-- A box that gathers what an iterator yields: numbers. -/
def BoxG (ko base : Nat) (pre : List Int) (W : World) : Prop := ∃ v, RowAt W ko 58 #[v] ∧ W.ownsRow base 3 1 v pre.length (Cs encI pre)
theorem BoxG.stays (ko base : Nat) : Stays (BoxG ko base) := fun _ _ _ ⟨v, h1, h2⟩ hl => ⟨v, h1.lie hl, own_lie h2 hl⟩
theorem Holders_no (a0 a1 a2 a3 : Option Addr) (n0 n1 n2 n3 c0 c1 c2 c3 : Nat) (ts : List Hm) (m : Mon) (s z : Int) (W : World) (h : MonX W W.heap.size a0 a1 a2 a3 n0 n1 n2 n3 ts m) (hs : SmallX n0 n1 n2 n3 ts) (ho : m.ok = false) :
    Calls Try.prog 19 #[.agg (moC a0 a1 a2 a3 n0 n1 n2 n3 c0 c1 c2 c3), .agg #[.int .i64 s, .int .u64 z]] W fun e W' => e = .returned (.slice none 0 0) ∧ Below W.heap.size W W' := by
  obtain ⟨w1, hw1⟩ : ∃ w1, W.alloc (.cells (moC a0 a1 a2 a3 n0 n1 n2 n3 c0 c1 c2 c3) 32) = w1 := ⟨_, rfl⟩
  obtain ⟨w2, hw2⟩ : ∃ w2, w1.alloc (.cells #[.int .i64 s, .int .u64 z] 43) = w2 := ⟨_, rfl⟩
  have b1 : Below W.heap.size W w1 := by rw [← hw1]; exact (Below.refl _ _).alloc (Nat.le_refl _) _
  have b2 : Below w1.heap.size w1 w2 := by rw [← hw2]; exact (Below.refl _ _).alloc (Nat.le_refl _) _
  have r1 : RowAt w2 W.heap.size 32 (moC a0 a1 a2 a3 n0 n1 n2 n3 c0 c1 c2 c3) := by have h := RowAt.new W 32 (moC a0 a1 a2 a3 n0 n1 n2 n3 c0 c1 c2 c3); rw [hw1] at h; exact h.below b2
  have HB := hide (b1.trans (b2.mono b1.size))
  have HC := hide (mcheckX_any w2.heap.size a0 a1 a2 a3 n0 n1 n2 n3 c0 c1 c2 c3 ts m w2 ((h.below HB.out).more HB.out.size) (Nat.le_refl _) hs 220 (by rw [ho]; rfl))
  obtain ⟨x0, x1, x2, x3⟩ := row4 r1
  have xl := r1.lt
  clear b1 b2 r1 h hs ho
  subst hw2
  subst hw1
  go_enter Try.func19, Try.ntmps19
  go_wp2_with fail
  with_reducible refine HC.out.mono ?_
  rintro e w3 ⟨rfl, hb⟩
  have HB3 := hide (HB.out.trans (hb.mono HB.out.size))
  clear hb x0 x1 x2 x3 xl
  go_wp2_with fail
  go_ret
  exact ⟨rfl, HB3.out⟩
set_option maxHeartbeats 2000000 in
set_option maxRecDepth 40000 in
theorem Holders_yes (a0 a1 a2 a3 : Option Addr) (n0 n1 n2 n3 c0 c1 c2 c3 : Nat) (ts : List Hm) (m : Mon) (s z : Int) (W : World) (h : MonX W W.heap.size a0 a1 a2 a3 n0 n1 n2 n3 ts m) (hs : SmallX n0 n1 n2 n3 ts) (ho : m.ok = true) (hs8 : holdM m (s, z) = holdersGo (s, z) 0 (rowsQ ts)) :
    Calls Try.prog 19 #[.agg (moC a0 a1 a2 a3 n0 n1 n2 n3 c0 c1 c2 c3), .agg #[.int .i64 s, .int .u64 z]] W fun e W' => ∃ A' c', e = .returned (.slice A' (holdM m (s, z)).length c') ∧ Rd W' W'.heap.size 1 A' (holdM m (s, z)).length (Cs encI (holdM m (s, z))) ∧ Below W.heap.size W W' := by
  obtain ⟨w1, hw1⟩ : ∃ w1, W.alloc (.cells (moC a0 a1 a2 a3 n0 n1 n2 n3 c0 c1 c2 c3) 32) = w1 := ⟨_, rfl⟩
  obtain ⟨w2, hw2⟩ : ∃ w2, w1.alloc (.cells #[.int .i64 s, .int .u64 z] 43) = w2 := ⟨_, rfl⟩
  have e1 : w1.heap.size = W.heap.size + 1 := by rw [← hw1]; simp
  have b1 : Below W.heap.size W w1 := by rw [← hw1]; exact (Below.refl _ _).alloc (Nat.le_refl _) _
  have b2 : Below w1.heap.size w1 w2 := by rw [← hw2]; exact (Below.refl _ _).alloc (Nat.le_refl _) _
  have r1 : RowAt w2 W.heap.size 32 (moC a0 a1 a2 a3 n0 n1 n2 n3 c0 c1 c2 c3) := by have h := RowAt.new W 32 (moC a0 a1 a2 a3 n0 n1 n2 n3 c0 c1 c2 c3); rw [hw1] at h; exact h.below b2
  have r2 : RowAt w2 (W.heap.size + 1) 43 #[.int .i64 s, .int .u64 z] := by have h := RowAt.new w1 43 #[.int .i64 s, .int .u64 z]; rw [hw2, e1] at h; exact h
  have HB := hide (b1.trans (b2.mono b1.size))
  have R1 := hide r1
  have R2 := hide r2
  have HH := hide h
  have HS := hide hs
  have H8 := hide hs8
  have HC := hide (mcheckX_any w2.heap.size a0 a1 a2 a3 n0 n1 n2 n3 c0 c1 c2 c3 ts m w2 ((h.below HB.out).more HB.out.size) (Nat.le_refl _) hs 0 (by rw [ho]; rfl))
  obtain ⟨x0, x1, x2, x3⟩ := row4 r1
  have xl := r1.lt
  clear b1 b2 r1 r2 e1 h hs ho hs8
  subst hw2
  subst hw1
  refine calls_of_wp_marks Try.func19 rfl ?_
  simp only [Try.ntmps19, List.size_toArray, List.length_cons, List.length_nil, Nat.reduceAdd, Nat.reduceSub, Array.replicate_succ, Array.replicate_zero, List.push_toArray, List.append_toArray, List.nil_append, List.cons_append]
  go_wp2_with fail
  refine HC.out.mono ?_
  rintro e w3 ⟨rfl, hb⟩
  have R1 := hide (R1.out.below hb)
  have R2 := hide (R2.out.below hb)
  have HB3 := hide (HB.out.trans (hb.mono HB.out.size))
  clear x0 x1 x2 x3 xl hb
  obtain ⟨x0, x1, x2, x3⟩ := row4 R1.out
  have xl := R1.out.lt
  have y0 := row20 R2.out
  have y1 := row21 R2.out
  have yl := R2.out.lt
  go_wp2_with fail
  refine (holders_any a0 a1 a2 a3 n0 n1 n2 n3 c0 c1 c2 c3 s z (w3.alloc (.cells #[.slice none 0 0] 58))).mono ?_
  rintro e w5 ⟨rfl, hra, hre, hb⟩
  rw [World.size_alloc] at hra hre hb ⊢
  obtain ⟨ko, hko⟩ : ∃ ko, w3.heap.size = ko := ⟨_, rfl⟩
  have hrow0 : RowAt w5 ko 58 #[.slice none 0 0] := by
    have h := RowAt.new w3 58 #[.slice none 0 0]
    rw [hko] at h
    exact (hb.block ko (by omega)).trans h
  have hs5 := hb.size
  rw [World.size_alloc] at hs5
  have HB5 : Hid (Below W.heap.size W w5) := hide ((HB3.out.alloc HB3.out.size _).trans (hb.mono (by have := HB3.out.size; omega)))
  rw [hko] at hra hre hs5 ⊢
  have hla := hra.lt
  have hle := hre.lt
  have hlW := HB3.out.size
  rw [hko] at hlW
  have hWl : W.heap.size < ko := by rw [← hko]; exact R1.out.lt
  have hrm : RH w5 W.heap.size a2 n2 ts := HH.out.has.below HB5.out
  have hseq := holders_seq (fun j => j ≠ ko ∧ j < w5.heap.size) (ko + 1) (ko + 1 + 1) a0 a1 a2 a3 n0 n1 n2 n3 c0 c1 c2 c3 ts s z w5 hra hre ⟨by omega, hle⟩ (fun j hj => hj.2) (hrm.more HB5.out.size) (fun p hp hpos => by
    obtain ⟨b, off, e, hb1, _⟩ := hrm.rd.2 hpos
    have : p.block = b := by rw [hp] at e; injection e with e; rw [e]
    exact ⟨by omega, by omega⟩) (fun t ht p hp hpos => by
    obtain ⟨b, off, e, hb1, _⟩ := (hrm.qs t ht).2 hpos
    have : p.block = b := by rw [hp] at e; injection e with e; rw [e]
    exact ⟨by omega, by omega⟩) HS.out.rows HS.out.s2
  clear hb x0 x1 x2 x3 xl y0 y1 yl hra hre hko HC hrm
  go_wp2_with fail
  refine wp_range (gf := 62) (lb := #[.pointer (some ⟨ko + 1, 0, none⟩), .pointer (some ⟨ko + 1 + 1, 0, none⟩)]) rfl (enters_of Try.func62 (by kernel_rfl) rfl) hseq ko (by omega) (fun j hj => hj.2) (Below.refl _ _) (fun _ => rfl)
    (BoxG ko w5.heap.size) (fun _ _ _ => False) (BoxG.stays ko w5.heap.size) (fun _ _ _ _ h _ => h) ⟨_, hrow0, World.ownsRow_nil _ _ _ _⟩
    (fun T x a' W => a' = { tmps := (T.setIfInBounds 13 (.int .i64 x)).setIfInBounds 6 (.int .i64 x), defers := [] }) (fun T a' _ _ _ h _ => h) ?assign ?body ?done ?stop ?panic
  case assign =>
    intro l pre x W R hI hb hs hlen hR
    dsimp only [encGo] at hR ⊢
    gi_wp2
    exact hR _ _ (KeepsOthers.of_below (Below.refl _ _)) (Below.refl _ _) (fun _ _ => rfl) hI rfl
  case body =>
    rintro l pre x a' W ⟨v, hrow, hown⟩ rfl hb hs hlen
    simp only [List.setIfInBounds_toArray, List.set_cons_succ, List.set_cons_zero]
    have d1 := row1 hrow
    have HR := hide hrow
    have hWs : ko < W.heap.size := hrow.lt
    have hpl : pre.length < 4096 := Nat.lt_of_lt_of_le hlen HS.out.s2
    clear hrow
    gi_wp2_with (gi_at_builtin; refine wpListIn_app elI rfl _ _ rfl rfl (hown.alloc _) rfl (Rd.new W #[.int .i64 x] 3 1 1 rfl) (by simp [Value.oneCell']) (by omega) (by rw [World.size_alloc]; omega) ?_; intro v2 w3 hown3 hb3 hg3 _; obtain ⟨g2, cap2, rfl, hge2, hlt2⟩ := hown3.form (by omega); have hr3 : RowAt w3 ko 58 #[v] := (HR.out.below ((Below.refl _ _).alloc (Nat.le_refl _) _)).belowB (by omega) hb3; have HR3 := hide hr3; have d3 := row1 hr3; have f3 := hr3.frozen 0; clear hr3)
    have hka : KeepsOthers W w3 := (KeepsOthers.alloc W _).trans (KeepsOthers.of_grownBy hg3 (fun j o hj ho => by
      obtain ⟨o', ho', hc'⟩ := own_cells (hown.alloc (.cells #[.int .i64 x] 3)) hj
      rw [ho'] at ho
      injection ho with ho
      rw [← ho]; exact hc'))
    refine ⟨hka.trans (KeepsOthers.setCell _ _ _), ((Below.refl ko W).alloc (by omega) _).trans ((hb3.mono (show ko ≤ w5.heap.size by omega)).setCell (Nat.le_refl _) _), fun j hj => ?_, ⟨_, HR3.out.set 0 _, ?_⟩⟩
    · have h1 := hj.1
      have h2 := hj.2
      rw [heap_setCell_ne _ _ _ _ (by simpa using h1), hb3.block j (by omega), Below.heap_alloc _ _ _ (by omega)]
    · have h := own_other (w' := w3.setCell ⟨ko, 0, none⟩ (.slice (some ⟨g2, 0, none⟩) (pre.length + 1) cap2)) hown3 (fun g hg => heap_setCell_ne _ _ _ _ (by simp; omega))
      simp only [List.length_append, List.length_cons, List.length_nil, Cs_append, Cs_one]
      exact h
  case done =>
    rintro ys W hys ⟨v, hrow, hown⟩ hb hs hD
    rw [← H8.out] at hys
    subst hys
    have d0 := row1 hrow
    have HO := hide hown
    have hD' := hide hD
    have hlk := hrow.lt
    have hfin := hide (HB5.out.trans (hb.mono hlW))
    clear hrow hown hD hb
    unfold marked
    go_wp2_with fail
    refine ⟨by simp, .inl ⟨_, _, rfl, run_takeDeferred hD'.out, ?_⟩⟩
    obtain ⟨A', c', rfl, hc, hcm⟩ := own_form2 HO.out
    refine ⟨.slice A' (holdM m (s, z)).length c', by simp [results, Try.results19, go_sem], A', c', rfl, ?_, ?_⟩
    · exact Rd.of_own (own_lie HO.out (CellsLie.putObj (.deferred none) hD'.out rfl))
    · exact hfin.out.trans (below_putObj (o := .deferred (some [])) _ (by have := HB5.out.size; omega))
  case stop =>
    rintro c pre W _ h
    exact h.elim
  case panic =>
    rintro pre W h
    exact h.elim
theorem Holders_any (a0 a1 a2 a3 : Option Addr) (n0 n1 n2 n3 c0 c1 c2 c3 : Nat) (ts : List Hm) (m : Mon) (s z : Int) (W : World) (h : MonX W W.heap.size a0 a1 a2 a3 n0 n1 n2 n3 ts m) (hs : SmallX n0 n1 n2 n3 ts) (ys : List Int) (hy : HoldM m (s, z) = ys) (q : Nat) (hq : ys.length = q) :
    Calls Try.prog 19 #[.agg (moC a0 a1 a2 a3 n0 n1 n2 n3 c0 c1 c2 c3), .agg #[.int .i64 s, .int .u64 z]] W fun e W' => (∃ A' c', e = .returned (.slice A' q c') ∧ Rd W' W'.heap.size 1 A' q (Cs encI ys)) ∧ Below W.heap.size W W' := by
  subst hq
  cases ho : m.ok with
  | false =>
    have hy : [] = ys := by rw [← hy]; unfold HoldM; rw [ho]; rfl
    subst hy
    exact (Holders_no a0 a1 a2 a3 n0 n1 n2 n3 c0 c1 c2 c3 ts m s z W h hs ho).mono fun e W' ⟨h1, h2⟩ => ⟨⟨none, 0, h1, Rd.none_⟩, h2⟩
  | true =>
    have hy : holdM m (s, z) = ys := by rw [← hy]; unfold HoldM; rw [ho]; rfl
    subst hy
    exact (Holders_yes a0 a1 a2 a3 n0 n1 n2 n3 c0 c1 c2 c3 ts m s z W h hs ho (by unfold holdM; rw [h.hs])).mono fun e W' ⟨A', c', h1, h2, h3⟩ => ⟨⟨A', c', h1, h2⟩, h3⟩
end Go.Proofs.Ytfpbabafeecncaa

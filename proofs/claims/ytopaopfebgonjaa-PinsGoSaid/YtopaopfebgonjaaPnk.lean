/-
  Pins, the reference: a slot turned, an op done, ops one behind the other.
-/
import Derived.Test.YtopaopfebgonjaaPnj
import Derived.Deep.CutRange
set_option linter.unusedSimpArgs false
set_option linter.unusedVariables false
namespace Go.Proofs.Ytopaopfebgonjaa
open Go Go.RowKit
attribute [local go_sem] via_cell via_frozen
attribute [local go_sem] undef

theorem Rd.setOff {w : World} {B sz n g : Nat} {A : Option Addr} {xs : List Value} (h : Rd w B sz A n xs) (ho : ∀ p, A = some p → p.block ≠ g) (o : Nat) (u : Value) : Rd (w.setCell ⟨g, o, none⟩ u) B sz A n xs := by
  refine ⟨h.1, fun hn => ?_⟩
  obtain ⟨b, off, e, hb, hc⟩ := h.2 hn
  have hne : b ≠ g := ho _ e
  exact ⟨b, off, e, hb, fun j v hv => (World.cell?_setCell_other _ _ _ _ (fun e2 => by cases e2; exact hne rfl)).trans (hc j v hv)⟩
theorem Rd.setOffS {w : World} {sz n g : Nat} {A : Option Addr} {xs : List Value} (h : Rd w w.heap.size sz A n xs) (ho : ∀ p, A = some p → p.block ≠ g) (o : Nat) (u : Value) : Rd (w.setCell ⟨g, o, none⟩ u) (w.setCell ⟨g, o, none⟩ u).heap.size sz A n xs := by
  have := h.setOff ho o u
  simpa using this

def wthS (S : List Int) (g s : Int) : List Int := if 0 ≤ g then S.set g.toNat s else S
theorem wthS_length (S : List Int) (g s : Int) : (wthS S g s).length = S.length := by unfold wthS; split <;> simp
theorem wthS_get (S : List Int) (g s : Int) (k : Nat) (hk : k < S.length) : (wthS S g s)[k]? = some (if (k : Int) = g then s else S[k]) := by
  unfold wthS
  by_cases hg : 0 ≤ g
  · obtain ⟨j, rfl⟩ := Int.eq_ofNat_of_zero_le hg
    rw [if_pos hg, Int.toNat_natCast, List.getElem?_set]
    by_cases hj : j = k
    · subst hj; simp [hk]
    · rw [if_neg hj, if_neg (by omega), List.getElem?_eq_getElem hk]
  · rw [if_neg hg, if_neg (by omega), List.getElem?_eq_getElem hk]

theorem Rd.elemN {w : World} {B n : Nat} {A : Option Addr} {xs : List Int} (h : Rd w B 1 A n (Cs encW xs)) (hx : xs.length = n) {k : Nat} (hk : k < n) {q : Int} (hq : xs[k]? = some q) :
    ∃ b off, A = some ⟨b, off, none⟩ ∧ b < B ∧ w.cell? ⟨b, off + k, none⟩ = some (.int .u64 q) := by
  subst hx
  obtain ⟨b, off, h1, h2, h3⟩ := h.elem encW_len hk
  have h4 := h3 0 _ (by omega) rfl
  rw [List.getElem?_eq_getElem hk] at hq
  injection hq with hq
  rw [hq] at h4
  exact ⟨b, off, h1, h2, by simpa using h4⟩
/-- A box of pins whose slots are a row that grows. -/
def PBox (w : World) (g base : Nat) (e : Int) (k : Nat) (L : List Int) : Prop := ∃ v, RowAt w g 25 #[.int .u64 e, v] ∧ w.ownsRow base 22 1 v k (Cs encW L)
/-- What the reference's 'with' comes to. -/
def WithRes (W : World) (e : Int) (Y : List Int) (m : Nat) (x : Ending) (W' : World) : Prop :=
  ∃ A' c', x = .returned (.agg #[.int .u64 e, .slice A' m c']) ∧ m ≤ c' ∧ c' ≤ 9223372036854775807 ∧ Rd W' W'.heap.size 1 A' m (Cs encW Y) ∧ (∀ p, A' = some p → W.heap.size ≤ p.block) ∧ Below W.heap.size W W'

set_option maxHeartbeats 2000000 in
theorem with_any (A : Option Addr) (c n : Nat) (e g s : Int) (S : List Int) (W : World) (h : Rd W W.heap.size 1 A n (Cs encW S)) (hx : S.length = n) (hn : n ≤ 4096) :
    Calls Try.prog 31 #[.agg #[.int .u64 e, .slice A n c], .int .i64 g, .int .u64 s] W (WithRes W e (wthS S g s) n) := by
  subst hx
  have H := hide h
  have hb0 : Below W.heap.size W (((W.alloc (.cells #[.int .u64 e, .slice A S.length c] 25)).alloc (.cells #[.int .u64 0, .slice none 0 0] 25)).alloc (.cells #[.int .u64 e, .slice none 0 0] 25)) := (((Below.refl _ _).alloc (Nat.le_refl _) _).alloc (by simp) _).alloc (by simp; omega) _
  have r1 : RowAt (((W.alloc (.cells #[.int .u64 e, .slice A S.length c] 25)).alloc (.cells #[.int .u64 0, .slice none 0 0] 25)).alloc (.cells #[.int .u64 e, .slice none 0 0] 25)) W.heap.size 25 #[.int .u64 e, .slice A S.length c] :=
    (RowAt.new W 25 #[.int .u64 e, .slice A S.length c]).below (((Below.refl _ _).alloc (Nat.le_refl _) _).alloc (by simp) _)
  have r2 : RowAt (((W.alloc (.cells #[.int .u64 e, .slice A S.length c] 25)).alloc (.cells #[.int .u64 0, .slice none 0 0] 25)).alloc (.cells #[.int .u64 e, .slice none 0 0] 25)) (W.heap.size + 1) 25 #[.int .u64 0, .slice none 0 0] := by
    have h := RowAt.new (W.alloc (.cells #[.int .u64 e, .slice A S.length c] 25)) 25 #[.int .u64 0, .slice none 0 0]
    rw [World.size_alloc] at h
    exact h.below ((Below.refl _ _).alloc (Nat.le_refl _) _)
  have r3 : RowAt (((W.alloc (.cells #[.int .u64 e, .slice A S.length c] 25)).alloc (.cells #[.int .u64 0, .slice none 0 0] 25)).alloc (.cells #[.int .u64 e, .slice none 0 0] 25)) (W.heap.size + 1 + 1) 25 #[.int .u64 e, .slice none 0 0] := by
    have h := RowAt.new ((W.alloc (.cells #[.int .u64 e, .slice A S.length c] 25)).alloc (.cells #[.int .u64 0, .slice none 0 0] 25)) 25 #[.int .u64 e, .slice none 0 0]
    rw [World.size_alloc, World.size_alloc] at h
    exact h
  have H0 := hide hb0
  have H1 := hide r1
  have H2 := hide r2
  have H3 := hide r3
  clear hb0 r1 r2 r3 h
  go_enter Try.func31, Try.ntmps31
  go_wp2_with fail
  generalize (((W.alloc (.cells #[.int .u64 e, .slice A S.length c] 25)).alloc (.cells #[.int .u64 0, .slice none 0 0] 25)).alloc (.cells #[.int .u64 e, .slice none 0 0] 25)) = w0 at *
  go_loopw [16] (fun i wr => ∃ (k : Nat), k ≤ S.length ∧ i = .int .i64 k ∧ RowAt wr W.heap.size 25 #[.int .u64 e, .slice A S.length c] ∧ RowAt wr (W.heap.size + 1) 25 #[.int .u64 0, .slice none 0 0] ∧ PBox wr (W.heap.size + 1 + 1) (W.heap.size + 1 + 1 + 1) e k ((wthS S g s).take k) ∧ Below W.heap.size W wr) (fun i _ => S.length - (intOf i).toNat)
  case atStart => exact ⟨0, Nat.zero_le _, rfl, H1.out, H2.out, ⟨_, H3.out, World.ownsRow_nil _ _ _ _⟩, H0.out⟩
  case round =>
    obtain ⟨k, hk, rfl, hr1, hr2, ⟨v, hr3, hown⟩, hbw⟩ := hrel
    have HB := hide hbw
    have R1 := hide hr1
    have R2 := hide hr2
    have R3 := hide hr3
    have HO := hide hown
    have hsz : W.heap.size + 1 + 1 < wr.heap.size := hr3.lt
    have x1 := row21 hr1
    have d0 := row20 hr3
    have d1 := row21 hr3
    have f1 := hr3.frozen 1
    clear hr1 hr2 hr3 hown hbw
    obtain ⟨Av, cv, rfl, hcv, hcmv⟩ := own_form2 HO.out
    by_cases hlt : k < S.length
    · obtain ⟨b1, o1, rfl, hb1, hc1⟩ := (H.out.below HB.out).elem encW_len hlt
      have hd10 := hc1 0 _ (by omega) rfl
      simp only [Nat.mul_one, Nat.add_zero] at hd10
      clear hc1
      have hbl1 : b1 < wr.heap.size := by omega
      have HG := hide (wthS_get S g s k hlt)
      have HL := hide (wthS_length S g s)
      generalize S[k] = q at *
      by_cases hkg : (k : Int) = g
      · have hkb : ((k : Int) == g) = true := by simpa using hkg
        have HT := hide (show (wthS S g s).take (k + 1) = (wthS S g s).take k ++ [s] by
          have h := HG.out
          rw [if_pos hkg] at h
          obtain ⟨hl, hv⟩ := List.getElem?_eq_some_iff.1 h
          rw [List.take_succ_eq_append_getElem hl, hv])
        have HRN := hide (Rd.new wr #[.int .u64 s] 22 1 1 rfl)
        clear hkg
        go_wp2_with (at_builtin; refine wpList_app elW rfl _ _ rfl rfl (HO.out.alloc _) rfl HRN.out (by simp [Value.oneCell']) (by omega) (by simp; omega) ?_; intro v2 w2 hown2 hb3 _ _; have HB4 := hide (((Below.refl (W.heap.size + 1 + 1 + 1) wr).alloc (by omega) (.cells #[.int .u64 s] 22)).trans hb3); have HR4 := hide (R3.out.belowB (by omega) HB4.out); obtain ⟨A2, c2, rfl, hc2, hcm2⟩ := own_form2 hown2; have HO4 := hide hown2; have m0 := row20 HR4.out; have m1 := row21 HR4.out; have n1 := HR4.out.frozen 1; have l4 := HR4.out.lt; clear hown2 hb3)
        go_roundw
        case rel =>
          refine ⟨_, _, .int .i64 ((k : Int) + 1), ⟨k + 1, by omega, by go_num, (R1.out.belowB (by omega) HB4.out).setNe (by omega), (R2.out.belowB (by omega) HB4.out).setNe (by omega), ⟨_, HR4.out.set 1 _, ?_⟩, (HB.out.trans (HB4.out.mono (by omega))).setCell (p := ⟨W.heap.size + 1 + 1, 1, none⟩) (by simp; omega) _⟩, rfl, rfl, rfl⟩
          rw [HT.out, Cs_append]
          exact own_other HO4.out (fun j hj => heap_setCell_ne _ _ _ _ (by show j ≠ W.heap.size + 1 + 1; omega))
        case measure => simp [intOf]; omega
      · have hkb : ((k : Int) == g) = false := by simpa using hkg
        have HT := hide (show (wthS S g s).take (k + 1) = (wthS S g s).take k ++ [q] by
          have h := HG.out
          rw [if_neg hkg] at h
          obtain ⟨hl, hv⟩ := List.getElem?_eq_some_iff.1 h
          rw [List.take_succ_eq_append_getElem hl, hv])
        have HRN := hide (Rd.new wr #[.int .u64 q] 22 1 1 rfl)
        clear hkg
        go_wp2_with (at_builtin; refine wpList_app elW rfl _ _ rfl rfl (HO.out.alloc _) rfl HRN.out (by simp [Value.oneCell']) (by omega) (by simp; omega) ?_; intro v2 w2 hown2 hb3 _ _; have HB4 := hide (((Below.refl (W.heap.size + 1 + 1 + 1) wr).alloc (by omega) (.cells #[.int .u64 q] 22)).trans hb3); have HR4 := hide (R3.out.belowB (by omega) HB4.out); obtain ⟨A2, c2, rfl, hc2, hcm2⟩ := own_form2 hown2; have HO4 := hide hown2; have m0 := row20 HR4.out; have m1 := row21 HR4.out; have n1 := HR4.out.frozen 1; have l4 := HR4.out.lt; clear hown2 hb3)
        go_roundw
        case rel =>
          refine ⟨_, _, .int .i64 ((k : Int) + 1), ⟨k + 1, by omega, by go_num, (R1.out.belowB (by omega) HB4.out).setNe (by omega), (R2.out.belowB (by omega) HB4.out).setNe (by omega), ⟨_, HR4.out.set 1 _, ?_⟩, (HB.out.trans (HB4.out.mono (by omega))).setCell (p := ⟨W.heap.size + 1 + 1, 1, none⟩) (by simp; omega) _⟩, rfl, rfl, rfl⟩
          rw [HT.out, Cs_append]
          exact own_other HO4.out (fun j hj => heap_setCell_ne _ _ _ _ (by show j ≠ W.heap.size + 1 + 1; omega))
        case measure => simp [intOf]; omega
    · obtain rfl : k = S.length := by omega
      have h := HO.out
      rw [List.take_of_length_le (by rw [wthS_length]; omega)] at h
      have y0 := row20 R2.out
      have y1 := row21 R2.out
      have g0 := R2.out.frozen 0
      have g1 := R2.out.frozen 1
      have ly := R2.out.lt
      have HOF := hide h
      clear h HO
      go_wp2_with fail
      have hr4 := (R2.out.set 0 (.int .u64 e)).set 1 (.slice Av S.length cv)
      have hb4 : Below W.heap.size W ((wr.setCell ⟨W.heap.size + 1, 0, none⟩ (.int .u64 e)).setCell ⟨W.heap.size + 1, 1, none⟩ (.slice Av S.length cv)) := (HB.out.setCell (p := ⟨W.heap.size + 1, 0, none⟩) (by simp) _).setCell (p := ⟨W.heap.size + 1, 1, none⟩) (by simp) _
      have hfr := own_fresh HOF.out
      have hrd := ((Rd.of_own HOF.out).setOffS (fun p hp => by have := hfr p hp; omega) 0 (.int .u64 e) (g := W.heap.size + 1)).setOffS (fun p hp => by have := hfr p hp; omega) 1 (.slice Av S.length cv) (g := W.heap.size + 1)
      generalize ((wr.setCell ⟨W.heap.size + 1, 0, none⟩ (.int .u64 e)).setCell ⟨W.heap.size + 1, 1, none⟩ (.slice Av S.length cv)) = wF at *
      have hr5 : RowAt wF (W.heap.size + 1) 25 #[.int .u64 e, .slice Av S.length cv] := by simpa using hr4
      refine bodyPost_ret (v := .agg #[.int .u64 e, .slice Av S.length cv]) (by simp [results, Try.results31, go_sem, row20 hr5, row21 hr5, hr5.lt]) rfl ⟨Av, cv, rfl, hcv, hcmv, hrd, fun p hp => by have := hfr p hp; omega, hb4⟩

def RdoRes (W : World) (E X : Int) (Y : List Int) (m : Nat) (x : Ending) (W' : World) : Prop :=
  ∃ A' c', x = .returned (.tuple #[.agg #[.int .u64 X, .slice A' m c'], .int .i64 E]) ∧ m ≤ c' ∧ c' ≤ 9223372036854775807 ∧ Rd W' W'.heap.size 1 A' m (Cs encW Y) ∧ (∀ p, A' = some p → W.heap.size ≤ p.block) ∧ Below W.heap.size W W'

/-- What lies ahead of the first statement. -/
structure DoAt (W w : World) (A : Option Addr) (n c : Nat) (e k g b : Int) : Prop where
  below : Below W.heap.size W w
  pins : RowAt w W.heap.size 25 #[.int .u64 e, .slice A n c]
  op : RowAt w (W.heap.size + 1) 32 #[.int .i64 k, .int .i64 g, .int .u64 b]
  out : RowAt w (W.heap.size + 1 + 1) 25 #[.int .u64 0, .slice none 0 0]
theorem DoAt.mk' (W : World) (A : Option Addr) (n c : Nat) (e k g b : Int) : DoAt W (((W.alloc (.cells #[.int .u64 e, .slice A n c] 25)).alloc (.cells #[.int .i64 k, .int .i64 g, .int .u64 b] 32)).alloc (.cells #[.int .u64 0, .slice none 0 0] 25)) A n c e k g b := by
  refine ⟨(((Below.refl _ _).alloc (Nat.le_refl _) _).alloc (by simp) _).alloc (by simp; omega) _, (RowAt.new W 25 #[.int .u64 e, .slice A n c]).below (((Below.refl _ _).alloc (Nat.le_refl _) _).alloc (by simp) _), ?_, ?_⟩
  · have h := RowAt.new (W.alloc (.cells #[.int .u64 e, .slice A n c] 25)) 32 #[.int .i64 k, .int .i64 g, .int .u64 b]
    rw [World.size_alloc] at h
    exact h.below ((Below.refl _ _).alloc (Nat.le_refl _) _)
  · have h := RowAt.new ((W.alloc (.cells #[.int .u64 e, .slice A n c] 25)).alloc (.cells #[.int .i64 k, .int .i64 g, .int .u64 b] 32)) 25 #[.int .u64 0, .slice none 0 0]
    rw [World.size_alloc, World.size_alloc] at h
    exact h
theorem DoAt.next {W w w' : World} {A : Option Addr} {n c : Nat} {e k g b : Int} (h : DoAt W w A n c e k g b) (hb : Below w.heap.size w w') : DoAt W w' A n c e k g b := ⟨h.below.trans (hb.mono h.below.size), h.pins.below hb, h.op.below hb, h.out.below hb⟩
theorem row30 {w : World} {g : Nat} {t : TypeId} {a b c : Value} (h : RowAt w g t #[a, b, c]) : w.cell? ⟨g, 0, none⟩ = some a := by have := h.cell 0; simpa using this
theorem row31 {w : World} {g : Nat} {t : TypeId} {a b c : Value} (h : RowAt w g t #[a, b, c]) : w.cell? ⟨g, 1, none⟩ = some b := by have := h.cell 1; simpa using this
theorem row32 {w : World} {g : Nat} {t : TypeId} {a b c : Value} (h : RowAt w g t #[a, b, c]) : w.cell? ⟨g, 2, none⟩ = some c := by have := h.cell 2; simpa using this

set_option maxRecDepth 20000 in
set_option maxHeartbeats 2000000 in
theorem rDo_k0 (A : Option Addr) (c n : Nat) (e : Int) (S : List Int) (k g b : Int) (W : World) (h : Rd W W.heap.size 1 A n (Cs encW S)) (hx : S.length = n) (h0 : 0 ≤ e) (he : e ≤ 4611686018427387904) (hS : ∀ s ∈ S, U64 s) (hb : 0 ≤ b) (hl : n ≤ 4096) (hk : k < 1) :
    Calls Try.prog 13 #[.agg #[.int .u64 e, .slice A n c], .agg #[.int .i64 k, .int .i64 g, .int .u64 b]] W (RdoRes W 2 (0) ([]) 0) := by
  have HA := DoAt.mk' W A n c e k g b
  have AT := hide HA
  have HR := hide h
  have HX := hide hx
  have HS := hide hS
  clear HA h hx hS
  skip
  have z0 := row20 AT.out.pins
  have z1 := row21 AT.out.pins
  have y0 := row30 AT.out.op
  have y1 := row31 AT.out.op
  have y2 := row32 AT.out.op
  have f0 := AT.out.out.frozen 0
  have f1 := AT.out.out.frozen 1
  have v0 := row20 AT.out.out
  have v1 := row21 AT.out.out
  have l1 := AT.out.pins.lt
  have l2 := AT.out.op.lt
  have l3 := AT.out.out.lt
  go_enter Try.func13, Try.ntmps13
  go_wp2_with fail
  generalize (((W.alloc (.cells #[.int .u64 e, .slice A n c] 25)).alloc (.cells #[.int .i64 k, .int .i64 g, .int .u64 b] 32)).alloc (.cells #[.int .u64 0, .slice none 0 0] 25)) = w1 at *
  skip
  exact bodyPost_ret (v := .tuple #[.agg #[.int .u64 0, .slice none 0 0], .int .i64 2]) (by simp [results, Try.results13, go_sem, row20 AT.out.out, row21 AT.out.out, AT.out.out.lt]) rfl ⟨none, 0, rfl, Nat.le_refl _, by omega, Rd.none_, fun p hp => (by cases hp), AT.out.below⟩

set_option maxRecDepth 20000 in
set_option maxHeartbeats 2000000 in
theorem rDo_k4 (A : Option Addr) (c n : Nat) (e : Int) (S : List Int) (k g b : Int) (W : World) (h : Rd W W.heap.size 1 A n (Cs encW S)) (hx : S.length = n) (h0 : 0 ≤ e) (he : e ≤ 4611686018427387904) (hS : ∀ s ∈ S, U64 s) (hb : 0 ≤ b) (hl : n ≤ 4096) (hk : 3 < k) :
    Calls Try.prog 13 #[.agg #[.int .u64 e, .slice A n c], .agg #[.int .i64 k, .int .i64 g, .int .u64 b]] W (RdoRes W 2 (0) ([]) 0) := by
  have HA := DoAt.mk' W A n c e k g b
  have AT := hide HA
  have HR := hide h
  have HX := hide hx
  have HS := hide hS
  clear HA h hx hS
  have k1 : decide (k < 1) = false := by simp; omega
  have z0 := row20 AT.out.pins
  have z1 := row21 AT.out.pins
  have y0 := row30 AT.out.op
  have y1 := row31 AT.out.op
  have y2 := row32 AT.out.op
  have f0 := AT.out.out.frozen 0
  have f1 := AT.out.out.frozen 1
  have v0 := row20 AT.out.out
  have v1 := row21 AT.out.out
  have l1 := AT.out.pins.lt
  have l2 := AT.out.op.lt
  have l3 := AT.out.out.lt
  go_enter Try.func13, Try.ntmps13
  go_wp2_with fail
  generalize (((W.alloc (.cells #[.int .u64 e, .slice A n c] 25)).alloc (.cells #[.int .i64 k, .int .i64 g, .int .u64 b] 32)).alloc (.cells #[.int .u64 0, .slice none 0 0] 25)) = w1 at *
  skip
  exact bodyPost_ret (v := .tuple #[.agg #[.int .u64 0, .slice none 0 0], .int .i64 2]) (by simp [results, Try.results13, go_sem, row20 AT.out.out, row21 AT.out.out, AT.out.out.lt]) rfl ⟨none, 0, rfl, Nat.le_refl _, by omega, Rd.none_, fun p hp => (by cases hp), AT.out.below⟩

set_option maxRecDepth 20000 in
set_option maxHeartbeats 2000000 in
theorem rDo_g0 (A : Option Addr) (c n : Nat) (e : Int) (S : List Int) (k g b : Int) (W : World) (h : Rd W W.heap.size 1 A n (Cs encW S)) (hx : S.length = n) (h0 : 0 ≤ e) (he : e ≤ 4611686018427387904) (hS : ∀ s ∈ S, U64 s) (hb : 0 ≤ b) (hl : n ≤ 4096) (hk : k = 1 ∨ k = 2) (hg : g < 0) :
    Calls Try.prog 13 #[.agg #[.int .u64 e, .slice A n c], .agg #[.int .i64 k, .int .i64 g, .int .u64 b]] W (RdoRes W 2 (0) ([]) 0) := by
  have HA := DoAt.mk' W A n c e k g b
  have AT := hide HA
  have HR := hide h
  have HX := hide hx
  have HS := hide hS
  clear HA h hx hS
  have k1 : decide (k < 1) = false := by simp; omega
  have k2 : decide (3 < k) = false := by simp; omega
  have k3 : (k != 3) = true := by simp; omega
  have z0 := row20 AT.out.pins
  have z1 := row21 AT.out.pins
  have y0 := row30 AT.out.op
  have y1 := row31 AT.out.op
  have y2 := row32 AT.out.op
  have f0 := AT.out.out.frozen 0
  have f1 := AT.out.out.frozen 1
  have v0 := row20 AT.out.out
  have v1 := row21 AT.out.out
  have l1 := AT.out.pins.lt
  have l2 := AT.out.op.lt
  have l3 := AT.out.out.lt
  go_enter Try.func13, Try.ntmps13
  go_wp2_with fail
  generalize (((W.alloc (.cells #[.int .u64 e, .slice A n c] 25)).alloc (.cells #[.int .i64 k, .int .i64 g, .int .u64 b] 32)).alloc (.cells #[.int .u64 0, .slice none 0 0] 25)) = w1 at *
  skip
  exact bodyPost_ret (v := .tuple #[.agg #[.int .u64 0, .slice none 0 0], .int .i64 2]) (by simp [results, Try.results13, go_sem, row20 AT.out.out, row21 AT.out.out, AT.out.out.lt]) rfl ⟨none, 0, rfl, Nat.le_refl _, by omega, Rd.none_, fun p hp => (by cases hp), AT.out.below⟩

set_option maxRecDepth 20000 in
set_option maxHeartbeats 2000000 in
theorem rDo_gn (A : Option Addr) (c n : Nat) (e : Int) (S : List Int) (k g b : Int) (W : World) (h : Rd W W.heap.size 1 A n (Cs encW S)) (hx : S.length = n) (h0 : 0 ≤ e) (he : e ≤ 4611686018427387904) (hS : ∀ s ∈ S, U64 s) (hb : 0 ≤ b) (hl : n ≤ 4096) (hk : k = 1 ∨ k = 2) (hg : (n : Int) ≤ g) :
    Calls Try.prog 13 #[.agg #[.int .u64 e, .slice A n c], .agg #[.int .i64 k, .int .i64 g, .int .u64 b]] W (RdoRes W 2 (0) ([]) 0) := by
  have HA := DoAt.mk' W A n c e k g b
  have AT := hide HA
  have HR := hide h
  have HX := hide hx
  have HS := hide hS
  clear HA h hx hS
  have k1 : decide (k < 1) = false := by simp; omega
  have k2 : decide (3 < k) = false := by simp; omega
  have k3 : (k != 3) = true := by simp; omega
  have g1 : decide (g < 0) = false := by simp; omega
  have z0 := row20 AT.out.pins
  have z1 := row21 AT.out.pins
  have y0 := row30 AT.out.op
  have y1 := row31 AT.out.op
  have y2 := row32 AT.out.op
  have f0 := AT.out.out.frozen 0
  have f1 := AT.out.out.frozen 1
  have v0 := row20 AT.out.out
  have v1 := row21 AT.out.out
  have l1 := AT.out.pins.lt
  have l2 := AT.out.op.lt
  have l3 := AT.out.out.lt
  go_enter Try.func13, Try.ntmps13
  go_wp2_with fail
  generalize (((W.alloc (.cells #[.int .u64 e, .slice A n c] 25)).alloc (.cells #[.int .i64 k, .int .i64 g, .int .u64 b] 32)).alloc (.cells #[.int .u64 0, .slice none 0 0] 25)) = w1 at *
  skip
  exact bodyPost_ret (v := .tuple #[.agg #[.int .u64 0, .slice none 0 0], .int .i64 2]) (by simp [results, Try.results13, go_sem, row20 AT.out.out, row21 AT.out.out, AT.out.out.lt]) rfl ⟨none, 0, rfl, Nat.le_refl _, by omega, Rd.none_, fun p hp => (by cases hp), AT.out.below⟩

set_option maxRecDepth 20000 in
set_option maxHeartbeats 2000000 in
theorem rDo_3held (A : Option Addr) (c n : Nat) (e : Int) (S : List Int) (k g b : Int) (W : World) (h : Rd W W.heap.size 1 A n (Cs encW S)) (hx : S.length = n) (h0 : 0 ≤ e) (he : e ≤ 4611686018427387904) (hS : ∀ s ∈ S, U64 s) (hb : 0 ≤ b) (hl : n ≤ 4096) (m0 : Nat) (hm : (backL e S).length = m0) (hm0 : 0 < m0) :
    Calls Try.prog 13 #[.agg #[.int .u64 e, .slice A n c], .agg #[.int .i64 3, .int .i64 g, .int .u64 b]] W (RdoRes W 231 (0) ([]) 0) := by
  have HA := DoAt.mk' W A n c e 3 g b
  have AT := hide HA
  have HR := hide h
  have HX := hide hx
  have HS := hide hS
  clear HA h hx hS
  have HM := hide hm
  clear hm
  have z0 := row20 AT.out.pins
  have z1 := row21 AT.out.pins
  have y0 := row30 AT.out.op
  have y1 := row31 AT.out.op
  have y2 := row32 AT.out.op
  have f0 := AT.out.out.frozen 0
  have f1 := AT.out.out.frozen 1
  have v0 := row20 AT.out.out
  have v1 := row21 AT.out.out
  have l1 := AT.out.pins.lt
  have l2 := AT.out.op.lt
  have l3 := AT.out.out.lt
  go_enter Try.func13, Try.ntmps13
  go_wp2_with fail
  generalize (((W.alloc (.cells #[.int .u64 e, .slice A n c] 25)).alloc (.cells #[.int .i64 3, .int .i64 g, .int .u64 b] 32)).alloc (.cells #[.int .u64 0, .slice none 0 0] 25)) = w1 at *
  skip
  have HBK := hide (rBack_any A c n e S w1 ((HR.out.below AT.out.below).more AT.out.below.size) HX.out HS.out hl m0 HM.out)
  refine HBK.out.mono ?_
  rintro x w2 ⟨A2, c2, rfl, hc2, hcm2, hrd, hb2⟩
  replace AT := hide (AT.out.next hb2)
  have hw0sz : W.heap.size + 1 + 1 < w1.heap.size := l3
  clear hb2 hrd z0 z1 y0 y1 y2 f0 f1 v0 v1 l1 l2 l3 HBK
  have z0 := row20 AT.out.pins
  have z1 := row21 AT.out.pins
  have y0 := row30 AT.out.op
  have y1 := row31 AT.out.op
  have y2 := row32 AT.out.op
  have f0 := AT.out.out.frozen 0
  have f1 := AT.out.out.frozen 1
  have v0 := row20 AT.out.out
  have v1 := row21 AT.out.out
  have l1 := AT.out.pins.lt
  have l2 := AT.out.op.lt
  have l3 := AT.out.out.lt
  go_wp2_with fail
  have hr4 := (AT.out.out.set 0 (.int .u64 0)).set 1 (.slice none 0 0)
  have hb4 : Below W.heap.size W ((w2.setCell ⟨W.heap.size + 1 + 1, 0, none⟩ (.int .u64 0)).setCell ⟨W.heap.size + 1 + 1, 1, none⟩ (.slice none 0 0)) := (AT.out.below.setCell (p := ⟨W.heap.size + 1 + 1, 0, none⟩) (by simp; omega) _).setCell (p := ⟨W.heap.size + 1 + 1, 1, none⟩) (by simp; omega) _
  generalize ((w2.setCell ⟨W.heap.size + 1 + 1, 0, none⟩ (.int .u64 0)).setCell ⟨W.heap.size + 1 + 1, 1, none⟩ (.slice none 0 0)) = wF at *
  have hr5 : RowAt wF (W.heap.size + 1 + 1) 25 #[.int .u64 0, .slice none 0 0] := by simpa using hr4
  exact bodyPost_ret (v := .tuple #[.agg #[.int .u64 0, .slice none 0 0], .int .i64 231]) (by simp [results, Try.results13, go_sem, row20 hr5, row21 hr5, hr5.lt]) rfl ⟨none, 0, rfl, Nat.le_refl _, by omega, Rd.none_, fun p hp => (by cases hp), hb4⟩

set_option maxRecDepth 20000 in
set_option maxHeartbeats 2000000 in
theorem rDo_3full (A : Option Addr) (c n : Nat) (e : Int) (S : List Int) (k g b : Int) (W : World) (h : Rd W W.heap.size 1 A n (Cs encW S)) (hx : S.length = n) (h0 : 0 ≤ e) (he : e ≤ 4611686018427387904) (hS : ∀ s ∈ S, U64 s) (hb : 0 ≤ b) (hl : n ≤ 4096) (m0 : Nat) (hm : (backL e S).length = m0) (hm0 : m0 = 0) (hem : e = 4611686018427387904) :
    Calls Try.prog 13 #[.agg #[.int .u64 e, .slice A n c], .agg #[.int .i64 3, .int .i64 g, .int .u64 b]] W (RdoRes W 6 (0) ([]) 0) := by
  have HA := DoAt.mk' W A n c e 3 g b
  have AT := hide HA
  have HR := hide h
  have HX := hide hx
  have HS := hide hS
  clear HA h hx hS
  have HM := hide hm
  clear hm
  subst hm0
  have he1 : (e == 4611686018427387904) = true := by simpa using hem
  clear hem
  have z0 := row20 AT.out.pins
  have z1 := row21 AT.out.pins
  have y0 := row30 AT.out.op
  have y1 := row31 AT.out.op
  have y2 := row32 AT.out.op
  have f0 := AT.out.out.frozen 0
  have f1 := AT.out.out.frozen 1
  have v0 := row20 AT.out.out
  have v1 := row21 AT.out.out
  have l1 := AT.out.pins.lt
  have l2 := AT.out.op.lt
  have l3 := AT.out.out.lt
  go_enter Try.func13, Try.ntmps13
  go_wp2_with fail
  generalize (((W.alloc (.cells #[.int .u64 e, .slice A n c] 25)).alloc (.cells #[.int .i64 3, .int .i64 g, .int .u64 b] 32)).alloc (.cells #[.int .u64 0, .slice none 0 0] 25)) = w1 at *
  skip
  have HBK := hide (rBack_any A c n e S w1 ((HR.out.below AT.out.below).more AT.out.below.size) HX.out HS.out hl 0 HM.out)
  refine HBK.out.mono ?_
  rintro x w2 ⟨A2, c2, rfl, hc2, hcm2, hrd, hb2⟩
  replace AT := hide (AT.out.next hb2)
  have hw0sz : W.heap.size + 1 + 1 < w1.heap.size := l3
  clear hb2 hrd z0 z1 y0 y1 y2 f0 f1 v0 v1 l1 l2 l3 HBK
  have z0 := row20 AT.out.pins
  have z1 := row21 AT.out.pins
  have y0 := row30 AT.out.op
  have y1 := row31 AT.out.op
  have y2 := row32 AT.out.op
  have f0 := AT.out.out.frozen 0
  have f1 := AT.out.out.frozen 1
  have v0 := row20 AT.out.out
  have v1 := row21 AT.out.out
  have l1 := AT.out.pins.lt
  have l2 := AT.out.op.lt
  have l3 := AT.out.out.lt
  go_wp2_with fail
  have hr4 := (AT.out.out.set 0 (.int .u64 0)).set 1 (.slice none 0 0)
  have hb4 : Below W.heap.size W ((w2.setCell ⟨W.heap.size + 1 + 1, 0, none⟩ (.int .u64 0)).setCell ⟨W.heap.size + 1 + 1, 1, none⟩ (.slice none 0 0)) := (AT.out.below.setCell (p := ⟨W.heap.size + 1 + 1, 0, none⟩) (by simp; omega) _).setCell (p := ⟨W.heap.size + 1 + 1, 1, none⟩) (by simp; omega) _
  generalize ((w2.setCell ⟨W.heap.size + 1 + 1, 0, none⟩ (.int .u64 0)).setCell ⟨W.heap.size + 1 + 1, 1, none⟩ (.slice none 0 0)) = wF at *
  have hr5 : RowAt wF (W.heap.size + 1 + 1) 25 #[.int .u64 0, .slice none 0 0] := by simpa using hr4
  exact bodyPost_ret (v := .tuple #[.agg #[.int .u64 0, .slice none 0 0], .int .i64 6]) (by simp [results, Try.results13, go_sem, row20 hr5, row21 hr5, hr5.lt]) rfl ⟨none, 0, rfl, Nat.le_refl _, by omega, Rd.none_, fun p hp => (by cases hp), hb4⟩

set_option maxRecDepth 20000 in
set_option maxHeartbeats 2000000 in
theorem rDo_3ok (A : Option Addr) (c n : Nat) (e : Int) (S : List Int) (k g b : Int) (W : World) (h : Rd W W.heap.size 1 A n (Cs encW S)) (hx : S.length = n) (h0 : 0 ≤ e) (he : e ≤ 4611686018427387904) (hS : ∀ s ∈ S, U64 s) (hb : 0 ≤ b) (hl : n ≤ 4096) (m0 : Nat) (hm : (backL e S).length = m0) (hm0 : m0 = 0) (hem : e < 4611686018427387904) :
    Calls Try.prog 13 #[.agg #[.int .u64 e, .slice A n c], .agg #[.int .i64 3, .int .i64 g, .int .u64 b]] W (RdoRes W 0 (e + 1) (S) n) := by
  have HA := DoAt.mk' W A n c e 3 g b
  have AT := hide HA
  have HR := hide h
  have HX := hide hx
  have HS := hide hS
  clear HA h hx hS
  have HM := hide hm
  clear hm
  subst hm0
  have he1 : (e == 4611686018427387904) = false := by simp; omega
  have u0 : (0 : Int) ≤ e + 1 := by omega
  have u1 : e + 1 < 18446744073709551616 := by omega
  have z0 := row20 AT.out.pins
  have z1 := row21 AT.out.pins
  have y0 := row30 AT.out.op
  have y1 := row31 AT.out.op
  have y2 := row32 AT.out.op
  have f0 := AT.out.out.frozen 0
  have f1 := AT.out.out.frozen 1
  have v0 := row20 AT.out.out
  have v1 := row21 AT.out.out
  have l1 := AT.out.pins.lt
  have l2 := AT.out.op.lt
  have l3 := AT.out.out.lt
  go_enter Try.func13, Try.ntmps13
  go_wp2_with fail
  generalize (((W.alloc (.cells #[.int .u64 e, .slice A n c] 25)).alloc (.cells #[.int .i64 3, .int .i64 g, .int .u64 b] 32)).alloc (.cells #[.int .u64 0, .slice none 0 0] 25)) = w1 at *
  skip
  have HBK := hide (rBack_any A c n e S w1 ((HR.out.below AT.out.below).more AT.out.below.size) HX.out HS.out hl 0 HM.out)
  refine HBK.out.mono ?_
  rintro x w2 ⟨A2, c2, rfl, hc2, hcm2, hrd, hb2⟩
  replace AT := hide (AT.out.next hb2)
  have hw0sz : W.heap.size + 1 + 1 < w1.heap.size := l3
  clear hb2 hrd z0 z1 y0 y1 y2 f0 f1 v0 v1 l1 l2 l3 HBK
  have z0 := row20 AT.out.pins
  have z1 := row21 AT.out.pins
  have y0 := row30 AT.out.op
  have y1 := row31 AT.out.op
  have y2 := row32 AT.out.op
  have f0 := AT.out.out.frozen 0
  have f1 := AT.out.out.frozen 1
  have v0 := row20 AT.out.out
  have v1 := row21 AT.out.out
  have l1 := AT.out.pins.lt
  have l2 := AT.out.op.lt
  have l3 := AT.out.out.lt
  go_wp2_with fail
  have HW := hide (with_any A c n (e + 1) (-1) 0 S w2 ((HR.out.below AT.out.below).more AT.out.below.size) HX.out hl)
  rw [show wthS S (-1) 0 = S from rfl] at HW
  clear z0 z1 y0 y1 y2 f0 f1 v0 v1 l1 l2 l3
  have hw0sz2 : W.heap.size + 1 + 1 < w2.heap.size := AT.out.out.lt
  refine HW.out.mono ?_
  rintro x w3 ⟨A2, c2, rfl, hc2, hcm2, hrd, hfr, hb⟩
  replace AT := hide (AT.out.next hb)
  have HRD := hide hrd
  have HFR := hide hfr
  clear hrd hfr hb
  have f0 := AT.out.out.frozen 0
  have f1 := AT.out.out.frozen 1
  have v0 := row20 AT.out.out
  have v1 := row21 AT.out.out
  have l3 := AT.out.out.lt
  go_wp2_with fail
  have hr4 := (AT.out.out.set 0 (.int .u64 (e + 1))).set 1 (.slice A2 n c2)
  have hb4 : Below W.heap.size W ((w3.setCell ⟨W.heap.size + 1 + 1, 0, none⟩ (.int .u64 (e + 1))).setCell ⟨W.heap.size + 1 + 1, 1, none⟩ (.slice A2 n c2)) := (AT.out.below.setCell (p := ⟨W.heap.size + 1 + 1, 0, none⟩) (by simp; omega) _).setCell (p := ⟨W.heap.size + 1 + 1, 1, none⟩) (by simp; omega) _
  have hne : ∀ p, A2 = some p → p.block ≠ W.heap.size + 1 + 1 := fun p hp => by have := HFR.out p hp; omega
  have hrd := (HRD.out.setOffS (g := W.heap.size + 1 + 1) hne 0 (.int .u64 (e + 1))).setOffS (g := W.heap.size + 1 + 1) hne 1 (.slice A2 n c2)
  generalize ((w3.setCell ⟨W.heap.size + 1 + 1, 0, none⟩ (.int .u64 (e + 1))).setCell ⟨W.heap.size + 1 + 1, 1, none⟩ (.slice A2 n c2)) = wF at *
  have hr5 : RowAt wF (W.heap.size + 1 + 1) 25 #[.int .u64 (e + 1), .slice A2 n c2] := by simpa using hr4
  exact bodyPost_ret (v := .tuple #[.agg #[.int .u64 (e + 1), .slice A2 n c2], .int .i64 0]) (by simp [results, Try.results13, go_sem, row20 hr5, row21 hr5, hr5.lt]) rfl ⟨A2, c2, rfl, hc2, hcm2, hrd, fun p hp => by have := HFR.out p hp; omega, hb4⟩

set_option maxRecDepth 20000 in
set_option maxHeartbeats 2000000 in
theorem rDo_1there (A : Option Addr) (c n : Nat) (e : Int) (S : List Int) (k g b : Int) (W : World) (h : Rd W W.heap.size 1 A n (Cs encW S)) (hx : S.length = n) (h0 : 0 ≤ e) (he : e ≤ 4611686018427387904) (hS : ∀ s ∈ S, U64 s) (hb : 0 ≤ b) (hl : n ≤ 4096) (j : Nat) (hj : j < n) (q : Int) (hq : S[j]? = some q) (hq5 : 0 < q) :
    Calls Try.prog 13 #[.agg #[.int .u64 e, .slice A n c], .agg #[.int .i64 1, .int .i64 (j : Int), .int .u64 b]] W (RdoRes W 5 (0) ([]) 0) := by
  have HA := DoAt.mk' W A n c e 1 (j : Int) b
  have AT := hide HA
  have HR := hide h
  have HX := hide hx
  have HS := hide hS
  clear HA h hx hS
  have hq0 : U64 q := HS.out _ (List.mem_of_getElem? hq)
  obtain ⟨b1, o1, hA1, hb1, hd10⟩ := (HR.out.below AT.out.below).elemN HX.out hj hq
  subst hA1
  have hbsz := AT.out.below.size
  have hb1l := Nat.lt_of_lt_of_le hb1 hbsz
  have jI : (j : Int) < (n : Int) := by omega
  have j0 : decide ((j : Int) < 0) = false := by simp <;> omega
  have jn : decide (n ≤ j) = false := by simp <;> omega
  clear hbsz hq
  have z0 := row20 AT.out.pins
  have z1 := row21 AT.out.pins
  have y0 := row30 AT.out.op
  have y1 := row31 AT.out.op
  have y2 := row32 AT.out.op
  have f0 := AT.out.out.frozen 0
  have f1 := AT.out.out.frozen 1
  have v0 := row20 AT.out.out
  have v1 := row21 AT.out.out
  have l1 := AT.out.pins.lt
  have l2 := AT.out.op.lt
  have l3 := AT.out.out.lt
  go_enter Try.func13, Try.ntmps13
  go_upto_region 9 with fail
  generalize (((W.alloc (.cells #[.int .u64 e, .slice (some ⟨b1, o1, none⟩) n c] 25)).alloc (.cells #[.int .i64 1, .int .i64 (j : Int), .int .u64 b] 32)).alloc (.cells #[.int .u64 0, .slice none 0 0] 25)) = w1 at *
  go_wp2_with fail
  have hr4 := (AT.out.out.set 0 (.int .u64 0)).set 1 (.slice none 0 0)
  have hb4 : Below W.heap.size W ((w1.setCell ⟨W.heap.size + 1 + 1, 0, none⟩ (.int .u64 0)).setCell ⟨W.heap.size + 1 + 1, 1, none⟩ (.slice none 0 0)) := (AT.out.below.setCell (p := ⟨W.heap.size + 1 + 1, 0, none⟩) (by simp; omega) _).setCell (p := ⟨W.heap.size + 1 + 1, 1, none⟩) (by simp; omega) _
  generalize ((w1.setCell ⟨W.heap.size + 1 + 1, 0, none⟩ (.int .u64 0)).setCell ⟨W.heap.size + 1 + 1, 1, none⟩ (.slice none 0 0)) = wF at *
  have hr5 : RowAt wF (W.heap.size + 1 + 1) 25 #[.int .u64 0, .slice none 0 0] := by simpa using hr4
  exact bodyPost_ret (v := .tuple #[.agg #[.int .u64 0, .slice none 0 0], .int .i64 5]) (by simp [results, Try.results13, go_sem, row20 hr5, row21 hr5, hr5.lt]) rfl ⟨none, 0, rfl, Nat.le_refl _, by omega, Rd.none_, fun p hp => (by cases hp), hb4⟩

set_option maxRecDepth 20000 in
set_option maxHeartbeats 2000000 in
theorem rDo_1none (A : Option Addr) (c n : Nat) (e : Int) (S : List Int) (k g b : Int) (W : World) (h : Rd W W.heap.size 1 A n (Cs encW S)) (hx : S.length = n) (h0 : 0 ≤ e) (he : e ≤ 4611686018427387904) (hS : ∀ s ∈ S, U64 s) (hb : 0 ≤ b) (hl : n ≤ 4096) (j : Nat) (hj : j < n) (q : Int) (hq : S[j]? = some q) (hq5 : q = 0) (hbe : e < b) :
    Calls Try.prog 13 #[.agg #[.int .u64 e, .slice A n c], .agg #[.int .i64 1, .int .i64 (j : Int), .int .u64 b]] W (RdoRes W 4 (0) ([]) 0) := by
  have HA := DoAt.mk' W A n c e 1 (j : Int) b
  have AT := hide HA
  have HR := hide h
  have HX := hide hx
  have HS := hide hS
  clear HA h hx hS
  have hq0 : U64 q := HS.out _ (List.mem_of_getElem? hq)
  obtain ⟨b1, o1, hA1, hb1, hd10⟩ := (HR.out.below AT.out.below).elemN HX.out hj hq
  subst hA1
  have hbsz := AT.out.below.size
  have hb1l := Nat.lt_of_lt_of_le hb1 hbsz
  have jI : (j : Int) < (n : Int) := by omega
  have j0 : decide ((j : Int) < 0) = false := by simp <;> omega
  have jn : decide (n ≤ j) = false := by simp <;> omega
  clear hbsz hq
  subst hq5
  have z0 := row20 AT.out.pins
  have z1 := row21 AT.out.pins
  have y0 := row30 AT.out.op
  have y1 := row31 AT.out.op
  have y2 := row32 AT.out.op
  have f0 := AT.out.out.frozen 0
  have f1 := AT.out.out.frozen 1
  have v0 := row20 AT.out.out
  have v1 := row21 AT.out.out
  have l1 := AT.out.pins.lt
  have l2 := AT.out.op.lt
  have l3 := AT.out.out.lt
  go_enter Try.func13, Try.ntmps13
  go_upto_region 9 with fail
  generalize (((W.alloc (.cells #[.int .u64 e, .slice (some ⟨b1, o1, none⟩) n c] 25)).alloc (.cells #[.int .i64 1, .int .i64 (j : Int), .int .u64 b] 32)).alloc (.cells #[.int .u64 0, .slice none 0 0] 25)) = w1 at *
  go_wp2_with fail
  have hr4 := (AT.out.out.set 0 (.int .u64 0)).set 1 (.slice none 0 0)
  have hb4 : Below W.heap.size W ((w1.setCell ⟨W.heap.size + 1 + 1, 0, none⟩ (.int .u64 0)).setCell ⟨W.heap.size + 1 + 1, 1, none⟩ (.slice none 0 0)) := (AT.out.below.setCell (p := ⟨W.heap.size + 1 + 1, 0, none⟩) (by simp; omega) _).setCell (p := ⟨W.heap.size + 1 + 1, 1, none⟩) (by simp; omega) _
  generalize ((w1.setCell ⟨W.heap.size + 1 + 1, 0, none⟩ (.int .u64 0)).setCell ⟨W.heap.size + 1 + 1, 1, none⟩ (.slice none 0 0)) = wF at *
  have hr5 : RowAt wF (W.heap.size + 1 + 1) 25 #[.int .u64 0, .slice none 0 0] := by simpa using hr4
  exact bodyPost_ret (v := .tuple #[.agg #[.int .u64 0, .slice none 0 0], .int .i64 4]) (by simp [results, Try.results13, go_sem, row20 hr5, row21 hr5, hr5.lt]) rfl ⟨none, 0, rfl, Nat.le_refl _, by omega, Rd.none_, fun p hp => (by cases hp), hb4⟩

set_option maxRecDepth 20000 in
set_option maxHeartbeats 2000000 in
theorem rDo_2none (A : Option Addr) (c n : Nat) (e : Int) (S : List Int) (k g b : Int) (W : World) (h : Rd W W.heap.size 1 A n (Cs encW S)) (hx : S.length = n) (h0 : 0 ≤ e) (he : e ≤ 4611686018427387904) (hS : ∀ s ∈ S, U64 s) (hb : 0 ≤ b) (hl : n ≤ 4096) (j : Nat) (hj : j < n) (q : Int) (hq : S[j]? = some q) (hq5 : q = 0) :
    Calls Try.prog 13 #[.agg #[.int .u64 e, .slice A n c], .agg #[.int .i64 2, .int .i64 (j : Int), .int .u64 b]] W (RdoRes W 4 (0) ([]) 0) := by
  have HA := DoAt.mk' W A n c e 2 (j : Int) b
  have AT := hide HA
  have HR := hide h
  have HX := hide hx
  have HS := hide hS
  clear HA h hx hS
  have hq0 : U64 q := HS.out _ (List.mem_of_getElem? hq)
  obtain ⟨b1, o1, hA1, hb1, hd10⟩ := (HR.out.below AT.out.below).elemN HX.out hj hq
  subst hA1
  have hbsz := AT.out.below.size
  have hb1l := Nat.lt_of_lt_of_le hb1 hbsz
  have jI : (j : Int) < (n : Int) := by omega
  have j0 : decide ((j : Int) < 0) = false := by simp <;> omega
  have jn : decide (n ≤ j) = false := by simp <;> omega
  clear hbsz hq
  subst hq5
  have z0 := row20 AT.out.pins
  have z1 := row21 AT.out.pins
  have y0 := row30 AT.out.op
  have y1 := row31 AT.out.op
  have y2 := row32 AT.out.op
  have f0 := AT.out.out.frozen 0
  have f1 := AT.out.out.frozen 1
  have v0 := row20 AT.out.out
  have v1 := row21 AT.out.out
  have l1 := AT.out.pins.lt
  have l2 := AT.out.op.lt
  have l3 := AT.out.out.lt
  go_enter Try.func13, Try.ntmps13
  go_upto_region 9 with fail
  generalize (((W.alloc (.cells #[.int .u64 e, .slice (some ⟨b1, o1, none⟩) n c] 25)).alloc (.cells #[.int .i64 2, .int .i64 (j : Int), .int .u64 b] 32)).alloc (.cells #[.int .u64 0, .slice none 0 0] 25)) = w1 at *
  go_wp2_with fail
  have hr4 := (AT.out.out.set 0 (.int .u64 0)).set 1 (.slice none 0 0)
  have hb4 : Below W.heap.size W ((w1.setCell ⟨W.heap.size + 1 + 1, 0, none⟩ (.int .u64 0)).setCell ⟨W.heap.size + 1 + 1, 1, none⟩ (.slice none 0 0)) := (AT.out.below.setCell (p := ⟨W.heap.size + 1 + 1, 0, none⟩) (by simp; omega) _).setCell (p := ⟨W.heap.size + 1 + 1, 1, none⟩) (by simp; omega) _
  generalize ((w1.setCell ⟨W.heap.size + 1 + 1, 0, none⟩ (.int .u64 0)).setCell ⟨W.heap.size + 1 + 1, 1, none⟩ (.slice none 0 0)) = wF at *
  have hr5 : RowAt wF (W.heap.size + 1 + 1) 25 #[.int .u64 0, .slice none 0 0] := by simpa using hr4
  exact bodyPost_ret (v := .tuple #[.agg #[.int .u64 0, .slice none 0 0], .int .i64 4]) (by simp [results, Try.results13, go_sem, row20 hr5, row21 hr5, hr5.lt]) rfl ⟨none, 0, rfl, Nat.le_refl _, by omega, Rd.none_, fun p hp => (by cases hp), hb4⟩

set_option maxRecDepth 20000 in
set_option maxHeartbeats 2000000 in
theorem rDo_1ok (A : Option Addr) (c n : Nat) (e : Int) (S : List Int) (k g b : Int) (W : World) (h : Rd W W.heap.size 1 A n (Cs encW S)) (hx : S.length = n) (h0 : 0 ≤ e) (he : e ≤ 4611686018427387904) (hS : ∀ s ∈ S, U64 s) (hb : 0 ≤ b) (hl : n ≤ 4096) (j : Nat) (hj : j < n) (q : Int) (hq : S[j]? = some q) (hq5 : q = 0) (hbe : b ≤ e) :
    Calls Try.prog 13 #[.agg #[.int .u64 e, .slice A n c], .agg #[.int .i64 1, .int .i64 (j : Int), .int .u64 b]] W (RdoRes W 0 (e) (S.set j (e + 1 - b)) n) := by
  have HA := DoAt.mk' W A n c e 1 (j : Int) b
  have AT := hide HA
  have HR := hide h
  have HX := hide hx
  have HS := hide hS
  clear HA h hx hS
  have hq0 : U64 q := HS.out _ (List.mem_of_getElem? hq)
  obtain ⟨b1, o1, hA1, hb1, hd10⟩ := (HR.out.below AT.out.below).elemN HX.out hj hq
  subst hA1
  have hbsz := AT.out.below.size
  have hb1l := Nat.lt_of_lt_of_le hb1 hbsz
  have jI : (j : Int) < (n : Int) := by omega
  have j0 : decide ((j : Int) < 0) = false := by simp <;> omega
  have jn : decide (n ≤ j) = false := by simp <;> omega
  clear hbsz hq
  subst hq5
  have hbe' : decide (e < b) = false := by simp; omega
  have u0 : (0 : Int) ≤ e + 1 := by omega
  have u1 : e + 1 < 18446744073709551616 := by omega
  have u2 : (0 : Int) ≤ e + 1 - b := by omega
  have u3 : e + 1 - b < 18446744073709551616 := by omega
  have z0 := row20 AT.out.pins
  have z1 := row21 AT.out.pins
  have y0 := row30 AT.out.op
  have y1 := row31 AT.out.op
  have y2 := row32 AT.out.op
  have f0 := AT.out.out.frozen 0
  have f1 := AT.out.out.frozen 1
  have v0 := row20 AT.out.out
  have v1 := row21 AT.out.out
  have l1 := AT.out.pins.lt
  have l2 := AT.out.op.lt
  have l3 := AT.out.out.lt
  go_enter Try.func13, Try.ntmps13
  go_upto_region 9 with fail
  generalize (((W.alloc (.cells #[.int .u64 e, .slice (some ⟨b1, o1, none⟩) n c] 25)).alloc (.cells #[.int .i64 1, .int .i64 (j : Int), .int .u64 b] 32)).alloc (.cells #[.int .u64 0, .slice none 0 0] 25)) = w1 at *
  go_wp2_with fail
  have HW := hide (with_any (some ⟨b1, o1, none⟩) c n e (j : Int) (e + 1 - b) S w1 ((HR.out.below AT.out.below).more AT.out.below.size) HX.out hl)
  rw [show wthS S (j : Int) (e + 1 - b) = S.set j (e + 1 - b) by simp [wthS]] at HW
  have hw0sz2 := l3
  clear z0 z1 y0 y1 y2 f0 f1 v0 v1 l1 l2 l3 hd10
  refine HW.out.mono ?_
  rintro x w3 ⟨A2, c2, rfl, hc2, hcm2, hrd, hfr, hb⟩
  replace AT := hide (AT.out.next hb)
  have HRD := hide hrd
  have HFR := hide hfr
  clear hrd hfr hb
  have f0 := AT.out.out.frozen 0
  have f1 := AT.out.out.frozen 1
  have v0 := row20 AT.out.out
  have v1 := row21 AT.out.out
  have l3 := AT.out.out.lt
  go_wp2_with fail
  have hr4 := (AT.out.out.set 0 (.int .u64 e)).set 1 (.slice A2 n c2)
  have hb4 : Below W.heap.size W ((w3.setCell ⟨W.heap.size + 1 + 1, 0, none⟩ (.int .u64 e)).setCell ⟨W.heap.size + 1 + 1, 1, none⟩ (.slice A2 n c2)) := (AT.out.below.setCell (p := ⟨W.heap.size + 1 + 1, 0, none⟩) (by simp; omega) _).setCell (p := ⟨W.heap.size + 1 + 1, 1, none⟩) (by simp; omega) _
  have hne : ∀ p, A2 = some p → p.block ≠ W.heap.size + 1 + 1 := fun p hp => by have := HFR.out p hp; omega
  have hrd := (HRD.out.setOffS (g := W.heap.size + 1 + 1) hne 0 (.int .u64 e)).setOffS (g := W.heap.size + 1 + 1) hne 1 (.slice A2 n c2)
  generalize ((w3.setCell ⟨W.heap.size + 1 + 1, 0, none⟩ (.int .u64 e)).setCell ⟨W.heap.size + 1 + 1, 1, none⟩ (.slice A2 n c2)) = wF at *
  have hr5 : RowAt wF (W.heap.size + 1 + 1) 25 #[.int .u64 e, .slice A2 n c2] := by simpa using hr4
  exact bodyPost_ret (v := .tuple #[.agg #[.int .u64 e, .slice A2 n c2], .int .i64 0]) (by simp [results, Try.results13, go_sem, row20 hr5, row21 hr5, hr5.lt]) rfl ⟨A2, c2, rfl, hc2, hcm2, hrd, fun p hp => by have := HFR.out p hp; omega, hb4⟩

set_option maxRecDepth 20000 in
set_option maxHeartbeats 2000000 in
theorem rDo_2ok (A : Option Addr) (c n : Nat) (e : Int) (S : List Int) (k g b : Int) (W : World) (h : Rd W W.heap.size 1 A n (Cs encW S)) (hx : S.length = n) (h0 : 0 ≤ e) (he : e ≤ 4611686018427387904) (hS : ∀ s ∈ S, U64 s) (hb : 0 ≤ b) (hl : n ≤ 4096) (j : Nat) (hj : j < n) (q : Int) (hq : S[j]? = some q) (hq5 : 0 < q) :
    Calls Try.prog 13 #[.agg #[.int .u64 e, .slice A n c], .agg #[.int .i64 2, .int .i64 (j : Int), .int .u64 b]] W (RdoRes W 0 (e) (S.set j (0)) n) := by
  have HA := DoAt.mk' W A n c e 2 (j : Int) b
  have AT := hide HA
  have HR := hide h
  have HX := hide hx
  have HS := hide hS
  clear HA h hx hS
  have hq0 : U64 q := HS.out _ (List.mem_of_getElem? hq)
  obtain ⟨b1, o1, hA1, hb1, hd10⟩ := (HR.out.below AT.out.below).elemN HX.out hj hq
  subst hA1
  have hbsz := AT.out.below.size
  have hb1l := Nat.lt_of_lt_of_le hb1 hbsz
  have jI : (j : Int) < (n : Int) := by omega
  have j0 : decide ((j : Int) < 0) = false := by simp <;> omega
  have jn : decide (n ≤ j) = false := by simp <;> omega
  clear hbsz hq
  have hq6 : (q == 0) = false := by simp; omega
  have z0 := row20 AT.out.pins
  have z1 := row21 AT.out.pins
  have y0 := row30 AT.out.op
  have y1 := row31 AT.out.op
  have y2 := row32 AT.out.op
  have f0 := AT.out.out.frozen 0
  have f1 := AT.out.out.frozen 1
  have v0 := row20 AT.out.out
  have v1 := row21 AT.out.out
  have l1 := AT.out.pins.lt
  have l2 := AT.out.op.lt
  have l3 := AT.out.out.lt
  go_enter Try.func13, Try.ntmps13
  go_upto_region 9 with fail
  generalize (((W.alloc (.cells #[.int .u64 e, .slice (some ⟨b1, o1, none⟩) n c] 25)).alloc (.cells #[.int .i64 2, .int .i64 (j : Int), .int .u64 b] 32)).alloc (.cells #[.int .u64 0, .slice none 0 0] 25)) = w1 at *
  go_wp2_with fail
  have HW := hide (with_any (some ⟨b1, o1, none⟩) c n e (j : Int) (0) S w1 ((HR.out.below AT.out.below).more AT.out.below.size) HX.out hl)
  rw [show wthS S (j : Int) (0) = S.set j (0) by simp [wthS]] at HW
  have hw0sz2 := l3
  clear z0 z1 y0 y1 y2 f0 f1 v0 v1 l1 l2 l3 hd10
  refine HW.out.mono ?_
  rintro x w3 ⟨A2, c2, rfl, hc2, hcm2, hrd, hfr, hb⟩
  replace AT := hide (AT.out.next hb)
  have HRD := hide hrd
  have HFR := hide hfr
  clear hrd hfr hb
  have f0 := AT.out.out.frozen 0
  have f1 := AT.out.out.frozen 1
  have v0 := row20 AT.out.out
  have v1 := row21 AT.out.out
  have l3 := AT.out.out.lt
  go_wp2_with fail
  have hr4 := (AT.out.out.set 0 (.int .u64 e)).set 1 (.slice A2 n c2)
  have hb4 : Below W.heap.size W ((w3.setCell ⟨W.heap.size + 1 + 1, 0, none⟩ (.int .u64 e)).setCell ⟨W.heap.size + 1 + 1, 1, none⟩ (.slice A2 n c2)) := (AT.out.below.setCell (p := ⟨W.heap.size + 1 + 1, 0, none⟩) (by simp; omega) _).setCell (p := ⟨W.heap.size + 1 + 1, 1, none⟩) (by simp; omega) _
  have hne : ∀ p, A2 = some p → p.block ≠ W.heap.size + 1 + 1 := fun p hp => by have := HFR.out p hp; omega
  have hrd := (HRD.out.setOffS (g := W.heap.size + 1 + 1) hne 0 (.int .u64 e)).setOffS (g := W.heap.size + 1 + 1) hne 1 (.slice A2 n c2)
  generalize ((w3.setCell ⟨W.heap.size + 1 + 1, 0, none⟩ (.int .u64 e)).setCell ⟨W.heap.size + 1 + 1, 1, none⟩ (.slice A2 n c2)) = wF at *
  have hr5 : RowAt wF (W.heap.size + 1 + 1) 25 #[.int .u64 e, .slice A2 n c2] := by simpa using hr4
  exact bodyPost_ret (v := .tuple #[.agg #[.int .u64 e, .slice A2 n c2], .int .i64 0]) (by simp [results, Try.results13, go_sem, row20 hr5, row21 hr5, hr5.lt]) rfl ⟨A2, c2, rfl, hc2, hcm2, hrd, fun p hp => by have := HFR.out p hp; omega, hb4⟩

theorem rDo_any (A : Option Addr) (c n : Nat) (e : Int) (S : List Int) (k g b : Int) (W : World) (h : Rd W W.heap.size 1 A n (Cs encW S)) (hx : S.length = n) (h0 : 0 ≤ e) (hS : ∀ s ∈ S, U64 s) (hb : 0 ≤ b) (ho : pOk e S = true)
    (E X : Int) (Y : List Int) (m : Nat) (hE : doE e S k g b = E) (hX : doX e S k g b = X) (hY : doS e S k g b = Y) (hm : Y.length = m) :
    Calls Try.prog 13 #[.agg #[.int .u64 e, .slice A n c], .agg #[.int .i64 k, .int .i64 g, .int .u64 b]] W (RdoRes W E X Y m) := by
  have hl : n ≤ 4096 := by have := (pOk_out ho).2.1; omega
  have he := (pOk_out ho).2.2.1
  have hDE : doE e S k g b = dE e S k g b := by unfold doE; rw [if_pos ho]
  -- an arm that is an error; one that is none
  have no : ∀ E', dE e S k g b = E' → E' ≠ 0 → Calls Try.prog 13 #[.agg #[.int .u64 e, .slice A n c], .agg #[.int .i64 k, .int .i64 g, .int .u64 b]] W (RdoRes W E' 0 [] 0) →
      Calls Try.prog 13 #[.agg #[.int .u64 e, .slice A n c], .agg #[.int .i64 k, .int .i64 g, .int .u64 b]] W (RdoRes W E X Y m) := fun E' h1 h2 h3 => by
    have e1 : E = E' := by rw [← hE, hDE, h1]
    have e2 : X = 0 := by rw [← hX]; unfold doX; rw [hDE, h1, if_neg h2]
    have e3 : Y = [] := by rw [← hY]; unfold doS; rw [hDE, h1, if_neg h2]
    subst e1 e2 e3
    simp at hm
    subst hm
    exact h3
  have yes : ∀ X' Y', dE e S k g b = 0 → dX e k = X' → dS e S k g b = Y' → Calls Try.prog 13 #[.agg #[.int .u64 e, .slice A n c], .agg #[.int .i64 k, .int .i64 g, .int .u64 b]] W (RdoRes W 0 X' Y' n) →
      Calls Try.prog 13 #[.agg #[.int .u64 e, .slice A n c], .agg #[.int .i64 k, .int .i64 g, .int .u64 b]] W (RdoRes W E X Y m) := fun X' Y' h1 h2 h3 h4 => by
    have e1 : E = 0 := by rw [← hE, hDE, h1]
    have e2 : X = X' := by rw [← hX]; unfold doX; rw [hDE, h1, if_pos rfl, h2]
    have e3 : Y = Y' := by rw [← hY]; unfold doS; rw [hDE, h1, if_pos rfl, h3]
    have e4 : m = n := by rw [← hm, e3, ← h3, dS_length, hx]
    subst e1 e2 e3 e4
    exact h4
  by_cases k0 : k < 1
  · exact no 2 (by unfold dE; rw [if_pos (by omega)]) (by omega) (rDo_k0 A c n e S k g b W h hx h0 he hS hb hl k0)
  by_cases k4 : 3 < k
  · exact no 2 (by unfold dE; rw [if_pos (by omega)]) (by omega) (rDo_k4 A c n e S k g b W h hx h0 he hS hb hl k4)
  by_cases k3 : k = 3
  · subst k3
    obtain ⟨m0, hm0⟩ : ∃ m0, (backL e S).length = m0 := ⟨_, rfl⟩
    have hd : dE e S 3 g b = if S.any (heldB e) = true then 231 else if e = 4611686018427387904 then 6 else 0 := by unfold dE; rw [if_neg (by omega), if_pos rfl]
    by_cases hz : m0 = 0
    · have ha : S.any (heldB e) = false := backL_nil.1 (List.length_eq_zero_iff.1 (by omega))
      by_cases hem : e = 4611686018427387904
      · exact no 6 (by rw [hd, ha, if_neg (by simp), if_pos hem]) (by omega) (rDo_3full A c n e S 3 g b W h hx h0 he hS hb hl m0 hm0 hz hem)
      · exact yes (e + 1) S (by rw [hd, ha, if_neg (by simp), if_neg hem]) (by simp [dX]) (by simp [dS]) (rDo_3ok A c n e S 3 g b W h hx h0 he hS hb hl m0 hm0 hz (by omega))
    · have ha : S.any (heldB e) = true := by
        cases h1 : S.any (heldB e) with
        | true => rfl
        | false => exact absurd (by rw [← hm0, backL_nil.2 h1]; rfl) hz
      exact no 231 (by rw [hd, ha, if_pos rfl]) (by omega) (rDo_3held A c n e S 3 g b W h hx h0 he hS hb hl m0 hm0 (by omega))
  by_cases g0 : g < 0
  · exact no 2 (by unfold dE; rw [if_pos (by omega)]) (by omega) (rDo_g0 A c n e S k g b W h hx h0 he hS hb hl (by omega) g0)
  by_cases gn : (n : Int) ≤ g
  · exact no 2 (by unfold dE; rw [if_pos (by omega)]) (by omega) (rDo_gn A c n e S k g b W h hx h0 he hS hb hl (by omega) gn)
  obtain ⟨j, rfl⟩ := Int.eq_ofNat_of_zero_le (by omega : 0 ≤ g)
  have hj : j < n := by omega
  have hjS : j < S.length := by omega
  obtain ⟨q, hq⟩ : ∃ q, S[j]? = some q := ⟨_, List.getElem?_eq_getElem hjS⟩
  have hqd : S.getD j 0 = q := by rw [List.getD_eq_getElem?_getD, hq]; rfl
  have hq0 : 0 ≤ q := (hS q (List.mem_of_getElem? hq)).1
  obtain rfl | rfl : k = 1 ∨ k = 2 := by omega
  · have hd : dE e S 1 j b = if 0 < q then 5 else if e < b then 4 else 0 := by
      unfold dE; rw [if_neg (by omega), if_neg (by omega), if_pos rfl, Int.toNat_natCast, hqd]
    by_cases hq5 : 0 < q
    · exact no 5 (by rw [hd, if_pos hq5]) (by omega) (rDo_1there A c n e S 1 j b W h hx h0 he hS hb hl j hj q hq hq5)
    · by_cases hbe : e < b
      · exact no 4 (by rw [hd, if_neg hq5, if_pos hbe]) (by omega) (rDo_1none A c n e S 1 j b W h hx h0 he hS hb hl j hj q hq (by omega) hbe)
      · exact yes e (S.set j (e + 1 - b)) (by rw [hd, if_neg hq5, if_neg hbe]) (by simp [dX]) (by simp [dS]) (rDo_1ok A c n e S 1 j b W h hx h0 he hS hb hl j hj q hq (by omega) (by omega))
  · have hd : dE e S 2 j b = if q = 0 then 4 else 0 := by
      unfold dE; rw [if_neg (by omega), if_neg (by omega), if_neg (by omega), Int.toNat_natCast, hqd]
    by_cases hq5 : q = 0
    · exact no 4 (by rw [hd, if_pos hq5]) (by omega) (rDo_2none A c n e S 2 j b W h hx h0 he hS hb hl j hj q hq hq5)
    · exact yes e (S.set j 0) (by rw [hd, if_neg hq5]) (by simp [dX]) (by simp [dS]) (rDo_2ok A c n e S 2 j b W h hx h0 he hS hb hl j hj q hq (by omega))
end Go.Proofs.Ytopaopfebgonjaa

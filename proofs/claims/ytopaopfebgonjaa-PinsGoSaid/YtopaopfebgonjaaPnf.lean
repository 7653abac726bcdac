/-
  Pins: the least epoch that is pinned (the program's, the reference's).
-/
import Derived.Test.YtopaopfebgonjaaPne
set_option linter.unusedSimpArgs false
set_option linter.unusedVariables false
namespace Go.Proofs.Ytopaopfebgonjaa
open Go Go.RowKit
attribute [local go_sem] Oper.semAt_some

/-- The least one so far. -/
def mnStep (o : Option Int) (x : Nat × Int) : Option Int := match o with | none => some x.2 | some m => if x.2 < m then some x.2 else some m
def mnP (pre : List (Nat × Int)) : Option Int := pre.foldl mnStep none
theorem mnP_snoc (pre : List (Nat × Int)) (x : Nat × Int) : mnP (pre ++ [x]) = mnStep (mnP pre) x := by unfold mnP; rw [List.foldl_append]; rfl
theorem mnP_take (S : List Int) : ∀ k, k ≤ S.length → mnP (pinL (S.take k)) = (minS (S.take k)).map (· - 1) := by
  intro k
  induction k with
  | zero => intro _; rfl
  | succ k ih =>
    intro hk
    rw [pinL_snoc S k hk, List.take_succ_eq_append_getElem hk, minS_snoc]
    have ih := ih (by omega)
    generalize S[k] = s at *
    by_cases h0 : 0 < s
    · rw [if_pos h0, mnP_snoc, ih]
      cases minS (S.take k) with
      | none => simp [mnStep, h0]
      | some m =>
        simp only [Option.map_some, mnStep, h0, true_and]
        by_cases hm : s < m
        · rw [if_pos (by omega), if_pos hm]; rfl
        · rw [if_neg (by omega), if_neg hm]; rfl
    · rw [if_neg h0, List.append_nil, ih]
      cases minS (S.take k) with
      | none => simp [h0]
      | some m => simp [h0]
theorem mnP_all (S : List Int) : mnP (pinL S) = (minS S).map (· - 1) := by
  have h := mnP_take S S.length (Nat.le_refl _)
  rwa [List.take_length] at h
/-- The boxes of the least one. -/
def OldSt (g : Nat) (pre : List (Nat × Int)) (W : World) : Prop := RowAt W g 22 #[.int .u64 ((mnP pre).getD 0)] ∧ RowAt W (g + 1) 4 #[.bool (mnP pre).isSome]
theorem OldSt.stays (g : Nat) : Stays (OldSt g) := fun _ _ _ h hl => ⟨h.1.lie hl, h.2.lie hl⟩
def PlainAct1 (ps : Array Tmp) (vs : Array Value) (s1 : Nat) (v1 : Value) (T : Array Value) (a' : Act) : Prop := a' = { tmps := ((ps.zip vs).foldl (fun t (p, v) => t.setIfInBounds p v) T).setIfInBounds s1 v1, defers := [] }

set_option maxHeartbeats 1000000 in
theorem Oldest_any (A : Option Addr) (c n : Nat) (e : Int) (S : List Int) (W : World) (h : Rd W W.heap.size 1 A n (Cs encW S)) (hx : S.length = n) (h0 : 0 ≤ e) (hS : ∀ s ∈ S, U64 s) (hl : n ≤ 4096) (a : Int) (b : Bool) (ha : (if pOk e S = true then oldE S else 0) = a) (hb : (if pOk e S = true then oldB S else false) = b) :
    Calls Try.prog 20 #[.agg #[.int .u64 e, .slice A n c]] W fun x W' => x = .returned (.tuple #[.int .u64 a, .bool b]) ∧ Below W.heap.size W W' := by
  have hb0 : Below W.heap.size W (W.alloc (.cells #[.int .u64 e, .slice A n c] 25)) := (Below.refl _ _).alloc (Nat.le_refl _) _
  have r1 : RowAt (W.alloc (.cells #[.int .u64 e, .slice A n c] 25)) W.heap.size 25 #[.int .u64 e, .slice A n c] := RowAt.new _ _ _
  obtain ⟨k, hk⟩ : ∃ k : Int, (if pOk e S = true then 0 else 230) = k := ⟨_, rfl⟩
  have HC := hide (check_any A c n e S _ ((h.below hb0).more hb0.size) hx h0 hl k hk)
  obtain ⟨p, hp⟩ : ∃ p, pOk e S = p := ⟨_, rfl⟩
  have HB := hide hb0
  have R1 := hide r1
  have HR := hide h
  have HX := hide hx
  have HS := hide hS
  rw [hp] at hk ha hb
  cases p
  · simp at hk ha hb
    subst hk ha hb
    clear hb0 r1 h hx hS hp
    go_enter Try.func20, Try.ntmps20
    go_wp2_with fail
    go_step3
    go_wp2_with fail
    refine HC.out.mono ?_
    rintro x w1 ⟨rfl, hb⟩
    go_wp2_with fail
    (try rw [Exit.noGoto_ret])
    go_ret2
    exact ⟨rfl, HB.out.trans (hb.mono HB.out.size)⟩
  · simp at hk ha hb
    subst hk
    have HA := hide ha
    have HBB := hide hb
    have HP := hide hp
    have g8 := (pOk_out hp).2.1
    clear hb0 r1 h hx hS hp ha hb
    refine calls_of_wp_marks Try.func20 rfl ?_
    simp only [Try.ntmps20, List.size_toArray, List.length_cons, List.length_nil, Nat.reduceAdd, Nat.reduceSub, Array.replicate_succ, Array.replicate_zero, List.push_toArray, List.append_toArray, List.nil_append, List.cons_append]
    go_wp2_with fail
    go_step3
    go_wp2_with fail
    refine HC.out.mono ?_
    rintro x w1 ⟨rfl, hb⟩
    replace R1 := hide (R1.out.below hb)
    replace HB := hide (HB.out.trans (hb.mono HB.out.size))
    obtain ⟨g, hg⟩ : ∃ g, w1.heap.size = g := ⟨_, rfl⟩
    have hgW : W.heap.size < g := by have h := R1.out.lt; omega
    have b13 : Below w1.heap.size w1 ((w1.alloc (.cells #[.int .u64 0] 22)).alloc (.cells #[.bool false] 4)) := ((Below.refl _ _).alloc (Nat.le_refl _) _).alloc (by simp) _
    have r2 : RowAt ((w1.alloc (.cells #[.int .u64 0] 22)).alloc (.cells #[.bool false] 4)) g 22 #[.int .u64 0] := by
      have h := RowAt.new w1 22 #[.int .u64 0]
      rw [hg] at h
      exact h.below ((Below.refl _ _).alloc (Nat.le_refl _) _)
    have r3 : RowAt ((w1.alloc (.cells #[.int .u64 0] 22)).alloc (.cells #[.bool false] 4)) (g + 1) 4 #[.bool false] := by
      have h := RowAt.new (w1.alloc (.cells #[.int .u64 0] 22)) 4 #[.bool false]
      rw [World.size_alloc, hg] at h
      exact h
    have hs3 : ((w1.alloc (.cells #[.int .u64 0] 22)).alloc (.cells #[.bool false] 4)).heap.size = g + 1 + 1 := by simp [hg]
    have HG := hide hg
    have q0 := row20 R1.out
    have q1 := row21 R1.out
    have l1 := R1.out.lt
    replace R1 := hide (R1.out.below b13)
    replace HB := hide (HB.out.trans (b13.mono HB.out.size))
    have R2 := hide r2
    have R3 := hide r3
    have HS3 := hide hs3
    clear b13 r2 r3 hb HC hs3 hg
    go_wp2_with fail
    go_step3
    go_wp2_with fail
    rw [HG.out]
    clear q0 q1 l1
    generalize ((w1.alloc (.cells #[.int .u64 0] 22)).alloc (.cells #[.bool false] 4)) = w3 at *
    refine (pinned_any A c n e w3).mono ?_
    rintro x w5 ⟨rfl, hra, hb⟩
    have HB5 := hide (HB.out.trans (hb.mono HB.out.size))
    replace R1 := hide (R1.out.below hb)
    replace R2 := hide (R2.out.below hb)
    replace R3 := hide (R3.out.below hb)
    have hla := hra.lt
    have hr5 := (HR.out.below HB5.out).more HB5.out.size
    have hseq := pinned_seq (fun j => j < g ∧ j < w5.heap.size) w3.heap.size A c e S w5 (by rw [HX.out]; exact hra) (fun j hj => hj.2) (by rw [HX.out]; exact hr5) (fun p hp hpos => by
      subst hp
      obtain ⟨b, off, e, hb1, _⟩ := HR.out.2 (by rw [← HX.out]; exact hpos)
      injection e with e
      subst e
      exact ⟨by show b < _; omega, by show b < _; have := HB5.out.size; omega⟩) g8 HS.out
    rw [HS3.out] at hseq hla ⊢
    clear hb hra hr5
    go_wp2_with fail
    refine wp_range (gf := 43) (lb := #[.pointer (some ⟨g + 1 + 1, 0, none⟩)]) rfl (enters_of Try.func43 (by kernel_rfl) rfl) hseq g (by omega) (fun j hj => hj.2) (Below.refl _ _) (fun _ => rfl)
      (OldSt g) (fun _ _ _ => False) (OldSt.stays _) (fun _ _ _ _ h _ => h) ⟨R2.out, R3.out⟩
      (fun T x a' W2 => PlainAct1 #[13, 14] (encP x) 7 (.int .u64 x.2) T a') (fun T a' => fun _ _ _ h _ => h) ?assign ?body ?done ?stop ?panic
    case assign =>
      intro l pre x W2 R hI hb hs hlen hR
      dsimp only [encP] at hR ⊢
      gi_wp2
      exact hR _ _ (KeepsOthers.refl _) (Below.refl _ _) (fun j hj => rfl) hI (by simp [PlainAct1, encP])
    case body =>
      rintro l pre x a' W2 ⟨hr2, hr3⟩ hpa hb hs hlen
      have hpa : a' = _ := hpa
      subst hpa
      dsimp only [encP]
      have HSN := hide (mnP_snoc pre x)
      obtain ⟨kx, q⟩ := x
      dsimp only at HSN ⊢
      generalize mnP pre = o at *
      generalize kx % 8 = kk at *
      have R2' := hide hr2
      have R3' := hide hr3
      have z2 := row1 hr2
      have z3 := row1 hr3
      have y2 := hr2.frozen 0
      have y3 := hr3.frozen 0
      have l2 := hr2.lt
      have l3 := hr3.lt
      clear hr2 hr3
      cases o with
      | none =>
        simp only [Option.getD_none, Option.isSome_none] at z2 z3
        gi_wp2
        refine ⟨(KeepsOthers.setCell _ _ _).trans (KeepsOthers.setCell _ _ _), ((Below.refl g W2).setCell (p := ⟨g, 0, none⟩) (Nat.le_refl _) _).setCell (p := ⟨g + 1, 0, none⟩) (by simp) _, fun j hj => ?_, ?_⟩
        · rw [heap_setCell_ne _ _ _ _ (by have := hj.1; simp; omega), heap_setCell_ne _ _ _ _ (by have := hj.1; simp; omega)]
        · unfold OldSt
          rw [HSN.out]
          exact ⟨(R2'.out.set 0 _).setNe (by omega), (R3'.out.setNe (by omega)).set 0 _⟩
      | some m =>
        simp only [Option.getD_some, Option.isSome_some] at z2 z3
        by_cases hqm : q < m
        · have hqm' : decide (m ≤ q) = false := by simp; omega
          have HN := hide (show mnStep (some m) (kx, q) = some q by simp [mnStep, hqm])
          gi_wp2
          refine ⟨(KeepsOthers.setCell _ _ _).trans (KeepsOthers.setCell _ _ _), ((Below.refl g W2).setCell (p := ⟨g, 0, none⟩) (Nat.le_refl _) _).setCell (p := ⟨g + 1, 0, none⟩) (by simp) _, fun j hj => ?_, ?_⟩
          · rw [heap_setCell_ne _ _ _ _ (by have := hj.1; simp; omega), heap_setCell_ne _ _ _ _ (by have := hj.1; simp; omega)]
          · unfold OldSt
            rw [HSN.out, HN.out]
            exact ⟨(R2'.out.set 0 _).setNe (by omega), (R3'.out.setNe (by omega)).set 0 _⟩
        · have hqm' : m ≤ q := by omega
          have HN := hide (show mnStep (some m) (kx, q) = some m by simp [mnStep, hqm])
          gi_wp2
          refine ⟨KeepsOthers.refl _, Below.refl _ _, fun j hj => rfl, ?_⟩
          unfold OldSt
          rw [HSN.out, HN.out]
          exact ⟨R2'.out, R3'.out⟩
    case done =>
      rintro ys W2 rfl ⟨hr2, hr3⟩ hb hs hD
      rw [mnP_all] at hr2 hr3
      have ha2 : (((minS S).map (· - 1)).getD 0) = a := by rw [← HA.out]; unfold oldE; cases minS S <;> rfl
      have hb2 : ((minS S).map (· - 1)).isSome = b := by rw [← HBB.out]; unfold oldB; cases minS S <;> rfl
      rw [ha2] at hr2
      rw [hb2] at hr3
      have z2 := row1 hr2
      have z3 := row1 hr3
      have l2 := hr2.lt
      have l3 := hr3.lt
      have HD := hide hD
      have HBF := hide (HB5.out.trans (hb.mono (by omega)))
      clear hr2 hr3 hb hD ha2 hb2
      unfold marked
      go_wp2_with fail
      go_quiet (fail)
      go_wp2_with fail
      refine ⟨by simp, .inl ⟨_, _, rfl, run_takeDeferred HD.out, ?_⟩⟩
      refine ⟨_, by simp [results, Try.results20, go_sem], rfl, ?_⟩
      exact (below_drewN HBF.out _).trans (below_putObj (o := .deferred (some [])) _ (by have := HB5.out.size; omega))
    case stop =>
      rintro c pre W2 _ h
      exact h.elim
    case panic =>
      rintro pre W2 h
      exact h.elim

theorem lf_snoc (s : Int) (L : List Int) (x : Int) : (0 < s ∧ ∀ y ∈ L ++ [x], 0 < y → s ≤ y) ↔ ((0 < s ∧ ∀ y ∈ L, 0 < y → s ≤ y) ∧ (0 < x → s ≤ x)) := by
  constructor
  · rintro ⟨h1, h2⟩
    exact ⟨⟨h1, fun y hy => h2 y (by simp [hy])⟩, h2 x (by simp)⟩
  · rintro ⟨⟨h1, h2⟩, h3⟩
    refine ⟨h1, fun y hy => ?_⟩
    rcases List.mem_append.1 hy with hy | hy
    · exact h2 y hy
    · simp at hy; subst hy; exact h3

set_option maxHeartbeats 1000000 in
theorem rOldest_any (A : Option Addr) (c n : Nat) (e : Int) (S : List Int) (W : World) (h : Rd W W.heap.size 1 A n (Cs encW S)) (hx : S.length = n) (hS : ∀ s ∈ S, U64 s) (hl : n ≤ 4096) (a : Int) (b : Bool) (ha : oldE S = a) (hb : oldB S = b) :
    Calls Try.prog 23 #[.agg #[.int .u64 e, .slice A n c]] W fun x W' => x = .returned (.tuple #[.int .u64 a, .bool b]) ∧ Below W.heap.size W W' := by
  subst hx
  have hb0 : Below W.heap.size W (W.alloc (.cells #[.int .u64 e, .slice A S.length c] 25)) := (Below.refl _ _).alloc (Nat.le_refl _) _
  have r1 : RowAt (W.alloc (.cells #[.int .u64 e, .slice A S.length c] 25)) W.heap.size 25 #[.int .u64 e, .slice A S.length c] := RowAt.new _ _ _
  have h1 := h.below hb0
  have HA := hide ha
  have HBB := hide hb
  have HS := hide hS
  clear ha hb hS
  go_enter Try.func23, Try.ntmps23
  go_wp2_with fail
  generalize (W.alloc (.cells #[.int .u64 e, .slice A S.length c] 25)) = w0 at *
  have q1 := row21 r1
  have l1 := r1.lt
  have HB := hide hb0
  have hbs := hb0.size
  clear r1 hb0
  go_loop [12] (fun i => ∃ k : Nat, k ≤ S.length ∧ i = .int .i64 k ∧ ∀ s ∈ S.take k, minS S ≠ some s) (fun i => S.length - (intOf i).toNat)
  case atStart => exact ⟨0, Nat.zero_le _, rfl, by simp⟩
  case round =>
    obtain ⟨k, hk, rfl, hpre⟩ := hrel
    have HP := hide hpre
    clear hpre
    by_cases hlt : k < S.length
    · obtain ⟨b1, o1, rfl, hb1, hc1⟩ := h1.elem encW_len hlt
      have HC1 := hide (fun i (hi : i < S.length) => h1.elem encW_len hi)
      have hd10 := hc1 0 _ (by omega) rfl
      simp only [Nat.mul_one, Nat.add_zero] at hd10
      have HX := hide (show S.take (k + 1) = S.take k ++ [S[k]] from List.take_succ_eq_append_getElem hlt)
      have HM := hide (List.getElem_mem hlt)
      have HU := hide (HS.out _ (List.getElem_mem hlt))
      have hbl : b1 < w0.heap.size := by omega
      clear hc1
      generalize S[k] = s at *
      obtain ⟨p, hp⟩ : ∃ p, decide (0 < s) = p := ⟨_, rfl⟩
      have HPP := hide hp
      go_wp2_with fail
      clear hp
      go_loop [6, 21] (fun f i => ∃ (j : Nat) (q : Bool), j ≤ S.length ∧ i = .int .i64 j ∧ f = .bool q ∧ (q = true ↔ 0 < s ∧ ∀ x ∈ S.take j, 0 < x → s ≤ x)) (fun _ i => S.length - (intOf i).toNat)
      case atStart => exact ⟨0, p, Nat.zero_le _, rfl, rfl, by rw [← HPP.out]; simp⟩
      case round =>
        obtain ⟨j, q, hj, rfl, rfl, hq⟩ := hrel
        have HQ := hide hq
        clear hq
        by_cases hjl : j < S.length
        · obtain ⟨b2, o2, he2, hb2, hc2⟩ := HC1.out j hjl
          injection he2 with he2
          injection he2 with he3 he4
          subst he3 he4
          have hd20 := hc2 0 _ (by omega) rfl
          simp only [Nat.mul_one, Nat.add_zero] at hd20
          have HXj := hide (show S.take (j + 1) = S.take j ++ [S[j]] from List.take_succ_eq_append_getElem hjl)
          clear hc2
          generalize S[j] = x at *
          by_cases hx0 : 0 < x
          · by_cases hxs : x < s
            · go_wp2_with fail
              go_round
              case rel => exact ⟨j + 1, false, by omega, by go_num, rfl, by rw [HXj.out, lf_snoc]; exact ⟨fun h => (by cases h), fun h => (by have := h.2 hx0; omega)⟩⟩
              case measure => simp [intOf]; omega
            · have hxs' : decide (x < s) = false := by simp; omega
              go_wp2_with fail
              go_round
              case rel => exact ⟨j + 1, q, by omega, by go_num, rfl, by rw [HQ.out, HXj.out, lf_snoc]; exact ⟨fun h => ⟨h, fun _ => by omega⟩, fun h => h.1⟩⟩
              case measure => simp [intOf]; omega
          · have hx0' : decide (0 < x) = false := by simp; omega
            go_wp2_with fail
            go_round
            case rel => exact ⟨j + 1, q, by omega, by go_num, rfl, by rw [HQ.out, HXj.out, lf_snoc]; exact ⟨fun h => ⟨h, fun _ => by omega⟩, fun h => h.1⟩⟩
            case measure => simp [intOf]; omega
        · have hq := HQ.out
          rw [List.take_of_length_le (by omega)] at hq
          cases q
          · have HN := hide (show minS S ≠ some s from fun hm => by
              obtain ⟨_, m2, m3⟩ := minS_some.1 hm
              exact absurd (hq.2 ⟨m2, m3⟩) (by simp))
            clear hq
            go_wp2_with fail
            go_round
            case rel => exact ⟨k + 1, by omega, by go_num, fun y hy => by rw [HX.out, List.mem_append] at hy; rcases hy with hy | hy; exact HP.out y hy; simp at hy; subst hy; exact HN.out⟩
            case measure => simp [intOf]; omega
          · obtain ⟨m2, m3⟩ := hq.1 rfl
            have hm := minS_some.2 ⟨HM.out, m2, m3⟩
            have u0 : (0 : Int) ≤ s - 1 := by omega
            have u1 : s - 1 < 18446744073709551616 := by have := HU.out; unfold U64 at this; omega
            have HE := hide (show s - 1 = a by rw [← HA.out]; simp [oldE, hm])
            have HF := hide (show true = b by rw [← HBB.out]; simp [oldB, hm])
            clear hq m3 hm
            have ha := HE.out
            have hb := HF.out
            clear HE HF HA HBB
            subst ha hb
            go_wp2_with fail
            go_ret2
            exact ⟨rfl, HB.out⟩
    · have hm : minS S = none := by
        cases hm : minS S with
        | none => rfl
        | some m =>
          have h := HP.out m (by rw [List.take_of_length_le (by omega)]; exact (minS_some.1 hm).1)
          exact absurd hm h
      have HE := hide (show (0 : Int) = a by rw [← HA.out]; simp [oldE, hm])
      have HF := hide (show false = b by rw [← HBB.out]; simp [oldB, hm])
      clear hm
      have ha := HE.out
      have hb := HF.out
      clear HE HF HA HBB
      subst ha hb
      go_wp2_with fail
      go_ret2
      exact ⟨rfl, HB.out⟩
end Go.Proofs.Ytopaopfebgonjaa

/-
  Waits: behind a turn; the longest ones.
-/
import Derived.Test.YtogjokoaghpjiaaPkh
import Derived.Deep.CutRange
import Derived.Deep.CutBlock
set_option linter.unusedSimpArgs false
set_option linter.unusedVariables false
namespace Go.Proofs.Ytogjokoaghpjiaa
open Go Go.RowKit
attribute [local go_sem] via_cell via_frozen

def valI (x : Int) : Value := .int .i64 x
def vals (l : List Int) : Array Value := (l.map valI).toArray
/-- The first k of eight are new, further ones below n are old. -/
def mixW (n k : Nat) (f' f : Int → Nat) : List Int := (List.range 8).map (fun g => if g < k then ((f' g : Nat) : Int) else if g < n then ((f g : Nat) : Int) else 0)
def arrW (n : Nat) (f : Int → Nat) : List Int := (List.range 8).map (fun g => if g < n then ((f g : Nat) : Int) else 0)
theorem mixW_zero (n : Nat) (f' f : Int → Nat) : mixW n 0 f' f = arrW n f := by simp [mixW, arrW]
theorem mixW_full (n : Nat) (f' f : Int → Nat) : mixW n n f' f = arrW n f' := by
  unfold mixW arrW
  congr 1
  funext g
  by_cases h : g < n <;> simp [h]
theorem mixW_len (n k : Nat) (f' f : Int → Nat) : (mixW n k f' f).length = 8 := by simp [mixW]
theorem mixW_at {n k : Nat} (f' f : Int → Nat) (hk : k < n) (hn : n ≤ 8) : (mixW n k f' f)[k]? = some ((f k : Nat) : Int) := by
  simp [mixW, hk, show k < 8 by omega]
theorem mixW_set {n k : Nat} (f' f : Int → Nat) (hk : k < n) (hn : n ≤ 8) : (mixW n k f' f).set k (f' k) = mixW n (k + 1) f' f := by
  apply List.ext_getElem?
  intro j
  rw [List.getElem?_set]
  by_cases hj : k = j
  · subst hj
    rw [if_pos rfl, if_pos (by rw [mixW_len]; omega)]
    simp [mixW, show k < 8 by omega]
  · rw [if_neg hj]
    unfold mixW
    by_cases hj8 : j < 8
    · simp only [List.getElem?_map, List.getElem?_range hj8, Option.map_some]
      congr 1
      by_cases h1 : j < k
      · rw [if_pos h1, if_pos (by omega)]
      · rw [if_neg h1, if_neg (show ¬ j < k + 1 by omega)]
    · simp [hj8]
theorem vals_at {l : List Int} {k : Nat} {x : Int} (h : l[k]? = some x) : (vals l)[k]? = some (.int .i64 x) := by
  unfold vals
  rw [List.getElem?_toArray, List.getElem?_map, h]; rfl
theorem vals_set (l : List Int) (k : Nat) (x : Int) : (vals l).setIfInBounds k (.int .i64 x) = vals (l.set k x) := by
  unfold vals
  rw [List.setIfInBounds_toArray]
  congr 1
  rw [List.map_set]; rfl
theorem vals_one (l : List Int) : (vals l).all (·.oneCell') = true := by
  rw [Array.all_eq_true_iff_forall_mem]
  intro x hx
  simp [vals] at hx
  obtain ⟨a, _, rfl⟩ := hx
  rfl
structure WaitAt (W w : World) (n k : Nat) (f' f : Int → Nat) (tA : Option Addr) (tc : Nat) (tcan : List Int) (tch : Int) (g : Nat) : Prop where
  arr : RowAt w g 56 (vals (mixW n k f' f))
  box : RowAt w (g + 1) 37 #[.slice tA tcan.length tc, .int .i64 tch]
  res : RowAt w (g + 2) 56 (vals (List.replicate 8 0))
  rd : Rd w g 1 tA tcan.length (Cs encI tcan)
  below : Below W.heap.size W w
theorem WaitAt.next {W w : World} {n k : Nat} {f' f : Int → Nat} {tA : Option Addr} {tc : Nat} {tcan : List Int} {tch : Int} {g : Nat} (h : WaitAt W w n k f' f tA tc tcan tch g) (hk : k < n) (hn : n ≤ 8) (hg : W.heap.size ≤ g) {x : Int} (hx : ((f' k : Nat) : Int) = x) :
    WaitAt W (w.setCell ⟨g, k, none⟩ (.int .i64 x)) n (k + 1) f' f tA tc tcan tch g := by
  refine ⟨?_, h.box.setNe (by omega), h.res.setNe (by omega), h.rd.setCell (by show g ≤ g; omega) _, h.below.setCell (by show _ ≤ g; omega) _⟩
  have h1 := h.arr.set k (.int .i64 x)
  rw [vals_set, ← hx, mixW_set _ _ hk hn] at h1
  rw [← hx]
  exact h1
theorem turn_any (l : List Tn) (n : Nat) (hn : n ≤ 8) (tA : Option Addr) (tc : Nat) (tcan : List Int) (tch : Int) (W : World) (h : Rd W W.heap.size 1 tA tcan.length (Cs encI tcan)) (hl : tcan.length ≤ 4096) (hwl : ∀ g, waitX l g ≤ 4096) :
    Calls Try.prog 49 #[.agg (vals (arrW n (waitX l))), .int .i64 n, .agg #[.slice tA tcan.length tc, .int .i64 tch]] W fun e W' => e = .returned (.agg (vals (arrW n (waitX (l ++ [(tcan, tch)]))))) ∧ Below W.heap.size W W' := by
  have H0 := hide (show WaitAt W (((W.alloc (.cells (vals (arrW n (waitX l))) 56)).alloc (.cells #[.slice tA tcan.length tc, .int .i64 tch] 37)).alloc (.cells #[.int .i64 0, .int .i64 0, .int .i64 0, .int .i64 0, .int .i64 0, .int .i64 0, .int .i64 0, .int .i64 0] 56)) n 0 (waitX (l ++ [(tcan, tch)])) (waitX l) tA tc tcan tch W.heap.size from by
    have b1 : Below W.heap.size W (W.alloc (.cells (vals (arrW n (waitX l))) 56)) := (Below.refl _ _).alloc (Nat.le_refl _) _
    have r1 := RowAt.new W 56 (vals (arrW n (waitX l)))
    generalize hw1 : W.alloc (.cells (vals (arrW n (waitX l))) 56) = w1 at *
    have s1 : w1.heap.size = W.heap.size + 1 := by rw [← hw1, World.size_alloc]
    have b2 : Below w1.heap.size w1 (w1.alloc (.cells #[.slice tA tcan.length tc, .int .i64 tch] 37)) := (Below.refl _ _).alloc (Nat.le_refl _) _
    have r2 := RowAt.new w1 37 #[.slice tA tcan.length tc, .int .i64 tch]
    generalize hw2 : w1.alloc (.cells #[.slice tA tcan.length tc, .int .i64 tch] 37) = w2 at *
    have s2 : w2.heap.size = w1.heap.size + 1 := by rw [← hw2, World.size_alloc]
    have b3 : Below w2.heap.size w2 (w2.alloc (.cells (vals (List.replicate 8 0)) 56)) := (Below.refl _ _).alloc (Nat.le_refl _) _
    have r3 := RowAt.new w2 56 (vals (List.replicate 8 0))
    rw [s2, s1] at r3
    rw [s1] at r2
    refine ⟨by rw [mixW_zero]; exact (r1.below b2).below b3, r2.below b3, r3, ?_, (b1.trans (b2.mono (by omega))).trans (b3.mono (by omega))⟩
    exact h.below ((b1.trans (b2.mono (by omega))).trans (b3.mono (by omega))))
  clear h
  have HSN := hide (fun k => waitX_snoc l (tcan, tch) k)
  go_enter Try.func49, Try.ntmps49
  go_wp2_with fail
  go_loopw [9] (fun i wr => ∃ k : Nat, k ≤ n ∧ i = .int .i64 k ∧ WaitAt W wr n k (waitX (l ++ [(tcan, tch)])) (waitX l) tA tc tcan tch W.heap.size) (fun i _ => n - (intOf i).toNat)
  case atStart => exact ⟨0, Nat.zero_le _, rfl, H0.out⟩
  case round =>
    obtain ⟨k, hk, rfl, hat⟩ := hrel
    have HAT := hide hat
    have hgl := hat.arr.lt
    clear hat
    by_cases hlt : k < n
    · have hkm : (k : Int) < (n : Int) := by omega
      have hk8 : (k : Int) < 8 := by omega
      have a0 : wr.cell? ⟨W.heap.size, k, none⟩ = some (.int .i64 (waitX l k)) := (HAT.out.arr.cell k).trans (vals_at (mixW_at _ _ hlt hn))
      have af := HAT.out.arr.frozen k
      have b0 := row20 HAT.out.box
      have b1 := row21 HAT.out.box
      have bl := HAT.out.box.lt
      obtain ⟨q, hq⟩ : ∃ q, tcan.contains (k : Int) = q := ⟨_, rfl⟩
      have HC := hide (contains_any W.heap.size tA tc tcan.length tcan k wr HAT.out.rd rfl hl (Nat.le_of_lt hgl) q hq)
      have HST := hide (show waitX (l ++ [(tcan, tch)]) k = if (decide (tch ≠ k) && q) then waitX l k + 1 else 0 from by rw [HSN.out, ← hq]; rfl)
      have hwk := hwl k
      clear hq
      by_cases hck : tch = k
      · subst hck
        have hd : (((k : Nat) : Int) != (k : Int)) = false := by simp
        have HN := hide (HAT.out.next hlt hn (Nat.le_refl _) (x := 0) (by rw [HST.out]; simp))
        go_wp2_with fail
        go_roundw
        case rel => exact ⟨k + 1, by omega, by go_num, HN.out⟩
        case measure => simp [intOf]; omega
      · have hd : (((k : Nat) : Int) != tch) = true := by rw [bne_iff_ne]; exact fun e => hck e.symm
        cases q
        · have HN := hide (HAT.out.next hlt hn (Nat.le_refl _) (x := 0) (by rw [HST.out]; simp))
          go_wp2_with fail
          with_reducible refine HC.out.mono ?_
          rintro e w1 ⟨rfl, rfl⟩
          go_wp2_with fail
          go_roundw
          case rel => exact ⟨k + 1, by omega, by go_num, HN.out⟩
          case measure => simp [intOf]; omega
        · have HN := hide (HAT.out.next hlt hn (Nat.le_refl _) (x := (waitX l k : Int) + 1) (by rw [HST.out]; simp [hck]))
          have hwr : wrap64 ((waitX l k : Int) + 1) = (waitX l k : Int) + 1 := IntWalk.wrap64_in _ (by omega)
          generalize waitX l k = z at *
          clear hck
          go_wp2_with fail
          with_reducible refine HC.out.mono ?_
          rintro e w1 ⟨rfl, rfl⟩
          go_wp2_with fail
          go_roundw
          case rel => exact ⟨k + 1, by omega, by go_num, HN.out⟩
          case measure => simp [intOf]; omega
    · obtain rfl : k = n := by omega
      have HE := hide (show RowAt wr W.heap.size 56 (vals (arrW k (waitX (l ++ [(tcan, tch)])))) from by rw [← mixW_full k _ (waitX l)]; exact HAT.out.arr)
      have HRE := hide HAT.out.res
      have HBE := hide HAT.out.below
      obtain ⟨X, hX⟩ : ∃ X, vals (arrW k (waitX (l ++ [(tcan, tch)]))) = X := ⟨_, rfl⟩
      have hXs : X.size = 8 := by rw [← hX]; simp [vals, arrW]
      have INF : Hid ((Try.prog.info? 56).map (·.size) = some X.size) := hide (by rw [hXs]; kernel_rfl)
      have INF8 : Hid ((vals (List.replicate 8 0)).size = X.size) := hide (by rw [hXs]; rfl)
      have HX1 := hide (show X.all (·.oneCell') = true by rw [← hX]; exact vals_one _)
      rw [hX] at HE
      have HXX := hide hX
      clear hX hXs HAT HSN H0 hgl
      go_wp2_with (first
        | (refine wpList_load_row rfl 56 _ rfl W.heap.size rfl 56 X (0, 0) _ HE.out Try.underlying56 rfl INF.out ?_)
        | (refine wpList_store_rowAt rfl 56 _ _ rfl (W.heap.size + 1 + 1) 56 _ X rfl rfl HRE.out INF8.out INF.out HX1.out ?_; intro w8 hr8 hp8; have HR8 := hide hr8; have HP8 := hide hp8; clear hr8 hp8))
      refine bodyPost_ret (results_cell_row Try.results49 _ _ (W.heap.size + 1 + 1) 56 X (0, 0) _ rfl HR8.out Try.underlying56 rfl INF.out) rfl ?_
      exact ⟨by rw [HXX.out], HBE.out.trans (HP8.out.below.mono (by omega))⟩
theorem arrW_len (n : Nat) (f : Int → Nat) : (arrW n f).length = 8 := by simp [arrW]
theorem arrW_at {n k : Nat} (f : Int → Nat) (hk : k < n) (hn : n ≤ 8) : (arrW n f)[k]? = some ((f k : Nat) : Int) := by
  simp [arrW, hk, show k < 8 by omega]
theorem arrW_nil (n : Nat) : arrW n (waitX []) = List.replicate 8 0 := by
  have h : ∀ g : Nat, (if g < n then ((waitX [] (g : Int) : Nat) : Int) else 0) = 0 := fun g => by simp [waitX]
  unfold arrW
  simp only [h]
  rfl
theorem arrW_nil2 (n : Nat) : arrW n (mostX []) = List.replicate 8 0 := by
  have h : ∀ g : Nat, (if g < n then ((mostX [] (g : Int) : Nat) : Int) else 0) = 0 := fun g => by simp [mostX]
  unfold arrW
  simp only [h]
  rfl
theorem vals_info (n : Nat) (f : Int → Nat) : (Try.prog.info? 56).map (·.size) = some (vals (arrW n f)).size := by
  have h1 : (vals (arrW n f)).size = 8 := by simp [vals, arrW]
  have h2 : (Try.prog.info? 56).map (·.size) = some 8 := by kernel_rfl
  rw [h1]; exact h2
theorem waitX_le (l : List Tn) (g : Int) : waitX l g ≤ l.length := by
  induction hn : l.length generalizing l with
  | zero => obtain rfl := List.eq_nil_of_length_eq_zero hn; simp [waitX]
  | succ n ih =>
    obtain ⟨l0, a, rfl⟩ : ∃ l0 a, l = l0 ++ [a] := by
      rcases List.eq_nil_or_concat l with rfl | ⟨l0, a, rfl⟩
      · simp at hn
      · exact ⟨l0, a, by simp⟩
    have hl0 : l0.length = n := by simp at hn; exact hn
    have := ih l0 hl0
    rw [waitX_snoc]
    split <;> omega
theorem vals8 (n : Nat) (f : Int → Nat) : ∃ x0 x1 x2 x3 x4 x5 x6 x7 : Int, vals (arrW n f) = #[.int .i64 x0, .int .i64 x1, .int .i64 x2, .int .i64 x3, .int .i64 x4, .int .i64 x5, .int .i64 x6, .int .i64 x7] := ⟨_, _, _, _, _, _, _, _, rfl⟩
theorem RowAt.set8 {w : World} {g : Nat} {t : TypeId} (h : RowAt w g t (vals (List.replicate 8 0))) (v0 v1 v2 v3 v4 v5 v6 v7 : Value) : RowAt ((((((((w.setCell ⟨g, 0, none⟩ v0).setCell ⟨g, 1, none⟩ v1).setCell ⟨g, 2, none⟩ v2).setCell ⟨g, 3, none⟩ v3).setCell ⟨g, 4, none⟩ v4).setCell ⟨g, 5, none⟩ v5).setCell ⟨g, 6, none⟩ v6).setCell ⟨g, 7, none⟩ v7) g t #[v0, v1, v2, v3, v4, v5, v6, v7] := by
  have h := (((((((h.set 0 v0).set 1 v1).set 2 v2).set 3 v3).set 4 v4).set 5 v5).set 6 v6).set 7 v7
  have e : ∀ X : Array Value, X = vals (List.replicate 8 0) → (((((((X.setIfInBounds 0 v0).setIfInBounds 1 v1).setIfInBounds 2 v2).setIfInBounds 3 v3).setIfInBounds 4 v4).setIfInBounds 5 v5).setIfInBounds 6 v6).setIfInBounds 7 v7 = #[v0, v1, v2, v3, v4, v5, v6, v7] := by
    intro X hX
    subst hX
    simp [vals, List.replicate, valI]
  rw [e _ rfl] at h
  exact h
theorem RowAt.ne8 {w : World} {g g2 : Nat} {t : TypeId} {cs : Array Value} (h : RowAt w g t cs) (hn : g ≠ g2) (v0 v1 v2 v3 v4 v5 v6 v7 : Value) : RowAt ((((((((w.setCell ⟨g2, 0, none⟩ v0).setCell ⟨g2, 1, none⟩ v1).setCell ⟨g2, 2, none⟩ v2).setCell ⟨g2, 3, none⟩ v3).setCell ⟨g2, 4, none⟩ v4).setCell ⟨g2, 5, none⟩ v5).setCell ⟨g2, 6, none⟩ v6).setCell ⟨g2, 7, none⟩ v7) g t cs :=
  (((((((h.setNe hn).setNe hn).setNe hn).setNe hn).setNe hn).setNe hn).setNe hn).setNe hn
theorem below_set8 {b : Nat} {w0 w : World} {g : Nat} (h : Below b w0 w) (hg : b ≤ g) (v0 v1 v2 v3 v4 v5 v6 v7 : Value) : Below b w0 ((((((((w.setCell ⟨g, 0, none⟩ v0).setCell ⟨g, 1, none⟩ v1).setCell ⟨g, 2, none⟩ v2).setCell ⟨g, 3, none⟩ v3).setCell ⟨g, 4, none⟩ v4).setCell ⟨g, 5, none⟩ v5).setCell ⟨g, 6, none⟩ v6).setCell ⟨g, 7, none⟩ v7) :=
  (((((((h.setCell (p := ⟨g, 0, none⟩) hg v0).setCell (p := ⟨g, 1, none⟩) hg v1).setCell (p := ⟨g, 2, none⟩) hg v2).setCell (p := ⟨g, 3, none⟩) hg v3).setCell (p := ⟨g, 4, none⟩) hg v4).setCell (p := ⟨g, 5, none⟩) hg v5).setCell (p := ⟨g, 6, none⟩) hg v6).setCell (p := ⟨g, 7, none⟩) hg v7
theorem results_cell2 {P : Program} {fn : Func} {p q : Tmp} {ty : TypeId} (h : fn.results = #[.cell p ty, .cell q ty]) (tmps : Array Value) (w : World) (g g' : Nat) (t : TypeId) (cs cs' : Array Value) (d : TypeDesc)
    (hp : tmps.getD p undef = .pointer (some ⟨g, 0, none⟩)) (hq : tmps.getD q undef = .pointer (some ⟨g', 0, none⟩)) (hg : RowAt w g t cs) (hg' : RowAt w g' t cs')
    (hu : P.underlying ty = some d) (hd : (match d with | .struct _ | .array _ _ => true | _ => false) = true) (hi : (P.info? ty).map (·.size) = some cs.size) (hi' : (P.info? ty).map (·.size) = some cs'.size) :
    (results fn tmps).run P w = .ok (.tuple #[.agg cs, .agg cs']) w := by
  have hp' : tmps[p]?.getD undef = .pointer (some ⟨g, 0, none⟩) := by simpa using hp
  have hq' : tmps[q]?.getD undef = .pointer (some ⟨g', 0, none⟩) := by simpa using hq
  simp [results, h, hp', hq', asAddr, run_loadVar_row w g t ty cs (0, 0) d hg hu hd hi, run_loadVar_row w g' t ty cs' (0, 0) d hg' hu hd hi']
structure LongAt (W w : World) (n k : Nat) (l l0 : List Tn) (g : Nat) : Prop where
  r0 : RowAt w g 56 (vals (List.replicate 8 0))
  r1 : RowAt w (g + 1) 56 (vals (List.replicate 8 0))
  most : RowAt w (g + 2) 56 (vals (mixW n k (mostX l) (mostX l0)))
  wait : RowAt w (g + 3) 56 (vals (arrW n (waitX l)))
  below : Below W.heap.size W w
theorem LongAt.keep {W w w' : World} {n k : Nat} {l l0 : List Tn} {g : Nat} (h : LongAt W w n k l l0 g) (hb : Below w.heap.size w w') : LongAt W w' n k l l0 g :=
  ⟨h.r0.below hb, h.r1.below hb, h.most.below hb, h.wait.below hb, h.below.trans (hb.mono h.below.size)⟩
theorem LongAt.next {W w : World} {n k : Nat} {l l0 : List Tn} {g : Nat} (h : LongAt W w n k l l0 g) (hk : k < n) (hn : n ≤ 8) (hg : W.heap.size ≤ g) {x : Int} (hx : ((mostX l k : Nat) : Int) = x) : LongAt W (w.setCell ⟨g + 2, k, none⟩ (.int .i64 x)) n (k + 1) l l0 g := by
  refine ⟨h.r0.setNe (by omega), h.r1.setNe (by omega), ?_, h.wait.setNe (by omega), h.below.setCell (by show _ ≤ g + 2; omega) _⟩
  have h1 := h.most.set k (.int .i64 x)
  rw [vals_set, ← hx, mixW_set _ _ hk hn] at h1
  rw [← hx]
  exact h1
theorem LongAt.turn {W w w' : World} {n : Nat} {l : List Tn} {t : Tn} {g : Nat} (h : LongAt W w n n l l g) (hg : W.heap.size ≤ g) (hr : RowAt w' (g + 3) 56 (vals (arrW n (waitX (l ++ [t]))))) (hp : Past (g + 3) w w') : LongAt W w' n 0 (l ++ [t]) l g :=
  ⟨h.r0.past hp (by omega), h.r1.past hp (by omega), by rw [mixW_zero]; have := h.most.past hp (by omega); rwa [mixW_full] at this, hr, h.below.trans (hp.below.mono (by omega))⟩
set_option maxHeartbeats 1000000 in
theorem longest_any (B : Nat) (A : Option Addr) (c m n : Nat) (ts : List Tm) (W : World) (h : RT W B A m ts) (hB : B ≤ W.heap.size) (hs : SmallT ts) (hn : n ≤ 8) :
    Calls Try.prog 35 #[.int .i64 n, .slice A m c] W fun e W' => e = .returned (.tuple #[.agg (vals (arrW n (mostX (tns ts)))), .agg (vals (arrW n (waitX (tns ts))))]) ∧ Below W.heap.size W W' := by
  have H := hide h
  have HS := hide hs
  have HL := hide h.len
  have hm : m ≤ 4096 := by have := hs.1; have := h.len; omega
  have H0 := hide (show LongAt W ((((W.alloc (.cells (vals (List.replicate 8 0)) 56)).alloc (.cells (vals (List.replicate 8 0)) 56)).alloc (.cells (vals (List.replicate 8 0)) 56)).alloc (.cells (vals (List.replicate 8 0)) 56)) n n [] [] W.heap.size from by
    have b1 : Below W.heap.size W (W.alloc (.cells (vals (List.replicate 8 0)) 56)) := (Below.refl _ _).alloc (Nat.le_refl _) _
    have r1 := RowAt.new W 56 (vals (List.replicate 8 0))
    generalize hw1 : W.alloc (.cells (vals (List.replicate 8 0)) 56) = w1 at *
    have s1 : w1.heap.size = W.heap.size + 1 := by rw [← hw1, World.size_alloc]
    have b2 : Below w1.heap.size w1 (w1.alloc (.cells (vals (List.replicate 8 0)) 56)) := (Below.refl _ _).alloc (Nat.le_refl _) _
    have r2 := RowAt.new w1 56 (vals (List.replicate 8 0))
    generalize hw2 : w1.alloc (.cells (vals (List.replicate 8 0)) 56) = w2 at *
    have s2 : w2.heap.size = w1.heap.size + 1 := by rw [← hw2, World.size_alloc]
    have b3 : Below w2.heap.size w2 (w2.alloc (.cells (vals (List.replicate 8 0)) 56)) := (Below.refl _ _).alloc (Nat.le_refl _) _
    have r3 := RowAt.new w2 56 (vals (List.replicate 8 0))
    generalize hw3 : w2.alloc (.cells (vals (List.replicate 8 0)) 56) = w3 at *
    have s3 : w3.heap.size = w2.heap.size + 1 := by rw [← hw3, World.size_alloc]
    have b4 : Below w3.heap.size w3 (w3.alloc (.cells (vals (List.replicate 8 0)) 56)) := (Below.refl _ _).alloc (Nat.le_refl _) _
    have r4 := RowAt.new w3 56 (vals (List.replicate 8 0))
    rw [s3, s2, s1] at r4
    rw [s2, s1] at r3
    rw [s1] at r2
    exact ⟨((r1.below b2).below b3).below b4, (r2.below b3).below b4, by rw [mixW_full, arrW_nil2]; exact r3.below b4, by rw [arrW_nil]; exact r4, ((b1.trans (b2.mono (by omega))).trans (b3.mono (by omega))).trans (b4.mono (by omega))⟩)
  clear h hs
  go_enter Try.func35, Try.ntmps35
  go_wp2_with fail
  go_loopw [13] (fun i wr => ∃ k : Nat, k ≤ m ∧ i = .int .i64 k ∧ LongAt W wr n n (tns (ts.take k)) (tns (ts.take k)) W.heap.size) (fun i _ => m - (intOf i).toNat)
  case atStart => exact ⟨0, Nat.zero_le _, rfl, H0.out⟩
  case round =>
    obtain ⟨k, hk, rfl, hat⟩ := hrel
    have HAT := hide hat
    clear hat H0
    by_cases hlt : k < m
    · have hlx : k < ts.length := by rw [HL.out]; exact hlt
      obtain ⟨b, o, rfl, hb, d0, d1, hcan⟩ := (H.out.below (HAT.out.below.mono hB)).at_ hlx
      have hbl : b < wr.heap.size := Nat.lt_of_lt_of_le hb (Nat.le_trans hB HAT.out.below.size)
      have hkm : (k : Int) < (m : Int) := by omega
      have HT := hide (show tns (ts.take (k + 1)) = tns (ts.take k) ++ [ts[k].tn] from by rw [List.take_succ_eq_append_getElem hlx, tns, List.map_append]; rfl)
      have hcl := HS.out.2 _ (List.getElem_mem hlx)
      have hll : (tns (ts.take k)).length ≤ 4096 := by rw [tns_len, List.length_take]; omega
      generalize ts[k] = t at *
      obtain ⟨tA, tc, tcan, tch⟩ := t
      dsimp only [Tm.tn] at *
      obtain ⟨l, hl⟩ : ∃ l, tns (ts.take k) = l := ⟨_, rfl⟩
      rw [hl] at HAT HT hll
      clear hl
      have HBN := hide (show Below wr.heap.size wr (wr.alloc (.cells #[.slice tA tcan.length tc, .int .i64 tch] 37)) from (Below.refl _ _).alloc (Nat.le_refl _) _)
      have HC := hide ((hcan.more (Nat.le_trans hB HAT.out.below.size)).below HBN.out)
      have HRN := hide (RowAt.new wr 37 #[.slice tA tcan.length tc, .int .i64 tch])
      have HAN := hide (HAT.out.keep HBN.out)
      have HSZ := hide (show wr.heap.size < (wr.alloc (.cells #[.slice tA tcan.length tc, .int .i64 tch] 37)).heap.size from by rw [World.size_alloc]; omega)
      clear hb hcan
      go_upto_region 5 with (fail)
      generalize wr.alloc (.cells #[.slice tA tcan.length tc, .int .i64 tch] 37) = w5 at *
      obtain ⟨gb, hgb⟩ : ∃ gb, wr.heap.size = gb := ⟨_, rfl⟩
      have hgW : W.heap.size + 3 < gb := by rw [← hgb]; exact HAT.out.wait.lt
      have HAT0 := HAT
      rw [hgb] at HC HRN HBN HSZ hbl ⊢
      clear HAT0 HBN hgb
      have b0 := row20 HRN.out
      have b1 := row21 HRN.out
      have bl := HRN.out.lt
      have hrd : Rd w5 w5.heap.size 1 tA tcan.length (Cs encI tcan) := HC.out.more (Nat.le_of_lt HSZ.out)
      have HTC := hide (turn_any l n hn tA tc tcan tch w5 hrd hcl (fun g => Nat.le_trans (waitX_le l g) hll))
      have HI1 := hide (vals_info n (waitX l))
      have HI2 := hide (vals_info n (waitX (l ++ [(tcan, tch)])))
      have HIS := hide (show (vals (arrW n (waitX l))).size = (vals (arrW n (waitX (l ++ [(tcan, tch)])))).size from by simp [vals, arrW_len])
      clear hrd
      go_wp2_with (first
        | (refine wpList_load_row rfl 56 _ rfl (W.heap.size + 3) rfl 56 (vals (arrW n (waitX l))) (0, 0) _ HAN.out.wait Try.underlying56 rfl HI1.out ?_)
        | (go_at_call 49; with_reducible refine HTC.out.mono ?_; rintro e w6 ⟨rfl, hb6⟩; have HA6 := hide (HAN.out.keep hb6); clear hb6)
        | (refine wpList_store_rowAt rfl 56 _ _ rfl (W.heap.size + 3) 56 _ (vals (arrW n (waitX (l ++ [(tcan, tch)])))) rfl rfl HA6.out.wait HIS.out HI2.out (vals_one _) ?_; intro w7 hr7 hp7; have HA7 := hide (HA6.out.turn (Nat.le_refl _) hr7 hp7); clear hr7 hp7))
      go_loopw [22] (fun i wr => ∃ k2 : Nat, k2 ≤ n ∧ i = .int .i64 k2 ∧ LongAt W wr n k2 (l ++ [(tcan, tch)]) l W.heap.size) (fun i _ => n - (intOf i).toNat)
      case atStart => exact ⟨0, Nat.zero_le _, rfl, HA7.out⟩
      case round =>
        obtain ⟨k2, hk2, rfl, hat2⟩ := hrel
        have HAT2 := hide hat2
        have hl3 := hat2.wait.lt
        clear hat2
        by_cases hlt2 : k2 < n
        · have hkm2 : (k2 : Int) < (n : Int) := by omega
          have hk8 : (k2 : Int) < 8 := by omega
          have c0 : wr.cell? ⟨W.heap.size + 1 + 1, k2, none⟩ = some (.int .i64 (mostX l k2)) := (HAT2.out.most.cell k2).trans (vals_at (mixW_at _ _ hlt2 hn))
          have c1 : wr.cell? ⟨W.heap.size + 1 + 1 + 1, k2, none⟩ = some (.int .i64 (waitX (l ++ [(tcan, tch)]) k2)) := (HAT2.out.wait.cell k2).trans (vals_at (arrW_at _ hlt2 hn))
          have cf : wr.frozen? ⟨W.heap.size + 1 + 1, k2, none⟩ = false := HAT2.out.most.frozen k2
          have cl : W.heap.size + 1 + 1 < wr.heap.size := HAT2.out.most.lt
          have HMX := hide (show ((mostX (l ++ [(tcan, tch)]) k2 : Nat) : Int) = max ((mostX l k2 : Nat) : Int) ((waitX (l ++ [(tcan, tch)]) k2 : Nat) : Int) from by rw [mostX_snoc]; omega)
          generalize ((mostX l k2 : Nat) : Int) = x at *
          generalize ((waitX (l ++ [(tcan, tch)]) k2 : Nat) : Int) = y at *
          have HN := hide (HAT2.out.next hlt2 hn (Nat.le_refl _) HMX.out)
          go_wp2_with fail
          go_region
          have HN2 := hide (HN.out.keep (Below.refl _ _).drew)
          go_wp2_with fail
          go_roundw
          case rel => exact ⟨k2 + 1, by omega, by go_num, HN2.out⟩
          case measure => simp [intOf]; omega
        · obtain rfl : k2 = n := by omega
          have HE := hide (show LongAt W wr k2 k2 (tns (ts.take (k + 1))) (tns (ts.take (k + 1))) W.heap.size from by
            rw [HT.out]
            have h := HAT2.out
            exact ⟨h.r0, h.r1, by rw [mixW_full]; have := h.most; rwa [mixW_full] at this, h.wait, h.below⟩)
          go_wp2_with fail
          go_roundw
          case rel => exact ⟨k + 1, by omega, by go_num, HE.out⟩
          case measure => simp [intOf]; omega
    · obtain rfl : k = m := by omega
      have HTK := hide (show tns (ts.take k) = tns ts from by rw [List.take_of_length_le (by rw [HL.out]; omega)])
      rw [HTK.out] at HAT
      have hat := HAT.out
      have HR0 := hide hat.r0
      have HR1 := hide hat.r1
      have HM := hide (show RowAt wr (W.heap.size + 1 + 1) 56 (vals (arrW n (mostX (tns ts)))) from by have := hat.most; rwa [mixW_full] at this)
      have HWT := hide (show RowAt wr (W.heap.size + 1 + 1 + 1) 56 (vals (arrW n (waitX (tns ts)))) from hat.wait)
      have HB := hide hat.below
      have HI1 := hide (vals_info n (mostX (tns ts)))
      have HI2 := hide (vals_info n (waitX (tns ts)))
      obtain ⟨x0, x1, x2, x3, x4, x5, x6, x7, hx⟩ := vals8 n (mostX (tns ts))
      obtain ⟨y0, y1, y2, y3, y4, y5, y6, y7, hy⟩ := vals8 n (waitX (tns ts))
      have HX := hide hx
      have HY := hide hy
      rw [hx] at HM HI1
      rw [hy] at HWT HI2
      have g2 := HR1.out.lt
      have a0 : wr.cell? ⟨W.heap.size + 1 + 1, 0, none⟩ = some (.int .i64 x0) := HM.out.cell 0
      have b0 : wr.cell? ⟨W.heap.size + 1 + 1 + 1, 0, none⟩ = some (.int .i64 y0) := HWT.out.cell 0
      have c0 : wr.frozen? ⟨W.heap.size, 0, none⟩ = false := HR0.out.frozen 0
      have d0 : wr.frozen? ⟨W.heap.size + 1, 0, none⟩ = false := HR1.out.frozen 0
      have e0 : wr.cell? ⟨W.heap.size, 0, none⟩ = some (.int .i64 0) := HR0.out.cell 0
      have f0 : wr.cell? ⟨W.heap.size + 1, 0, none⟩ = some (.int .i64 0) := HR1.out.cell 0
      have a1 : wr.cell? ⟨W.heap.size + 1 + 1, 1, none⟩ = some (.int .i64 x1) := HM.out.cell 1
      have b1 : wr.cell? ⟨W.heap.size + 1 + 1 + 1, 1, none⟩ = some (.int .i64 y1) := HWT.out.cell 1
      have c1 : wr.frozen? ⟨W.heap.size, 1, none⟩ = false := HR0.out.frozen 1
      have d1 : wr.frozen? ⟨W.heap.size + 1, 1, none⟩ = false := HR1.out.frozen 1
      have e1 : wr.cell? ⟨W.heap.size, 1, none⟩ = some (.int .i64 0) := HR0.out.cell 1
      have f1 : wr.cell? ⟨W.heap.size + 1, 1, none⟩ = some (.int .i64 0) := HR1.out.cell 1
      have a2 : wr.cell? ⟨W.heap.size + 1 + 1, 2, none⟩ = some (.int .i64 x2) := HM.out.cell 2
      have b2 : wr.cell? ⟨W.heap.size + 1 + 1 + 1, 2, none⟩ = some (.int .i64 y2) := HWT.out.cell 2
      have c2 : wr.frozen? ⟨W.heap.size, 2, none⟩ = false := HR0.out.frozen 2
      have d2 : wr.frozen? ⟨W.heap.size + 1, 2, none⟩ = false := HR1.out.frozen 2
      have e2 : wr.cell? ⟨W.heap.size, 2, none⟩ = some (.int .i64 0) := HR0.out.cell 2
      have f2 : wr.cell? ⟨W.heap.size + 1, 2, none⟩ = some (.int .i64 0) := HR1.out.cell 2
      have a3 : wr.cell? ⟨W.heap.size + 1 + 1, 3, none⟩ = some (.int .i64 x3) := HM.out.cell 3
      have b3 : wr.cell? ⟨W.heap.size + 1 + 1 + 1, 3, none⟩ = some (.int .i64 y3) := HWT.out.cell 3
      have c3 : wr.frozen? ⟨W.heap.size, 3, none⟩ = false := HR0.out.frozen 3
      have d3 : wr.frozen? ⟨W.heap.size + 1, 3, none⟩ = false := HR1.out.frozen 3
      have e3 : wr.cell? ⟨W.heap.size, 3, none⟩ = some (.int .i64 0) := HR0.out.cell 3
      have f3 : wr.cell? ⟨W.heap.size + 1, 3, none⟩ = some (.int .i64 0) := HR1.out.cell 3
      have a4 : wr.cell? ⟨W.heap.size + 1 + 1, 4, none⟩ = some (.int .i64 x4) := HM.out.cell 4
      have b4 : wr.cell? ⟨W.heap.size + 1 + 1 + 1, 4, none⟩ = some (.int .i64 y4) := HWT.out.cell 4
      have c4 : wr.frozen? ⟨W.heap.size, 4, none⟩ = false := HR0.out.frozen 4
      have d4 : wr.frozen? ⟨W.heap.size + 1, 4, none⟩ = false := HR1.out.frozen 4
      have e4 : wr.cell? ⟨W.heap.size, 4, none⟩ = some (.int .i64 0) := HR0.out.cell 4
      have f4 : wr.cell? ⟨W.heap.size + 1, 4, none⟩ = some (.int .i64 0) := HR1.out.cell 4
      have a5 : wr.cell? ⟨W.heap.size + 1 + 1, 5, none⟩ = some (.int .i64 x5) := HM.out.cell 5
      have b5 : wr.cell? ⟨W.heap.size + 1 + 1 + 1, 5, none⟩ = some (.int .i64 y5) := HWT.out.cell 5
      have c5 : wr.frozen? ⟨W.heap.size, 5, none⟩ = false := HR0.out.frozen 5
      have d5 : wr.frozen? ⟨W.heap.size + 1, 5, none⟩ = false := HR1.out.frozen 5
      have e5 : wr.cell? ⟨W.heap.size, 5, none⟩ = some (.int .i64 0) := HR0.out.cell 5
      have f5 : wr.cell? ⟨W.heap.size + 1, 5, none⟩ = some (.int .i64 0) := HR1.out.cell 5
      have a6 : wr.cell? ⟨W.heap.size + 1 + 1, 6, none⟩ = some (.int .i64 x6) := HM.out.cell 6
      have b6 : wr.cell? ⟨W.heap.size + 1 + 1 + 1, 6, none⟩ = some (.int .i64 y6) := HWT.out.cell 6
      have c6 : wr.frozen? ⟨W.heap.size, 6, none⟩ = false := HR0.out.frozen 6
      have d6 : wr.frozen? ⟨W.heap.size + 1, 6, none⟩ = false := HR1.out.frozen 6
      have e6 : wr.cell? ⟨W.heap.size, 6, none⟩ = some (.int .i64 0) := HR0.out.cell 6
      have f6 : wr.cell? ⟨W.heap.size + 1, 6, none⟩ = some (.int .i64 0) := HR1.out.cell 6
      have a7 : wr.cell? ⟨W.heap.size + 1 + 1, 7, none⟩ = some (.int .i64 x7) := HM.out.cell 7
      have b7 : wr.cell? ⟨W.heap.size + 1 + 1 + 1, 7, none⟩ = some (.int .i64 y7) := HWT.out.cell 7
      have c7 : wr.frozen? ⟨W.heap.size, 7, none⟩ = false := HR0.out.frozen 7
      have d7 : wr.frozen? ⟨W.heap.size + 1, 7, none⟩ = false := HR1.out.frozen 7
      have e7 : wr.cell? ⟨W.heap.size, 7, none⟩ = some (.int .i64 0) := HR0.out.cell 7
      have f7 : wr.cell? ⟨W.heap.size + 1, 7, none⟩ = some (.int .i64 0) := HR1.out.cell 7
      clear hx hy hat HAT HTK HS H HL
      go_wp2_with fail
      go_region
      have HE := hide (And.intro ((HR0.out.set8 (.int .i64 x0) (.int .i64 x1) (.int .i64 x2) (.int .i64 x3) (.int .i64 x4) (.int .i64 x5) (.int .i64 x6) (.int .i64 x7)).ne8 (g2 := W.heap.size + 1) (by omega) (.int .i64 y0) (.int .i64 y1) (.int .i64 y2) (.int .i64 y3) (.int .i64 y4) (.int .i64 y5) (.int .i64 y6) (.int .i64 y7))
        (And.intro ((HR1.out.ne8 (g2 := W.heap.size) (by omega) (.int .i64 x0) (.int .i64 x1) (.int .i64 x2) (.int .i64 x3) (.int .i64 x4) (.int .i64 x5) (.int .i64 x6) (.int .i64 x7)).set8 (.int .i64 y0) (.int .i64 y1) (.int .i64 y2) (.int .i64 y3) (.int .i64 y4) (.int .i64 y5) (.int .i64 y6) (.int .i64 y7))
        (below_set8 (below_set8 HB.out (Nat.le_refl _) (.int .i64 x0) (.int .i64 x1) (.int .i64 x2) (.int .i64 x3) (.int .i64 x4) (.int .i64 x5) (.int .i64 x6) (.int .i64 x7)) (Nat.le_succ _) (.int .i64 y0) (.int .i64 y1) (.int .i64 y2) (.int .i64 y3) (.int .i64 y4) (.int .i64 y5) (.int .i64 y6) (.int .i64 y7))))
      generalize (((((((((((((((wr.setCell ⟨W.heap.size, 0, none⟩ (.int .i64 x0)).setCell ⟨W.heap.size, 1, none⟩ (.int .i64 x1)).setCell ⟨W.heap.size, 2, none⟩ (.int .i64 x2)).setCell ⟨W.heap.size, 3, none⟩ (.int .i64 x3)).setCell ⟨W.heap.size, 4, none⟩ (.int .i64 x4)).setCell ⟨W.heap.size, 5, none⟩ (.int .i64 x5)).setCell ⟨W.heap.size, 6, none⟩ (.int .i64 x6)).setCell ⟨W.heap.size, 7, none⟩ (.int .i64 x7)).setCell ⟨W.heap.size + 1, 0, none⟩ (.int .i64 y0)).setCell ⟨W.heap.size + 1, 1, none⟩ (.int .i64 y1)).setCell ⟨W.heap.size + 1, 2, none⟩ (.int .i64 y2)).setCell ⟨W.heap.size + 1, 3, none⟩ (.int .i64 y3)).setCell ⟨W.heap.size + 1, 4, none⟩ (.int .i64 y4)).setCell ⟨W.heap.size + 1, 5, none⟩ (.int .i64 y5)).setCell ⟨W.heap.size + 1, 6, none⟩ (.int .i64 y6)).setCell ⟨W.heap.size + 1, 7, none⟩ (.int .i64 y7) = w9 at *
      clear a0 a1 a2 a3 a4 a5 a6 a7 b0 b1 b2 b3 b4 b5 b6 b7 c0 c1 c2 c3 c4 c5 c6 c7 d0 d1 d2 d3 d4 d5 d6 d7 e0 e1 e2 e3 e4 e5 e6 e7 f0 f1 f2 f3 f4 f5 f6 f7
      go_wp2_with fail
      refine bodyPost_ret (results_cell2 Try.results35 _ _ W.heap.size (W.heap.size + 1) 56 _ _ _ rfl rfl HE.out.1.drew HE.out.2.1.drew Try.underlying56 rfl HI1.out HI2.out) rfl ?_
      exact ⟨by rw [HX.out, HY.out], HE.out.2.2.drew⟩
end Go.Proofs.Ytogjokoaghpjiaa

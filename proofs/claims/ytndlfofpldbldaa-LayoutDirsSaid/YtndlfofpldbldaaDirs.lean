/-
  The law LayoutDirs, walked.
-/
import Derived.Test.YtndlfofpldbldaaDg
import Derived.Test.YtndlfofpldbldaaWords
import Derived.Deep.CutRange
import Derived.Deep.CutBlock
set_option linter.unusedSimpArgs false
set_option linter.unusedVariables false
namespace Go.Proofs.Ytndlfofpldbldaa
open Go Go.RowKit

/-- The row lies in no block g. -/
def Off (A : Option Addr) (n g : Nat) : Prop := 0 < n → ∀ p, A = some p → p.block ≠ g
theorem Rd.off_lt {w : World} {B sz n g : Nat} {A : Option Addr} {xs : List Value} (h : Rd w B sz A n xs) (hB : B ≤ g) : Off A n g := fun hn p hp => by
  obtain ⟨b, off, rfl, hb, _⟩ := h.2 hn
  injection hp with hp; subst hp
  show b ≠ g; omega
theorem Off.new {A : Option Addr} {n g B : Nat} (h : 0 < n → ∃ b, A = some ⟨b, 0, none⟩ ∧ B ≤ b) (hg : g < B) : Off A n g := fun hn p hp => by
  obtain ⟨b, rfl, hb⟩ := h hn
  injection hp with hp; subst hp
  show b ≠ g; omega
theorem Rd.store {w : World} {B sz n g j : Nat} {v : Value} {A : Option Addr} {xs : List Value} (h : Rd w B sz A n xs) (ho : Off A n g) : Rd (w.setCell ⟨g, j, none⟩ v) B sz A n xs :=
  ⟨h.1, fun hn => by
    obtain ⟨b, off, rfl, hb, hc⟩ := h.2 hn
    have hne := ho hn _ rfl
    exact ⟨b, off, rfl, hb, fun i u hi => (World.cell?_setCell_far _ _ _ _ (fun e => hne e.symm)).trans (hc i u hi)⟩⟩
theorem RowAt.store {w : World} {g g' j : Nat} {t : TypeId} {v : Value} {cs : Array Value} (h : RowAt w g t cs) (hne : g ≠ g') : RowAt (w.setCell ⟨g', j, none⟩ v) g t cs :=
  (heap_setCell_ne _ _ _ _ hne).trans h

theorem SameDirN {n1 n2 : Nat} (A1 A2 : Option Addr) (c1 c2 : Nat) (d1 d2 : Int) (xs ys : List (Int × Int)) (W : World) (h1 : Rd W W.heap.size 2 A1 n1 (Cs encE xs)) (h2 : Rd W W.heap.size 2 A2 n2 (Cs encE ys)) (hx : xs.length = n1) (hy : ys.length = n2)
    (hl1 : n1 ≤ 4096) (hl2 : n2 ≤ 4096) (r : Bool) (hr : (decide (d1 = d2) && decide (xs = ys)) = r) :
    Calls Try.prog 34 #[.agg #[.int .i64 d1, .slice A1 n1 c1], .agg #[.int .i64 d2, .slice A2 n2 c2]] W fun e W' => e = .returned (.bool r) ∧ Below W.heap.size W W' := by
  subst hx hy
  exact SameDir_any _ _ A1 A2 c1 c2 d1 d2 xs ys W h1 h2 (Nat.le_refl _) (Nat.le_refl _) hl1 hl2 r hr
theorem SameN {n1 n2 : Nat} (A1 A2 : Option Addr) (c1 c2 : Nat) (d1 d2 : Int) (xs ys : List (Int × Int)) (W : World) (h1 : Rd W W.heap.size 2 A1 n1 (Cs encE xs)) (h2 : Rd W W.heap.size 2 A2 n2 (Cs encE ys)) (hx : xs.length = n1) (hy : ys.length = n2)
    (hl1 : n1 ≤ 4096) (hl2 : n2 ≤ 4096) (r : Bool) (hr : (decide (d1 = d2) && decide (xs = ys)) = r) :
    Calls Try.prog 33 #[.agg #[.int .i64 d1, .slice A1 n1 c1], .agg #[.int .i64 d2, .slice A2 n2 c2]] W fun e W' => e = .returned (.bool r) ∧ Below W.heap.size W W' := by
  subst hx hy
  exact Same_any _ _ A1 A2 c1 c2 d1 d2 xs ys W h1 h2 (Nat.le_refl _) (Nat.le_refl _) hl1 hl2 r hr
theorem EqualWN {n1 n2 : Nat} (A1 A2 : Option Addr) (c1 c2 : Nat) (xs ys : List (Int)) (W : World) (h1 : Rd W W.heap.size 1 A1 n1 (Cs encW xs)) (h2 : Rd W W.heap.size 1 A2 n2 (Cs encW ys)) (hx : xs.length = n1) (hy : ys.length = n2)
    (hl1 : n1 ≤ 4096) (hl2 : n2 ≤ 4096) (r : Bool) (hr : decide (xs = ys) = r) :
    Calls Try.prog 24 #[.slice A1 n1 c1, .slice A2 n2 c2] W fun e W' => e = .returned (.bool r) ∧ Below W.heap.size W W' := by
  subst hx hy
  exact EqualW _ _ A1 A2 c1 c2 xs ys W h1 h2 (Nat.le_refl _) (Nat.le_refl _) hl1 hl2 r hr
theorem shape_small {dep : Int} {n : Nat} (hs : dirShape dep n = true) : 0 ≤ dep ∧ dep ≤ 5 ∧ n ≤ 32 := by
  simp only [dirShape, decide_eq_true_eq] at hs
  obtain ⟨⟨d0, d1⟩, hn⟩ := hs
  obtain ⟨p1, p2⟩ := pow_small dep d0 d1
  exact ⟨d0, d1, by omega⟩
theorem dirInts_len (dep : Int) (es : List (Int × Int)) (hs : dirShape dep es.length = true) : (dirInts dep es).length = 40 := by
  obtain ⟨_, _, h⟩ := shape_small hs
  simp [dirInts]; omega
theorem LDirWordsU {m : Nat} (A : Option Addr) (c : Nat) (dep : Int) (es : List (Int × Int)) (W : World) (h : Rd W W.heap.size 2 A m (Cs encE es)) (hu : ∀ e ∈ es, U64 e.2) (hm : es.length = m) (r : Bool) (hr : (dirShape dep es.length && entsOk es) = r) :
    Calls Try.prog 31 #[.agg #[.int .i64 dep, .slice A m c]] W fun e W' => ∃ (A' : Option Addr) (n c' : Nat) (ev : Int) (ys : List Int), e = .returned (.tuple #[.slice A' n c', .int .i64 ev]) ∧ ys.length = n ∧ n ≤ 40 ∧ Rd W' W'.heap.size 1 A' n (Cs encW ys) ∧ Below W.heap.size W W' ∧ (r = true → ys = dirInts dep es ∧ n = 40 ∧ ev = 0) ∧ (r = false → ys = [] ∧ n = 0 ∧ ev = 261) := by
  refine (LDirWords_any W.heap.size A c dep es W (by rw [hm]; exact h) (Nat.le_refl _) hu m hm).mono ?_
  rintro e w3 ⟨hb3, ⟨hs, hok, g4, cap4, rfl, hcap, hcap2, hrd4⟩ | ⟨hno, rfl⟩⟩
  · refine ⟨_, 40, cap4, 0, dirInts dep es, rfl, dirInts_len dep es hs, Nat.le_refl _, hrd4, hb3, fun _ => ⟨rfl, rfl, rfl⟩, fun h => ?_⟩
    rw [hs, hok] at hr; subst hr; cases h
  · refine ⟨none, 0, 0, 261, [], rfl, rfl, by omega, Rd.none_, hb3, fun h => ?_, fun _ => ⟨rfl, rfl, rfl⟩⟩
    rw [hno] at hr; subst hr; cases h
theorem own_form2 {w : World} {base : Nat} {e : TypeId} {sz n : Nat} {v : Value} {xs : List Value} (h : w.ownsRow base e sz v n xs) : ∃ A c, v = .slice A n c ∧ n ≤ c ∧ c ≤ 9223372036854775807 := by
  rcases h.2 with ⟨rfl, rfl⟩ | ⟨g, cap, cur, rfl, _, _, hnc, hcm, _⟩
  · exact ⟨none, 0, rfl, Nat.le_refl _, by omega⟩
  · exact ⟨_, _, rfl, hnc, by unfold maxLen at hcm; omega⟩
set_option maxRecDepth 100000 in
set_option maxHeartbeats 4000000 in
theorem Dirs_walk (A1 A2 A3 : Option Addr) (c1 c2 c3 : Nat) (dp1 dp2 : Int) (es1 es2 : List (Int × Int)) (xs : List Int) (W : World)
    (h1 : Rd W W.heap.size 2 A1 es1.length (Cs encE es1)) (h2 : Rd W W.heap.size 2 A2 es2.length (Cs encE es2)) (h3 : Rd W W.heap.size 1 A3 xs.length (Cs encW xs)) (hu1 : ∀ e ∈ es1, U64 e.2) (hu2 : ∀ e ∈ es2, U64 e.2) (hu3 : ∀ x ∈ xs, U64 x)
    (hn1 : es1.length ≤ c1) (hn2 : es2.length ≤ c2) (hn3 : xs.length ≤ c3) (hm1 : c1 ≤ 9223372036854775807) (hm2 : c2 ≤ 9223372036854775807) (hm3 : c3 ≤ 9223372036854775807) :
    Calls Try.prog 7 #[.agg #[.int .i64 dp1, .slice A1 es1.length c1], .agg #[.int .i64 dp2, .slice A2 es2.length c2], .slice A3 xs.length c3] W fun e W' => e = .returned (.bool true) ∧ Below W.heap.size W W' := by
  have HW := hide (fun w => wakes_any w)
  have HU1 := hide hu1
  have HU2 := hide hu2
  have HU3 := hide hu3
  have HM1 := hide hm1
  have HM2 := hide hm2
  have HM3 := hide hm3
  clear hu1 hu2 hu3 hm1 hm2 hm3
  go_enter Try.func7, Try.ntmps7
  go_wp2_with fail
  have hr1 : RowAt ((W.alloc (.cells #[.int .i64 dp1, .slice A1 es1.length c1] 49)).alloc (.cells #[.int .i64 dp2, .slice A2 es2.length c2] 49)) W.heap.size 49 #[.int .i64 dp1, .slice A1 es1.length c1] := (RowAt.new _ _ _).below ((Below.refl _ _).alloc (Nat.le_refl _) _)
  have hr2 : RowAt ((W.alloc (.cells #[.int .i64 dp1, .slice A1 es1.length c1] 49)).alloc (.cells #[.int .i64 dp2, .slice A2 es2.length c2] 49)) (W.heap.size + 1) 49 #[.int .i64 dp2, .slice A2 es2.length c2] := by
    have h := RowAt.new (W.alloc (.cells #[.int .i64 dp1, .slice A1 es1.length c1] 49)) 49 #[.int .i64 dp2, .slice A2 es2.length c2]
    rw [World.size_alloc] at h; exact h
  have hb0 : Below W.heap.size W ((W.alloc (.cells #[.int .i64 dp1, .slice A1 es1.length c1] 49)).alloc (.cells #[.int .i64 dp2, .slice A2 es2.length c2] 49)) := ((Below.refl _ _).alloc (Nat.le_refl _) _).alloc (by simp) _
  generalize ((W.alloc (.cells #[.int .i64 dp1, .slice A1 es1.length c1] 49)).alloc (.cells #[.int .i64 dp2, .slice A2 es2.length c2] 49)) = w0 at *
  refine (HW.out _).mono ?_
  rintro e w1 ⟨rfl, hb1⟩
  have HR1 := hide (hr1.below hb1)
  have HR2 := hide (hr2.below hb1)
  have hbw1 := hb0.trans (hb1.mono hb0.size)
  have hs1 : W.heap.size + 1 < w1.heap.size := HR2.out.lt
  have HBW1 := hide hbw1
  clear hr1 hr2 hb0 hb1 HW
  have d0 := HR1.out.cell 0
  have d1 := HR1.out.cell 1
  have d2 := HR2.out.cell 0
  have d3 := HR2.out.cell 1
  simp only [List.getElem?_toArray, List.getElem?_cons_succ, List.getElem?_cons_zero] at d0 d1 d2 d3
  obtain ⟨fs1, hfs1⟩ : ∃ fs, es1.take (min es1.length 40) = fs := ⟨_, rfl⟩
  obtain ⟨m1, hm1⟩ : ∃ m, min es1.length 40 = m := ⟨_, rfl⟩
  obtain ⟨fs2, hfs2⟩ : ∃ fs, es2.take (min es2.length 40) = fs := ⟨_, rfl⟩
  obtain ⟨m2, hm2⟩ : ∃ m, min es2.length 40 = m := ⟨_, rfl⟩
  have hm140 : m1 ≤ 40 := by omega
  have hm240 : m2 ≤ 40 := by omega
  have hfl1 : fs1.length = m1 := by rw [← hfs1, ← hm1, List.length_take]; omega
  have hfl2 : fs2.length = m2 := by rw [← hfs2, ← hm2, List.length_take]; omega
  have hfu1 : ∀ e ∈ fs1, U64 e.2 := fun e he => HU1.out e (by rw [← hfs1] at he; exact List.mem_of_mem_take he)
  have HO1 : Hid (∀ w : World, Below w1.heap.size w1 w → Calls Try.prog 29 #[.agg #[.int .i64 dp1, .slice A1 es1.length c1]] w fun e W' => ∃ A' c', e = .returned (.agg #[.int .i64 dp1, .slice A' m1 c']) ∧ m1 ≤ c' ∧ Rd W' W'.heap.size 2 A' m1 (Cs encE fs1) ∧ (0 < m1 → ∃ b, A' = some ⟨b, 0, none⟩ ∧ w.heap.size ≤ b) ∧ Below w.heap.size w W') := hide (fun w hb => by
    have h := own_any W.heap.size A1 c1 dp1 es1 w ((h1.below hbw1).below (hb.mono hbw1.size)) (Nat.le_trans hbw1.size hb.size) hn1 HM1.out
    rw [hm1, ] at h
    rw [hm1] at hfs1
    rw [hfs1] at h
    exact h.mono fun e W' ⟨A', c', e1, e2, e3, e4⟩ => ⟨A', c', e1, e2, Rd.of_own e3, fun hn => by obtain ⟨g, cap, h1, h2, _⟩ := e3.form hn; injection h1 with h1; exact ⟨g, h1, h2⟩, e4⟩)
  have HO2 : Hid (∀ w : World, Below w1.heap.size w1 w → Calls Try.prog 29 #[.agg #[.int .i64 dp2, .slice A2 es2.length c2]] w fun e W' => ∃ A' c', e = .returned (.agg #[.int .i64 dp2, .slice A' m2 c']) ∧ m2 ≤ c' ∧ Rd W' W'.heap.size 2 A' m2 (Cs encE fs2) ∧ (0 < m2 → ∃ b, A' = some ⟨b, 0, none⟩ ∧ w.heap.size ≤ b) ∧ Below w.heap.size w W') := hide (fun w hb => by
    have h := own_any W.heap.size A2 c2 dp2 es2 w ((h2.below hbw1).below (hb.mono hbw1.size)) (Nat.le_trans hbw1.size hb.size) hn2 HM2.out
    rw [hm2, ] at h
    rw [hm2] at hfs2
    rw [hfs2] at h
    exact h.mono fun e W' ⟨A', c', e1, e2, e3, e4⟩ => ⟨A', c', e1, e2, Rd.of_own e3, fun hn => by obtain ⟨g, cap, h1, h2, _⟩ := e3.form hn; injection h1 with h1; exact ⟨g, h1, h2⟩, e4⟩)
  have HFL1 := hide hfl1
  have HFL2 := hide hfl2
  have HFU1 := hide hfu1
  clear hm1 hfs1 hfl1 hfu1 hm2 hfs2 hfl2 h1 h2
  go_upto_region 3 with fail
  go_cut [7, 8] from 26 to 29 (fun s7 s8 wx => ∃ (g7 : Nat) (A7 : Option Addr) (k7 : Nat) (g8 : Nat) (A8 : Option Addr) (k8 : Nat), s7 = .pointer (some ⟨g7, 0, none⟩) ∧ s8 = .pointer (some ⟨g8, 0, none⟩) ∧ RowAt wx g7 49 #[.int .i64 dp1, .slice A7 m1 k7] ∧ RowAt wx g8 49 #[.int .i64 dp2, .slice A8 m2 k8] ∧ Rd wx wx.heap.size 2 A7 m1 (Cs encE fs1) ∧ Rd wx wx.heap.size 2 A8 m2 (Cs encE fs2) ∧ m1 ≤ k7 ∧ m2 ≤ k8 ∧ Below w1.heap.size w1 wx)
  case first =>
    refine wp_region_held_drew (S := fun wX => Below w1.heap.size w1 wX) (by kernel_rfl) (Below.refl _ _).drew (fun hHeld => ?_)
    refine wpAnyH_take (i := 0) (v := .agg #[.int .i64 dp1, .slice A1 es1.length c1]) rfl (by kernel_rfl) (by kernel_rfl) (by kernel_rfl) (fun _ _ _ h => h) (Or.inl ⟨by rfl, fun w hw => ?_⟩) (by assumption) ?_
    · have e0 := kept hw d0
      have e1 := kept hw d1
      go_simp
      first | done | with_reducible rfl
    simp only [Act.put, List.getElem_toArray, List.getElem_cons_succ, List.getElem_cons_zero, List.setIfInBounds_toArray, List.set_cons_zero, List.set_cons_succ]
    refine wpAnyH_take (i := 2) (v := .agg #[.int .i64 dp2, .slice A2 es2.length c2]) rfl (by kernel_rfl) (by kernel_rfl) (by kernel_rfl) (fun _ _ _ h => h) (Or.inl ⟨by rfl, fun w hw => ?_⟩) (by assumption) ?_
    · have e0 := kept hw d2
      have e1 := kept hw d3
      go_simp
      first | done | with_reducible rfl
    simp only [Act.put, List.getElem_toArray, List.getElem_cons_succ, List.getElem_cons_zero, List.setIfInBounds_toArray, List.set_cons_zero, List.set_cons_succ]
    have HB := hide ((Below.refl w1.heap.size w1).drew)
    generalize w1.drew = wd at *
    refine wpAnyH_ready (rs := [1, 4, 5]) (by kernel_rfl) (by simp) ?_
    refine (AllReadyH.cons rfl (fun K0 hK0 => ?_) (AllReadyH.cons rfl (fun K0 hK0 => ?_) (AllReadyH.cons rfl (fun K0 hK0 => ?_) AllReadyH.nil)))
    · go_simp
      refine (HO1.out _ (HB.out)).mono ?_
      rintro e wa0 ⟨A7, k7, rfl, hk7, ho7, hf7, hb0⟩
      have O1 := hide ho7
      have HB := hide (HB.out.trans (hb0.mono HB.out.size))
      refine hK0.out _ _ HB.out (fun _ => ?_)
      clear hK0 K0 ho7 hf7 hb0
      (try simp only [Act.put, List.getElem_toArray, List.getElem_cons_succ, List.getElem_cons_zero, List.setIfInBounds_toArray, List.set_cons_zero, List.set_cons_succ])
      refine wpAnyH_ready (rs := [3, 4, 5]) (by kernel_rfl) (by simp) ?_
      refine (AllReadyH.cons rfl (fun K1 hK1 => ?_) (AllReadyH.cons rfl (fun K1 hK1 => ?_) (AllReadyH.cons rfl (fun K1 hK1 => ?_) AllReadyH.nil)))
      · go_simp
        refine (HO2.out _ (HB.out)).mono ?_
        rintro e wa1 ⟨A8, k8, rfl, hk8, ho8, hf8, hb1⟩
        have O1 := hide ((O1.out.below hb1).more (hb1).size)
        have O2 := hide ho8
        have HB := hide (HB.out.trans (hb1.mono HB.out.size))
        refine hK1.out _ _ HB.out (fun _ => ?_)
        clear hK1 K1 ho8 hf8 hb1
        (try simp only [Act.put, List.getElem_toArray, List.getElem_cons_succ, List.getElem_cons_zero, List.setIfInBounds_toArray, List.set_cons_zero, List.set_cons_succ])
        refine wpAnyH_ready (rs := [4, 5]) (by kernel_rfl) (by simp) ?_
        refine (AllReadyH.cons rfl (fun K2 hK2 => ?_) (AllReadyH.cons rfl (fun K2 hK2 => ?_) AllReadyH.nil))
        · go_simp
          refine hK2.out _ _ (HB.out.alloc HB.out.size _) (fun _ => ?_)
          clear hK2 K2
          have hb2 : Below wa1.heap.size wa1 (wa1.alloc (.cells #[.int .i64 0, .slice none 0 0] 49)) := (Below.refl _ _).alloc (Nat.le_refl _) _
          have N17 := hide (O1.out.off_lt (Nat.le_refl _))
          have N27 := hide (O2.out.off_lt (Nat.le_refl _))
          have O1 := hide ((O1.out.below hb2).more (hb2).size)
          have O2 := hide ((O2.out.below hb2).more (hb2).size)
          have R7 := hide (RowAt.new wa1 49 #[.int .i64 0, .slice none 0 0])
          have G7 := hide HB.out.size
          have HB := hide (HB.out.alloc HB.out.size (.cells #[.int .i64 0, .slice none 0 0] 49))
          clear hb2
          (try simp only [Act.put, List.getElem_toArray, List.getElem_cons_succ, List.getElem_cons_zero, List.setIfInBounds_toArray, List.set_cons_zero, List.set_cons_succ])
          generalize wa1.alloc (.cells #[.int .i64 0, .slice none 0 0] 49) = wa2 at *
          refine wpAnyH_ready (rs := [5]) (by kernel_rfl) (by simp) ?_
          refine (AllReadyH.cons rfl (fun K3 hK3 => ?_) AllReadyH.nil)
          · go_simp
            refine hK3.out _ _ (HB.out.alloc HB.out.size _) (fun _ => ?_)
            clear hK3 K3
            have hb3 : Below wa2.heap.size wa2 (wa2.alloc (.cells #[.int .i64 0, .slice none 0 0] 49)) := (Below.refl _ _).alloc (Nat.le_refl _) _
            have NE := hide (show wa1.heap.size ≠ wa2.heap.size from Nat.ne_of_lt R7.out.lt)
            have N18 := hide (O1.out.off_lt (Nat.le_refl _))
            have N28 := hide (O2.out.off_lt (Nat.le_refl _))
            have O1 := hide ((O1.out.below hb3).more (hb3).size)
            have O2 := hide ((O2.out.below hb3).more (hb3).size)
            have R7 := hide (R7.out.below hb3)
            have R8 := hide (RowAt.new wa2 49 #[.int .i64 0, .slice none 0 0])
            have G8 := hide HB.out.size
            have HB := hide (HB.out.alloc HB.out.size (.cells #[.int .i64 0, .slice none 0 0] 49))
            clear hb3
            (try simp only [Act.put, List.getElem_toArray, List.getElem_cons_succ, List.getElem_cons_zero, List.setIfInBounds_toArray, List.set_cons_zero, List.set_cons_succ])
            generalize wa2.alloc (.cells #[.int .i64 0, .slice none 0 0] 49) = wa3 at *
            refine wpAnyH_ready (rs := [6]) (by kernel_rfl) (by simp) ?_
            refine AllReadyH.cons rfl (fun K hK => ?_) AllReadyH.nil
            have l7 := R7.out.lt
            have z70 := R7.out.cell 0
            have f70 := R7.out.frozen 0
            have z71 := R7.out.cell 1
            have f71 := R7.out.frozen 1
            simp only [List.getElem?_toArray, List.getElem?_cons_succ, List.getElem?_cons_zero] at z70 z71
            go_simp
            refine hK.out _ _ ((HB.out.setCell (p := ⟨wa1.heap.size, 0, none⟩) G7.out _).setCell (p := ⟨wa1.heap.size, 1, none⟩) G7.out _) (fun _ => ?_)
            clear hK K
            have R8 := hide ((R8.out.store (j := 0) (v := .int .i64 dp1) (Ne.symm NE.out)).store (j := 1) (v := .slice A7 m1 k7) (Ne.symm NE.out))
            have R7 := hide ((R7.out.set 0 (.int .i64 dp1)).set 1 (.slice A7 m1 k7))
            have O1 := hide ((O1.out.store (j := 0) (v := .int .i64 dp1) N17.out).store (j := 1) (v := .slice A7 m1 k7) N17.out)
            have O2 := hide ((O2.out.store (j := 0) (v := .int .i64 dp1) N27.out).store (j := 1) (v := .slice A7 m1 k7) N27.out)
            have HB := hide ((HB.out.setCell (p := ⟨wa1.heap.size, 0, none⟩) G7.out (.int .i64 dp1)).setCell (p := ⟨wa1.heap.size, 1, none⟩) G7.out (.slice A7 m1 k7))
            have hsz : ((wa3.setCell ⟨wa1.heap.size, 0, none⟩ (.int .i64 dp1)).setCell ⟨wa1.heap.size, 1, none⟩ (.slice A7 m1 k7)).heap.size = wa3.heap.size := by simp
            rw [← hsz] at O1 O2
            clear hsz
            generalize (wa3.setCell ⟨wa1.heap.size, 0, none⟩ (.int .i64 dp1)).setCell ⟨wa1.heap.size, 1, none⟩ (.slice A7 m1 k7) = we at *
            (try simp only [Act.put, List.getElem_toArray, List.getElem_cons_succ, List.getElem_cons_zero, List.setIfInBounds_toArray, List.set_cons_zero, List.set_cons_succ])
            refine wpAnyH_ready (rs := [7]) (by kernel_rfl) (by simp) ?_
            refine AllReadyH.cons rfl (fun K hK => ?_) AllReadyH.nil
            have l8 := R8.out.lt
            have z80 := R8.out.cell 0
            have f80 := R8.out.frozen 0
            have z81 := R8.out.cell 1
            have f81 := R8.out.frozen 1
            simp only [List.getElem?_toArray, List.getElem?_cons_succ, List.getElem?_cons_zero] at z80 z81
            go_simp
            refine hK.out _ _ ((HB.out.setCell (p := ⟨wa2.heap.size, 0, none⟩) G8.out _).setCell (p := ⟨wa2.heap.size, 1, none⟩) G8.out _) (fun _ => ?_)
            clear hK K
            refine wpAnyH_done (by kernel_rfl) ?_ _
            go_wp2_with fail
            go_meet
            case rel =>
              exact ⟨_, A7, k7, _, A8, k8, rfl, rfl, (R7.out.store NE.out).store NE.out, (R8.out.set 0 _).set 1 _, by simpa using (O1.out.store N18.out).store N18.out, by simpa using (O2.out.store N28.out).store N28.out, hk7, hk8, (HB.out.setCell (p := ⟨wa2.heap.size, 0, none⟩) G8.out _).setCell (p := ⟨wa2.heap.size, 1, none⟩) G8.out _⟩
        · go_simp
          refine hK2.out _ _ (HB.out.alloc HB.out.size _) (fun _ => ?_)
          clear hK2 K2
          have hb2 : Below wa1.heap.size wa1 (wa1.alloc (.cells #[.int .i64 0, .slice none 0 0] 49)) := (Below.refl _ _).alloc (Nat.le_refl _) _
          have N18 := hide (O1.out.off_lt (Nat.le_refl _))
          have N28 := hide (O2.out.off_lt (Nat.le_refl _))
          have O1 := hide ((O1.out.below hb2).more (hb2).size)
          have O2 := hide ((O2.out.below hb2).more (hb2).size)
          have R8 := hide (RowAt.new wa1 49 #[.int .i64 0, .slice none 0 0])
          have G8 := hide HB.out.size
          have HB := hide (HB.out.alloc HB.out.size (.cells #[.int .i64 0, .slice none 0 0] 49))
          clear hb2
          (try simp only [Act.put, List.getElem_toArray, List.getElem_cons_succ, List.getElem_cons_zero, List.setIfInBounds_toArray, List.set_cons_zero, List.set_cons_succ])
          generalize wa1.alloc (.cells #[.int .i64 0, .slice none 0 0] 49) = wa2 at *
          refine wpAnyH_ready (rs := [4]) (by kernel_rfl) (by simp) ?_
          refine (AllReadyH.cons rfl (fun K3 hK3 => ?_) AllReadyH.nil)
          · go_simp
            refine hK3.out _ _ (HB.out.alloc HB.out.size _) (fun _ => ?_)
            clear hK3 K3
            have hb3 : Below wa2.heap.size wa2 (wa2.alloc (.cells #[.int .i64 0, .slice none 0 0] 49)) := (Below.refl _ _).alloc (Nat.le_refl _) _
            have NE := hide (show wa2.heap.size ≠ wa1.heap.size from Nat.ne_of_gt R8.out.lt)
            have N17 := hide (O1.out.off_lt (Nat.le_refl _))
            have N27 := hide (O2.out.off_lt (Nat.le_refl _))
            have O1 := hide ((O1.out.below hb3).more (hb3).size)
            have O2 := hide ((O2.out.below hb3).more (hb3).size)
            have R8 := hide (R8.out.below hb3)
            have R7 := hide (RowAt.new wa2 49 #[.int .i64 0, .slice none 0 0])
            have G7 := hide HB.out.size
            have HB := hide (HB.out.alloc HB.out.size (.cells #[.int .i64 0, .slice none 0 0] 49))
            clear hb3
            (try simp only [Act.put, List.getElem_toArray, List.getElem_cons_succ, List.getElem_cons_zero, List.setIfInBounds_toArray, List.set_cons_zero, List.set_cons_succ])
            generalize wa2.alloc (.cells #[.int .i64 0, .slice none 0 0] 49) = wa3 at *
            refine wpAnyH_ready (rs := [6]) (by kernel_rfl) (by simp) ?_
            refine AllReadyH.cons rfl (fun K hK => ?_) AllReadyH.nil
            have l7 := R7.out.lt
            have z70 := R7.out.cell 0
            have f70 := R7.out.frozen 0
            have z71 := R7.out.cell 1
            have f71 := R7.out.frozen 1
            simp only [List.getElem?_toArray, List.getElem?_cons_succ, List.getElem?_cons_zero] at z70 z71
            go_simp
            refine hK.out _ _ ((HB.out.setCell (p := ⟨wa2.heap.size, 0, none⟩) G7.out _).setCell (p := ⟨wa2.heap.size, 1, none⟩) G7.out _) (fun _ => ?_)
            clear hK K
            have R8 := hide ((R8.out.store (j := 0) (v := .int .i64 dp1) (Ne.symm NE.out)).store (j := 1) (v := .slice A7 m1 k7) (Ne.symm NE.out))
            have R7 := hide ((R7.out.set 0 (.int .i64 dp1)).set 1 (.slice A7 m1 k7))
            have O1 := hide ((O1.out.store (j := 0) (v := .int .i64 dp1) N17.out).store (j := 1) (v := .slice A7 m1 k7) N17.out)
            have O2 := hide ((O2.out.store (j := 0) (v := .int .i64 dp1) N27.out).store (j := 1) (v := .slice A7 m1 k7) N27.out)
            have HB := hide ((HB.out.setCell (p := ⟨wa2.heap.size, 0, none⟩) G7.out (.int .i64 dp1)).setCell (p := ⟨wa2.heap.size, 1, none⟩) G7.out (.slice A7 m1 k7))
            have hsz : ((wa3.setCell ⟨wa2.heap.size, 0, none⟩ (.int .i64 dp1)).setCell ⟨wa2.heap.size, 1, none⟩ (.slice A7 m1 k7)).heap.size = wa3.heap.size := by simp
            rw [← hsz] at O1 O2
            clear hsz
            generalize (wa3.setCell ⟨wa2.heap.size, 0, none⟩ (.int .i64 dp1)).setCell ⟨wa2.heap.size, 1, none⟩ (.slice A7 m1 k7) = we at *
            (try simp only [Act.put, List.getElem_toArray, List.getElem_cons_succ, List.getElem_cons_zero, List.setIfInBounds_toArray, List.set_cons_zero, List.set_cons_succ])
            refine wpAnyH_ready (rs := [7]) (by kernel_rfl) (by simp) ?_
            refine AllReadyH.cons rfl (fun K hK => ?_) AllReadyH.nil
            have l8 := R8.out.lt
            have z80 := R8.out.cell 0
            have f80 := R8.out.frozen 0
            have z81 := R8.out.cell 1
            have f81 := R8.out.frozen 1
            simp only [List.getElem?_toArray, List.getElem?_cons_succ, List.getElem?_cons_zero] at z80 z81
            go_simp
            refine hK.out _ _ ((HB.out.setCell (p := ⟨wa1.heap.size, 0, none⟩) G8.out _).setCell (p := ⟨wa1.heap.size, 1, none⟩) G8.out _) (fun _ => ?_)
            clear hK K
            refine wpAnyH_done (by kernel_rfl) ?_ _
            go_wp2_with fail
            go_meet
            case rel =>
              exact ⟨_, A7, k7, _, A8, k8, rfl, rfl, (R7.out.store NE.out).store NE.out, (R8.out.set 0 _).set 1 _, by simpa using (O1.out.store N18.out).store N18.out, by simpa using (O2.out.store N28.out).store N28.out, hk7, hk8, (HB.out.setCell (p := ⟨wa1.heap.size, 0, none⟩) G8.out _).setCell (p := ⟨wa1.heap.size, 1, none⟩) G8.out _⟩
      · go_simp
        refine hK1.out _ _ (HB.out.alloc HB.out.size _) (fun _ => ?_)
        clear hK1 K1
        have hb1 : Below wa0.heap.size wa0 (wa0.alloc (.cells #[.int .i64 0, .slice none 0 0] 49)) := (Below.refl _ _).alloc (Nat.le_refl _) _
        have N17 := hide (O1.out.off_lt (Nat.le_refl _))
        have O1 := hide ((O1.out.below hb1).more (hb1).size)
        have R7 := hide (RowAt.new wa0 49 #[.int .i64 0, .slice none 0 0])
        have G7 := hide HB.out.size
        have HB := hide (HB.out.alloc HB.out.size (.cells #[.int .i64 0, .slice none 0 0] 49))
        clear hb1
        (try simp only [Act.put, List.getElem_toArray, List.getElem_cons_succ, List.getElem_cons_zero, List.setIfInBounds_toArray, List.set_cons_zero, List.set_cons_succ])
        generalize wa0.alloc (.cells #[.int .i64 0, .slice none 0 0] 49) = wa1 at *
        refine wpAnyH_ready (rs := [3, 5]) (by kernel_rfl) (by simp) ?_
        refine (AllReadyH.cons rfl (fun K2 hK2 => ?_) (AllReadyH.cons rfl (fun K2 hK2 => ?_) AllReadyH.nil))
        · go_simp
          refine (HO2.out _ (HB.out)).mono ?_
          rintro e wa2 ⟨A8, k8, rfl, hk8, ho8, hf8, hb2⟩
          have N27 := hide (Off.new hf8 R7.out.lt)
          have O1 := hide ((O1.out.below hb2).more (hb2).size)
          have R7 := hide (R7.out.below hb2)
          have O2 := hide ho8
          have HB := hide (HB.out.trans (hb2.mono HB.out.size))
          refine hK2.out _ _ HB.out (fun _ => ?_)
          clear hK2 K2 ho8 hf8 hb2
          (try simp only [Act.put, List.getElem_toArray, List.getElem_cons_succ, List.getElem_cons_zero, List.setIfInBounds_toArray, List.set_cons_zero, List.set_cons_succ])
          refine wpAnyH_ready (rs := [5]) (by kernel_rfl) (by simp) ?_
          refine (AllReadyH.cons rfl (fun K3 hK3 => ?_) AllReadyH.nil)
          · go_simp
            refine hK3.out _ _ (HB.out.alloc HB.out.size _) (fun _ => ?_)
            clear hK3 K3
            have hb3 : Below wa2.heap.size wa2 (wa2.alloc (.cells #[.int .i64 0, .slice none 0 0] 49)) := (Below.refl _ _).alloc (Nat.le_refl _) _
            have NE := hide (show wa0.heap.size ≠ wa2.heap.size from Nat.ne_of_lt R7.out.lt)
            have N18 := hide (O1.out.off_lt (Nat.le_refl _))
            have N28 := hide (O2.out.off_lt (Nat.le_refl _))
            have O1 := hide ((O1.out.below hb3).more (hb3).size)
            have O2 := hide ((O2.out.below hb3).more (hb3).size)
            have R7 := hide (R7.out.below hb3)
            have R8 := hide (RowAt.new wa2 49 #[.int .i64 0, .slice none 0 0])
            have G8 := hide HB.out.size
            have HB := hide (HB.out.alloc HB.out.size (.cells #[.int .i64 0, .slice none 0 0] 49))
            clear hb3
            (try simp only [Act.put, List.getElem_toArray, List.getElem_cons_succ, List.getElem_cons_zero, List.setIfInBounds_toArray, List.set_cons_zero, List.set_cons_succ])
            generalize wa2.alloc (.cells #[.int .i64 0, .slice none 0 0] 49) = wa3 at *
            refine wpAnyH_ready (rs := [6]) (by kernel_rfl) (by simp) ?_
            refine AllReadyH.cons rfl (fun K hK => ?_) AllReadyH.nil
            have l7 := R7.out.lt
            have z70 := R7.out.cell 0
            have f70 := R7.out.frozen 0
            have z71 := R7.out.cell 1
            have f71 := R7.out.frozen 1
            simp only [List.getElem?_toArray, List.getElem?_cons_succ, List.getElem?_cons_zero] at z70 z71
            go_simp
            refine hK.out _ _ ((HB.out.setCell (p := ⟨wa0.heap.size, 0, none⟩) G7.out _).setCell (p := ⟨wa0.heap.size, 1, none⟩) G7.out _) (fun _ => ?_)
            clear hK K
            have R8 := hide ((R8.out.store (j := 0) (v := .int .i64 dp1) (Ne.symm NE.out)).store (j := 1) (v := .slice A7 m1 k7) (Ne.symm NE.out))
            have R7 := hide ((R7.out.set 0 (.int .i64 dp1)).set 1 (.slice A7 m1 k7))
            have O1 := hide ((O1.out.store (j := 0) (v := .int .i64 dp1) N17.out).store (j := 1) (v := .slice A7 m1 k7) N17.out)
            have O2 := hide ((O2.out.store (j := 0) (v := .int .i64 dp1) N27.out).store (j := 1) (v := .slice A7 m1 k7) N27.out)
            have HB := hide ((HB.out.setCell (p := ⟨wa0.heap.size, 0, none⟩) G7.out (.int .i64 dp1)).setCell (p := ⟨wa0.heap.size, 1, none⟩) G7.out (.slice A7 m1 k7))
            have hsz : ((wa3.setCell ⟨wa0.heap.size, 0, none⟩ (.int .i64 dp1)).setCell ⟨wa0.heap.size, 1, none⟩ (.slice A7 m1 k7)).heap.size = wa3.heap.size := by simp
            rw [← hsz] at O1 O2
            clear hsz
            generalize (wa3.setCell ⟨wa0.heap.size, 0, none⟩ (.int .i64 dp1)).setCell ⟨wa0.heap.size, 1, none⟩ (.slice A7 m1 k7) = we at *
            (try simp only [Act.put, List.getElem_toArray, List.getElem_cons_succ, List.getElem_cons_zero, List.setIfInBounds_toArray, List.set_cons_zero, List.set_cons_succ])
            refine wpAnyH_ready (rs := [7]) (by kernel_rfl) (by simp) ?_
            refine AllReadyH.cons rfl (fun K hK => ?_) AllReadyH.nil
            have l8 := R8.out.lt
            have z80 := R8.out.cell 0
            have f80 := R8.out.frozen 0
            have z81 := R8.out.cell 1
            have f81 := R8.out.frozen 1
            simp only [List.getElem?_toArray, List.getElem?_cons_succ, List.getElem?_cons_zero] at z80 z81
            go_simp
            refine hK.out _ _ ((HB.out.setCell (p := ⟨wa2.heap.size, 0, none⟩) G8.out _).setCell (p := ⟨wa2.heap.size, 1, none⟩) G8.out _) (fun _ => ?_)
            clear hK K
            refine wpAnyH_done (by kernel_rfl) ?_ _
            go_wp2_with fail
            go_meet
            case rel =>
              exact ⟨_, A7, k7, _, A8, k8, rfl, rfl, (R7.out.store NE.out).store NE.out, (R8.out.set 0 _).set 1 _, by simpa using (O1.out.store N18.out).store N18.out, by simpa using (O2.out.store N28.out).store N28.out, hk7, hk8, (HB.out.setCell (p := ⟨wa2.heap.size, 0, none⟩) G8.out _).setCell (p := ⟨wa2.heap.size, 1, none⟩) G8.out _⟩
        · go_simp
          refine hK2.out _ _ (HB.out.alloc HB.out.size _) (fun _ => ?_)
          clear hK2 K2
          have hb2 : Below wa1.heap.size wa1 (wa1.alloc (.cells #[.int .i64 0, .slice none 0 0] 49)) := (Below.refl _ _).alloc (Nat.le_refl _) _
          have NE := hide (show wa0.heap.size ≠ wa1.heap.size from Nat.ne_of_lt R7.out.lt)
          have N18 := hide (O1.out.off_lt (Nat.le_refl _))
          have O1 := hide ((O1.out.below hb2).more (hb2).size)
          have R7 := hide (R7.out.below hb2)
          have R8 := hide (RowAt.new wa1 49 #[.int .i64 0, .slice none 0 0])
          have G8 := hide HB.out.size
          have HB := hide (HB.out.alloc HB.out.size (.cells #[.int .i64 0, .slice none 0 0] 49))
          clear hb2
          (try simp only [Act.put, List.getElem_toArray, List.getElem_cons_succ, List.getElem_cons_zero, List.setIfInBounds_toArray, List.set_cons_zero, List.set_cons_succ])
          generalize wa1.alloc (.cells #[.int .i64 0, .slice none 0 0] 49) = wa2 at *
          refine wpAnyH_ready (rs := [3]) (by kernel_rfl) (by simp) ?_
          refine (AllReadyH.cons rfl (fun K3 hK3 => ?_) AllReadyH.nil)
          · go_simp
            refine (HO2.out _ (HB.out)).mono ?_
            rintro e wa3 ⟨A8, k8, rfl, hk8, ho8, hf8, hb3⟩
            have N27 := hide (Off.new hf8 R7.out.lt)
            have N28 := hide (Off.new hf8 R8.out.lt)
            have O1 := hide ((O1.out.below hb3).more (hb3).size)
            have R7 := hide (R7.out.below hb3)
            have R8 := hide (R8.out.below hb3)
            have O2 := hide ho8
            have HB := hide (HB.out.trans (hb3.mono HB.out.size))
            refine hK3.out _ _ HB.out (fun _ => ?_)
            clear hK3 K3 ho8 hf8 hb3
            (try simp only [Act.put, List.getElem_toArray, List.getElem_cons_succ, List.getElem_cons_zero, List.setIfInBounds_toArray, List.set_cons_zero, List.set_cons_succ])
            refine wpAnyH_ready (rs := [6]) (by kernel_rfl) (by simp) ?_
            refine AllReadyH.cons rfl (fun K hK => ?_) AllReadyH.nil
            have l7 := R7.out.lt
            have z70 := R7.out.cell 0
            have f70 := R7.out.frozen 0
            have z71 := R7.out.cell 1
            have f71 := R7.out.frozen 1
            simp only [List.getElem?_toArray, List.getElem?_cons_succ, List.getElem?_cons_zero] at z70 z71
            go_simp
            refine hK.out _ _ ((HB.out.setCell (p := ⟨wa0.heap.size, 0, none⟩) G7.out _).setCell (p := ⟨wa0.heap.size, 1, none⟩) G7.out _) (fun _ => ?_)
            clear hK K
            have R8 := hide ((R8.out.store (j := 0) (v := .int .i64 dp1) (Ne.symm NE.out)).store (j := 1) (v := .slice A7 m1 k7) (Ne.symm NE.out))
            have R7 := hide ((R7.out.set 0 (.int .i64 dp1)).set 1 (.slice A7 m1 k7))
            have O1 := hide ((O1.out.store (j := 0) (v := .int .i64 dp1) N17.out).store (j := 1) (v := .slice A7 m1 k7) N17.out)
            have O2 := hide ((O2.out.store (j := 0) (v := .int .i64 dp1) N27.out).store (j := 1) (v := .slice A7 m1 k7) N27.out)
            have HB := hide ((HB.out.setCell (p := ⟨wa0.heap.size, 0, none⟩) G7.out (.int .i64 dp1)).setCell (p := ⟨wa0.heap.size, 1, none⟩) G7.out (.slice A7 m1 k7))
            have hsz : ((wa3.setCell ⟨wa0.heap.size, 0, none⟩ (.int .i64 dp1)).setCell ⟨wa0.heap.size, 1, none⟩ (.slice A7 m1 k7)).heap.size = wa3.heap.size := by simp
            rw [← hsz] at O1 O2
            clear hsz
            generalize (wa3.setCell ⟨wa0.heap.size, 0, none⟩ (.int .i64 dp1)).setCell ⟨wa0.heap.size, 1, none⟩ (.slice A7 m1 k7) = we at *
            (try simp only [Act.put, List.getElem_toArray, List.getElem_cons_succ, List.getElem_cons_zero, List.setIfInBounds_toArray, List.set_cons_zero, List.set_cons_succ])
            refine wpAnyH_ready (rs := [7]) (by kernel_rfl) (by simp) ?_
            refine AllReadyH.cons rfl (fun K hK => ?_) AllReadyH.nil
            have l8 := R8.out.lt
            have z80 := R8.out.cell 0
            have f80 := R8.out.frozen 0
            have z81 := R8.out.cell 1
            have f81 := R8.out.frozen 1
            simp only [List.getElem?_toArray, List.getElem?_cons_succ, List.getElem?_cons_zero] at z80 z81
            go_simp
            refine hK.out _ _ ((HB.out.setCell (p := ⟨wa1.heap.size, 0, none⟩) G8.out _).setCell (p := ⟨wa1.heap.size, 1, none⟩) G8.out _) (fun _ => ?_)
            clear hK K
            refine wpAnyH_done (by kernel_rfl) ?_ _
            go_wp2_with fail
            go_meet
            case rel =>
              exact ⟨_, A7, k7, _, A8, k8, rfl, rfl, (R7.out.store NE.out).store NE.out, (R8.out.set 0 _).set 1 _, by simpa using (O1.out.store N18.out).store N18.out, by simpa using (O2.out.store N28.out).store N28.out, hk7, hk8, (HB.out.setCell (p := ⟨wa1.heap.size, 0, none⟩) G8.out _).setCell (p := ⟨wa1.heap.size, 1, none⟩) G8.out _⟩
      · go_simp
        refine hK1.out _ _ (HB.out.alloc HB.out.size _) (fun _ => ?_)
        clear hK1 K1
        have hb1 : Below wa0.heap.size wa0 (wa0.alloc (.cells #[.int .i64 0, .slice none 0 0] 49)) := (Below.refl _ _).alloc (Nat.le_refl _) _
        have N18 := hide (O1.out.off_lt (Nat.le_refl _))
        have O1 := hide ((O1.out.below hb1).more (hb1).size)
        have R8 := hide (RowAt.new wa0 49 #[.int .i64 0, .slice none 0 0])
        have G8 := hide HB.out.size
        have HB := hide (HB.out.alloc HB.out.size (.cells #[.int .i64 0, .slice none 0 0] 49))
        clear hb1
        (try simp only [Act.put, List.getElem_toArray, List.getElem_cons_succ, List.getElem_cons_zero, List.setIfInBounds_toArray, List.set_cons_zero, List.set_cons_succ])
        generalize wa0.alloc (.cells #[.int .i64 0, .slice none 0 0] 49) = wa1 at *
        refine wpAnyH_ready (rs := [3, 4]) (by kernel_rfl) (by simp) ?_
        refine (AllReadyH.cons rfl (fun K2 hK2 => ?_) (AllReadyH.cons rfl (fun K2 hK2 => ?_) AllReadyH.nil))
        · go_simp
          refine (HO2.out _ (HB.out)).mono ?_
          rintro e wa2 ⟨A8, k8, rfl, hk8, ho8, hf8, hb2⟩
          have N28 := hide (Off.new hf8 R8.out.lt)
          have O1 := hide ((O1.out.below hb2).more (hb2).size)
          have R8 := hide (R8.out.below hb2)
          have O2 := hide ho8
          have HB := hide (HB.out.trans (hb2.mono HB.out.size))
          refine hK2.out _ _ HB.out (fun _ => ?_)
          clear hK2 K2 ho8 hf8 hb2
          (try simp only [Act.put, List.getElem_toArray, List.getElem_cons_succ, List.getElem_cons_zero, List.setIfInBounds_toArray, List.set_cons_zero, List.set_cons_succ])
          refine wpAnyH_ready (rs := [4]) (by kernel_rfl) (by simp) ?_
          refine (AllReadyH.cons rfl (fun K3 hK3 => ?_) AllReadyH.nil)
          · go_simp
            refine hK3.out _ _ (HB.out.alloc HB.out.size _) (fun _ => ?_)
            clear hK3 K3
            have hb3 : Below wa2.heap.size wa2 (wa2.alloc (.cells #[.int .i64 0, .slice none 0 0] 49)) := (Below.refl _ _).alloc (Nat.le_refl _) _
            have NE := hide (show wa2.heap.size ≠ wa0.heap.size from Nat.ne_of_gt R8.out.lt)
            have N17 := hide (O1.out.off_lt (Nat.le_refl _))
            have N27 := hide (O2.out.off_lt (Nat.le_refl _))
            have O1 := hide ((O1.out.below hb3).more (hb3).size)
            have O2 := hide ((O2.out.below hb3).more (hb3).size)
            have R8 := hide (R8.out.below hb3)
            have R7 := hide (RowAt.new wa2 49 #[.int .i64 0, .slice none 0 0])
            have G7 := hide HB.out.size
            have HB := hide (HB.out.alloc HB.out.size (.cells #[.int .i64 0, .slice none 0 0] 49))
            clear hb3
            (try simp only [Act.put, List.getElem_toArray, List.getElem_cons_succ, List.getElem_cons_zero, List.setIfInBounds_toArray, List.set_cons_zero, List.set_cons_succ])
            generalize wa2.alloc (.cells #[.int .i64 0, .slice none 0 0] 49) = wa3 at *
            refine wpAnyH_ready (rs := [6]) (by kernel_rfl) (by simp) ?_
            refine AllReadyH.cons rfl (fun K hK => ?_) AllReadyH.nil
            have l7 := R7.out.lt
            have z70 := R7.out.cell 0
            have f70 := R7.out.frozen 0
            have z71 := R7.out.cell 1
            have f71 := R7.out.frozen 1
            simp only [List.getElem?_toArray, List.getElem?_cons_succ, List.getElem?_cons_zero] at z70 z71
            go_simp
            refine hK.out _ _ ((HB.out.setCell (p := ⟨wa2.heap.size, 0, none⟩) G7.out _).setCell (p := ⟨wa2.heap.size, 1, none⟩) G7.out _) (fun _ => ?_)
            clear hK K
            have R8 := hide ((R8.out.store (j := 0) (v := .int .i64 dp1) (Ne.symm NE.out)).store (j := 1) (v := .slice A7 m1 k7) (Ne.symm NE.out))
            have R7 := hide ((R7.out.set 0 (.int .i64 dp1)).set 1 (.slice A7 m1 k7))
            have O1 := hide ((O1.out.store (j := 0) (v := .int .i64 dp1) N17.out).store (j := 1) (v := .slice A7 m1 k7) N17.out)
            have O2 := hide ((O2.out.store (j := 0) (v := .int .i64 dp1) N27.out).store (j := 1) (v := .slice A7 m1 k7) N27.out)
            have HB := hide ((HB.out.setCell (p := ⟨wa2.heap.size, 0, none⟩) G7.out (.int .i64 dp1)).setCell (p := ⟨wa2.heap.size, 1, none⟩) G7.out (.slice A7 m1 k7))
            have hsz : ((wa3.setCell ⟨wa2.heap.size, 0, none⟩ (.int .i64 dp1)).setCell ⟨wa2.heap.size, 1, none⟩ (.slice A7 m1 k7)).heap.size = wa3.heap.size := by simp
            rw [← hsz] at O1 O2
            clear hsz
            generalize (wa3.setCell ⟨wa2.heap.size, 0, none⟩ (.int .i64 dp1)).setCell ⟨wa2.heap.size, 1, none⟩ (.slice A7 m1 k7) = we at *
            (try simp only [Act.put, List.getElem_toArray, List.getElem_cons_succ, List.getElem_cons_zero, List.setIfInBounds_toArray, List.set_cons_zero, List.set_cons_succ])
            refine wpAnyH_ready (rs := [7]) (by kernel_rfl) (by simp) ?_
            refine AllReadyH.cons rfl (fun K hK => ?_) AllReadyH.nil
            have l8 := R8.out.lt
            have z80 := R8.out.cell 0
            have f80 := R8.out.frozen 0
            have z81 := R8.out.cell 1
            have f81 := R8.out.frozen 1
            simp only [List.getElem?_toArray, List.getElem?_cons_succ, List.getElem?_cons_zero] at z80 z81
            go_simp
            refine hK.out _ _ ((HB.out.setCell (p := ⟨wa0.heap.size, 0, none⟩) G8.out _).setCell (p := ⟨wa0.heap.size, 1, none⟩) G8.out _) (fun _ => ?_)
            clear hK K
            refine wpAnyH_done (by kernel_rfl) ?_ _
            go_wp2_with fail
            go_meet
            case rel =>
              exact ⟨_, A7, k7, _, A8, k8, rfl, rfl, (R7.out.store NE.out).store NE.out, (R8.out.set 0 _).set 1 _, by simpa using (O1.out.store N18.out).store N18.out, by simpa using (O2.out.store N28.out).store N28.out, hk7, hk8, (HB.out.setCell (p := ⟨wa0.heap.size, 0, none⟩) G8.out _).setCell (p := ⟨wa0.heap.size, 1, none⟩) G8.out _⟩
        · go_simp
          refine hK2.out _ _ (HB.out.alloc HB.out.size _) (fun _ => ?_)
          clear hK2 K2
          have hb2 : Below wa1.heap.size wa1 (wa1.alloc (.cells #[.int .i64 0, .slice none 0 0] 49)) := (Below.refl _ _).alloc (Nat.le_refl _) _
          have NE := hide (show wa1.heap.size ≠ wa0.heap.size from Nat.ne_of_gt R8.out.lt)
          have N17 := hide (O1.out.off_lt (Nat.le_refl _))
          have O1 := hide ((O1.out.below hb2).more (hb2).size)
          have R8 := hide (R8.out.below hb2)
          have R7 := hide (RowAt.new wa1 49 #[.int .i64 0, .slice none 0 0])
          have G7 := hide HB.out.size
          have HB := hide (HB.out.alloc HB.out.size (.cells #[.int .i64 0, .slice none 0 0] 49))
          clear hb2
          (try simp only [Act.put, List.getElem_toArray, List.getElem_cons_succ, List.getElem_cons_zero, List.setIfInBounds_toArray, List.set_cons_zero, List.set_cons_succ])
          generalize wa1.alloc (.cells #[.int .i64 0, .slice none 0 0] 49) = wa2 at *
          refine wpAnyH_ready (rs := [3]) (by kernel_rfl) (by simp) ?_
          refine (AllReadyH.cons rfl (fun K3 hK3 => ?_) AllReadyH.nil)
          · go_simp
            refine (HO2.out _ (HB.out)).mono ?_
            rintro e wa3 ⟨A8, k8, rfl, hk8, ho8, hf8, hb3⟩
            have N27 := hide (Off.new hf8 R7.out.lt)
            have N28 := hide (Off.new hf8 R8.out.lt)
            have O1 := hide ((O1.out.below hb3).more (hb3).size)
            have R7 := hide (R7.out.below hb3)
            have R8 := hide (R8.out.below hb3)
            have O2 := hide ho8
            have HB := hide (HB.out.trans (hb3.mono HB.out.size))
            refine hK3.out _ _ HB.out (fun _ => ?_)
            clear hK3 K3 ho8 hf8 hb3
            (try simp only [Act.put, List.getElem_toArray, List.getElem_cons_succ, List.getElem_cons_zero, List.setIfInBounds_toArray, List.set_cons_zero, List.set_cons_succ])
            refine wpAnyH_ready (rs := [6]) (by kernel_rfl) (by simp) ?_
            refine AllReadyH.cons rfl (fun K hK => ?_) AllReadyH.nil
            have l7 := R7.out.lt
            have z70 := R7.out.cell 0
            have f70 := R7.out.frozen 0
            have z71 := R7.out.cell 1
            have f71 := R7.out.frozen 1
            simp only [List.getElem?_toArray, List.getElem?_cons_succ, List.getElem?_cons_zero] at z70 z71
            go_simp
            refine hK.out _ _ ((HB.out.setCell (p := ⟨wa1.heap.size, 0, none⟩) G7.out _).setCell (p := ⟨wa1.heap.size, 1, none⟩) G7.out _) (fun _ => ?_)
            clear hK K
            have R8 := hide ((R8.out.store (j := 0) (v := .int .i64 dp1) (Ne.symm NE.out)).store (j := 1) (v := .slice A7 m1 k7) (Ne.symm NE.out))
            have R7 := hide ((R7.out.set 0 (.int .i64 dp1)).set 1 (.slice A7 m1 k7))
            have O1 := hide ((O1.out.store (j := 0) (v := .int .i64 dp1) N17.out).store (j := 1) (v := .slice A7 m1 k7) N17.out)
            have O2 := hide ((O2.out.store (j := 0) (v := .int .i64 dp1) N27.out).store (j := 1) (v := .slice A7 m1 k7) N27.out)
            have HB := hide ((HB.out.setCell (p := ⟨wa1.heap.size, 0, none⟩) G7.out (.int .i64 dp1)).setCell (p := ⟨wa1.heap.size, 1, none⟩) G7.out (.slice A7 m1 k7))
            have hsz : ((wa3.setCell ⟨wa1.heap.size, 0, none⟩ (.int .i64 dp1)).setCell ⟨wa1.heap.size, 1, none⟩ (.slice A7 m1 k7)).heap.size = wa3.heap.size := by simp
            rw [← hsz] at O1 O2
            clear hsz
            generalize (wa3.setCell ⟨wa1.heap.size, 0, none⟩ (.int .i64 dp1)).setCell ⟨wa1.heap.size, 1, none⟩ (.slice A7 m1 k7) = we at *
            (try simp only [Act.put, List.getElem_toArray, List.getElem_cons_succ, List.getElem_cons_zero, List.setIfInBounds_toArray, List.set_cons_zero, List.set_cons_succ])
            refine wpAnyH_ready (rs := [7]) (by kernel_rfl) (by simp) ?_
            refine AllReadyH.cons rfl (fun K hK => ?_) AllReadyH.nil
            have l8 := R8.out.lt
            have z80 := R8.out.cell 0
            have f80 := R8.out.frozen 0
            have z81 := R8.out.cell 1
            have f81 := R8.out.frozen 1
            simp only [List.getElem?_toArray, List.getElem?_cons_succ, List.getElem?_cons_zero] at z80 z81
            go_simp
            refine hK.out _ _ ((HB.out.setCell (p := ⟨wa0.heap.size, 0, none⟩) G8.out _).setCell (p := ⟨wa0.heap.size, 1, none⟩) G8.out _) (fun _ => ?_)
            clear hK K
            refine wpAnyH_done (by kernel_rfl) ?_ _
            go_wp2_with fail
            go_meet
            case rel =>
              exact ⟨_, A7, k7, _, A8, k8, rfl, rfl, (R7.out.store NE.out).store NE.out, (R8.out.set 0 _).set 1 _, by simpa using (O1.out.store N18.out).store N18.out, by simpa using (O2.out.store N28.out).store N28.out, hk7, hk8, (HB.out.setCell (p := ⟨wa0.heap.size, 0, none⟩) G8.out _).setCell (p := ⟨wa0.heap.size, 1, none⟩) G8.out _⟩
    · go_simp
      refine hK0.out _ _ (HB.out.alloc HB.out.size _) (fun _ => ?_)
      clear hK0 K0
      have hb0 : Below wd.heap.size wd (wd.alloc (.cells #[.int .i64 0, .slice none 0 0] 49)) := (Below.refl _ _).alloc (Nat.le_refl _) _
      have R7 := hide (RowAt.new wd 49 #[.int .i64 0, .slice none 0 0])
      have G7 := hide HB.out.size
      have HB := hide (HB.out.alloc HB.out.size (.cells #[.int .i64 0, .slice none 0 0] 49))
      clear hb0
      (try simp only [Act.put, List.getElem_toArray, List.getElem_cons_succ, List.getElem_cons_zero, List.setIfInBounds_toArray, List.set_cons_zero, List.set_cons_succ])
      generalize wd.alloc (.cells #[.int .i64 0, .slice none 0 0] 49) = wa0 at *
      refine wpAnyH_ready (rs := [1, 5]) (by kernel_rfl) (by simp) ?_
      refine (AllReadyH.cons rfl (fun K1 hK1 => ?_) (AllReadyH.cons rfl (fun K1 hK1 => ?_) AllReadyH.nil))
      · go_simp
        refine (HO1.out _ (HB.out)).mono ?_
        rintro e wa1 ⟨A7, k7, rfl, hk7, ho7, hf7, hb1⟩
        have N17 := hide (Off.new hf7 R7.out.lt)
        have R7 := hide (R7.out.below hb1)
        have O1 := hide ho7
        have HB := hide (HB.out.trans (hb1.mono HB.out.size))
        refine hK1.out _ _ HB.out (fun _ => ?_)
        clear hK1 K1 ho7 hf7 hb1
        (try simp only [Act.put, List.getElem_toArray, List.getElem_cons_succ, List.getElem_cons_zero, List.setIfInBounds_toArray, List.set_cons_zero, List.set_cons_succ])
        refine wpAnyH_ready (rs := [3, 5]) (by kernel_rfl) (by simp) ?_
        refine (AllReadyH.cons rfl (fun K2 hK2 => ?_) (AllReadyH.cons rfl (fun K2 hK2 => ?_) AllReadyH.nil))
        · go_simp
          refine (HO2.out _ (HB.out)).mono ?_
          rintro e wa2 ⟨A8, k8, rfl, hk8, ho8, hf8, hb2⟩
          have N27 := hide (Off.new hf8 R7.out.lt)
          have O1 := hide ((O1.out.below hb2).more (hb2).size)
          have R7 := hide (R7.out.below hb2)
          have O2 := hide ho8
          have HB := hide (HB.out.trans (hb2.mono HB.out.size))
          refine hK2.out _ _ HB.out (fun _ => ?_)
          clear hK2 K2 ho8 hf8 hb2
          (try simp only [Act.put, List.getElem_toArray, List.getElem_cons_succ, List.getElem_cons_zero, List.setIfInBounds_toArray, List.set_cons_zero, List.set_cons_succ])
          refine wpAnyH_ready (rs := [5]) (by kernel_rfl) (by simp) ?_
          refine (AllReadyH.cons rfl (fun K3 hK3 => ?_) AllReadyH.nil)
          · go_simp
            refine hK3.out _ _ (HB.out.alloc HB.out.size _) (fun _ => ?_)
            clear hK3 K3
            have hb3 : Below wa2.heap.size wa2 (wa2.alloc (.cells #[.int .i64 0, .slice none 0 0] 49)) := (Below.refl _ _).alloc (Nat.le_refl _) _
            have NE := hide (show wd.heap.size ≠ wa2.heap.size from Nat.ne_of_lt R7.out.lt)
            have N18 := hide (O1.out.off_lt (Nat.le_refl _))
            have N28 := hide (O2.out.off_lt (Nat.le_refl _))
            have O1 := hide ((O1.out.below hb3).more (hb3).size)
            have O2 := hide ((O2.out.below hb3).more (hb3).size)
            have R7 := hide (R7.out.below hb3)
            have R8 := hide (RowAt.new wa2 49 #[.int .i64 0, .slice none 0 0])
            have G8 := hide HB.out.size
            have HB := hide (HB.out.alloc HB.out.size (.cells #[.int .i64 0, .slice none 0 0] 49))
            clear hb3
            (try simp only [Act.put, List.getElem_toArray, List.getElem_cons_succ, List.getElem_cons_zero, List.setIfInBounds_toArray, List.set_cons_zero, List.set_cons_succ])
            generalize wa2.alloc (.cells #[.int .i64 0, .slice none 0 0] 49) = wa3 at *
            refine wpAnyH_ready (rs := [6]) (by kernel_rfl) (by simp) ?_
            refine AllReadyH.cons rfl (fun K hK => ?_) AllReadyH.nil
            have l7 := R7.out.lt
            have z70 := R7.out.cell 0
            have f70 := R7.out.frozen 0
            have z71 := R7.out.cell 1
            have f71 := R7.out.frozen 1
            simp only [List.getElem?_toArray, List.getElem?_cons_succ, List.getElem?_cons_zero] at z70 z71
            go_simp
            refine hK.out _ _ ((HB.out.setCell (p := ⟨wd.heap.size, 0, none⟩) G7.out _).setCell (p := ⟨wd.heap.size, 1, none⟩) G7.out _) (fun _ => ?_)
            clear hK K
            have R8 := hide ((R8.out.store (j := 0) (v := .int .i64 dp1) (Ne.symm NE.out)).store (j := 1) (v := .slice A7 m1 k7) (Ne.symm NE.out))
            have R7 := hide ((R7.out.set 0 (.int .i64 dp1)).set 1 (.slice A7 m1 k7))
            have O1 := hide ((O1.out.store (j := 0) (v := .int .i64 dp1) N17.out).store (j := 1) (v := .slice A7 m1 k7) N17.out)
            have O2 := hide ((O2.out.store (j := 0) (v := .int .i64 dp1) N27.out).store (j := 1) (v := .slice A7 m1 k7) N27.out)
            have HB := hide ((HB.out.setCell (p := ⟨wd.heap.size, 0, none⟩) G7.out (.int .i64 dp1)).setCell (p := ⟨wd.heap.size, 1, none⟩) G7.out (.slice A7 m1 k7))
            have hsz : ((wa3.setCell ⟨wd.heap.size, 0, none⟩ (.int .i64 dp1)).setCell ⟨wd.heap.size, 1, none⟩ (.slice A7 m1 k7)).heap.size = wa3.heap.size := by simp
            rw [← hsz] at O1 O2
            clear hsz
            generalize (wa3.setCell ⟨wd.heap.size, 0, none⟩ (.int .i64 dp1)).setCell ⟨wd.heap.size, 1, none⟩ (.slice A7 m1 k7) = we at *
            (try simp only [Act.put, List.getElem_toArray, List.getElem_cons_succ, List.getElem_cons_zero, List.setIfInBounds_toArray, List.set_cons_zero, List.set_cons_succ])
            refine wpAnyH_ready (rs := [7]) (by kernel_rfl) (by simp) ?_
            refine AllReadyH.cons rfl (fun K hK => ?_) AllReadyH.nil
            have l8 := R8.out.lt
            have z80 := R8.out.cell 0
            have f80 := R8.out.frozen 0
            have z81 := R8.out.cell 1
            have f81 := R8.out.frozen 1
            simp only [List.getElem?_toArray, List.getElem?_cons_succ, List.getElem?_cons_zero] at z80 z81
            go_simp
            refine hK.out _ _ ((HB.out.setCell (p := ⟨wa2.heap.size, 0, none⟩) G8.out _).setCell (p := ⟨wa2.heap.size, 1, none⟩) G8.out _) (fun _ => ?_)
            clear hK K
            refine wpAnyH_done (by kernel_rfl) ?_ _
            go_wp2_with fail
            go_meet
            case rel =>
              exact ⟨_, A7, k7, _, A8, k8, rfl, rfl, (R7.out.store NE.out).store NE.out, (R8.out.set 0 _).set 1 _, by simpa using (O1.out.store N18.out).store N18.out, by simpa using (O2.out.store N28.out).store N28.out, hk7, hk8, (HB.out.setCell (p := ⟨wa2.heap.size, 0, none⟩) G8.out _).setCell (p := ⟨wa2.heap.size, 1, none⟩) G8.out _⟩
        · go_simp
          refine hK2.out _ _ (HB.out.alloc HB.out.size _) (fun _ => ?_)
          clear hK2 K2
          have hb2 : Below wa1.heap.size wa1 (wa1.alloc (.cells #[.int .i64 0, .slice none 0 0] 49)) := (Below.refl _ _).alloc (Nat.le_refl _) _
          have NE := hide (show wd.heap.size ≠ wa1.heap.size from Nat.ne_of_lt R7.out.lt)
          have N18 := hide (O1.out.off_lt (Nat.le_refl _))
          have O1 := hide ((O1.out.below hb2).more (hb2).size)
          have R7 := hide (R7.out.below hb2)
          have R8 := hide (RowAt.new wa1 49 #[.int .i64 0, .slice none 0 0])
          have G8 := hide HB.out.size
          have HB := hide (HB.out.alloc HB.out.size (.cells #[.int .i64 0, .slice none 0 0] 49))
          clear hb2
          (try simp only [Act.put, List.getElem_toArray, List.getElem_cons_succ, List.getElem_cons_zero, List.setIfInBounds_toArray, List.set_cons_zero, List.set_cons_succ])
          generalize wa1.alloc (.cells #[.int .i64 0, .slice none 0 0] 49) = wa2 at *
          refine wpAnyH_ready (rs := [3]) (by kernel_rfl) (by simp) ?_
          refine (AllReadyH.cons rfl (fun K3 hK3 => ?_) AllReadyH.nil)
          · go_simp
            refine (HO2.out _ (HB.out)).mono ?_
            rintro e wa3 ⟨A8, k8, rfl, hk8, ho8, hf8, hb3⟩
            have N27 := hide (Off.new hf8 R7.out.lt)
            have N28 := hide (Off.new hf8 R8.out.lt)
            have O1 := hide ((O1.out.below hb3).more (hb3).size)
            have R7 := hide (R7.out.below hb3)
            have R8 := hide (R8.out.below hb3)
            have O2 := hide ho8
            have HB := hide (HB.out.trans (hb3.mono HB.out.size))
            refine hK3.out _ _ HB.out (fun _ => ?_)
            clear hK3 K3 ho8 hf8 hb3
            (try simp only [Act.put, List.getElem_toArray, List.getElem_cons_succ, List.getElem_cons_zero, List.setIfInBounds_toArray, List.set_cons_zero, List.set_cons_succ])
            refine wpAnyH_ready (rs := [6]) (by kernel_rfl) (by simp) ?_
            refine AllReadyH.cons rfl (fun K hK => ?_) AllReadyH.nil
            have l7 := R7.out.lt
            have z70 := R7.out.cell 0
            have f70 := R7.out.frozen 0
            have z71 := R7.out.cell 1
            have f71 := R7.out.frozen 1
            simp only [List.getElem?_toArray, List.getElem?_cons_succ, List.getElem?_cons_zero] at z70 z71
            go_simp
            refine hK.out _ _ ((HB.out.setCell (p := ⟨wd.heap.size, 0, none⟩) G7.out _).setCell (p := ⟨wd.heap.size, 1, none⟩) G7.out _) (fun _ => ?_)
            clear hK K
            have R8 := hide ((R8.out.store (j := 0) (v := .int .i64 dp1) (Ne.symm NE.out)).store (j := 1) (v := .slice A7 m1 k7) (Ne.symm NE.out))
            have R7 := hide ((R7.out.set 0 (.int .i64 dp1)).set 1 (.slice A7 m1 k7))
            have O1 := hide ((O1.out.store (j := 0) (v := .int .i64 dp1) N17.out).store (j := 1) (v := .slice A7 m1 k7) N17.out)
            have O2 := hide ((O2.out.store (j := 0) (v := .int .i64 dp1) N27.out).store (j := 1) (v := .slice A7 m1 k7) N27.out)
            have HB := hide ((HB.out.setCell (p := ⟨wd.heap.size, 0, none⟩) G7.out (.int .i64 dp1)).setCell (p := ⟨wd.heap.size, 1, none⟩) G7.out (.slice A7 m1 k7))
            have hsz : ((wa3.setCell ⟨wd.heap.size, 0, none⟩ (.int .i64 dp1)).setCell ⟨wd.heap.size, 1, none⟩ (.slice A7 m1 k7)).heap.size = wa3.heap.size := by simp
            rw [← hsz] at O1 O2
            clear hsz
            generalize (wa3.setCell ⟨wd.heap.size, 0, none⟩ (.int .i64 dp1)).setCell ⟨wd.heap.size, 1, none⟩ (.slice A7 m1 k7) = we at *
            (try simp only [Act.put, List.getElem_toArray, List.getElem_cons_succ, List.getElem_cons_zero, List.setIfInBounds_toArray, List.set_cons_zero, List.set_cons_succ])
            refine wpAnyH_ready (rs := [7]) (by kernel_rfl) (by simp) ?_
            refine AllReadyH.cons rfl (fun K hK => ?_) AllReadyH.nil
            have l8 := R8.out.lt
            have z80 := R8.out.cell 0
            have f80 := R8.out.frozen 0
            have z81 := R8.out.cell 1
            have f81 := R8.out.frozen 1
            simp only [List.getElem?_toArray, List.getElem?_cons_succ, List.getElem?_cons_zero] at z80 z81
            go_simp
            refine hK.out _ _ ((HB.out.setCell (p := ⟨wa1.heap.size, 0, none⟩) G8.out _).setCell (p := ⟨wa1.heap.size, 1, none⟩) G8.out _) (fun _ => ?_)
            clear hK K
            refine wpAnyH_done (by kernel_rfl) ?_ _
            go_wp2_with fail
            go_meet
            case rel =>
              exact ⟨_, A7, k7, _, A8, k8, rfl, rfl, (R7.out.store NE.out).store NE.out, (R8.out.set 0 _).set 1 _, by simpa using (O1.out.store N18.out).store N18.out, by simpa using (O2.out.store N28.out).store N28.out, hk7, hk8, (HB.out.setCell (p := ⟨wa1.heap.size, 0, none⟩) G8.out _).setCell (p := ⟨wa1.heap.size, 1, none⟩) G8.out _⟩
      · go_simp
        refine hK1.out _ _ (HB.out.alloc HB.out.size _) (fun _ => ?_)
        clear hK1 K1
        have hb1 : Below wa0.heap.size wa0 (wa0.alloc (.cells #[.int .i64 0, .slice none 0 0] 49)) := (Below.refl _ _).alloc (Nat.le_refl _) _
        have NE := hide (show wd.heap.size ≠ wa0.heap.size from Nat.ne_of_lt R7.out.lt)
        have R7 := hide (R7.out.below hb1)
        have R8 := hide (RowAt.new wa0 49 #[.int .i64 0, .slice none 0 0])
        have G8 := hide HB.out.size
        have HB := hide (HB.out.alloc HB.out.size (.cells #[.int .i64 0, .slice none 0 0] 49))
        clear hb1
        (try simp only [Act.put, List.getElem_toArray, List.getElem_cons_succ, List.getElem_cons_zero, List.setIfInBounds_toArray, List.set_cons_zero, List.set_cons_succ])
        generalize wa0.alloc (.cells #[.int .i64 0, .slice none 0 0] 49) = wa1 at *
        refine wpAnyH_ready (rs := [1]) (by kernel_rfl) (by simp) ?_
        refine (AllReadyH.cons rfl (fun K2 hK2 => ?_) AllReadyH.nil)
        · go_simp
          refine (HO1.out _ (HB.out)).mono ?_
          rintro e wa2 ⟨A7, k7, rfl, hk7, ho7, hf7, hb2⟩
          have N17 := hide (Off.new hf7 R7.out.lt)
          have N18 := hide (Off.new hf7 R8.out.lt)
          have R7 := hide (R7.out.below hb2)
          have R8 := hide (R8.out.below hb2)
          have O1 := hide ho7
          have HB := hide (HB.out.trans (hb2.mono HB.out.size))
          refine hK2.out _ _ HB.out (fun _ => ?_)
          clear hK2 K2 ho7 hf7 hb2
          (try simp only [Act.put, List.getElem_toArray, List.getElem_cons_succ, List.getElem_cons_zero, List.setIfInBounds_toArray, List.set_cons_zero, List.set_cons_succ])
          refine wpAnyH_ready (rs := [3]) (by kernel_rfl) (by simp) ?_
          refine (AllReadyH.cons rfl (fun K3 hK3 => ?_) AllReadyH.nil)
          · go_simp
            refine (HO2.out _ (HB.out)).mono ?_
            rintro e wa3 ⟨A8, k8, rfl, hk8, ho8, hf8, hb3⟩
            have N27 := hide (Off.new hf8 R7.out.lt)
            have N28 := hide (Off.new hf8 R8.out.lt)
            have O1 := hide ((O1.out.below hb3).more (hb3).size)
            have R7 := hide (R7.out.below hb3)
            have R8 := hide (R8.out.below hb3)
            have O2 := hide ho8
            have HB := hide (HB.out.trans (hb3.mono HB.out.size))
            refine hK3.out _ _ HB.out (fun _ => ?_)
            clear hK3 K3 ho8 hf8 hb3
            (try simp only [Act.put, List.getElem_toArray, List.getElem_cons_succ, List.getElem_cons_zero, List.setIfInBounds_toArray, List.set_cons_zero, List.set_cons_succ])
            refine wpAnyH_ready (rs := [6]) (by kernel_rfl) (by simp) ?_
            refine AllReadyH.cons rfl (fun K hK => ?_) AllReadyH.nil
            have l7 := R7.out.lt
            have z70 := R7.out.cell 0
            have f70 := R7.out.frozen 0
            have z71 := R7.out.cell 1
            have f71 := R7.out.frozen 1
            simp only [List.getElem?_toArray, List.getElem?_cons_succ, List.getElem?_cons_zero] at z70 z71
            go_simp
            refine hK.out _ _ ((HB.out.setCell (p := ⟨wd.heap.size, 0, none⟩) G7.out _).setCell (p := ⟨wd.heap.size, 1, none⟩) G7.out _) (fun _ => ?_)
            clear hK K
            have R8 := hide ((R8.out.store (j := 0) (v := .int .i64 dp1) (Ne.symm NE.out)).store (j := 1) (v := .slice A7 m1 k7) (Ne.symm NE.out))
            have R7 := hide ((R7.out.set 0 (.int .i64 dp1)).set 1 (.slice A7 m1 k7))
            have O1 := hide ((O1.out.store (j := 0) (v := .int .i64 dp1) N17.out).store (j := 1) (v := .slice A7 m1 k7) N17.out)
            have O2 := hide ((O2.out.store (j := 0) (v := .int .i64 dp1) N27.out).store (j := 1) (v := .slice A7 m1 k7) N27.out)
            have HB := hide ((HB.out.setCell (p := ⟨wd.heap.size, 0, none⟩) G7.out (.int .i64 dp1)).setCell (p := ⟨wd.heap.size, 1, none⟩) G7.out (.slice A7 m1 k7))
            have hsz : ((wa3.setCell ⟨wd.heap.size, 0, none⟩ (.int .i64 dp1)).setCell ⟨wd.heap.size, 1, none⟩ (.slice A7 m1 k7)).heap.size = wa3.heap.size := by simp
            rw [← hsz] at O1 O2
            clear hsz
            generalize (wa3.setCell ⟨wd.heap.size, 0, none⟩ (.int .i64 dp1)).setCell ⟨wd.heap.size, 1, none⟩ (.slice A7 m1 k7) = we at *
            (try simp only [Act.put, List.getElem_toArray, List.getElem_cons_succ, List.getElem_cons_zero, List.setIfInBounds_toArray, List.set_cons_zero, List.set_cons_succ])
            refine wpAnyH_ready (rs := [7]) (by kernel_rfl) (by simp) ?_
            refine AllReadyH.cons rfl (fun K hK => ?_) AllReadyH.nil
            have l8 := R8.out.lt
            have z80 := R8.out.cell 0
            have f80 := R8.out.frozen 0
            have z81 := R8.out.cell 1
            have f81 := R8.out.frozen 1
            simp only [List.getElem?_toArray, List.getElem?_cons_succ, List.getElem?_cons_zero] at z80 z81
            go_simp
            refine hK.out _ _ ((HB.out.setCell (p := ⟨wa0.heap.size, 0, none⟩) G8.out _).setCell (p := ⟨wa0.heap.size, 1, none⟩) G8.out _) (fun _ => ?_)
            clear hK K
            refine wpAnyH_done (by kernel_rfl) ?_ _
            go_wp2_with fail
            go_meet
            case rel =>
              exact ⟨_, A7, k7, _, A8, k8, rfl, rfl, (R7.out.store NE.out).store NE.out, (R8.out.set 0 _).set 1 _, by simpa using (O1.out.store N18.out).store N18.out, by simpa using (O2.out.store N28.out).store N28.out, hk7, hk8, (HB.out.setCell (p := ⟨wa0.heap.size, 0, none⟩) G8.out _).setCell (p := ⟨wa0.heap.size, 1, none⟩) G8.out _⟩
    · go_simp
      refine hK0.out _ _ (HB.out.alloc HB.out.size _) (fun _ => ?_)
      clear hK0 K0
      have hb0 : Below wd.heap.size wd (wd.alloc (.cells #[.int .i64 0, .slice none 0 0] 49)) := (Below.refl _ _).alloc (Nat.le_refl _) _
      have R8 := hide (RowAt.new wd 49 #[.int .i64 0, .slice none 0 0])
      have G8 := hide HB.out.size
      have HB := hide (HB.out.alloc HB.out.size (.cells #[.int .i64 0, .slice none 0 0] 49))
      clear hb0
      (try simp only [Act.put, List.getElem_toArray, List.getElem_cons_succ, List.getElem_cons_zero, List.setIfInBounds_toArray, List.set_cons_zero, List.set_cons_succ])
      generalize wd.alloc (.cells #[.int .i64 0, .slice none 0 0] 49) = wa0 at *
      refine wpAnyH_ready (rs := [1, 4]) (by kernel_rfl) (by simp) ?_
      refine (AllReadyH.cons rfl (fun K1 hK1 => ?_) (AllReadyH.cons rfl (fun K1 hK1 => ?_) AllReadyH.nil))
      · go_simp
        refine (HO1.out _ (HB.out)).mono ?_
        rintro e wa1 ⟨A7, k7, rfl, hk7, ho7, hf7, hb1⟩
        have N18 := hide (Off.new hf7 R8.out.lt)
        have R8 := hide (R8.out.below hb1)
        have O1 := hide ho7
        have HB := hide (HB.out.trans (hb1.mono HB.out.size))
        refine hK1.out _ _ HB.out (fun _ => ?_)
        clear hK1 K1 ho7 hf7 hb1
        (try simp only [Act.put, List.getElem_toArray, List.getElem_cons_succ, List.getElem_cons_zero, List.setIfInBounds_toArray, List.set_cons_zero, List.set_cons_succ])
        refine wpAnyH_ready (rs := [3, 4]) (by kernel_rfl) (by simp) ?_
        refine (AllReadyH.cons rfl (fun K2 hK2 => ?_) (AllReadyH.cons rfl (fun K2 hK2 => ?_) AllReadyH.nil))
        · go_simp
          refine (HO2.out _ (HB.out)).mono ?_
          rintro e wa2 ⟨A8, k8, rfl, hk8, ho8, hf8, hb2⟩
          have N28 := hide (Off.new hf8 R8.out.lt)
          have O1 := hide ((O1.out.below hb2).more (hb2).size)
          have R8 := hide (R8.out.below hb2)
          have O2 := hide ho8
          have HB := hide (HB.out.trans (hb2.mono HB.out.size))
          refine hK2.out _ _ HB.out (fun _ => ?_)
          clear hK2 K2 ho8 hf8 hb2
          (try simp only [Act.put, List.getElem_toArray, List.getElem_cons_succ, List.getElem_cons_zero, List.setIfInBounds_toArray, List.set_cons_zero, List.set_cons_succ])
          refine wpAnyH_ready (rs := [4]) (by kernel_rfl) (by simp) ?_
          refine (AllReadyH.cons rfl (fun K3 hK3 => ?_) AllReadyH.nil)
          · go_simp
            refine hK3.out _ _ (HB.out.alloc HB.out.size _) (fun _ => ?_)
            clear hK3 K3
            have hb3 : Below wa2.heap.size wa2 (wa2.alloc (.cells #[.int .i64 0, .slice none 0 0] 49)) := (Below.refl _ _).alloc (Nat.le_refl _) _
            have NE := hide (show wa2.heap.size ≠ wd.heap.size from Nat.ne_of_gt R8.out.lt)
            have N17 := hide (O1.out.off_lt (Nat.le_refl _))
            have N27 := hide (O2.out.off_lt (Nat.le_refl _))
            have O1 := hide ((O1.out.below hb3).more (hb3).size)
            have O2 := hide ((O2.out.below hb3).more (hb3).size)
            have R8 := hide (R8.out.below hb3)
            have R7 := hide (RowAt.new wa2 49 #[.int .i64 0, .slice none 0 0])
            have G7 := hide HB.out.size
            have HB := hide (HB.out.alloc HB.out.size (.cells #[.int .i64 0, .slice none 0 0] 49))
            clear hb3
            (try simp only [Act.put, List.getElem_toArray, List.getElem_cons_succ, List.getElem_cons_zero, List.setIfInBounds_toArray, List.set_cons_zero, List.set_cons_succ])
            generalize wa2.alloc (.cells #[.int .i64 0, .slice none 0 0] 49) = wa3 at *
            refine wpAnyH_ready (rs := [6]) (by kernel_rfl) (by simp) ?_
            refine AllReadyH.cons rfl (fun K hK => ?_) AllReadyH.nil
            have l7 := R7.out.lt
            have z70 := R7.out.cell 0
            have f70 := R7.out.frozen 0
            have z71 := R7.out.cell 1
            have f71 := R7.out.frozen 1
            simp only [List.getElem?_toArray, List.getElem?_cons_succ, List.getElem?_cons_zero] at z70 z71
            go_simp
            refine hK.out _ _ ((HB.out.setCell (p := ⟨wa2.heap.size, 0, none⟩) G7.out _).setCell (p := ⟨wa2.heap.size, 1, none⟩) G7.out _) (fun _ => ?_)
            clear hK K
            have R8 := hide ((R8.out.store (j := 0) (v := .int .i64 dp1) (Ne.symm NE.out)).store (j := 1) (v := .slice A7 m1 k7) (Ne.symm NE.out))
            have R7 := hide ((R7.out.set 0 (.int .i64 dp1)).set 1 (.slice A7 m1 k7))
            have O1 := hide ((O1.out.store (j := 0) (v := .int .i64 dp1) N17.out).store (j := 1) (v := .slice A7 m1 k7) N17.out)
            have O2 := hide ((O2.out.store (j := 0) (v := .int .i64 dp1) N27.out).store (j := 1) (v := .slice A7 m1 k7) N27.out)
            have HB := hide ((HB.out.setCell (p := ⟨wa2.heap.size, 0, none⟩) G7.out (.int .i64 dp1)).setCell (p := ⟨wa2.heap.size, 1, none⟩) G7.out (.slice A7 m1 k7))
            have hsz : ((wa3.setCell ⟨wa2.heap.size, 0, none⟩ (.int .i64 dp1)).setCell ⟨wa2.heap.size, 1, none⟩ (.slice A7 m1 k7)).heap.size = wa3.heap.size := by simp
            rw [← hsz] at O1 O2
            clear hsz
            generalize (wa3.setCell ⟨wa2.heap.size, 0, none⟩ (.int .i64 dp1)).setCell ⟨wa2.heap.size, 1, none⟩ (.slice A7 m1 k7) = we at *
            (try simp only [Act.put, List.getElem_toArray, List.getElem_cons_succ, List.getElem_cons_zero, List.setIfInBounds_toArray, List.set_cons_zero, List.set_cons_succ])
            refine wpAnyH_ready (rs := [7]) (by kernel_rfl) (by simp) ?_
            refine AllReadyH.cons rfl (fun K hK => ?_) AllReadyH.nil
            have l8 := R8.out.lt
            have z80 := R8.out.cell 0
            have f80 := R8.out.frozen 0
            have z81 := R8.out.cell 1
            have f81 := R8.out.frozen 1
            simp only [List.getElem?_toArray, List.getElem?_cons_succ, List.getElem?_cons_zero] at z80 z81
            go_simp
            refine hK.out _ _ ((HB.out.setCell (p := ⟨wd.heap.size, 0, none⟩) G8.out _).setCell (p := ⟨wd.heap.size, 1, none⟩) G8.out _) (fun _ => ?_)
            clear hK K
            refine wpAnyH_done (by kernel_rfl) ?_ _
            go_wp2_with fail
            go_meet
            case rel =>
              exact ⟨_, A7, k7, _, A8, k8, rfl, rfl, (R7.out.store NE.out).store NE.out, (R8.out.set 0 _).set 1 _, by simpa using (O1.out.store N18.out).store N18.out, by simpa using (O2.out.store N28.out).store N28.out, hk7, hk8, (HB.out.setCell (p := ⟨wd.heap.size, 0, none⟩) G8.out _).setCell (p := ⟨wd.heap.size, 1, none⟩) G8.out _⟩
        · go_simp
          refine hK2.out _ _ (HB.out.alloc HB.out.size _) (fun _ => ?_)
          clear hK2 K2
          have hb2 : Below wa1.heap.size wa1 (wa1.alloc (.cells #[.int .i64 0, .slice none 0 0] 49)) := (Below.refl _ _).alloc (Nat.le_refl _) _
          have NE := hide (show wa1.heap.size ≠ wd.heap.size from Nat.ne_of_gt R8.out.lt)
          have N17 := hide (O1.out.off_lt (Nat.le_refl _))
          have O1 := hide ((O1.out.below hb2).more (hb2).size)
          have R8 := hide (R8.out.below hb2)
          have R7 := hide (RowAt.new wa1 49 #[.int .i64 0, .slice none 0 0])
          have G7 := hide HB.out.size
          have HB := hide (HB.out.alloc HB.out.size (.cells #[.int .i64 0, .slice none 0 0] 49))
          clear hb2
          (try simp only [Act.put, List.getElem_toArray, List.getElem_cons_succ, List.getElem_cons_zero, List.setIfInBounds_toArray, List.set_cons_zero, List.set_cons_succ])
          generalize wa1.alloc (.cells #[.int .i64 0, .slice none 0 0] 49) = wa2 at *
          refine wpAnyH_ready (rs := [3]) (by kernel_rfl) (by simp) ?_
          refine (AllReadyH.cons rfl (fun K3 hK3 => ?_) AllReadyH.nil)
          · go_simp
            refine (HO2.out _ (HB.out)).mono ?_
            rintro e wa3 ⟨A8, k8, rfl, hk8, ho8, hf8, hb3⟩
            have N27 := hide (Off.new hf8 R7.out.lt)
            have N28 := hide (Off.new hf8 R8.out.lt)
            have O1 := hide ((O1.out.below hb3).more (hb3).size)
            have R7 := hide (R7.out.below hb3)
            have R8 := hide (R8.out.below hb3)
            have O2 := hide ho8
            have HB := hide (HB.out.trans (hb3.mono HB.out.size))
            refine hK3.out _ _ HB.out (fun _ => ?_)
            clear hK3 K3 ho8 hf8 hb3
            (try simp only [Act.put, List.getElem_toArray, List.getElem_cons_succ, List.getElem_cons_zero, List.setIfInBounds_toArray, List.set_cons_zero, List.set_cons_succ])
            refine wpAnyH_ready (rs := [6]) (by kernel_rfl) (by simp) ?_
            refine AllReadyH.cons rfl (fun K hK => ?_) AllReadyH.nil
            have l7 := R7.out.lt
            have z70 := R7.out.cell 0
            have f70 := R7.out.frozen 0
            have z71 := R7.out.cell 1
            have f71 := R7.out.frozen 1
            simp only [List.getElem?_toArray, List.getElem?_cons_succ, List.getElem?_cons_zero] at z70 z71
            go_simp
            refine hK.out _ _ ((HB.out.setCell (p := ⟨wa1.heap.size, 0, none⟩) G7.out _).setCell (p := ⟨wa1.heap.size, 1, none⟩) G7.out _) (fun _ => ?_)
            clear hK K
            have R8 := hide ((R8.out.store (j := 0) (v := .int .i64 dp1) (Ne.symm NE.out)).store (j := 1) (v := .slice A7 m1 k7) (Ne.symm NE.out))
            have R7 := hide ((R7.out.set 0 (.int .i64 dp1)).set 1 (.slice A7 m1 k7))
            have O1 := hide ((O1.out.store (j := 0) (v := .int .i64 dp1) N17.out).store (j := 1) (v := .slice A7 m1 k7) N17.out)
            have O2 := hide ((O2.out.store (j := 0) (v := .int .i64 dp1) N27.out).store (j := 1) (v := .slice A7 m1 k7) N27.out)
            have HB := hide ((HB.out.setCell (p := ⟨wa1.heap.size, 0, none⟩) G7.out (.int .i64 dp1)).setCell (p := ⟨wa1.heap.size, 1, none⟩) G7.out (.slice A7 m1 k7))
            have hsz : ((wa3.setCell ⟨wa1.heap.size, 0, none⟩ (.int .i64 dp1)).setCell ⟨wa1.heap.size, 1, none⟩ (.slice A7 m1 k7)).heap.size = wa3.heap.size := by simp
            rw [← hsz] at O1 O2
            clear hsz
            generalize (wa3.setCell ⟨wa1.heap.size, 0, none⟩ (.int .i64 dp1)).setCell ⟨wa1.heap.size, 1, none⟩ (.slice A7 m1 k7) = we at *
            (try simp only [Act.put, List.getElem_toArray, List.getElem_cons_succ, List.getElem_cons_zero, List.setIfInBounds_toArray, List.set_cons_zero, List.set_cons_succ])
            refine wpAnyH_ready (rs := [7]) (by kernel_rfl) (by simp) ?_
            refine AllReadyH.cons rfl (fun K hK => ?_) AllReadyH.nil
            have l8 := R8.out.lt
            have z80 := R8.out.cell 0
            have f80 := R8.out.frozen 0
            have z81 := R8.out.cell 1
            have f81 := R8.out.frozen 1
            simp only [List.getElem?_toArray, List.getElem?_cons_succ, List.getElem?_cons_zero] at z80 z81
            go_simp
            refine hK.out _ _ ((HB.out.setCell (p := ⟨wd.heap.size, 0, none⟩) G8.out _).setCell (p := ⟨wd.heap.size, 1, none⟩) G8.out _) (fun _ => ?_)
            clear hK K
            refine wpAnyH_done (by kernel_rfl) ?_ _
            go_wp2_with fail
            go_meet
            case rel =>
              exact ⟨_, A7, k7, _, A8, k8, rfl, rfl, (R7.out.store NE.out).store NE.out, (R8.out.set 0 _).set 1 _, by simpa using (O1.out.store N18.out).store N18.out, by simpa using (O2.out.store N28.out).store N28.out, hk7, hk8, (HB.out.setCell (p := ⟨wd.heap.size, 0, none⟩) G8.out _).setCell (p := ⟨wd.heap.size, 1, none⟩) G8.out _⟩
      · go_simp
        refine hK1.out _ _ (HB.out.alloc HB.out.size _) (fun _ => ?_)
        clear hK1 K1
        have hb1 : Below wa0.heap.size wa0 (wa0.alloc (.cells #[.int .i64 0, .slice none 0 0] 49)) := (Below.refl _ _).alloc (Nat.le_refl _) _
        have NE := hide (show wa0.heap.size ≠ wd.heap.size from Nat.ne_of_gt R8.out.lt)
        have R8 := hide (R8.out.below hb1)
        have R7 := hide (RowAt.new wa0 49 #[.int .i64 0, .slice none 0 0])
        have G7 := hide HB.out.size
        have HB := hide (HB.out.alloc HB.out.size (.cells #[.int .i64 0, .slice none 0 0] 49))
        clear hb1
        (try simp only [Act.put, List.getElem_toArray, List.getElem_cons_succ, List.getElem_cons_zero, List.setIfInBounds_toArray, List.set_cons_zero, List.set_cons_succ])
        generalize wa0.alloc (.cells #[.int .i64 0, .slice none 0 0] 49) = wa1 at *
        refine wpAnyH_ready (rs := [1]) (by kernel_rfl) (by simp) ?_
        refine (AllReadyH.cons rfl (fun K2 hK2 => ?_) AllReadyH.nil)
        · go_simp
          refine (HO1.out _ (HB.out)).mono ?_
          rintro e wa2 ⟨A7, k7, rfl, hk7, ho7, hf7, hb2⟩
          have N17 := hide (Off.new hf7 R7.out.lt)
          have N18 := hide (Off.new hf7 R8.out.lt)
          have R7 := hide (R7.out.below hb2)
          have R8 := hide (R8.out.below hb2)
          have O1 := hide ho7
          have HB := hide (HB.out.trans (hb2.mono HB.out.size))
          refine hK2.out _ _ HB.out (fun _ => ?_)
          clear hK2 K2 ho7 hf7 hb2
          (try simp only [Act.put, List.getElem_toArray, List.getElem_cons_succ, List.getElem_cons_zero, List.setIfInBounds_toArray, List.set_cons_zero, List.set_cons_succ])
          refine wpAnyH_ready (rs := [3]) (by kernel_rfl) (by simp) ?_
          refine (AllReadyH.cons rfl (fun K3 hK3 => ?_) AllReadyH.nil)
          · go_simp
            refine (HO2.out _ (HB.out)).mono ?_
            rintro e wa3 ⟨A8, k8, rfl, hk8, ho8, hf8, hb3⟩
            have N27 := hide (Off.new hf8 R7.out.lt)
            have N28 := hide (Off.new hf8 R8.out.lt)
            have O1 := hide ((O1.out.below hb3).more (hb3).size)
            have R7 := hide (R7.out.below hb3)
            have R8 := hide (R8.out.below hb3)
            have O2 := hide ho8
            have HB := hide (HB.out.trans (hb3.mono HB.out.size))
            refine hK3.out _ _ HB.out (fun _ => ?_)
            clear hK3 K3 ho8 hf8 hb3
            (try simp only [Act.put, List.getElem_toArray, List.getElem_cons_succ, List.getElem_cons_zero, List.setIfInBounds_toArray, List.set_cons_zero, List.set_cons_succ])
            refine wpAnyH_ready (rs := [6]) (by kernel_rfl) (by simp) ?_
            refine AllReadyH.cons rfl (fun K hK => ?_) AllReadyH.nil
            have l7 := R7.out.lt
            have z70 := R7.out.cell 0
            have f70 := R7.out.frozen 0
            have z71 := R7.out.cell 1
            have f71 := R7.out.frozen 1
            simp only [List.getElem?_toArray, List.getElem?_cons_succ, List.getElem?_cons_zero] at z70 z71
            go_simp
            refine hK.out _ _ ((HB.out.setCell (p := ⟨wa0.heap.size, 0, none⟩) G7.out _).setCell (p := ⟨wa0.heap.size, 1, none⟩) G7.out _) (fun _ => ?_)
            clear hK K
            have R8 := hide ((R8.out.store (j := 0) (v := .int .i64 dp1) (Ne.symm NE.out)).store (j := 1) (v := .slice A7 m1 k7) (Ne.symm NE.out))
            have R7 := hide ((R7.out.set 0 (.int .i64 dp1)).set 1 (.slice A7 m1 k7))
            have O1 := hide ((O1.out.store (j := 0) (v := .int .i64 dp1) N17.out).store (j := 1) (v := .slice A7 m1 k7) N17.out)
            have O2 := hide ((O2.out.store (j := 0) (v := .int .i64 dp1) N27.out).store (j := 1) (v := .slice A7 m1 k7) N27.out)
            have HB := hide ((HB.out.setCell (p := ⟨wa0.heap.size, 0, none⟩) G7.out (.int .i64 dp1)).setCell (p := ⟨wa0.heap.size, 1, none⟩) G7.out (.slice A7 m1 k7))
            have hsz : ((wa3.setCell ⟨wa0.heap.size, 0, none⟩ (.int .i64 dp1)).setCell ⟨wa0.heap.size, 1, none⟩ (.slice A7 m1 k7)).heap.size = wa3.heap.size := by simp
            rw [← hsz] at O1 O2
            clear hsz
            generalize (wa3.setCell ⟨wa0.heap.size, 0, none⟩ (.int .i64 dp1)).setCell ⟨wa0.heap.size, 1, none⟩ (.slice A7 m1 k7) = we at *
            (try simp only [Act.put, List.getElem_toArray, List.getElem_cons_succ, List.getElem_cons_zero, List.setIfInBounds_toArray, List.set_cons_zero, List.set_cons_succ])
            refine wpAnyH_ready (rs := [7]) (by kernel_rfl) (by simp) ?_
            refine AllReadyH.cons rfl (fun K hK => ?_) AllReadyH.nil
            have l8 := R8.out.lt
            have z80 := R8.out.cell 0
            have f80 := R8.out.frozen 0
            have z81 := R8.out.cell 1
            have f81 := R8.out.frozen 1
            simp only [List.getElem?_toArray, List.getElem?_cons_succ, List.getElem?_cons_zero] at z80 z81
            go_simp
            refine hK.out _ _ ((HB.out.setCell (p := ⟨wd.heap.size, 0, none⟩) G8.out _).setCell (p := ⟨wd.heap.size, 1, none⟩) G8.out _) (fun _ => ?_)
            clear hK K
            refine wpAnyH_done (by kernel_rfl) ?_ _
            go_wp2_with fail
            go_meet
            case rel =>
              exact ⟨_, A7, k7, _, A8, k8, rfl, rfl, (R7.out.store NE.out).store NE.out, (R8.out.set 0 _).set 1 _, by simpa using (O1.out.store N18.out).store N18.out, by simpa using (O2.out.store N28.out).store N28.out, hk7, hk8, (HB.out.setCell (p := ⟨wd.heap.size, 0, none⟩) G8.out _).setCell (p := ⟨wd.heap.size, 1, none⟩) G8.out _⟩
  case rest =>
    rename_i K hK
    refine hK _ _ ?_
    clear hK K
    obtain ⟨g7, A7, k7, g8, A8, k8, rfl, rfl, hR7, hR8, hO7, hO8, hk7, hk8, hbc⟩ := hcut
    obtain ⟨r, hr⟩ : ∃ r, (dirShape dp1 fs1.length && entsOk fs1) = r := ⟨_, rfl⟩
    have HRR := hide hr
    have HR7 := hide hR7
    have HR8 := hide hR8
    have HO7 := hide hO7
    have HO8 := hide hO8
    have HRx := hide (HR1.out.below hbc)
    have HBC := hide (HBW1.out.trans (hbc.mono HBW1.out.size))
    have hbc1 := hide hbc
    have hg7 := hR7.lt
    have hg8 := hR8.lt
    have hgx := HRx.out.lt
    have a0 := hR7.cell 0
    have a1 := hR7.cell 1
    have b0 := hR8.cell 0
    have b1 := hR8.cell 1
    have x0 := HRx.out.cell 0
    have x1 := HRx.out.cell 1
    simp only [List.getElem?_toArray, List.getElem?_cons_succ, List.getElem?_cons_zero] at a0 a1 b0 b1 x0 x1
    clear hr hR7 hR8 hO7 hO8 d0 d1 d2 d3 hbc
    have HD := hide (RDir_any wc.heap.size A7 k7 dp1 fs1 wc (by rw [HFL1.out]; exact HO7.out) (Nat.le_refl _) HFU1.out (by rw [HFL1.out]; omega) r HRR.out)
    rw [HFL1.out] at HD
    go_wp2_with fail
    refine HD.out.mono ?_
    rintro e w2 ⟨rfl, hb2⟩
    have HDW := hide (LDirWordsU A7 k7 dp1 fs1 w2 ((HO7.out.below hb2).more hb2.size) HFU1.out HFL1.out r HRR.out)
    have a0 := kept hb2 a0
    have a1 := kept hb2 a1
    have HB2 := hide hb2
    clear hb2
    go_wp2_with fail
    refine HDW.out.mono ?_
    rintro e w3 ⟨A10, n, c10, ev, ys, rfl, hyl, hn40, hrd10, hb3, hyes, hno⟩
    have HYL := hide hyl
    have H10 := hide hrd10
    have HYES := hide hyes
    have HNO := hide hno
    have hbd := HB2.out.trans (hb3.mono HB2.out.size)
    have HR7 := hide (HR7.out.below hbd)
    have HR8 := hide (HR8.out.below hbd)
    have HO7 := hide ((HO7.out.below hbd).more hbd.size)
    have HO8 := hide ((HO8.out.below hbd).more hbd.size)
    have HRx := hide (HRx.out.below hbd)
    have HBC := hide (HBC.out.trans (hbd.mono HBC.out.size))
    have HBD := hide (hbc1.out.trans (hbd.mono hbc1.out.size))
    have hg7 := HR7.out.lt
    have hg8 := HR8.out.lt
    have hgx := HRx.out.lt
    have a0 := kept hb3 a0
    have a1 := kept hb3 a1
    have b0 := kept hbd b0
    have b1 := kept hbd b1
    have x0 := kept hbd x0
    have x1 := kept hbd x1
    clear hyl hrd10 hyes hno hbd hb3 HB2 hbc1 HD HDW
    go_upto_if 37 with (fail)
    go_cut [12, 13] from 38 to 39 (fun s12 s13 wx => ∃ (A12 : Option Addr) (c12 : Nat), s12 = .slice A12 n c12 ∧ s13 = .int .i64 ev ∧ Rd wx wx.heap.size 1 A12 n (Cs encW ys) ∧ Below w3.heap.size w3 wx)
    case first =>
      cases r
      · obtain ⟨rfl, rfl, rfl⟩ := HNO.out rfl
        go_wp2_with fail
        go_meet
        case rel => exact ⟨none, 0, rfl, rfl, Rd.none_, Below.refl _ _⟩
      · obtain ⟨rfl, rfl, rfl⟩ := HYES.out rfl
        have hrt := HRR.out
        rw [Bool.and_eq_true] at hrt
        obtain ⟨q0, q1, q2⟩ := shape_small hrt.1
        have HDR := hide (RDirWords_any w3.heap.size A7 k7 dp1 fs1 w3 (by rw [HFL1.out]; exact HO7.out) (Nat.le_refl _) HFU1.out q0 q1 q2 hrt.2)
        rw [HFL1.out] at HDR
        clear hrt
        go_wp2_with fail
        refine HDR.out.mono ?_
        rintro e w4 ⟨g5, cap5, rfl, hrd5, hb4⟩
        go_wp2_with fail
        go_meet
        case rel => exact ⟨_, cap5, rfl, rfl, hrd5, hb4⟩
    case rest =>
      rename_i K2 hK2
      obtain ⟨A12, c12, rfl, rfl, hrd12, hbd⟩ := hcut
      have H10 := hide ((H10.out.below hbd).more hbd.size)
      have H12 := hide hrd12
      have HR7 := hide (HR7.out.below hbd)
      have HR8 := hide (HR8.out.below hbd)
      have HO7 := hide ((HO7.out.below hbd).more hbd.size)
      have HO8 := hide ((HO8.out.below hbd).more hbd.size)
      have HRx := hide (HRx.out.below hbd)
      have HBC := hide (HBC.out.trans (hbd.mono HBC.out.size))
      have HBD := hide (HBD.out.trans (hbd.mono HBD.out.size))
      have hg7 := HR7.out.lt
      have hg8 := HR8.out.lt
      have hgx := HRx.out.lt
      have a0 := kept hbd a0
      have a1 := kept hbd a1
      have b0 := kept hbd b0
      have b1 := kept hbd b1
      have x0 := kept hbd x0
      have x1 := kept hbd x1
      clear hrd12 hbd HYES HNO
      obtain ⟨bb, hbb⟩ : ∃ b, (decide (dp1 = dp2) && decide (fs1 = fs2)) = b := ⟨_, rfl⟩
      have Q24 : Hid (∀ w, Below wc.heap.size wc w → Calls Try.prog 24 #[.slice A10 n c10, .slice A12 n c12] w fun e W' => e = .returned (.bool true) ∧ Below w.heap.size w W') := hide (fun w hw => EqualWN A10 A12 c10 c12 ys ys w ((H10.out.below hw).more hw.size) ((H12.out.below hw).more hw.size) HYL.out HYL.out (by omega) (by omega) true (by simp))
      have Q33 : Hid (∀ w, Below wc.heap.size wc w → Calls Try.prog 33 #[.agg #[.int .i64 dp1, .slice A7 m1 k7], .agg #[.int .i64 dp2, .slice A8 m2 k8]] w fun e W' => e = .returned (.bool bb) ∧ Below w.heap.size w W') := hide (fun w hw => SameN A7 A8 k7 k8 dp1 dp2 fs1 fs2 w ((HO7.out.below hw).more hw.size) ((HO8.out.below hw).more hw.size) HFL1.out HFL2.out (by omega) (by omega) bb hbb)
      have Q34 : Hid (∀ w, Below wc.heap.size wc w → Calls Try.prog 34 #[.agg #[.int .i64 dp1, .slice A7 m1 k7], .agg #[.int .i64 dp2, .slice A8 m2 k8]] w fun e W' => e = .returned (.bool bb) ∧ Below w.heap.size w W') := hide (fun w hw => SameDirN A7 A8 k7 k8 dp1 dp2 fs1 fs2 w ((HO7.out.below hw).more hw.size) ((HO8.out.below hw).more hw.size) HFL1.out HFL2.out (by omega) (by omega) bb hbb)
      have QX : Hid (∀ w, Below wc.heap.size wc w → Calls Try.prog 29 #[.agg #[.int .i64 dp1, .slice A1 es1.length c1]] w fun e W' => ∃ A' c', e = .returned (.agg #[.int .i64 dp1, .slice A' m1 c']) ∧ Rd W' W'.heap.size 2 A' m1 (Cs encE fs1) ∧ Below w.heap.size w W') := hide (fun w hw => (HO1.out w (HBD.out.trans (hw.mono HBD.out.size))).mono fun e W' ⟨A', c', e1, _, e3, _, e5⟩ => ⟨A', c', e1, e3, e5⟩)
      have Q33x : Hid (∀ w A' c', Below wc.heap.size wc w → Rd w w.heap.size 2 A' m1 (Cs encE fs1) → Calls Try.prog 33 #[.agg #[.int .i64 dp1, .slice A7 m1 k7], .agg #[.int .i64 dp1, .slice A' m1 c']] w fun e W' => e = .returned (.bool true) ∧ Below w.heap.size w W') := hide (fun w A' c' hw hr => SameN A7 A' k7 c' dp1 dp1 fs1 fs1 w ((HO7.out.below hw).more hw.size) hr HFL1.out HFL1.out (by omega) (by omega) true (by simp))
      have HS : Hid (∀ w w', (Below wc.heap.size wc w ∧ w.cell? ⟨g7, 0, none⟩ = some (.int .i64 dp1) ∧ w.cell? ⟨g7, 1, none⟩ = some (.slice A7 m1 k7) ∧ w.cell? ⟨g8, 0, none⟩ = some (.int .i64 dp2) ∧ w.cell? ⟨g8, 1, none⟩ = some (.slice A8 m2 k8) ∧ w.cell? ⟨W.heap.size, 0, none⟩ = some (.int .i64 dp1) ∧ w.cell? ⟨W.heap.size, 1, none⟩ = some (.slice A1 es1.length c1)) → Below w.heap.size w w' →
        (Below wc.heap.size wc w' ∧ w'.cell? ⟨g7, 0, none⟩ = some (.int .i64 dp1) ∧ w'.cell? ⟨g7, 1, none⟩ = some (.slice A7 m1 k7) ∧ w'.cell? ⟨g8, 0, none⟩ = some (.int .i64 dp2) ∧ w'.cell? ⟨g8, 1, none⟩ = some (.slice A8 m2 k8) ∧ w'.cell? ⟨W.heap.size, 0, none⟩ = some (.int .i64 dp1) ∧ w'.cell? ⟨W.heap.size, 1, none⟩ = some (.slice A1 es1.length c1))) := hide (fun w w' h hb => ⟨h.1.trans (hb.mono h.1.size), kept hb h.2.1, kept hb h.2.2.1, kept hb h.2.2.2.1, kept hb h.2.2.2.2.1, kept hb h.2.2.2.2.2.1, kept hb h.2.2.2.2.2.2⟩)
      clear hbb
      refine hK2 _ _ ?_
      clear hK2 K2
      go_wp2_with fail
      have hbd0 : Below wc.heap.size wc wc.drew := (Below.refl _ _).drew
      go_region_held3 (fun wX => Below wc.heap.size wc wX ∧ wX.cell? ⟨g7, 0, none⟩ = some (.int .i64 dp1) ∧ wX.cell? ⟨g7, 1, none⟩ = some (.slice A7 m1 k7) ∧ wX.cell? ⟨g8, 0, none⟩ = some (.int .i64 dp2) ∧ wX.cell? ⟨g8, 1, none⟩ = some (.slice A8 m2 k8) ∧ wX.cell? ⟨W.heap.size, 0, none⟩ = some (.int .i64 dp1) ∧ wX.cell? ⟨W.heap.size, 1, none⟩ = some (.slice A1 es1.length c1))
        (first | exact HS.out _ _ ‹_› hb | exact ⟨hbd0, a0, a1, b0, b1, x0, x1⟩ | go_keep)
        (first
          | (go_at_call 24; with_reducible refine (Q24.out _ (And.left ‹Below wc.heap.size wc _ ∧ _›)).mono ?_; rintro e w3 ⟨rfl, hb⟩)
          | (go_at_call 33; with_reducible refine (Q33.out _ (And.left ‹Below wc.heap.size wc _ ∧ _›)).mono ?_; rintro e w3 ⟨rfl, hb⟩)
          | (go_at_call 34; with_reducible refine (Q34.out _ (And.left ‹Below wc.heap.size wc _ ∧ _›)).mono ?_; rintro e w3 ⟨rfl, hb⟩)
          | (go_at_call 29; with_reducible refine (QX.out _ (And.left ‹Below wc.heap.size wc _ ∧ _›)).mono ?_; rintro e w3 ⟨Ay, cy, rfl, hrdy, hb⟩)
          | (go_at_call 33; with_reducible refine (Q33x.out _ _ _ (And.left ‹Below wc.heap.size wc _ ∧ _›) hrdy).mono ?_; rintro e w3 ⟨rfl, hb⟩))
      obtain ⟨hbd, a0, a1, _, _, x0, x1⟩ := ‹Below wc.heap.size wc _ ∧ _›
      have HR7 := hide (HR7.out.below hbd)
      have HO7 := hide ((HO7.out.below hbd).more hbd.size)
      have HRx := hide (HRx.out.below hbd)
      have HBC := hide (HBC.out.trans (hbd.mono HBC.out.size))
      have HBD := hide (HBD.out.trans (hbd.mono HBD.out.size))
      have hg7 := HR7.out.lt
      have hgx := HRx.out.lt
      clear b0 b1 HR8 HO8 hg8 HR2 hbd HS Q24 Q33 Q34 QX Q33x H10 H12 HYL hrdy
      obtain ⟨k, hk⟩ : ∃ k, min xs.length 44 = k := ⟨_, rfl⟩
      have hkn1 : k ≤ xs.length := by omega
      have hkn2 : k ≤ 44 := by omega
      have hkI : min (xs.length : Int) 44 = (k : Int) := by omega
      obtain ⟨zs, hz⟩ : ∃ zs, xs.take k = zs := ⟨_, rfl⟩
      have hzl : zs.length = k := by rw [← hz, List.length_take]; omega
      have hzu : ∀ x ∈ zs, U64 x := fun x hx => HU3.out x (by rw [← hz] at hx; exact List.mem_of_mem_take hx)
      have HRZ := hide (show Rd w3 w3.heap.size 1 A3 k (Cs encW zs) by
        have h := ((h3.below HBC.out).more HBC.out.size).take hkn1
        rw [← Cs_take encW_len, hz] at h
        exact h)
      have HZL := hide hzl
      have HZU := hide hzu
      have hlI : (k : Int) ≤ (c3 : Int) := by omega
      have hxl : (xs.length : Int) ≤ 9223372036854775807 := by have := HM3.out; omega
      have hcl : (c3 : Int) ≤ 9223372036854775807 := by have := HM3.out; omega
      clear hzl hzu hk hz
      go_upto_region 12 with fail
      go_cut [14] from 65 to 70 (fun s14 wx => ∃ (A14 : Option Addr) (c14 : Nat), s14 = .slice A14 k c14 ∧ k ≤ c14 ∧ c14 ≤ 9223372036854775807 ∧ Rd wx wx.heap.size 1 A14 k (Cs encW zs) ∧ Below w3.heap.size w3 wx)
      case first =>
        have HC := hide (CloneW w3.heap.size A3 k c3 (Cs encW zs) w3 HRZ.out (Nat.le_refl _) (Cs_one_cell encW_one _) (by omega))
        go_wp2_with fail
        refine HC.out.mono ?_
        rintro e w4 ⟨v, rfl, ho3, hb3⟩
        obtain ⟨A14, c14, rfl, hc14, hc14m⟩ := own_form2 ho3
        have HO3 := hide (Rd.of_own ho3)
        clear ho3
        go_wp2_with fail
        go_meet
        case rel => exact ⟨A14, c14, rfl, hc14, hc14m, HO3.out, hb3⟩
      case rest =>
        obtain ⟨wB, hwB⟩ : ∃ w, w = wc := ⟨_, rfl⟩
        subst hwB
        obtain ⟨A14, c14, rfl, hc14, hc14m, hrd14, hbd⟩ := hcut
        have HD14 := hide hrd14
        have HRZ := hide ((HRZ.out.below hbd).more hbd.size)
        have HR7 := hide (HR7.out.below hbd)
        have HO7 := hide ((HO7.out.below hbd).more hbd.size)
        have HRx := hide (HRx.out.below hbd)
        have HBC := hide (HBC.out.trans (hbd.mono HBC.out.size))
        have HBD := hide (HBD.out.trans (hbd.mono HBD.out.size))
        have hg7 := HR7.out.lt
        have hgx := HRx.out.lt
        have a0 := kept hbd a0
        have a1 := kept hbd a1
        have x0 := kept hbd x0
        have x1 := kept hbd x1
        clear hrd14 hbd
        rename_i K3 hK3
        have HD := hide (LDir_any wB.heap.size A14 k c14 zs wB HD14.out HZL.out (Nat.le_refl _) HZU.out hc14 hc14m)
        refine hK3 _ _ ?_
        clear hK3 K3
        go_wp2_with fail
        refine HD.out.mono ?_
        rintro e w4 ⟨hb4, hres⟩
        have HB4 := hide hb4
        have HD4 := hide ((HD14.out.below hb4).more hb4.size)
        clear hb4
        obtain ⟨q, hq⟩ : ∃ q, okD zs = q := ⟨_, rfl⟩
        have HQ := hide hq
        have hres' : ∃ (d1 : Int) (A15 : Option Addr) (n15 c15 : Nat) (es15 : List (Int × Int)) (ev15 : Int), e = .returned (.tuple #[.agg #[.int .i64 d1, .slice A15 n15 c15], .int .i64 ev15]) ∧ es15.length = n15 ∧ n15 ≤ 32 ∧ Rd w4 w4.heap.size 2 A15 n15 (Cs encE es15) ∧ (q = true → d1 = depQ zs ∧ n15 = 2 ^ depQ zs ∧ es15 = (entsOf zs).map unp ∧ ev15 = 0) ∧ (q = false → d1 = 0 ∧ n15 = 0 ∧ es15 = [] ∧ ev15 = 261) := by
          rcases hres with ⟨hok, v, rfl, hown⟩ | ⟨hok, rfl⟩
          · obtain ⟨A15, c15, rfl, hc15⟩ := own_form hown
            obtain ⟨t1, t2, t3, t4, t5, t6⟩ := read_dir zs hok HZU.out
            have hn : 2 ^ depQ zs ≤ 32 := by
              have : depQ zs = 0 ∨ depQ zs = 1 ∨ depQ zs = 2 ∨ depQ zs = 3 ∨ depQ zs = 4 ∨ depQ zs = 5 := by omega
              rcases this with h | h | h | h | h | h <;> rw [h] <;> decide
            exact ⟨_, A15, _, c15, (entsOf zs).map unp, 0, rfl, t4, hn, Rd.of_own hown, fun _ => ⟨rfl, rfl, rfl, rfl⟩, (fun h => by rw [← hq, hok] at h; cases h)⟩
          · exact ⟨0, none, 0, 0, [], 261, rfl, rfl, by omega, Rd.none_, (fun h => by rw [← hq, hok] at h; cases h), fun _ => ⟨rfl, rfl, rfl, rfl⟩⟩
        clear hres hq
        obtain ⟨d15, A15, n15, c15, es15, ev15, rfl, hl15, hn15, hrd15, hy15, hz15⟩ := hres'
        have HRD : Hid (∀ w, Below w4.heap.size w4 w → Calls Try.prog 36 #[.slice A14 k c14] w (RDirRes w zs)) := hide (fun w hw => RReadDir_any w4.heap.size A14 k c14 zs w (HD4.out.below hw) HZL.out hw.size HZU.out)
        have HL15 := hide hl15
        have H15 := hide hrd15
        have HY15 := hide hy15
        have HZ15 := hide hz15
        clear hl15 hrd15 hy15 hz15
        go_wp2_with fail
        refine (HRD.out _ ((Below.refl _ _).alloc (Nat.le_refl _) _)).mono ?_
        rintro e w5 ⟨hb5, d16, A16, n16, c16, rfl, h16⟩
        rw [HQ.out]
        rw [HQ.out] at h16
        have hrow15 : RowAt w5 w4.heap.size 49 #[.int .i64 d15, .slice A15 n15 c15] := (RowAt.new w4 49 #[.int .i64 d15, .slice A15 n15 c15]).below hb5
        have hb45 : Below w4.heap.size w4 w5 := ((Below.refl w4.heap.size w4).alloc (Nat.le_refl _) (.cells #[.int .i64 d15, .slice A15 n15 c15] 49)).trans (hb5.mono (by simp))
        have H15 := hide ((H15.out.below hb45).more hb45.size)
        have R15 := hide hrow15
        have h1516 := hrow15.lt
        have HB5 := hide (HB4.out.trans (hb45.mono HB4.out.size))
        have H16 : Hid (q = true → d16 = d15 ∧ n16 = n15 ∧ Rd w5 w5.heap.size 2 A16 n15 (Cs encE es15)) := hide (fun hqt => by
          obtain ⟨e1, e2, e3⟩ := h16 hqt
          obtain ⟨f1, f2, f3, f4⟩ := HY15.out hqt
          refine ⟨e1.trans f1.symm, e2.trans f2.symm, ?_⟩
          rw [f3, f2, ← e2]; exact e3)
        clear hb5 hb45 hrow15 h16
        go_upto_if 82 with (fail)
        go_cut [6] from 83 to 83 (fun s6 wx => s6 = .bool false ∧ ∃ (A17 : Option Addr) (c17 : Nat), RowAt wx w5.heap.size 49 #[.int .i64 d15, .slice A17 n15 c17] ∧ Rd wx wx.heap.size 2 A17 n15 (Cs encE es15) ∧ RowAt wx w4.heap.size 49 #[.int .i64 d15, .slice A15 n15 c15] ∧ Rd wx wx.heap.size 2 A15 n15 (Cs encE es15) ∧ Below wB.heap.size wB wx)
        case first =>
          cases q
          · obtain ⟨rfl, rfl, rfl, rfl⟩ := HZ15.out rfl
            go_wp2_with fail
            go_meet
            case rel =>
              have hbn : Below w5.heap.size w5 (w5.alloc (.cells #[.int .i64 0, .slice none 0 0] 49)) := (Below.refl _ _).alloc (Nat.le_refl _) _
              exact ⟨rfl, none, 0, RowAt.new _ _ _, Rd.none_, R15.out.below hbn, (H15.out.below hbn).more hbn.size, HB5.out.trans (hbn.mono HB5.out.size)⟩
          · obtain ⟨rfl, rfl, h17⟩ := H16.out rfl
            have H17 := hide h17
            clear h17
            go_wp2_with fail
            go_meet
            case rel =>
              have hbn : Below w5.heap.size w5 (w5.alloc (.cells #[.int .i64 d16, .slice A16 n16 c16] 49)) := (Below.refl _ _).alloc (Nat.le_refl _) _
              exact ⟨rfl, A16, c16, RowAt.new _ _ _, (H17.out.below hbn).more hbn.size, R15.out.below hbn, (H15.out.below hbn).more hbn.size, HB5.out.trans (hbn.mono HB5.out.size)⟩
        case rest =>
          rename_i K4 hK4
          obtain ⟨wC, hwC⟩ : ∃ w, w = wc := ⟨_, rfl⟩
          subst hwC
          obtain ⟨rfl, A17, c17, hr17, hrd17, hr15, hrd15, hbd⟩ := hcut
          refine hK4 _ _ (wp_seq_k fun K5 hK5 => ?_)
          have hlt15 := hr15.lt
          have hlt17 := hr17.lt
          have y0 := hr15.cell 0
          have y1 := hr15.cell 1
          have z0 := hr17.cell 0
          have z1 := hr17.cell 1
          simp only [List.getElem?_toArray, List.getElem?_cons_succ, List.getElem?_cons_zero] at y0 y1 z0 z1
          have HSD := hide (SameDirN A15 A17 c15 c17 d15 d15 es15 es15 wC hrd15 hrd17 HL15.out HL15.out (by omega) (by omega) true (by simp))
          have HBD5 := hide hbd
          clear hK4 K4 hr15 hr17 hrd15 hrd17 hbd
          go_cut [6] from 84 to 101 (fun s6 wx => s6 = .bool false ∧ Below wB.heap.size wB wx)
          case first =>
            cases q
            · obtain ⟨rfl, rfl, rfl, rfl⟩ := HZ15.out rfl
              go_wp2_with fail
              refine HSD.out.mono ?_
              rintro e w6 ⟨rfl, hb6⟩
              go_wp2_with fail
              go_meet
              case rel => exact ⟨rfl, HBD5.out.trans (hb6.mono HBD5.out.size)⟩
            · obtain ⟨rfl, rfl, rfl, rfl⟩ := HY15.out rfl
              go_wp2_with fail
              refine HSD.out.mono ?_
              rintro e w6 ⟨rfl, hb6⟩
              go_wp2_with fail
              go_meet
              case rel => exact ⟨rfl, HBD5.out.trans (hb6.mono HBD5.out.size)⟩
          case rest =>
            obtain ⟨wD, hwD⟩ : ∃ w, w = wc := ⟨_, rfl⟩
            subst hwD
            obtain ⟨rfl, hbd⟩ := hcut
            refine hK5 _ _ ?_
            have HD14 := hide ((HD14.out.below hbd).more hbd.size)
            have HRZ := hide ((HRZ.out.below hbd).more hbd.size)
            have HR7 := hide (HR7.out.below hbd)
            have HO7 := hide ((HO7.out.below hbd).more hbd.size)
            have HRx := hide (HRx.out.below hbd)
            have HBC := hide (HBC.out.trans (hbd.mono HBC.out.size))
            have HBD := hide (HBD.out.trans (hbd.mono HBD.out.size))
            clear hK5 K5 hbd HSD y0 y1 z0 z1 hlt15 hlt17 HBD5
            go_wp2_with fail
            go_loopw [104] (fun i wr => ∃ j : Nat, j ≤ k ∧ i = .int .i64 j ∧ Below wD.heap.size wD wr) (fun i _ => k - (intOf i).toNat)
            case atStart => exact ⟨0, Nat.zero_le _, rfl, Below.refl _ _⟩
            case round =>
              obtain ⟨j, hj, rfl, hbr⟩ := hrel
              have HR7 := hide (HR7.out.below hbr)
              have HO7 := hide ((HO7.out.below hbr).more hbr.size)
              have HBR := hide hbr
              have hg7 := HR7.out.lt
              have a0 := HR7.out.cell 0
              have a1 := HR7.out.cell 1
              simp only [List.getElem?_toArray, List.getElem?_cons_succ, List.getElem?_cons_zero] at a0 a1
              by_cases hlt : j < k
              · have hlz : j < zs.length := by rw [HZL.out]; exact hlt
                obtain ⟨b1, o1, rfl, hb1, hc1⟩ := (show Rd wr wD.heap.size 1 A14 zs.length (Cs encW zs) by have h := HD14.out.below hbr; rw [← HZL.out] at h; exact h).elem encW_len hlz
                have hd10 := hc1 0 _ (by omega) rfl
                simp only [Nat.mul_one, Nat.add_zero] at hd10
                have hbs : b1 < wr.heap.size := Nat.lt_of_lt_of_le hb1 hbr.size
                have hh := hide (HZU.out zs[j] (List.getElem_mem hlz))
                clear hc1 hbr
                generalize zs[j] = h at *
                cases r
                · have HAT := hide (At_no wr.heap.size A7 k7 dp1 h fs1 wr (by rw [HFL1.out]; exact HO7.out) (Nat.le_refl _) HFU1.out HRR.out)
                  rw [HFL1.out] at HAT
                  go_wp2_with fail
                  refine HAT.out.mono ?_
                  rintro e w6 ⟨rfl, hb6⟩
                  go_wp2_with fail
                  go_roundw
                  case rel => exact ⟨j + 1, by omega, by go_num, HBR.out.trans (hb6.mono HBR.out.size)⟩
                  case measure => simp [intOf]; omega
                · have hrt := HRR.out
                  rw [Bool.and_eq_true] at hrt
                  obtain ⟨q0, q1, q2⟩ := shape_small hrt.1
                  have HAT := hide (At_ok wr.heap.size A7 k7 dp1 h fs1 wr (by rw [HFL1.out]; exact HO7.out) (Nat.le_refl _) HFU1.out hh.out hrt.1 hrt.2)
                  rw [HFL1.out] at HAT
                  have HT := hide (fun w => RTop_any h dp1 w hh.out.1 hh.out.2 q0 (by omega))
                  obtain ⟨tz0, tz1⟩ := topZ_lt h dp1 hh.out.1 hh.out.2 q0 q1
                  clear hrt q2
                  go_wp2_with fail
                  refine HAT.out.mono ?_
                  rintro e w6 ⟨rfl, hb6⟩
                  have a0' := kept hb6 a0
                  have hg7' : g7 < w6.heap.size := Nat.lt_of_lt_of_le hg7 hb6.size
                  have HB6 := hide (HBR.out.trans (hb6.mono HBR.out.size))
                  clear hb6
                  go_wp2_with fail
                  refine (HT.out _).mono ?_
                  rintro e w7 ⟨rfl, rfl⟩
                  go_wp2_with fail
                  go_roundw
                  case rel => exact ⟨j + 1, by omega, by go_num, HB6.out⟩
                  case measure => simp [intOf]; omega
              · have HRx := hide (HRx.out.below hbr)
                have HD14 := hide ((HD14.out.below hbr).more hbr.size)
                have HRZ := hide ((HRZ.out.below hbr).more hbr.size)
                have HBC := hide (HBC.out.trans (hbr.mono HBC.out.size))
                have HBD := hide (HBD.out.trans (hbr.mono HBD.out.size))
                have hgx := HRx.out.lt
                have x0 := HRx.out.cell 0
                have x1 := HRx.out.cell 1
                simp only [List.getElem?_toArray, List.getElem?_cons_succ, List.getElem?_cons_zero] at x0 x1
                have Q24 : Hid (∀ w, Below wr.heap.size wr w → Calls Try.prog 24 #[.slice A14 k c14, .slice A3 k c3] w fun e W' => e = .returned (.bool true) ∧ Below w.heap.size w W') := hide (fun w hw => EqualWN A14 A3 c14 c3 zs zs w ((HD14.out.below hw).more hw.size) ((HRZ.out.below hw).more hw.size) HZL.out HZL.out (by omega) (by omega) true (by simp))
                have QX : Hid (∀ w, Below wr.heap.size wr w → Calls Try.prog 29 #[.agg #[.int .i64 dp1, .slice A1 es1.length c1]] w fun e W' => ∃ A' c', e = .returned (.agg #[.int .i64 dp1, .slice A' m1 c']) ∧ Rd W' W'.heap.size 2 A' m1 (Cs encE fs1) ∧ Below w.heap.size w W') := hide (fun w hw => (HO1.out w (HBD.out.trans (hw.mono HBD.out.size))).mono fun e W' ⟨A', c', e1, _, e3, _, e5⟩ => ⟨A', c', e1, e3, e5⟩)
                have Q34x : Hid (∀ w A' c', Below wr.heap.size wr w → Rd w w.heap.size 2 A' m1 (Cs encE fs1) → Calls Try.prog 34 #[.agg #[.int .i64 dp1, .slice A7 m1 k7], .agg #[.int .i64 dp1, .slice A' m1 c']] w fun e W' => e = .returned (.bool true) ∧ Below w.heap.size w W') := hide (fun w A' c' hw hr => SameDirN A7 A' k7 c' dp1 dp1 fs1 fs1 w ((HO7.out.below hw).more hw.size) hr HFL1.out HFL1.out (by omega) (by omega) true (by simp))
                have HS : Hid (∀ w w', (Below wr.heap.size wr w ∧ w.cell? ⟨g7, 0, none⟩ = some (.int .i64 dp1) ∧ w.cell? ⟨g7, 1, none⟩ = some (.slice A7 m1 k7) ∧ w.cell? ⟨W.heap.size, 0, none⟩ = some (.int .i64 dp1) ∧ w.cell? ⟨W.heap.size, 1, none⟩ = some (.slice A1 es1.length c1)) → Below w.heap.size w w' →
                  (Below wr.heap.size wr w' ∧ w'.cell? ⟨g7, 0, none⟩ = some (.int .i64 dp1) ∧ w'.cell? ⟨g7, 1, none⟩ = some (.slice A7 m1 k7) ∧ w'.cell? ⟨W.heap.size, 0, none⟩ = some (.int .i64 dp1) ∧ w'.cell? ⟨W.heap.size, 1, none⟩ = some (.slice A1 es1.length c1))) := hide (fun w w' h hb => ⟨h.1.trans (hb.mono h.1.size), kept hb h.2.1, kept hb h.2.2.1, kept hb h.2.2.2.1, kept hb h.2.2.2.2⟩)
                clear hbr
                go_wp2_with fail
                have hbd0 : Below wr.heap.size wr wr.drew := (Below.refl _ _).drew
                go_region_held3 (fun wX => Below wr.heap.size wr wX ∧ wX.cell? ⟨g7, 0, none⟩ = some (.int .i64 dp1) ∧ wX.cell? ⟨g7, 1, none⟩ = some (.slice A7 m1 k7) ∧ wX.cell? ⟨W.heap.size, 0, none⟩ = some (.int .i64 dp1) ∧ wX.cell? ⟨W.heap.size, 1, none⟩ = some (.slice A1 es1.length c1))
                  (first | exact HS.out _ _ ‹_› hb | exact ⟨hbd0, a0, a1, x0, x1⟩ | go_keep)
                  (first
                    | (go_at_call 24; with_reducible refine (Q24.out _ (And.left ‹Below wr.heap.size wr _ ∧ _›)).mono ?_; rintro e w8 ⟨rfl, hb⟩)
                    | (go_at_call 29; with_reducible refine (QX.out _ (And.left ‹Below wr.heap.size wr _ ∧ _›)).mono ?_; rintro e w8 ⟨Ay, cy, rfl, hrdy, hb⟩)
                    | (go_at_call 34; with_reducible refine (Q34x.out _ _ _ (And.left ‹Below wr.heap.size wr _ ∧ _›) hrdy).mono ?_; rintro e w8 ⟨rfl, hb⟩))
                have hbd := And.left ‹Below wr.heap.size wr _ ∧ _›
                go_wp2_with fail
                go_ret
                exact ⟨rfl, HBC.out.trans (hbd.mono HBC.out.size)⟩

end Go.Proofs.Ytndlfofpldbldaa

/-
  The program's: accesses, one behind the other.
-/
import Derived.Test.YtadgihmokmfejaaCen
import Derived.Test.YtadgihmokmfejaaCem
import Derived.Test.YtadgihmokmfejaaTail
set_option linter.unusedSimpArgs false
set_option linter.unusedVariables false
namespace Go.Proofs.Ytadgihmokmfejaa
open Go Go.RowKit
attribute [local go_sem] via_cell via_frozen

theorem own_grown {w w' : World} {b b2 n n2 sz sz2 : Nat} {e e2 : TypeId} {v v2 : Value} {xs xs2 : List Value} (hv : w.ownsRow b2 e2 sz2 v2 n2 xs2) (ha : w.ownsRow b e sz v n xs) (hg : w.grownBy w' v.ownBlock) (hne : e2 ≠ e) : w'.ownsRow b2 e2 sz2 v2 n2 xs2 := by
  obtain ⟨h1, h2⟩ := hv
  refine ⟨h1, ?_⟩
  rcases h2 with h | ⟨g, cap, cur, hv, hg0, hh, r⟩
  · exact .inl h
  · exact .inr ⟨g, cap, cur, hv, hg0, (hg.block g (Array.getElem?_eq_some_iff.1 hh).1 (own_ne ha hh hne)).trans hh, r⟩
theorem ne_past {w : World} {b n sz p : Nat} {e : TypeId} {v : Value} {xs : List Value} (h : w.ownsRow b e sz v n xs) (hp : w.heap.size ≤ p) : some p ≠ v.ownBlock := fun he => by
  obtain ⟨o, ho, _⟩ := own_cells h he.symm
  rw [Array.getElem?_eq_none hp] at ho
  cases ho
theorem RowAt.grown {w w' : World} {p : Nat} {t : TypeId} {cs : Array Value} {o : Obj} {r : Option Nat} (h : RowAt w p t cs) (hg : (w.alloc o).grownBy w' r) (hne : some p ≠ r) : RowAt w' p t cs :=
  (hg.block p (by have := h.lt; rw [World.size_alloc]; omega) hne).trans (h.below ((Below.refl _ _).alloc (Nat.le_refl _) _))

/-- Words that change, what has been seen, marks: all in memory of the call's own. -/
structure RunIn (w : World) (g base : Nat) (X : List Int) (va vm : Value) (ns nm : Nat) (S : List (Int × Bool)) (M : List Mk) : Prop where
  row : RowAt w g 31 (Cs encW X).toArray
  sn : w.ownsRow base 33 2 va ns (Cs encS S)
  mks : w.ownsRow base 57 4 vm nm (Cs encM M)
  lt : g < base
  le : base ≤ w.heap.size
section
variable {w w' : World} {g base : Nat} {X X' : List Int} {va vm va' : Value} {ns nm : Nat} {S : List (Int × Bool)} {M : List Mk}
theorem RunIn.below (h : RunIn w g base X va vm ns nm S M) (hb : Below w.heap.size w w') : RunIn w' g base X va vm ns nm S M := ⟨h.row.below hb, own_keepB h.sn hb, own_keepB h.mks hb, h.lt, Nat.le_trans h.le hb.size⟩
theorem RunIn.past (h : RunIn w g base X va vm ns nm S M) (hp : Past g w w') (hr : RowAt w' g 31 (Cs encW X').toArray) : RunIn w' g base X' va vm ns nm S M :=
  ⟨hr, own_other2 h.sn (fun j h1 h2 => hp.block j (by have := h.lt; omega) h2), own_other2 h.mks (fun j h1 h2 => hp.block j (by have := h.lt; omega) h2), h.lt, Nat.le_trans h.le hp.size⟩
theorem RunIn.grownS {q : Int} {d : Bool} {cs : Array Value} {t : TypeId} (h : RunIn w g base X va vm ns nm S M) (hown : w'.ownsRow base 33 2 va' (ns + 1) (Cs encS S ++ [.int .u64 q, .bool d])) (hg : (w.alloc (.cells cs t)).grownBy w' va.ownBlock) (hb : Below base (w.alloc (.cells cs t)) w') : RunIn w' g base X va' vm (ns + 1) nm (S ++ [(q, d)]) M :=
  ⟨(h.row.below ((Below.refl _ _).alloc (Nat.le_refl _) _)).belowB h.lt hb, by rw [Cs_append]; exact hown, own_grown (h.mks.alloc _) (h.sn.alloc _) hg (by decide), h.lt, Nat.le_trans h.le (Nat.le_trans (by rw [World.size_alloc]; omega) hb.size)⟩
theorem RunIn.grownM {m1 m2 m3 m4 : Int} {cs : Array Value} {t : TypeId} (h : RunIn w g base X va vm ns nm S M) (hown : w'.ownsRow base 57 4 va' (nm + 1) (Cs encM M ++ [.int .i64 m1, .int .i64 m2, .int .u64 m3, .int .u64 m4])) (hg : (w.alloc (.cells cs t)).grownBy w' vm.ownBlock) (hb : Below base (w.alloc (.cells cs t)) w') : RunIn w' g base X va va' ns (nm + 1) S (M ++ [(m1, m2, m3, m4)]) :=
  ⟨(h.row.below ((Below.refl _ _).alloc (Nat.le_refl _) _)).belowB h.lt hb, own_grown (h.sn.alloc _) (h.mks.alloc _) hg (by decide), by rw [Cs_append]; exact hown, h.lt, Nat.le_trans h.le (Nat.le_trans (by rw [World.size_alloc]; omega) hb.size)⟩
theorem RunIn.rowsM {w wB : World} {g base ns nm p : Nat} {X : List Int} {va vm : Value} {S : List (Int × Bool)} {M : List Mk} {cs cs' : Array Value} {t T : TypeId} (h : RunIn w g base X va vm ns nm S M) (hg : (w.alloc (.cells cs t)).grownBy wB vm.ownBlock) (hr : RowAt w p T cs') (hne : T ≠ 57) : RowAt wB p T cs' :=
  RowAt.grown hr hg (own_ne (h.mks.alloc (.cells cs t)) (hr.below ((Below.refl _ _).alloc (Nat.le_refl _) (.cells cs t))) hne)
end

theorem Rd.acc {w : World} {B n : Nat} {A : Option Addr} {ms : List Acc} (h : Rd w B 5 A n (Cs encA ms)) (hx : ms.length = n) {j : Nat} (hj : j < n) :
    ∃ b o, A = some ⟨b, o, none⟩ ∧ b < B ∧ ∃ wh kd at_ ol nw : Int, ms[j]? = some (wh, kd, at_, ol, nw) ∧ w.cell? ⟨b, o + j * 5, none⟩ = some (.int .i64 wh) ∧ w.cell? ⟨b, o + j * 5 + 1, none⟩ = some (.int .i64 kd) ∧ w.cell? ⟨b, o + j * 5 + 2, none⟩ = some (.int .i64 at_) ∧ w.cell? ⟨b, o + j * 5 + 3, none⟩ = some (.int .u64 ol) ∧ w.cell? ⟨b, o + j * 5 + 4, none⟩ = some (.int .u64 nw) := by
  subst hx
  obtain ⟨b, o, h1, h2, h3⟩ := h.elem encA_len hj
  have d0 := h3 0 _ (by omega) rfl
  simp only [Nat.add_zero] at d0
  exact ⟨b, o, h1, h2, ms[j].1, ms[j].2.1, ms[j].2.2.1, ms[j].2.2.2.1, ms[j].2.2.2.2, List.getElem?_eq_getElem hj, d0, h3 1 _ (by omega) rfl, h3 2 _ (by omega) rfl, h3 3 _ (by omega) rfl, h3 4 _ (by omega) rfl⟩

theorem runE_bad {n : Nat} {a : Acc} : ∀ {l : List Acc} {j : Nat}, (∀ b ∈ l.take j, why n b = 0) → l[j]? = some a → why n a ≠ 0 → runE n l = why n a
  | [], j, _, h, _ => by simp at h
  | b :: l, 0, _, h, hw => by simp at h; subst h; simp [runE, hw]
  | b :: l, j + 1, h0, h, hw => by
    have hb := h0 b (by simp)
    have := runE_bad (l := l) (j := j) (fun c hc => h0 c (by simp [hc])) (by simpa using h) hw
    simp [runE, hb, this]
theorem runE_ok {n : Nat} (h1 : 1 ≤ n) (h2 : n ≤ 8192) : ∀ {l : List Acc}, (∀ b ∈ l, why n b = 0) → runE n l = 0
  | [], _ => by unfold runE; rw [if_neg (by omega)]
  | b :: l, h => by
    have hb := h b (by simp)
    have := runE_ok h1 h2 (l := l) (fun c hc => h c (by simp [hc]))
    simp [runE, hb, this]
theorem why_out {n : Nat} (h : n < 1 ∨ 8192 < n) (a : Acc) : why n a = 120 := by unfold why; rw [if_pos h]
theorem runE_out {n : Nat} (h : n < 1 ∨ 8192 < n) (l : List Acc) : runE n l = 120 := by
  cases l with
  | nil => unfold runE; rw [if_pos h]
  | cons a l => unfold runE; rw [if_pos (by rw [why_out h]; decide), why_out h]

/-- What Run comes to: an error; or the words, what was seen, and marks. -/
def RunRes (W : World) (n : Nat) (X : List Int) (l : List Acc) (e : Int) (x : Ending) (W' : World) : Prop :=
  Below W.heap.size W W' ∧ ((e ≠ 0 ∧ x = .returned (.tuple #[.slice none 0 0, .slice none 0 0, .slice none 0 0, .int .i64 e])) ∨
    (e = 0 ∧ ∃ g va vm, x = .returned (.tuple #[.slice (some ⟨g, 0, none⟩) n n, va, vm, .int .i64 0]) ∧ W.heap.size ≤ g ∧ RunIn W' g (g + 1) (runX X l) va vm l.length (runM 0 X l).length (runS X l) (runM 0 X l)))
def RunAt (W : World) (g n : Nat) (X : List Int) (l : List Acc) (j : Nat) (va vm : Value) (wr : World) : Prop :=
  RunIn wr g (g + 1) (runX X (l.take j)) va vm j (runM 0 X (l.take j)).length (runS X (l.take j)) (runM 0 X (l.take j)) ∧ Below W.heap.size W wr ∧ ∀ a ∈ l.take j, why n a = 0
theorem RunAt.next {W wr w' : World} {g n j : Nat} {X : List Int} {l : List Acc} {a : Acc} {va vm va' vm' : Value} {M' : List Mk} (h : RunAt W g n X l j va vm wr) (hj : l[j]? = some a) (hw : why n a = 0)
    (hi : RunIn w' g (g + 1) (doX (runX X (l.take j)) a) va' vm' (j + 1) M'.length (runS X (l.take j) ++ [doS (runX X (l.take j)) a]) M') (hM : M' = runM 0 X (l.take j) ++ doM j (runX X (l.take j)) a) (hb : Below W.heap.size W w') : RunAt W g n X l (j + 1) va' vm' w' := by
  subst hM
  obtain ⟨hjl, hja⟩ := List.getElem?_eq_some_iff.1 hj
  have ht : l.take (j + 1) = l.take j ++ [a] := by rw [List.take_succ_eq_append_getElem hjl, hja]
  have hl : (l.take j).length = j := by rw [List.length_take]; omega
  unfold RunAt
  rw [ht, runX_snoc, runS_snoc, runM_snoc, hl, Nat.zero_add]
  refine ⟨hi, hb, fun b hb => ?_⟩
  rw [List.mem_append] at hb
  rcases hb with hb | hb
  · exact h.2.2 b hb
  · simp at hb; subst hb; exact hw

set_option maxRecDepth 100000 in
set_option maxHeartbeats 8000000 in
theorem prun_any (A Al : Option Addr) (c n cl m : Nat) (X : List Int) (l : List Acc) (W : World) (h : Rd W W.heap.size 1 A n (Cs encW X)) (hx : X.length = n) (hn : n ≤ 8192) (hl : Rd W W.heap.size 5 Al m (Cs encA l)) (hm : l.length = m) (hm2 : m ≤ 1000) (e : Int) (he : runE n l = e) :
    Calls Try.prog 18 #[.slice A n c, .slice Al m cl] W (RunRes W n X l e) := by
  by_cases h0 : n < 1
  · obtain rfl : 120 = e := by rw [← he, runE_out (.inl h0)]
    have y0 : (n : Int) < 1 := by omega
    clear he h hl
    go_enter Try.func18, Try.ntmps18
    go_wp2_with fail
    (try rw [Exit.noGoto_ret])
    exact bodyPost_ret (v := .tuple #[.slice none 0 0, .slice none 0 0, .slice none 0 0, .int .i64 120]) (by simp [results, Try.results18, go_sem]) rfl ⟨Below.refl _ _, .inl ⟨by decide, rfl⟩⟩
  · have p0 : (1 : Int) ≤ n := by omega
    have p1 : (n : Int) ≤ 8192 := by omega
    have HL := hide hl
    have HLM := hide hm
    have HE := hide he
    have HXL := hide hx
    have HO := hide (pown_any A c n X W h hx (by omega) hn)
    clear h hl he hx
    go_enter Try.func18, Try.ntmps18
    go_wp2_with fail
    with_reducible refine HO.out.mono ?_
    rintro x w1 ⟨g, rfl, hrow, hg, hb⟩
    have hgl := hrow.lt
    have HROW := hide hrow
    have HB1 := hide hb
    clear hrow hb HO
    go_wp2_with fail
    go_loopw [9, 10, 28] (fun va vm i wr => ∃ j : Nat, j ≤ m ∧ i = .int .i64 j ∧ RunAt W g n X l j va vm wr) (fun _ _ i _ => m - (intOf i).toNat)
    case atStart => exact ⟨0, Nat.zero_le _, rfl, ⟨HROW.out, World.ownsRow_nil _ _ _ _, World.ownsRow_nil _ _ _ _, Nat.lt_succ_self _, hgl⟩, HB1.out, by simp⟩
    case round =>
      obtain ⟨j, hj, rfl, hrun⟩ := hrel
      have HRUN := hide hrun
      have HRIR := hide hrun.1
      have HB := hide hrun.2.1
      clear hrun
      by_cases hlt : j < m
      · obtain ⟨b, o, rfl, hb, wh, kd, at_, ol, nw, ha, d0, d1, d2, d3, d4⟩ := (HL.out.below HB.out).acc HLM.out hlt
        have hszW := HB.out.size
        have hbl : b < wr.heap.size := by omega
        have HA := hide ha
        obtain ⟨r, hr⟩ : ∃ r, why n (wh, kd, at_, ol, nw) = r := ⟨_, rfl⟩
        have HC := hide (fun w => check_any n wh kd at_ ol nw w r hr)
        have HR := hide hr
        clear ha hr
        obtain ⟨b0, hb0⟩ : ∃ b0, wr.heap.size = b0 := ⟨_, rfl⟩
        have HB0 := hide hb0
        have HW2 := hide (show Below wr.heap.size wr ((wr.alloc (.cells #[.int .i64 wh, .int .i64 kd, .int .i64 at_, .int .u64 ol, .int .u64 nw] 37)).alloc (.cells #[.int .i64 wh, .int .i64 kd, .int .i64 at_, .int .u64 ol, .int .u64 nw] 77)) from (((Below.refl _ _).alloc (Nat.le_refl _) _).alloc (by simp) _))
        have R3 := hide (show RowAt ((wr.alloc (.cells #[.int .i64 wh, .int .i64 kd, .int .i64 at_, .int .u64 ol, .int .u64 nw] 37)).alloc (.cells #[.int .i64 wh, .int .i64 kd, .int .i64 at_, .int .u64 ol, .int .u64 nw] 77)) b0 37 #[.int .i64 wh, .int .i64 kd, .int .i64 at_, .int .u64 ol, .int .u64 nw] from by
          have h := RowAt.new wr 37 #[.int .i64 wh, .int .i64 kd, .int .i64 at_, .int .u64 ol, .int .u64 nw]
          rw [hb0] at h
          exact h.below ((Below.refl _ _).alloc (Nat.le_refl _) _))
        have R7 := hide (show RowAt ((wr.alloc (.cells #[.int .i64 wh, .int .i64 kd, .int .i64 at_, .int .u64 ol, .int .u64 nw] 37)).alloc (.cells #[.int .i64 wh, .int .i64 kd, .int .i64 at_, .int .u64 ol, .int .u64 nw] 77)) (b0 + 1) 77 #[.int .i64 wh, .int .i64 kd, .int .i64 at_, .int .u64 ol, .int .u64 nw] from by
          have h := RowAt.new (wr.alloc (.cells #[.int .i64 wh, .int .i64 kd, .int .i64 at_, .int .u64 ol, .int .u64 nw] 37)) 77 #[.int .i64 wh, .int .i64 kd, .int .i64 at_, .int .u64 ol, .int .u64 nw]
          rw [World.size_alloc, hb0] at h
          exact h)
        clear hb0
        by_cases hr0 : r = 0
        · subst hr0
          obtain ⟨n1, n2, k1, k4, _, _, hk0, hkn⟩ := why_ok HR.out
          obtain ⟨k, rfl⟩ : ∃ k : Nat, at_ = k := ⟨at_.toNat, by omega⟩
          have hkn' : k < n := by omega
          have HLX := hide (show (runX X (l.take j)).length = n by rw [runX_length, HXL.out])
          obtain ⟨Xj, hXj⟩ : ∃ Xj, runX X (l.take j) = Xj := ⟨_, rfl⟩
          have HXJ := hide hXj
          obtain ⟨Y, hY⟩ : ∃ Y, doX Xj (wh, kd, (k : Int), ol, nw) = Y := ⟨_, rfl⟩
          obtain ⟨⟨q, d⟩, hs⟩ : ∃ s, doS Xj (wh, kd, (k : Int), ol, nw) = s := ⟨_, rfl⟩
          have HY := hide hY
          have HSS := hide hs
          rw [hXj] at HRIR HLX
          have HD := hide (fun (w : World) (hr : RowAt w g 31 (Cs encW Xj).toArray) => show Calls Try.prog 36 #[.agg #[.int .i64 wh, .int .i64 kd, .int .i64 k, .int .u64 ol, .int .u64 nw], .iface 86 (.agg #[.slice (some ⟨g, k, none⟩) 1 1])] w (CellRes w g 31 Y (.agg #[.int .u64 q, .bool d])) from does_any g k 31 Xj wh kd k ol nw w hr (by rw [HLX.out]; exact hkn') rfl k1 k4 Y hY (q, d) hs)
          have HLY := hide (show Y.length = n by rw [← hY, doX_length, HLX.out])
          clear hXj hY hs hk0
          go_wp2_with fail
          (try rw [HB0.out])
          generalize ((wr.alloc (.cells #[.int .i64 wh, .int .i64 kd, .int .i64 k, .int .u64 ol, .int .u64 nw] 37)).alloc (.cells #[.int .i64 wh, .int .i64 kd, .int .i64 k, .int .u64 ol, .int .u64 nw] 77)) = w3 at *
          with_reducible refine (HC.out _).mono ?_
          rintro e w5 ⟨rfl, hb⟩
          replace HW2 := hide (HW2.out.trans (hb.mono HW2.out.size))
          replace R3 := hide (R3.out.below hb)
          replace R7 := hide (R7.out.below hb)
          have HRI := hide (HRIR.out.below HW2.out)
          replace HB := hide (HB.out.trans (HW2.out.mono HB.out.size))
          have hWb0 : W.heap.size ≤ b0 := by rw [← HB0.out]; exact hszW
          have hgb0 : g < b0 := by rw [← HB0.out]; exact HRIR.out.row.lt
          have hWbase : W.heap.size ≤ g + 1 := by omega
          have hgl := HRI.out.row.lt
          clear hb HC HW2
          have a0 : w5.cell? ⟨b0 + 1, 0, none⟩ = some (.int .i64 wh) := R7.out.cell 0
          have a1 : w5.cell? ⟨b0 + 1, 1, none⟩ = some (.int .i64 kd) := R7.out.cell 1
          have a2 : w5.cell? ⟨b0 + 1, 2, none⟩ = some (.int .i64 k) := R7.out.cell 2
          have a3 : w5.cell? ⟨b0 + 1, 3, none⟩ = some (.int .u64 ol) := R7.out.cell 3
          have a4 : w5.cell? ⟨b0 + 1, 4, none⟩ = some (.int .u64 nw) := R7.out.cell 4
          have q0 : w5.cell? ⟨b0, 2, none⟩ = some (.int .i64 k) := R3.out.cell 2
          have l7 := R7.out.lt
          have hk1 : (k : Int) < 8192 := by omega
          have hsl := slice_one g k n hkn'
          have hwr : IntKind.i64.wrap ((k : Int) + 1) = (k : Int) + 1 := IntWalk.i64_in _ (by omega)
          have hadd : (⟨g, 0, none⟩ : Addr).add k = ⟨g, k, none⟩ := by by_cases h : k = 0 <;> simp [Addr.add, h]
          have HS : Hid (∀ w w', (Below W.heap.size W w ∧ w.cell? ⟨b0 + 1, 0, none⟩ = some (.int .i64 wh) ∧ w.cell? ⟨b0 + 1, 1, none⟩ = some (.int .i64 kd) ∧ w.cell? ⟨b0 + 1, 2, none⟩ = some (.int .i64 k) ∧ w.cell? ⟨b0 + 1, 3, none⟩ = some (.int .u64 ol) ∧ w.cell? ⟨b0 + 1, 4, none⟩ = some (.int .u64 nw) ∧ w.cell? ⟨b0, 2, none⟩ = some (.int .i64 k) ∧ b0 + 1 < w.heap.size) → Below w.heap.size w w' → (Below W.heap.size W w' ∧ w'.cell? ⟨b0 + 1, 0, none⟩ = some (.int .i64 wh) ∧ w'.cell? ⟨b0 + 1, 1, none⟩ = some (.int .i64 kd) ∧ w'.cell? ⟨b0 + 1, 2, none⟩ = some (.int .i64 k) ∧ w'.cell? ⟨b0 + 1, 3, none⟩ = some (.int .u64 ol) ∧ w'.cell? ⟨b0 + 1, 4, none⟩ = some (.int .u64 nw) ∧ w'.cell? ⟨b0, 2, none⟩ = some (.int .i64 k) ∧ b0 + 1 < w'.heap.size)) := hide (fun w w' h hb => ⟨h.1.trans (hb.mono h.1.size), kept hb h.2.1, kept hb h.2.2.1, kept hb h.2.2.2.1, kept hb h.2.2.2.2.1, kept hb h.2.2.2.2.2.1, kept hb h.2.2.2.2.2.2.1, Nat.lt_of_lt_of_le h.2.2.2.2.2.2.2 hb.size⟩)
          have HP : Hid (∀ w w', (Below W.heap.size W w ∧ w.cell? ⟨b0 + 1, 0, none⟩ = some (.int .i64 wh) ∧ w.cell? ⟨b0 + 1, 1, none⟩ = some (.int .i64 kd) ∧ w.cell? ⟨b0 + 1, 2, none⟩ = some (.int .i64 k) ∧ w.cell? ⟨b0 + 1, 3, none⟩ = some (.int .u64 ol) ∧ w.cell? ⟨b0 + 1, 4, none⟩ = some (.int .u64 nw) ∧ w.cell? ⟨b0, 2, none⟩ = some (.int .i64 k) ∧ b0 + 1 < w.heap.size) → Past g w w' → (Below W.heap.size W w' ∧ w'.cell? ⟨b0 + 1, 0, none⟩ = some (.int .i64 wh) ∧ w'.cell? ⟨b0 + 1, 1, none⟩ = some (.int .i64 kd) ∧ w'.cell? ⟨b0 + 1, 2, none⟩ = some (.int .i64 k) ∧ w'.cell? ⟨b0 + 1, 3, none⟩ = some (.int .u64 ol) ∧ w'.cell? ⟨b0 + 1, 4, none⟩ = some (.int .u64 nw) ∧ w'.cell? ⟨b0, 2, none⟩ = some (.int .i64 k) ∧ b0 + 1 < w'.heap.size)) := hide (fun w w' h hb => ⟨h.1.trans (hb.below.mono (by omega)), (hb.cell _ (by show b0 + 1 ≠ g; omega) h.2.2.2.2.2.2.2).trans h.2.1, (hb.cell _ (by show b0 + 1 ≠ g; omega) h.2.2.2.2.2.2.2).trans h.2.2.1, (hb.cell _ (by show b0 + 1 ≠ g; omega) h.2.2.2.2.2.2.2).trans h.2.2.2.1, (hb.cell _ (by show b0 + 1 ≠ g; omega) h.2.2.2.2.2.2.2).trans h.2.2.2.2.1, (hb.cell _ (by show b0 + 1 ≠ g; omega) h.2.2.2.2.2.2.2).trans h.2.2.2.2.2.1, (hb.cell _ (by show b0 ≠ g; omega) (by show b0 < _; have := h.2.2.2.2.2.2.2; omega)).trans h.2.2.2.2.2.2.1, Nat.lt_of_lt_of_le h.2.2.2.2.2.2.2 hb.size⟩)
          have HT : Hid (∀ (w : World) (p : Nat) (u v : Value), (Below W.heap.size W w ∧ w.cell? ⟨b0 + 1, 0, none⟩ = some (.int .i64 wh) ∧ w.cell? ⟨b0 + 1, 1, none⟩ = some (.int .i64 kd) ∧ w.cell? ⟨b0 + 1, 2, none⟩ = some (.int .i64 k) ∧ w.cell? ⟨b0 + 1, 3, none⟩ = some (.int .u64 ol) ∧ w.cell? ⟨b0 + 1, 4, none⟩ = some (.int .u64 nw) ∧ w.cell? ⟨b0, 2, none⟩ = some (.int .i64 k) ∧ b0 + 1 < w.heap.size) → b0 + 1 < p → (Below W.heap.size W ((w.setCell ⟨p, 0, none⟩ u).setCell ⟨p, 1, none⟩ v) ∧ ((w.setCell ⟨p, 0, none⟩ u).setCell ⟨p, 1, none⟩ v).cell? ⟨b0 + 1, 0, none⟩ = some (.int .i64 wh) ∧ ((w.setCell ⟨p, 0, none⟩ u).setCell ⟨p, 1, none⟩ v).cell? ⟨b0 + 1, 1, none⟩ = some (.int .i64 kd) ∧ ((w.setCell ⟨p, 0, none⟩ u).setCell ⟨p, 1, none⟩ v).cell? ⟨b0 + 1, 2, none⟩ = some (.int .i64 k) ∧ ((w.setCell ⟨p, 0, none⟩ u).setCell ⟨p, 1, none⟩ v).cell? ⟨b0 + 1, 3, none⟩ = some (.int .u64 ol) ∧ ((w.setCell ⟨p, 0, none⟩ u).setCell ⟨p, 1, none⟩ v).cell? ⟨b0 + 1, 4, none⟩ = some (.int .u64 nw) ∧ ((w.setCell ⟨p, 0, none⟩ u).setCell ⟨p, 1, none⟩ v).cell? ⟨b0, 2, none⟩ = some (.int .i64 k) ∧ b0 + 1 < ((w.setCell ⟨p, 0, none⟩ u).setCell ⟨p, 1, none⟩ v).heap.size)) := hide (fun w p u v h hp => ⟨(h.1.setCell (p := ⟨p, 0, none⟩) (by show _ ≤ p; omega) u).setCell (p := ⟨p, 1, none⟩) (by show _ ≤ p; omega) v, cell_set2 h.2.1 (by omega), cell_set2 h.2.2.1 (by omega), cell_set2 h.2.2.2.1 (by omega), cell_set2 h.2.2.2.2.1 (by omega), cell_set2 h.2.2.2.2.2.1 (by omega), cell_set2 h.2.2.2.2.2.2.1 (by omega), by simpa using h.2.2.2.2.2.2.2⟩)
          have hS0 : Below W.heap.size W w5.drew ∧ w5.drew.cell? ⟨b0 + 1, 0, none⟩ = some (.int .i64 wh) ∧ w5.drew.cell? ⟨b0 + 1, 1, none⟩ = some (.int .i64 kd) ∧ w5.drew.cell? ⟨b0 + 1, 2, none⟩ = some (.int .i64 k) ∧ w5.drew.cell? ⟨b0 + 1, 3, none⟩ = some (.int .u64 ol) ∧ w5.drew.cell? ⟨b0 + 1, 4, none⟩ = some (.int .u64 nw) ∧ w5.drew.cell? ⟨b0, 2, none⟩ = some (.int .i64 k) ∧ b0 + 1 < w5.drew.heap.size := ⟨HB.out.drew, a0, a1, a2, a3, a4, q0, l7⟩
          clear a0 a1 a2 a3 a4 q0 l7
          go_wp2_with fail
          go_region_held3 (fun wX => Below W.heap.size W wX ∧ wX.cell? ⟨b0 + 1, 0, none⟩ = some (.int .i64 wh) ∧ wX.cell? ⟨b0 + 1, 1, none⟩ = some (.int .i64 kd) ∧ wX.cell? ⟨b0 + 1, 2, none⟩ = some (.int .i64 k) ∧ wX.cell? ⟨b0 + 1, 3, none⟩ = some (.int .u64 ol) ∧ wX.cell? ⟨b0 + 1, 4, none⟩ = some (.int .u64 nw) ∧ wX.cell? ⟨b0, 2, none⟩ = some (.int .i64 k) ∧ b0 + 1 < wX.heap.size)
            (first | exact hS0 | exact HP.out _ _ ‹_› hpq | exact HS.out _ _ (HP.out _ _ hS0 hpq) ((Below.refl _ _).alloc (Nat.le_refl _) _) | exact HT.out _ _ _ _ (HP.out _ _ (HS.out _ _ hS0 ((Below.refl _ _).alloc (Nat.le_refl _) _)) hpq) (by have h := R7.out.lt; simp; omega) | exact HS.out _ _ ‹_› ((Below.refl _ _).alloc (Nat.le_refl _) _) | go_keep)
            (first | (go_at_call 36; (with_reducible refine (HD.out _ (by first | exact HRI.out.row.drew | exact (HRI.out.row.drew).below ((Below.refl _ _).alloc (Nat.le_refl _) _))).mono ?_); rintro e wq ⟨rfl, hrowq, hpq⟩; (try (have RS := (RowAt.new w5.drew 33 #[.int .u64 0, .bool false]).past hpq (show w5.heap.size ≠ g by have := HRI.out.row.lt; omega); have rs0 := row20 RS; have rs1 := row21 RS; have rsl := RS.lt; have rsf0 := RS.frozen 0; have rsf1 := RS.frozen 1; simp only [World.size_drew] at rs0 rs1 rsl rsf0 rsf1))))
          all_goals
            rename_i hHeld
            have hbd := And.left hHeld
            have hgl := HRI.out.row.lt
            clear hHeld HS HP HT hS0 hsl hwr hadd HD
          · have RB := RowAt.new wq 33 #[.int .u64 q, .bool d]
            have hrow9 := hrowq.below ((Below.refl _ _).alloc (Nat.le_refl _) (.cells #[.int .u64 q, .bool d] 33))
            have hP9 : Past g w5 (wq.alloc (.cells #[.int .u64 q, .bool d] 33)) := (hpq.ofDrew).trans (Past.alloc hrowq.lt _)
            have hpw : w5.heap.size ≤ wq.heap.size := by have h := hpq.size; rwa [World.size_drew] at h
            generalize wq.alloc (.cells #[.int .u64 q, .bool d] 33) = w9 at *
            generalize wq.heap.size = p at *
            have HRI9 := hide (HRI.out.past hP9 hrow9)
            have R12 := hide (R3.out.past hP9 (show b0 ≠ g by omega))
            have HB9 := hide (HB.out.trans (hP9.below.mono (show W.heap.size ≤ g by omega)))
            clear hrow9 hrowq hpq hP9 hbd
            have e0 := row20 RB
            have e1 := row21 RB
            have lb := RB.lt
            have hpn := ne_past HRI.out.sn hpw
            have HRB := hide RB
            have HPN := hide hpn
            clear RB hpn
            cases d
            · go_wp2_with (at_builtin; refine wpList_app elS rfl _ _ rfl rfl (HRI9.out.sn.alloc _) rfl (Rd.new w9 #[.int .u64 q, .bool false] 33 2 1 rfl) (by simp [Value.oneCell']) (by omega) (by rw [World.size_alloc]; exact Nat.le_trans HRI9.out.le (Nat.le_succ _)) ?_; intro va2 wA hownA hbA hgA _; have HRIA := hide (HRI9.out.grownS hownA hgA hbA); have RBA := HRB.out.grown hgA HPN.out; have R12A := R12.out.grown hgA (own_ne (HRI9.out.sn.alloc (.cells #[.int .u64 q, .bool false] 33)) (R12.out.below ((Below.refl _ _).alloc (Nat.le_refl _) _)) (by decide)); have HBA := hide ((HB9.out.alloc HB9.out.size _).trans (hbA.mono hWbase)); have e0 := row20 RBA; have e1 := row21 RBA; have lb := RBA.lt; have c1 : wA.cell? ⟨b0, 1, none⟩ = some (.int .i64 kd) := R12A.cell 1; have lc := R12A.lt; have HRBA := hide RBA; have HR12A := hide R12A; clear RBA R12A hownA hgA hbA)
              go_roundw
              case rel => exact ⟨j + 1, by omega, by go_num, HRUN.out.next HA.out HR.out (M' := runM 0 X (l.take j)) (by rw [HXJ.out, HY.out, HSS.out]; exact HRIA.out) (by rw [HXJ.out]; unfold doM; rw [HSS.out]; simp) HBA.out⟩
              case measure => simp [intOf]; omega
            · by_cases hk1 : kd = 1
              · subst hk1
                go_wp2_with (at_builtin; refine wpList_app elS rfl _ _ rfl rfl (HRI9.out.sn.alloc _) rfl (Rd.new w9 #[.int .u64 q, .bool true] 33 2 1 rfl) (by simp [Value.oneCell']) (by omega) (by rw [World.size_alloc]; exact Nat.le_trans HRI9.out.le (Nat.le_succ _)) ?_; intro va2 wA hownA hbA hgA _; have HRIA := hide (HRI9.out.grownS hownA hgA hbA); have RBA := HRB.out.grown hgA HPN.out; have R12A := R12.out.grown hgA (own_ne (HRI9.out.sn.alloc (.cells #[.int .u64 q, .bool true] 33)) (R12.out.below ((Below.refl _ _).alloc (Nat.le_refl _) _)) (by decide)); have HBA := hide ((HB9.out.alloc HB9.out.size _).trans (hbA.mono hWbase)); have e0 := row20 RBA; have e1 := row21 RBA; have lb := RBA.lt; have c1 : wA.cell? ⟨b0, 1, none⟩ = some (.int .i64 1) := R12A.cell 1; have lc := R12A.lt; have HRBA := hide RBA; have HR12A := hide R12A; clear RBA R12A hownA hgA hbA)
                go_roundw
                case rel => exact ⟨j + 1, by omega, by go_num, HRUN.out.next HA.out HR.out (M' := runM 0 X (l.take j)) (by rw [HXJ.out, HY.out, HSS.out]; exact HRIA.out) (by rw [HXJ.out]; unfold doM; rw [HSS.out]; simp) HBA.out⟩
                case measure => simp [intOf]; omega
              · have hkd : (kd != 1) = true := by simpa using hk1
                go_wp2_with (at_builtin; refine wpList_app elS rfl _ _ rfl rfl (HRI9.out.sn.alloc _) rfl (Rd.new w9 #[.int .u64 q, .bool true] 33 2 1 rfl) (by simp [Value.oneCell']) (by omega) (by rw [World.size_alloc]; exact Nat.le_trans HRI9.out.le (Nat.le_succ _)) ?_; intro va2 wA hownA hbA hgA _; have HRIA := hide (HRI9.out.grownS hownA hgA hbA); have RBA := HRB.out.grown hgA HPN.out; have R12A := R12.out.grown hgA (own_ne (HRI9.out.sn.alloc (.cells #[.int .u64 q, .bool true] 33)) (R12.out.below ((Below.refl _ _).alloc (Nat.le_refl _) _)) (by decide)); have HBA := hide ((HB9.out.alloc HB9.out.size _).trans (hbA.mono hWbase)); have e0 := row20 RBA; have e1 := row21 RBA; have lb := RBA.lt; have c1 : wA.cell? ⟨b0, 1, none⟩ = some (.int .i64 kd) := R12A.cell 1; have lc := R12A.lt; have HRBA := hide RBA; have HR12A := hide R12A; clear RBA R12A hownA hgA hbA)
                have c2 : wA.cell? ⟨b0, 2, none⟩ = some (.int .i64 k) := HR12A.out.cell 2
                have x0 := row_word HRIA.out.row (show k < Y.length by rw [HLY.out]; exact hkn')
                have lg := HRIA.out.row.lt
                generalize hcy : ceAt Y k = y at *
                have HCY := hide hcy
                clear hcy
                have HKY := hide (show k < Y.length by rw [HLY.out]; exact hkn')
                have HRI7 := hide (HRIA.out.below (Below.refl _ _).drew)
                have hml : (runM 0 X (l.take j)).length ≤ 1000 := by have h1 := runM_length 0 X (l.take j); have h2 := List.length_take_le j l; have h3 := HLM.out; omega
                have hS3 : wA.drew.cell? ⟨b0, 2, none⟩ = some (.int .i64 k) ∧ wA.drew.cell? ⟨p, 0, none⟩ = some (.int .u64 q) ∧ wA.drew.cell? ⟨g, k, none⟩ = some (.int .u64 y) := ⟨c2, e0, x0⟩
                have hS4 : ∀ o, (wA.drew.alloc o).cell? ⟨b0, 2, none⟩ = some (.int .i64 k) ∧ (wA.drew.alloc o).cell? ⟨p, 0, none⟩ = some (.int .u64 q) ∧ (wA.drew.alloc o).cell? ⟨g, k, none⟩ = some (.int .u64 y) := fun o => ⟨kept ((Below.refl _ _).alloc (Nat.le_refl _) o) hS3.1, kept ((Below.refl _ _).alloc (Nat.le_refl _) o) hS3.2.1, kept ((Below.refl _ _).alloc (Nat.le_refl _) o) hS3.2.2⟩
                clear c1 c2 e0 e1 x0
                go_wp2_with fail
                go_region_held3 (fun wX => wX.cell? ⟨b0, 2, none⟩ = some (.int .i64 k) ∧ wX.cell? ⟨p, 0, none⟩ = some (.int .u64 q) ∧ wX.cell? ⟨g, k, none⟩ = some (.int .u64 y))
                  (first | exact hS3 | exact hS4 _ | exact hS5 | go_keep)
                  (first | (rw [if_pos (by rfl)]; refine wp_app elM _ _ rfl rfl (HRI7.out.mks.alloc _) rfl (Rd.new wA.drew #[.int .i64 j, .int .i64 k, .int .u64 q, .int .u64 y] 57 4 1 rfl) (by simp [Value.oneCell']) (by omega) (by show g + 1 ≤ (wA.alloc _).heap.size; rw [World.size_alloc]; exact Nat.le_trans HRI7.out.le (Nat.le_succ _)) ?_; intro vm2 wB hownB hbB hgB _; have hS5 : wB.cell? ⟨b0, 2, none⟩ = some (.int .i64 k) ∧ wB.cell? ⟨p, 0, none⟩ = some (.int .u64 q) ∧ wB.cell? ⟨g, k, none⟩ = some (.int .u64 y) := ⟨(HRI7.out.rowsM hgB HR12A.out.drew (by decide)).cell 2, row20 (HRI7.out.rowsM hgB HRBA.out.drew (by decide)), (row_word (HRI7.out.rowsM hgB HRI7.out.row (by decide)) HKY.out).trans (by rw [HCY.out])⟩; have HRIB := hide (HRI7.out.grownM hownB hgB hbB); have HBB := hide ((HBA.out.drew.alloc HBA.out.size _).trans (hbB.mono hWbase)); clear hownB hgB hbB))
                go_wp2_with fail
                have hq : ceAt Xj k = q := congrArg Prod.fst HSS.out
                go_roundw
                case rel => exact ⟨j + 1, by omega, by go_num, HRUN.out.next HA.out HR.out (M' := runM 0 X (l.take j) ++ [((j : Int), (k : Int), q, y)]) (by rw [HXJ.out, HY.out, HSS.out, List.length_append]; exact HRIB.out) (by rw [HXJ.out]; unfold doM; rw [HSS.out, HY.out]; dsimp only; rw [hq, HCY.out, if_pos (by simpa using hk1)]) HBB.out⟩
                case measure => simp [intOf]; omega
          · have RB := (RS.set 0 (.int .u64 q)).set 1 (.bool d)
            simp only [List.setIfInBounds_toArray, List.set_cons_zero, List.set_cons_succ, World.size_drew] at RB
            have hrow9 := (hrowq.setNe (show g ≠ w5.heap.size by omega) (o := 0) (v := .int .u64 q)).setNe (show g ≠ w5.heap.size by omega) (o := 1) (v := .bool d)
            have hP9 : Past g w5 ((wq.setCell ⟨w5.heap.size, 0, none⟩ (.int .u64 q)).setCell ⟨w5.heap.size, 1, none⟩ (.bool d)) := ((((Past.alloc (w := w5.drew) hgl _).trans hpq).ofDrew).setHi (Nat.le_of_lt hgl) (Nat.le_refl _) 0 (.int .u64 q)).setHi (Nat.le_of_lt hgl) (Nat.le_refl _) 1 (.bool d)
            clear RS rs0 rs1 rsl rsf0 rsf1
            generalize (wq.setCell ⟨w5.heap.size, 0, none⟩ (.int .u64 q)).setCell ⟨w5.heap.size, 1, none⟩ (.bool d) = w9 at *
            obtain ⟨p, hp⟩ : ∃ p, w5.heap.size = p := ⟨_, rfl⟩
            rw [hp] at RB
            try rw [hp]
            have hpw : w5.heap.size ≤ p := by omega
            clear hp
            have HRI9 := hide (HRI.out.past hP9 hrow9)
            have R12 := hide (R3.out.past hP9 (show b0 ≠ g by omega))
            have HB9 := hide (HB.out.trans (hP9.below.mono (show W.heap.size ≤ g by omega)))
            clear hrow9 hrowq hpq hP9 hbd
            have e0 := row20 RB
            have e1 := row21 RB
            have lb := RB.lt
            have hpn := ne_past HRI.out.sn hpw
            have HRB := hide RB
            have HPN := hide hpn
            clear RB hpn
            cases d
            · go_wp2_with (at_builtin; refine wpList_app elS rfl _ _ rfl rfl (HRI9.out.sn.alloc _) rfl (Rd.new w9 #[.int .u64 q, .bool false] 33 2 1 rfl) (by simp [Value.oneCell']) (by omega) (by rw [World.size_alloc]; exact Nat.le_trans HRI9.out.le (Nat.le_succ _)) ?_; intro va2 wA hownA hbA hgA _; have HRIA := hide (HRI9.out.grownS hownA hgA hbA); have RBA := HRB.out.grown hgA HPN.out; have R12A := R12.out.grown hgA (own_ne (HRI9.out.sn.alloc (.cells #[.int .u64 q, .bool false] 33)) (R12.out.below ((Below.refl _ _).alloc (Nat.le_refl _) _)) (by decide)); have HBA := hide ((HB9.out.alloc HB9.out.size _).trans (hbA.mono hWbase)); have e0 := row20 RBA; have e1 := row21 RBA; have lb := RBA.lt; have c1 : wA.cell? ⟨b0, 1, none⟩ = some (.int .i64 kd) := R12A.cell 1; have lc := R12A.lt; have HRBA := hide RBA; have HR12A := hide R12A; clear RBA R12A hownA hgA hbA)
              go_roundw
              case rel => exact ⟨j + 1, by omega, by go_num, HRUN.out.next HA.out HR.out (M' := runM 0 X (l.take j)) (by rw [HXJ.out, HY.out, HSS.out]; exact HRIA.out) (by rw [HXJ.out]; unfold doM; rw [HSS.out]; simp) HBA.out⟩
              case measure => simp [intOf]; omega
            · by_cases hk1 : kd = 1
              · subst hk1
                go_wp2_with (at_builtin; refine wpList_app elS rfl _ _ rfl rfl (HRI9.out.sn.alloc _) rfl (Rd.new w9 #[.int .u64 q, .bool true] 33 2 1 rfl) (by simp [Value.oneCell']) (by omega) (by rw [World.size_alloc]; exact Nat.le_trans HRI9.out.le (Nat.le_succ _)) ?_; intro va2 wA hownA hbA hgA _; have HRIA := hide (HRI9.out.grownS hownA hgA hbA); have RBA := HRB.out.grown hgA HPN.out; have R12A := R12.out.grown hgA (own_ne (HRI9.out.sn.alloc (.cells #[.int .u64 q, .bool true] 33)) (R12.out.below ((Below.refl _ _).alloc (Nat.le_refl _) _)) (by decide)); have HBA := hide ((HB9.out.alloc HB9.out.size _).trans (hbA.mono hWbase)); have e0 := row20 RBA; have e1 := row21 RBA; have lb := RBA.lt; have c1 : wA.cell? ⟨b0, 1, none⟩ = some (.int .i64 1) := R12A.cell 1; have lc := R12A.lt; have HRBA := hide RBA; have HR12A := hide R12A; clear RBA R12A hownA hgA hbA)
                go_roundw
                case rel => exact ⟨j + 1, by omega, by go_num, HRUN.out.next HA.out HR.out (M' := runM 0 X (l.take j)) (by rw [HXJ.out, HY.out, HSS.out]; exact HRIA.out) (by rw [HXJ.out]; unfold doM; rw [HSS.out]; simp) HBA.out⟩
                case measure => simp [intOf]; omega
              · have hkd : (kd != 1) = true := by simpa using hk1
                go_wp2_with (at_builtin; refine wpList_app elS rfl _ _ rfl rfl (HRI9.out.sn.alloc _) rfl (Rd.new w9 #[.int .u64 q, .bool true] 33 2 1 rfl) (by simp [Value.oneCell']) (by omega) (by rw [World.size_alloc]; exact Nat.le_trans HRI9.out.le (Nat.le_succ _)) ?_; intro va2 wA hownA hbA hgA _; have HRIA := hide (HRI9.out.grownS hownA hgA hbA); have RBA := HRB.out.grown hgA HPN.out; have R12A := R12.out.grown hgA (own_ne (HRI9.out.sn.alloc (.cells #[.int .u64 q, .bool true] 33)) (R12.out.below ((Below.refl _ _).alloc (Nat.le_refl _) _)) (by decide)); have HBA := hide ((HB9.out.alloc HB9.out.size _).trans (hbA.mono hWbase)); have e0 := row20 RBA; have e1 := row21 RBA; have lb := RBA.lt; have c1 : wA.cell? ⟨b0, 1, none⟩ = some (.int .i64 kd) := R12A.cell 1; have lc := R12A.lt; have HRBA := hide RBA; have HR12A := hide R12A; clear RBA R12A hownA hgA hbA)
                have c2 : wA.cell? ⟨b0, 2, none⟩ = some (.int .i64 k) := HR12A.out.cell 2
                have x0 := row_word HRIA.out.row (show k < Y.length by rw [HLY.out]; exact hkn')
                have lg := HRIA.out.row.lt
                generalize hcy : ceAt Y k = y at *
                have HCY := hide hcy
                clear hcy
                have HKY := hide (show k < Y.length by rw [HLY.out]; exact hkn')
                have HRI7 := hide (HRIA.out.below (Below.refl _ _).drew)
                have hml : (runM 0 X (l.take j)).length ≤ 1000 := by have h1 := runM_length 0 X (l.take j); have h2 := List.length_take_le j l; have h3 := HLM.out; omega
                have hS3 : wA.drew.cell? ⟨b0, 2, none⟩ = some (.int .i64 k) ∧ wA.drew.cell? ⟨p, 0, none⟩ = some (.int .u64 q) ∧ wA.drew.cell? ⟨g, k, none⟩ = some (.int .u64 y) := ⟨c2, e0, x0⟩
                have hS4 : ∀ o, (wA.drew.alloc o).cell? ⟨b0, 2, none⟩ = some (.int .i64 k) ∧ (wA.drew.alloc o).cell? ⟨p, 0, none⟩ = some (.int .u64 q) ∧ (wA.drew.alloc o).cell? ⟨g, k, none⟩ = some (.int .u64 y) := fun o => ⟨kept ((Below.refl _ _).alloc (Nat.le_refl _) o) hS3.1, kept ((Below.refl _ _).alloc (Nat.le_refl _) o) hS3.2.1, kept ((Below.refl _ _).alloc (Nat.le_refl _) o) hS3.2.2⟩
                clear c1 c2 e0 e1 x0
                go_wp2_with fail
                go_region_held3 (fun wX => wX.cell? ⟨b0, 2, none⟩ = some (.int .i64 k) ∧ wX.cell? ⟨p, 0, none⟩ = some (.int .u64 q) ∧ wX.cell? ⟨g, k, none⟩ = some (.int .u64 y))
                  (first | exact hS3 | exact hS4 _ | exact hS5 | go_keep)
                  (first | (rw [if_pos (by rfl)]; refine wp_app elM _ _ rfl rfl (HRI7.out.mks.alloc _) rfl (Rd.new wA.drew #[.int .i64 j, .int .i64 k, .int .u64 q, .int .u64 y] 57 4 1 rfl) (by simp [Value.oneCell']) (by omega) (by show g + 1 ≤ (wA.alloc _).heap.size; rw [World.size_alloc]; exact Nat.le_trans HRI7.out.le (Nat.le_succ _)) ?_; intro vm2 wB hownB hbB hgB _; have hS5 : wB.cell? ⟨b0, 2, none⟩ = some (.int .i64 k) ∧ wB.cell? ⟨p, 0, none⟩ = some (.int .u64 q) ∧ wB.cell? ⟨g, k, none⟩ = some (.int .u64 y) := ⟨(HRI7.out.rowsM hgB HR12A.out.drew (by decide)).cell 2, row20 (HRI7.out.rowsM hgB HRBA.out.drew (by decide)), (row_word (HRI7.out.rowsM hgB HRI7.out.row (by decide)) HKY.out).trans (by rw [HCY.out])⟩; have HRIB := hide (HRI7.out.grownM hownB hgB hbB); have HBB := hide ((HBA.out.drew.alloc HBA.out.size _).trans (hbB.mono hWbase)); clear hownB hgB hbB))
                go_wp2_with fail
                have hq : ceAt Xj k = q := congrArg Prod.fst HSS.out
                go_roundw
                case rel => exact ⟨j + 1, by omega, by go_num, HRUN.out.next HA.out HR.out (M' := runM 0 X (l.take j) ++ [((j : Int), (k : Int), q, y)]) (by rw [HXJ.out, HY.out, HSS.out, List.length_append]; exact HRIB.out) (by rw [HXJ.out]; unfold doM; rw [HSS.out, HY.out]; dsimp only; rw [hq, HCY.out, if_pos (by simpa using hk1)]) HBB.out⟩
                case measure => simp [intOf]; omega
        · have hn0 : (r != 0) = true := by simpa using hr0
          have HEE := hide (show e = r by rw [← HE.out]; rw [runE_bad HRUN.out.2.2 HA.out (by rw [HR.out]; exact hr0), HR.out])
          go_wp2_with fail
          (try rw [HB0.out])
          generalize ((wr.alloc (.cells #[.int .i64 wh, .int .i64 kd, .int .i64 at_, .int .u64 ol, .int .u64 nw] 37)).alloc (.cells #[.int .i64 wh, .int .i64 kd, .int .i64 at_, .int .u64 ol, .int .u64 nw] 77)) = w3 at *
          with_reducible refine (HC.out _).mono ?_
          rintro e w5 ⟨rfl, hb⟩
          have HBF := hide (HB.out.trans ((HW2.out.trans (hb.mono HW2.out.size)).mono HB.out.size))
          clear hb
          go_wp2_with fail
          (try rw [Exit.noGoto_ret])
          exact bodyPost_ret (v := .tuple #[.slice none 0 0, .slice none 0 0, .slice none 0 0, .int .i64 r]) (by simp [results, Try.results18, go_sem]) rfl ⟨HBF.out, .inl ⟨by rw [HEE.out]; exact hr0, by rw [HEE.out]⟩⟩
      · go_wp2_with fail
        (try rw [Exit.noGoto_ret])
        have hjm : l.take j = l := List.take_of_length_le (by rw [HLM.out]; omega)
        have h := HRUN.out
        unfold RunAt at h
        rw [hjm] at h
        have hjl : j = l.length := by rw [HLM.out]; omega
        rw [hjl] at h
        have he0 : e = 0 := by rw [← HE.out]; exact runE_ok (by omega) hn h.2.2
        refine bodyPost_ret (v := .tuple #[.slice (some ⟨g, 0, none⟩) n n, u9, u10, .int .i64 0]) (by simp [results, Try.results18, go_sem]) rfl ⟨h.2.1, .inr ⟨he0, g, u9, u10, rfl, hg, h.1⟩⟩
end Go.Proofs.Ytadgihmokmfejaa

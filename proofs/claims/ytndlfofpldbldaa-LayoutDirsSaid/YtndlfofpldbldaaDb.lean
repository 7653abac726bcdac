/-
  layout.Dir's closure.
-/
import Derived.Test.YtndlfofpldbldaaDa
import Derived.Test.YtndlfofpldbldaaU
set_option linter.unusedSimpArgs false
set_option linter.unusedVariables false
namespace Go.Proofs.Ytndlfofpldbldaa
open Go Go.RowKit
attribute [local go_sem] Oper.semAt_some

/-- All blocks of cells but k lie as they lay, and all below k. -/
structure PastC (k : Nat) (w w' : World) : Prop where
  below : Below k w w'
  size : w.heap.size ≤ w'.heap.size
  cells : ∀ (j : Nat) (o : Obj), j ≠ k → w.heap[j]? = some o → o.isCells = true → w'.heap[j]? = some o

theorem PastC.refl (k : Nat) (w : World) : PastC k w w := ⟨Below.refl _ _, Nat.le_refl _, fun _ _ _ h _ => h⟩
theorem PastC.trans {k : Nat} {a b c : World} (h : PastC k a b) (g : PastC k b c) : PastC k a c :=
  ⟨h.below.trans g.below, Nat.le_trans h.size g.size, fun j o hj ho hc => g.cells j o hj (h.cells j o hj ho hc) hc⟩
theorem PastC.of_past {k : Nat} {a b : World} (h : Past k a b) : PastC k a b :=
  ⟨h.below, h.size, fun j o hj ho _ => (h.block j hj (Array.getElem?_eq_some_iff.1 ho).1).trans ho⟩
theorem PastC.of_below {k : Nat} {a b : World} (hk : k < a.heap.size) (h : Below a.heap.size a b) : PastC k a b := PastC.of_past (Past.of_below hk h)
theorem PastC.of_lie {k : Nat} {a b : World} (hb : Below k a b) (h : CellsLie a b) : PastC k a b := ⟨hb, h.size, fun j o _ ho hc => h.same j o ho hc⟩
theorem PastC.row {k g : Nat} {a b : World} {t : TypeId} {cs : Array Value} (h : PastC k a b) (hr : RowAt a g t cs) (hn : g ≠ k) : RowAt b g t cs := h.cells g _ hn hr rfl
theorem RowAt.lie {g : Nat} {a b : World} {t : TypeId} {cs : Array Value} (hr : RowAt a g t cs) (h : CellsLie a b) : RowAt b g t cs := h.same g _ hr rfl
theorem own_lie {w w' : World} {base : Nat} {e : TypeId} {size n : Nat} {v : Value} {xs : List Value} (h : w.ownsRow base e size v n xs) (hl : CellsLie w w') : w'.ownsRow base e size v n xs := by
  obtain ⟨h1, h2⟩ := h
  refine ⟨h1, ?_⟩
  rcases h2 with h | ⟨g, cap, cur, hv, hg, hh, r⟩
  · exact .inl h
  · exact .inr ⟨g, cap, cur, hv, hg, hl.same g _ hh rfl, r⟩

theorem pastC_cell {k g o : Nat} {a b : World} {v : Value} (h : PastC k a b) (hn : g ≠ k) (hc : a.cell? ⟨g, o, none⟩ = some v) : b.cell? ⟨g, o, none⟩ = some v := by
  obtain ⟨ob, ho, hcl⟩ : ∃ ob, a.heap[g]? = some ob ∧ ob.isCells = true := by
    unfold World.cell? at hc
    cases hg : a.heap[g]? with
    | none => simp [hg] at hc
    | some ob => refine ⟨ob, rfl, ?_⟩; cases ob <;> simp_all [Obj.isCells]
  have := h.cells g ob hn ho hcl
  rw [← hc]; unfold World.cell?; simp only [this, ho]
theorem own_cells {w : World} {base : Nat} {e : TypeId} {size n : Nat} {v : Value} {xs : List Value} (h : w.ownsRow base e size v n xs) {g : Nat} (hg : v.ownBlock = some g) : ∃ o, w.heap[g]? = some o ∧ o.isCells = true := by
  rcases h.2 with ⟨rfl, _⟩ | ⟨g', cap, cur, rfl, _, hh, _⟩
  · cases hg
  · have : g' = g := by injection hg
    subst this
    exact ⟨_, hh, rfl⟩

/-- The closure: is a word not nought? -/
theorem nzD_any (x : Int) (W : World) (r : Bool) (hr : decide (x ≠ 0) = r) : Calls Try.prog 54 #[.int .u64 x] W fun e w' => e = .returned (.bool r) ∧ W = w' := by
  go_enter Try.func54, Try.ntmps54
  go_wp2
  go_ret
  exact ⟨ret_bool (by rw [← hr]; cases h : (x != 0) <;> simp_all), rfl⟩

theorem IndexNzD (B : Nat) (A : Option Addr) (c : Nat) (xs : List Int) (W : World) (h1 : Rd W B 1 A xs.length (Cs encW xs)) (hB1 : B ≤ W.heap.size) (hl1 : xs.length ≤ 4096) :
    Calls Try.prog 58 #[.slice A xs.length c, .func (.func 54) #[] #[]] W fun e W' => ∃ i : Int, e = .returned (.int .i64 i) ∧ decide (0 ≤ i) = xs.any (fun x => decide (x ≠ 0)) ∧ Below W.heap.size W W' := by
  go_enter Try.func58, Try.ntmps58
  go_wp2_with fail
  go_loopw [8] (fun i wr => ∃ k : Nat, k ≤ xs.length ∧ i = .int .i64 k ∧ (xs.take k).any (fun x => decide (x ≠ 0)) = false ∧ Below W.heap.size W wr) (fun i _ => xs.length - (intOf i).toNat)
  case atStart => exact ⟨0, Nat.zero_le _, rfl, rfl, Below.refl _ _⟩
  case round =>
    obtain ⟨k, hk, rfl, hpre, hbw⟩ := hrel
    have HP := hide hpre
    clear hpre
    by_cases hlt : k < xs.length
    · obtain ⟨b1, o1, rfl, hb1, hc1⟩ := (h1.below (hbw.mono hB1)).elem encW_len hlt
      have hd10 := hc1 0 _ (by omega) rfl
      simp only [Nat.mul_one, Nat.add_zero] at hd10
      clear hc1
      generalize hx : xs[k] = x at *
      have HX := hide hx
      clear hx
      obtain ⟨r, hr⟩ : ∃ r, decide (x ≠ 0) = r := ⟨_, rfl⟩
      have HR := hide hr
      cases r
      · go_wp2_with (go_at_call 54; refine (nzD_any x _ _ HR.out).mono ?_; rintro e w1 ⟨rfl, rfl⟩)
        go_roundw
        case rel => exact ⟨k + 1, by omega, by go_num, by rw [List.take_succ_eq_append_getElem hlt, List.any_append, HP.out, HX.out]; simpa using HR.out, hbw⟩
        case measure => simp [intOf]; omega
      · go_wp2_with (go_at_call 54; refine (nzD_any x _ _ HR.out).mono ?_; rintro e w1 ⟨rfl, rfl⟩)
        go_ret
        refine ⟨_, rfl, ?_, hbw⟩
        have h2 : xs.any (fun x => decide (x ≠ 0)) = true := by
          rw [List.any_eq_true]
          exact ⟨xs[k], List.getElem_mem hlt, by rw [HX.out]; exact HR.out⟩
        rw [h2]; simp
    · go_wp2_with fail
      go_ret
      refine ⟨_, rfl, ?_, hbw⟩
      have h := HP.out
      rw [List.take_of_length_le (by omega)] at h
      rw [h]; simp

theorem ContainsNzD (B : Nat) (A : Option Addr) (c : Nat) (xs : List Int) (W : World) (h1 : Rd W B 1 A xs.length (Cs encW xs)) (hB1 : B ≤ W.heap.size) (hl1 : xs.length ≤ 4096) (r : Bool) (hr : xs.any (fun x => decide (x ≠ 0)) = r) :
    Calls Try.prog 47 #[.slice A xs.length c, .func (.func 54) #[] #[]] W fun e W' => e = .returned (.bool r) ∧ Below W.heap.size W W' := by
  have HC := hide (IndexNzD B A c xs W h1 hB1 hl1)
  go_enter Try.func47, Try.ntmps47
  go_wp2_with (go_at_call 58; refine HC.out.mono ?_; rintro e w1 ⟨i, rfl, hi, hb⟩; have HI := hide hi; clear hi)
  go_ret
  exact ⟨ret_bool (by rw [← hr, ← HI.out]), hb⟩


theorem own_other {w w' : World} {base : Nat} {e : TypeId} {size n : Nat} {v : Value} {xs : List Value} (h : w.ownsRow base e size v n xs) (hl : ∀ g, base ≤ g → w'.heap[g]? = w.heap[g]?) : w'.ownsRow base e size v n xs := by
  obtain ⟨h1, h2⟩ := h
  refine ⟨h1, ?_⟩
  rcases h2 with h | ⟨g, cap, cur, hv, hg, hh, r⟩
  · exact .inl h
  · exact .inr ⟨g, cap, cur, hv, hg, (hl g hg).trans hh, r⟩

theorem numberM_ok (x : Int) (m : Nat) (W : World) (h0 : 0 ≤ x) (h1 : x ≤ m) (hm : m ≤ 100) :
    Calls Try.prog 46 #[.int .u64 x, .int .i64 (m : Int)] W fun e w' => e = .returned (.int .i64 x) ∧ W = w' := by
  have e2 : IntKind.u64.wrap (m : Int) = m := IntWalk.u64_in _ (by omega)
  go_enter Try.func46, Try.ntmps46
  go_wp2_with fail
  refine (need_ok _).mono ?_
  rintro e w1 ⟨rfl, rfl⟩
  dsimp only
  have e1 : (x + 9223372036854775808) % 18446744073709551616 - 9223372036854775808 = x := by omega
  go_wp2
  go_ret
  exact ⟨by simp [wrap64, e1], rfl⟩
theorem numberM_no (x : Int) (m : Nat) (W : World) (h1 : (m : Int) < x) (hm : m ≤ 100) :
    Calls Try.prog 46 #[.int .u64 x, .int .i64 (m : Int)] W fun e w' => e = .panicked wrongX ∧ W = w' := by
  have hd : decide (x ≤ (m : Int)) = false := by simp; omega
  have e2 : IntKind.u64.wrap (m : Int) = m := IntWalk.u64_in _ (by omega)
  go_enter Try.func46, Try.ntmps46
  go_wp2_with fail
  refine (need_no _).mono ?_
  rintro e w1 ⟨rfl, rfl⟩
  dsimp only
  go_wp2
  exact ⟨rfl, rfl, rfl⟩

theorem Dir1_len (A : Option Addr) (n c kw ko : Nat) (w : World) (hn : n ≠ 40) (hw : w.cell? ⟨kw, 0, none⟩ = some (.slice A n c)) :
    Calls Try.prog 52 #[.pointer (some ⟨kw, 0, none⟩), .pointer (some ⟨ko, 0, none⟩)] w fun e w' => e = .panicked wrongX ∧ PastC ko w w' := by
  have hb : ((n : Int) == 40) = false := by rw [beq_eq_false_iff_ne]; omega
  go_enter Try.func52, Try.ntmps52
  go_wp2_with (first | (go_at_call 45; refine (need_no _).mono ?_; rintro e w1 ⟨rfl, rfl⟩))
  exact ⟨rfl, rfl, PastC.refl _ _⟩

theorem Dir1_num (b off c kw ko : Nat) (x0 : Int) (w : World) (hw : w.cell? ⟨kw, 0, none⟩ = some (.slice (some ⟨b, off, none⟩) 40 c)) (h0 : w.cell? ⟨b, off, none⟩ = some (.int .u64 x0)) (hx : 5 < x0) :
    Calls Try.prog 52 #[.pointer (some ⟨kw, 0, none⟩), .pointer (some ⟨ko, 0, none⟩)] w fun e w' => e = .panicked wrongX ∧ PastC ko w w' := by
  go_enter Try.func52, Try.ntmps52
  go_wp2_with (first | (go_at_call 45; refine (need_ok _).mono ?_; rintro e w1 ⟨rfl, rfl⟩) | (go_at_call 46; refine (numberM_no x0 5 _ hx (by omega)).mono ?_; rintro e w1 ⟨rfl, rfl⟩))
  exact ⟨rfl, rfl, PastC.refl _ _⟩

theorem entries_any (A : Option Addr) (n c : Nat) (W : World) : Calls Try.prog 53 #[.slice A n c] W fun e W' => e = .returned (.func (.func 59) #[] #[.pointer (some ⟨W.heap.size, 0, none⟩)]) ∧ W' = W.alloc (.cells #[.slice A n c] 24) := by
  go_enter Try.func53, Try.ntmps53
  go_wp2
  go_ret
  exact ⟨rfl, rfl⟩

/-- What holds between two rounds. -/
def EntSt (ko : Nat) (w : World) (q : Int) (pre : List (Int × Int)) (W : World) : Prop :=
  ∃ v, RowAt W ko 49 #[.int .i64 q, v] ∧ W.ownsRow w.heap.size 36 2 v pre.length (Cs encE pre) ∧ (∀ (j : Nat) (o : Obj), j ≠ ko → w.heap[j]? = some o → o.isCells = true → W.heap[j]? = some o)
theorem EntSt.stays (ko : Nat) (w : World) (q : Int) : Stays (EntSt ko w q) := fun _ _ _ ⟨v, h1, h2, h3⟩ hl => ⟨v, h1.lie hl, own_lie h2 hl, fun j o hj ho hc => hl.same j o (h3 j o hj ho hc) hc⟩

/-- What layout.Dir's closure comes to, where the depth is q. -/
def DirEnd (ko : Nat) (w : World) (xs : List Int) (q m : Nat) (e : Ending) (w' : World) : Prop :=
  PastC ko w w' ∧ ((e = .returned (.tuple #[]) ∧ ((xs.drop 1).take m).all okW = true ∧ (xs.drop (1 + m)).any (fun x => decide (x ≠ 0)) = false ∧ ∃ v, RowAt w' ko 49 #[.int .i64 q, v] ∧ w'.ownsRow w.heap.size 36 2 v m (Cs encE (((xs.drop 1).take m).map unp)))
    ∨ (e = .panicked wrongX ∧ (((xs.drop 1).take m).all okW = false ∨ (xs.drop (1 + m)).any (fun x => decide (x ≠ 0)) = true)))
theorem EntSt.past {ko : Nat} {w W : World} {q : Int} {pre : List (Int × Int)} (h : EntSt ko w q pre W) (hb : Below ko w W) (hs : w.heap.size ≤ W.heap.size) : PastC ko w W := by
  obtain ⟨_, _, _, h3⟩ := h
  exact ⟨hb, hs, h3⟩
theorem PastC.put {ko l : Nat} {w W : World} {o : Obj} (o' : Obj) (h : PastC ko w W) (hl : W.heap[l]? = some o) (hc : o.isCells = false) (hk : ko ≤ l) : PastC ko w (W.putObj l o') :=
  h.trans (PastC.of_lie (below_putObj (o := o) o' hk) (CellsLie.putObj o' hl hc))

theorem Dir1_go (b off c kw ko : Nat) (xs : List Int) (q : Nat) (w : World) (hl : xs.length = 40) (hc : 40 ≤ c) (hc2 : c ≤ 9223372036854775807) (hw : w.cell? ⟨kw, 0, none⟩ = some (.slice (some ⟨b, off, none⟩) 40 c)) (hsrc : ∀ j u, (Cs encW xs)[j]? = some u → w.cell? ⟨b, off + j, none⟩ = some u)
    (hu : ∀ x ∈ xs, U64 x) (hq : xs.getD 0 0 = (q : Int)) (hq5 : q ≤ 5) (hb : b < kw) (hbo : b < ko) (hne : kw ≠ ko) (hrow : RowAt w ko 49 #[.int .i64 0, .slice none 0 0]) (hkw : kw < w.heap.size) :
    Calls Try.prog 52 #[.pointer (some ⟨kw, 0, none⟩), .pointer (some ⟨ko, 0, none⟩)] w (DirEnd ko w xs q (2 ^ q)) := by
  have h0 : w.cell? ⟨b, off, none⟩ = some (.int .u64 (q : Int)) := by
    have h := hsrc 0 (.int .u64 (q : Int)) (by rw [Cs_mapW, ← hq, getD_at xs 0 (by omega)]; simp)
    simpa using h
  obtain ⟨m, hm⟩ : ∃ m : Nat, m = 2 ^ q := ⟨_, rfl⟩
  have hm1 : 1 ≤ m := by rw [hm]; exact Nat.one_le_two_pow
  have hm2 : m ≤ 32 := by rw [hm]; exact Nat.pow_le_pow_right (by omega) hq5
  have hmz : (2 : Int) ^ q = (m : Int) := by rw [hm]; simp
  have hwr : IntKind.i64.wrap (2 ^ q) = (m : Int) := by rw [hmz]; exact IntWalk.i64_in _ (by omega)
  have hmc : (1 : Int) + m ≤ c := by omega
  have hm40 : (1 : Int) + m ≤ 40 := by omega
  have hmt : ((1 : Int) + m).toNat = 1 + m := by omega
  have hms : 1 + m - 1 = m := by omega
  have hcI : (c : Int) ≤ 9223372036854775807 := by omega
  have HM := hide hm
  have HS := hide hsrc
  have HU := hide hu
  have HQ := hide hq
  clear hm
  have HROW := hide hrow
  have hr0 := hrow.cell 0
  have hf0 := hrow.frozen 0
  simp only [List.getElem?_toArray, List.getElem?_cons_zero] at hr0
  have hkne : ¬ kw = ko := hne
  have hnek : ¬ ko = kw := fun h => hne h.symm
  clear hsrc hu hq hrow
  refine calls_of_wp_marks Try.func52 rfl ?_
  simp only [Try.ntmps52, List.size_toArray, List.length_cons, List.length_nil, Nat.reduceAdd, Nat.reduceSub, Array.replicate_succ, Array.replicate_zero, List.push_toArray, List.append_toArray, List.nil_append, List.cons_append]
  go_wp2_with (first | (go_at_call 45; refine (need_ok _).mono ?_; rintro e w1 ⟨rfl, rfl⟩) | (go_at_call 46; refine (numberM_ok (q : Int) 5 _ (by omega) (by omega) (by omega)).mono ?_; rintro e w1 ⟨rfl, rfl⟩))
  refine (entries_any _ _ _ _).mono ?_
  rintro e w2 ⟨rfl, rfl⟩
  go_wp2_with fail
  have hP0 : Past ko w ((w.setCell ⟨ko, 0, none⟩ (.int .i64 q)).alloc (.cells #[.slice (some ⟨b, off + 1, none⟩) m m] 24)) := (Past.set 0 _).trans (Past.alloc (by simpa using HROW.out.lt) _)
  have hrow0 : RowAt ((w.setCell ⟨ko, 0, none⟩ (.int .i64 q)).alloc (.cells #[.slice (some ⟨b, off + 1, none⟩) m m] 24)) ko 49 #[.int .i64 q, .slice none 0 0] := (HROW.out.set 0 (.int .i64 q)).below ((Below.refl _ _).alloc (Nat.le_refl _) _)
  have hkb : ((w.setCell ⟨ko, 0, none⟩ (.int .i64 q)).alloc (.cells #[.slice (some ⟨b, off + 1, none⟩) m m] 24)).cell? ⟨w.heap.size, 0, none⟩ = some (.slice (some ⟨b, off + 1, none⟩) m m) := by simp [go_sem]
  have hs0 : ((w.setCell ⟨ko, 0, none⟩ (.int .i64 q)).alloc (.cells #[.slice (some ⟨b, off + 1, none⟩) m m] 24)).heap.size = w.heap.size + 1 := by simp
  generalize ((w.setCell ⟨ko, 0, none⟩ (.int .i64 q)).alloc (.cells #[.slice (some ⟨b, off + 1, none⟩) m m] 24)) = w2 at *
  have hkol := HROW.out.lt
  obtain ⟨ws, hws⟩ : ∃ ws, (xs.drop 1).take m = ws := ⟨_, rfl⟩
  have hwl : ws.length = m := by rw [← hws]; simp; omega
  have hwu : ∀ x ∈ ws, U64 x := fun x hx => HU.out x (by rw [← hws] at hx; exact List.mem_of_mem_drop (List.mem_of_mem_take hx))
  have hwc : ∀ j u, (Cs encW ws)[j]? = some u → w2.cell? ⟨b, off + 1 + j, none⟩ = some u := fun j u hj => by
    rw [hP0.cell _ (by simp; omega) (by simp; omega)]
    have h2 : (Cs encW xs)[1 + j]? = some u := by
      rw [← hws, Cs_mapW, List.map_take, List.map_drop, ← Cs_mapW, List.getElem?_take] at hj
      split at hj
      · rwa [List.getElem?_drop] at hj
      · cases hj
    have h3 := HS.out _ _ h2
    rwa [← Nat.add_assoc] at h3
  have hseq := entries_seq w.heap.size (b + 1) b (off + 1) m ws w2 (by rw [hwl]; exact hkb) (by omega) (by omega) (by omega) hwu (by omega) hwc
  refine wp_range (gf := 59) (lb := #[.pointer (some ⟨w.heap.size, 0, none⟩)]) rfl (enters_of Try.func59 (by kernel_rfl) rfl) hseq ko (by omega) (fun j hj => by omega) (Below.refl _ _) (fun _ => rfl)
    (EntSt ko w q) (fun _ _ _ => False) (EntSt.stays ko w q) (fun _ _ _ _ h _ => h) ⟨_, hrow0, World.ownsRow_nil _ _ _ _, fun j o hj ho _ => (hP0.block j hj (Array.getElem?_eq_some_iff.1 ho).1).trans ho⟩
    (fun T x a' W => BoxAct ko #[22] (encEv x) 3 36 #[.int .i64 x.1, .int .u64 x.2] T a' W) (fun T a' => BoxAct.stays ko #[22] encEv 3 36 (fun x => #[.int .i64 x.1, .int .u64 x.2]) T a') ?assign ?body ?done ?stop ?panic
  case assign =>
    intro l pre x W R hI hb hs hlen hR
    dsimp only [encEv] at hR ⊢
    gi_wp2
    refine hR _ _ (KeepsOthers.alloc _ _) ((Below.refl _ _).alloc (by omega) _) (fun j hj => Below.heap_alloc _ _ _ (by omega)) (EntSt.stays _ _ _ _ _ _ hI (CellsLie.of_below ((Below.refl _ _).alloc (Nat.le_refl _) _))) ⟨W.heap.size, RowAt.new W 36 _, by omega, by simp [encEv]⟩
  case body =>
    rintro l pre x a' W ⟨v, hrow, hown, hcells⟩ ⟨Bx, hbx, hkx, rfl⟩ hb hs hlen
    dsimp only [encEv]
    have hbx' : RowAt W Bx 36 #[.int .i64 x.1, .int .u64 x.2] := hbx
    have e0 := hbx'.cell 0
    have e1 := hbx'.cell 1
    have d1 := hrow.cell 1
    simp only [List.getElem?_toArray, List.getElem?_cons_succ, List.getElem?_cons_zero] at e0 e1 d1
    have HR := hide hrow
    have HC := hide hcells
    have hWs : ko < W.heap.size := hrow.lt
    clear hrow hcells hbx
    gi_wp2_with (gi_at_builtin; refine wpListIn_app elE rfl _ _ rfl rfl (hown.alloc _) rfl (Rd.new W #[.int .i64 x.1, .int .u64 x.2] 36 2 1 rfl) (by simp [Value.oneCell']) (by omega) (by rw [World.size_alloc]; omega) ?_; intro v2 w3 hown3 hb3 hg3 _; obtain ⟨g2, cap2, rfl, hge2, hlt2⟩ := hown3.form (by omega); have hr3 : RowAt w3 ko 49 #[.int .i64 q, v] := (hb3.block ko hkol).trans (HR.out.below ((Below.refl _ _).alloc (Nat.le_refl _) _)); have HR3 := hide hr3; have d3 := hr3.cell 1; have f3 := hr3.frozen 1; simp only [List.getElem?_toArray, List.getElem?_cons_succ, List.getElem?_cons_zero] at d3; clear hr3)
    have hka : KeepsOthers W w3 := (KeepsOthers.alloc W _).trans (KeepsOthers.of_grownBy hg3 (fun j o hj ho => by
      obtain ⟨o', ho', hc'⟩ := own_cells (hown.alloc (.cells #[.int .i64 x.1, .int .u64 x.2] 36)) hj
      rw [ho'] at ho
      injection ho with ho
      rw [← ho]; exact hc'))
    refine ⟨hka.trans (KeepsOthers.setCell _ _ _), ((Below.refl ko W).alloc (by omega) _).trans ((hb3.mono (show ko ≤ w.heap.size by omega)).setCell (Nat.le_refl _) _), fun j hj => ?_, ⟨_, HR3.out.set 1 _, ?_, fun j o hj ho hc => ?_⟩⟩
    · rw [heap_setCell_ne _ _ _ _ (by simp; omega), hb3.block j (by omega), Below.heap_alloc _ _ _ (by omega)]
    · have h := own_other (w' := w3.setCell ⟨ko, 1, none⟩ (.slice (some ⟨g2, 0, none⟩) (pre.length + 1) cap2)) hown3 (fun g hg => heap_setCell_ne _ _ _ _ (by simp; omega))
      simp only [List.length_append, List.length_cons, List.length_nil, Cs_append, Cs_one]
      exact h
    · have hjl := (Array.getElem?_eq_some_iff.1 ho).1
      rw [heap_setCell_ne _ _ _ _ (by simpa using hj), hb3.block j hjl, Below.heap_alloc _ _ _ (by omega)]
      exact HC.out j o hj ho hc
  case done =>
    rintro ys W ⟨rfl, hall⟩ hI hb hs hD
    have hpc := hI.past (hP0.below.trans hb) (by omega)
    obtain ⟨v, hrow, hown, hcells⟩ := hI
    have hkwW : W.cell? ⟨kw, 0, none⟩ = some (.slice (some ⟨b, off, none⟩) 40 c) := pastC_cell hpc hne hw
    have hrd : Rd W (b + 1) 1 (some ⟨b, off + (1 + m), none⟩) (40 - (1 + m)) (Cs encW (xs.drop (1 + m))) := by
      refine ⟨by rw [Cs_length encW_len]; simp; omega, fun _ => ⟨b, off + (1 + m), rfl, by omega, fun j u hj => ?_⟩⟩
      have h2 : (Cs encW xs)[1 + m + j]? = some u := by
        rw [Cs_dropW, List.getElem?_drop] at hj; exact hj
      have h3 := HS.out _ _ h2
      rw [← Nat.add_assoc] at h3
      exact pastC_cell hpc (by omega) h3
    have HR := hide hrow
    have HO := hide hown
    have HD := hide hD
    have HP := hide hpc
    have HRD := hide hrd
    have HALL := hide hall
    clear hrow hown hcells hD hpc hrd hall
    unfold marked
    have hdl : (xs.drop (1 + m)).length = 40 - (1 + m) := by simp; omega
    obtain ⟨r, hr⟩ : ∃ r, (xs.drop (1 + m)).any (fun x => decide (x ≠ 0)) = r := ⟨_, rfl⟩
    have HCN : Hid (Calls Try.prog 47 #[.slice (some ⟨b, off + (1 + m), none⟩) (40 - (1 + m)) (c - (1 + m)), .func (.func 54) #[] #[]] W fun e W' => e = .returned (.bool r) ∧ Below W.heap.size W W') := hide (by
      have h := ContainsNzD (b + 1) (some ⟨b, off + (1 + m), none⟩) (c - (1 + m)) (xs.drop (1 + m)) W (by rw [hdl]; exact HRD.out) (by omega) (by omega) r hr
      rw [hdl] at h
      exact h)
    have hRR := hide hr
    clear hr hdl
    cases r
    · go_wp2_with fail
      refine HCN.out.mono ?_
      rintro e w5 ⟨rfl, hb5⟩
      go_wp2_with (go_at_call 45; refine (need_ok _).mono ?_; rintro e w6 ⟨rfl, rfl⟩)
      have hD5 := (hb5.block _ hs).trans HD.out
      rw [hs0] at hD5
      refine ⟨by simp, .inl ⟨_, _, rfl, run_takeDeferred hD5, ?_⟩⟩
      refine ⟨_, results_none rfl _ _ _, ⟨(HP.out.trans (PastC.of_below (by omega) hb5)).put _ hD5 rfl (by omega), .inl ⟨rfl, ?_, ?_, v, ?_, ?_⟩⟩⟩
      · rw [← HM.out, hws]; exact HALL.out
      · rw [← HM.out]; exact hRR.out
      · exact (HR.out.below hb5).lie (CellsLie.putObj _ hD5 rfl)
      · rw [← HM.out, hws]
        have h := own_lie (own_keepB HO.out hb5) (CellsLie.putObj (.deferred none) hD5 rfl)
        rw [List.length_map, hwl] at h
        exact h
    · go_wp2_with fail
      refine HCN.out.mono ?_
      rintro e w5 ⟨rfl, hb5⟩
      go_wp2_with (go_at_call 45; refine (need_no _).mono ?_; rintro e w6 ⟨rfl, rfl⟩)
      have hD5 := (hb5.block _ hs).trans HD.out
      rw [hs0] at hD5
      refine ⟨by simp, .inl ⟨_, _, rfl, run_takeDeferred hD5, ?_⟩⟩
      refine ⟨(HP.out.trans (PastC.of_below (by omega) hb5)).put _ hD5 rfl (by omega), .inr ⟨rfl, .inr ?_⟩⟩
      rw [← HM.out]; exact hRR.out
  case stop =>
    rintro c pre W _ h
    exact h.elim
  case panic =>
    rintro pre W ⟨k, hk, rfl, hbad⟩ hI hb hs hD
    have hpc := hI.past (hP0.below.trans hb) (by omega)
    unfold marked
    go_wp2_with fail
    refine ⟨by simp, .inl ⟨_, _, rfl, run_takeDeferred hD, ?_⟩⟩
    refine ⟨hpc.put _ hD rfl (by omega), .inr ⟨rfl, .inl ?_⟩⟩
    rw [← HM.out, hws]
    rw [Bool.eq_false_iff]
    intro hall
    have := List.all_eq_true.1 hall (ws.getD k 0) (by rw [List.getD_eq_getElem?_getD, List.getElem?_eq_getElem hk]; exact List.getElem_mem hk)
    rw [hbad] at this
    cases this
end Go.Proofs.Ytndlfofpldbldaa

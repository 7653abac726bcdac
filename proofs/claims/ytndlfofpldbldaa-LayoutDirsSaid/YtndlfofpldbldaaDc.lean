/-
  layout.Dir.
-/
import Derived.Test.YtndlfofpldbldaaDb
import Derived.Test.YtndlfofpldbldaaQ
set_option linter.unusedSimpArgs false
set_option linter.unusedVariables false
namespace Go.Proofs.Ytndlfofpldbldaa
open Go Go.RowKit

def depQ (xs : List Int) : Nat := (xs.getD 0 0).toNat
def entsOf (xs : List Int) : List Int := (xs.drop 1).take (2 ^ depQ xs)
/-- Are these a directory's words? -/
def okD (xs : List Int) : Bool := decide (xs.length = 40 ∧ xs.getD 0 0 ≤ 5) && (entsOf xs).all okW && !((xs.drop (1 + 2 ^ depQ xs)).any fun x => decide (x ≠ 0))

theorem enters52 : ∀ args w, (callFunc 52 args).run Try.prog w = .ok (.enter 52 args) w := enters_of Try.func52 (by kernel_rfl) rfl

/-- What lies behind the closure. -/
def DirOut (ko n₀ : Nat) (w : World) (xs : List Int) (e : Ending) (w' : World) : Prop :=
  PastC ko w w' ∧ ((e = .returned (.tuple #[]) ∧ okD xs = true ∧ ∃ v, RowAt w' ko 49 #[.int .i64 (depQ xs), v] ∧ w'.ownsRow n₀ 36 2 v (2 ^ depQ xs) (Cs encE ((entsOf xs).map unp))) ∨ (e = .panicked wrongX ∧ okD xs = false))

theorem Dir1_any (n₀ kw ko : Nat) (A : Option Addr) (n c : Nat) (xs : List Int) (w : World) (hr : Rd w (min kw ko) 1 A n (Cs encW xs)) (hl : xs.length = n) (hc : n ≤ c) (hc2 : c ≤ 9223372036854775807) (hw : w.cell? ⟨kw, 0, none⟩ = some (.slice A n c))
    (hu : ∀ x ∈ xs, U64 x) (hne : kw ≠ ko) (hrow : RowAt w ko 49 #[.int .i64 0, .slice none 0 0]) (hkw : kw < w.heap.size) (hn₀ : n₀ ≤ w.heap.size) :
    Calls Try.prog 52 #[.pointer (some ⟨kw, 0, none⟩), .pointer (some ⟨ko, 0, none⟩)] w (DirOut ko n₀ w xs) := by
  by_cases hn : n = 40
  · subst hn
    obtain ⟨b, off, rfl, hb, hcell⟩ := hr.2 (by omega)
    have u0 := hu _ (List.getElem_mem (show 0 < xs.length by omega))
    rw [← getD_at xs 0 (by omega)] at u0
    by_cases h5 : xs.getD 0 0 ≤ 5
    · have hq : xs.getD 0 0 = ((depQ xs : Nat) : Int) := by have := u0.1; unfold depQ; omega
      have hok : okD xs = ((entsOf xs).all okW && !((xs.drop (1 + 2 ^ depQ xs)).any fun x => decide (x ≠ 0))) := by
        unfold okD; rw [decide_eq_true (show xs.length = 40 ∧ xs.getD 0 0 ≤ 5 from ⟨hl, h5⟩), Bool.true_and]
      refine (Dir1_go b off c kw ko xs (depQ xs) w hl hc hc2 hw hcell hu hq (by omega) (by omega) (by omega) hne hrow hkw).mono ?_
      rintro e w' ⟨hp, ⟨rfl, ha, hz, v, h1, h2⟩ | ⟨rfl, hbad⟩⟩
      · exact ⟨hp, .inl ⟨rfl, by rw [hok, show (entsOf xs).all okW = true from ha, hz]; rfl, v, by exact_mod_cast h1, ownsRow_base h2 hn₀⟩⟩
      · refine ⟨hp, .inr ⟨rfl, ?_⟩⟩
        rw [hok]
        rcases hbad with h | h
        · rw [show (entsOf xs).all okW = false from h]; rfl
        · rw [h]; simp
    · have h0 : w.cell? ⟨b, off, none⟩ = some (.int .u64 (xs.getD 0 0)) := by
        have h := hcell 0 (.int .u64 (xs.getD 0 0)) (by rw [Cs_mapW, getD_at xs 0 (by omega)]; simp)
        simpa using h
      refine (Dir1_num b off c kw ko _ w hw h0 (by omega)).mono ?_
      rintro e w' ⟨rfl, hp⟩
      exact ⟨hp, .inr ⟨rfl, by unfold okD; rw [decide_eq_false (fun h => h5 h.2)]; rfl⟩⟩
  · refine (Dir1_len A n c kw ko w hn hw).mono ?_
    rintro e w' ⟨rfl, hp⟩
    exact ⟨hp, .inr ⟨rfl, by unfold okD; rw [decide_eq_false (fun h => hn (by omega))]; rfl⟩⟩

theorem own_other2 {w w' : World} {base : Nat} {e : TypeId} {size n : Nat} {v : Value} {xs : List Value} (h : w.ownsRow base e size v n xs) (hl : ∀ g, base ≤ g → g < w.heap.size → w'.heap[g]? = w.heap[g]?) : w'.ownsRow base e size v n xs := by
  obtain ⟨h1, h2⟩ := h
  refine ⟨h1, ?_⟩
  rcases h2 with h | ⟨g, cap, cur, hv, hg, hh, r⟩
  · exact .inl h
  · exact .inr ⟨g, cap, cur, hv, hg, (hl g hg (Array.getElem?_eq_some_iff.1 hh).1).trans hh, r⟩

theorem tries_dir (ko : Nat) (xs : List Int) (lb : Array Value) (w : World) (h2 : ko < w.heap.size)
    (HB : Calls Try.prog 52 lb (w.alloc (.cells #[.bool false] 4)) (DirOut ko (w.heap.size + 1) (w.alloc (.cells #[.bool false] 4)) xs)) :
    Calls Try.prog 42 #[.func (.func 52) #[] lb] w fun e w' => e = .returned (.bool (okD xs)) ∧ PastC ko w w' ∧ (okD xs = true → ∃ v, RowAt w' ko 49 #[.int .i64 (depQ xs), v] ∧ w'.ownsRow (w.heap.size + 1) 36 2 v (2 ^ depQ xs) (Cs encE ((entsOf xs).map unp))) := by
  have hne : w.heap.size ≠ ko := by omega
  refine (tries_any 52 enters52 lb w (fun b w2 => b = okD xs ∧ PastC ko w w2 ∧ (okD xs = true → ∃ v, RowAt w2 ko 49 #[.int .i64 (depQ xs), v] ∧ w2.ownsRow (w.heap.size + 1) 36 2 v (2 ^ depQ xs) (Cs encE ((entsOf xs).map unp)))) (HB.mono ?_)).mono ?_
  · rintro e w2 ⟨hp, h⟩
    have hpw : PastC ko w w2 := (PastC.of_below h2 ((Below.refl _ w).alloc (Nat.le_refl _) _)).trans hp
    have hr : RowAt w2 w.heap.size 4 #[.bool false] := hp.row (RowAt.new w 4 _) hne
    refine ⟨?_, hr.cell 0, hr.frozen 0, hr.lt⟩
    rcases h with ⟨rfl, ho, v, h1, h3⟩ | ⟨rfl, ho⟩
    · exact .inl ⟨rfl, ho.symm, hpw, fun _ => ⟨v, h1, h3⟩⟩
    · exact .inr ⟨rfl, ho.symm, hpw, fun h => by rw [ho] at h; cases h⟩
  · rintro e w' ⟨b, w2, rfl, ⟨rfl, hp, hv⟩, hq⟩
    refine ⟨rfl, ⟨hp.below.trans (hq.below.mono (by omega)), Nat.le_trans hp.size hq.size, fun j o hj ho hc => ?_⟩, fun h => ?_⟩
    · have hjl := (Array.getElem?_eq_some_iff.1 ho).1
      have := hp.size
      exact (hq.block j (by omega) (by omega)).trans (hp.cells j o hj ho hc)
    · obtain ⟨v, h1, h3⟩ := hv h
      exact ⟨v, (hq.block ko (by omega) h1.lt).trans h1, own_other2 h3 (fun g hg hgl => hq.block g (by omega) hgl)⟩

def zeroD : Value := .agg #[.int .i64 0, .slice none 0 0]

/-- layout.Dir: the outcome. -/
def DirRes (W : World) (xs : List Int) (e : Ending) (W' : World) : Prop :=
  Below W.heap.size W W' ∧ ((okD xs = true ∧ ∃ v, e = .returned (.tuple #[.agg #[.int .i64 (depQ xs), v], .int .i64 0]) ∧ W'.ownsRow W.heap.size 36 2 v (2 ^ depQ xs) (Cs encE ((entsOf xs).map unp)))
    ∨ (okD xs = false ∧ e = .returned (.tuple #[.agg #[.int .i64 0, .slice none 0 0], .int .i64 261])))

theorem LDir_any (B : Nat) (A : Option Addr) (n c : Nat) (xs : List Int) (W : World) (hr : Rd W B 1 A n (Cs encW xs)) (hl : xs.length = n) (hB : B ≤ W.heap.size) (hu : ∀ x ∈ xs, U64 x) (hc : n ≤ c) (hc2 : c ≤ 9223372036854775807) :
    Calls Try.prog 35 #[.slice A n c] W (DirRes W xs) := by
  have HB := hide hr
  have HU := hide hu
  clear hr hu
  go_enter Try.func35, Try.ntmps35
  go_wp2_with fail
  have hb0 : Below W.heap.size W (((W.alloc (.cells #[.slice A n c] 24)).alloc (.cells #[.int .i64 0, .slice none 0 0] 49)).alloc (.cells #[.int .i64 0, .slice none 0 0] 49)) := (((Below.refl W.heap.size W).alloc (Nat.le_refl _) _).alloc (by rw [World.size_alloc]; omega) _).alloc (by rw [World.size_alloc, World.size_alloc]; omega) _
  have hs0 : (((W.alloc (.cells #[.slice A n c] 24)).alloc (.cells #[.int .i64 0, .slice none 0 0] 49)).alloc (.cells #[.int .i64 0, .slice none 0 0] 49)).heap.size = W.heap.size + 1 + 1 + 1 := by simp
  have hr1 : RowAt (((W.alloc (.cells #[.slice A n c] 24)).alloc (.cells #[.int .i64 0, .slice none 0 0] 49)).alloc (.cells #[.int .i64 0, .slice none 0 0] 49)) W.heap.size 24 #[.slice A n c] := ((RowAt.new W 24 #[.slice A n c]).below ((Below.refl _ _).alloc (Nat.le_refl _) _)).below ((Below.refl _ _).alloc (Nat.le_refl _) _)
  have hr2 : RowAt (((W.alloc (.cells #[.slice A n c] 24)).alloc (.cells #[.int .i64 0, .slice none 0 0] 49)).alloc (.cells #[.int .i64 0, .slice none 0 0] 49)) (W.heap.size + 1) 49 #[.int .i64 0, .slice none 0 0] := by
    have h := (RowAt.new (W.alloc (.cells #[.slice A n c] 24)) 49 #[.int .i64 0, .slice none 0 0]).below ((Below.refl _ _).alloc (Nat.le_refl _) (.cells #[.int .i64 0, .slice none 0 0] 49))
    rw [World.size_alloc] at h; exact h
  have hr3 : RowAt (((W.alloc (.cells #[.slice A n c] 24)).alloc (.cells #[.int .i64 0, .slice none 0 0] 49)).alloc (.cells #[.int .i64 0, .slice none 0 0] 49)) (W.heap.size + 1 + 1) 49 #[.int .i64 0, .slice none 0 0] := by
    have h := RowAt.new ((W.alloc (.cells #[.slice A n c] 24)).alloc (.cells #[.int .i64 0, .slice none 0 0] 49)) 49 #[.int .i64 0, .slice none 0 0]
    rw [World.size_alloc, World.size_alloc] at h; exact h
  generalize (((W.alloc (.cells #[.slice A n c] 24)).alloc (.cells #[.int .i64 0, .slice none 0 0] 49)).alloc (.cells #[.int .i64 0, .slice none 0 0] 49)) = w0 at *
  have hbA : Below w0.heap.size w0 (w0.alloc (.cells #[.bool false] 4)) := (Below.refl _ _).alloc (Nat.le_refl _) _
  have hD := Dir1_any (w0.heap.size + 1) W.heap.size (W.heap.size + 1 + 1) A n c xs (w0.alloc (.cells #[.bool false] 4)) (by rw [Nat.min_eq_left (by omega)]; exact ((HB.out.more hB).below hb0).below (hbA.mono (by omega))) hl hc hc2 ((hr1.below hbA).cell 0) HU.out (by omega) (hr3.below hbA) (by simp; omega) (by simp)
  refine (tries_dir (W.heap.size + 1 + 1) xs _ w0 (by omega) hD).mono ?_
  rintro e w1 ⟨rfl, hp, hv⟩
  have h2 := hp.row hr2 (by omega)
  have hs1 := hp.size
  have hbw : Below W.heap.size W w1 := hb0.trans (hp.below.mono (by omega))
  have c0 := h2.cell 0
  have c1 := h2.cell 1
  have f0 := h2.frozen 0
  have f1 := h2.frozen 1
  simp only [List.getElem?_toArray, List.getElem?_cons_succ, List.getElem?_cons_zero] at c0 c1
  dsimp only
  obtain ⟨r, hr⟩ : ∃ r, okD xs = r := ⟨_, rfl⟩
  rw [hr] at hv ⊢
  have HR := hide hr
  have H2 := hide h2
  have HP := hide hp
  clear h2 hp hr1 hr2 hr3 hD hbA hr
  cases r
  · clear hv
    go_wp2
    refine bodyPost_ret (v := .tuple #[.agg #[.int .i64 0, .slice none 0 0], .int .i64 261]) (by simp [results, Try.results35, go_sem, c0, c1]) rfl ⟨?_, .inr ⟨HR.out, rfl⟩⟩
    exact (hbw.setCell (p := ⟨W.heap.size + 1, 0, none⟩) (by simp) _).setCell (p := ⟨W.heap.size + 1, 1, none⟩) (by simp) _
  · obtain ⟨v, h3, ho⟩ := hv rfl
    have d0 := h3.cell 0
    have d1 := h3.cell 1
    simp only [List.getElem?_toArray, List.getElem?_cons_succ, List.getElem?_cons_zero] at d0 d1
    have HO := hide ho
    obtain ⟨g, cap, rfl, hg, hgl⟩ := ho.form (Nat.pow_pos (by omega))
    clear ho h3
    go_wp2
    refine bodyPost_ret (v := .tuple #[.agg #[.int .i64 (depQ xs), .slice (some ⟨g, 0, none⟩) (2 ^ depQ xs) cap], .int .i64 0]) (by simp [results, Try.results35, go_sem, c0, c1]) rfl ⟨?_, .inl ⟨HR.out, _, rfl, ?_⟩⟩
    · exact (hbw.setCell (p := ⟨W.heap.size + 1, 0, none⟩) (by simp) _).setCell (p := ⟨W.heap.size + 1, 1, none⟩) (by simp) _
    · refine ownsRow_base (own_other HO.out (fun j hj => ?_)) (by omega)
      rw [heap_setCell_ne _ _ _ _ (by show j ≠ W.heap.size + 1; omega), heap_setCell_ne _ _ _ _ (by show j ≠ W.heap.size + 1; omega)]
end Go.Proofs.Ytndlfofpldbldaa

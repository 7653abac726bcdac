/-
  layout.Table.
-/
import Derived.Test.YtndlfofpldbldaaM
import Derived.Test.YtndlfofpldbldaaN
import Derived.Test.YtndlfofpldbldaaO
import Derived.Test.YtndlfofpldbldaaP
set_option linter.unusedSimpArgs false
set_option linter.unusedVariables false
namespace Go.Proofs.Ytndlfofpldbldaa
open Go Go.RowKit

theorem enters43 : ∀ args w, (callFunc 43 args).run Try.prog w = .ok (.enter 43 args) w := enters_of Try.func43 (by kernel_rfl) rfl

/-- tries over layout.Table's closure, where it leaves. -/
theorem tries_no (kw ko : Nat) (A : Option Addr) (n c : Nat) (w : World) (h1 : kw < w.heap.size) (h2 : ko < w.heap.size)
    (HB : Calls Try.prog 43 #[.pointer (some ⟨kw, 0, none⟩), .pointer (some ⟨ko, 0, none⟩)] (w.alloc (.cells #[.bool false] 4)) fun e w' => e = .panicked wrongX ∧ Past ko (w.alloc (.cells #[.bool false] 4)) w') :
    Calls Try.prog 42 #[.func (.func 43) #[] #[.pointer (some ⟨kw, 0, none⟩), .pointer (some ⟨ko, 0, none⟩)]] w fun e w' => e = .returned (.bool false) ∧ Past ko w w' := by
  refine (tries_any 43 enters43 _ w (fun b w2 => b = false ∧ Past ko w w2) (HB.mono ?_)).mono ?_
  · rintro e w2 ⟨rfl, hp⟩
    have hne : w.heap.size ≠ ko := by omega
    refine ⟨.inr ⟨rfl, rfl, (Past.alloc h2 _).trans hp⟩, ?_, ?_, ?_⟩
    · rw [hp.cell _ hne (by simp)]; simp
    · rw [hp.frozen _ hne (by simp)]; simp
    · have := hp.size; simp at this; omega
  · rintro e w' ⟨b, w2, rfl, ⟨rfl, hp⟩, hq⟩
    have := hp.size
    exact ⟨rfl, hp.below.trans (hq.below.mono (by omega)), fun j hj hl => (hq.block j (by omega) (by omega)).trans (hp.block j hj hl), Nat.le_trans hp.size hq.size⟩

/-- .. and where it does not. -/
theorem tries_ok (kw ko : Nat) (A : Option Addr) (n c : Nat) (T : Array Value) (w : World) (h1 : kw < w.heap.size) (h2 : ko < w.heap.size)
    (HB : Calls Try.prog 43 #[.pointer (some ⟨kw, 0, none⟩), .pointer (some ⟨ko, 0, none⟩)] (w.alloc (.cells #[.bool false] 4)) fun e w' => e = .returned (.tuple #[]) ∧ RowAt w' ko 55 T ∧ Past ko (w.alloc (.cells #[.bool false] 4)) w') :
    Calls Try.prog 42 #[.func (.func 43) #[] #[.pointer (some ⟨kw, 0, none⟩), .pointer (some ⟨ko, 0, none⟩)]] w fun e w' => e = .returned (.bool true) ∧ RowAt w' ko 55 T ∧ Past ko w w' := by
  refine (tries_any 43 enters43 _ w (fun b w2 => b = true ∧ RowAt w2 ko 55 T ∧ Past ko w w2) (HB.mono ?_)).mono ?_
  · rintro e w2 ⟨rfl, hr, hp⟩
    have hne : w.heap.size ≠ ko := by omega
    refine ⟨.inl ⟨rfl, rfl, hr, (Past.alloc h2 _).trans hp⟩, ?_, ?_, ?_⟩
    · rw [hp.cell _ hne (by simp)]; simp
    · rw [hp.frozen _ hne (by simp)]; simp
    · have := hp.size; simp at this; omega
  · rintro e w' ⟨b, w2, rfl, ⟨rfl, hr, hp⟩, hq⟩
    have := hp.size
    exact ⟨rfl, hr.past hq (by omega), hp.below.trans (hq.below.mono (by omega)), fun j hj hl => (hq.block j (by omega) (by omega)).trans (hp.block j hj hl), Nat.le_trans hp.size hq.size⟩

set_option maxRecDepth 100000 in
theorem Table_no (A : Option Addr) (n c : Nat) (W : World)
    (HB : ∀ w, Below W.heap.size W w → W.heap.size + 1 + 1 < w.heap.size → w.cell? ⟨W.heap.size, 0, none⟩ = some (.slice A n c) → RowAt w (W.heap.size + 1 + 1) 55 zeroT.toArray →
      Calls Try.prog 43 #[.pointer (some ⟨W.heap.size, 0, none⟩), .pointer (some ⟨W.heap.size + 1 + 1, 0, none⟩)] w fun e w' => e = .panicked wrongX ∧ Past (W.heap.size + 1 + 1) w w') :
    Calls Try.prog 27 #[.slice A n c] W fun e W' => e = .returned (.tuple #[.agg zeroT.toArray, .int .i64 260]) ∧ Below W.heap.size W W' := by
  have HBh := hide HB
  clear HB
  go_enter Try.func27, Try.ntmps27
  go_wp2_with fail
  have hz1 : RowAt (((W.alloc (.cells #[.slice A n c] 24)).alloc (.cells zeroT.toArray 55)).alloc (.cells zeroT.toArray 55)) (W.heap.size + 1) 55 zeroT.toArray := by
    have h := RowAt.new (W.alloc (.cells #[.slice A n c] 24)) 55 zeroT.toArray
    rw [World.size_alloc] at h
    exact h.below ((Below.refl _ _).alloc (Nat.le_refl _) _)
  have hz2 : RowAt (((W.alloc (.cells #[.slice A n c] 24)).alloc (.cells zeroT.toArray 55)).alloc (.cells zeroT.toArray 55)) (W.heap.size + 1 + 1) 55 zeroT.toArray := by
    have h := RowAt.new ((W.alloc (.cells #[.slice A n c] 24)).alloc (.cells zeroT.toArray 55)) 55 zeroT.toArray
    rw [World.size_alloc, World.size_alloc] at h
    exact h
  have hc0 : (((W.alloc (.cells #[.slice A n c] 24)).alloc (.cells zeroT.toArray 55)).alloc (.cells zeroT.toArray 55)).cell? ⟨W.heap.size, 0, none⟩ = some (.slice A n c) :=
    (World.cell?_alloc_lt _ _ _ (by rw [World.size_alloc, World.size_alloc]; show W.heap.size < _; omega)).trans ((World.cell?_alloc_lt _ _ _ (by rw [World.size_alloc]; show W.heap.size < _; omega)).trans (by rw [World.cell?_alloc_new]; rfl))
  have hb0 : Below W.heap.size W (((W.alloc (.cells #[.slice A n c] 24)).alloc (.cells zeroT.toArray 55)).alloc (.cells zeroT.toArray 55)) := (((Below.refl W.heap.size W).alloc (Nat.le_refl _) (.cells #[.slice A n c] 24)).alloc (by rw [World.size_alloc]; omega) (.cells zeroT.toArray 55)).alloc (by rw [World.size_alloc, World.size_alloc]; omega) (.cells zeroT.toArray 55)
  have hs0 : (((W.alloc (.cells #[.slice A n c] 24)).alloc (.cells zeroT.toArray 55)).alloc (.cells zeroT.toArray 55)).heap.size = W.heap.size + 1 + 1 + 1 := by simp
  change Calls Try.prog 42 _ (((W.alloc (.cells #[.slice A n c] 24)).alloc (.cells zeroT.toArray 55)).alloc (.cells zeroT.toArray 55)) _
  generalize (((W.alloc (.cells #[.slice A n c] 24)).alloc (.cells zeroT.toArray 55)).alloc (.cells zeroT.toArray 55)) = w0 at *
  have hk1 : W.heap.size < w0.heap.size := by omega
  have hk2 : W.heap.size + 1 + 1 < w0.heap.size := by omega
  refine (tries_no W.heap.size (W.heap.size + 1 + 1) A n c w0 hk1 hk2 (HBh.out (w0.alloc (.cells #[.bool false] 4)) (hb0.alloc (by omega) _) (by simp; omega) ((World.cell?_alloc_lt w0 _ _ hk1).trans hc0) (hz2.below ((Below.refl _ _).alloc (Nat.le_refl _) _)))).mono ?_
  rintro e w1 ⟨rfl, hp1⟩
  have hz1' := hz1.past hp1 (by omega)
  have hinf : (Try.prog.info? 55).map (·.size) = some zeroT.toArray.size := by kernel_rfl
  have HZ1 := hide hz1'
  have h1c : zeroT.toArray.all (·.oneCell') = true := by kernel_rfl
  have HINF := hide hinf
  clear hinf
  clear hz1 hz2 hz1' hc0
  dsimp only
  go_wp2_with (refine wpList_store_rowAt rfl 55 _ _ rfl (W.heap.size + 1) 55 zeroT.toArray zeroT.toArray rfl rfl HZ1.out rfl HINF.out h1c ?_; intro w2 hr2 hp2)
  have hld : (loadVar 55 ⟨W.heap.size + 1, 0, none⟩).run Try.prog w2 = .ok (.agg zeroT.toArray) w2 := run_loadVar_mid w2 (W.heap.size + 1) 0 55 zeroT _ (RowAt.range (r := []) (by rw [List.append_nil]; exact hr2)) Try.underlying55 rfl (by kernel_rfl)
  refine bodyPost_ret (v := .tuple #[.agg zeroT.toArray, .int .i64 260]) (by simp [results, Try.results27, asAddr, hld]) rfl ⟨rfl, (hb0.trans (hp1.below.mono (by omega))).trans (hp2.below.mono (by omega))⟩

set_option maxRecDepth 100000 in
theorem Table_yes (A : Option Addr) (n c : Nat) (T : List Value) (hTl : T.length = 39) (hT1 : ∀ u ∈ T, u.oneCell' = true) (W : World)
    (HB : ∀ w, Below W.heap.size W w → W.heap.size + 1 + 1 < w.heap.size → w.cell? ⟨W.heap.size, 0, none⟩ = some (.slice A n c) → RowAt w (W.heap.size + 1 + 1) 55 zeroT.toArray →
      Calls Try.prog 43 #[.pointer (some ⟨W.heap.size, 0, none⟩), .pointer (some ⟨W.heap.size + 1 + 1, 0, none⟩)] w fun e w' => e = .returned (.tuple #[]) ∧ RowAt w' (W.heap.size + 1 + 1) 55 T.toArray ∧ Past (W.heap.size + 1 + 1) w w') :
    Calls Try.prog 27 #[.slice A n c] W fun e W' => e = .returned (.tuple #[.agg T.toArray, .int .i64 0]) ∧ Below W.heap.size W W' := by
  have HBh := hide HB
  clear HB
  go_enter Try.func27, Try.ntmps27
  go_wp2_with fail
  have hz1 : RowAt (((W.alloc (.cells #[.slice A n c] 24)).alloc (.cells zeroT.toArray 55)).alloc (.cells zeroT.toArray 55)) (W.heap.size + 1) 55 zeroT.toArray := by
    have h := RowAt.new (W.alloc (.cells #[.slice A n c] 24)) 55 zeroT.toArray
    rw [World.size_alloc] at h
    exact h.below ((Below.refl _ _).alloc (Nat.le_refl _) _)
  have hz2 : RowAt (((W.alloc (.cells #[.slice A n c] 24)).alloc (.cells zeroT.toArray 55)).alloc (.cells zeroT.toArray 55)) (W.heap.size + 1 + 1) 55 zeroT.toArray := by
    have h := RowAt.new ((W.alloc (.cells #[.slice A n c] 24)).alloc (.cells zeroT.toArray 55)) 55 zeroT.toArray
    rw [World.size_alloc, World.size_alloc] at h
    exact h
  have hc0 : (((W.alloc (.cells #[.slice A n c] 24)).alloc (.cells zeroT.toArray 55)).alloc (.cells zeroT.toArray 55)).cell? ⟨W.heap.size, 0, none⟩ = some (.slice A n c) :=
    (World.cell?_alloc_lt _ _ _ (by rw [World.size_alloc, World.size_alloc]; show W.heap.size < _; omega)).trans ((World.cell?_alloc_lt _ _ _ (by rw [World.size_alloc]; show W.heap.size < _; omega)).trans (by rw [World.cell?_alloc_new]; rfl))
  have hb0 : Below W.heap.size W (((W.alloc (.cells #[.slice A n c] 24)).alloc (.cells zeroT.toArray 55)).alloc (.cells zeroT.toArray 55)) := (((Below.refl W.heap.size W).alloc (Nat.le_refl _) (.cells #[.slice A n c] 24)).alloc (by rw [World.size_alloc]; omega) (.cells zeroT.toArray 55)).alloc (by rw [World.size_alloc, World.size_alloc]; omega) (.cells zeroT.toArray 55)
  have hs0 : (((W.alloc (.cells #[.slice A n c] 24)).alloc (.cells zeroT.toArray 55)).alloc (.cells zeroT.toArray 55)).heap.size = W.heap.size + 1 + 1 + 1 := by simp
  change Calls Try.prog 42 _ (((W.alloc (.cells #[.slice A n c] 24)).alloc (.cells zeroT.toArray 55)).alloc (.cells zeroT.toArray 55)) _
  generalize (((W.alloc (.cells #[.slice A n c] 24)).alloc (.cells zeroT.toArray 55)).alloc (.cells zeroT.toArray 55)) = w0 at *
  have hk1 : W.heap.size < w0.heap.size := by omega
  have hk2 : W.heap.size + 1 + 1 < w0.heap.size := by omega
  refine (tries_ok W.heap.size (W.heap.size + 1 + 1) A n c T.toArray w0 hk1 hk2 (HBh.out (w0.alloc (.cells #[.bool false] 4)) (hb0.alloc (by omega) _) (by simp; omega) ((World.cell?_alloc_lt w0 _ _ hk1).trans hc0) (hz2.below ((Below.refl _ _).alloc (Nat.le_refl _) _)))).mono ?_
  rintro e w1 ⟨rfl, hrT, hp1⟩
  have HRT := hide hrT
  clear hrT
  have hz1' := hz1.past hp1 (by omega)
  have hinf : (Try.prog.info? 55).map (·.size) = some T.toArray.size := by rw [List.size_toArray, hTl]; kernel_rfl
  have HZ1 := hide hz1'
  have h1c : T.toArray.all (·.oneCell') = true := all_oneCell_toArray hT1
  have HINF := hide hinf
  clear hinf
  clear hz1 hz2 hz1' hc0
  dsimp only
  go_wp2_with (first | (refine wpList_load_mid rfl 55 _ rfl (W.heap.size + 1 + 1) 0 rfl T _ (RowAt.range (r := []) (by rw [List.append_nil]; exact HRT.out)) Try.underlying55 rfl (by rw [HINF.out, List.size_toArray]) ?_) | (refine wpList_store_rowAt rfl 55 _ _ rfl (W.heap.size + 1) 55 zeroT.toArray T.toArray rfl rfl HZ1.out (by rw [List.size_toArray, List.size_toArray, hTl]; rfl) HINF.out h1c ?_; intro w2 hr2 hp2))
  have hld : (loadVar 55 ⟨W.heap.size + 1, 0, none⟩).run Try.prog w2 = .ok (.agg T.toArray) w2 := run_loadVar_mid w2 (W.heap.size + 1) 0 55 T _ (RowAt.range (r := []) (by rw [List.append_nil]; exact hr2)) Try.underlying55 rfl (by rw [HINF.out, List.size_toArray])
  refine bodyPost_ret (v := .tuple #[.agg T.toArray, .int .i64 0]) (by simp [results, Try.results27, asAddr, hld]) rfl ⟨rfl, (hb0.trans (hp1.below.mono (by omega))).trans (hp2.below.mono (by omega))⟩

end Go.Proofs.Ytndlfofpldbldaa

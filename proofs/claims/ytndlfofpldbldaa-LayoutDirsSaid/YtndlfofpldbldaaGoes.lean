/-
  The law LayoutGoes, walked.
-/
import Derived.Test.YtndlfofpldbldaaH
namespace Go.Proofs.Ytndlfofpldbldaa
open Go Go.RowKit
attribute [local go_sem] via_cell via_frozen
set_option linter.unusedSimpArgs false
set_option linter.unusedVariables false

theorem run_make_rowN {P : Program} (t e : TypeId) (i : TypeInfo) (z : Value) (ht : P.underlying t = some (.slice e)) (hi : P.info? e = some i) (hz : i.zero = some z)
    (kl kc : IntKind) (n c : Nat) (hnc : n ≤ c) (hbytes : i.bytes * c ≤ 281474976710656) (h63 : c ≤ 9223372036854775807) (w : World) :
    (Instr.makeSlice t (.int kl (n : Int)) (.int kc (c : Int))).run P w = .ok (.slice (some ⟨w.heap.size, 0, none⟩) n c) (w.alloc (.cells (madeCells z.cells (c * i.size)) e)) := by
  have hb : (i.bytes : Int) * (c : Int) ≤ 281474976710656 := by
    have h : ((i.bytes * c : Nat) : Int) ≤ 281474976710656 := by omega
    rwa [Int.natCast_mul] at h
  have hr := run_make (P := P) w t e i z ht hi hz kl kc n c (by omega) (by omega) hb (by omega)
  simp only [Int.toNat_natCast] at hr
  exact hr

def zeroEnts (n : Nat) : List (Int × Int) := List.replicate n (0, 0)
theorem zeroEnts_len (n : Nat) : (zeroEnts n).length = n := by simp [zeroEnts]
theorem zeroEnts_ok (n : Nat) : entsOk (zeroEnts n) = true := by
  simp [entsOk, zeroEnts, okEnt]
theorem zeroEnts_u (n : Nat) : ∀ e ∈ zeroEnts n, U64 e.2 := by
  intro e he
  simp [zeroEnts] at he
  rw [he.2]; exact ⟨by decide, by decide⟩
theorem madeE (n : Nat) : (madeCells (Value.agg #[.int .i64 0, .int .u64 0]).cells (n * 2)).toList = Cs encE (zeroEnts n) := by
  apply List.ext_getElem?
  intro j
  have hl : (Cs encE (zeroEnts n)).length = n * 2 := by rw [Cs_length encE_len, zeroEnts_len]
  by_cases hj : j < n * 2
  · have h1 : j = j / 2 * 2 + j % 2 := by omega
    have h2 : j / 2 < (zeroEnts n).length := by rw [zeroEnts_len]; omega
    have h3 : (zeroEnts n)[j / 2] = (0, 0) := by simp [zeroEnts]
    have h4 := Cs_at encE_len (zeroEnts n) (j / 2) (j % 2) h2 (by omega)
    rw [← h1, h3] at h4
    rw [h4]
    have h5 : j % 2 = 0 ∨ j % 2 = 1 := by omega
    rcases h5 with h5 | h5 <;> simp [madeCells, hj, h5, Value.cells, encE]
  · rw [List.getElem?_eq_none (l := Cs encE (zeroEnts n)) (by rw [hl]; omega), List.getElem?_eq_none (by simp [madeCells]; omega)]

/-- A mark stays as it was. -/
theorem keptF {w w1 : World} {g o : Nat} (hb : Below w.heap.size w w1) (hlt : g < w.heap.size) (h : w.frozen? ⟨g, o, none⟩ = false) : w1.frozen? ⟨g, o, none⟩ = false := (hb.frozen (p := ⟨g, o, none⟩) hlt).trans h
theorem grown_frozen {w w1 : World} {row : Option Nat} {g o : Nat} (hg : w.grownBy w1 row) (hlt : g < w.heap.size) (hne : some g ≠ row) (h : w.frozen? ⟨g, o, none⟩ = false) : w1.frozen? ⟨g, o, none⟩ = false := by
  have := hg.block g hlt hne
  simp only [World.frozen?] at h ⊢
  rw [this]; exact h
theorem zeroEnts_add (n : Nat) : Cs encE (zeroEnts n) ++ Cs encE (zeroEnts n) = Cs encE (zeroEnts (n + n)) := by rw [← Cs_append]; simp [zeroEnts]

theorem rd_setCell_ne {w : World} {B sz n g o : Nat} {xs : List Value} {p : Addr} {u : Value} (h : Rd w B sz (some ⟨g, o, none⟩) n xs) (hne : p.block ≠ g) : Rd (w.setCell p u) B sz (some ⟨g, o, none⟩) n xs := by
  refine ⟨h.1, fun hn => ?_⟩
  obtain ⟨b, off, e, hb, hc⟩ := h.2 hn
  refine ⟨b, off, e, hb, fun j v hv => ?_⟩
  have hg : b = g := by injection e with e; injection e with e; exact e.symm
  rw [World.cell?_setCell_other]
  · exact hc j v hv
  · intro e2; apply hne; rw [e2]; exact hg

theorem infoE : (Try.prog.info? 36).map (fun i => (i.zero, i.size, i.bytes)) = some (some (.agg #[.int .i64 0, .int .u64 0]), 2, 16) := elE.info

theorem topZ_half (h q : Int) (h0 : 0 ≤ h) (hq0 : 0 ≤ q) (hq1 : q ≤ 4) : topZ h (q + 1) / 2 = topZ h q := by
  have h4 : q = 0 ∨ q = 1 ∨ q = 2 ∨ q = 3 ∨ q = 4 := by omega
  rcases h4 with rfl | rfl | rfl | rfl | rfl <;> simp [topZ] <;> omega

theorem topZ_pow (h : Int) (k : Nat) (h0 : 0 ≤ h) (h1 : h < 18446744073709551616) (hk : k ≤ 5) : 0 ≤ topZ h k ∧ topZ h k < ((2 ^ k : Nat) : Int) := by
  have h4 : k = 0 ∨ k = 1 ∨ k = 2 ∨ k = 3 ∨ k = 4 ∨ k = 5 := by omega
  rcases h4 with rfl | rfl | rfl | rfl | rfl | rfl <;> simp [topZ] <;> omega

theorem hasB_tab (h : Int) (k p : Nat) (hk : k ≤ 5) (hp : p < 2 ^ k) : hasB k p 0 0 h = decide (topZ h k = p) := by
  have h2 : (2 : Int) ^ ((k : Int).toNat) = ((2 ^ k : Nat) : Int) := by simp
  have h3 : ((p : Int) / ((2 ^ k : Nat) : Int)) = 0 := Int.ediv_eq_zero_of_lt (by omega) (by omega)
  have hf : flatB k p 0 0 = true := by
    rw [flatB, h2, h3]; simp; omega
  simp [hasB, hf]

set_option maxRecDepth 100000 in
set_option maxHeartbeats 4000000 in
theorem Goes_walk (h depth : Int) (W : World) (hh : U64 h) (hd : I64 depth) :
    Calls Try.prog 5 #[.int .u64 h, .int .i64 depth] W fun e W' => e = .returned (.bool true) ∧ Below W.heap.size W W' := by
  obtain ⟨k, hk, hq⟩ : ∃ k : Nat, k ≤ 5 ∧ (IntKind.u64.wrap depth).tmod 6 = (k : Int) := by
    have hn : 0 ≤ IntKind.u64.wrap depth := by rw [IntKind.wrap_u64]; omega
    rw [Int.tmod_eq_emod_of_nonneg hn]
    have h0 : 0 ≤ IntKind.u64.wrap depth % 6 := Int.emod_nonneg _ (by omega)
    have h1 : IntKind.u64.wrap depth % 6 < 6 := Int.emod_lt_of_pos _ (by omega)
    exact ⟨(IntKind.u64.wrap depth % 6).toNat, by omega, by omega⟩
  obtain ⟨n, hn⟩ : ∃ n : Nat, n = 2 ^ k := ⟨_, rfl⟩
  have hn1 : 1 ≤ n := by rw [hn]; exact Nat.one_le_two_pow
  have hn2 : n ≤ 32 := by rw [hn]; exact Nat.pow_le_pow_right (by omega) hk
  have hw : IntKind.i64.wrap (2 ^ k) = (n : Int) := by
    have : (2 : Int) ^ k = (n : Int) := by rw [hn]; simp
    rw [this]; exact IntWalk.i64_in _ (by omega)
  obtain ⟨i0, hi0, hz0, hz1, hz2⟩ := info_parts infoE
  have hmk := fun w => run_make_rowN (P := Try.prog) 23 36 i0 _ Try.underlying23 hi0 hz0 .i64 .i64 n n (Nat.le_refl _) (by rw [hz2]; omega) (by omega) w
  rw [hz1] at hmk
  have HW := hide (fun w => wakes_any w)
  have HH := hide hh
  have HN := hide hn
  clear hh hd hn hi0 hz0 hz1 hz2
  go_enter Try.func5, Try.ntmps5
  go_wp2_with (go_at_call 9; refine (HW.out _).mono ?_; rintro e w1 ⟨rfl, hb1⟩)
  have hM : (madeCells #[Value.int IntKind.i64 0, Value.int IntKind.u64 0] (n * 2)).toList = Cs encE (zeroEnts n) := madeE n
  have hrd : Rd ((w1.alloc (.cells (madeCells #[.int .i64 0, .int .u64 0] (n * 2)) 36)).alloc (.cells #[.int .i64 k, .slice (some ⟨w1.heap.size, 0, none⟩) n n] 49)) (w1.heap.size + 1) 2 (some ⟨w1.heap.size, 0, none⟩) n (Cs encE (zeroEnts n)) := by
    rw [← hM]
    exact (Rd.new w1 _ 36 2 n (by simp [madeCells])).alloc (by simp) _
  have hat := At_ok (w1.heap.size + 1) (some ⟨w1.heap.size, 0, none⟩) n k h (zeroEnts n) _ (by rw [zeroEnts_len]; exact hrd) (by simp) (zeroEnts_u n) HH.out (by rw [zeroEnts_len, dirShape, HN.out]; simp; try omega) (zeroEnts_ok n)
  rw [zeroEnts_len] at hat
  obtain ⟨ht0, ht1⟩ := topZ_pow h k HH.out.1 HH.out.2 hk
  rw [← HN.out] at ht1
  generalize hM2 : madeCells #[Value.int IntKind.i64 0, Value.int IntKind.u64 0] (n * 2) = M at *
  generalize htt : topZ h k = t at *
  have HT := hide htt
  have hMs := hM2
  clear htt hM2
  refine hat.mono ?_
  rintro e w3 ⟨rfl, hb3⟩
  have hz3 := hb3.size
  simp only [World.size_alloc] at hz3
  have c0 := kept hb3 (g := w1.heap.size + 1) (o := 0) (v := .int .i64 k) (by simp [go_sem])
  have c1 := kept hb3 (g := w1.heap.size + 1) (o := 1) (v := .slice (some ⟨w1.heap.size, 0, none⟩) n n) (by simp [go_sem])
  have f0 := keptF hb3 (g := w1.heap.size + 1) (o := 0) (by simp) (by simp [go_sem])
  have f1 := keptF hb3 (g := w1.heap.size + 1) (o := 1) (by simp) (by simp [go_sem])
  have hown0 := (World.ownsRow_lit (base := W.heap.size) (e := 36) (size := 2) w1 M n hb1.size (by simp [maxLen]; omega) (by rw [← hMs]; simp [madeCells])).alloc (.cells #[.int .i64 k, .slice (some ⟨w1.heap.size, 0, none⟩) n n] 49)
  have HO3 := hide (own_keepB hown0 hb3)
  have HB3 := hide (((hb1.alloc hb1.size _).alloc (by have := hb1.size; simp; omega) _).trans (hb3.mono (by have := hb1.size; simp; omega)))
  have hz1 := hb1.size
  clear hat hb3 hb1 hrd hown0 hMs
  go_wp2_with fail
  go_loopw [8, 31] (fun m i wr => ∃ (j : Nat) (c : Int), j ≤ n ∧ i = .int .i64 j ∧ m = .int .i64 c ∧ Hid ((t < j → c = 1) ∧ (j ≤ t → c = 0)) ∧ 0 ≤ c ∧ c ≤ 1 ∧ Below w3.heap.size w3 wr) (fun _ i _ => n - (intOf i).toNat)
  case atStart => exact ⟨0, 0, Nat.zero_le _, rfl, rfl, ⟨fun h => by omega, fun _ => rfl⟩, by omega, by omega, Below.refl _ _⟩
  case round =>
    obtain ⟨j, c, hj, rfl, rfl, hc, hc0, hc1, hbw⟩ := hrel
    have HBW := hide hbw
    clear hbw
    by_cases hlt : j < n
    · have HX := hide (hasB_tab h k j hk (by rw [← HN.out]; exact hlt))
      by_cases hp : t = j
      · have hne : ((j : Int) != t) = false := by rw [bne_eq_false_iff_eq]; exact hp.symm
        have hcc : Hid (c = 0) := hc.out.2 (by omega)
        have HP := hide hp
        clear hp
        go_wp2_with (go_at_call 20; refine (Has_any _ 0 k j 0 0 h _ ⟨rfl, rfl, rfl, rfl, rfl, rfl, fun u hu => List.all_eq_true.1 (by rfl) u hu⟩ ⟨by omega, by omega⟩ HH.out true (by rw [HX.out, HT.out, HP.out]; simp)).mono ?_; rintro e w4 ⟨rfl, hb4⟩)
        exact ⟨⟨j + 1, c + 1, by omega, by go_num, rfl, ⟨fun _ => by have := hcc.out; omega, fun h => by have := HP.out; omega⟩, by omega, by have := hcc.out; omega, HBW.out.trans (hb4.mono HBW.out.size)⟩, by simp [intOf]; omega⟩
      · have HP := hide hp
        clear hp
        go_wp2_with (go_at_call 20; refine (Has_any _ 0 k j 0 0 h _ ⟨rfl, rfl, rfl, rfl, rfl, rfl, fun u hu => List.all_eq_true.1 (by rfl) u hu⟩ ⟨by omega, by omega⟩ HH.out false (by rw [HX.out, HT.out]; simpa using HP.out)).mono ?_; rintro e w4 ⟨rfl, hb4⟩)
        exact ⟨⟨j + 1, c, by omega, by go_num, rfl, ⟨fun _ => hc.out.1 (by have := HP.out; omega), fun _ => hc.out.2 (by omega)⟩, by omega, by omega, HBW.out.trans (hb4.mono HBW.out.size)⟩, by simp [intOf]; omega⟩
    · have hcc : c = 1 := hc.out.1 (by omega)
      subst hcc
      obtain rfl : j = n := by omega
      have d0 := kept HBW.out c0
      have d1 := kept HBW.out c1
      by_cases hk5 : k = 5
      · subst hk5
        clear d0 d1 c0 c1 f0 f1
        go_wp2_with fail
        go_ret
        exact ⟨rfl, HB3.out.trans (HBW.out.mono HB3.out.size)⟩
      · have hk4 : ((k : Int) == 5) = false := by rw [beq_eq_false_iff_ne]; omega
        have hk4' : k < 5 := by omega
        have hzw := HBW.out.size
        have g0 := keptF HBW.out (by omega) f0
        have g1 := keptF HBW.out (by omega) f1
        have ho4 := own_keepB HO3.out HBW.out
        rw [hM] at ho4
        have hr4 := Rd.of_own ho4
        have HO4 := hide ho4
        have HR4 := hide hr4
        clear hk5 c0 c1 f0 f1 ho4 hr4 hM
        go_wp2_with (at_builtin
                     refine wpList_app elE rfl _ _ rfl rfl HO4.out rfl HR4.out (Cs_one_cell encE_one _) (by omega) (by have := HB3.out.size; omega) ?_
                     intro v5 w5 hown5 hb5 hg5 hat5
                     obtain ⟨g, cap, rfl, hge, hlt5⟩ := hown5.form (by omega)
                     have q0 := World.grownBy.cell hg5 d0 (fun e => by have e2 : some (w1.heap.size + 1) = some w1.heap.size := e; simp at e2)
                     have q1 := World.grownBy.cell hg5 d1 (fun e => by have e2 : some (w1.heap.size + 1) = some w1.heap.size := e; simp at e2)
                     have p0 := grown_frozen hg5 (by omega) (fun e => by have e2 : some (w1.heap.size + 1) = some w1.heap.size := e; simp at e2) g0
                     have p1 := grown_frozen hg5 (by omega) (fun e => by have e2 : some (w1.heap.size + 1) = some w1.heap.size := e; simp at e2) g1
                     have hz5 := hg5.size
                     clear d0 d1 g0 g1)
        have hgne : w1.heap.size + 1 ≠ g := by
          rcases hat5 with e | e
          · have e2 : some g = some w1.heap.size := e
            injection e2 with e2; omega
          · have e2 : some g = some wr.heap.size := e
            injection e2 with e2; omega
        have hr5 := Rd.of_own hown5
        rw [zeroEnts_add] at hr5
        have hr6 := rd_setCell_ne (p := ⟨w1.heap.size + 1, 1, none⟩) (u := .slice (some ⟨g, 0, none⟩) (j + j) cap) (rd_setCell_ne (p := ⟨w1.heap.size + 1, 0, none⟩) (u := .int .i64 ((k : Int) + 1)) hr5 hgne) hgne
        have hat := At_ok w5.heap.size (some ⟨g, 0, none⟩) cap (k + 1) h (zeroEnts (j + j)) _ (by rw [zeroEnts_len]; exact hr6) (by simp) (zeroEnts_u _) HH.out (by rw [zeroEnts_len, dirShape, HN.out, show ((k : Int) + 1).toNat = k + 1 by omega]; simp; omega) (zeroEnts_ok _)
        rw [zeroEnts_len] at hat
        have hhalf := topZ_half h k HH.out.1 (by omega) (by omega)
        rw [HT.out] at hhalf
        obtain ⟨t2, ht2⟩ : ∃ t2, topZ h ((k : Int) + 1) = t2 := ⟨_, rfl⟩
        rw [ht2] at hat hhalf
        have hge2 : 0 ≤ t2 := by rw [← ht2]; exact (topZ_lt h (k + 1) HH.out.1 HH.out.2 (by omega) (by omega)).1
        have hlt2 : t2 < 32 := by rw [← ht2]; exact (topZ_lt h (k + 1) HH.out.1 HH.out.2 (by omega) (by omega)).2
        have HC := hide hat
        have hfin : (t2 / 2 == t) = true := by rw [beq_iff_eq]; exact hhalf
        clear hat hr5 hr6 hhalf ht2
        refine HC.out.mono ?_
        rintro e w6 ⟨rfl, hb6⟩
        go_wp2_with fail
        go_ret
        refine ⟨rfl, (((HB3.out.trans (HBW.out.mono HB3.out.size)).trans hb5).trans ?_)⟩
        have hz6 := HB3.out.size
        exact (((Below.refl W.heap.size w5).setCell (p := ⟨w1.heap.size + 1, 0, none⟩) (by show W.heap.size ≤ w1.heap.size + 1; omega) _).setCell (p := ⟨w1.heap.size + 1, 1, none⟩) (by show W.heap.size ≤ w1.heap.size + 1; omega) _).trans (hb6.mono (by simp; omega))
end Go.Proofs.Ytndlfofpldbldaa

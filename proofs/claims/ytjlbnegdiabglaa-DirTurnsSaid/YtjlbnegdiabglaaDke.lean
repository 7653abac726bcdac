/-
  The reference's small ones: has, slab, Double, Halve; what is written over.
-/
import Derived.Test.YtjlbnegdiabglaaDja
import Derived.Deep.RegionHeld3
import Derived.BigQuiet
import Derived.BigRegion
import Derived.Test.YtjlbnegdiabglaaHeldT
set_option linter.unusedSimpArgs false
set_option linter.unusedVariables false
namespace Go.Proofs.Ytjlbnegdiabglaa
open Go Go.RowKit
attribute [local go_sem] via_cell via_frozen

theorem any_none_take {es : List En} {p : En → Bool} {j : Nat} (hj : j < es.length) (h : (es.take j).any p = false) (hp : p es[j] = false) : (es.take (j + 1)).any p = false := by
  rw [List.take_succ_eq_append_getElem hj, List.any_append, h]
  simp [hp]
theorem any_some_at {es : List En} {p : En → Bool} {j : Nat} (hj : j < es.length) (hp : p es[j] = true) : es.any p = true := by
  rw [List.any_eq_true]
  exact ⟨_, List.getElem_mem hj, hp⟩
set_option maxHeartbeats 1000000 in
theorem hasR_any (B : Nat) (A : Option Addr) (c : Nat) (dep : Int) (es : List En) (e : En) (W : World) (h : Rd W B 2 A es.length (Cs encE es)) (hB : B ≤ W.heap.size) (hl : es.length ≤ 4096) (r : Bool) (hr : es.any (fun x => decide (x = e)) = r) :
    Calls Try.prog 56 #[.agg #[.int .i64 dep, .slice A es.length c], vE e] W fun e W' => e = .returned (.bool r) ∧ Below W.heap.size W W' := by
  obtain ⟨n, hn⟩ : ∃ n, es.length = n := ⟨_, rfl⟩
  have HR := hide hr
  have H := hide h
  have HN := hide hn
  rw [hn] at hl
  have R2 := hide ((RowAt.new W 24 #[.int .i64 dep, .slice A es.length c]).below ((Below.refl _ _).alloc (Nat.le_refl _) (.cells #[.int .i64 e.1, .int .u64 e.2] 31)))
  have R3 := hide (RowAt.new (W.alloc (.cells #[.int .i64 dep, .slice A es.length c] 24)) 31 #[.int .i64 e.1, .int .u64 e.2])
  have HB := hide (((Below.refl _ W).alloc (Nat.le_refl _) (.cells #[.int .i64 dep, .slice A es.length c] 24)).alloc (by simp) (.cells #[.int .i64 e.1, .int .u64 e.2] 31))
  clear h hr
  rw [hn]
  rw [hn] at R2 R3 HB
  clear hn
  go_enter Try.func56, Try.ntmps56
  go_upto_region 1 with (fail)
  generalize (W.alloc (.cells #[.int .i64 dep, .slice A n c] 24)).alloc (.cells #[.int .i64 e.1, .int .u64 e.2] 31) = w1 at *
  have q1 := row21 R2.out
  have ql := R2.out.lt
  rw [World.size_alloc] at R3
  go_wp2_with fail
  clear q1 ql
  go_loopw [10] (fun iv wr => ∃ j : Nat, j ≤ n ∧ iv = .int .i64 j ∧ (es.take j).any (fun x => decide (x = e)) = false ∧ Below w1.heap.size w1 wr) (fun iv _ => n - (intOf iv).toNat)
  case atStart => exact ⟨0, Nat.zero_le _, rfl, rfl, Below.refl _ _⟩
  case round =>
    obtain ⟨j, hj, rfl, hall, hb⟩ := hrel
    have HALL := hide hall
    have HB2 := hide hb
    clear hall hb
    by_cases hlt : j < n
    · have hjx : j < es.length := by rw [HN.out]; exact hlt
      obtain ⟨b, off, hA, hbl, hc⟩ := (H.out.below ((HB.out.trans (HB2.out.mono HB.out.size)).mono hB)).elem encE_len hjx
      subst hA
      obtain ⟨x, hx⟩ : ∃ x, es[j] = x := ⟨_, rfl⟩
      obtain ⟨be, hbe⟩ : ∃ b, decide (x = e) = b := ⟨_, rfl⟩
      have HX := hide hx
      have HBE := hide hbe
      have hne := fun w => eqlE w x e be hbe
      rw [hx] at hc
      have z0 := hc 0 _ (by omega) rfl
      have z1 := hc 1 _ (by omega) rfl
      simp only [Nat.add_zero] at z0
      try dsimp only at z1
      have hbX : b < wr.heap.size := Nat.lt_of_lt_of_le hbl (Nat.le_trans hB (Nat.le_trans HB.out.size HB2.out.size))
      have hjI : (j : Int) < (n : Int) := by omega
      have hba := (Below.refl _ wr).alloc (Nat.le_refl _) (.cells #[.int .i64 x.1, .int .u64 x.2] 31)
      have R6 := hide (RowAt.new wr 31 #[.int .i64 x.1, .int .u64 x.2])
      have R3r := hide ((R3.out.below HB2.out).below hba)
      have HB3 := hide (HB2.out.trans (hba.mono HB2.out.size))
      have HBr := hide (HB.out.trans (HB3.out.mono HB.out.size))
      clear hc hx hba hbe hbl
      go_upto_region 4 with (fail)
      clear z0 z1
      generalize hg8 : wr.heap.size = g8 at *
      clear hg8
      generalize wr.alloc (.cells #[.int .i64 x.1, .int .u64 x.2] 31) = w2 at *
      have u0 := row20 R6.out
      have u1 := row21 R6.out
      have ul := R6.out.lt
      have p0 := row20 R3r.out
      have p1 := row21 R3r.out
      have pl := R3r.out.lt
      cases be
      · go_wp2_with fail
        go_roundw
        case rel => exact ⟨j + 1, by omega, by go_num, any_none_take hjx HALL.out (by rw [HX.out, HBE.out]), HB3.out⟩
        case measure => simp [intOf]; omega
      · go_wp2_with fail
        go_ret
        exact ⟨ret_bool (by rw [← HR.out]; exact (any_some_at hjx (by rw [HX.out, HBE.out])).symm), HBr.out⟩
    · obtain rfl : j = n := by omega
      have HF := hide (HB.out.trans (HB2.out.mono HB.out.size))
      have hall := HALL.out
      rw [List.take_of_length_le (by rw [HN.out]; exact Nat.le_refl _), HR.out] at hall
      subst hall
      go_wp2_with fail
      go_ret
      exact ⟨rfl, HF.out⟩
set_option maxHeartbeats 1000000 in
theorem slabR_any (B : Nat) (A : Option Addr) (c : Nat) (dep s : Int) (es : List En) (W : World) (h : Rd W B 2 A es.length (Cs encE es)) (hB : B ≤ W.heap.size) (hl : es.length ≤ 4096) (r : Bool) (hr : es.any (fun x => decide (x.1 = s)) = r) :
    Calls Try.prog 57 #[.agg #[.int .i64 dep, .slice A es.length c], .int .i64 s] W fun e W' => e = .returned (.bool r) ∧ Below W.heap.size W W' := by
  obtain ⟨n, hn⟩ : ∃ n, es.length = n := ⟨_, rfl⟩
  have HR := hide hr
  have H := hide h
  have HN := hide hn
  rw [hn] at hl
  have R2 := hide (RowAt.new W 24 #[.int .i64 dep, .slice A es.length c])
  have HB := hide ((Below.refl _ W).alloc (Nat.le_refl _) (.cells #[.int .i64 dep, .slice A es.length c] 24))
  clear h hr
  rw [hn]
  rw [hn] at R2 HB
  clear hn
  go_enter Try.func57, Try.ntmps57
  go_upto_region 1 with (fail)
  generalize W.alloc (.cells #[.int .i64 dep, .slice A n c] 24) = w1 at *
  have q1 := row21 R2.out
  have ql := R2.out.lt
  go_wp2_with fail
  clear q1 ql
  go_loopw [10] (fun iv wr => ∃ j : Nat, j ≤ n ∧ iv = .int .i64 j ∧ (es.take j).any (fun x => decide (x.1 = s)) = false ∧ Below w1.heap.size w1 wr) (fun iv _ => n - (intOf iv).toNat)
  case atStart => exact ⟨0, Nat.zero_le _, rfl, rfl, Below.refl _ _⟩
  case round =>
    obtain ⟨j, hj, rfl, hall, hb⟩ := hrel
    have HALL := hide hall
    have HB2 := hide hb
    clear hall hb
    by_cases hlt : j < n
    · have hjx : j < es.length := by rw [HN.out]; exact hlt
      obtain ⟨b, off, hA, hbl, hc⟩ := (H.out.below ((HB.out.trans (HB2.out.mono HB.out.size)).mono hB)).elem encE_len hjx
      subst hA
      obtain ⟨x, hx⟩ : ∃ x, es[j] = x := ⟨_, rfl⟩
      have HX := hide hx
      rw [hx] at hc
      have z0 := hc 0 _ (by omega) rfl
      have z1 := hc 1 _ (by omega) rfl
      simp only [Nat.add_zero] at z0
      try dsimp only at z1
      have hbX : b < wr.heap.size := Nat.lt_of_lt_of_le hbl (Nat.le_trans hB (Nat.le_trans HB.out.size HB2.out.size))
      have hjI : (j : Int) < (n : Int) := by omega
      have hba := (Below.refl _ wr).alloc (Nat.le_refl _) (.cells #[.int .i64 x.1, .int .u64 x.2] 31)
      have R6 := hide (RowAt.new wr 31 #[.int .i64 x.1, .int .u64 x.2])
      have HB3 := hide (HB2.out.trans (hba.mono HB2.out.size))
      have HBr := hide (HB.out.trans (HB3.out.mono HB.out.size))
      clear hc hx hba hbl
      go_upto_region 4 with (fail)
      clear z0 z1
      generalize hg8 : wr.heap.size = g8 at *
      clear hg8
      generalize wr.alloc (.cells #[.int .i64 x.1, .int .u64 x.2] 31) = w2 at *
      have u0 := row20 R6.out
      have ul := R6.out.lt
      by_cases hs : x.1 = s
      · have hsd : (x.1 == s) = true := by simpa using hs
        have HS := hide hs
        clear hs
        go_wp2_with fail
        go_ret
        exact ⟨ret_bool (by rw [← HR.out]; exact (any_some_at hjx (by rw [HX.out]; exact decide_eq_true HS.out)).symm), HBr.out⟩
      · have hsd : (x.1 == s) = false := by simpa using hs
        have HS := hide hs
        clear hs
        go_wp2_with fail
        go_roundw
        case rel => exact ⟨j + 1, by omega, by go_num, any_none_take hjx HALL.out (by rw [HX.out]; exact decide_eq_false HS.out), HB3.out⟩
        case measure => simp [intOf]; omega
    · obtain rfl : j = n := by omega
      have HF := hide (HB.out.trans (HB2.out.mono HB.out.size))
      have hall := HALL.out
      rw [List.take_of_length_le (by rw [HN.out]; exact Nat.le_refl _), HR.out] at hall
      subst hall
      go_wp2_with fail
      go_ret
      exact ⟨rfl, HF.out⟩
/-- While a directory is doubled: what came of the first k, in the box. -/
structure DblI (base g3 : Nat) (d : Int) (n : Nat) (es : List En) (k : Nat) (W wr : World) : Prop where
  own : ∃ v, RowAt wr g3 24 #[.int .i64 d, v] ∧ wr.ownsRow base 31 2 v (k * 2) (Cs encE (dbl (es.take k)))
  below : Below W.heap.size W wr
  size : base ≤ wr.heap.size
theorem row_grownE {w w' : World} {g : Nat} {t : TypeId} {cs : Array Value} {row : Option Nat} (h : RowAt w g t cs) (hg : w.grownBy w' row) (hne : some g ≠ row) : RowAt w' g t cs := (hg.block g h.lt hne).trans h
theorem ne_own {w : World} {vA v : Value} {g : Nat} (h : vA.ownBlock = v.ownBlock ∨ vA.ownBlock = some w.heap.size) (h1 : some g ≠ v.ownBlock) (h2 : g < w.heap.size) : some g ≠ vA.ownBlock := by
  rcases h with h | h
  · rw [h]; exact h1
  · rw [h]; intro e; injection e with e; omega
theorem rd_of_row {w : World} {g : Nat} {t : TypeId} {x : En} (h : RowAt w g t #[.int .i64 x.1, .int .u64 x.2]) : Rd w (g + 1) 2 (some ⟨g, 0, none⟩) 1 [.int .i64 x.1, .int .u64 x.2] :=
  ⟨rfl, fun _ => ⟨g, 0, rfl, by omega, fun j u hu => by rw [Nat.zero_add, h.cell]; simpa using hu⟩⟩
set_option maxRecDepth 100000 in
set_option maxHeartbeats 4000000 in
theorem DoubleR_any (B : Nat) (A : Option Addr) (c : Nat) (dep : Int) (es : List En) (W : World) (h : Rd W B 2 A es.length (Cs encE es)) (hB : B ≤ W.heap.size) (hl : es.length ≤ 32) (hd0 : 0 ≤ dep) (hd5 : dep ≤ 5) :
    Calls Try.prog 28 #[.agg #[.int .i64 dep, .slice A es.length c]] W (OwnR W (dep + 1) (dbl es)) := by
  obtain ⟨n, hn⟩ : ∃ n, es.length = n := ⟨_, rfl⟩
  obtain ⟨w1, hw1⟩ : ∃ w1, W.alloc (.cells #[.int .i64 dep, .slice A n c] 24) = w1 := ⟨_, rfl⟩
  obtain ⟨w2, hw2⟩ : ∃ w2, w1.alloc (.cells #[.int .i64 0, .slice none 0 0] 24) = w2 := ⟨_, rfl⟩
  have s1 : w1.heap.size = W.heap.size + 1 := by rw [← hw1]; simp
  have s2 : w2.heap.size = W.heap.size + 1 + 1 := by rw [← hw2]; simp [s1]
  have b1 : Below W.heap.size W w1 := by rw [← hw1]; exact (Below.refl _ _).alloc (Nat.le_refl _) _
  have b2 : Below w1.heap.size w1 w2 := by rw [← hw2]; exact (Below.refl _ _).alloc (Nat.le_refl _) _
  have b3 : Below w2.heap.size w2 (w2.alloc (.cells #[.int .i64 (dep + 1), .slice none 0 0] 24)) := (Below.refl _ _).alloc (Nat.le_refl _) _
  have R1 := hide (show RowAt (w2.alloc (.cells #[.int .i64 (dep + 1), .slice none 0 0] 24)) W.heap.size 24 #[.int .i64 dep, .slice A n c] from by have h := RowAt.new W 24 #[.int .i64 dep, .slice A n c]; rw [hw1] at h; exact (h.below b2).below b3)
  have R2 := hide (show RowAt (w2.alloc (.cells #[.int .i64 (dep + 1), .slice none 0 0] 24)) (W.heap.size + 1) 24 #[.int .i64 0, .slice none 0 0] from by have h := RowAt.new w1 24 #[.int .i64 0, .slice none 0 0]; rw [hw2, s1] at h; exact h.below b3)
  have R3 := hide (show RowAt (w2.alloc (.cells #[.int .i64 (dep + 1), .slice none 0 0] 24)) (W.heap.size + 1 + 1) 24 #[.int .i64 (dep + 1), .slice none 0 0] from by have h := RowAt.new w2 24 #[.int .i64 (dep + 1), .slice none 0 0]; rw [s2] at h; exact h)
  have HB := hide ((b1.trans (b2.mono b1.size)).trans (b3.mono (Nat.le_trans b1.size b2.size)))
  have S3 := hide (show (w2.alloc (.cells #[.int .i64 (dep + 1), .slice none 0 0] 24)).heap.size = W.heap.size + 1 + 1 + 1 from by simp [s2])
  have H := hide h
  have HN := hide hn
  have SX := hide s2
  rw [hn] at hl
  rw [hn]
  clear s1 s2 b1 b2 b3 hn h
  subst hw2
  subst hw1
  go_enter Try.func28, Try.ntmps28
  go_upto_region 2 with (fail)
  generalize ((W.alloc (.cells #[.int .i64 dep, .slice A n c] 24)).alloc (.cells #[.int .i64 0, .slice none 0 0] 24)).alloc (.cells #[.int .i64 (dep + 1), .slice none 0 0] 24) = w3 at *
  clear SX
  have q1 := row21 R1.out
  have ql := R1.out.lt
  go_wp2_with fail
  clear q1 ql
  go_loopw [13] (fun iv wr => ∃ k : Nat, k ≤ n ∧ iv = .int .i64 k ∧ DblI w3.heap.size (W.heap.size + 1 + 1) (dep + 1) n es k W wr ∧ RowAt wr (W.heap.size + 1) 24 #[.int .i64 0, .slice none 0 0]) (fun iv _ => n - (intOf iv).toNat)
  case atStart => exact ⟨0, Nat.zero_le _, rfl, ⟨⟨_, R3.out, ⟨rfl, .inl ⟨rfl, rfl⟩⟩⟩, HB.out, Nat.le_refl _⟩, R2.out⟩
  case round =>
    obtain ⟨k, hk, rfl, ⟨⟨v, hrow, hown⟩, hbel, hsz⟩, hz⟩ := hrel
    obtain ⟨A4, c4, rfl, hc4, hcm4⟩ := own_form2 hown
    have HZ := hide hz
    have HO := hide hown
    have HR := hide hrow
    have HBL := hide hbel
    clear hz hown hrow hbel R1 R2 R3
    have s3 := S3.out
    by_cases hlt : k < n
    · have hkx : k < es.length := by rw [HN.out]; exact hlt
      obtain ⟨b, off, hA, hbl, hc⟩ := (H.out.below (HBL.out.mono hB)).elem encE_len hkx
      subst hA
      have HT := hide (dbl_take es hkx)
      obtain ⟨x, hx⟩ : ∃ x, es[k] = x := ⟨_, rfl⟩
      rw [hx] at hc HT
      have z0 := hc 0 _ (by omega) rfl
      have z1 := hc 1 _ (by omega) rfl
      simp only [Nat.add_zero] at z0
      try dsimp only at z1
      have hbX : b < wr.heap.size := Nat.lt_of_lt_of_le hbl (Nat.le_trans hB HBL.out.size)
      have hkI : (k : Int) < (n : Int) := by omega
      have hba := (Below.refl _ wr).alloc (Nat.le_refl _) (.cells #[.int .i64 x.1, .int .u64 x.2] 31)
      have R5 := hide (RowAt.new wr 31 #[.int .i64 x.1, .int .u64 x.2])
      have R3 := hide (HR.out.below hba)
      have RZ := hide (HZ.out.below hba)
      have O5 := hide (own_keepB HO.out hba)
      have HB5 := hide (HBL.out.trans (hba.mono HBL.out.size))
      have HNE := hide (show some wr.heap.size ≠ (Value.slice A4 (k * 2) c4).ownBlock from fun e => by have := (own_blk HO.out e.symm).2; omega)
      have HN3 := hide (show some (W.heap.size + 1 + 1) ≠ (Value.slice A4 (k * 2) c4).ownBlock from fun e => by have := (own_blk HO.out e.symm).1; omega)
      have HNZ := hide (show some (W.heap.size + 1) ≠ (Value.slice A4 (k * 2) c4).ownBlock from fun e => by have := (own_blk HO.out e.symm).1; omega)
      have HOB := hide (show ∀ j, some j = (Value.slice A4 (k * 2) c4).ownBlock → j < wr.heap.size from fun j e => (own_blk HO.out e.symm).2)
      have hs5 : w3.heap.size ≤ (wr.alloc (.cells #[.int .i64 x.1, .int .u64 x.2] 31)).heap.size := by simp; omega
      have hg5 : wr.heap.size < (wr.alloc (.cells #[.int .i64 x.1, .int .u64 x.2] 31)).heap.size := by simp
      clear hc hx hba hbl HO HR HZ HBL
      go_upto_region 5 with (fail)
      clear z0 z1
      generalize hg8 : wr.heap.size = g5 at *
      clear hg8
      generalize wr.alloc (.cells #[.int .i64 x.1, .int .u64 x.2] 31) = w5 at *
      have u0 := row20 R5.out
      have u1 := row21 R5.out
      have ul := R5.out.lt
      have p1 := row21 R3.out
      have pl := R3.out.lt
      have pf := R3.out.frozen 1
      obtain ⟨w6, hw6⟩ : ∃ w, w = w5.drew.alloc (.cells #[.int .i64 x.1, .int .u64 x.2] 31) := ⟨_, rfl⟩
      obtain ⟨w7, hw7⟩ : ∃ w, w = w6.alloc (.cells #[.int .i64 x.1, .int .u64 x.2] 31) := ⟨_, rfl⟩
      have s6 : w6.heap.size = w5.drew.heap.size + 1 := by rw [hw6]; simp
      have b56 : Below w5.drew.heap.size w5.drew w6 := by rw [hw6]; exact (Below.refl _ _).alloc (Nat.le_refl _) _
      have b67 : Below w6.heap.size w6 w7 := by rw [hw7]; exact (Below.refl _ _).alloc (Nat.le_refl _) _
      have R56 := hide (R5.out.drew.below b56)
      have R57 := hide (R56.out.below b67)
      have R36 := hide (R3.out.drew.below b56)
      have R37 := hide (R36.out.below b67)
      have RZ6 := hide (RZ.out.drew.below b56)
      have RZ7 := hide (RZ6.out.below b67)
      have O6 := hide (own_keepB (show w5.drew.ownsRow w3.heap.size 31 2 (.slice A4 (k * 2) c4) (k * 2) (Cs encE (dbl (es.take k))) from O5.out) b56)
      have O7 := hide (own_keepB O6.out b67)
      have X6 := hide (show RowAt w6 w5.drew.heap.size 31 #[.int .i64 x.1, .int .u64 x.2] from by rw [hw6]; exact RowAt.new _ _ _)
      have X7 := hide (X6.out.below b67)
      have Y7 := hide (show RowAt w7 (w5.drew.heap.size + 1) 31 #[.int .i64 x.1, .int .u64 x.2] from by rw [hw7, ← s6]; exact RowAt.new _ _ _)
      have HX6 := hide (rd_of_row X6.out)
      have HX7 := hide (rd_of_row X7.out)
      have HY7 := hide (rd_of_row Y7.out)
      have HB6 := hide (show Below w3.heap.size w5 w6 from ((Below.refl _ w5).drew.trans (b56.mono hs5)))
      have HB7 := hide (HB6.out.trans (b67.mono (by rw [s6]; exact Nat.le_succ_of_le hs5)))
      have HNX := hide (show some w5.drew.heap.size ≠ (Value.slice A4 (k * 2) c4).ownBlock from fun e => by have := HOB.out _ e; have : w5.drew.heap.size = w5.heap.size := rfl; omega)
      have HNY := hide (show some (w5.drew.heap.size + 1) ≠ (Value.slice A4 (k * 2) c4).ownBlock from fun e => by have := HOB.out _ e; have : w5.drew.heap.size = w5.heap.size := rfl; omega)
      have hs6 : w3.heap.size ≤ w6.heap.size := by rw [s6]; exact Nat.le_succ_of_le hs5
      have hs7 : w3.heap.size ≤ w7.heap.size := Nat.le_trans hs6 b67.size
      clear b56 b67 s6
      subst hw7
      subst hw6
      refine wp_region_T (fun wX => wX.cell? ⟨W.heap.size + 1 + 1, 1, none⟩ = some (.slice A4 (k * 2) c4) ∧ wX.cell? ⟨g5, 0, none⟩ = some (.int .i64 x.1) ∧ wX.cell? ⟨g5, 1, none⟩ = some (.int .u64 x.2) ∧ g5 < wX.heap.size ∧ W.heap.size + 1 + 1 < wX.heap.size) 9 (by kernel_rfl) (⟨row21 R3.out.drew, row20 R5.out.drew, row21 R5.out.drew, (R5.out.drew).lt, (R3.out.drew).lt⟩) (fun hHeld => ?_)
      (refine wpAnyT_take (i := 0) (v := ?_) rfl (by kernel_rfl) (by kernel_rfl) (by kernel_rfl) (by kernel_rfl) (fun _ _ _ h => h) (Or.inl ⟨by rfl, ?_⟩) (by assumption) ?_; rotate_left; (focus (intro w hSw; (try dsimp only at hSw); obtain ⟨kf0, kf1, kf2, kf3, kf4⟩ := hSw; go_simp; first | done | with_reducible rfl)); (try simp only [Act.put, List.getElem_toArray, List.getElem_cons_succ, List.getElem_cons_zero, List.setIfInBounds_toArray, List.set_cons_zero, List.set_cons_succ]))
      (refine wpAnyT_take (i := 1) (v := ?_) rfl (by kernel_rfl) (by kernel_rfl) (by kernel_rfl) (by kernel_rfl) (fun _ _ _ h => h) (Or.inl ⟨by rfl, ?_⟩) (by assumption) ?_; rotate_left; (focus (intro w hSw; (try dsimp only at hSw); obtain ⟨kf0, kf1, kf2, kf3, kf4⟩ := hSw; go_simp; first | done | with_reducible rfl)); (try simp only [Act.put, List.getElem_toArray, List.getElem_cons_succ, List.getElem_cons_zero, List.setIfInBounds_toArray, List.set_cons_zero, List.set_cons_succ]))
      (refine wpAnyT_take (i := 2) (v := ?_) rfl (by kernel_rfl) (by kernel_rfl) (by kernel_rfl) (by kernel_rfl) (fun _ _ _ h => h) (Or.inl ⟨by rfl, ?_⟩) (by assumption) ?_; rotate_left; (focus (intro w hSw; (try dsimp only at hSw); obtain ⟨kf0, kf1, kf2, kf3, kf4⟩ := hSw; go_simp; first | done | with_reducible rfl)); (try simp only [Act.put, List.getElem_toArray, List.getElem_cons_succ, List.getElem_cons_zero, List.setIfInBounds_toArray, List.set_cons_zero, List.set_cons_succ]))
      (refine wpAnyT_take (i := 5) (v := ?_) rfl (by kernel_rfl) (by kernel_rfl) (by kernel_rfl) (by kernel_rfl) (fun _ _ _ h => h) (Or.inl ⟨by rfl, ?_⟩) (by assumption) ?_; rotate_left; (focus (intro w hSw; (try dsimp only at hSw); obtain ⟨kf0, kf1, kf2, kf3, kf4⟩ := hSw; go_simp; first | done | with_reducible rfl)); (try simp only [Act.put, List.getElem_toArray, List.getElem_cons_succ, List.getElem_cons_zero, List.setIfInBounds_toArray, List.set_cons_zero, List.set_cons_succ]))
      refine wpAnyT_two (i := 3) (j := 6) rfl rfl (by kernel_rfl) (fun K0 hK0 => ?_) (fun K1 hK1 => ?_)
      · go_simp
        refine hK0.out _ _ (fun _ => ⟨row21 R36.out, row20 R56.out, row21 R56.out, (R56.out).lt, (R36.out).lt⟩) ?_
        clear hK0 K0
        (try simp only [Act.put, List.getElem_toArray, List.getElem_cons_succ, List.getElem_cons_zero, List.setIfInBounds_toArray, List.set_cons_zero, List.set_cons_succ])
        refine wpAnyT_two (i := 4) (j := 6) rfl rfl (by kernel_rfl) (fun K2 hK2 => ?_) (fun K3 hK3 => ?_)
        · rw [if_pos (by rfl)]
          refine wp_app elE (v := .slice A4 (k * 2) c4) _ _ rfl rfl O6.out rfl HX6.out (by simp [Value.oneCell']) (by omega) hs6 ?_
          intro vA wA hownA hbA hgA hvA
          obtain ⟨AA, cAA, rfl, hcAA, hcAAm⟩ := own_form2 hownA
          have HOA := hide hownA
          have RA5 := hide (row_grownE R56.out hgA HNE.out)
          have RA3 := hide (row_grownE R36.out hgA HN3.out)
          have RAZ := hide (row_grownE RZ6.out hgA HNZ.out)
          have HBA := hide (HB6.out.trans hbA)
          have HN3A := hide (ne_own hvA HN3.out R36.out.lt)
          have HNZA := hide (ne_own hvA HNZ.out RZ6.out.lt)
          have HN5A := hide (ne_own hvA HNE.out R56.out.lt)
          have hsA := Nat.le_trans hs6 hgA.size
          clear hownA hbA hgA hvA
          refine hK2.out _ _ (fun _ => ⟨row21 RA3.out, row20 RA5.out, row21 RA5.out, (RA5.out).lt, (RA3.out).lt⟩) ?_
          clear hK2 K2
          (try simp only [Act.put, List.getElem_toArray, List.getElem_cons_succ, List.getElem_cons_zero, List.setIfInBounds_toArray, List.set_cons_zero, List.set_cons_succ])
          refine wpAnyT_one (i := 6) rfl (by kernel_rfl) (fun K4 hK4 => ?_)
          go_simp
          refine hK4.out _ _ (fun _ => ⟨row21 (RA3.out.below ((Below.refl _ wA).alloc (Nat.le_refl _) (.cells #[.int .i64 x.1, .int .u64 x.2] 31))), row20 (RA5.out.below ((Below.refl _ wA).alloc (Nat.le_refl _) (.cells #[.int .i64 x.1, .int .u64 x.2] 31))), row21 (RA5.out.below ((Below.refl _ wA).alloc (Nat.le_refl _) (.cells #[.int .i64 x.1, .int .u64 x.2] 31))), ((RA5.out.below ((Below.refl _ wA).alloc (Nat.le_refl _) (.cells #[.int .i64 x.1, .int .u64 x.2] 31)))).lt, ((RA3.out.below ((Below.refl _ wA).alloc (Nat.le_refl _) (.cells #[.int .i64 x.1, .int .u64 x.2] 31)))).lt⟩) ?_
          clear hK4 K4
          (try simp only [Act.put, List.getElem_toArray, List.getElem_cons_succ, List.getElem_cons_zero, List.setIfInBounds_toArray, List.set_cons_zero, List.set_cons_succ])
          refine wpAnyT_one (i := 7) rfl (by kernel_rfl) (fun K5 hK5 => ?_)
          rw [if_pos (by rfl)]
          refine wp_app elE (v := .slice AA (k * 2 + 1) cAA) _ _ rfl rfl (HOA.out.alloc _) rfl (Rd.new wA #[.int .i64 x.1, .int .u64 x.2] 31 2 1 rfl) (by simp [Value.oneCell']) (by omega) (by rw [World.size_alloc]; exact Nat.le_succ_of_le hsA) ?_
          intro vB wB hownB hbB hgB _
          obtain ⟨AB, cBB, rfl, hcBB, hcBBm⟩ := own_form2 hownB
          have HOB2 := hide hownB
          have RB3 := hide (row_grownE (RA3.out.below ((Below.refl _ wA).alloc (Nat.le_refl _) (.cells #[.int .i64 x.1, .int .u64 x.2] 31))) hgB HN3A.out)
          have RBZ := hide (row_grownE (RAZ.out.below ((Below.refl _ wA).alloc (Nat.le_refl _) (.cells #[.int .i64 x.1, .int .u64 x.2] 31))) hgB HNZA.out)
          have RB5 := hide (row_grownE (RA5.out.below ((Below.refl _ wA).alloc (Nat.le_refl _) (.cells #[.int .i64 x.1, .int .u64 x.2] 31))) hgB HN5A.out)
          have HBB := hide ((HBA.out.alloc hsA (.cells #[.int .i64 x.1, .int .u64 x.2] 31)).trans hbB)
          have hsB : w3.heap.size ≤ wB.heap.size := Nat.le_trans (by rw [World.size_alloc]; exact Nat.le_succ_of_le hsA) hgB.size
          clear hownB hbB hgB
          refine hK5.out _ _ (fun _ => ⟨row21 RB3.out, row20 RB5.out, row21 RB5.out, (RB5.out).lt, (RB3.out).lt⟩) ?_
          clear hK5 K5
          (try simp only [Act.put, List.getElem_toArray, List.getElem_cons_succ, List.getElem_cons_zero, List.setIfInBounds_toArray, List.set_cons_zero, List.set_cons_succ])
          refine wpAnyT_one (i := 8) rfl (by kernel_rfl) (fun K6 hK6 => ?_)
          go_simp
          refine hK6.out _ _ (fun _ => ⟨row21 RB3.out, row20 RB5.out, row21 RB5.out, (RB5.out).lt, (RB3.out).lt⟩) ?_
          clear hK6 K6
          (try simp only [Act.put, List.getElem_toArray, List.getElem_cons_succ, List.getElem_cons_zero, List.setIfInBounds_toArray, List.set_cons_zero, List.set_cons_succ])
          refine wpAnyT_one (i := 9) rfl (by kernel_rfl) (fun K7 hK7 => ?_)
          have b31 := row21 RB3.out
          have b3l := RB3.out.lt
          have b3f := RB3.out.frozen 1
          go_simp
          refine hK7.out _ _ (fun h => absurd rfl h) ?_
          clear hK7 K7
          (try simp only [Act.put, List.getElem_toArray, List.getElem_cons_succ, List.getElem_cons_zero, List.setIfInBounds_toArray, List.set_cons_zero, List.set_cons_succ])
          refine wpAnyT_done (by kernel_rfl) ?_ _
          have HCB := hide (show Cs encE (dbl (es.take (k + 1))) = (Cs encE (dbl (es.take k)) ++ [.int .i64 x.1, .int .u64 x.2]) ++ [.int .i64 x.1, .int .u64 x.2] from by
            rw [HT.out, Cs_append, List.append_assoc]; rfl)
          have RZN := hide (RBZ.out.setNe (g2 := W.heap.size + 1 + 1) (o := 1) (v := .slice AB (k * 2 + 1 + 1) cBB) (by omega))
          have R3N := hide (RB3.out.set 1 (.slice AB (k * 2 + 1 + 1) cBB))
          have OBN := hide (own_other2 (w' := wB.setCell ⟨W.heap.size + 1 + 1, 1, none⟩ (.slice AB (k * 2 + 1 + 1) cBB)) HOB2.out (fun g hg _ => heap_setCell_ne _ _ _ _ (by simp; omega)))
          have HBN := hide ((HB5.out.trans (HBB.out.mono (by omega))).setCell (p := ⟨W.heap.size + 1 + 1, 1, none⟩) (by simp; omega) (.slice AB (k * 2 + 1 + 1) cBB))
          clear b31 b3l b3f RB3 RBZ HOB2 HBB
          go_wp2_with fail
          go_roundw
          case rel =>
            refine ⟨k + 1, by omega, by go_num, ⟨⟨.slice AB (k * 2 + 1 + 1) cBB, R3N.out, ?_⟩, HBN.out, by simp; exact hsB⟩, RZN.out⟩
            rw [show (k + 1) * 2 = k * 2 + 1 + 1 by omega, HCB.out]
            exact OBN.out
          case measure => simp [intOf]; omega
        · go_simp
          refine hK3.out _ _ (fun _ => ⟨row21 R37.out, row20 R57.out, row21 R57.out, (R57.out).lt, (R37.out).lt⟩) ?_
          clear hK3 K3
          (try simp only [Act.put, List.getElem_toArray, List.getElem_cons_succ, List.getElem_cons_zero, List.setIfInBounds_toArray, List.set_cons_zero, List.set_cons_succ])
          refine wpAnyT_one (i := 4) rfl (by kernel_rfl) (fun K8 hK8 => ?_)
          rw [if_pos (by rfl)]
          refine wp_app elE (v := .slice A4 (k * 2) c4) _ _ rfl rfl O7.out rfl HX7.out (by simp [Value.oneCell']) (by omega) hs7 ?_
          intro vA wA hownA hbA hgA hvA
          obtain ⟨AA, cAA, rfl, hcAA, hcAAm⟩ := own_form2 hownA
          have HOA := hide hownA
          have RA5 := hide (row_grownE R57.out hgA HNE.out)
          have RA3 := hide (row_grownE R37.out hgA HN3.out)
          have RAZ := hide (row_grownE RZ7.out hgA HNZ.out)
          have HBA := hide (HB7.out.trans hbA)
          have HN3A := hide (ne_own hvA HN3.out R37.out.lt)
          have HNZA := hide (ne_own hvA HNZ.out RZ7.out.lt)
          have HN5A := hide (ne_own hvA HNE.out R57.out.lt)
          have hsA := Nat.le_trans hs7 hgA.size
          have HS7 := hide (rd_of_row (row_grownE Y7.out hgA HNY.out))
          clear hownA hbA hgA hvA
          refine hK8.out _ _ (fun _ => ⟨row21 RA3.out, row20 RA5.out, row21 RA5.out, (RA5.out).lt, (RA3.out).lt⟩) ?_
          clear hK8 K8
          (try simp only [Act.put, List.getElem_toArray, List.getElem_cons_succ, List.getElem_cons_zero, List.setIfInBounds_toArray, List.set_cons_zero, List.set_cons_succ])
          refine wpAnyT_one (i := 7) rfl (by kernel_rfl) (fun K9 hK9 => ?_)
          rw [if_pos (by rfl)]
          refine wp_app elE (v := .slice AA (k * 2 + 1) cAA) _ _ rfl rfl HOA.out rfl HS7.out (by simp [Value.oneCell']) (by omega) hsA ?_
          intro vB wB hownB hbB hgB _
          obtain ⟨AB, cBB, rfl, hcBB, hcBBm⟩ := own_form2 hownB
          have HOB2 := hide hownB
          have RB3 := hide (row_grownE RA3.out hgB HN3A.out)
          have RBZ := hide (row_grownE RAZ.out hgB HNZA.out)
          have RB5 := hide (row_grownE RA5.out hgB HN5A.out)
          have HBB := hide (HBA.out.trans hbB)
          have hsB : w3.heap.size ≤ wB.heap.size := Nat.le_trans hsA hgB.size
          clear hownB hbB hgB
          refine hK9.out _ _ (fun _ => ⟨row21 RB3.out, row20 RB5.out, row21 RB5.out, (RB5.out).lt, (RB3.out).lt⟩) ?_
          clear hK9 K9
          (try simp only [Act.put, List.getElem_toArray, List.getElem_cons_succ, List.getElem_cons_zero, List.setIfInBounds_toArray, List.set_cons_zero, List.set_cons_succ])
          refine wpAnyT_one (i := 8) rfl (by kernel_rfl) (fun K10 hK10 => ?_)
          go_simp
          refine hK10.out _ _ (fun _ => ⟨row21 RB3.out, row20 RB5.out, row21 RB5.out, (RB5.out).lt, (RB3.out).lt⟩) ?_
          clear hK10 K10
          (try simp only [Act.put, List.getElem_toArray, List.getElem_cons_succ, List.getElem_cons_zero, List.setIfInBounds_toArray, List.set_cons_zero, List.set_cons_succ])
          refine wpAnyT_one (i := 9) rfl (by kernel_rfl) (fun K11 hK11 => ?_)
          have b31 := row21 RB3.out
          have b3l := RB3.out.lt
          have b3f := RB3.out.frozen 1
          go_simp
          refine hK11.out _ _ (fun h => absurd rfl h) ?_
          clear hK11 K11
          (try simp only [Act.put, List.getElem_toArray, List.getElem_cons_succ, List.getElem_cons_zero, List.setIfInBounds_toArray, List.set_cons_zero, List.set_cons_succ])
          refine wpAnyT_done (by kernel_rfl) ?_ _
          have HCB := hide (show Cs encE (dbl (es.take (k + 1))) = (Cs encE (dbl (es.take k)) ++ [.int .i64 x.1, .int .u64 x.2]) ++ [.int .i64 x.1, .int .u64 x.2] from by
            rw [HT.out, Cs_append, List.append_assoc]; rfl)
          have RZN := hide (RBZ.out.setNe (g2 := W.heap.size + 1 + 1) (o := 1) (v := .slice AB (k * 2 + 1 + 1) cBB) (by omega))
          have R3N := hide (RB3.out.set 1 (.slice AB (k * 2 + 1 + 1) cBB))
          have OBN := hide (own_other2 (w' := wB.setCell ⟨W.heap.size + 1 + 1, 1, none⟩ (.slice AB (k * 2 + 1 + 1) cBB)) HOB2.out (fun g hg _ => heap_setCell_ne _ _ _ _ (by simp; omega)))
          have HBN := hide ((HB5.out.trans (HBB.out.mono (by omega))).setCell (p := ⟨W.heap.size + 1 + 1, 1, none⟩) (by simp; omega) (.slice AB (k * 2 + 1 + 1) cBB))
          clear b31 b3l b3f RB3 RBZ HOB2 HBB
          go_wp2_with fail
          go_roundw
          case rel =>
            refine ⟨k + 1, by omega, by go_num, ⟨⟨.slice AB (k * 2 + 1 + 1) cBB, R3N.out, ?_⟩, HBN.out, by simp; exact hsB⟩, RZN.out⟩
            rw [show (k + 1) * 2 = k * 2 + 1 + 1 by omega, HCB.out]
            exact OBN.out
          case measure => simp [intOf]; omega
      · go_simp
        refine hK1.out _ _ (fun _ => ⟨row21 R36.out, row20 R56.out, row21 R56.out, (R56.out).lt, (R36.out).lt⟩) ?_
        clear hK1 K1
        (try simp only [Act.put, List.getElem_toArray, List.getElem_cons_succ, List.getElem_cons_zero, List.setIfInBounds_toArray, List.set_cons_zero, List.set_cons_succ])
        refine wpAnyT_one (i := 3) rfl (by kernel_rfl) (fun K12 hK12 => ?_)
        go_simp
        refine hK12.out _ _ (fun _ => ⟨row21 R37.out, row20 R57.out, row21 R57.out, (R57.out).lt, (R37.out).lt⟩) ?_
        clear hK12 K12
        (try simp only [Act.put, List.getElem_toArray, List.getElem_cons_succ, List.getElem_cons_zero, List.setIfInBounds_toArray, List.set_cons_zero, List.set_cons_succ])
        refine wpAnyT_one (i := 4) rfl (by kernel_rfl) (fun K13 hK13 => ?_)
        rw [if_pos (by rfl)]
        refine wp_app elE (v := .slice A4 (k * 2) c4) _ _ rfl rfl O7.out rfl HY7.out (by simp [Value.oneCell']) (by omega) hs7 ?_
        intro vA wA hownA hbA hgA hvA
        obtain ⟨AA, cAA, rfl, hcAA, hcAAm⟩ := own_form2 hownA
        have HOA := hide hownA
        have RA5 := hide (row_grownE R57.out hgA HNE.out)
        have RA3 := hide (row_grownE R37.out hgA HN3.out)
        have RAZ := hide (row_grownE RZ7.out hgA HNZ.out)
        have HBA := hide (HB7.out.trans hbA)
        have HN3A := hide (ne_own hvA HN3.out R37.out.lt)
        have HNZA := hide (ne_own hvA HNZ.out RZ7.out.lt)
        have HN5A := hide (ne_own hvA HNE.out R57.out.lt)
        have hsA := Nat.le_trans hs7 hgA.size
        have HS7 := hide (rd_of_row (row_grownE X7.out hgA HNX.out))
        clear hownA hbA hgA hvA
        refine hK13.out _ _ (fun _ => ⟨row21 RA3.out, row20 RA5.out, row21 RA5.out, (RA5.out).lt, (RA3.out).lt⟩) ?_
        clear hK13 K13
        (try simp only [Act.put, List.getElem_toArray, List.getElem_cons_succ, List.getElem_cons_zero, List.setIfInBounds_toArray, List.set_cons_zero, List.set_cons_succ])
        refine wpAnyT_one (i := 7) rfl (by kernel_rfl) (fun K14 hK14 => ?_)
        rw [if_pos (by rfl)]
        refine wp_app elE (v := .slice AA (k * 2 + 1) cAA) _ _ rfl rfl HOA.out rfl HS7.out (by simp [Value.oneCell']) (by omega) hsA ?_
        intro vB wB hownB hbB hgB _
        obtain ⟨AB, cBB, rfl, hcBB, hcBBm⟩ := own_form2 hownB
        have HOB2 := hide hownB
        have RB3 := hide (row_grownE RA3.out hgB HN3A.out)
        have RBZ := hide (row_grownE RAZ.out hgB HNZA.out)
        have RB5 := hide (row_grownE RA5.out hgB HN5A.out)
        have HBB := hide (HBA.out.trans hbB)
        have hsB : w3.heap.size ≤ wB.heap.size := Nat.le_trans hsA hgB.size
        clear hownB hbB hgB
        refine hK14.out _ _ (fun _ => ⟨row21 RB3.out, row20 RB5.out, row21 RB5.out, (RB5.out).lt, (RB3.out).lt⟩) ?_
        clear hK14 K14
        (try simp only [Act.put, List.getElem_toArray, List.getElem_cons_succ, List.getElem_cons_zero, List.setIfInBounds_toArray, List.set_cons_zero, List.set_cons_succ])
        refine wpAnyT_one (i := 8) rfl (by kernel_rfl) (fun K15 hK15 => ?_)
        go_simp
        refine hK15.out _ _ (fun _ => ⟨row21 RB3.out, row20 RB5.out, row21 RB5.out, (RB5.out).lt, (RB3.out).lt⟩) ?_
        clear hK15 K15
        (try simp only [Act.put, List.getElem_toArray, List.getElem_cons_succ, List.getElem_cons_zero, List.setIfInBounds_toArray, List.set_cons_zero, List.set_cons_succ])
        refine wpAnyT_one (i := 9) rfl (by kernel_rfl) (fun K16 hK16 => ?_)
        have b31 := row21 RB3.out
        have b3l := RB3.out.lt
        have b3f := RB3.out.frozen 1
        go_simp
        refine hK16.out _ _ (fun h => absurd rfl h) ?_
        clear hK16 K16
        (try simp only [Act.put, List.getElem_toArray, List.getElem_cons_succ, List.getElem_cons_zero, List.setIfInBounds_toArray, List.set_cons_zero, List.set_cons_succ])
        refine wpAnyT_done (by kernel_rfl) ?_ _
        have HCB := hide (show Cs encE (dbl (es.take (k + 1))) = (Cs encE (dbl (es.take k)) ++ [.int .i64 x.1, .int .u64 x.2]) ++ [.int .i64 x.1, .int .u64 x.2] from by
          rw [HT.out, Cs_append, List.append_assoc]; rfl)
        have RZN := hide (RBZ.out.setNe (g2 := W.heap.size + 1 + 1) (o := 1) (v := .slice AB (k * 2 + 1 + 1) cBB) (by omega))
        have R3N := hide (RB3.out.set 1 (.slice AB (k * 2 + 1 + 1) cBB))
        have OBN := hide (own_other2 (w' := wB.setCell ⟨W.heap.size + 1 + 1, 1, none⟩ (.slice AB (k * 2 + 1 + 1) cBB)) HOB2.out (fun g hg _ => heap_setCell_ne _ _ _ _ (by simp; omega)))
        have HBN := hide ((HB5.out.trans (HBB.out.mono (by omega))).setCell (p := ⟨W.heap.size + 1 + 1, 1, none⟩) (by simp; omega) (.slice AB (k * 2 + 1 + 1) cBB))
        clear b31 b3l b3f RB3 RBZ HOB2 HBB
        go_wp2_with fail
        go_roundw
        case rel =>
          refine ⟨k + 1, by omega, by go_num, ⟨⟨.slice AB (k * 2 + 1 + 1) cBB, R3N.out, ?_⟩, HBN.out, by simp; exact hsB⟩, RZN.out⟩
          rw [show (k + 1) * 2 = k * 2 + 1 + 1 by omega, HCB.out]
          exact OBN.out
        case measure => simp [intOf]; omega
    · obtain rfl : k = n := by omega
      have HF := hide (show es.take k = es from List.take_of_length_le (by rw [HN.out]; exact Nat.le_refl _))
      have q0 := row20 HR.out
      have q1 := row21 HR.out
      have ql := HR.out.lt
      have z0 := row20 HZ.out
      have z1 := row21 HZ.out
      have zl := HZ.out.lt
      have zf0 := HZ.out.frozen 0
      have zf1 := HZ.out.frozen 1
      have hr9 := (HZ.out.set 0 (.int .i64 (dep + 1))).set 1 (.slice A4 (k * 2) c4)
      have ho9 := own_other2 (w' := (wr.setCell ⟨W.heap.size + 1, 0, none⟩ (.int .i64 (dep + 1))).setCell ⟨W.heap.size + 1, 1, none⟩ (.slice A4 (k * 2) c4)) HO.out (fun g hg _ => by rw [heap_setCell_ne _ _ _ _ (by simp; omega), heap_setCell_ne _ _ _ _ (by simp; omega)])
      have hb9 := (HBL.out.setCell (p := ⟨W.heap.size + 1, 0, none⟩) (by simp) (.int .i64 (dep + 1))).setCell (p := ⟨W.heap.size + 1, 1, none⟩) (by simp) (.slice A4 (k * 2) c4)
      have HR9 := hide hr9
      have HO9 := hide ho9
      have HB9 := hide hb9
      clear hr9 ho9 hb9
      go_wp2_with fail
      have hr9 := HR9.out
      have ho9 := HO9.out
      have hb9 := HB9.out
      have hr9 : RowAt ((wr.setCell ⟨W.heap.size + 1, 0, none⟩ (.int .i64 (dep + 1))).setCell ⟨W.heap.size + 1, 1, none⟩ (.slice A4 (k * 2) c4)) (W.heap.size + 1) 24 #[.int .i64 (dep + 1), .slice A4 (k * 2) c4] := hr9
      generalize (wr.setCell ⟨W.heap.size + 1, 0, none⟩ (.int .i64 (dep + 1))).setCell ⟨W.heap.size + 1, 1, none⟩ (.slice A4 (k * 2) c4) = w9 at *
      have y0 := row20 hr9
      have y1 := row21 hr9
      have yl := hr9.lt
      have hf : OwnR W (dep + 1) (dbl es) (.returned (.agg #[.int .i64 (dep + 1), .slice A4 (k * 2) c4])) w9 := by
        refine ⟨A4, c4, by rw [dbl_length, HN.out, Nat.mul_comm], ?_, hb9⟩
        rw [dbl_length, HN.out, Nat.mul_comm 2 k]
        rw [HF.out] at ho9
        exact ownsRow_base ho9 (by omega)
      exact bodyPost_ret (v := .agg #[.int .i64 (dep + 1), .slice A4 (k * 2) c4]) (by simp [results, Try.results28, go_sem, y0, y1, yl]) rfl hf
theorem halfX_append : ∀ (n : Nat) (l r L : List En), l.length ≤ n → l.length % 2 = 0 → halfX l = some L → halfX (l ++ r) = (halfX r).map (fun t => L ++ t)
  | _, [], r, L, _, _, h => by
    obtain rfl : [] = L := Option.some.inj h
    show halfX r = _
    cases halfX r <;> rfl
  | 0, x :: l, r, L, h0, _, _ => by simp at h0
  | n + 1, [x], r, L, _, h2, _ => by simp at h2
  | n + 1, a :: b :: l, r, L, h0, h2, h => by
    unfold halfX at h
    by_cases hab : a = b
    · rw [if_pos hab] at h
      cases hl : halfX l with
      | none => rw [hl] at h; cases h
      | some L2 =>
        rw [hl] at h
        obtain rfl : a :: L2 = L := Option.some.inj h
        have ih := halfX_append n l r L2 (by simp at h0; omega) (by simp at h2; omega) hl
        show (if a = b then (halfX (l ++ r)).map (a :: ·) else none) = _
        rw [if_pos hab, ih]
        cases halfX r <;> rfl
    · rw [if_neg hab] at h; cases h
/-- While a directory is halved: what came of the first i. -/
def HlvS (es : List En) (i : Nat) (L : List En) : Prop := ∃ q L0, halfX (es.take (2 * q)) = some L0 ∧ L0.length = q ∧ ((i = 2 * q ∧ L = L0) ∨ (i = 2 * q + 1 ∧ ∃ h : 2 * q < es.length, L = L0 ++ [es[2 * q]]))
theorem HlvS.even {es L : List En} {i : Nat} (h : HlvS es i L) (hi : i % 2 = 0) (hlt : i < es.length) : HlvS es (i + 1) (L ++ [es[i]]) := by
  obtain ⟨q, L0, h1, h2, ⟨rfl, rfl⟩ | ⟨rfl, _⟩⟩ := h
  · exact ⟨q, L, h1, h2, .inr ⟨rfl, hlt, rfl⟩⟩
  · omega
theorem take_two {es : List En} {q : Nat} (h : 2 * q + 1 < es.length) : es.take (2 * (q + 1)) = es.take (2 * q) ++ [es[2 * q], es[2 * q + 1]] := by
  rw [show 2 * (q + 1) = 2 * q + 1 + 1 by omega, List.take_succ_eq_append_getElem h, List.take_succ_eq_append_getElem (by omega), List.append_assoc]
  rfl
theorem HlvS.odd {es L : List En} {i : Nat} (h : HlvS es (i + 1) L) (hi : (i + 1) % 2 = 1) (hlt : i + 1 < es.length) (he : es[i + 1] = es[i]) : HlvS es (i + 1 + 1) L := by
  obtain ⟨q, L0, h1, h2, ⟨h3, rfl⟩ | ⟨h3, hq, rfl⟩⟩ := h
  · omega
  · obtain rfl : i = 2 * q := by omega
    refine ⟨q + 1, L0 ++ [es[2 * q]], ?_, by simp [h2], .inl ⟨by omega, rfl⟩⟩
    rw [take_two hlt, halfX_append _ _ _ L0 (Nat.le_refl _) (by rw [List.length_take]; omega) h1]
    unfold halfX
    rw [if_pos he.symm]
    rfl
theorem HlvS.fail {es L : List En} {i : Nat} (h : HlvS es (i + 1) L) (hi : (i + 1) % 2 = 1) (hlt : i + 1 < es.length) (he : es[i + 1] ≠ es[i]) : halfX es = none := by
  obtain ⟨q, L0, h1, h2, ⟨h3, rfl⟩ | ⟨h3, hq, rfl⟩⟩ := h
  · omega
  · obtain rfl : i = 2 * q := by omega
    have e : halfX es = halfX (es.take (2 * q) ++ (es[2 * q] :: es[2 * q + 1] :: es.drop (2 * q + 1 + 1))) := by
      rw [← List.drop_eq_getElem_cons hlt, ← List.drop_eq_getElem_cons hq, List.take_append_drop]
    rw [e, halfX_append _ _ _ L0 (Nat.le_refl _) (by rw [List.length_take]; omega) h1]
    unfold halfX
    rw [if_neg (fun h => he h.symm)]
    rfl
theorem HlvS.done {es L : List En} (h : HlvS es es.length L) (hev : es.length % 2 = 0) : halfX es = some L := by
  obtain ⟨q, L0, h1, h2, ⟨h3, rfl⟩ | ⟨h3, _⟩⟩ := h
  · rw [← h3, List.take_length] at h1; exact h1
  · omega
/-- What halving comes to in the reference. -/
def HlvO (W : World) (dep : Int) : Option (List En) → Ending → World → Prop
  | some ys, e, W' => ∃ A c, e = .returned (.tuple #[.agg #[.int .i64 (dep - 1), .slice A ys.length c], .bool true]) ∧ W'.ownsRow W.heap.size 31 2 (.slice A ys.length c) ys.length (Cs encE ys) ∧ Below W.heap.size W W'
  | none, e, W' => ∃ d A n c, e = .returned (.tuple #[.agg #[.int .i64 d, .slice A n c], .bool false]) ∧ Below W.heap.size W W'
structure HlvI (base g3 : Nat) (d : Int) (L : List En) (W wr : World) : Prop where
  own : ∃ v, RowAt wr g3 24 #[.int .i64 d, v] ∧ wr.ownsRow base 31 2 v L.length (Cs encE L)
  below : Below W.heap.size W wr
  size : base ≤ wr.heap.size
set_option maxRecDepth 100000 in
set_option maxHeartbeats 4000000 in
theorem HalveR_any (B : Nat) (A : Option Addr) (c : Nat) (dep : Int) (es : List En) (W : World) (h : Rd W B 2 A es.length (Cs encE es)) (hB : B ≤ W.heap.size) (hl : es.length ≤ 32) (hd0 : 0 ≤ dep) (hd5 : dep ≤ 5) (hev : 0 < dep → es.length % 2 = 0) (o : Option (List En)) (ho : (if 0 < dep then halfX es else none) = o) :
    Calls Try.prog 29 #[.agg #[.int .i64 dep, .slice A es.length c]] W (HlvO W dep o) := by
  obtain ⟨n, hn⟩ : ∃ n, es.length = n := ⟨_, rfl⟩
  obtain ⟨w1, hw1⟩ : ∃ w1, W.alloc (.cells #[.int .i64 dep, .slice A n c] 24) = w1 := ⟨_, rfl⟩
  obtain ⟨w2, hw2⟩ : ∃ w2, w1.alloc (.cells #[.int .i64 0, .slice none 0 0] 24) = w2 := ⟨_, rfl⟩
  have s1 : w1.heap.size = W.heap.size + 1 := by rw [← hw1]; simp
  have s2 : w2.heap.size = W.heap.size + 1 + 1 := by rw [← hw2]; simp [s1]
  have b1 : Below W.heap.size W w1 := by rw [← hw1]; exact (Below.refl _ _).alloc (Nat.le_refl _) _
  have b2 : Below w1.heap.size w1 w2 := by rw [← hw2]; exact (Below.refl _ _).alloc (Nat.le_refl _) _
  have b3 : Below w2.heap.size w2 (w2.alloc (.cells #[.int .i64 (dep - 1), .slice none 0 0] 24)) := (Below.refl _ _).alloc (Nat.le_refl _) _
  have R1 := hide (show RowAt (w2.alloc (.cells #[.int .i64 (dep - 1), .slice none 0 0] 24)) W.heap.size 24 #[.int .i64 dep, .slice A n c] from by have h := RowAt.new W 24 #[.int .i64 dep, .slice A n c]; rw [hw1] at h; exact (h.below b2).below b3)
  have R2 := hide (show RowAt (w2.alloc (.cells #[.int .i64 (dep - 1), .slice none 0 0] 24)) (W.heap.size + 1) 24 #[.int .i64 0, .slice none 0 0] from by have h := RowAt.new w1 24 #[.int .i64 0, .slice none 0 0]; rw [hw2, s1] at h; exact h.below b3)
  have R3 := hide (show RowAt (w2.alloc (.cells #[.int .i64 (dep - 1), .slice none 0 0] 24)) (W.heap.size + 1 + 1) 24 #[.int .i64 (dep - 1), .slice none 0 0] from by have h := RowAt.new w2 24 #[.int .i64 (dep - 1), .slice none 0 0]; rw [s2] at h; exact h)
  have HB := hide ((b1.trans (b2.mono b1.size)).trans (b3.mono (Nat.le_trans b1.size b2.size)))
  have S3 := hide (show (w2.alloc (.cells #[.int .i64 (dep - 1), .slice none 0 0] 24)).heap.size = W.heap.size + 1 + 1 + 1 from by simp [s2])
  have H := hide h
  have HN := hide hn
  have HO := hide ho
  rw [hn] at hl hev
  have HEV := hide hev
  rw [hn]
  clear s1 s2 b1 b2 b3 hn h ho hev
  subst hw2
  subst hw1
  go_enter Try.func29, Try.ntmps29
  go_upto_region 2 with (fail)
  generalize ((W.alloc (.cells #[.int .i64 dep, .slice A n c] 24)).alloc (.cells #[.int .i64 0, .slice none 0 0] 24)).alloc (.cells #[.int .i64 (dep - 1), .slice none 0 0] 24) = w3 at *
  have q1 := row21 R1.out
  have ql := R1.out.lt
  go_wp2_with fail
  clear q1 ql
  go_loopw [14] (fun iv wr => ∃ (i : Nat) (L : List En), i ≤ n ∧ iv = .int .i64 i ∧ HlvS es i L ∧ L.length ≤ i ∧ HlvI w3.heap.size (W.heap.size + 1 + 1) (dep - 1) L W wr ∧ RowAt wr (W.heap.size + 1) 24 #[.int .i64 0, .slice none 0 0] ∧ RowAt wr W.heap.size 24 #[.int .i64 dep, .slice A n c]) (fun iv _ => n - (intOf iv).toNat)
  case atStart => exact ⟨0, [], Nat.zero_le _, rfl, ⟨0, [], rfl, rfl, .inl ⟨rfl, rfl⟩⟩, Nat.le_refl _, ⟨⟨_, R3.out, ⟨rfl, .inl ⟨rfl, rfl⟩⟩⟩, HB.out, Nat.le_refl _⟩, R2.out, R1.out⟩
  case round =>
    obtain ⟨i, L, hi, rfl, hs, hLi, ⟨⟨v, hrow, hown⟩, hbel, hsz⟩, hz, ha⟩ := hrel
    obtain ⟨m, hm⟩ : ∃ m, L.length = m := ⟨_, rfl⟩
    rw [hm] at hown hLi
    have HM := hide hm
    obtain ⟨A4, c4, rfl, hc4, hcm4⟩ := own_form2 hown
    have HS := hide hs
    have HZ := hide hz
    have HA := hide ha
    have HO4 := hide hown
    have HR := hide hrow
    have HBL := hide hbel
    clear hz hown hrow hbel R1 R2 R3 hs ha hm
    have s3 := S3.out
    by_cases hlt : i < n
    · have hix : i < es.length := by rw [HN.out]; exact hlt
      obtain ⟨b, off, hA, hbl, hc⟩ := (H.out.below (HBL.out.mono hB)).elem encE_len hix
      subst hA
      obtain ⟨x, hx⟩ : ∃ x, es[i] = x := ⟨_, rfl⟩
      have HX := hide hx
      rw [hx] at hc
      have z0 := hc 0 _ (by omega) rfl
      have z1 := hc 1 _ (by omega) rfl
      simp only [Nat.add_zero] at z0
      try dsimp only at z1
      have hbX : b < wr.heap.size := Nat.lt_of_lt_of_le hbl (Nat.le_trans hB HBL.out.size)
      have hiI : (i : Int) < (n : Int) := by omega
      have hba := (Below.refl _ wr).alloc (Nat.le_refl _) (.cells #[.int .i64 x.1, .int .u64 x.2] 31)
      have R6 := hide (RowAt.new wr 31 #[.int .i64 x.1, .int .u64 x.2])
      have R4 := hide (HR.out.below hba)
      have R2 := hide (HZ.out.below hba)
      have R1 := hide (HA.out.below hba)
      have O5 := hide (own_keepB HO4.out hba)
      have HB5 := hide (HBL.out.trans (hba.mono HBL.out.size))
      have HN3 := hide (show some (W.heap.size + 1 + 1) ≠ (Value.slice A4 m c4).ownBlock from fun e => by have := (own_blk HO4.out e.symm).1; omega)
      have HNZ := hide (show some (W.heap.size + 1) ≠ (Value.slice A4 m c4).ownBlock from fun e => by have := (own_blk HO4.out e.symm).1; omega)
      have HNA := hide (show some W.heap.size ≠ (Value.slice A4 m c4).ownBlock from fun e => by have := (own_blk HO4.out e.symm).1; omega)
      have hs5 : w3.heap.size ≤ (wr.alloc (.cells #[.int .i64 x.1, .int .u64 x.2] 31)).heap.size := by simp; omega
      have hbXa : b < (wr.alloc (.cells #[.int .i64 x.1, .int .u64 x.2] 31)).heap.size := by rw [World.size_alloc]; exact Nat.lt_succ_of_lt hbX
      have HKP := hide (fun (g o : Nat) (v : Value) (h : wr.cell? ⟨g, o, none⟩ = some v) => kept hba h)
      clear hc hx hbl HO4 HR HZ HA
      go_upto_region 5 with (fail)
      clear z0 z1
      generalize hg8 : wr.heap.size = g6 at *
      clear hg8
      by_cases hev : i % 2 = 0
      · have hmd : (i : Int) % 2 = 0 := by omega
        have hmt : (i : Int).tmod 2 = 0 := by rw [Int.tmod_eq_emod_of_nonneg (by omega)]; exact hmd
        have HNX := hide (HS.out.even hev hix)
        rw [HX.out] at HNX
        clear hba HKP
        generalize wr.alloc (.cells #[.int .i64 x.1, .int .u64 x.2] 31) = w5 at *
        have u0 := row20 R6.out
        have u1 := row21 R6.out
        have ul := R6.out.lt
        have p1 := row21 R4.out
        have pl := R4.out.lt
        go_wp2_with (at_builtin; refine wpList_app elE (v := .slice A4 m c4) rfl _ _ rfl rfl (O5.out.alloc _) rfl (Rd.new w5 #[.int .i64 x.1, .int .u64 x.2] 31 2 1 rfl) (by simp [Value.oneCell']) (by omega) (by simp; omega) ?_; intro vA wA hownA hbA hgA hvA; obtain ⟨AA, cAA, rfl, hcAA, hcAAm⟩ := own_form2 hownA; have HOA := hide hownA; have RA4 := hide (row_grownE (R4.out.below ((Below.refl _ w5).alloc (Nat.le_refl _) (.cells #[.int .i64 x.1, .int .u64 x.2] 31))) hgA HN3.out); have RA2 := hide (row_grownE (R2.out.below ((Below.refl _ w5).alloc (Nat.le_refl _) (.cells #[.int .i64 x.1, .int .u64 x.2] 31))) hgA HNZ.out); have RA1 := hide (row_grownE (R1.out.below ((Below.refl _ w5).alloc (Nat.le_refl _) (.cells #[.int .i64 x.1, .int .u64 x.2] 31))) hgA HNA.out); have HBA := hide (((Below.refl _ w5).alloc hs5 (.cells #[.int .i64 x.1, .int .u64 x.2] 31)).trans hbA); have hsA : w3.heap.size ≤ wA.heap.size := Nat.le_trans (by rw [World.size_alloc]; exact Nat.le_succ_of_le hs5) hgA.size; have a41 := row21 RA4.out; have a4l := RA4.out.lt; have a4f := RA4.out.frozen 1; clear hownA hbA hgA hvA)
        have HCB := hide (show Cs encE (L ++ [x]) = Cs encE L ++ [.int .i64 x.1, .int .u64 x.2] from by rw [Cs_append]; rfl)
        have RN2 := hide (RA2.out.setNe (g2 := W.heap.size + 1 + 1) (o := 1) (v := .slice AA (m + 1) cAA) (by omega))
        have RN1 := hide (RA1.out.setNe (g2 := W.heap.size + 1 + 1) (o := 1) (v := .slice AA (m + 1) cAA) (by omega))
        have RN4 := hide (RA4.out.set 1 (.slice AA (m + 1) cAA))
        have OBN := hide (own_other2 (w' := wA.setCell ⟨W.heap.size + 1 + 1, 1, none⟩ (.slice AA (m + 1) cAA)) HOA.out (fun g hg _ => heap_setCell_ne _ _ _ _ (by simp; omega)))
        have HBN := hide ((HB5.out.trans (HBA.out.mono (by omega))).setCell (p := ⟨W.heap.size + 1 + 1, 1, none⟩) (by simp; omega) (.slice AA (m + 1) cAA))
        go_roundw
        case rel =>
          refine ⟨i + 1, L ++ [x], by omega, by go_num, HNX.out, by simp [HM.out]; omega, ⟨⟨.slice AA (m + 1) cAA, RN4.out, ?_⟩, HBN.out, by simp; exact hsA⟩, RN2.out, RN1.out⟩
          rw [List.length_append, HM.out, HCB.out]
          exact OBN.out
        case measure => simp [intOf]; omega
      · obtain ⟨p, rfl⟩ : ∃ p, i = p + 1 := ⟨i - 1, by omega⟩
        have hmd : ((p + 1 : Nat) : Int) % 2 = 1 := by omega
        have hmt : ((p + 1 : Nat) : Int).tmod 2 = 1 := by rw [Int.tmod_eq_emod_of_nonneg (by omega)]; exact hmd
        have hsub : IntKind.i64.wrap (((p + 1 : Nat) : Int) - 1) = (p : Int) := by rw [show ((p + 1 : Nat) : Int) - 1 = (p : Int) by omega]; exact IntWalk.i64_in _ (by omega)
        have hpx : p < es.length := by omega
        have hpI : (p : Int) < (n : Int) := by omega
        obtain ⟨b2, off2, hA2, hbl2, hc2⟩ := (H.out.below (HBL.out.mono hB)).elem encE_len hpx
        injection hA2 with hA2
        injection hA2 with hA2a hA2b _
        subst hA2a
        subst hA2b
        obtain ⟨y, hy⟩ : ∃ x, es[p] = x := ⟨_, rfl⟩
        have HY := hide hy
        rw [hy] at hc2
        have y0 := HKP.out _ _ _ (hc2 0 _ (by omega) rfl)
        have y1 := HKP.out _ _ _ (hc2 1 _ (by omega) rfl)
        simp only [Nat.add_zero] at y0
        try dsimp only at y1
        obtain ⟨bq, hbq⟩ : ∃ b, decide (x = y) = b := ⟨_, rfl⟩
        have HBQ := hide hbq
        have hne := fun w => neqE w x y bq hbq
        clear hc2 hy hbq hba HKP
        generalize wr.alloc (.cells #[.int .i64 x.1, .int .u64 x.2] 31) = w5 at *
        have u0 := row20 R6.out
        have u1 := row21 R6.out
        have ul := R6.out.lt
        have p1 := row21 R1.out
        have pl := R1.out.lt
        go_upto_region 7 with (fail)
        go_quiet (fail)
        have HBQ6 := hide (below_drewN HB5.out nq)
        have R4q := hide (R4.out.drewN nq)
        have R2q := hide (R2.out.drewN nq)
        have R1q := hide (R1.out.drewN nq)
        have O5q := hide (show (w5.drewN nq).ownsRow w3.heap.size 31 2 (.slice A4 m c4) m (Cs encE L) from O5.out)
        have hs5q : w3.heap.size ≤ (w5.drewN nq).heap.size := hs5
        clear u0 u1 ul p1 pl y0 y1 hbXa
        generalize w5.drewN nq = w6 at *
        cases bq
        · obtain rfl : none = o := by
            rw [← HO.out]
            split
            · exact (HS.out.fail (by omega) hix (by rw [HX.out, HY.out]; simpa using HBQ.out)).symm
            · rfl
          have z0 := row20 R2q.out
          have z1 := row21 R2q.out
          have zl := R2q.out.lt
          have zf0 := R2q.out.frozen 0
          have zf1 := R2q.out.frozen 1
          have hr9 := (R2q.out.set 0 (.int .i64 0)).set 1 (.slice none 0 0)
          have HR9 := hide (show RowAt ((w6.setCell ⟨W.heap.size + 1, 0, none⟩ (.int .i64 0)).setCell ⟨W.heap.size + 1, 1, none⟩ (.slice none 0 0)) (W.heap.size + 1) 24 #[.int .i64 0, .slice none 0 0] from hr9)
          have HB9 := hide ((HBQ6.out.setCell (p := ⟨W.heap.size + 1, 0, none⟩) (by simp) (.int .i64 0)).setCell (p := ⟨W.heap.size + 1, 1, none⟩) (by simp) (.slice none 0 0))
          clear hr9
          go_wp2_with fail
          have hr9 := HR9.out
          have hb9 := HB9.out
          generalize (w6.setCell ⟨W.heap.size + 1, 0, none⟩ (.int .i64 0)).setCell ⟨W.heap.size + 1, 1, none⟩ (.slice none 0 0) = w9 at *
          have x0 := row20 hr9
          have x1 := row21 hr9
          have xl := hr9.lt
          exact bodyPost_ret (v := .tuple #[.agg #[.int .i64 0, .slice none 0 0], .bool false]) (by simp [results, Try.results29, go_sem, x0, x1, xl]) rfl ⟨_, _, _, _, rfl, hb9⟩
        · have HNX := hide (HS.out.odd (by omega) hix (by rw [HX.out, HY.out]; simpa using HBQ.out))
          go_wp2_with fail
          go_roundw
          case rel =>
            refine ⟨p + 1 + 1, L, by omega, by go_num, HNX.out, by rw [HM.out]; omega, ⟨⟨_, R4q.out, ?_⟩, HBQ6.out, hs5q⟩, R2q.out, R1q.out⟩
            rw [HM.out]
            exact O5q.out
          case measure => simp [intOf]; omega
    · obtain rfl : i = n := by omega
      have q0 := row20 HR.out
      have q1 := row21 HR.out
      have ql := HR.out.lt
      have z0 := row20 HZ.out
      have z1 := row21 HZ.out
      have zl := HZ.out.lt
      have zf0 := HZ.out.frozen 0
      have zf1 := HZ.out.frozen 1
      have hr9 := (HZ.out.set 0 (.int .i64 (dep - 1))).set 1 (.slice A4 m c4)
      have HR9 := hide (show RowAt ((wr.setCell ⟨W.heap.size + 1, 0, none⟩ (.int .i64 (dep - 1))).setCell ⟨W.heap.size + 1, 1, none⟩ (.slice A4 m c4)) (W.heap.size + 1) 24 #[.int .i64 (dep - 1), .slice A4 m c4] from hr9)
      have HO9 := hide (own_other2 (w' := (wr.setCell ⟨W.heap.size + 1, 0, none⟩ (.int .i64 (dep - 1))).setCell ⟨W.heap.size + 1, 1, none⟩ (.slice A4 m c4)) HO4.out (fun g hg _ => by rw [heap_setCell_ne _ _ _ _ (by simp; omega), heap_setCell_ne _ _ _ _ (by simp; omega)]))
      have HB9 := hide ((HBL.out.setCell (p := ⟨W.heap.size + 1, 0, none⟩) (by simp) (.int .i64 (dep - 1))).setCell (p := ⟨W.heap.size + 1, 1, none⟩) (by simp) (.slice A4 m c4))
      clear hr9
      by_cases hd : 0 < dep
      · have hdb : decide (0 < dep) = true := by simpa using hd
        have p0 := row20 HA.out
        have pl := HA.out.lt
        go_wp2_with fail
        go_region
        all_goals
          go_wp2_with fail
          have hr9 := HR9.out
          have hb9 := HB9.out
          have ho9 := HO9.out
          generalize ((wr.setCell ⟨W.heap.size + 1, 0, none⟩ (.int .i64 (dep - 1))).setCell ⟨W.heap.size + 1, 1, none⟩ (.slice A4 m c4)) = w9 at *
          have x0 := row20 hr9
          have x1 := row21 hr9
          have xl := hr9.lt
          have hs := HS.out
          rw [← HN.out] at hs
          have hfin := hs.done (by rw [HN.out]; exact HEV.out hd)
          obtain rfl : some L = o := by rw [← HO.out, if_pos hd, hfin]
          exact bodyPost_ret (v := .tuple #[.agg #[.int .i64 (dep - 1), .slice A4 m c4], .bool true]) (by simp [results, Try.results29, go_sem, x0, x1, xl]) rfl ⟨A4, c4, by rw [HM.out], by rw [HM.out]; exact ownsRow_base ho9 (by omega), hb9.drew⟩
      · have hdb : decide (0 < dep) = false := by simpa using hd
        have p0 := row20 HA.out
        have pl := HA.out.lt
        go_wp2_with fail
        go_region
        all_goals
          go_wp2_with fail
          have hr9 := HR9.out
          have hb9 := HB9.out
          have ho9 := HO9.out
          generalize ((wr.setCell ⟨W.heap.size + 1, 0, none⟩ (.int .i64 (dep - 1))).setCell ⟨W.heap.size + 1, 1, none⟩ (.slice A4 m c4)) = w9 at *
          have x0 := row20 hr9
          have x1 := row21 hr9
          have xl := hr9.lt
          obtain rfl : none = o := by rw [← HO.out, if_neg (by omega)]
          exact bodyPost_ret (v := .tuple #[.agg #[.int .i64 (dep - 1), .slice A4 m c4], .bool false]) (by simp [results, Try.results29, go_sem, x0, x1, xl]) rfl ⟨_, _, _, _, rfl, hb9.drew⟩
/-- A cell of an own row stored. -/
theorem own_set1 {w : World} {base g n c sz : Nat} {t : TypeId} {xs : List Value} (h : w.ownsRow base t sz (.slice (some ⟨g, 0, none⟩) n c) n xs) (j : Nat) (v : Value) :
    (w.setCell ⟨g, j, none⟩ v).ownsRow base t sz (.slice (some ⟨g, 0, none⟩) n c) n (xs.set j v) := by
  obtain ⟨h0, (⟨h1, h2⟩ | ⟨gg, cap, cur, hv, hge, hh, hcap, hmax, hsz, htk⟩)⟩ := h
  · cases h1
  · injection hv with hv1 hv2 hv3
    injection hv1 with hv1
    injection hv1 with hv1
    subst hv1; subst hv3
    refine ⟨by rw [List.length_set, h0], .inr ⟨g, c, _, rfl, hge, (show RowAt w g t cur from hh).set j v, hcap, hmax, by simpa using hsz, ?_⟩⟩
    rw [← htk]
    simp only [Array.toList_setIfInBounds]
    rw [List.take_set]
theorem own_row1 {w : World} {base n c sz : Nat} {A : Option Addr} {t : TypeId} {xs : List Value} (h : w.ownsRow base t sz (.slice A n c) n xs) (hn : 0 < n) : ∃ g, A = some ⟨g, 0, none⟩ ∧ base ≤ g ∧ g < w.heap.size ∧ (∀ i, w.frozen? ⟨g, i, none⟩ = false) ∧ ∀ (j : Nat) u, xs[j]? = some u → w.cell? ⟨g, j, none⟩ = some u := by
  obtain ⟨h0, (⟨h1, h2⟩ | ⟨g, cap, cur, hv, hge, hh, hcap, hmax, hsz, htk⟩)⟩ := h
  · omega
  · injection hv with hv1 hv2 hv3
    have hr : RowAt w g t cur := hh
    refine ⟨g, hv1, hge, hr.lt, fun i => hr.frozen i, fun j u hu => ?_⟩
    rw [hr.cell, ← Array.getElem?_toList]
    rw [← htk] at hu
    rw [List.getElem?_take] at hu
    split at hu
    · exact hu
    · cases hu
/-- The second cell of each entry is a number. -/
def Gens (n : Nat) (xs : List Value) : Prop := ∀ k, k < n → ∃ u, xs[k * 2 + 1]? = some (.int .u64 u)
theorem Gens.of : ∀ (es : List En), Gens es.length (Cs encE es)
  | [], k, h => by simp at h
  | e :: es, 0, _ => ⟨e.2, rfl⟩
  | e :: es, k + 1, h => by
    obtain ⟨u, hu⟩ := Gens.of es k (by simpa using h)
    refine ⟨u, ?_⟩
    rw [show (k + 1) * 2 + 1 = (k * 2 + 1) + 2 by omega]
    show ([Value.int .i64 e.1, .int .u64 e.2] ++ Cs encE es)[(k * 2 + 1) + 2]? = _
    rw [List.getElem?_append_right (by simp)]
    simpa using hu
theorem Gens.set {n k : Nat} {xs : List Value} {u : Int} (h : Gens n xs) : Gens n (xs.set (k * 2 + 1) (.int .u64 u)) := fun j hj => by
  obtain ⟨v, hv⟩ := h j hj
  by_cases e : k = j
  · subst e
    exact ⟨u, by rw [List.getElem?_set_self (by have := (List.getElem?_eq_some_iff.1 hv).1; omega)]⟩
  · exact ⟨v, by rw [List.getElem?_set_ne (by omega)]; exact hv⟩
set_option maxHeartbeats 1000000 in
theorem spoil_any (base : Nat) (A : Option Addr) (c : Nat) (dep : Int) (es : List En) (W : World) (h : W.ownsRow base 31 2 (.slice A es.length c) es.length (Cs encE es)) (hb : base ≤ W.heap.size) (hl : es.length ≤ 4096) :
    Calls Try.prog 30 #[.agg #[.int .i64 dep, .slice A es.length c]] W fun e W' => e = .returned (.tuple #[]) ∧ Below base W W' := by
  have hg0 := Gens.of es
  generalize Cs encE es = xs0 at *
  generalize es.length = n at *
  have hba := (Below.refl _ W).alloc (Nat.le_refl _) (.cells #[.int .i64 dep, .slice A n c] 24)
  have R1 := hide (RowAt.new W 24 #[.int .i64 dep, .slice A n c])
  have O := hide (own_keepB h hba)
  have HB := hide (hba.mono hb)
  clear h hba
  go_enter Try.func30, Try.ntmps30
  go_upto_region 1 with (fail)
  have hg1 : W.heap.size < (W.alloc (.cells #[.int .i64 dep, .slice A n c] 24)).heap.size := by simp
  have HNE := hide (show ∀ g, A = some ⟨g, 0, none⟩ → 0 < n → g ≠ W.heap.size from fun g hg hn => by
    obtain ⟨g2, h1, h2, h3, _⟩ := own_row1 O.out hn
    rw [h1] at hg
    injection hg with hg
    injection hg with hg
    subst hg
    intro e
    subst e
    obtain ⟨_, (⟨h4, _⟩ | ⟨gg, cap, cur, hv, hge, hh, _⟩)⟩ := O.out
    · rw [h1] at h4; cases h4
    · rw [h1] at hv
      injection hv with hv
      injection hv with hv
      injection hv with hv
      subst hv
      exact row_ne (show RowAt _ _ 31 cur from hh) R1.out (by decide) rfl)
  generalize W.alloc (.cells #[.int .i64 dep, .slice A n c] 24) = w1 at *
  have q1 := row21 R1.out
  have ql := R1.out.lt
  go_wp2_with fail
  clear q1 ql
  go_loopw [6] (fun iv wr => ∃ (i : Nat) (xs : List Value), i ≤ n ∧ iv = .int .i64 i ∧ Gens n xs ∧ wr.ownsRow base 31 2 (.slice A n c) n xs ∧ RowAt wr W.heap.size 24 #[.int .i64 dep, .slice A n c] ∧ Below base W wr) (fun iv _ => n - (intOf iv).toNat)
  case atStart => exact ⟨0, xs0, Nat.zero_le _, rfl, hg0, O.out, R1.out, HB.out⟩
  case round =>
    obtain ⟨i, xs, hi, rfl, hg, ho, hr, hbl⟩ := hrel
    have HG := hide hg
    have HO := hide ho
    have HR := hide hr
    have HBL := hide hbl
    clear hg ho hr hbl
    by_cases hlt : i < n
    · obtain ⟨g, hA, hge, hgl, hfr, hc⟩ := own_row1 HO.out (by omega)
      have hgne := HNE.out g hA (by omega)
      subst hA
      obtain ⟨u, hu⟩ := HG.out i hlt
      have e1 := hc _ _ hu
      have f1 := hfr (i * 2 + 1)
      have q1 := row21 HR.out
      have ql := HR.out.lt
      have hiI : (i : Int) < (n : Int) := by omega
      have hne2 : ¬ g = W.heap.size := hgne
      have HGN := hide (fun v => Gens.set (k := i) (u := v) HG.out)
      have HON := hide (fun v => own_set1 HO.out (i * 2 + 1) v)
      have HRN := hide (fun v => HR.out.setNe (g2 := g) (o := i * 2 + 1) (v := v) (Ne.symm hgne))
      have HBN := hide (fun v => HBL.out.setCell (p := ⟨g, i * 2 + 1, none⟩) hge v)
      clear hc hfr
      go_wp2_with fail
      go_roundw
      case rel => exact ⟨i + 1, _, by omega, by go_num, HGN.out _, HON.out _, HRN.out _, HBN.out _⟩
      case measure => simp [intOf]; omega
    · obtain rfl : i = n := by omega
      go_wp2_with fail
      go_end0
      exact ⟨rfl, HBL.out⟩
end Go.Proofs.Ytjlbnegdiabglaa

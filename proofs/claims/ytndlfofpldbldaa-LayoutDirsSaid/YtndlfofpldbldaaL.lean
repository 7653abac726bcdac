/-
  layout.Table's closure: the words are read.
-/
import Derived.Test.YtndlfofpldbldaaK
set_option linter.unusedSimpArgs false
set_option linter.unusedVariables false
namespace Go.Proofs.Ytndlfofpldbldaa
open Go Go.RowKit

/-- The table that is read, by its cells. -/
def tabT (xs : List Int) (x0 x1 x2 x3 : Int) : List Value :=
  [Value.int .u64 x0, .int .i64 (wrap64 (bits BinOp.and IntKind.u64 x1 255)), .int .u64 (x1 / 256), .int .i64 x2, .int .i64 x3] ++ ((Cs encW xs).drop 4).take 2 ++ ((Cs encW xs).drop 6).take 16 ++ ((Cs encW xs).drop 22).take 16

theorem Cs_mapW (xs : List Int) : Cs encW xs = xs.map (Value.int .u64) := by
  induction xs with
  | nil => rfl
  | cons x xs ih => rw [List.map_cons, ← ih]; rfl
theorem Cs_dropW (xs : List Int) (k : Nat) : Cs encW (xs.drop k) = (Cs encW xs).drop k := by rw [Cs_mapW, Cs_mapW, List.map_drop]

theorem Past.refl (k : Nat) (w : World) : Past k w w := ⟨Below.refl _ _, fun _ _ _ => rfl, Nat.le_refl _⟩
theorem Past.ofDrew {k : Nat} {w w' : World} (h : Past k w.drew w') : Past k w w' := (Past.refl k w).drew.trans h

set_option maxRecDepth 100000 in
set_option maxHeartbeats 2000000 in
theorem Table1_ok (B b off k kw ko : Nat) (xs : List Int) (x0 x1 x2 x3 : Int) (w : World) (hl : xs.length = 40) (hsrc : ∀ j u, (Cs encW xs)[j]? = some u → w.cell? ⟨b, off + j, none⟩ = some u) (hB : B ≤ kw) (hB2 : B ≤ ko) (hne : kw ≠ ko) (hb : b < B)
    (h1 : kw < w.heap.size) (h2 : ko < w.heap.size) (hw : w.cell? ⟨kw, 0, none⟩ = some (.slice (some ⟨b, off, none⟩) 40 (40 + k))) 
    (hv0 : xs[0]'(by omega) = x0) (hv1 : xs[1]'(by omega) = x1) (hv2 : xs[2]'(by omega) = x2) (hv3 : xs[3]'(by omega) = x3) (hn20 : 0 ≤ x2) (hn21 : x2 ≤ 14) (hn30 : 0 ≤ x3) (hn31 : x3 ≤ 14)
    (hflat : flatB (wrap64 (bits BinOp.and IntKind.u64 x1 255)) (x1 / 256) x2 x3 = true) (hp0 : 0 ≤ x1 / 256) (hp1 : x1 / 256 < 18446744073709551616) (hz : (xs.drop 38).any (fun x => decide (x ≠ 0)) = false) (cur : Array Value) (hcur : cur.size = 39) (hko : RowAt w ko 55 cur) :
    Calls Try.prog 43 #[.pointer (some ⟨kw, 0, none⟩), .pointer (some ⟨ko, 0, none⟩)] w fun e w' => e = .returned (.tuple #[]) ∧ RowAt w' ko 55 (tabT xs x0 x1 x2 x3).toArray ∧ Past ko w w' := by
  have HS := hide hsrc
  have HKO := hide hko
  have HZ := hide hz
  have hp1h := hide hp1
  clear hko hz hp1
  clear hsrc
  have hwA : ∀ o, (w.alloc o).cell? ⟨kw, 0, none⟩ = some (.slice (some ⟨b, off, none⟩) 40 (40 + k)) := fun o => (World.cell?_alloc_lt w o _ h1).trans hw
  go_enter Try.func43, Try.ntmps43
  go_wp2_with (first | (go_at_call 45; refine (need_ok _).mono ?_; rintro e w1 ⟨rfl, rfl⟩))
  obtain ⟨R0, hR0⟩ : ∃ R : Array Value, R = (zeroT ++ [Value.slice (some ⟨b, off, none⟩) 40 (40 + k)]).toArray := ⟨_, rfl⟩
  have hrow : RowAt (w.alloc (.cells R0 86)) w.heap.size 86 R0 := RowAt.new _ _ _
  have hsz : w.heap.size < (w.alloc (.cells R0 86)).heap.size := by simp
  have hP0 : Below w.heap.size w (w.alloc (.cells R0 86)) := (Below.refl _ _).alloc (Nat.le_refl _) _
  have hg : b < w.heap.size := by omega
  rw [hR0] at hrow hsz hP0
  simp only [zeroT, List.replicate, List.cons_append, List.nil_append] at hrow hsz hP0
  generalize hw0 : w.alloc (.cells _ 86) = w0 at *
  generalize hgg : w.heap.size = g at *
  have hrow0 : RowAt w0 g 86 (zeroT ++ [Value.slice (some ⟨b, off, none⟩) 40 (40 + k)]).toArray := hrow
  refine (next_any g b off 40 (40 + k) 4 (off2 := off + 4) (n2 := 36) (c2 := 36 + k) zeroT w0 hrow0 rfl (by omega) (by omega) (by omega) (by omega) rfl rfl (by omega) 4 rfl).mono ?_
  rintro e w1 ⟨rfl, hrow1, hP1⟩
  dsimp only
  simp only [zeroT, List.replicate, List.cons_append, List.nil_append] at hrow1
  go_wp2_with fail
  have hx : ∀ i (h : i < xs.length), w1.cell? ⟨b, off + i, none⟩ = some (.int .u64 xs[i]) := by
    intro i h
    rw [hP1.cell _ (by simp; omega) (by simp; omega), hP0.cell (by simp; omega)]
    exact HS.out _ _ (by have := Cs_at encW_len xs i 0 h (by omega); simpa [encW] using this)
  have hd0 := hx 0 (by omega)
  have hd1 := hx 1 (by omega)
  have hbg : ¬ b = g := by omega
  have hgb : ¬ g = b := by omega
  have hr0 := hrow1.cell 0
  have hr1 := hrow1.cell 1
  have hr2 := hrow1.cell 2
  have hf0 := hrow1.frozen 0
  have hf1 := hrow1.frozen 1
  have hf2 := hrow1.frozen 2
  simp only [List.getElem?_toArray, List.getElem?_cons_succ, List.getElem?_cons_zero] at hr0 hr1 hr2
  have hx2 := hx 2 (by omega)
  have hx3 := hx 3 (by omega)
  rw [Nat.add_zero] at hd0
  have HX := hide hx
  clear hx
  rw [hv0] at hd0
  rw [hv1] at hd1
  rw [hv2] at hx2
  rw [hv3] at hx3
  clear hw0 hrow hrow0 hw hwA hR0
  have HROW := hide hrow1
  clear hrow1
  go_region
  have hrow2 := ((HROW.out.set 0 (.int .u64 x0)).set 1 (.int .i64 (wrap64 (bits BinOp.and IntKind.u64 x1 255)))).set 2 (.int .u64 (x1 / 256))
  generalize hw2 : World.drew _ = w2 at *
  have hrow2' := hrow2.drew.to hw2
  have hP2 : Past g w1 w2 := by rw [← hw2]; exact (((Past.set 0 _).trans (Past.set 1 _)).trans (Past.set 2 _)).drew
  clear hrow2
  clear hw2
  have hd2 := (hP2.cell ⟨b, off + 2, none⟩ hbg (by have := hP0.size; have := hP1.size; simp; omega)).trans hx2
  have hd3 := (hP2.cell ⟨b, off + 3, none⟩ hbg (by have := hP0.size; have := hP1.size; simp; omega)).trans hx3
  clear hx2 hx3 hd0 hd1 hr0 hr1 hr2 hf0 hf1 hf2
  simp only [List.setIfInBounds_toArray, List.set_cons_succ, List.set_cons_zero] at hrow2'
  have hr3 := hrow2'.cell 3
  have hr4 := hrow2'.cell 4
  have hf3 := hrow2'.frozen 3
  have hf4 := hrow2'.frozen 4
  simp only [List.getElem?_toArray, List.getElem?_cons_succ, List.getElem?_cons_zero] at hr3 hr4
  have HROW2 := hide hrow2'
  clear hrow2'
  go_wp2_with fail
  go_region_held3 (fun wX => (wX.cell? ⟨b, off + 2, none⟩ = some (.int .u64 x2) ∧ wX.cell? ⟨b, off + 3, none⟩ = some (.int .u64 x3)) ∧ wX.frozen? ⟨g, 4, none⟩ = false) (go_keep) (first | (go_at_call 46; with_reducible refine (number_ok x2 _ hn20 hn21).mono ?_; rintro e w3 ⟨rfl, rfl⟩) | (go_at_call 46; with_reducible refine (number_ok x3 _ hn30 hn31).mono ?_; rintro e w3 ⟨rfl, rfl⟩))
  have hrow3 := ((HROW2.out.set 3 (.int .i64 x2)).set 4 (.int .i64 x3))
  generalize hw3 : World.drew _ = w3 at *
  have hrow3' := hrow3.drew.to hw3
  have hP3 : Past g w2 w3 := by rw [← hw3]; exact ((Past.set 3 _).trans (Past.set 4 _)).drew
  clear hrow3
  clear hw3
  have hX3 : ∀ j u, (Cs encW xs)[j]? = some u → w3.cell? ⟨b, off + j, none⟩ = some u := fun j u hj => by
    have := hP0.size; have := hP1.size; have := hP2.size
    rw [hP3.cell _ (by simpa using hbg) (by simp; omega), hP2.cell _ (by simpa using hbg) (by simp; omega), hP1.cell _ (by simpa using hbg) (by simp; omega), hP0.cell (by simp; omega)]
    exact HS.out j u hj
  have hs3 : g < w3.heap.size := by have := hP1.size; have := hP2.size; have := hP3.size; omega
  have HX3 := hide hX3
  clear hX3 HX HROW HROW2 hr3 hr4 hf3 hf4 hd2 hd3
  have HR3 : Hid (RowAt w3 g 86 ([Value.int .u64 x0, .int .i64 (wrap64 (bits BinOp.and IntKind.u64 x1 255)), .int .u64 (x1 / 256), .int .i64 x2, .int .i64 x3] ++ List.replicate 2 (Value.int .u64 0) ++ (List.replicate 32 (Value.int .u64 0) ++ [Value.slice (some ⟨b, off + 4, none⟩) 36 (36 + k)])).toArray) := hide hrow3'
  clear hrow3'
  obtain ⟨H5, hH5⟩ : ∃ l : List Value, l = [Value.int .u64 x0, .int .i64 (wrap64 (bits BinOp.and IntKind.u64 x1 255)), .int .u64 (x1 / 256), .int .i64 x2, .int .i64 x3] := ⟨_, rfl⟩
  have hH5l : H5.length = 5 := by rw [hH5]; rfl
  rw [← hH5] at HR3
  have HH5 := hide hH5
  clear hH5
  have hXl : (Cs encW xs).length = 40 := by rw [Cs_length encW_len]; omega
  have hX1 : ∀ u ∈ Cs encW xs, u.oneCell' = true := Cs_one_cell encW_one xs
  obtain ⟨XS, hXS⟩ : ∃ l, l = Cs encW xs := ⟨_, rfl⟩
  rw [← hXS] at HX3 hXl hX1
  have HXS := hide hXS
  clear hXS
  obtain ⟨Y1, hY1⟩ : ∃ l, l = (XS.drop 4).take 2 := ⟨_, rfl⟩
  have HY1 := hide hY1
  have hY1l : Y1.length = 2 := by rw [hY1]; exact seg_len (by omega)
  have hY1o : ∀ u ∈ Y1, u.oneCell' = true := by rw [hY1]; exact seg_one hX1
  have HY1g : Hid (∀ j u, Y1[j]? = some u → w3.cell? ⟨b, off + 4 + j, none⟩ = some u) := hide (fun j u hj => by rw [hY1] at hj; have := HX3.out _ _ (seg_get hj); rwa [← Nat.add_assoc] at this)
  clear hY1
  have hZ1 : (List.replicate 32 (Value.int .u64 0) ++ [Value.slice (some ⟨b, off + 4, none⟩) 36 (36 + k)]) = List.replicate 32 (Value.int .u64 0) ++ [Value.slice (some ⟨b, off + 4, none⟩) 36 (36 + k)] := rfl
  go_wp2_with fail
  have HN1 := hide (next_any g b (off + 4) 36 (36 + k) 2 (off2 := off + 6) (n2 := 34) (c2 := 34 + k) (H5 ++ List.replicate 2 (Value.int .u64 0) ++ List.replicate 32 (Value.int .u64 0)) w3.drew (by rw [List.append_assoc]; exact HR3.out) (by simp [hH5l]) (by omega) (by omega) (by omega) (by omega) (by omega) (by omega) (by omega) 2 rfl)
  have hs3' : g < w3.drew.heap.size := hs3
  have HY1g' : ∀ j u, Y1[j]? = some u → w3.drew.cell? ⟨b, off + 4 + j, none⟩ = some u := HY1g.out
  have HY1h := hide HY1g'
  clear HY1g'
  go_region_law (first
    | (go_simp; go_at_call 44; with_reducible refine HN1.out.mono ?_; rintro e w5 ⟨rfl, hrow5, hP5⟩; rw [List.append_assoc] at hrow5; have HR5 := hide hrow5; clear hrow5)
    | (refine step_copy rfl _ _ rfl rfl g 5 2 2 2 b (off + 4) 86 H5 (List.replicate 2 (Value.int .u64 0)) _ Y1 rfl rfl HR5.out hH5l rfl hY1l (fun j u hj => (hP5.cell ⟨b, off + 4 + j, none⟩ hbg (Nat.lt_trans hg hs3')).trans (HY1h.out j u hj)) hY1o ?_; intro w6 hrow6 hP6; have HR6 := hide hrow6; clear hrow6))
  have HX6 : Hid (∀ j u, XS[j]? = some u → w6.cell? ⟨b, off + j, none⟩ = some u) := hide (fun j u hj => by
    have h5 := hP5.size
    rw [hP6.cell _ (by simpa using hbg) (by simp; omega), hP5.cell _ (by simpa using hbg) (Nat.lt_trans hg hs3')]
    exact HX3.out j u hj)
  have hs6 : g < w6.drew.heap.size := by have := hP5.size; have := hP6.size; show g < w6.heap.size; omega
  obtain ⟨Y2, hY2⟩ : ∃ l, l = (XS.drop 6).take 16 := ⟨_, rfl⟩
  have HY2 := hide hY2
  have hY2l : Y2.length = 16 := by rw [hY2]; exact seg_len (by omega)
  have hY2o : ∀ u ∈ Y2, u.oneCell' = true := by rw [hY2]; exact seg_one hX1
  have HY2h : Hid (∀ j u, Y2[j]? = some u → w6.drew.cell? ⟨b, off + 6 + j, none⟩ = some u) := hide (fun j u hj => by rw [hY2] at hj; have := HX6.out _ _ (seg_get hj); rwa [← Nat.add_assoc] at this)
  clear hY2
  have hrep : List.replicate 32 (Value.int .u64 0) = List.replicate 16 (Value.int .u64 0) ++ List.replicate 16 (Value.int .u64 0) := rfl
  have HN2 := hide (next_any g b (off + 6) 34 (34 + k) 16 (off2 := off + 22) (n2 := 18) (c2 := 18 + k) (H5 ++ Y1 ++ List.replicate 32 (Value.int .u64 0)) w6.drew (by have h := HR6.out; rw [← List.append_assoc] at h; exact h) (by simp [hH5l, hY1l]) (by omega) (by omega) (by omega) (by omega) (by omega) (by omega) (by omega) 16 rfl)
  have hconv : ∀ (w : World) (u : Value), RowAt w g 86 (H5 ++ Y1 ++ List.replicate 32 (Value.int .u64 0) ++ [u]).toArray → RowAt w g 86 ((H5 ++ Y1) ++ List.replicate 16 (Value.int .u64 0) ++ (List.replicate 16 (Value.int .u64 0) ++ [u])).toArray := fun w u h => by
    rw [hrep] at h; simpa only [List.append_assoc] using h
  have HCV := hide hconv
  have hl2 : (H5 ++ Y1).length = 7 := by simp [hH5l, hY1l]
  clear hconv hrep
  go_wp2_with fail
  go_region_law (first
    | (go_simp; go_at_call 44; with_reducible refine HN2.out.mono ?_; rintro e w7 ⟨rfl, hrow7, hP7⟩; have HR7 := hide (HCV.out _ _ hrow7); clear hrow7)
    | (refine step_copy rfl _ _ rfl rfl g 7 16 16 16 b (off + 6) 86 (H5 ++ Y1) (List.replicate 16 (Value.int .u64 0)) _ Y2 rfl rfl HR7.out hl2 rfl hY2l (fun j u hj => (hP7.cell ⟨b, off + 6 + j, none⟩ hbg (Nat.lt_trans hg hs6)).trans (HY2h.out j u hj)) hY2o ?_; intro w8 hrow8 hP8; have HR8 := hide hrow8; clear hrow8))
  have HX8 : Hid (∀ j u, XS[j]? = some u → w8.cell? ⟨b, off + j, none⟩ = some u) := hide (fun j u hj => by
    have h5 := hP7.size
    rw [hP8.cell _ (by simpa using hbg) (by simp; omega), hP7.cell _ (by simpa using hbg) (Nat.lt_trans hg hs6)]
    exact HX6.out j u hj)
  have hs8 : g < w8.drew.heap.size := by have := hP7.size; have := hP8.size; show g < w8.heap.size; omega
  obtain ⟨Y3, hY3⟩ : ∃ l, l = (XS.drop 22).take 16 := ⟨_, rfl⟩
  have HY3 := hide hY3
  have hY3l : Y3.length = 16 := by rw [hY3]; exact seg_len (by omega)
  have hY3o : ∀ u ∈ Y3, u.oneCell' = true := by rw [hY3]; exact seg_one hX1
  have HY3h : Hid (∀ j u, Y3[j]? = some u → w8.drew.cell? ⟨b, off + 22 + j, none⟩ = some u) := hide (fun j u hj => by rw [hY3] at hj; have := HX8.out _ _ (seg_get hj); rwa [← Nat.add_assoc] at this)
  clear hY3
  have HN3 := hide (next_any g b (off + 22) 18 (18 + k) 16 (off2 := off + 38) (n2 := 2) (c2 := 2 + k) (H5 ++ Y1 ++ Y2 ++ List.replicate 16 (Value.int .u64 0)) w8.drew (by have h := HR8.out; rw [← List.append_assoc] at h; exact h) (by simp [hH5l, hY1l, hY2l]) (by omega) (by omega) (by omega) (by omega) (by omega) (by omega) (by omega) 16 rfl)
  have hl3 : (H5 ++ Y1 ++ Y2).length = 23 := by simp [hH5l, hY1l, hY2l]
  go_wp2_with fail
  go_region_law (first
    | (go_simp; go_at_call 44; with_reducible refine HN3.out.mono ?_; rintro e w9 ⟨rfl, hrow9, hP9⟩; have HR9 := hide hrow9; clear hrow9)
    | (refine step_copy rfl _ _ rfl rfl g 23 16 16 16 b (off + 22) 86 (H5 ++ Y1 ++ Y2) (List.replicate 16 (Value.int .u64 0)) _ Y3 rfl rfl HR9.out hl3 rfl hY3l (fun j u hj => (hP9.cell ⟨b, off + 22 + j, none⟩ hbg (Nat.lt_trans hg hs8)).trans (HY3h.out j u hj)) hY3o ?_; intro wA hrowA hPA; have HRA := hide hrowA; clear hrowA))
  have HXA : Hid (∀ j u, XS[j]? = some u → wA.cell? ⟨b, off + j, none⟩ = some u) := hide (fun j u hj => by
    have h5 := hP9.size
    rw [hPA.cell _ (by simpa using hbg) (by simp; omega), hP9.cell _ (by simpa using hbg) (Nat.lt_trans hg hs8)]
    exact HX8.out j u hj)
  have hsA : g < wA.heap.size := by have := hP9.size; have := hPA.size; omega
  have hTl : (H5 ++ Y1 ++ Y2 ++ Y3).length = 39 := by simp [hH5l, hY1l, hY2l, hY3l]
  obtain ⟨T, hT⟩ : ∃ l, l = H5 ++ Y1 ++ Y2 ++ Y3 := ⟨_, rfl⟩
  have HRT : Hid (RowAt wA g 86 (T ++ [Value.slice (some ⟨b, off + 38, none⟩) 2 (2 + k)]).toArray) := by rw [hT]; exact HRA
  rw [← hT] at hTl
  have hT1 : T.toArray[1]? = some (.int .i64 (wrap64 (bits BinOp.and IntKind.u64 x1 255))) := by rw [hT, HH5.out]; simp
  have hT2 : T.toArray[2]? = some (.int .u64 (x1 / 256)) := by rw [hT, HH5.out]; simp
  have hT3 : T.toArray[3]? = some (.int .i64 x2) := by rw [hT, HH5.out]; simp
  have hT4 : T.toArray[4]? = some (.int .i64 x3) := by rw [hT, HH5.out]; simp
  have HT := hide hT
  clear hT HRA HR9 HR8 HR7 HR6 HR5 HR3
  have hinf : (Try.prog.info? 55).map (·.size) = some T.length := by rw [hTl]; kernel_rfl
  have HINF := hide hinf
  clear hinf
  have HFL := hide (flat_any T.toArray _ _ _ _ wA true hflat hp0 hp1h.out hT1 hT2 hT3 hT4)
  clear hT1 hT2 hT3 hT4
  have hc39 : ∀ wB, Below wA.heap.size wA wB → wB.cell? ⟨g, 39, none⟩ = some (Value.slice (some ⟨b, off + 38, none⟩) 2 (2 + k)) := fun wB hb => by
    rw [hb.cell (p := ⟨g, 39, none⟩) hsA, HRT.out.cell]; simp [← hTl]
  have HC39 := hide hc39
  clear hc39
  obtain ⟨Z, hZ⟩ : ∃ l, l = xs.drop 38 := ⟨_, rfl⟩
  have hZl : Z.length = 2 := by rw [hZ]; simp; omega
  have hCN : ∀ wB, Below wA.heap.size wA wB → Calls Try.prog 47 #[.slice (some ⟨b, off + 38, none⟩) 2 (2 + k), .func (.func 48) #[] #[]] wB fun e W' => e = .returned (.bool false) ∧ Below wB.heap.size wB W' := fun wB hb => by
    have h := ContainsNz (b + 1) (some ⟨b, off + 38, none⟩) (2 + k) Z wB (by
      refine ⟨by rw [Cs_length encW_len], fun _ => ⟨b, off + 38, rfl, by omega, fun j u hj => ?_⟩⟩
      rw [hZ] at hj
      have e1 : Cs encW (xs.drop 38) = (Cs encW xs).drop 38 := Cs_dropW xs 38
      rw [e1, List.getElem?_drop, ← HXS.out] at hj
      rw [hb.cell (p := ⟨b, off + 38 + j, none⟩) (by simp; omega)]
      have := HXA.out _ _ hj
      rwa [← Nat.add_assoc] at this) (by have := hb.size; omega) (by omega) false (by rw [hZ]; exact HZ.out)
    rw [hZl] at h
    exact h
  have HCN := hide hCN
  clear hCN
  have hPA' : Past g w0 wA := (((((((hP1.trans hP2).trans hP3).trans hP5.ofDrew).trans hP6).trans hP7.ofDrew).trans hP8).trans hP9.ofDrew).trans hPA
  have hbA : Below g w wA := hP0.trans hPA'.below
  have hkoA : RowAt wA ko 55 cur := (hbA.block ko h2).trans HKO.out
  have HKA := hide hkoA
  clear hkoA
  have hT1' : T.toArray.all (·.oneCell') = true := all_oneCell_toArray (fun v hv => by
    rw [HT.out] at hv
    simp only [List.mem_append] at hv
    rcases hv with ((hv | hv) | hv) | hv
    · rw [HH5.out] at hv; simp at hv; rcases hv with rfl | rfl | rfl | rfl | rfl <;> rfl
    · exact hY1o v hv
    · exact hY2o v hv
    · exact hY3o v hv)
  have HT1 := hide hT1'
  clear hT1'
  have HRange : Hid (∀ wC, Below wA.heap.size wA wC → wC.rangeAt g 0 T) := hide (fun wC hb => (HRT.out.below hb).range)
  have hEnd : ∀ wC wD, Below wA.heap.size wA wC → RowAt wD ko 55 T.toArray → Past ko wC wD → RowAt wD ko 55 (tabT xs x0 x1 x2 x3).toArray ∧ Past ko w wD := fun wC wD hb hr hp => by
    refine ⟨?_, (Past.of_below (by omega) ?_).trans hp⟩
    · have : T = tabT xs x0 x1 x2 x3 := by rw [HT.out, HH5.out, HY1.out, HY2.out, HY3.out, HXS.out]; rfl
      rw [← this]; exact hr
    · rw [hgg]; exact hbA.trans (hb.mono (by omega))
  have HEND := hide hEnd
  clear hEnd
  clear hP0 hP1 hP2 hP3 hP5 hP6 hP7 hP8 hP9 hPA hPA' hbA HXA HX8 HX6 HX3 HN1 HN2 HN3 HY1g HY1h HY2h HY3h HCV HS
  go_wp2_with (first
    | (refine wpList_load_mid rfl 55 _ rfl g 0 rfl T _ HRT.out.range Try.underlying55 rfl HINF.out ?_)
    | (go_at_call 39; with_reducible refine HFL.out.mono ?_; rintro e wB ⟨rfl, hbB⟩; have hcB := HC39.out _ hbB)
    | (go_at_call 47; with_reducible refine (HCN.out _ hbB).mono ?_; rintro e wC ⟨rfl, hbC⟩; have hbAC := hbB.trans (hbC.mono hbB.size))
    | (go_at_call 45; with_reducible refine (need_ok _).mono ?_; rintro e wC' ⟨rfl, rfl⟩)
    | (refine wpList_load_mid rfl 55 _ rfl g 0 rfl T _ (HRange.out _ hbAC) Try.underlying55 rfl HINF.out ?_)
    | (refine wpList_store_rowAt rfl 55 _ _ rfl ko 55 cur T.toArray rfl rfl (HKA.out.below hbAC) (by simp [hcur, hTl]) HINF.out HT1.out ?_; intro wD hrD hpD))
  go_end0
  exact ⟨rfl, HEND.out _ _ hbAC hrD hpD⟩
end Go.Proofs.Ytndlfofpldbldaa

/-
  Done in a monitor, and what comes out.
-/
import Derived.Test.YtfpbabafeecncaaMon
set_option linter.unusedSimpArgs false
set_option linter.unusedVariables false
namespace Go.Proofs.Ytfpbabafeecncaa
open Go Go.RowKit
attribute [local go_sem] via_cell via_frozen

theorem mok_rows {w : World} {B : Nat} {a0 a1 a2 a3 : Option Addr} {n0 n1 n2 n3 : Nat} {ts : List Hm} {m : Mon} (h : MonX w B a0 a1 a2 a3 n0 n1 n2 n3 ts m) {R : Nat} (hq : ∀ t ∈ ts, t.q.length ≤ R) : HasLe m R := by
  intro l hl
  rw [h.hs] at hl
  obtain ⟨t, ht, rfl⟩ := List.mem_map.1 hl
  exact hq t ht
theorem wtries_any (a0 a1 a2 a3 : Option Addr) (n0 n1 n2 n3 c0 c1 c2 c3 : Nat) (g : Nat) (lb : Array Value) (ts : List Hm) (m : Mon) (W : World) (h : MonX W W.heap.size a0 a1 a2 a3 n0 n1 n2 n3 ts m) (hs : SmallX n0 n1 n2 n3 ts) (hg : ∀ args w, (callFunc g args).run Try.prog w = .ok (.enter g args) w) (r : Except Int (Mon × List Ent))
    (HCL : m.ok = true → ∀ w gx y0 y1 y2 y3 d2 us, WAt w gx (W.heap.size + 3) y0 y1 y2 y3 none n0 n1 n2 n3 0 n0 n1 d2 n3 0 us m [] → Below W.heap.size W w → W.heap.size + 3 ≤ w.heap.size → W.heap.size + 3 ≤ gx → Calls Try.prog g (#[.pointer (some ⟨gx, 0, none⟩)] ++ lb) w (DeedRes gx (W.heap.size + 3) r w)) :
    Calls Try.prog 37 #[.agg #[.slice a0 n0 c0, .slice a1 n1 c1, .slice a2 n2 c2, .slice a3 n3 c3], .func (.func g) #[] lb] W (TrM (okR m r) W) := by
  cases ho : m.ok with
  | true =>
    rw [show okR m r = r from by unfold okR; rw [if_pos ho]]
    exact wtries_yes a0 a1 a2 a3 n0 n1 n2 n3 c0 c1 c2 c3 g lb ts m W h hs hg ho r (HCL ho)
  | false =>
    rw [show okR m r = .error 220 from by unfold okR; rw [ho]; rfl]
    exact wtries_no a0 a1 a2 a3 n0 n1 n2 n3 c0 c1 c2 c3 g lb ts m W h hs ho
/-- What has been laid into the cells of the results. -/
structure LaidM (n b2 b3 : Nat) (w : World) (C D : Array Value) (w' : World) : Prop where
  r2 : RowAt w' b2 32 C
  r3 : RowAt w' b3 43 D
  block : ∀ j, j ≠ b2 → j ≠ b3 → w'.heap[j]? = w.heap[j]?
  below : Below n w w'
theorem laidM_of {n b2 b3 : Nat} {w : World} {v0 v1 v2 v3 e0 e1 u0 u1 u2 u3 d0 d1 : Value} (h : RowAt w b2 32 #[u0, u1, u2, u3]) (h2 : RowAt w b3 43 #[d0, d1]) (hne : b2 ≠ b3) (hn2 : n ≤ b2) (hn3 : n ≤ b3) :
    LaidM n b2 b3 w #[v0, v1, v2, v3] #[e0, e1] ((((((w.setCell ⟨b2, 0, none⟩ v0).setCell ⟨b2, 1, none⟩ v1).setCell ⟨b2, 2, none⟩ v2).setCell ⟨b2, 3, none⟩ v3).setCell ⟨b3, 0, none⟩ e0).setCell ⟨b3, 1, none⟩ e1) := by
  refine ⟨?_, ?_, fun j j1 j2 => ?_, ?_⟩
  · have h4 := (((h.set 0 v0).set 1 v1).set 2 v2).set 3 v3
    exact ((by simpa using h4 : RowAt _ b2 32 #[v0, v1, v2, v3]).setNe hne).setNe hne
  · have h3 : RowAt ((((w.setCell ⟨b2, 0, none⟩ v0).setCell ⟨b2, 1, none⟩ v1).setCell ⟨b2, 2, none⟩ v2).setCell ⟨b2, 3, none⟩ v3) b3 43 #[d0, d1] := (((h2.setNe hne.symm).setNe hne.symm).setNe hne.symm).setNe hne.symm
    have h4 := (h3.set 0 e0).set 1 e1
    simpa using h4
  · rw [heap_setCell_ne _ _ _ _ j2, heap_setCell_ne _ _ _ _ j2, heap_setCell_ne _ _ _ _ j1, heap_setCell_ne _ _ _ _ j1, heap_setCell_ne _ _ _ _ j1, heap_setCell_ne _ _ _ _ j1]
  · exact ((((((Below.refl n w).setCell (p := ⟨b2, 0, none⟩) hn2 _).setCell (p := ⟨b2, 1, none⟩) hn2 _).setCell (p := ⟨b2, 2, none⟩) hn2 _).setCell (p := ⟨b2, 3, none⟩) hn2 _).setCell (p := ⟨b3, 0, none⟩) hn3 _).setCell (p := ⟨b3, 1, none⟩) hn3 _
theorem LaidM.drew {n b2 b3 : Nat} {w w' : World} {C D : Array Value} (h : LaidM n b2 b3 w C D w') : LaidM n b2 b3 w C D w'.drew := ⟨h.1.drew, h.2.drew, h.3, h.4.drew⟩
theorem DoM_took {m : Mon} {w : Wt} {R : Nat} (h : HasLe m R) : (outT (DoM m w)).length ≤ 1 := by
  unfold DoM okR
  split
  · cases hd : doesM m [] w with
    | error k => exact Nat.zero_le _
    | ok x => exact (does_le h hd).2
  · exact Nat.zero_le _
theorem last_take {xs : List Ent} {k : Nat} (hk : k < xs.length) : (xs.take (k + 1)).getLastD (0, 0) = xs.getD k (0, 0) := by
  rw [List.take_succ_eq_append_getElem hk, List.getD_eq_getElem?_getD, List.getElem?_eq_getElem hk]; generalize xs.take k = l; simp
set_option maxRecDepth 20000 in
set_option maxHeartbeats 4000000 in
theorem Do_any (a0 a1 a2 a3 : Option Addr) (n0 n1 n2 n3 c0 c1 c2 c3 : Nat) (ts : List Hm) (m : Mon) (k gi es z : Int) (W : World) (h : MonX W W.heap.size a0 a1 a2 a3 n0 n1 n2 n3 ts m) (hs : SmallX n0 n1 n2 n3 ts) (hq : ∀ t ∈ ts, t.q.length ≤ 4095) (hz : U64 z) :
    Calls Try.prog 14 #[.agg #[.slice a0 n0 c0, .slice a1 n1 c1, .slice a2 n2 c2, .slice a3 n3 c3], .agg #[.int .i64 k, .int .i64 gi, .int .i64 es, .int .u64 z]] W (DoOut (DoM m (k, gi, es, z)) W) := by
  obtain ⟨w1, hw1⟩ : ∃ w1, W.alloc (.cells #[.slice a0 n0 c0, .slice a1 n1 c1, .slice a2 n2 c2, .slice a3 n3 c3] 32) = w1 := ⟨_, rfl⟩
  obtain ⟨w2, hw2⟩ : ∃ w2, w1.alloc (.cells #[.int .i64 k, .int .i64 gi, .int .i64 es, .int .u64 z] 45) = w2 := ⟨_, rfl⟩
  obtain ⟨w3, hw3⟩ : ∃ w3, w2.alloc (.cells #[.slice none 0 0, .slice none 0 0, .slice none 0 0, .slice none 0 0] 32) = w3 := ⟨_, rfl⟩
  obtain ⟨w4, hw4⟩ : ∃ w4, w3.alloc (.cells #[.int .i64 0, .int .u64 0] 43) = w4 := ⟨_, rfl⟩
  have s1 : w1.heap.size = W.heap.size + 1 := by rw [← hw1]; simp
  have s2 : w2.heap.size = W.heap.size + 1 + 1 := by rw [← hw2]; simp [s1]
  have s3 : w3.heap.size = W.heap.size + 1 + 1 + 1 := by rw [← hw3]; simp [s2]
  have s4 : w4.heap.size = W.heap.size + 1 + 1 + 1 + 1 := by rw [← hw4]; simp [s3]
  have b1 : Below W.heap.size W w1 := by rw [← hw1]; exact (Below.refl _ _).alloc (Nat.le_refl _) _
  have b2 : Below w1.heap.size w1 w2 := by rw [← hw2]; exact (Below.refl _ _).alloc (Nat.le_refl _) _
  have b3 : Below w2.heap.size w2 w3 := by rw [← hw3]; exact (Below.refl _ _).alloc (Nat.le_refl _) _
  have b4 : Below w3.heap.size w3 w4 := by rw [← hw4]; exact (Below.refl _ _).alloc (Nat.le_refl _) _
  have r1 : RowAt w4 (W.heap.size + 1) 45 #[.int .i64 k, .int .i64 gi, .int .i64 es, .int .u64 z] := by have h := RowAt.new w1 45 #[.int .i64 k, .int .i64 gi, .int .i64 es, .int .u64 z]; rw [hw2, s1] at h; exact (h.below b3).below b4
  have r2 : RowAt w4 (W.heap.size + 1 + 1) 32 #[.slice none 0 0, .slice none 0 0, .slice none 0 0, .slice none 0 0] := by have h := RowAt.new w2 32 #[.slice none 0 0, .slice none 0 0, .slice none 0 0, .slice none 0 0]; rw [hw3, s2] at h; exact h.below b4
  have r3 : RowAt w4 (W.heap.size + 1 + 1 + 1) 43 #[.int .i64 0, .int .u64 0] := by have h := RowAt.new w3 43 #[.int .i64 0, .int .u64 0]; rw [hw4, s3] at h; exact h
  have hb0 : Below W.heap.size W w4 := ((b1.trans (b2.mono b1.size)).trans (b3.mono (by omega))).trans (b4.mono (by omega))
  have HT := hide (wtries_any a0 a1 a2 a3 n0 n1 n2 n3 c0 c1 c2 c3 38 #[.pointer (some ⟨W.heap.size + 1, 0, none⟩)] ts m w4 ((h.below hb0).more hb0.size) hs (enters_of Try.func38 (by kernel_rfl) rfl) (doesM m [] (k, gi, es, z)) (fun ho w gx y0 y1 y2 y3 d2 us hat hbw hsz hgx =>
    doC_any gx (w4.heap.size + 3) (W.heap.size + 1) _ _ _ _ _ _ _ _ _ _ _ _ _ _ _ us m k gi es z w hat hsz (ok_iff.1 ho) (mok_rows h hq) (Nat.le_refl _) hz (r1.below hbw)))
  have HT1 := hide (DoM_took (w := (k, gi, es, z)) (mok_rows h hq))
  have HB := hide hb0
  have R2 := hide r2
  have R3 := hide r3
  have S4 := hide s4
  clear b1 b2 b3 b4 r1 r2 r3 hb0 s1 s2 s3 s4 h hs hq hz
  subst hw4
  subst hw3
  subst hw2
  subst hw1
  go_enter Try.func14, Try.ntmps14
  go_wp2_with fail
  generalize (((W.alloc (.cells #[.slice a0 n0 c0, .slice a1 n1 c1, .slice a2 n2 c2, .slice a3 n3 c3] 32)).alloc (.cells #[.int .i64 k, .int .i64 gi, .int .i64 es, .int .u64 z] 45)).alloc (.cells #[.slice none 0 0, .slice none 0 0, .slice none 0 0, .slice none 0 0] 32)).alloc (.cells #[.int .i64 0, .int .u64 0] 43) = w4 at *
  with_reducible refine HT.out.mono ?_
  intro e w5 htr
  obtain ⟨hb5, gx, a0', a1', a2', a3', a4', n0', n1', n2', n3', n4', c0', c1', c2', c3', c4', ts', rfl, hx⟩ := htr.out
  have HX := hide hx
  have R2 := hide (R2.out.below hb5)
  have R3 := hide (R3.out.below hb5)
  have HB5 := hide hb5
  have HS5 := hide hb5.size
  clear htr hb5 hx HT
  obtain ⟨r, hr⟩ : ∃ r, DoM m (k, gi, es, z) = r := ⟨_, rfl⟩
  have HRR := hide hr
  rw [show okR m (doesM m [] (k, gi, es, z)) = r from hr] at HX ⊢
  rw [hr] at HT1
  clear hr
  obtain ⟨ke, hke⟩ : ∃ ke, outK r = ke := ⟨_, rfl⟩
  rw [hke]
  have HKE := hide hke
  obtain ⟨xs, hxs⟩ : ∃ xs, outT r = xs := ⟨_, rfl⟩
  rw [hxs] at HX HT1
  have HXS := hide hxs
  obtain ⟨mm, hmm⟩ : ∃ mm, outM r = mm := ⟨_, rfl⟩
  rw [hmm] at HX
  have HMM := hide hmm
  clear hke hxs hmm
  obtain ⟨x0, x1, x2, x3, x4⟩ := row5 HX.out.row
  have xl := HX.out.row.lt
  have hn4 : n4' ≤ 1 := by rw [← HX.out.l4]; exact HT1.out
  go_wp2_with fail
  clear x0 x1 x2 x3 x4 xl
  have HE := hide (RowAt.new w5 43 #[.int .i64 0, .int .u64 0])
  have HBE := hide (show Below w5.heap.size w5 (w5.alloc (.cells #[.int .i64 0, .int .u64 0] 43)) from (Below.refl _ _).alloc (Nat.le_refl _) _)
  generalize w5.alloc (.cells #[.int .i64 0, .int .u64 0] 43) = w6 at *
  go_loopw [23] (fun i wr => ∃ (j : Nat), j ≤ n4' ∧ i = .int .i64 j ∧ RowAt wr w5.heap.size 43 #[.int .i64 ((xs.take j).getLastD (0, 0)).1, .int .u64 ((xs.take j).getLastD (0, 0)).2] ∧ Below w5.heap.size w5 wr) (fun i _ => n4' - (intOf i).toNat)
  case atStart => exact ⟨0, Nat.zero_le _, rfl, HE.out, HBE.out⟩
  case round =>
    obtain ⟨j, hj, rfl, hrow, hbr⟩ := hrel
    have HRW := hide hrow
    have HBR := hide hbr
    clear hrow hbr
    by_cases hlt : j < n4'
    · have hlx : j < xs.length := by rw [HX.out.l4]; exact hlt
      obtain ⟨b, o, rfl, hb, d0, d1⟩ := (((HX.out.mon w5 (Nat.le_refl _) (fun _ _ _ => rfl)).2).below HBR.out).entAt HX.out.l4 hlt
      have hbl : b < wr.heap.size := Nat.lt_of_lt_of_le hb HBR.out.size
      have hkm : (j : Int) < (n4' : Int) := by omega
      have HLT := hide (last_take hlx)
      generalize xs.getD j (0, 0) = t at *
      obtain ⟨t1, t2⟩ := t
      dsimp only at *
      clear hb
      go_upto_region 6 with (refine wpList_store_new rfl 43 _ _ rfl _ #[.int .i64 t1, .int .u64 t2] wr.heap.size rfl rfl rfl (by kernel_rfl) rfl (by simp [Value.oneCell']) ?_)
      have HBN := hide (show Below wr.heap.size wr (wr.alloc (.cells #[.int .i64 t1, .int .u64 t2] 43)) from (Below.refl _ _).alloc (Nat.le_refl _) _)
      have HRN := hide (RowAt.new wr 43 #[.int .i64 t1, .int .u64 t2])
      have HGE := hide HRW.out.lt
      have HRW := hide (HRW.out.below HBN.out)
      have HB7 := hide (HBR.out.trans (HBN.out.mono HBR.out.size))
      generalize wr.alloc (.cells #[.int .i64 t1, .int .u64 t2] 43) = w7 at *
      have y0 := row20 HRN.out
      have y1 := row21 HRN.out
      have yl := HRN.out.lt
      have z0 := row20 HRW.out
      have z1 := row21 HRW.out
      have zl := HRW.out.lt
      have f0 := HRW.out.frozen 0
      have f1 := HRW.out.frozen 1
      have hne : ¬ wr.heap.size = w5.heap.size := by have := HGE.out; omega
      clear d0 d1 hbl
      go_upto_region 7 with (fail)
      have HN := hide (show RowAt ((w7.setCell ⟨w5.heap.size, 0, none⟩ (.int .i64 t1)).setCell ⟨w5.heap.size, 1, none⟩ (.int .u64 t2)) w5.heap.size 43 #[.int .i64 ((xs.take (j + 1)).getLastD (0, 0)).1, .int .u64 ((xs.take (j + 1)).getLastD (0, 0)).2] from by
        rw [HLT.out]
        have h4 := (HRW.out.set 0 (.int .i64 t1)).set 1 (.int .u64 t2)
        simpa using h4)
      have HB8 := hide ((HB7.out.setCell (p := ⟨w5.heap.size, 0, none⟩) (Nat.le_refl _) (.int .i64 t1)).setCell (p := ⟨w5.heap.size, 1, none⟩) (Nat.le_refl _) (.int .u64 t2))
      generalize ((w7.setCell ⟨w5.heap.size, 0, none⟩ (.int .i64 t1)).setCell ⟨w5.heap.size, 1, none⟩ (.int .u64 t2)) = w8 at *
      clear y0 y1 yl z0 z1 zl f0 f1 hne
      go_wp2_with fail
      go_roundw
      case rel => exact ⟨j + 1, by omega, by go_num, HN.out, HB8.out⟩
      case measure => simp [intOf]; omega
    · obtain rfl : j = n4' := by omega
      have HEE := hide (show (xs.take j).getLastD (0, 0) = outE r from by rw [List.take_of_length_le (by rw [HX.out.l4]; exact Nat.le_refl _), ← HXS.out]; rfl)
      rw [HEE.out] at HRW
      obtain ⟨ev, hev⟩ : ∃ ev, outE r = ev := ⟨_, rfl⟩
      rw [hev] at HRW
      have HEV := hide hev
      clear hev HEE
      obtain ⟨e0, e1⟩ := ev
      dsimp only at *
      have R2 := hide (R2.out.below HBR.out)
      have R3 := hide (R3.out.below HBR.out)
      have HXR := hide (HX.out.row.below HBR.out)
      have hs4 := S4.out
      have hs5 := HS5.out
      have hsr := HBR.out.size
      have hgx : gx < w5.heap.size := HX.out.row.lt
      have hne1 : ¬ gx = W.heap.size + 1 + 1 := fun e => by subst e; exact absurd (row_typ HXR.out R2.out) (by decide)
      have hne2 : ¬ gx = W.heap.size + 1 + 1 + 1 := fun e => by subst e; exact absurd (row_typ HXR.out R3.out) (by decide)
      have hne3 : ¬ w5.heap.size = W.heap.size + 1 + 1 := by omega
      have hne4 : ¬ w5.heap.size = W.heap.size + 1 + 1 + 1 := by omega
      have hne5 : ¬ W.heap.size + 1 + 1 = gx := fun e => hne1 e.symm
      have hne6 : ¬ W.heap.size + 1 + 1 + 1 = gx := fun e => hne2 e.symm
      have hne7 : ¬ W.heap.size + 1 + 1 = w5.heap.size := by omega
      have hne8 : ¬ W.heap.size + 1 + 1 + 1 = w5.heap.size := by omega
      obtain ⟨x0, x1, x2, x3, x4⟩ := row5 HXR.out
      have xl := HXR.out.lt
      obtain ⟨z0, z1, z2, z3⟩ := row4 R2.out
      have zl := R2.out.lt
      have f0 := R2.out.frozen 0
      have f1 := R2.out.frozen 1
      have f2 := R2.out.frozen 2
      have f3 := R2.out.frozen 3
      have y0 := row20 R3.out
      have y1 := row21 R3.out
      have yl := R3.out.lt
      have g0 := R3.out.frozen 0
      have g1 := R3.out.frozen 1
      have k0 := row20 HRW.out
      have k1 := row21 HRW.out
      have kl := HRW.out.lt
      have HB9 := hide (HB.out.trans (HB5.out.mono HB.out.size))
      have HB9 := hide (HB9.out.trans (HBR.out.mono HB9.out.size))
      clear hs4 hs5 hsr hgx
      go_upto_region 8 with (fail)
      go_region
      all_goals
        have HLD := hide (laidM_of (v0 := .slice a0' n0' c0') (v1 := .slice a1' n1' c1') (v2 := .slice a2' n2' c2') (v3 := .slice a3' n3' c3') (e0 := .int .i64 e0) (e1 := .int .u64 e1) R2.out R3.out (by omega) (show W.heap.size ≤ W.heap.size + 1 + 1 by omega) (show W.heap.size ≤ W.heap.size + 1 + 1 + 1 by omega))
        generalize (((((wr.setCell ⟨W.heap.size + 1 + 1, 0, none⟩ (.slice a0' n0' c0')).setCell ⟨W.heap.size + 1 + 1, 1, none⟩ (.slice a1' n1' c1')).setCell ⟨W.heap.size + 1 + 1, 2, none⟩ (.slice a2' n2' c2')).setCell ⟨W.heap.size + 1 + 1, 3, none⟩ (.slice a3' n3' c3')).setCell ⟨W.heap.size + 1 + 1 + 1, 0, none⟩ (.int .i64 e0)).setCell ⟨W.heap.size + 1 + 1 + 1, 1, none⟩ (.int .u64 e1) = w7 at *
        replace HLD := hide HLD.out.drew
        clear x0 x1 x2 x3 x4 xl z0 z1 z2 z3 zl f0 f1 f2 f3 y0 y1 yl g0 g1 k0 k1 kl hne1 hne2 hne3 hne4 hne5 hne6 hne7 hne8
        generalize w7.drew = w8 at *
        go_wp2_with fail
        obtain ⟨p0, p1, p2, p3⟩ := row4 HLD.out.r2
        have d0 := row20 HLD.out.r3
        have d1 := row21 HLD.out.r3
        have cl := HLD.out.r2.lt
        have dl := HLD.out.r3.lt
        refine bodyPost_ret (v := .tuple #[.agg #[.slice a0' n0' c0', .slice a1' n1' c1', .slice a2' n2' c2', .slice a3' n3' c3'], .agg #[.int .i64 e0, .int .u64 e1], .int .i64 ke]) (by simp [results, Try.results14, go_sem, p0, p1, p2, p3, cl, d0, d1, dl]) rfl ?_
        have hmx := fun (w9 : World) (hs9 : w8.heap.size ≤ w9.heap.size) (hk9 : ∀ j, W.heap.size ≤ j → j < w8.heap.size → w9.heap[j]? = w8.heap[j]?) => (HX.out.mon w9 (Nat.le_trans (Nat.le_trans HBR.out.size HLD.out.below.size) hs9) (fun i hi1 hi2 => (hk9 i (by have := S4.out; omega) (Nat.lt_of_lt_of_le hi2 (Nat.le_trans HBR.out.size HLD.out.below.size))).trans ((HLD.out.block i (by have := S4.out; omega) (by have := S4.out; omega)).trans (HBR.out.block i hi2)))).1
        rw [HRR.out]
        show DoOut r W _ _
        unfold DoOut
        rw [HKE.out, HEV.out, HMM.out]
        exact ⟨⟨_, rfl, ⟨_, _, _, _, _, _, _, _, _, _, _, _, ts', rfl, hmx, HX.out.caps, HX.out.cap3⟩⟩, HB9.out.trans (HLD.out.below.mono (Nat.le_refl _))⟩
theorem laidM4_of {n b2 : Nat} {w : World} {v0 v1 v2 v3 u0 u1 u2 u3 : Value} (h : RowAt w b2 32 #[u0, u1, u2, u3]) (hn2 : n ≤ b2) :
    RowAt ((((w.setCell ⟨b2, 0, none⟩ v0).setCell ⟨b2, 1, none⟩ v1).setCell ⟨b2, 2, none⟩ v2).setCell ⟨b2, 3, none⟩ v3) b2 32 #[v0, v1, v2, v3] ∧ (∀ j, j ≠ b2 → ((((w.setCell ⟨b2, 0, none⟩ v0).setCell ⟨b2, 1, none⟩ v1).setCell ⟨b2, 2, none⟩ v2).setCell ⟨b2, 3, none⟩ v3).heap[j]? = w.heap[j]?) ∧ Below n w ((((w.setCell ⟨b2, 0, none⟩ v0).setCell ⟨b2, 1, none⟩ v1).setCell ⟨b2, 2, none⟩ v2).setCell ⟨b2, 3, none⟩ v3) := by
  refine ⟨?_, fun j j1 => ?_, ?_⟩
  · have h4 := (((h.set 0 v0).set 1 v1).set 2 v2).set 3 v3
    simpa using h4
  · rw [heap_setCell_ne _ _ _ _ j1, heap_setCell_ne _ _ _ _ j1, heap_setCell_ne _ _ _ _ j1, heap_setCell_ne _ _ _ _ j1]
  · exact ((((Below.refl n w).setCell (p := ⟨b2, 0, none⟩) hn2 _).setCell (p := ⟨b2, 1, none⟩) hn2 _).setCell (p := ⟨b2, 2, none⟩) hn2 _).setCell (p := ⟨b2, 3, none⟩) hn2 _
set_option maxRecDepth 20000 in
set_option maxHeartbeats 4000000 in
theorem Run_any (a0 a1 a2 a3 : Option Addr) (n0 n1 n2 n3 c0 c1 c2 c3 : Nat) (ts : List Hm) (m : Mon) (A : Option Addr) (n c : Nat) (l : List Wt) (W : World) (h : MonX W W.heap.size a0 a1 a2 a3 n0 n1 n2 n3 ts m) (hs : SmallX n0 n1 n2 n3 ts) (R : Nat) (hq : ∀ t ∈ ts, t.q.length ≤ R) (hl : Rd W W.heap.size 4 A n (Cs encX l)) (hn : l.length = n) (hU : ∀ x ∈ l, U64 x.2.2.2) (hRn : R + n ≤ 4095) :
    Calls Try.prog 29 #[.agg #[.slice a0 n0 c0, .slice a1 n1 c1, .slice a2 n2 c2, .slice a3 n3 c3], .slice A n c] W (RunOut (RunM m l) W) := by
  obtain ⟨w1, hw1⟩ : ∃ w1, W.alloc (.cells #[.slice a0 n0 c0, .slice a1 n1 c1, .slice a2 n2 c2, .slice a3 n3 c3] 32) = w1 := ⟨_, rfl⟩
  obtain ⟨w2, hw2⟩ : ∃ w2, w1.alloc (.cells #[.slice A n c] 30) = w2 := ⟨_, rfl⟩
  obtain ⟨w3, hw3⟩ : ∃ w3, w2.alloc (.cells #[.slice none 0 0, .slice none 0 0, .slice none 0 0, .slice none 0 0] 32) = w3 := ⟨_, rfl⟩
  have s1 : w1.heap.size = W.heap.size + 1 := by rw [← hw1]; simp
  have s2 : w2.heap.size = W.heap.size + 1 + 1 := by rw [← hw2]; simp [s1]
  have s3 : w3.heap.size = W.heap.size + 1 + 1 + 1 := by rw [← hw3]; simp [s2]
  have b1 : Below W.heap.size W w1 := by rw [← hw1]; exact (Below.refl _ _).alloc (Nat.le_refl _) _
  have b2 : Below w1.heap.size w1 w2 := by rw [← hw2]; exact (Below.refl _ _).alloc (Nat.le_refl _) _
  have b3 : Below w2.heap.size w2 w3 := by rw [← hw3]; exact (Below.refl _ _).alloc (Nat.le_refl _) _
  have r1 : RowAt w3 (W.heap.size + 1) 30 #[.slice A n c] := by have h := RowAt.new w1 30 #[.slice A n c]; rw [hw2, s1] at h; exact h.below b3
  have r2 : RowAt w3 (W.heap.size + 1 + 1) 32 #[.slice none 0 0, .slice none 0 0, .slice none 0 0, .slice none 0 0] := by have h := RowAt.new w2 32 #[.slice none 0 0, .slice none 0 0, .slice none 0 0, .slice none 0 0]; rw [hw3, s2] at h; exact h
  have hb0 : Below W.heap.size W w3 := (b1.trans (b2.mono b1.size)).trans (b3.mono (by omega))
  have HT := hide (wtries_any a0 a1 a2 a3 n0 n1 n2 n3 c0 c1 c2 c3 59 #[.pointer (some ⟨W.heap.size + 1, 0, none⟩)] ts m w3 ((h.below hb0).more hb0.size) hs (enters_of Try.func59 (by kernel_rfl) rfl) (runM m [] l) (fun ho w gx y0 y1 y2 y3 d2 us hat hbw hsz hgx =>
    runC_any gx (w3.heap.size + 3) (W.heap.size + 1) W.heap.size n c A l _ _ _ _ _ _ _ _ _ _ _ _ _ _ _ us m w hat hsz hgx (by omega) (r1.below hbw) (hl.below (hb0.trans (hbw.mono hb0.size))) hn hU (ok_iff.1 ho) R (mok_rows h hq) hRn))
  have HB := hide hb0
  have R2 := hide r2
  have S3 := hide s3
  clear b1 b2 b3 r1 r2 hb0 s1 s2 s3 h hs hq hl hU
  subst hw3
  subst hw2
  subst hw1
  go_enter Try.func29, Try.ntmps29
  go_wp2_with fail
  generalize ((W.alloc (.cells #[.slice a0 n0 c0, .slice a1 n1 c1, .slice a2 n2 c2, .slice a3 n3 c3] 32)).alloc (.cells #[.slice A n c] 30)).alloc (.cells #[.slice none 0 0, .slice none 0 0, .slice none 0 0, .slice none 0 0] 32) = w4 at *
  with_reducible refine HT.out.mono ?_
  intro e w5 htr
  obtain ⟨hb5, gx, a0', a1', a2', a3', a4', n0', n1', n2', n3', n4', c0', c1', c2', c3', c4', ts', rfl, hx⟩ := htr.out
  have HX := hide hx
  have R2 := hide (R2.out.below hb5)
  have HB5 := hide hb5
  have HS5 := hide hb5.size
  clear htr hb5 hx HT
  obtain ⟨r, hr⟩ : ∃ r, RunM m l = r := ⟨_, rfl⟩
  have HRR := hide hr
  rw [show okR m (runM m [] l) = r from hr] at HX ⊢
  clear hr
  obtain ⟨ke, hke⟩ : ∃ ke, outK r = ke := ⟨_, rfl⟩
  rw [hke]
  have HKE := hide hke
  obtain ⟨xs, hxs⟩ : ∃ xs, outT r = xs := ⟨_, rfl⟩
  rw [hxs] at HX
  have HXS := hide hxs
  obtain ⟨mm, hmm⟩ : ∃ mm, outM r = mm := ⟨_, rfl⟩
  rw [hmm] at HX
  have HMM := hide hmm
  clear hke hxs hmm
  have hne1 : ¬ gx = W.heap.size + 1 + 1 := fun e => by subst e; exact absurd (row_typ HX.out.row R2.out) (by decide)
  have hne5 : ¬ W.heap.size + 1 + 1 = gx := fun e => hne1 e.symm
  obtain ⟨x0, x1, x2, x3, x4⟩ := row5 HX.out.row
  have xl := HX.out.row.lt
  obtain ⟨z0, z1, z2, z3⟩ := row4 R2.out
  have zl := R2.out.lt
  have f0 := R2.out.frozen 0
  have f1 := R2.out.frozen 1
  have f2 := R2.out.frozen 2
  have f3 := R2.out.frozen 3
  have HB9 := hide (HB.out.trans (HB5.out.mono HB.out.size))
  go_upto_region 2 with (fail)
  go_region
  all_goals
    have HLD := hide (laidM4_of (n := W.heap.size) (v0 := .slice a0' n0' c0') (v1 := .slice a1' n1' c1') (v2 := .slice a2' n2' c2') (v3 := .slice a3' n3' c3') R2.out (by omega))
    generalize (((w5.setCell ⟨W.heap.size + 1 + 1, 0, none⟩ (.slice a0' n0' c0')).setCell ⟨W.heap.size + 1 + 1, 1, none⟩ (.slice a1' n1' c1')).setCell ⟨W.heap.size + 1 + 1, 2, none⟩ (.slice a2' n2' c2')).setCell ⟨W.heap.size + 1 + 1, 3, none⟩ (.slice a3' n3' c3') = w7 at *
    replace HLD : Hid (RowAt w7.drew (W.heap.size + 1 + 1) 32 #[.slice a0' n0' c0', .slice a1' n1' c1', .slice a2' n2' c2', .slice a3' n3' c3'] ∧ (∀ j, j ≠ W.heap.size + 1 + 1 → w7.drew.heap[j]? = w5.heap[j]?) ∧ Below W.heap.size w5 w7.drew) := hide ⟨HLD.out.1.drew, HLD.out.2.1, HLD.out.2.2.drew⟩
    clear x0 x1 x2 x3 x4 xl z0 z1 z2 z3 zl f0 f1 f2 f3 hne1 hne5
    generalize w7.drew = w8 at *
    go_wp2_with fail
    obtain ⟨p0, p1, p2, p3⟩ := row4 HLD.out.1
    have cl := HLD.out.1.lt
    refine bodyPost_ret (v := .tuple #[.agg #[.slice a0' n0' c0', .slice a1' n1' c1', .slice a2' n2' c2', .slice a3' n3' c3'], .slice a4' n4' c4', .int .i64 ke]) (by simp [results, Try.results29, go_sem, p0, p1, p2, p3, cl]) rfl ?_
    have hmx := HX.out.mon w8 HLD.out.2.2.size (fun i hi1 hi2 => HLD.out.2.1 i (by have := S3.out; omega))
    rw [HRR.out]
    show RunOut r W _ _
    unfold RunOut
    rw [HKE.out, HXS.out, HMM.out]
    have hmo := fun (w9 : World) (hs9 : w8.heap.size ≤ w9.heap.size) (hk9 : ∀ j, W.heap.size ≤ j → j < w8.heap.size → w9.heap[j]? = w8.heap[j]?) => (HX.out.mon w9 (Nat.le_trans HLD.out.2.2.size hs9) (fun i hi1 hi2 => (hk9 i (by have := S3.out; omega) (Nat.lt_of_lt_of_le hi2 HLD.out.2.2.size)).trans (HLD.out.2.1 i (by have := S3.out; omega)))).1
    exact ⟨⟨_, _, _, _, rfl, ⟨_, _, _, _, _, _, _, _, _, _, _, _, ts', rfl, hmo, HX.out.caps, HX.out.cap3⟩, hmx.2.more HLD.out.2.2.size, HX.out.l4⟩, HB9.out.trans HLD.out.2.2⟩
end Go.Proofs.Ytfpbabafeecncaa

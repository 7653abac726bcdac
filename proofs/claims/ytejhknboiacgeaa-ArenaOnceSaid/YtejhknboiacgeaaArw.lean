/-
  The layer does something.
-/
import Derived.Test.YtejhknboiacgeaaAro
set_option linter.unusedSimpArgs false
set_option linter.unusedVariables false
namespace Go.Proofs.Ytejhknboiacgeaa
open Go Go.RowKit
attribute [local go_sem] via_cell via_frozen

theorem ArOut.off {W w : World} {A : Option Addr} {n g : Nat} {ys : List (Int × Int)} (h : ArOut W A n ys w) (hn : 0 < n) (hg : g < W.heap.size) : OffB A g := fun p hp => by
  obtain ⟨gs, h1, h2, _⟩ := h.own hn
  rw [h1] at hp
  injection hp with hp
  subst hp
  show gs ≠ g; omega
theorem EqualEK {n1 n2 : Nat} (A1 A2 : Option Addr) (c1 c2 : Nat) (xs ys : List (Int × Int)) (W : World) (h1 : Rd W W.heap.size 2 A1 n1 (Cs encE xs)) (h2 : Rd W W.heap.size 2 A2 n2 (Cs encE ys)) (hx : xs.length = n1) (hy : ys.length = n2)
    (hl1 : n1 ≤ 4096) (hl2 : n2 ≤ 4096) (r : Bool) (hr : decide (xs = ys) = r) :
    Calls Try.prog 17 #[.slice A1 n1 c1, .slice A2 n2 c2] W fun e W' => e = .returned (.bool r) ∧ Below W.heap.size W W' := by
  subst hx hy
  exact EqualE _ _ A1 A2 c1 c2 xs ys W h1 h2 (Nat.le_refl _) (Nat.le_refl _) hl1 hl2 r hr
def S0 : List (Int × Int) := [(0, 0), (0, 0), (0, 0)]
def S1 : List (Int × Int) := [(1, 0), (1, 0), (0, 0)]
def S2 : List (Int × Int) := [(2, 0), (1, 0), (0, 0)]
def S3 : List (Int × Int) := [(0, 1), (1, 0), (0, 0)]
def S4 : List (Int × Int) := [(1, 1), (1, 0), (0, 0)]
def L1 : List (Int × Int) := [(0, 0), (1, 0)]
def L2 : List (Int × Int) := [(0, 1)]
def E0 : List (Int × Int) := [(0, 0)]
theorem E0_u : ∀ e ∈ E0, U64 e.2 := by intro e he; simp [E0] at he; subst he; unfold U64; decide

set_option maxRecDepth 100000 in
set_option maxHeartbeats 4000000 in
theorem wakes_any (W : World) : Calls Try.prog 7 #[] W fun e W' => e = .returned (.bool true) ∧ Below W.heap.size W W' := by
  have HN := hide (new_yes 3 W (by omega) (by omega))
  go_enter Try.func7, Try.ntmps7
  go_wp2_with fail
  refine HN.out.mono ?_
  rintro e w1 ⟨A0, c0, rfl, hc0, hcm0, hrd, hb⟩
  have hbx : Below w1.heap.size w1 (w1.alloc (.cells #[.slice A0 3 c0] 24)) := (Below.refl _ _).alloc (Nat.le_refl _) _
  obtain ⟨g, hg⟩ : ∃ g, w1.heap.size = g := ⟨_, rfl⟩
  have HD := hide ((hrd.below hbx).more hbx.size)
  have hr := RowAt.new w1 24 #[.slice A0 3 c0]
  rw [hg] at hr
  have R1 := hide hr
  have HB := hide (hb.trans (hbx.mono hb.size))
  have HG := hide (show W.heap.size ≤ g by rw [← hg]; exact hb.size)
  clear HN hrd hb hbx hr
  go_wp2_with fail
  clear hg
  generalize (w1.alloc (.cells #[.slice A0 3 c0] 24)) = w2 at *
  with_reducible refine (TakeK A0 c0 3 2 S0 _ HD.out rfl (by omega) 0 S1 L1 3 2 (by decide) (by decide) (by decide) rfl rfl).mono ?_
  rintro e w3 ⟨A1, c1, B1, d1, rfl, hc1, hd1, hout, hl, hlf, hb⟩
  have hgw := R1.out.lt
  have HO := hide (hout.off (by omega) hgw)
  have HD := hide hout.rd
  have R1 := hide (R1.out.below hb)
  have HB := hide (HB.out.trans (hb.mono HB.out.size))
  have HL1 := hide hl
  have HLF1 := hide (show OffB B1 g from fun p hp => by have := hlf p hp; omega)
  clear hout hl hlf hb hgw
  have x1 := row1 R1.out
  have f1 := R1.out.frozen 0
  have l1 := R1.out.lt
  go_wp2_with fail
  have HD := hide (HD.out.setS HO.out 0 (.slice A1 3 c1))
  have HL1 := hide (HL1.out.setS HLF1.out 0 (.slice A1 3 c1))
  have R1 := hide (R1.out.set 0 (.slice A1 3 c1))
  have HB := hide (HB.out.setCell (p := ⟨g, 0, none⟩) HG.out (.slice A1 3 c1))
  have hsz : (w3.setCell ⟨g, 0, none⟩ (.slice A1 3 c1)).heap.size = w3.heap.size := by simp
  clear x1 f1 l1 HO
  generalize (w3.setCell ⟨g, 0, none⟩ (.slice A1 3 c1)) = w4 at *
  (try rw [← hsz])
  clear hsz
  have hbl : Below w4.heap.size w4 (w4.alloc (.cells #[.int .i64 0, .int .u64 0] 31)) := (Below.refl _ _).alloc (Nat.le_refl _) _
  have hrl : Rd (w4.alloc (.cells #[.int .i64 0, .int .u64 0] 31)) (w4.alloc (.cells #[.int .i64 0, .int .u64 0] 31)).heap.size 2 (some ⟨w4.heap.size, 0, none⟩) 1 (Cs encE E0) := by
    have h := Rd.new w4 #[.int .i64 0, .int .u64 0] 31 2 1 rfl
    rw [← World.size_alloc w4 (.cells #[.int .i64 0, .int .u64 0] 31)] at h
    exact h
  have HD := hide ((HD.out.below hbl).more hbl.size)
  have HL1 := hide ((HL1.out.below hbl).more hbl.size)
  have R1 := hide (R1.out.below hbl)
  have HB := hide (HB.out.trans (hbl.mono HB.out.size))
  with_reducible refine (RetireK A1 c1 3 (some ⟨w4.heap.size, 0, none⟩) 1 1 S1 E0 _ HD.out rfl (by omega) hrl rfl (by omega) 0 S2 3 (by decide) (by decide) rfl).mono ?_
  rintro e w5 ⟨A2, c2, rfl, hc2, hout, hb⟩
  have hgw := R1.out.lt
  have HO := hide (hout.off (by omega) hgw)
  have HD := hide hout.rd
  have HL1 := hide ((HL1.out.below hb).more hb.size)
  have R1 := hide (R1.out.below hb)
  have HB := hide (HB.out.trans (hb.mono HB.out.size))
  clear hout hb hgw hbl hrl
  have x1 := row1 R1.out
  have f1 := R1.out.frozen 0
  have l1 := R1.out.lt
  go_wp2_with fail
  have HD := hide (HD.out.setS HO.out 0 (.slice A2 3 c2))
  have HL1 := hide (HL1.out.setS HLF1.out 0 (.slice A2 3 c2))
  have R1 := hide (R1.out.set 0 (.slice A2 3 c2))
  have HB := hide (HB.out.setCell (p := ⟨g, 0, none⟩) HG.out (.slice A2 3 c2))
  have hsz : (w5.setCell ⟨g, 0, none⟩ (.slice A2 3 c2)).heap.size = w5.heap.size := by simp
  clear x1 f1 l1 HO
  generalize (w5.setCell ⟨g, 0, none⟩ (.slice A2 3 c2)) = w6 at *
  (try rw [← hsz])
  clear hsz
  have x1 := row1 R1.out
  have l1 := R1.out.lt
  refine (counts_any A2 c2 3 S2 _ HD.out rfl (by omega) 1 1 1 (by decide) (by decide) (by decide)).mono ?_
  rintro e w7 ⟨rfl, hb⟩
  have HD := hide ((HD.out.below hb).more hb.size)
  have HL1 := hide ((HL1.out.below hb).more hb.size)
  have R1 := hide (R1.out.below hb)
  have HB := hide (HB.out.trans (hb.mono HB.out.size))
  have x1 := row1 R1.out
  have l1 := R1.out.lt
  clear hb
  go_wp2_with fail
  have hbl : Below w7.heap.size w7 (w7.alloc (.cells #[.int .i64 0, .int .u64 0] 31)) := (Below.refl _ _).alloc (Nat.le_refl _) _
  have hrl : Rd (w7.alloc (.cells #[.int .i64 0, .int .u64 0] 31)) (w7.alloc (.cells #[.int .i64 0, .int .u64 0] 31)).heap.size 2 (some ⟨w7.heap.size, 0, none⟩) 1 (Cs encE E0) := by
    have h := Rd.new w7 #[.int .i64 0, .int .u64 0] 31 2 1 rfl
    rw [← World.size_alloc w7 (.cells #[.int .i64 0, .int .u64 0] 31)] at h
    exact h
  have HD := hide ((HD.out.below hbl).more hbl.size)
  have HL1 := hide ((HL1.out.below hbl).more hbl.size)
  have R1 := hide (R1.out.below hbl)
  have HB := hide (HB.out.trans (hbl.mono HB.out.size))
  with_reducible refine (GiveK A2 c2 3 (some ⟨w7.heap.size, 0, none⟩) 1 1 S2 E0 _ HD.out rfl (by omega) hrl rfl (by omega) E0_u 0 S3 3 (by decide) (by decide) rfl).mono ?_
  rintro e w8 ⟨A4, c4, rfl, hc4, hout, hb⟩
  have hgw := R1.out.lt
  have HO := hide (hout.off (by omega) hgw)
  have HD := hide hout.rd
  have HL1 := hide ((HL1.out.below hb).more hb.size)
  have R1 := hide (R1.out.below hb)
  have HB := hide (HB.out.trans (hb.mono HB.out.size))
  clear hout hb hgw hbl hrl
  have x1 := row1 R1.out
  have f1 := R1.out.frozen 0
  have l1 := R1.out.lt
  go_wp2_with fail
  have HD := hide (HD.out.setS HO.out 0 (.slice A4 3 c4))
  have HL1 := hide (HL1.out.setS HLF1.out 0 (.slice A4 3 c4))
  have R1 := hide (R1.out.set 0 (.slice A4 3 c4))
  have HB := hide (HB.out.setCell (p := ⟨g, 0, none⟩) HG.out (.slice A4 3 c4))
  have hsz : (w8.setCell ⟨g, 0, none⟩ (.slice A4 3 c4)).heap.size = w8.heap.size := by simp
  clear x1 f1 l1 HO
  generalize (w8.setCell ⟨g, 0, none⟩ (.slice A4 3 c4)) = w9 at *
  (try rw [← hsz])
  clear hsz
  with_reducible refine (TakeK A4 c4 3 1 S3 _ HD.out rfl (by omega) 0 S4 L2 3 1 (by decide) (by decide) (by decide) rfl rfl).mono ?_
  rintro e w10 ⟨A5, c5, B5, d5, rfl, hc5, hd5, hout, hl, hlf, hb⟩
  have hgw := R1.out.lt
  have HO := hide (hout.off (by omega) hgw)
  have HD := hide hout.rd
  have HL1 := hide ((HL1.out.below hb).more hb.size)
  have R1 := hide (R1.out.below hb)
  have HB := hide (HB.out.trans (hb.mono HB.out.size))
  have HL5 := hide hl
  have HLF5 := hide (show OffB B5 g from fun p hp => by have := hlf p hp; omega)
  clear hout hl hlf hb hgw
  have x1 := row1 R1.out
  have f1 := R1.out.frozen 0
  have l1 := R1.out.lt
  go_wp2_with fail
  have HD := hide (HD.out.setS HO.out 0 (.slice A5 3 c5))
  have HL1 := hide (HL1.out.setS HLF1.out 0 (.slice A5 3 c5))
  have HL5 := hide (HL5.out.setS HLF5.out 0 (.slice A5 3 c5))
  have R1 := hide (R1.out.set 0 (.slice A5 3 c5))
  have HB := hide (HB.out.setCell (p := ⟨g, 0, none⟩) HG.out (.slice A5 3 c5))
  have hsz : (w10.setCell ⟨g, 0, none⟩ (.slice A5 3 c5)).heap.size = w10.heap.size := by simp
  clear x1 f1 l1 HO
  generalize (w10.setCell ⟨g, 0, none⟩ (.slice A5 3 c5)) = w11 at *
  (try rw [← hsz])
  clear hsz
  have hbl : Below w11.heap.size w11 (w11.alloc (.cells #[.int .i64 0, .int .u64 0] 31)) := (Below.refl _ _).alloc (Nat.le_refl _) _
  have hrl : Rd (w11.alloc (.cells #[.int .i64 0, .int .u64 0] 31)) (w11.alloc (.cells #[.int .i64 0, .int .u64 0] 31)).heap.size 2 (some ⟨w11.heap.size, 0, none⟩) 1 (Cs encE E0) := by
    have h := Rd.new w11 #[.int .i64 0, .int .u64 0] 31 2 1 rfl
    rw [← World.size_alloc w11 (.cells #[.int .i64 0, .int .u64 0] 31)] at h
    exact h
  have HD := hide ((HD.out.below hbl).more hbl.size)
  have HL1 := hide ((HL1.out.below hbl).more hbl.size)
  have HL5 := hide ((HL5.out.below hbl).more hbl.size)
  have R1 := hide (R1.out.below hbl)
  have HB := hide (HB.out.trans (hbl.mono HB.out.size))
  with_reducible refine (RetireK A5 c5 3 (some ⟨w11.heap.size, 0, none⟩) 1 1 S4 E0 _ HD.out rfl (by omega) hrl rfl (by omega) 4 [] 0 (by decide) (by decide) rfl).mono ?_
  rintro e w12 ⟨A6, c6, rfl, hc6, hout, hb⟩
  have hgw := R1.out.lt
  have HD := hide ((HD.out.below hb).more hb.size)
  have HL1 := hide ((HL1.out.below hb).more hb.size)
  have HL5 := hide ((HL5.out.below hb).more hb.size)
  have R1 := hide (R1.out.below hb)
  have HB := hide (HB.out.trans (hb.mono HB.out.size))
  clear hout hb hgw hbl hrl
  have x1 := row1 R1.out
  have l1 := R1.out.lt
  go_wp2_with fail
  have hbx : Below w12.heap.size w12 (w12.alloc (.cells #[.slice A6 0 c6] 24)) := (Below.refl _ _).alloc (Nat.le_refl _) _
  have HD := hide ((HD.out.below hbx).more hbx.size)
  have HL1 := hide ((HL1.out.below hbx).more hbx.size)
  have HL5 := hide ((HL5.out.below hbx).more hbx.size)
  have R1 := hide (R1.out.below hbx)
  have HB := hide (HB.out.trans (hbx.mono HB.out.size))
  clear hbx
  generalize (w12.alloc (.cells #[.slice A6 0 c6] 24)) = w13 at *
  with_reducible refine (tag_any A5 c5 3 0 1 S4 _ HD.out rfl (by omega) true (by decide) 1 (by decide)).mono ?_
  rintro e w14 ⟨rfl, hb⟩
  have HD := hide ((HD.out.below hb).more hb.size)
  have HL1 := hide ((HL1.out.below hb).more hb.size)
  have HL5 := hide ((HL5.out.below hb).more hb.size)
  have R1 := hide (R1.out.below hb)
  have HB := hide (HB.out.trans (hb.mono HB.out.size))
  have x1 := row1 R1.out
  have l1 := R1.out.lt
  clear hb
  go_wp2_with fail
  with_reducible refine (TakeK A5 c5 3 3 S4 _ HD.out rfl (by omega) 6 [] [] 0 0 (by decide) (by decide) (by decide) rfl rfl).mono ?_
  rintro e w15 ⟨A8, c8, B8, d8, rfl, _, _, _, _, _, hb⟩
  have HL1 := hide ((HL1.out.below hb).more hb.size)
  have HL5 := hide ((HL5.out.below hb).more hb.size)
  have R1 := hide (R1.out.below hb)
  have HB := hide (HB.out.trans (hb.mono HB.out.size))
  clear hb HD
  go_wp2_with fail
  obtain ⟨wy, hwy⟩ : ∃ wy, w15.alloc (.cells #[.slice A8 0 c8] 24) = wy := ⟨_, rfl⟩
  have hby : Below w15.heap.size w15 wy := by rw [← hwy]; exact (Below.refl _ _).alloc (Nat.le_refl _) _
  have hsy : wy.heap.size = w15.heap.size + 1 := by rw [← hwy]; simp
  rw [hwy, ← hsy]
  clear hwy hsy
  have HL1 := hide ((HL1.out.below hby).more hby.size)
  have HL5 := hide ((HL5.out.below hby).more hby.size)
  have R1 := hide (R1.out.below hby)
  have HB := hide (HB.out.trans (hby.mono HB.out.size))
  have hbz : Below wy.heap.size wy (wy.alloc (.cells #[.int .i64 0, .int .u64 0, .int .i64 1, .int .u64 0] 31)) := (Below.refl _ _).alloc (Nat.le_refl _) _
  have hrz : Rd (wy.alloc (.cells #[.int .i64 0, .int .u64 0, .int .i64 1, .int .u64 0] 31)) (wy.alloc (.cells #[.int .i64 0, .int .u64 0, .int .i64 1, .int .u64 0] 31)).heap.size 2 (some ⟨wy.heap.size, 0, none⟩) 2 (Cs encE L1) := by
    have h := Rd.new wy #[.int .i64 0, .int .u64 0, .int .i64 1, .int .u64 0] 31 2 2 rfl
    rw [← World.size_alloc wy (.cells #[.int .i64 0, .int .u64 0, .int .i64 1, .int .u64 0] 31)] at h
    exact h
  have HL1 := hide ((HL1.out.below hbz).more hbz.size)
  have HL5 := hide ((HL5.out.below hbz).more hbz.size)
  have R1 := hide (R1.out.below hbz)
  have HB := hide (HB.out.trans (hbz.mono HB.out.size))
  with_reducible refine (EqualEK B1 (some ⟨wy.heap.size, 0, none⟩) d1 2 L1 L1 _ HL1.out hrz rfl rfl (by omega) (by omega) true (by simp)).mono ?_
  rintro e wx ⟨rfl, hb⟩
  have HL1 := hide ((HL1.out.below hb).more hb.size)
  have HL5 := hide ((HL5.out.below hb).more hb.size)
  have R1 := hide (R1.out.below hb)
  have HB := hide (HB.out.trans (hb.mono HB.out.size))
  clear hb hrz hbz hby
  go_wp2_with fail
  have hbz : Below wx.heap.size wx (wx.alloc (.cells #[.int .i64 0, .int .u64 1] 31)) := (Below.refl _ _).alloc (Nat.le_refl _) _
  have hrz : Rd (wx.alloc (.cells #[.int .i64 0, .int .u64 1] 31)) (wx.alloc (.cells #[.int .i64 0, .int .u64 1] 31)).heap.size 2 (some ⟨wx.heap.size, 0, none⟩) 1 (Cs encE L2) := by
    have h := Rd.new wx #[.int .i64 0, .int .u64 1] 31 2 1 rfl
    rw [← World.size_alloc wx (.cells #[.int .i64 0, .int .u64 1] 31)] at h
    exact h
  have HL1 := hide ((HL1.out.below hbz).more hbz.size)
  have HL5 := hide ((HL5.out.below hbz).more hbz.size)
  have R1 := hide (R1.out.below hbz)
  have HB := hide (HB.out.trans (hbz.mono HB.out.size))
  with_reducible refine (EqualEK B5 (some ⟨wx.heap.size, 0, none⟩) d5 1 L2 L2 _ HL5.out hrz rfl rfl (by omega) (by omega) true (by simp)).mono ?_
  rintro e wv ⟨rfl, hb⟩
  have HB := hide (HB.out.trans (hb.mono HB.out.size))
  clear hb hrz hbz
  go_wp2_with fail
  go_ret
  exact ⟨rfl, HB.out⟩
end Go.Proofs.Ytejhknboiacgeaa

/-
  The reference's: accesses, one behind the other.
-/
import Derived.Test.YtadgihmokmfejaaCeo
import Derived.Test.YtadgihmokmfejaaCed
set_option linter.unusedSimpArgs false
set_option linter.unusedVariables false
namespace Go.Proofs.Ytadgihmokmfejaa
open Go Go.RowKit
attribute [local go_sem] via_cell via_frozen

theorem Ws.runX {w : List Int} (h : Ws w) : ∀ {l : List Acc}, (∀ a ∈ l, U64 a.2.2.2.2) → Ws (runX w l) := fun {l} => by
  induction l generalizing w with
  | nil => intro _; exact h
  | cons a l ih => intro hl; exact ih (w := Go.Proofs.Ytadgihmokmfejaa.doX w a) (h.doX (hl a (by simp))) (fun b hb => hl b (by simp [hb]))
theorem Rd.grown {w w' : World} {B sz n : Nat} {A : Option Addr} {xs : List Value} {r : Option Nat} (h : Rd w B sz A n xs) (hB : B ≤ w.heap.size) (hg : w.grownBy w' r) (hne : ∀ p, A = some p → some p.block ≠ r) : Rd w' B sz A n xs := by
  refine ⟨h.1, fun hn => ?_⟩
  obtain ⟨b, off, e, hb, hc⟩ := h.2 hn
  exact ⟨b, off, e, hb, fun j u hu => (cell_of_heap (p := ⟨b, off + j, none⟩) (hg.block b (by omega) (hne _ e))).trans (hc j u hu)⟩

/-- Words that are read, what has been seen, marks. -/
structure RRIn (w : World) (base : Nat) (A : Option Addr) (n : Nat) (X : List Int) (va vm : Value) (ns nm : Nat) (S : List (Int × Bool)) (M : List Mk) : Prop where
  rd : Rd w w.heap.size 1 A n (Cs encW X)
  sn : w.ownsRow base 33 2 va ns (Cs encS S)
  mks : w.ownsRow base 57 4 vm nm (Cs encM M)
  le : base ≤ w.heap.size
  pos : 0 < n
  ne1 : ∀ p, A = some p → some p.block ≠ va.ownBlock
  ne2 : ∀ p, A = some p → some p.block ≠ vm.ownBlock
section
variable {w w' : World} {base n : Nat} {A A' : Option Addr} {X X' : List Int} {va vm va' : Value} {ns nm : Nat} {S : List (Int × Bool)} {M : List Mk}
theorem RRIn.lt (h : RRIn w base A n X va vm ns nm S M) : ∀ p, A = some p → p.block < w.heap.size := fun p hp => by
  obtain ⟨b, off, e, hb, _⟩ := h.rd.2 h.pos
  rw [hp] at e
  injection e with e
  rw [e]; exact hb
theorem RRIn.below (h : RRIn w base A n X va vm ns nm S M) (hb : Below w.heap.size w w') : RRIn w' base A n X va vm ns nm S M :=
  ⟨(h.rd.below hb).more hb.size, own_keepB h.sn hb, own_keepB h.mks hb, Nat.le_trans h.le hb.size, h.pos, h.ne1, h.ne2⟩
theorem RRIn.goes (h : RRIn w base A n X va vm ns nm S M) (hb : Below w.heap.size w w') (hr : Rd w' w'.heap.size 1 A' n (Cs encW X')) (hA : ∀ p, A' = some p → A = some p ∨ w.heap.size ≤ p.block) : RRIn w' base A' n X' va vm ns nm S M :=
  ⟨hr, own_keepB h.sn hb, own_keepB h.mks hb, Nat.le_trans h.le hb.size, h.pos, fun p hp => (hA p hp).elim (h.ne1 p) (fun hl => ne_past h.sn hl), fun p hp => (hA p hp).elim (h.ne2 p) (fun hl => ne_past h.mks hl)⟩
theorem RRIn.grownS {q : Int} {d : Bool} {cs : Array Value} {t : TypeId} (h : RRIn w base A n X va vm ns nm S M) (hown : w'.ownsRow base 33 2 va' (ns + 1) (Cs encS S ++ [.int .u64 q, .bool d])) (hg : (w.alloc (.cells cs t)).grownBy w' va.ownBlock) (hb : Below base (w.alloc (.cells cs t)) w') (hv : va'.ownBlock = va.ownBlock ∨ va'.ownBlock = some (w.alloc (.cells cs t)).heap.size) : RRIn w' base A n X va' vm (ns + 1) nm (S ++ [(q, d)]) M :=
  ⟨((h.rd.alloc (Nat.le_refl _) (.cells cs t)).grown (by rw [World.size_alloc]; omega) hg h.ne1).more (Nat.le_trans (by rw [World.size_alloc]; omega) hb.size), by rw [Cs_append]; exact hown, own_grown (h.mks.alloc _) (h.sn.alloc _) hg (by decide), Nat.le_trans h.le (Nat.le_trans (by rw [World.size_alloc]; omega) hb.size), h.pos, fun p hp => by
    rcases hv with hv | hv
    · rw [hv]; exact h.ne1 p hp
    · rw [hv, World.size_alloc]; have := h.lt p hp; simp; omega, h.ne2⟩
theorem RRIn.grownM {m1 m2 m3 m4 : Int} {cs : Array Value} {t : TypeId} (h : RRIn w base A n X va vm ns nm S M) (hown : w'.ownsRow base 57 4 va' (nm + 1) (Cs encM M ++ [.int .i64 m1, .int .i64 m2, .int .u64 m3, .int .u64 m4])) (hg : (w.alloc (.cells cs t)).grownBy w' vm.ownBlock) (hb : Below base (w.alloc (.cells cs t)) w') (hv : va'.ownBlock = vm.ownBlock ∨ va'.ownBlock = some (w.alloc (.cells cs t)).heap.size) : RRIn w' base A n X va va' ns (nm + 1) S (M ++ [(m1, m2, m3, m4)]) :=
  ⟨((h.rd.alloc (Nat.le_refl _) (.cells cs t)).grown (by rw [World.size_alloc]; omega) hg h.ne2).more (Nat.le_trans (by rw [World.size_alloc]; omega) hb.size), own_grown (h.sn.alloc _) (h.mks.alloc _) hg (by decide), by rw [Cs_append]; exact hown, Nat.le_trans h.le (Nat.le_trans (by rw [World.size_alloc]; omega) hb.size), h.pos, h.ne1, fun p hp => by
    rcases hv with hv | hv
    · rw [hv]; exact h.ne2 p hp
    · rw [hv, World.size_alloc]; have := h.lt p hp; simp; omega⟩
theorem RRIn.rowsM {wB : World} {p : Nat} {cs cs' : Array Value} {t T : TypeId} (h : RRIn w base A n X va vm ns nm S M) (hg : (w.alloc (.cells cs t)).grownBy wB vm.ownBlock) (hr : RowAt w p T cs') (hne : T ≠ 57) : RowAt wB p T cs' :=
  RowAt.grown hr hg (own_ne (h.mks.alloc (.cells cs t)) (hr.below ((Below.refl _ _).alloc (Nat.le_refl _) (.cells cs t))) hne)
end

def RRunRes (W : World) (n : Nat) (X : List Int) (l : List Acc) (e : Int) (x : Ending) (W' : World) : Prop :=
  Below W.heap.size W W' ∧ ((e ≠ 0 ∧ x = .returned (.tuple #[.slice none 0 0, .slice none 0 0, .slice none 0 0, .int .i64 e])) ∨
    (e = 0 ∧ ∃ A c va vm, x = .returned (.tuple #[.slice A n c, va, vm, .int .i64 0]) ∧ n ≤ c ∧ c ≤ 9223372036854775807 ∧ RRIn W' W.heap.size A n (runX X l) va vm l.length (runM 0 X l).length (runS X l) (runM 0 X l)))
def RRunAt (W : World) (n : Nat) (X : List Int) (l : List Acc) (j : Nat) (v va vm : Value) (wr : World) : Prop :=
  ∃ A c, v = .slice A n c ∧ n ≤ c ∧ c ≤ 9223372036854775807 ∧ RRIn wr W.heap.size A n (runX X (l.take j)) va vm j (runM 0 X (l.take j)).length (runS X (l.take j)) (runM 0 X (l.take j)) ∧ Below W.heap.size W wr ∧ ∀ a ∈ l.take j, why n a = 0
theorem RRunAt.next {W w' : World} {n j c' : Nat} {X : List Int} {l : List Acc} {a : Acc} {va' vm' : Value} {A' : Option Addr} {M' : List Mk} (h : ∀ a ∈ l.take j, why n a = 0) (hj : l[j]? = some a) (hw : why n a = 0) (hc : n ≤ c') (hcm : c' ≤ 9223372036854775807)
    (hi : RRIn w' W.heap.size A' n (doX (runX X (l.take j)) a) va' vm' (j + 1) M'.length (runS X (l.take j) ++ [doS (runX X (l.take j)) a]) M') (hM : M' = runM 0 X (l.take j) ++ doM j (runX X (l.take j)) a) (hb : Below W.heap.size W w') : RRunAt W n X l (j + 1) (.slice A' n c') va' vm' w' := by
  subst hM
  obtain ⟨hjl, hja⟩ := List.getElem?_eq_some_iff.1 hj
  have ht : l.take (j + 1) = l.take j ++ [a] := by rw [List.take_succ_eq_append_getElem hjl, hja]
  have hl : (l.take j).length = j := by rw [List.length_take]; omega
  unfold RRunAt
  rw [ht, runX_snoc, runS_snoc, runM_snoc, hl, Nat.zero_add]
  refine ⟨A', c', rfl, hc, hcm, hi, hb, fun b hb => ?_⟩
  rw [List.mem_append] at hb
  rcases hb with hb | hb
  · exact h b hb
  · simp at hb; subst hb; exact hw

theorem rrun_zero (A Al : Option Addr) (c cl m : Nat) (W : World) : Calls Try.prog 23 #[.slice A 0 c, .slice Al m cl] W fun e W' => e = .returned (.tuple #[.slice none 0 0, .slice none 0 0, .slice none 0 0, .int .i64 120]) ∧ Below W.heap.size W W' := by
  have HC := hide (right_any A c 0 W false (by decide))
  go_enter Try.func23, Try.ntmps23
  go_wp2_with fail
  with_reducible refine HC.out.mono ?_
  rintro x w1 ⟨rfl, rfl⟩
  go_wp2_with fail
  (try rw [Exit.noGoto_ret])
  exact bodyPost_ret (v := .tuple #[.slice none 0 0, .slice none 0 0, .slice none 0 0, .int .i64 120]) (by simp [results, Try.results23, go_sem]) rfl ⟨rfl, Below.refl _ _⟩

set_option maxRecDepth 100000 in
set_option maxHeartbeats 8000000 in
theorem rrun_any (A Al : Option Addr) (c n cl m : Nat) (X : List Int) (l : List Acc) (W : World) (h : Rd W W.heap.size 1 A n (Cs encW X)) (hx : X.length = n) (hc : n ≤ c) (hcm : c ≤ 9223372036854775807) (hn1 : 1 ≤ n) (hn : n ≤ 4096) (hw : Ws X) (hl : Rd W W.heap.size 5 Al m (Cs encA l)) (hu : ∀ a ∈ l, U64 a.2.2.2.2) (hm : l.length = m) (hm2 : m ≤ 1000) (e : Int) (he : runE n l = e) :
    Calls Try.prog 23 #[.slice A n c, .slice Al m cl] W (RRunRes W n X l e) := by
  have HL := hide hl
  have HLM := hide hm
  have HE := hide he
  have HXL := hide hx
  have HRD := hide h
  have HW := hide hw
  have HU := hide hu
  have HRT := hide (right_any A c n W true (by simp; omega))
  clear h hl he hx hw hu
  go_enter Try.func23, Try.ntmps23
  go_wp2_with fail
  with_reducible refine HRT.out.mono ?_
  rintro x w1 ⟨rfl, rfl⟩
  clear HRT
  go_wp2_with fail
  go_loopw [0, 8, 9, 20] (fun v va vm i wr => ∃ j : Nat, j ≤ m ∧ i = .int .i64 j ∧ RRunAt W n X l j v va vm wr) (fun _ _ _ i _ => m - (intOf i).toNat)
  case atStart => exact ⟨0, Nat.zero_le _, rfl, A, c, rfl, hc, hcm, ⟨HRD.out, World.ownsRow_nil _ _ _ _, World.ownsRow_nil _ _ _ _, Nat.le_refl _, by omega, fun _ _ => by simp [Value.ownBlock], fun _ _ => by simp [Value.ownBlock]⟩, Below.refl _ _, by simp⟩
  case round =>
    obtain ⟨j, hj, rfl, A1, c1, rfl, hc1, hcm1, hri, hbW, hwhy⟩ := hrel
    have HRI := hide hri
    have HB := hide hbW
    have HWHY := hide hwhy
    clear hri hbW hwhy
    by_cases hlt : j < m
    · obtain ⟨b, o, rfl, hb, wh, kd, at_, ol, nw, ha, d0, d1, d2, d3, d4⟩ := (HL.out.below HB.out).acc HLM.out hlt
      have hszW := HB.out.size
      have hbl : b < wr.heap.size := by omega
      have HA := hide ha
      obtain ⟨r, hr⟩ : ∃ r, why n (wh, kd, at_, ol, nw) = r := ⟨_, rfl⟩
      have HC := hide (fun w => why_any A1 c1 n wh kd at_ ol nw w r hr)
      have HR := hide hr
      clear ha hr
      obtain ⟨b0, hb0⟩ : ∃ b0, wr.heap.size = b0 := ⟨_, rfl⟩
      have HB0 := hide hb0
      have HW2 := hide (show Below wr.heap.size wr (wr.alloc (.cells #[.int .i64 wh, .int .i64 kd, .int .i64 at_, .int .u64 ol, .int .u64 nw] 37)) from (Below.refl _ _).alloc (Nat.le_refl _) _)
      have R3 := hide (show RowAt (wr.alloc (.cells #[.int .i64 wh, .int .i64 kd, .int .i64 at_, .int .u64 ol, .int .u64 nw] 37)) b0 37 #[.int .i64 wh, .int .i64 kd, .int .i64 at_, .int .u64 ol, .int .u64 nw] from by
        have h := RowAt.new wr 37 #[.int .i64 wh, .int .i64 kd, .int .i64 at_, .int .u64 ol, .int .u64 nw]
        rw [hb0] at h
        exact h)
      clear hb0
      by_cases hr0 : r = 0
      · subst hr0
        obtain ⟨n1, n2, k1, k4, _, _, hk0, hkn⟩ := why_ok HR.out
        obtain ⟨k, rfl⟩ : ∃ k : Nat, at_ = k := ⟨at_.toNat, by omega⟩
        have hkn' : k < n := by omega
        have HLX := hide (show (runX X (l.take j)).length = n by rw [runX_length, HXL.out])
        have HWX := hide (HW.out.runX (l := l.take j) (fun a ha => HU.out a (List.mem_of_mem_take ha)))
        have HNW := hide (show U64 nw from HU.out _ (List.mem_of_getElem? HA.out))
        obtain ⟨Xj, hXj⟩ : ∃ Xj, runX X (l.take j) = Xj := ⟨_, rfl⟩
        have HXJ := hide hXj
        obtain ⟨Y, hY⟩ : ∃ Y, doX Xj (wh, kd, (k : Int), ol, nw) = Y := ⟨_, rfl⟩
        obtain ⟨⟨q, d⟩, hs⟩ : ∃ s : Int × Bool, doS Xj (wh, kd, (k : Int), ol, nw) = s := ⟨_, rfl⟩
        have HY := hide hY
        have HSS := hide hs
        rw [hXj] at HRI HLX HWX
        have HD := hide (fun (w : World) (hr : Rd w w.heap.size 1 A1 n (Cs encW Xj)) => show Calls Try.prog 16 #[.slice A1 n c1, .agg #[.int .i64 wh, .int .i64 kd, .int .i64 k, .int .u64 ol, .int .u64 nw]] w (fun x W' => ∃ A' c', x = .returned (.tuple #[.slice A' n c', .agg #[.int .u64 q, .bool d]]) ∧ n ≤ c' ∧ c' ≤ 9223372036854775807 ∧ Rd W' W'.heap.size 1 A' n (Cs encW Y) ∧ Below w.heap.size w W' ∧ ∀ p, A' = some p → A1 = some p ∨ w.heap.size ≤ p.block) from rdo_any A1 c1 n Xj wh kd k ol nw w hr HLX.out hkn' hn hc1 hcm1 HWX.out HNW.out k1 k4 Y hY (q, d) hs)
        have HLY := hide (show Y.length = n by rw [← hY, doX_length, HLX.out])
        clear hXj hY hs hk0
        go_wp2_with fail
        (try rw [HB0.out])
        generalize (wr.alloc (.cells #[.int .i64 wh, .int .i64 kd, .int .i64 k, .int .u64 ol, .int .u64 nw] 37)) = w3 at *
        with_reducible refine (HC.out _).mono ?_
        rintro e w5 ⟨rfl, hb⟩
        replace HW2 := hide (HW2.out.trans (hb.mono HW2.out.size))
        replace R3 := hide (R3.out.below hb)
        replace HRI := hide (HRI.out.below HW2.out)
        replace HB := hide (HB.out.trans (HW2.out.mono HB.out.size))
        have a0 : w5.cell? ⟨b0, 0, none⟩ = some (.int .i64 wh) := R3.out.cell 0
        have a1 : w5.cell? ⟨b0, 1, none⟩ = some (.int .i64 kd) := R3.out.cell 1
        have a2 : w5.cell? ⟨b0, 2, none⟩ = some (.int .i64 k) := R3.out.cell 2
        have a3 : w5.cell? ⟨b0, 3, none⟩ = some (.int .u64 ol) := R3.out.cell 3
        have a4 : w5.cell? ⟨b0, 4, none⟩ = some (.int .u64 nw) := R3.out.cell 4
        have l3 := R3.out.lt
        clear hb HC HW2
        go_wp2_with fail
        with_reducible refine (HD.out _ HRI.out.rd).mono ?_
        rintro e w8 ⟨A2, c2, rfl, hc2, hcm2, hrd, hb, hA2⟩
        replace HRI := hide (HRI.out.goes hb hrd hA2)
        replace HB := hide (HB.out.trans (hb.mono HB.out.size))
        replace R3 := hide (R3.out.below hb)
        clear hb hrd hA2 a0 a1 a2 a3 a4 l3 HD
        obtain ⟨p, hp⟩ : ∃ p, w8.heap.size = p := ⟨_, rfl⟩
        have HPP := hide hp
        have HRI9 := hide (HRI.out.below ((Below.refl _ _).alloc (Nat.le_refl _) (.cells #[.int .u64 q, .bool d] 33)))
        have R12 := hide (R3.out.below ((Below.refl _ _).alloc (Nat.le_refl _) (.cells #[.int .u64 q, .bool d] 33)))
        have HB9 := hide (HB.out.alloc HB.out.size (.cells #[.int .u64 q, .bool d] 33))
        have HRB := hide (show RowAt (w8.alloc (.cells #[.int .u64 q, .bool d] 33)) p 33 #[.int .u64 q, .bool d] from by
          have h := RowAt.new w8 33 #[.int .u64 q, .bool d]
          rw [hp] at h
          exact h)
        have HPN := hide (ne_past HRI.out.sn (Nat.le_of_eq hp))
        have HKY := hide (show k < Y.length by rw [HLY.out]; exact hkn')
        clear hp
        cases d
        · have HRN := hide (show Rd ((w8.alloc (.cells #[.int .u64 q, .bool false] 33)).alloc (.cells #[.int .u64 q, .bool false] 33)) (w8.heap.size + 1 + 1) 2 (some ⟨w8.heap.size + 1, 0, none⟩) 1 [.int .u64 q, .bool false] from by have h := Rd.new (w8.alloc (.cells #[.int .u64 q, .bool false] 33)) #[.int .u64 q, .bool false] 33 2 1 rfl; rw [World.size_alloc] at h; exact h)
          go_wp2_with (at_builtin; refine wpList_app elS rfl _ _ rfl rfl (HRI9.out.sn.alloc _) rfl HRN.out (by simp [Value.oneCell']) (by omega) (by rw [World.size_alloc]; exact Nat.le_trans HRI9.out.le (Nat.le_succ _)) ?_; intro va2 wA hownA hbA hgA hvA; have HRIA := hide (HRI9.out.grownS hownA hgA hbA hvA); have HBA := hide ((HB9.out.alloc HB9.out.size _).trans hbA); clear hownA hgA hbA hvA)
          go_roundw
          case rel => exact ⟨j + 1, by omega, by go_num, RRunAt.next HWHY.out HA.out HR.out hc2 hcm2 (M' := runM 0 X (l.take j)) (by rw [HXJ.out, HY.out, HSS.out]; exact HRIA.out) (by rw [HXJ.out]; unfold doM; rw [HSS.out]; simp) HBA.out⟩
          case measure => simp [intOf]; omega
        · by_cases hk1 : kd = 1
          · subst hk1
            have c1 : (w8.alloc (.cells #[.int .u64 q, .bool true] 33)).cell? ⟨b0, 1, none⟩ = some (.int .i64 1) := R12.out.cell 1
            have lc := R12.out.lt
            have HRN := hide (show Rd ((w8.alloc (.cells #[.int .u64 q, .bool true] 33)).alloc (.cells #[.int .u64 q, .bool true] 33)) (w8.heap.size + 1 + 1) 2 (some ⟨w8.heap.size + 1, 0, none⟩) 1 [.int .u64 q, .bool true] from by have h := Rd.new (w8.alloc (.cells #[.int .u64 q, .bool true] 33)) #[.int .u64 q, .bool true] 33 2 1 rfl; rw [World.size_alloc] at h; exact h)
            go_wp2_with (at_builtin; refine wpList_app elS rfl _ _ rfl rfl (HRI9.out.sn.alloc _) rfl HRN.out (by simp [Value.oneCell']) (by omega) (by rw [World.size_alloc]; exact Nat.le_trans HRI9.out.le (Nat.le_succ _)) ?_; intro va2 wA hownA hbA hgA hvA; have HRIA := hide (HRI9.out.grownS hownA hgA hbA hvA); have HBA := hide ((HB9.out.alloc HB9.out.size _).trans hbA); clear hownA hgA hbA hvA)
            go_roundw
            case rel => exact ⟨j + 1, by omega, by go_num, RRunAt.next HWHY.out HA.out HR.out hc2 hcm2 (M' := runM 0 X (l.take j)) (by rw [HXJ.out, HY.out, HSS.out]; exact HRIA.out) (by rw [HXJ.out]; unfold doM; rw [HSS.out]; simp) HBA.out⟩
            case measure => simp [intOf]; omega
          · have hkd : (kd != 1) = true := by simpa using hk1
            have e0 := row20 HRB.out
            have e1 := row21 HRB.out
            have c1 : (w8.alloc (.cells #[.int .u64 q, .bool true] 33)).cell? ⟨b0, 1, none⟩ = some (.int .i64 kd) := R12.out.cell 1
            have lb := HRB.out.lt
            have lc := R12.out.lt
            go_wp2_with fail
            rw [HPP.out]
            generalize (w8.alloc (.cells #[.int .u64 q, .bool true] 33)) = w9 at *
            obtain ⟨b2, o2, hA2e, hb2, x0⟩ := HRI9.out.rd.word HLY.out hkn'
            have HNE2 := hide (HRI9.out.ne2 _ hA2e)
            subst hA2e
            have c2' : w9.cell? ⟨b0, 2, none⟩ = some (.int .i64 k) := R12.out.cell 2
            generalize hcy : ceAt Y k = y at *
            have HCY := hide hcy
            clear hcy
            have HRI7 := hide (HRI9.out.below (Below.refl _ _).drew)
            have hml : (runM 0 X (l.take j)).length ≤ 1000 := by have h1 := runM_length 0 X (l.take j); have h2 := List.length_take_le j l; have h3 := HLM.out; omega
            have hS3 : w9.drew.cell? ⟨b0, 2, none⟩ = some (.int .i64 k) ∧ w9.drew.cell? ⟨p, 0, none⟩ = some (.int .u64 q) ∧ w9.drew.cell? ⟨b2, o2 + k, none⟩ = some (.int .u64 y) := ⟨c2', e0, x0⟩
            have hS4 : ∀ o, (w9.drew.alloc o).cell? ⟨b0, 2, none⟩ = some (.int .i64 k) ∧ (w9.drew.alloc o).cell? ⟨p, 0, none⟩ = some (.int .u64 q) ∧ (w9.drew.alloc o).cell? ⟨b2, o2 + k, none⟩ = some (.int .u64 y) := fun o => ⟨kept ((Below.refl _ _).alloc (Nat.le_refl _) o) hS3.1, kept ((Below.refl _ _).alloc (Nat.le_refl _) o) hS3.2.1, kept ((Below.refl _ _).alloc (Nat.le_refl _) o) hS3.2.2⟩
            have hbl2 : b2 < (w9.drew.alloc (.cells #[.int .i64 j, .int .i64 k, .int .u64 q, .int .u64 y] 57)).heap.size := by rw [World.size_alloc, World.size_drew]; omega
            have HBL2 := hide hbl2
            have HS4 := hide (hS4 (.cells #[.int .i64 j, .int .i64 k, .int .u64 q, .int .u64 y] 57)).2.2
            clear c1 c2' e0 e1 x0 hbl2
            go_wp2_with fail
            go_region_held3 (fun wX => wX.cell? ⟨b0, 2, none⟩ = some (.int .i64 k) ∧ wX.cell? ⟨p, 0, none⟩ = some (.int .u64 q) ∧ wX.cell? ⟨b2, o2 + k, none⟩ = some (.int .u64 y))
              (first | exact hS3 | exact hS4 _ | exact hS5 | go_keep)
              (first | (rw [if_pos (by rfl)]; refine wp_app elM _ _ rfl rfl (HRI7.out.mks.alloc _) rfl (Rd.new w9.drew #[.int .i64 j, .int .i64 k, .int .u64 q, .int .u64 y] 57 4 1 rfl) (by simp [Value.oneCell']) (by omega) (by show W.heap.size ≤ (w9.alloc _).heap.size; rw [World.size_alloc]; exact Nat.le_trans HRI7.out.le (Nat.le_succ _)) ?_; intro vm2 wB hownB hbB hgB hvB; have hS5 : wB.cell? ⟨b0, 2, none⟩ = some (.int .i64 k) ∧ wB.cell? ⟨p, 0, none⟩ = some (.int .u64 q) ∧ wB.cell? ⟨b2, o2 + k, none⟩ = some (.int .u64 y) := ⟨(HRI7.out.rowsM hgB R12.out.drew (by decide)).cell 2, row20 (HRI7.out.rowsM hgB HRB.out.drew (by decide)), (cell_of_heap (p := ⟨b2, o2 + k, none⟩) (hgB.block b2 HBL2.out HNE2.out)).trans HS4.out⟩; have HRIB := hide (HRI7.out.grownM hownB hgB hbB hvB); have HRBB := hide (HRI7.out.rowsM hgB HRB.out.drew (by decide)); have HBB := hide ((HB9.out.drew.alloc HB9.out.size _).trans hbB); clear hownB hgB hbB hvB))
            have e0 := row20 HRBB.out
            have e1 := row21 HRBB.out
            have lb := HRBB.out.lt
            have hq : ceAt Xj k = q := congrArg Prod.fst HSS.out
            have HQ := hide hq
            clear hq
            go_wp2_with (at_builtin; refine wpList_app elS rfl _ _ rfl rfl (HRIB.out.sn.alloc _) rfl (Rd.new wB #[.int .u64 q, .bool true] 33 2 1 rfl) (by simp [Value.oneCell']) (by omega) (by rw [World.size_alloc]; exact Nat.le_trans HRIB.out.le (Nat.le_succ _)) ?_; intro va2 wA hownA hbA hgA hvA; have HRIA := hide (HRIB.out.grownS hownA hgA hbA hvA); have HBA := hide ((HBB.out.alloc HBB.out.size _).trans hbA); clear hownA hgA hbA hvA)
            go_roundw
            case rel => exact ⟨j + 1, by omega, by go_num, RRunAt.next HWHY.out HA.out HR.out hc2 hcm2 (M' := runM 0 X (l.take j) ++ [((j : Int), (k : Int), q, y)]) (by rw [HXJ.out, HY.out, HSS.out, List.length_append]; exact HRIA.out) (by rw [HXJ.out]; unfold doM; rw [HSS.out, HY.out]; dsimp only; rw [HQ.out, HCY.out, if_pos (by simpa using hk1)]) HBA.out⟩
            case measure => simp [intOf]; omega
      · have hn0 : (r != 0) = true := by simpa using hr0
        have HEE := hide (show e = r by rw [← HE.out]; rw [runE_bad HWHY.out HA.out (by rw [HR.out]; exact hr0), HR.out])
        go_wp2_with fail
        (try rw [HB0.out])
        generalize (wr.alloc (.cells #[.int .i64 wh, .int .i64 kd, .int .i64 at_, .int .u64 ol, .int .u64 nw] 37)) = w3 at *
        with_reducible refine (HC.out _).mono ?_
        rintro e w5 ⟨rfl, hb⟩
        have HBF := hide (HB.out.trans ((HW2.out.trans (hb.mono HW2.out.size)).mono HB.out.size))
        clear hb
        go_wp2_with fail
        (try rw [Exit.noGoto_ret])
        exact bodyPost_ret (v := .tuple #[.slice none 0 0, .slice none 0 0, .slice none 0 0, .int .i64 r]) (by simp [results, Try.results23, go_sem]) rfl ⟨HBF.out, .inl ⟨by rw [HEE.out]; exact hr0, by rw [HEE.out]⟩⟩
    · go_wp2_with fail
      (try rw [Exit.noGoto_ret])
      have hjm : l.take j = l := List.take_of_length_le (by rw [HLM.out]; omega)
      have h := HRI.out
      have h2 := HWHY.out
      rw [hjm] at h h2
      have hjl : j = l.length := by rw [HLM.out]; omega
      rw [hjl] at h
      have he0 : e = 0 := by rw [← HE.out]; exact runE_ok hn1 (by omega) h2
      refine bodyPost_ret (v := .tuple #[.slice A1 n c1, u8, u9, .int .i64 0]) (by simp [results, Try.results23, go_sem]) rfl ⟨HB.out, .inr ⟨he0, A1, c1, u8, u9, rfl, hc1, hcm1, h⟩⟩
end Go.Proofs.Ytadgihmokmfejaa

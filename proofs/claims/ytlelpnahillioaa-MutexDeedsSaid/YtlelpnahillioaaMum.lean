/-
  Deeds, one behind the other.
-/
import Derived.Test.YtlelpnahillioaaMul
set_option linter.unusedSimpArgs false
set_option linter.unusedVariables false
namespace Go.Proofs.Ytlelpnahillioaa
open Go Go.RowKit
attribute [local go_sem] via_cell via_frozen

def encD (d : Dd) : List Value := [.bool d.1, .int .i64 d.2.1, .int .i64 d.2.2]
theorem encD_len : ∀ x, (encD x).length = 3 := fun _ => rfl
theorem encD_one : ∀ x, ∀ u ∈ encD x, u.oneCell' = true := by intro x u hu; simp [encD] at hu; rcases hu with rfl | rfl | rfl <;> rfl
theorem elD : ElemOk Try.prog 23 29 3 24 (.agg #[.bool false, .int .i64 0, .int .i64 0]) := ⟨Try.underlying23, by kernel_rfl, rfl, by omega, by omega, by intro u hu; simp [Value.cells] at hu; rcases hu with rfl | rfl | rfl <;> rfl⟩
def ddZ : Dd := (false, 0, 0)
theorem Rd.deed {w : World} {B n : Nat} {A : Option Addr} {X : List Dd} (h : Rd w B 3 A n (Cs encD X)) (hx : X.length = n) {k : Nat} (hk : k < n) :
    ∃ b off, A = some ⟨b, off, none⟩ ∧ b < B ∧ w.cell? ⟨b, off + k * 3, none⟩ = some (.bool (X.getD k ddZ).1) ∧ w.cell? ⟨b, off + k * 3 + 1, none⟩ = some (.int .i64 (X.getD k ddZ).2.1) ∧ w.cell? ⟨b, off + k * 3 + 2, none⟩ = some (.int .i64 (X.getD k ddZ).2.2) := by
  subst hx
  obtain ⟨b, off, h1, h2, h3⟩ := h.elem encD_len hk
  have e : X.getD k ddZ = X[k] := by rw [List.getD_eq_getElem?_getD, List.getElem?_eq_getElem hk]; rfl
  rw [e]
  exact ⟨b, off, h1, h2, by simpa using h3 0 _ (by omega) rfl, h3 1 _ (by omega) rfl, h3 2 _ (by omega) rfl⟩
theorem playX_append (a b : List Dd) : ∀ (l : Ml) (n : Nat), playX l (a ++ b) n = match playX l a n with | .ok x => playX x.1 b x.2 | .error e => .error e := by
  induction a with
  | nil => intro l n; rfl
  | cons d a ih =>
    intro l n
    simp only [List.cons_append, playX]
    by_cases h : overB l d = true
    · rw [if_pos h, if_pos h]; exact ih _ _
    · rw [if_neg h, if_neg h]
      cases doX l d with
      | ok l2 => exact ih _ _
      | error e => rfl
theorem playX_le : ∀ (ds : List Dd) (l : Ml) (n : Nat) (l2 : Ml) (m : Nat), playX l ds n = .ok (l2, m) → m ≤ n + ds.length := by
  intro ds
  induction ds with
  | nil => intro l n l2 m h; unfold playX at h; injection h with h; injection h with _ h; subst h; simp
  | cons d ds ih =>
    intro l n l2 m h
    unfold playX at h
    split at h
    · have := ih _ _ _ _ h; simp; omega
    · split at h
      · have := ih _ _ _ _ h; simp; omega
      · cases h
theorem playX_take (l : Ml) (ds : List Dd) {j : Nat} (hj : j < ds.length) {l1 : Ml} {n : Nat} (h : playX l (ds.take j) 0 = .ok (l1, n)) :
    playX l (ds.take (j + 1)) 0 = playX l1 [ds.getD j ddZ] n ∧ (∀ e, playX l1 [ds.getD j ddZ] n = .error e → playX l ds 0 = .error e) := by
  have e1 : ds.take (j + 1) = ds.take j ++ [ds.getD j ddZ] := by
    rw [List.take_succ_eq_append_getElem hj, List.getD_eq_getElem?_getD, List.getElem?_eq_getElem hj]; rfl
  refine ⟨by rw [e1, playX_append, h], fun e he => ?_⟩
  have e2 : ds = ds.take (j + 1) ++ ds.drop (j + 1) := (List.take_append_drop _ _).symm
  rw [e2, playX_append, e1, playX_append, h]
  simp only [he]
def PlayG (l0 : Ml) (ds : List Dd) (gk : Nat) (l : Ml) (_ : Bool) (_ : Int) (w : World) : Prop := ∃ n : Nat, playX l0 ds 0 = .ok (l, n) ∧ RowAt w gk 3 #[.int .i64 (n : Int)]
structure PlAt (W w : World) (gh gl gk m c : Nat) (l0 : Ml) (ds : List Dd) (j : Nat) (ts : List Mm) (n : Nat) (g wh nx : Int) (got : Bool) : Prop where
  at_ : HAt w gh gl m c ts g wh nx got
  right : RightM (mus ts)
  play : playX l0 (ds.take j) 0 = .ok (mus ts, n)
  over : RowAt w gk 3 #[.int .i64 (n : Int)]
  past : PastB gh gk W w
theorem PlAt.below {W w w' : World} {gh gl gk m c : Nat} {l0 : Ml} {ds : List Dd} {j : Nat} {ts : List Mm} {n : Nat} {g wh nx : Int} {got : Bool} (h : PlAt W w gh gl gk m c l0 ds j ts n g wh nx got) (hb : Below w.heap.size w w') (hg : gh ≤ w.heap.size) : PlAt W w' gh gl gk m c l0 ds j ts n g wh nx got :=
  ⟨h.at_.below hb, h.right, h.play, h.over.below hb, h.past.trans (PastB.of_below hb hg)⟩
set_option maxHeartbeats 4000000 in
theorem play1_any (gh gl m c gd gk : Nat) (Ad : Option Addr) (nd cd : Nat) (ds : List Dd) (ts : List Mm) (g0 wh0 nx0 : Int) (got0 : Bool) (W : World) (h : HAt W gh gl m c ts g0 wh0 nx0 got0) (hr : RightM (mus ts)) (hd : RowAt W gd 23 #[.slice Ad nd cd]) (hk : RowAt W gk 3 #[.int .i64 0]) (hd1 : gd < gh) (hk1 : gk < gh) (hdk : gd ≠ gk)
    (Bd : Nat) (hds : Rd W Bd 3 Ad nd (Cs encD ds)) (hBd : Bd ≤ gk) (hnd : ds.length = nd) (hn : nd ≤ 4096) :
    Calls Try.prog 40 #[.pointer (some ⟨gh, 0, none⟩), .pointer (some ⟨gd, 0, none⟩), .pointer (some ⟨gk, 0, none⟩)] W (DoesRes gk gh gl m c (PlayG (mus ts) ds gk) (fun k => playX (mus ts) ds 0 = .error k) W) := by
  have HP0 := hide (show PlAt W W gh gl gk m c (mus ts) ds 0 ts 0 g0 wh0 nx0 got0 from ⟨h, hr, by simp [playX], hk, PastB.refl _ _ _⟩)
  have HD := hide hd
  have HDS := hide hds
  have HND := hide hnd
  have HGH := hide h.box.lt
  have a0 := row1 hd
  have al := hd.lt
  clear h hr hd hk hds hnd
  go_enter Try.func40, Try.ntmps40
  go_wp2_with fail
  go_loopw [9] (fun i wr => ∃ (j : Nat) (us : List Mm) (n : Nat) (g wh nx : Int) (got : Bool), j ≤ nd ∧ i = .int .i64 j ∧ PlAt W wr gh gl gk m c (mus ts) ds j us n g wh nx got) (fun i _ => nd - (intOf i).toNat)
  case atStart => exact ⟨0, ts, 0, g0, wh0, nx0, got0, Nat.zero_le _, rfl, HP0.out⟩
  case round =>
    obtain ⟨j, us, n, g, wh, nx, got, hj, rfl, hat⟩ := hrel
    have HA := hide hat
    clear hat
    by_cases hlt : j < nd
    · have hlx : j < ds.length := by rw [HND.out]; exact hlt
      have hjI : (j : Int) < (nd : Int) := by omega
      have hsz := HA.out.past.size
      have hgz := HA.out.at_.box.lt
      obtain ⟨b, o, rfl, hb, d0, d1, d2⟩ := (HDS.out.keep (w' := wr) (fun p hp => cell_of_heap (HA.out.past.block _ (by omega) (by omega) (by have := HGH.out; omega)))).deed HND.out hlt
      have hbl : b < wr.heap.size := by have := HGH.out; omega
      obtain ⟨HT1, HT2⟩ := playX_take (mus ts) ds hlx HA.out.play
      have HTA := hide HT1
      have HTB := hide HT2
      have hnn : n ≤ 4096 := by
        have := playX_le _ _ _ _ _ HA.out.play
        rw [List.length_take] at this
        omega
      clear HT1 HT2 hb
      generalize ds.getD j ddZ = d at *
      obtain ⟨lv, dg, dw⟩ := d
      dsimp only at *
      have HBN := hide (show Below wr.heap.size wr (wr.alloc (.cells #[.bool lv, .int .i64 dg, .int .i64 dw] 29)) from (Below.refl _ _).alloc (Nat.le_refl _) _)
      have HRN := hide (RowAt.new wr 29 #[.bool lv, .int .i64 dg, .int .i64 dw])
      have HA5 := hide (HA.out.below HBN.out (Nat.le_of_lt hgz))
      obtain ⟨gm, hgm⟩ : ∃ gm, wr.heap.size = gm := ⟨_, rfl⟩
      have HGM := hide (show gh < gm from by rw [← hgm]; exact hgz)
      have HGE := hide hgm
      clear hgm
      go_upto_region 3 with (fail)
      rw [HGE.out] at HRN ⊢
      clear HGE d0 d1 d2 a0 al hsz hgz hbl HBN HA
      generalize wr.alloc (.cells #[.bool lv, .int .i64 dg, .int .i64 dw] 29) = w5 at *
      have e0 : w5.cell? ⟨gm, 0, none⟩ = some (.bool lv) := by have := HRN.out.cell 0; simpa using this
      have e1 : w5.cell? ⟨gm, 1, none⟩ = some (.int .i64 dg) := by have := HRN.out.cell 1; simpa using this
      have el := HRN.out.lt
      have q0 := row50 HA5.out.at_.box
      have ql := HA5.out.at_.box.lt
      obtain ⟨bg, hbg⟩ : ∃ x, goerB dg = x := ⟨_, rfl⟩
      obtain ⟨x, hx⟩ : ∃ x, waitsX (mus us) dg = x := ⟨_, rfl⟩
      have HIS := hide (fun z => via_of_same (is_any dg (via w5 z) bg hbg))
      have HWT := hide (fun z => via_of (waits_any w5.heap.size (some ⟨gl, 0, none⟩) c m us dg (via w5 z) ((HA5.out.at_.made.rm HA5.out.at_.len).below (via_below _ z)) (HA5.out.at_.made.small HA5.out.right) (via_below _ z).size x hx))
      have HOV := hide (show overB (mus us) (lv, dg, dw) = (bg && decide (0 ≤ x)) from by unfold overB; rw [hbg, hx])
      clear hbg hx
      cases bg
      · have HNO := hide (show overB (mus us) (lv, dg, dw) = false from by rw [HOV.out]; rfl)
        clear HOV
        go_wp2_with fail
        refine wp_region_via (by kernel_rfl) (by kernel_rfl) ?_
        repeat (go_big_quiet_step ((first | (go_at_call 41; exact HIS.out _))))
        refine via_out fun w6 hb6 => ?_
        have HA6 := hide (HA5.out.below hb6 (Nat.le_of_lt ql))
        have HR6 := hide (HRN.out.below hb6)
        clear hb6 e0 e1 el q0 ql HA5 HRN HIS HWT
        have e0 : w6.cell? ⟨gm, 0, none⟩ = some (.bool lv) := by have := HR6.out.cell 0; simpa using this
        have e1 : w6.cell? ⟨gm, 1, none⟩ = some (.int .i64 dg) := by have := HR6.out.cell 1; simpa using this
        have e2 : w6.cell? ⟨gm, 2, none⟩ = some (.int .i64 dw) := by have := HR6.out.cell 2; simpa using this
        have el := HR6.out.lt
        have q1 := row51 HA6.out.at_.box
        have q2 := row52 HA6.out.at_.box
        have ql := HA6.out.at_.box.lt
        have f1 := HA6.out.at_.box.frozen 1
        have f2 := HA6.out.at_.box.frozen 2
        have hgm1 : ¬ gh = gm := by have := HGM.out; omega
        have hgm2 : ¬ gm = gh := by have := HGM.out; omega
        cases lv
        · go_wp2_with fail
          go_region
          have H7 := hide (((HA6.out.at_.setWh dw).setGoer dg).below (Below.refl _ _).drew)
          have HO7 := hide (show RowAt (((w6.setCell ⟨gh, 2, none⟩ (.int .i64 dw)).setCell ⟨gh, 1, none⟩ (.int .i64 dg)).drew) gk 3 #[.int .i64 (n : Int)] from ((HA6.out.over.setNe (by omega)).setNe (by omega)).drew)
          have HP7 := hide (show PastB gh gk W (((w6.setCell ⟨gh, 2, none⟩ (.int .i64 dw)).setCell ⟨gh, 1, none⟩ (.int .i64 dg)).drew) from HA6.out.past.trans (PastB.of_below (n := gh) (((((Below.refl gh w6).setCell (p := ⟨gh, 2, none⟩) (Nat.le_refl _) _).setCell (p := ⟨gh, 1, none⟩) (Nat.le_refl _) _)).drew) (Nat.le_refl _)))
          have HRT := hide HA6.out.right
          clear e0 e1 e2 el q1 q2 ql f1 f2 HA6 HR6
          generalize (((w6.setCell ⟨gh, 2, none⟩ (.int .i64 dw)).setCell ⟨gh, 1, none⟩ (.int .i64 dg)).drew) = w7 at *
          have HC := hide (ask_any gh gl m c us dg dw nx got w7 H7.out HRT.out)
          go_wp2_with fail
          with_reducible refine HC.out.mono ?_
          rintro e w8 ⟨hb8, hres8⟩
          have HB8 := hide hb8
          clear hb8
          rcases hres8 with ⟨ts2, got2, rfl, hx2, hat2⟩ | ⟨k8, rfl, hx2⟩
          · have HX2 := hide (show doX (mus us) (false, dg, dw) = .ok (mus ts2) from by unfold doX; simp only [Bool.false_eq_true, if_false, if_true]; rw [hx2]; rfl)
            have HN8 := hide (show PlAt W w8 gh gl gk m c (mus ts) ds (j + 1) ts2 n dg dw nx got2 from
              ⟨hat2, doX_right HRT.out HX2.out, by rw [HTA.out]; unfold playX; rw [if_neg (by rw [HNO.out]; simp), HX2.out]; rfl, (HB8.out.block gk (by omega)).trans HO7.out, HP7.out.trans (PastB.of_below HB8.out (Nat.le_refl _))⟩)
            clear hx2 hat2
            go_wp2_with fail
            go_roundw
            case rel => exact ⟨j + 1, ts2, n, dg, dw, nx, got2, by omega, by go_num, HN8.out⟩
            case measure => simp [intOf]; omega
          · have HX2 := hide (show doX (mus us) (false, dg, dw) = .error k8 from by unfold doX; simp only [Bool.false_eq_true, if_false, if_true]; rw [hx2]; rfl)
            have HF := hide (HTB.out k8 (by unfold playX; rw [if_neg (by rw [HNO.out]; simp), HX2.out]))
            clear hx2
            go_wp2_with fail
            exact ⟨rfl, HP7.out.trans (PastB.of_below HB8.out (Nat.le_refl _)), .inr ⟨k8, rfl, HF.out⟩⟩
        · go_wp2_with fail
          go_region
          have H7 := hide (((HA6.out.at_.setWh dw).setGoer dg).below (Below.refl _ _).drew)
          have HO7 := hide (show RowAt (((w6.setCell ⟨gh, 2, none⟩ (.int .i64 dw)).setCell ⟨gh, 1, none⟩ (.int .i64 dg)).drew) gk 3 #[.int .i64 (n : Int)] from ((HA6.out.over.setNe (by omega)).setNe (by omega)).drew)
          have HP7 := hide (show PastB gh gk W (((w6.setCell ⟨gh, 2, none⟩ (.int .i64 dw)).setCell ⟨gh, 1, none⟩ (.int .i64 dg)).drew) from HA6.out.past.trans (PastB.of_below (n := gh) (((((Below.refl gh w6).setCell (p := ⟨gh, 2, none⟩) (Nat.le_refl _) _).setCell (p := ⟨gh, 1, none⟩) (Nat.le_refl _) _)).drew) (Nat.le_refl _)))
          have HRT := hide HA6.out.right
          clear e0 e1 e2 el q1 q2 ql f1 f2 HA6 HR6
          generalize (((w6.setCell ⟨gh, 2, none⟩ (.int .i64 dw)).setCell ⟨gh, 1, none⟩ (.int .i64 dg)).drew) = w7 at *
          have HC := hide (leave_any gh gl m c us dg dw nx got w7 H7.out HRT.out)
          go_wp2_with fail
          with_reducible refine HC.out.mono ?_
          rintro e w8 ⟨hb8, hres8⟩
          have HB8 := hide hb8
          clear hb8
          rcases hres8 with ⟨ts2, nx2, rfl, hx2, hat2⟩ | ⟨k8, rfl, hx2⟩
          · have HX2 := hide (show doX (mus us) (true, dg, dw) = .ok (mus ts2) from by unfold doX; simp only [Bool.false_eq_true, if_false, if_true]; rw [hx2]; rfl)
            have HN8 := hide (show PlAt W w8 gh gl gk m c (mus ts) ds (j + 1) ts2 n dg dw nx2 got from
              ⟨hat2, doX_right HRT.out HX2.out, by rw [HTA.out]; unfold playX; rw [if_neg (by rw [HNO.out]; simp), HX2.out]; rfl, (HB8.out.block gk (by omega)).trans HO7.out, HP7.out.trans (PastB.of_below HB8.out (Nat.le_refl _))⟩)
            clear hx2 hat2
            go_wp2_with fail
            go_roundw
            case rel => exact ⟨j + 1, ts2, n, dg, dw, nx2, got, by omega, by go_num, HN8.out⟩
            case measure => simp [intOf]; omega
          · have HX2 := hide (show doX (mus us) (true, dg, dw) = .error k8 from by unfold doX; simp only [Bool.false_eq_true, if_false, if_true]; rw [hx2]; rfl)
            have HF := hide (HTB.out k8 (by unfold playX; rw [if_neg (by rw [HNO.out]; simp), HX2.out]))
            clear hx2
            go_wp2_with fail
            exact ⟨rfl, HP7.out.trans (PastB.of_below HB8.out (Nat.le_refl _)), .inr ⟨k8, rfl, HF.out⟩⟩
      by_cases hx0 : 0 ≤ x
      case neg =>
        have hdx : decide (0 ≤ x) = false := by simpa using hx0
        have HNO := hide (show overB (mus us) (lv, dg, dw) = false from by rw [HOV.out, hdx]; rfl)
        clear HOV hx0
        go_wp2_with fail
        refine wp_region_via (by kernel_rfl) (by kernel_rfl) ?_
        repeat (go_big_quiet_step ((first | (go_at_call 41; exact HIS.out _) | (go_at_call 42; exact HWT.out _))))
        refine via_out fun w6 hb6 => ?_
        have HA6 := hide (HA5.out.below hb6 (Nat.le_of_lt ql))
        have HR6 := hide (HRN.out.below hb6)
        clear hb6 e0 e1 el q0 ql HA5 HRN HIS HWT
        have e0 : w6.cell? ⟨gm, 0, none⟩ = some (.bool lv) := by have := HR6.out.cell 0; simpa using this
        have e1 : w6.cell? ⟨gm, 1, none⟩ = some (.int .i64 dg) := by have := HR6.out.cell 1; simpa using this
        have e2 : w6.cell? ⟨gm, 2, none⟩ = some (.int .i64 dw) := by have := HR6.out.cell 2; simpa using this
        have el := HR6.out.lt
        have q1 := row51 HA6.out.at_.box
        have q2 := row52 HA6.out.at_.box
        have ql := HA6.out.at_.box.lt
        have f1 := HA6.out.at_.box.frozen 1
        have f2 := HA6.out.at_.box.frozen 2
        have hgm1 : ¬ gh = gm := by have := HGM.out; omega
        have hgm2 : ¬ gm = gh := by have := HGM.out; omega
        cases lv
        · go_wp2_with fail
          go_region
          have H7 := hide (((HA6.out.at_.setWh dw).setGoer dg).below (Below.refl _ _).drew)
          have HO7 := hide (show RowAt (((w6.setCell ⟨gh, 2, none⟩ (.int .i64 dw)).setCell ⟨gh, 1, none⟩ (.int .i64 dg)).drew) gk 3 #[.int .i64 (n : Int)] from ((HA6.out.over.setNe (by omega)).setNe (by omega)).drew)
          have HP7 := hide (show PastB gh gk W (((w6.setCell ⟨gh, 2, none⟩ (.int .i64 dw)).setCell ⟨gh, 1, none⟩ (.int .i64 dg)).drew) from HA6.out.past.trans (PastB.of_below (n := gh) (((((Below.refl gh w6).setCell (p := ⟨gh, 2, none⟩) (Nat.le_refl _) _).setCell (p := ⟨gh, 1, none⟩) (Nat.le_refl _) _)).drew) (Nat.le_refl _)))
          have HRT := hide HA6.out.right
          clear e0 e1 e2 el q1 q2 ql f1 f2 HA6 HR6
          generalize (((w6.setCell ⟨gh, 2, none⟩ (.int .i64 dw)).setCell ⟨gh, 1, none⟩ (.int .i64 dg)).drew) = w7 at *
          have HC := hide (ask_any gh gl m c us dg dw nx got w7 H7.out HRT.out)
          go_wp2_with fail
          with_reducible refine HC.out.mono ?_
          rintro e w8 ⟨hb8, hres8⟩
          have HB8 := hide hb8
          clear hb8
          rcases hres8 with ⟨ts2, got2, rfl, hx2, hat2⟩ | ⟨k8, rfl, hx2⟩
          · have HX2 := hide (show doX (mus us) (false, dg, dw) = .ok (mus ts2) from by unfold doX; simp only [Bool.false_eq_true, if_false, if_true]; rw [hx2]; rfl)
            have HN8 := hide (show PlAt W w8 gh gl gk m c (mus ts) ds (j + 1) ts2 n dg dw nx got2 from
              ⟨hat2, doX_right HRT.out HX2.out, by rw [HTA.out]; unfold playX; rw [if_neg (by rw [HNO.out]; simp), HX2.out]; rfl, (HB8.out.block gk (by omega)).trans HO7.out, HP7.out.trans (PastB.of_below HB8.out (Nat.le_refl _))⟩)
            clear hx2 hat2
            go_wp2_with fail
            go_roundw
            case rel => exact ⟨j + 1, ts2, n, dg, dw, nx, got2, by omega, by go_num, HN8.out⟩
            case measure => simp [intOf]; omega
          · have HX2 := hide (show doX (mus us) (false, dg, dw) = .error k8 from by unfold doX; simp only [Bool.false_eq_true, if_false, if_true]; rw [hx2]; rfl)
            have HF := hide (HTB.out k8 (by unfold playX; rw [if_neg (by rw [HNO.out]; simp), HX2.out]))
            clear hx2
            go_wp2_with fail
            exact ⟨rfl, HP7.out.trans (PastB.of_below HB8.out (Nat.le_refl _)), .inr ⟨k8, rfl, HF.out⟩⟩
        · go_wp2_with fail
          go_region
          have H7 := hide (((HA6.out.at_.setWh dw).setGoer dg).below (Below.refl _ _).drew)
          have HO7 := hide (show RowAt (((w6.setCell ⟨gh, 2, none⟩ (.int .i64 dw)).setCell ⟨gh, 1, none⟩ (.int .i64 dg)).drew) gk 3 #[.int .i64 (n : Int)] from ((HA6.out.over.setNe (by omega)).setNe (by omega)).drew)
          have HP7 := hide (show PastB gh gk W (((w6.setCell ⟨gh, 2, none⟩ (.int .i64 dw)).setCell ⟨gh, 1, none⟩ (.int .i64 dg)).drew) from HA6.out.past.trans (PastB.of_below (n := gh) (((((Below.refl gh w6).setCell (p := ⟨gh, 2, none⟩) (Nat.le_refl _) _).setCell (p := ⟨gh, 1, none⟩) (Nat.le_refl _) _)).drew) (Nat.le_refl _)))
          have HRT := hide HA6.out.right
          clear e0 e1 e2 el q1 q2 ql f1 f2 HA6 HR6
          generalize (((w6.setCell ⟨gh, 2, none⟩ (.int .i64 dw)).setCell ⟨gh, 1, none⟩ (.int .i64 dg)).drew) = w7 at *
          have HC := hide (leave_any gh gl m c us dg dw nx got w7 H7.out HRT.out)
          go_wp2_with fail
          with_reducible refine HC.out.mono ?_
          rintro e w8 ⟨hb8, hres8⟩
          have HB8 := hide hb8
          clear hb8
          rcases hres8 with ⟨ts2, nx2, rfl, hx2, hat2⟩ | ⟨k8, rfl, hx2⟩
          · have HX2 := hide (show doX (mus us) (true, dg, dw) = .ok (mus ts2) from by unfold doX; simp only [Bool.false_eq_true, if_false, if_true]; rw [hx2]; rfl)
            have HN8 := hide (show PlAt W w8 gh gl gk m c (mus ts) ds (j + 1) ts2 n dg dw nx2 got from
              ⟨hat2, doX_right HRT.out HX2.out, by rw [HTA.out]; unfold playX; rw [if_neg (by rw [HNO.out]; simp), HX2.out]; rfl, (HB8.out.block gk (by omega)).trans HO7.out, HP7.out.trans (PastB.of_below HB8.out (Nat.le_refl _))⟩)
            clear hx2 hat2
            go_wp2_with fail
            go_roundw
            case rel => exact ⟨j + 1, ts2, n, dg, dw, nx2, got, by omega, by go_num, HN8.out⟩
            case measure => simp [intOf]; omega
          · have HX2 := hide (show doX (mus us) (true, dg, dw) = .error k8 from by unfold doX; simp only [Bool.false_eq_true, if_false, if_true]; rw [hx2]; rfl)
            have HF := hide (HTB.out k8 (by unfold playX; rw [if_neg (by rw [HNO.out]; simp), HX2.out]))
            clear hx2
            go_wp2_with fail
            exact ⟨rfl, HP7.out.trans (PastB.of_below HB8.out (Nat.le_refl _)), .inr ⟨k8, rfl, HF.out⟩⟩
      have hdx : decide (0 ≤ x) = true := by simpa using hx0
      have HNO := hide (show overB (mus us) (lv, dg, dw) = true from by rw [HOV.out, hdx]; rfl)
      clear HOV hx0
      go_wp2_with fail
      refine wp_region_via (by kernel_rfl) (by kernel_rfl) ?_
      repeat (go_big_quiet_step ((first | (go_at_call 41; exact HIS.out _) | (go_at_call 42; exact HWT.out _))))
      refine via_out fun w6 hb6 => ?_
      have HA6 := hide (HA5.out.below hb6 (Nat.le_of_lt ql))
      have HR6 := hide (HRN.out.below hb6)
      clear hb6 e0 e1 el q0 ql HA5 HRN HIS HWT
      have k0 := row1 HA6.out.over
      have kl := HA6.out.over.lt
      have kf := HA6.out.over.frozen 0
      have hwn : wrap64 ((n : Int) + 1) = (n : Int) + 1 := IntWalk.wrap64_in _ (by omega)
      have HN7 := hide (show PlAt W (w6.setCell ⟨gk, 0, none⟩ (.int .i64 ((n : Int) + 1))) gh gl gk m c (mus ts) ds (j + 1) us (n + 1) g wh nx got from
        ⟨⟨HA6.out.at_.box.setNe (by omega), HA6.out.at_.made.other (by simp) (fun i hi _ => heap_setCell_ne _ _ _ _ (by show i ≠ gk; omega)), HA6.out.at_.len⟩, HA6.out.right,
          by rw [HTA.out]; unfold playX; rw [if_pos HNO.out]; rfl, by have h := HA6.out.over.set 0 (.int .i64 ((n : Int) + 1)); simpa using h,
          HA6.out.past.trans ⟨rfl, rfl, rfl, by simp, fun i hi hik _ => heap_setCell_ne _ _ _ _ hik⟩⟩)
      go_wp2_with fail
      go_roundw
      case rel => exact ⟨j + 1, us, n + 1, g, wh, nx, got, by omega, by go_num, HN7.out⟩
      case measure => simp [intOf]; omega
    · obtain rfl : j = nd := by omega
      have hp := HA.out.play
      rw [List.take_of_length_le (by rw [HND.out]; exact Nat.le_refl _)] at hp
      have HPP := hide hp
      clear hp
      go_wp2_with fail
      go_end0
      exact ⟨HA.out.past, .inl ⟨rfl, us, _, _, _, _, HA.out.at_, n, HPP.out, HA.out.over⟩⟩
theorem askX_err {l : Ml} {w g : Int} {k : Int} (h : askX l w g = .error k) : k ≠ 0 := by
  unfold askX at h
  split at h
  · injection h with h; omega
  split at h
  · injection h with h; omega
  split at h <;> cases h
theorem leaveX_err {l : Ml} {w g : Int} {k : Int} (h : leaveX l w g = .error k) : k ≠ 0 := by
  unfold leaveX at h
  split at h
  · injection h with h; omega
  split at h
  · injection h with h; omega
  split at h <;> cases h
theorem doX_err {l : Ml} {d : Dd} {k : Int} (h : doX l d = .error k) : k ≠ 0 := by
  unfold doX at h
  split at h
  · cases hl : leaveX l d.2.2 d.2.1 with
    | error e => rw [hl] at h; injection h with h; subst h; exact leaveX_err hl
    | ok x => rw [hl] at h; cases h
  · cases hl : askX l d.2.2 d.2.1 with
    | error e => rw [hl] at h; injection h with h; subst h; exact askX_err hl
    | ok x => rw [hl] at h; cases h
theorem playX_err : ∀ (ds : List Dd) (l : Ml) (n : Nat) (k : Int), playX l ds n = .error k → k ≠ 0
  | [], l, n, k, h => by unfold playX at h; cases h
  | d :: ds, l, n, k, h => by
    unfold playX at h
    split at h
    · exact playX_err ds _ _ _ h
    · split at h
      · exact playX_err ds _ _ _ h
      · rename_i e he; injection h with h; subst h; exact doX_err he
def playF (l : Ml) (ds : List Dd) : Except Int (Ml × Nat) := if rightM l then playX l ds 0 else .error 150
set_option maxHeartbeats 2000000 in
theorem Play_any (A : Option Addr) (c m : Nat) (ts : List Mm) (Ad : Option Addr) (nd cd : Nat) (ds : List Dd) (W : World) (h : RM W W.heap.size A m ts) (hs : SmallM ts) (hds : Rd W W.heap.size 3 Ad nd (Cs encD ds)) (hnd : ds.length = nd) (hn : nd ≤ 4096) :
    Calls Try.prog 18 #[.slice A m c, .slice Ad nd cd] W fun e W' => OutRes W (playF (mus ts) ds) (.int .i64 ((outV 0 (playF (mus ts) ds) : Nat) : Int)) e W' ∧ Below W.heap.size W W' := by
  obtain ⟨w1, hw1⟩ : ∃ w1, W.alloc (.cells #[.slice Ad nd cd] 23) = w1 := ⟨_, rfl⟩
  obtain ⟨w2, hw2⟩ : ∃ w2, w1.alloc (.cells #[.int .i64 0] 3) = w2 := ⟨_, rfl⟩
  have s1 : w1.heap.size = W.heap.size + 1 := by rw [← hw1]; simp
  have s2 : w2.heap.size = W.heap.size + 1 + 1 := by rw [← hw2]; simp [s1]
  have b1 : Below W.heap.size W w1 := by rw [← hw1]; exact (Below.refl _ _).alloc (Nat.le_refl _) _
  have b2 : Below w1.heap.size w1 w2 := by rw [← hw2]; exact (Below.refl _ _).alloc (Nat.le_refl _) _
  have r1 : RowAt w2 W.heap.size 23 #[.slice Ad nd cd] := by have h := RowAt.new W 23 #[.slice Ad nd cd]; rw [hw1] at h; exact h.below b2
  have r2 : RowAt w2 (W.heap.size + 1) 3 #[.int .i64 0] := by have h := RowAt.new w1 3 #[.int .i64 0]; rw [hw2, s1] at h; exact h
  have HB := hide (b1.trans (b2.mono b1.size))
  have R1 := hide r1
  have R2 := hide r2
  have S2 := hide s2
  have HRM := hide ((h.below HB.out).more HB.out.size)
  have HDS := hide (hds.below HB.out)
  have HS := hide hs
  have HND := hide hnd
  clear b1 b2 r1 r2 s1 s2 h hs hds hnd
  subst hw2
  subst hw1
  rcases Bool.eq_false_or_eq_true (rightM (mus ts)) with ho | ho
  · have HO := hide ho
    have HT := hide (tries_yes (W.heap.size + 1) m A c 40 #[.pointer (some ⟨W.heap.size, 0, none⟩), .pointer (some ⟨W.heap.size + 1, 0, none⟩)] ts _ (enters_of Try.func40 (by kernel_rfl) rfl) HRM.out HS.out ho (PlayG (mus ts) ds (W.heap.size + 1)) (fun k => playX (mus ts) ds 0 = .error k) (fun _ _ _ _ _ ⟨n, h1, h2⟩ hk => ⟨n, h1, hk.trans h2⟩) (by rw [S2.out]; omega)
      (fun w gh gl c2 ts2 hat hmu hbw hlt => by
        have h := play1_any gh gl m c2 W.heap.size (W.heap.size + 1) Ad nd cd ds ts2 0 0 0 false w hat (by rw [hmu]; exact rightM_iff.1 HO.out) (R1.out.below hbw) (R2.out.below hbw) (by have := S2.out; omega) (by have := S2.out; omega) (by omega) W.heap.size (HDS.out.below (hbw.mono (by have := S2.out; omega))) (Nat.le_succ _) HND.out hn
        rw [hmu] at h
        exact h))
    clear ho
    go_enter Try.func18, Try.ntmps18
    go_wp2_with fail
    with_reducible refine HT.out.mono ?_
    rintro e w5 ⟨hp, ⟨gh, gl, c9, ts9, g9, wh9, nx9, got9, rfl, hat, hge, n9, hx, hov⟩ | ⟨gz, k, rfl, hz, hx⟩⟩
    · have HP := hide (below_pastB HB.out hp (Nat.le_succ _))
      have HAT := hide hat
      have q0 := row50 hat.box
      have ql := hat.box.lt
      have o0 := row1 hov
      have ol := hov.lt
      have HX := hide (show playF (mus ts) ds = .ok (mus ts9, n9) from by unfold playF; rw [if_pos HO.out]; exact hx)
      have HM := hide (hat.made.base (b' := W.heap.size) (by have := S2.out; omega))
      clear hp hat hge hx hov
      go_wp2_with fail
      go_quiet (fail)
      go_wp2_with fail
      go_ret3
      rw [HX.out]
      exact ⟨⟨_, _, _, ts9, rfl, rfl, HAT.out.len, HM.out.below (below_drewN (Below.refl _ _) _)⟩, below_drewN HP.out _⟩
    · have HP := hide (below_pastB HB.out hp (Nat.le_succ _))
      have HX := hide (show playF (mus ts) ds = .error k from by unfold playF; rw [if_pos HO.out]; exact hx)
      have HK := hide (show k ≠ 0 from playX_err _ _ _ _ hx)
      have hk : (k != 0) = true := by simpa using HK.out
      clear hp hz hx
      go_wp2_with fail
      go_ret3
      rw [HX.out]
      exact ⟨⟨_, _, _, [], rfl, rfl, rfl, MadeM.nil _ _⟩, HP.out⟩
  · have HO := hide ho
    have HT := hide (tries_no A c m 40 #[.pointer (some ⟨W.heap.size, 0, none⟩), .pointer (some ⟨W.heap.size + 1, 0, none⟩)] ts _ HRM.out HS.out ho)
    have HX := hide (show playF (mus ts) ds = .error 150 from by unfold playF; rw [ho]; rfl)
    clear ho
    rw [HX.out]
    go_enter Try.func18, Try.ntmps18
    go_wp2_with fail
    with_reducible refine HT.out.mono ?_
    rintro e w5 ⟨⟨gz, rfl, hz⟩, hp⟩
    have HP := hide (HB.out.trans (hp.mono HB.out.size))
    clear hp hz
    go_wp2_with fail
    go_ret3
    exact ⟨⟨_, _, _, [], rfl, rfl, rfl, MadeM.nil _ _⟩, HP.out⟩
end Go.Proofs.Ytlelpnahillioaa

/-
  Part of a proof: ZOps says of what.
-/
import Derived.Laws.EntriesVeiled
import Derived.Deep.CutRange
import Derived.Deep.CutBlock
import Derived.Laws.Rows
import Derived.RegionTactic
import Derived.Test.YtkicidopjihjmaaGreatZOpsB
set_option maxHeartbeats 16000000
set_option linter.unusedSimpArgs false
set_option linter.unusedVariables false
namespace Go.Proofs.YtkicidopjihjmaaGreat
open Go Go.RowKit
attribute [local go_sem] via_cell via_frozen
attribute [local go_sem] Oper.semAt_some
theorem eqlE (w : World) (x y : Int × Int) (r : Bool) (hr : decide (x = y) = r) :
  (binOp .eql 41 (.agg #[.int .i64 x.1, .int .u64 x.2]) (.agg #[.int .i64 y.1, .int .u64 y.2])).run Tryz.prog w = .ok (.bool r) w := by
 obtain ⟨a, b⟩ := x
 obtain ⟨c, d⟩ := y
 simp only [binOp]
 simp [Op.equal, Op.maxDepth, go_sem, run_equalIn_struct]
 subst hr
 by_cases h1 : a = c <;> by_cases h2 : b = d <;> simp [h1, h2]
theorem IndexEE (B : Nat) (A : Option Addr) (c : Nat) (s g : Int) (xs : List (Int × Int)) (W : World) (h1 : Rd W B 2 A xs.length (Cs encE xs)) (hB1 : B ≤ W.heap.size) (hl1 : xs.length ≤ 4096) :
  Calls Tryz.prog 60 #[.slice A xs.length c, .agg #[.int .i64 s, .int .u64 g]] W fun e W' => ∃ i : Int, e = .returned (.int .i64 i) ∧ decide (0 ≤ i) = xs.any (fun y => decide (y = (s, g))) ∧ Below W.heap.size W W' := by
 have HB := Hi (show Below W.heap.size W (W.alloc (.cells #[.int .i64 s, .int .u64 g] 41)) from (Below.refl _ _).alloc (Nat.le_refl _) _)
 have HR := Hi (RowAt.new W 41 #[.int .i64 s, .int .u64 g])
 have H1 := Hi (h1.below (HB.out.mono hB1))
 clear h1
 go_enter Tryz.func60, Tryz.ntmps60
 go_wp2_with fail
 generalize W.alloc _ = w0 at *
 go_loopw [8] (fun i wr => ∃ k : Nat, k ≤ xs.length ∧ i = .int .i64 k ∧ (xs.take k).any (fun y => decide (y = (s, g))) = false ∧ Below w0.heap.size w0 wr) (fun i _ => xs.length - (intOf i).toNat)
 case atStart => exact ⟨0, Nat.zero_le _, rfl, rfl, Below.refl _ _⟩
 case round =>
  obtain ⟨k, hk, rfl, hpre, hbw⟩ := hrel
  have HP := Hi hpre
  have HBW := bt HB hbw
  have HBR := Hi hbw
  clear hpre
  by_cases hlt : k < xs.length
  ·
   obtain ⟨b1, o1, rfl, hb1, hc1⟩ := (H1.out.below (hbw.mono (Nat.le_trans hB1 HB.out.size))).elem encE_len hlt
   have hd10 := hc1 0 _ (by omega) rfl
   have hd11 := hc1 1 _ (by omega) rfl
   simp only [Nat.add_zero] at hd10
   have hbl : b1 < wr.heap.size := Nat.lt_of_lt_of_le hb1 (Nat.le_trans hB1 HBW.out.size)
   have e0 := row20 (HR.out.below hbw)
   have e1 := row21 (HR.out.below hbw)
   have el := (HR.out.below hbw).lt
   clear hc1 hbw
   have HX := Hi (show xs.take (k + 1) = xs.take k ++ [xs[k]] from List.take_succ_eq_append_getElem hlt)
   have HM := Hi (List.getElem_mem hlt)
   have hki : (k : Int) < (xs.length : Int) := by omega
   generalize xs[k] = x at *
   by_cases hv : x = (s, g)
   ·
    subst hv
    have hne := fun w => eqlE w (s, g) (s, g) true (by simp)
    go_wp2_with fail
    go_quiet (fail)
    go_wp2_with fail
    go_ret
    refine ⟨_, rfl, ?_, HBW.out.trans ⟨rfl, rfl, rfl, Nat.le_refl _, fun _ _ => rfl⟩⟩
    have h2 : xs.any (fun y => decide (y = (s, g))) = true := by rw [List.any_eq_true]; exact ⟨(s, g), HM.out, by simp⟩
    rw [h2]; simp
   ·
    have hne := fun w => eqlE w (s, g) x false (by simpa using fun h => hv h.symm)
    have HV := Hi hv
    clear hv
    go_wp2_with fail
    go_quiet (fail)
    go_wp2_with fail
    go_roundw
    case rel => exact ⟨k + 1, by omega, by go_num, by rw [HX.out, List.any_append, HP.out]; have := HV.out; simp; exact this, HBR.out.trans ⟨rfl, rfl, rfl, Nat.le_refl _, fun _ _ => rfl⟩⟩
    case measure => simp [intOf]; omega
  ·
   go_wp2_with fail
   go_ret
   refine ⟨_, rfl, ?_, HBW.out⟩
   have h := HP.out
   rw [List.take_of_length_le (by omega)] at h
   rw [h]; simp
theorem ContainsEE (B : Nat) (A : Option Addr) (c : Nat) (s g : Int) (xs : List (Int × Int)) (W : World) (h1 : Rd W B 2 A xs.length (Cs encE xs)) (hB1 : B ≤ W.heap.size) (hl1 : xs.length ≤ 4096) (r : Bool) (hr : xs.any (fun y => decide (y = (s, g))) = r) :
  Calls Tryz.prog 25 #[.slice A xs.length c, .agg #[.int .i64 s, .int .u64 g]] W fun e W' => e = .returned (.bool r) ∧ Below W.heap.size W W' := by
 subst hr
 have HB := Hi (show Below W.heap.size W (W.alloc (.cells #[.int .i64 s, .int .u64 g] 41)) from (Below.refl _ _).alloc (Nat.le_refl _) _)
 have HR := Hi (RowAt.new W 41 #[.int .i64 s, .int .u64 g])
 have HI := Hi (IndexEE B A c s g xs _ (h1.below (HB.out.mono hB1)) (Nat.le_trans hB1 HB.out.size) hl1)
 clear h1
 have e0 := row20 HR.out
 have e1 := row21 HR.out
 go_enter Tryz.func25, Tryz.ntmps25
 go_wp2_with fail
 refine HI.out.mono ?_
 rintro e w1 ⟨i, rfl, hi, hb⟩
 have HI := Hi hi
 have HB1 := bt HB hb
 clear hi hb
 go_wp2_with fail
 go_ret
 exact ⟨ret_bool HI.out, HB1.out⟩
theorem containsE_n (B : Nat) (A : Option Addr) (c m : Nat) (s g : Int) (xs : List (Int × Int)) (W : World) (h1 : Rd W B 2 A m (Cs encE xs)) (hx : xs.length = m) (hB1 : B ≤ W.heap.size) (hl1 : m ≤ 4096) (r : Bool) (hr : xs.any (fun y => decide (y = (s, g))) = r) :
  Calls Tryz.prog 25 #[.slice A m c, .agg #[.int .i64 s, .int .u64 g]] W fun e W' => e = .returned (.bool r) ∧ Below W.heap.size W W' := by
 subst hx
 exact ContainsEE B A c s g xs W h1 hB1 hl1 r hr
theorem cell_lie {w w' : World} {p : Addr} {v : Value} (hl : CellsLie w w') (h : w.cell? p = some v) : w'.cell? p = some v := by
 unfold World.cell? at h ⊢
 cases ho : w.heap[p.block]? with
 | none => rw [ho] at h; cases h
 | some o =>
  rw [ho] at h
  cases o with
  | cells cs t z => rw [hl.same _ _ ho rfl]; exact h
  | _ => cases h
theorem Rd.lieB {w w' : World} {B sz n : Nat} {A : Option Addr} {xs : List Value} (h : Rd w B sz A n xs) (hl : CellsLie w w') : Rd w' B sz A n xs := by
 refine ⟨h.1, fun hn => ?_⟩
 obtain ⟨b, o, rfl, hb, hc⟩ := h.2 hn
 exact ⟨b, o, rfl, hb, fun j u hu => cell_lie hl (hc j u hu)⟩
theorem is1_any (gR B : Nat) (A : Option Addr) (c m : Nat) (s g : Int) (xs : List Ent) (W : World) (hr : RowAt W gR 29 #[.slice A m c]) (h : Rd W B 2 A m (Cs encE xs)) (hB : B ≤ W.heap.size) (hx : xs.length = m) (hm : m ≤ 4096) (r : Bool) (hrr : xs.any (fun y => decide (y = (s, g))) = r) :
  Calls Tryz.prog 56 (#[.agg #[.int .i64 s, .int .u64 g]] ++ #[.pointer (some ⟨gR, 0, none⟩)]) W fun e W' => e = .returned (.bool r) ∧ Below W.heap.size W W' := by
 have HB := Hi (show Below W.heap.size W (W.alloc (.cells #[.int .i64 s, .int .u64 g] 41)) from (Below.refl _ _).alloc (Nat.le_refl _) _)
 have HR := Hi (RowAt.new W 41 #[.int .i64 s, .int .u64 g])
 have HG := Hi (hr.below HB.out)
 have HC := Hi (containsE_n B A c m s g xs _ (h.below (HB.out.mono hB)) hx (Nat.le_trans hB HB.out.size) hm r hrr)
 clear h hr
 have e0 := row20 HR.out
 have e1 := row21 HR.out
 have el := HR.out.lt
 have g0 := row1 HG.out
 have gl := HG.out.lt
 rw [show (#[.agg #[.int .i64 s, .int .u64 g]] ++ #[.pointer (some ⟨gR, 0, none⟩)] : Array Value) = #[.agg #[.int .i64 s, .int .u64 g], .pointer (some ⟨gR, 0, none⟩)] from rfl]
 go_enter Tryz.func56, Tryz.ntmps56
 go_wp2_with fail
 refine HC.out.mono ?_
 rintro e w1 ⟨rfl, hb⟩
 have HB1 := bt HB hb
 clear hb
 go_wp2_with fail
 go_ret
 exact ⟨rfl, HB1.out⟩
structure CkW (ge gR gF gn B1 : Nat) (AR : Option Addr) (m cR : Nat) (ret : List Ent) (pre : List Ent) (W : World) : Prop where
 err : RowAt W ge 44 #[.int .i64 0]
 box : RowAt W gR 29 #[.slice AR m cR]
 fn : RowAt W gF 104 #[.func (.func 56) #[] #[.pointer (some ⟨gR, 0, none⟩)]]
 num : RowAt W gn 3 #[.int .i64 (pre.length : Int)]
 rd : Rd W B1 2 AR m (Cs encE ret)
 all : ∀ x ∈ pre, x ∈ ret
structure CkZ (ge : Nat) (ret : List Ent) (c : Code) (pre : List Ent) (W : World) : Prop where
 code : c = .ret
 err : RowAt W ge 44 #[.int .i64 250]
 no : ∃ x ∈ pre, x ∉ ret
theorem CkW.stays {ge gR gF gn B1 : Nat} {AR : Option Addr} {m cR : Nat} {ret : List Ent} : Stays (CkW ge gR gF gn B1 AR m cR ret) := fun _ _ _ h hl => ⟨h.err.lie hl, h.box.lie hl, h.fn.lie hl, h.num.lie hl, h.rd.lieB hl, h.all⟩
theorem CkW.later {ge gR gF gn B1 : Nat} {AR : Option Addr} {m cR : Nat} {ret pre : List Ent} {a b : World} (h : CkW ge gR gF gn B1 AR m cR ret pre a) (hb : Below a.heap.size a b) (hB : B1 ≤ a.heap.size) : CkW ge gR gF gn B1 AR m cR ret pre b := ⟨h.err.below hb, h.box.below hb, h.fn.below hb, h.num.below hb, h.rd.below (hb.mono hB), h.all⟩
theorem CkZ.stays {ge : Nat} {ret : List Ent} (c : Code) : Stays (CkZ ge ret c) := fun _ _ _ h hl => ⟨h.code, h.err.lie hl, h.no⟩
theorem any_not {l : List Ent} {x : Ent} : l.any (fun y => decide (y = x)) = true ↔ x ∈ l := by
 rw [List.any_eq_true]
 constructor
 ·
  rintro ⟨y, h1, h2⟩
  have := of_decide_eq_true h2
  subst this; exact h1
 · intro h; exact ⟨x, h, by simp⟩
def flatR (r : Rec) : Bool := arOk r.sl && (Pn.pOk r.e r.S && (r.l.ok && decide ((r.l.E : Int) = r.e)))
theorem ok_flat (r : Rec) : r.ok = (flatR r && fitB r.sl r.l) := by unfold Rec.ok flatR; cases arOk r.sl <;> cases Pn.pOk r.e r.S <;> cases r.l.ok <;> cases decide ((r.l.E : Int) = r.e) <;> rfl
theorem fit_iff {sl : List Ent} {l : Li.Lim} : fitB sl l = true ↔ (∀ x ∈ l.held, x ∈ ents sl 2) ∧ l.held.length = (ents sl 2).length := by
 unfold fitB
 rw [Bool.and_eq_true, decide_eq_true_eq, List.all_eq_true]
 constructor
 · rintro ⟨h1, h2⟩; exact ⟨fun x hx => any_not.1 (h1 x hx), h2⟩
 · rintro ⟨h1, h2⟩; exact ⟨fun x hx => any_not.2 (h1 x hx), h2⟩
theorem parts_a (F : Nat → Prop) (A0 As : Option Addr) (n0 c0 ns cs : Nat) (A : Nat → Option Addr) (n c : Nat → Nat) (r : Rec) (w : World) (h : RecF F w A0 As n0 c0 ns cs A n c r) (hf : FitR r) (k : Int) (hb : (if arOk r.sl = true then (0 : Int) else 210) = k) : Calls Tryz.prog 53 #[.agg #[.slice A0 n0 c0]] w fun e w' => e = .returned (.int .i64 k) ∧ Below w.heap.size w w' :=
 check_any w.heap.size A0 c0 n0 r.sl w h.sl.rd h.l0 (Nat.le_refl _) k (by unfold chk; exact hb) (by rw [← h.l0]; have := hf.sl; omega)
theorem parts_p (F : Nat → Prop) (A0 As : Option Addr) (n0 c0 ns cs : Nat) (A : Nat → Option Addr) (n c : Nat → Nat) (r : Rec) (w : World) (h : RecF F w A0 As n0 c0 ns cs A n c r) (hf : FitR r) (k : Int) (hb : (if Pn.pOk r.e r.S = true then (0 : Int) else 230) = k) : Calls Tryz.prog 54 #[.agg #[.int .u64 r.e, .slice As ns cs]] w fun e w' => e = .returned (.int .i64 k) ∧ Below w.heap.size w w' :=
 Pn.check_any As cs ns r.e r.S w h.S.rd h.ls hf.e.1 (by rw [← h.ls]; exact hf.S) k hb
theorem parts_l (F : Nat → Prop) (A0 As : Option Addr) (n0 c0 ns cs : Nat) (A : Nat → Option Addr) (n c : Nat → Nat) (r : Rec) (w : World) (h : RecF F w A0 As n0 c0 ns cs A n c r) (hf : FitR r) (k : Int) (hb : (if r.l.ok = true then (0 : Int) else 240) = k) : Calls Tryz.prog 55 #[.agg #[.int .u64 (r.l.E : Int), .slice (A 0) (n 0) (c 0), .slice (A 1) (n 1) (c 1), .slice (A 2) (n 2) (c 2)]] w fun e w' => e = .returned (.int .i64 k) ∧ Below w.heap.size w w' :=
 Li.check_any w.heap.size A n c r.l w h.lim hf.E (Nat.le_refl _) (fun k hk => by rw [← h.ll k hk]; exact hf.rw k hk) hf.g k hb
set_option maxRecDepth 20000 in
theorem check_flat (F : Nat → Prop) (A0 As : Option Addr) (n0 c0 ns cs : Nat) (A : Nat → Option Addr) (n c : Nat → Nat) (r : Rec) (W : World) (h : RecF F W A0 As n0 c0 ns cs A n c r) (hf : FitR r) (ho : flatR r = false) :
  Calls Tryz.prog 20 #[.agg (recC r.e r.l.E A0 As n0 c0 ns cs A n c)] W fun e W' => e = .returned (.int .i64 250) ∧ Below W.heap.size W W' := by
 have al := al2 W #[.slice A0 n0 c0, .int .u64 r.e, .slice As ns cs, .int .u64 (r.l.E : Int), .slice (A 0) (n 0) (c 0), .slice (A 1) (n 1) (c 1), .slice (A 2) (n 2) (c 2)] 34 #[.int .i64 0] 44
 have hb1 := al.2.1
 have hb2 := al.2.2
 have R1 := Hi ((RowAt.new W 34 #[.slice A0 n0 c0, .int .u64 r.e, .slice As ns cs, .int .u64 (r.l.E : Int), .slice (A 0) (n 0) (c 0), .slice (A 1) (n 1) (c 1), .slice (A 2) (n 2) (c 2)]).below hb2)
 have R2 := Hi al.1.2
 clear al
 have HB := Hi (hb1.trans (hb2.mono hb1.size))
 have H := Hi (h.below HB.out)
 have HF := Hi hf
 clear hb1 hb2 h hf
 obtain ⟨a, ha⟩ : ∃ a, arOk r.sl = a := ⟨_, rfl⟩
 obtain ⟨b, hbq⟩ : ∃ b, Pn.pOk r.e r.S = b := ⟨_, rfl⟩
 obtain ⟨d, hdq⟩ : ∃ d, r.l.ok = d := ⟨_, rfl⟩
 have HA := Hi ha
 have HP := Hi hbq
 have HL := Hi hdq
 have HO := Hi (show (a && (b && (d && decide ((r.l.E : Int) = r.e)))) = false from by rw [← ha, ← hbq, ← hdq]; exact ho)
 clear ha hbq hdq ho
 go_enter Tryz.func20, Tryz.ntmps20
 go_upto_region 1 with (fail)
 generalize (W.alloc _).alloc _ = w2 at *
 have q0 := cl R1.out 0
 have q1 := cl R1.out 1
 have q2 := cl R1.out 2
 have q3 := cl R1.out 3
 have q4 := cl R1.out 4
 have q5 := cl R1.out 5
 have q6 := cl R1.out 6
 have ql := R1.out.lt
 have z0 := row1 R2.out
 have zl := R2.out.lt
 have zf := R2.out.frozen 0
 cases a
 case false =>
  go_wp2_with fail
  with_reducible refine (parts_a F A0 As n0 c0 ns cs A n c r _ H.out HF.out 210 (by rw [HA.out]; simp)).mono ?_
  rintro e w3 ⟨rfl, hb⟩
  replace R1 := Hi (R1.out.below hb)
  replace R2 := Hi (R2.out.below hb)
  replace H := Hi (H.out.below hb)
  replace HB := bt HB hb
  clear q0 q1 q2 q3 q4 q5 q6 ql
  clear z0 zl zf
  clear hb
  have q0 := cl R1.out 0
  have q1 := cl R1.out 1
  have q2 := cl R1.out 2
  have q3 := cl R1.out 3
  have q4 := cl R1.out 4
  have q5 := cl R1.out 5
  have q6 := cl R1.out 6
  have ql := R1.out.lt
  have z0 := row1 R2.out
  have zl := R2.out.lt
  have zf := R2.out.frozen 0
  go_wp2_with fail
  have R3 := Hi (show RowAt (w3.setCell ⟨W.heap.size + 1, 0, none⟩ (.int .i64 250)) (W.heap.size + 1) 44 #[.int .i64 250] from by have h := R2.out.set 0 (.int .i64 250); simpa using h)
  have HB3 := Hi (show Below W.heap.size W (w3.setCell ⟨W.heap.size + 1, 0, none⟩ (.int .i64 250)) from HB.out.setCell (p := ⟨W.heap.size + 1, 0, none⟩) (by show W.heap.size ≤ W.heap.size + 1; omega) _)
  clear q0 q1 q2 q3 q4 q5 q6 ql
  clear z0 zl zf
  generalize w3.setCell _ _ = w9 at *
  have c9 := row1 R3.out
  have l9 := R3.out.lt
  exact bodyPost_ret (v := .int .i64 250) (by simp [results, Tryz.results20, go_sem, c9, l9]) rfl ⟨rfl, HB3.out⟩
 case true =>
  cases b
  case false =>
   go_wp2_with fail
   with_reducible refine (parts_a F A0 As n0 c0 ns cs A n c r _ H.out HF.out 0 (by rw [HA.out]; simp)).mono ?_
   rintro e w3 ⟨rfl, hb⟩
   replace R1 := Hi (R1.out.below hb)
   replace R2 := Hi (R2.out.below hb)
   replace H := Hi (H.out.below hb)
   replace HB := bt HB hb
   clear q0 q1 q2 q3 q4 q5 q6 ql
   clear z0 zl zf
   clear hb
   have q0 := cl R1.out 0
   have q1 := cl R1.out 1
   have q2 := cl R1.out 2
   have q3 := cl R1.out 3
   have q4 := cl R1.out 4
   have q5 := cl R1.out 5
   have q6 := cl R1.out 6
   have ql := R1.out.lt
   have z0 := row1 R2.out
   have zl := R2.out.lt
   have zf := R2.out.frozen 0
   go_wp2_with fail
   with_reducible refine (parts_p F A0 As n0 c0 ns cs A n c r _ H.out HF.out 230 (by rw [HP.out]; simp)).mono ?_
   rintro e w4 ⟨rfl, hb⟩
   replace R1 := Hi (R1.out.below hb)
   replace R2 := Hi (R2.out.below hb)
   replace H := Hi (H.out.below hb)
   replace HB := bt HB hb
   clear q0 q1 q2 q3 q4 q5 q6 ql
   clear z0 zl zf
   clear hb
   have q0 := cl R1.out 0
   have q1 := cl R1.out 1
   have q2 := cl R1.out 2
   have q3 := cl R1.out 3
   have q4 := cl R1.out 4
   have q5 := cl R1.out 5
   have q6 := cl R1.out 6
   have ql := R1.out.lt
   have z0 := row1 R2.out
   have zl := R2.out.lt
   have zf := R2.out.frozen 0
   go_wp2_with fail
   have R3 := Hi (show RowAt (w4.setCell ⟨W.heap.size + 1, 0, none⟩ (.int .i64 250)) (W.heap.size + 1) 44 #[.int .i64 250] from by have h := R2.out.set 0 (.int .i64 250); simpa using h)
   have HB3 := Hi (show Below W.heap.size W (w4.setCell ⟨W.heap.size + 1, 0, none⟩ (.int .i64 250)) from HB.out.setCell (p := ⟨W.heap.size + 1, 0, none⟩) (by show W.heap.size ≤ W.heap.size + 1; omega) _)
   clear q0 q1 q2 q3 q4 q5 q6 ql
   clear z0 zl zf
   generalize w4.setCell _ _ = w9 at *
   have c9 := row1 R3.out
   have l9 := R3.out.lt
   exact bodyPost_ret (v := .int .i64 250) (by simp [results, Tryz.results20, go_sem, c9, l9]) rfl ⟨rfl, HB3.out⟩
  case true =>
   cases d
   case false =>
    go_wp2_with fail
    with_reducible refine (parts_a F A0 As n0 c0 ns cs A n c r _ H.out HF.out 0 (by rw [HA.out]; simp)).mono ?_
    rintro e w3 ⟨rfl, hb⟩
    replace R1 := Hi (R1.out.below hb)
    replace R2 := Hi (R2.out.below hb)
    replace H := Hi (H.out.below hb)
    replace HB := bt HB hb
    clear q0 q1 q2 q3 q4 q5 q6 ql
    clear z0 zl zf
    clear hb
    have q0 := cl R1.out 0
    have q1 := cl R1.out 1
    have q2 := cl R1.out 2
    have q3 := cl R1.out 3
    have q4 := cl R1.out 4
    have q5 := cl R1.out 5
    have q6 := cl R1.out 6
    have ql := R1.out.lt
    have z0 := row1 R2.out
    have zl := R2.out.lt
    have zf := R2.out.frozen 0
    go_wp2_with fail
    with_reducible refine (parts_p F A0 As n0 c0 ns cs A n c r _ H.out HF.out 0 (by rw [HP.out]; simp)).mono ?_
    rintro e w4 ⟨rfl, hb⟩
    replace R1 := Hi (R1.out.below hb)
    replace R2 := Hi (R2.out.below hb)
    replace H := Hi (H.out.below hb)
    replace HB := bt HB hb
    clear q0 q1 q2 q3 q4 q5 q6 ql
    clear z0 zl zf
    clear hb
    have q0 := cl R1.out 0
    have q1 := cl R1.out 1
    have q2 := cl R1.out 2
    have q3 := cl R1.out 3
    have q4 := cl R1.out 4
    have q5 := cl R1.out 5
    have q6 := cl R1.out 6
    have ql := R1.out.lt
    have z0 := row1 R2.out
    have zl := R2.out.lt
    have zf := R2.out.frozen 0
    go_wp2_with fail
    with_reducible refine (parts_l F A0 As n0 c0 ns cs A n c r _ H.out HF.out 240 (by rw [HL.out]; simp)).mono ?_
    rintro e w5 ⟨rfl, hb⟩
    replace R1 := Hi (R1.out.below hb)
    replace R2 := Hi (R2.out.below hb)
    replace H := Hi (H.out.below hb)
    replace HB := bt HB hb
    clear q0 q1 q2 q3 q4 q5 q6 ql
    clear z0 zl zf
    clear hb
    have q0 := cl R1.out 0
    have q1 := cl R1.out 1
    have q2 := cl R1.out 2
    have q3 := cl R1.out 3
    have q4 := cl R1.out 4
    have q5 := cl R1.out 5
    have q6 := cl R1.out 6
    have ql := R1.out.lt
    have z0 := row1 R2.out
    have zl := R2.out.lt
    have zf := R2.out.frozen 0
    go_wp2_with fail
    have R3 := Hi (show RowAt (w5.setCell ⟨W.heap.size + 1, 0, none⟩ (.int .i64 250)) (W.heap.size + 1) 44 #[.int .i64 250] from by have h := R2.out.set 0 (.int .i64 250); simpa using h)
    have HB3 := Hi (show Below W.heap.size W (w5.setCell ⟨W.heap.size + 1, 0, none⟩ (.int .i64 250)) from HB.out.setCell (p := ⟨W.heap.size + 1, 0, none⟩) (by show W.heap.size ≤ W.heap.size + 1; omega) _)
    clear q0 q1 q2 q3 q4 q5 q6 ql
    clear z0 zl zf
    generalize w5.setCell _ _ = w9 at *
    have c9 := row1 R3.out
    have l9 := R3.out.lt
    exact bodyPost_ret (v := .int .i64 250) (by simp [results, Tryz.results20, go_sem, c9, l9]) rfl ⟨rfl, HB3.out⟩
   case true =>
    have hne : ¬ (r.l.E : Int) = r.e := by simpa using HO.out
    have hd : ((r.l.E : Int) == r.e) = false := by simpa using hne
    have hd2 : ((r.l.E : Int) != r.e) = true := by rw [bne, hd]; rfl
    go_wp2_with fail
    with_reducible refine (parts_a F A0 As n0 c0 ns cs A n c r _ H.out HF.out 0 (by rw [HA.out]; simp)).mono ?_
    rintro e w3 ⟨rfl, hb⟩
    replace R1 := Hi (R1.out.below hb)
    replace R2 := Hi (R2.out.below hb)
    replace H := Hi (H.out.below hb)
    replace HB := bt HB hb
    clear q0 q1 q2 q3 q4 q5 q6 ql
    clear z0 zl zf
    clear hb
    have q0 := cl R1.out 0
    have q1 := cl R1.out 1
    have q2 := cl R1.out 2
    have q3 := cl R1.out 3
    have q4 := cl R1.out 4
    have q5 := cl R1.out 5
    have q6 := cl R1.out 6
    have ql := R1.out.lt
    have z0 := row1 R2.out
    have zl := R2.out.lt
    have zf := R2.out.frozen 0
    go_wp2_with fail
    with_reducible refine (parts_p F A0 As n0 c0 ns cs A n c r _ H.out HF.out 0 (by rw [HP.out]; simp)).mono ?_
    rintro e w4 ⟨rfl, hb⟩
    replace R1 := Hi (R1.out.below hb)
    replace R2 := Hi (R2.out.below hb)
    replace H := Hi (H.out.below hb)
    replace HB := bt HB hb
    clear q0 q1 q2 q3 q4 q5 q6 ql
    clear z0 zl zf
    clear hb
    have q0 := cl R1.out 0
    have q1 := cl R1.out 1
    have q2 := cl R1.out 2
    have q3 := cl R1.out 3
    have q4 := cl R1.out 4
    have q5 := cl R1.out 5
    have q6 := cl R1.out 6
    have ql := R1.out.lt
    have z0 := row1 R2.out
    have zl := R2.out.lt
    have zf := R2.out.frozen 0
    go_wp2_with fail
    with_reducible refine (parts_l F A0 As n0 c0 ns cs A n c r _ H.out HF.out 0 (by rw [HL.out]; simp)).mono ?_
    rintro e w5 ⟨rfl, hb⟩
    replace R1 := Hi (R1.out.below hb)
    replace R2 := Hi (R2.out.below hb)
    replace H := Hi (H.out.below hb)
    replace HB := bt HB hb
    clear q0 q1 q2 q3 q4 q5 q6 ql
    clear z0 zl zf
    clear hb
    have q0 := cl R1.out 0
    have q1 := cl R1.out 1
    have q2 := cl R1.out 2
    have q3 := cl R1.out 3
    have q4 := cl R1.out 4
    have q5 := cl R1.out 5
    have q6 := cl R1.out 6
    have ql := R1.out.lt
    have z0 := row1 R2.out
    have zl := R2.out.lt
    have zf := R2.out.frozen 0
    go_wp2_with fail
    have R3 := Hi (show RowAt (w5.setCell ⟨W.heap.size + 1, 0, none⟩ (.int .i64 250)) (W.heap.size + 1) 44 #[.int .i64 250] from by have h := R2.out.set 0 (.int .i64 250); simpa using h)
    have HB3 := Hi (show Below W.heap.size W (w5.setCell ⟨W.heap.size + 1, 0, none⟩ (.int .i64 250)) from HB.out.setCell (p := ⟨W.heap.size + 1, 0, none⟩) (by show W.heap.size ≤ W.heap.size + 1; omega) _)
    clear q0 q1 q2 q3 q4 q5 q6 ql
    clear z0 zl zf
    generalize w5.setCell _ _ = w9 at *
    have c9 := row1 R3.out
    have l9 := R3.out.lt
    exact bodyPost_ret (v := .int .i64 250) (by simp [results, Tryz.results20, go_sem, c9, l9]) rfl ⟨rfl, HB3.out⟩
set_option maxRecDepth 100000 in
theorem check_fit (F : Nat → Prop) (A0 As : Option Addr) (n0 c0 ns cs : Nat) (A : Nat → Option Addr) (n c : Nat → Nat) (r : Rec) (W : World) (h : RecF F W A0 As n0 c0 ns cs A n c r) (hf : FitR r) (ho : flatR r = true) (k : Int) (hk : (if fitB r.sl r.l then 0 else 250) = k) :
  Calls Tryz.prog 20 #[.agg (recC r.e r.l.E A0 As n0 c0 ns cs A n c)] W fun e W' => e = .returned (.int .i64 k) ∧ Below W.heap.size W W' := by
 have al := al2 W #[.slice A0 n0 c0, .int .u64 r.e, .slice As ns cs, .int .u64 (r.l.E : Int), .slice (A 0) (n 0) (c 0), .slice (A 1) (n 1) (c 1), .slice (A 2) (n 2) (c 2)] 34 #[.int .i64 0] 44
 have hb1 := al.2.1
 have hb2 := al.2.2
 have R1 := Hi ((RowAt.new W 34 #[.slice A0 n0 c0, .int .u64 r.e, .slice As ns cs, .int .u64 (r.l.E : Int), .slice (A 0) (n 0) (c 0), .slice (A 1) (n 1) (c 1), .slice (A 2) (n 2) (c 2)]).below hb2)
 have R2 := Hi al.1.2
 clear al
 have HB := Hi (hb1.trans (hb2.mono hb1.size))
 have H := Hi (h.below HB.out)
 have HF := Hi hf
 clear hb1 hb2 h hf
 have HK := Hi hk
 have HO := Hi (show arOk r.sl = true ∧ Pn.pOk r.e r.S = true ∧ r.l.ok = true ∧ (r.l.E : Int) = r.e from by unfold flatR at ho; simpa using ho)
 have HA := Hi HO.out.1
 have HP := Hi HO.out.2.1
 have HL := Hi HO.out.2.2.1
 have hEe : (r.l.E : Int) = r.e := HO.out.2.2.2
 have hd : ((r.l.E : Int) == r.e) = true := by simpa using hEe
 have hd2 : ((r.l.E : Int) != r.e) = false := by rw [bne, hd]; rfl
 clear hEe hk ho
 refine calls_of_wp_marks Tryz.func20 rfl ?_
 simp only [Tryz.ntmps20, List.size_toArray, List.length_cons, List.length_nil, Nat.reduceAdd, Nat.reduceSub, Array.replicate_succ, Array.replicate_zero, List.push_toArray, List.append_toArray, List.nil_append, List.cons_append]
 go_upto_region 1 with (fail)
 generalize (W.alloc _).alloc _ = w2 at *
 have q0 := cl R1.out 0
 have q1 := cl R1.out 1
 have q2 := cl R1.out 2
 have q3 := cl R1.out 3
 have q4 := cl R1.out 4
 have q5 := cl R1.out 5
 have q6 := cl R1.out 6
 have ql := R1.out.lt
 have z0 := row1 R2.out
 have zl := R2.out.lt
 have zf := R2.out.frozen 0
 go_wp2_with fail
 with_reducible refine (parts_a F A0 As n0 c0 ns cs A n c r _ H.out HF.out 0 (by rw [HA.out]; simp)).mono ?_
 rintro e w3 ⟨rfl, hb⟩
 replace R1 := Hi (R1.out.below hb)
 replace R2 := Hi (R2.out.below hb)
 replace H := Hi (H.out.below hb)
 replace HB := bt HB hb
 clear q0 q1 q2 q3 q4 q5 q6 ql
 clear z0 zl zf
 clear hb
 have q0 := cl R1.out 0
 have q1 := cl R1.out 1
 have q2 := cl R1.out 2
 have q3 := cl R1.out 3
 have q4 := cl R1.out 4
 have q5 := cl R1.out 5
 have q6 := cl R1.out 6
 have ql := R1.out.lt
 have z0 := row1 R2.out
 have zl := R2.out.lt
 have zf := R2.out.frozen 0
 go_wp2_with fail
 with_reducible refine (parts_p F A0 As n0 c0 ns cs A n c r _ H.out HF.out 0 (by rw [HP.out]; simp)).mono ?_
 rintro e w4 ⟨rfl, hb⟩
 replace R1 := Hi (R1.out.below hb)
 replace R2 := Hi (R2.out.below hb)
 replace H := Hi (H.out.below hb)
 replace HB := bt HB hb
 clear q0 q1 q2 q3 q4 q5 q6 ql
 clear z0 zl zf
 clear hb
 have q0 := cl R1.out 0
 have q1 := cl R1.out 1
 have q2 := cl R1.out 2
 have q3 := cl R1.out 3
 have q4 := cl R1.out 4
 have q5 := cl R1.out 5
 have q6 := cl R1.out 6
 have ql := R1.out.lt
 have z0 := row1 R2.out
 have zl := R2.out.lt
 have zf := R2.out.frozen 0
 go_wp2_with fail
 with_reducible refine (parts_l F A0 As n0 c0 ns cs A n c r _ H.out HF.out 0 (by rw [HL.out]; simp)).mono ?_
 rintro e w5 ⟨rfl, hb⟩
 replace R1 := Hi (R1.out.below hb)
 replace R2 := Hi (R2.out.below hb)
 replace H := Hi (H.out.below hb)
 replace HB := bt HB hb
 clear q0 q1 q2 q3 q4 q5 q6 ql
 clear z0 zl zf
 clear hb
 have q0 := cl R1.out 0
 have q1 := cl R1.out 1
 have q2 := cl R1.out 2
 have q3 := cl R1.out 3
 have q4 := cl R1.out 4
 have q5 := cl R1.out 5
 have q6 := cl R1.out 6
 have ql := R1.out.lt
 have z0 := row1 R2.out
 have zl := R2.out.lt
 have zf := R2.out.frozen 0
 obtain ⟨ret, hret⟩ : ∃ ret, ents r.sl 2 = ret := ⟨_, rfl⟩
 have HRT := Hi hret
 obtain ⟨m, hm⟩ : ∃ m, ret.length = m := ⟨_, rfl⟩
 have HM := Hi hm
 have HMB := Hi (show m ≤ 4096 from by have h1 := ents_length r.sl 2; have h2 := HF.out.sl; rw [← hm, ← hret]; omega)
 clear hret hm
 go_wp2_with fail
 with_reducible refine (entries_any A0 c0 n0 2 r.sl w5 H.out.sl.rd H.out.l0 (by rw [← H.out.l0]; have := HF.out.sl; omega) ret (by rw [HA.out, if_pos rfl]; exact HRT.out) m HM.out).mono ?_
 rintro e w6 ⟨AR, cR, rfl, hcR, hcM, hrd, hb⟩
 have HRD := Hi hrd
 replace R1 := Hi (R1.out.below hb)
 replace R2 := Hi (R2.out.below hb)
 replace H := Hi (H.out.below hb)
 replace HB := bt HB hb
 clear q0 q1 q2 q3 q4 q5 q6 ql
 clear z0 zl zf
 clear hb
 have q0 := cl R1.out 0
 have q1 := cl R1.out 1
 have q2 := cl R1.out 2
 have q3 := cl R1.out 3
 have q4 := cl R1.out 4
 have q5 := cl R1.out 5
 have q6 := cl R1.out 6
 have ql := R1.out.lt
 have z0 := row1 R2.out
 have zl := R2.out.lt
 have zf := R2.out.frozen 0
 clear hrd
 go_upto_region 7 with (fail)
 have al := al3 w6 #[.slice AR m cR] 29 #[.func (.func 56) #[] #[.pointer (some ⟨w6.heap.size, 0, none⟩)]] 104 #[.int .i64 0] 3
 have b7 := al.2.1
 have b8 := al.2.2.1
 have b9 := al.2.2.2
 have s7 := b7.size
 have s8 := b8.size
 have hb := b7.trans ((b8.mono s7).trans (b9.mono (Nat.le_trans s7 s8)))
 have RR := Hi al.1.1
 have RF := Hi al.1.2.1
 have RN := Hi al.1.2.2
 clear al
 have S9 := Hi (show (((w6.alloc (.cells #[.slice AR m cR] 29)).alloc (.cells #[.func (.func 56) #[] #[.pointer (some ⟨w6.heap.size, 0, none⟩)]] 104)).alloc (.cells #[.int .i64 0] 3)).heap.size = w6.heap.size + 1 + 1 + 1 from by simp)
 have HRD9 := Hi (HRD.out.below hb)
 clear b7 b8 b9 s7 s8
 generalize ((w6.alloc _).alloc _).alloc _ = w9 at *
 have HW6 := Hi HB.out.size
 have HL6 := Hi R2.out.lt
 replace R1 := Hi (R1.out.below hb)
 replace R2 := Hi (R2.out.below hb)
 replace H := Hi (H.out.below hb)
 replace HB := bt HB hb
 clear q0 q1 q2 q3 q4 q5 q6 ql
 clear z0 zl zf
 clear hb
 have q0 := cl R1.out 0
 have q1 := cl R1.out 1
 have q2 := cl R1.out 2
 have q3 := cl R1.out 3
 have q4 := cl R1.out 4
 have q5 := cl R1.out 5
 have q6 := cl R1.out 6
 have ql := R1.out.lt
 have z0 := row1 R2.out
 have zl := R2.out.lt
 have zf := R2.out.frozen 0
 generalize w6.heap.size = B1 at *
 go_wp2_with fail
 with_reducible refine (waiting_any #[.slice A0 n0 c0, .int .u64 r.e, .slice As ns cs, .int .u64 (r.l.E : Int), .slice (A 0) (n 0) (c 0), .slice (A 1) (n 1) (c 1), .slice (A 2) (n 2) (c 2)] _ _ _ _ _ _ _ rfl w9).mono ?_
 rintro e w10 ⟨rfl, hrow, hb⟩
 have hlb := hrow.lt
 replace RR := Hi (RR.out.below hb)
 replace RF := Hi (RF.out.below hb)
 replace RN := Hi (RN.out.below hb)
 have HRDX := Hi (HRD9.out.below (hb.mono (by rw [S9.out]; omega)))
 replace HW6 := Hi HW6.out
 replace R2 := Hi (R2.out.below hb)
 replace H := Hi (H.out.below hb)
 replace HB := bt HB hb
 have hseq := waiting_seq w9.heap.size (w10.heap.size + 2) (fun j => w10.heap.size + 2 ≤ j) r.e A0 As n0 c0 ns cs A n c r.l w10 hrow H.out.lim HF.out.E (fun k hk => by rw [← H.out.ll k hk]; exact HF.out.rw k hk) HF.out.g HL.out (fun j hj => hj)
 have s9 := S9.out
 have hs10 : B1 + 1 + 1 + 1 < w10.heap.size := by omega
 have hlB : W.heap.size + 1 < B1 := HL6.out
 have HCW := Hi (show CkW (W.heap.size + 1) B1 (B1 + 1) (B1 + 1 + 1) B1 AR m cR ret [] w10 from ⟨R2.out, RR.out, RF.out, RN.out, HRDX.out, fun x hx => by cases hx⟩)
 have HLEN := Hi (show (r.l.held.length : Int) ≤ 12288 from by have h1 := Li.each_len r.l n H.out.ll (fun k hk => by rw [← H.out.ll k hk]; exact HF.out.rw k hk); rw [← Li.each_held, List.length_map]; omega)
 rw [s9] at hseq ⊢
 clear hrow hb hlb s9 RR RF RN HRDX HRD9 HRD R1 R2 S9
 clear q0 q1 q2 q3 q4 q5 q6 ql
 clear z0 zl zf
 go_wp2_with fail
 refine wp_range6 (gf := 94) (lb := #[.pointer (some ⟨B1 + 1 + 1 + 1, 0, none⟩)]) rfl (enters_of Tryz.func94 (by kernel_rfl) rfl) hseq (W.heap.size + 1) (by omega) (fun j hj => by have hj : w10.heap.size + 2 ≤ j := hj; omega) (Below.refl _ _) (fun _ => rfl)
  (fun pre W2 => CkW (W.heap.size + 1) B1 (B1 + 1) (B1 + 1 + 1) B1 AR m cR ret pre W2 ∧ B1 ≤ W2.heap.size) (fun c pre W2 => CkZ (W.heap.size + 1) ret c pre W2) (fun s A B h hl => ⟨CkW.stays s A B h.1 hl, Nat.le_trans h.2 hl.size⟩) (fun c => CkZ.stays c) (fun _ _ _ h hb => ⟨h.1.later hb h.2, Nat.le_trans h.2 hb.size⟩) (fun _ _ _ _ h hb => ⟨h.code, h.err.below hb, h.no⟩) ⟨HCW.out, by omega⟩
  (fun T x a' W2 => Li.EntBox B1 (0, x) (fun gb => { tmps := ((#[41].zip (encEv x)).foldl (fun t (p, v) => t.setIfInBounds p v) T).setIfInBounds 7 (.pointer (some ⟨gb, 0, none⟩)), defers := [] }) a' W2) (fun T a' x => fun _ _ h hl => by obtain ⟨gb, h1, h2, h3⟩ := h; exact ⟨gb, h1, h2.lie hl, h3⟩) ?assign ?body ?done ?stop ?panic
 case assign =>
  intro lo pre x W2 R hI hb hs hlen hV hn2 hR
  dsimp only [encEv] at hR ⊢
  have HBX := Hi (show Below W2.heap.size W2 (W2.alloc (.cells #[.int .i64 x.1, .int .u64 x.2] 41)) from (Below.refl _ _).alloc (Nat.le_refl _) _)
  have HRX := Hi (RowAt.new W2 41 #[.int .i64 x.1, .int .u64 x.2])
  gi_wp2
  refine hR _ _ (KeepsOthers.alloc _ _) (HBX.out.mono (by omega)) (fun j _ hj => HBX.out.block j hj) ⟨hI.1.later HBX.out hI.2, Nat.le_trans hI.2 HBX.out.size⟩ ⟨W2.heap.size, by simp [encEv], HRX.out, hI.2⟩
 case body =>
  rintro lo pre x a' W2 ⟨hI, hI2⟩ ⟨gb, hpa, hbox, hgb⟩ hb hs hlen hV hn2
  subst hpa
  obtain ⟨s, g⟩ := x
  dsimp only [encEv] at hbox ⊢
  have e0 := row20 hbox
  have e1 := row21 hbox
  have el := hbox.lt
  have x0 := row1 hI.err
  have xf := hI.err.frozen 0
  have xl := hI.err.lt
  have u0 := row1 hI.num
  have uf := hI.num.frozen 0
  have ul := hI.num.lt
  have HI := Hi hI
  have HBX := Hi hbox
  have hpl : (pre.length : Int) < 12288 := by have := HLEN.out; omega
  obtain ⟨pl, hple⟩ : ∃ pl, pre.length = pl := ⟨_, rfl⟩
  rw [hple] at u0 hpl
  have HPL := Hi hple
  have HIN := Hi (show RowAt (W2.setCell ⟨B1 + 1 + 1, 0, none⟩ (.int .i64 ((pl : Int) + 1))) (B1 + 1 + 1) 3 #[.int .i64 ((pl : Int) + 1)] from by have h := hI.num.set 0 (.int .i64 ((pl : Int) + 1)); simpa using h)
  clear hbox hI hV hple
  obtain ⟨q, hq⟩ : ∃ q, ret.any (fun y => decide (y = (s, g))) = q := ⟨_, rfl⟩
  have HQ := Hi hq
  have W3E : ∃ w3, W2.setCell ⟨B1 + 1 + 1, 0, none⟩ (.int .i64 ((pl : Int) + 1)) = w3 := ⟨_, rfl⟩
  obtain ⟨w3, hw3⟩ := W3E
  have hB3 : Below (B1 + 1 + 1) W2 w3 := by rw [← hw3]; exact (Below.refl (B1 + 1 + 1) W2).setCell (p := ⟨B1 + 1 + 1, 0, none⟩) (Nat.le_refl _) _
  have hz3 : w3.heap.size = W2.heap.size := by rw [← hw3]; simp
  have HX3 := Hi (show RowAt w3 (W.heap.size + 1) 44 #[.int .i64 0] from by rw [← hw3]; exact HI.out.err.setNe (by omega))
  have HR3 := Hi (show RowAt w3 B1 29 #[.slice AR m cR] from by rw [← hw3]; exact HI.out.box.setNe (by omega))
  have HF3 := Hi (show RowAt w3 (B1 + 1) 104 #[.func (.func 56) #[] #[.pointer (some ⟨B1, 0, none⟩)]] from by rw [← hw3]; exact HI.out.fn.setNe (by omega))
  have HRD3 := Hi (show Rd w3 B1 2 AR m (Cs encE ret) from HI.out.rd.below (hB3.mono (by omega)))
  rw [hw3] at HIN
  have HHK := Hi (show ∀ j, B1 + 1 + 1 < j → w3.heap[j]? = W2.heap[j]? from fun j hj => by rw [← hw3]; exact heap_setCell_ne _ _ _ _ (by show j ≠ B1 + 1 + 1; omega))
  have HG3 := Hi (show gb = B1 + 1 + 1 → False from fun e => by subst e; have h := HBX.out; have h2 := HI.out.num; exact absurd (show 41 = 3 from by unfold RowAt at h h2; rw [h] at h2; injection h2 with h2; injection h2 with h2 h3 h4) (by decide))
  have HBX3 := Hi (show RowAt w3 gb 41 #[.int .i64 s, .int .u64 g] from by rw [← hw3]; exact HBX.out.setNe (fun e => HG3.out e))
  have HC := Hi (is1_any B1 B1 AR cR m s g ret w3 HR3.out HRD3.out (by rw [hz3]; exact hI2) HM.out HMB.out q hq)
  have HB3 := Hi hB3
  have HZ3 := Hi hz3
  have HKO := Hi (show KeepsOthers W2 w3 from by rw [← hw3]; exact KeepsOthers.setCell _ _ _)
  clear hq hB3 hz3
  have v0 := row1 HF3.out
  have vl := HF3.out.lt
  have e0 := row20 HBX3.out
  have e1 := row21 HBX3.out
  have el := HBX3.out.lt
  gi_wp2_with fail
  refine ⟨trivial, (Li.in_round _ _ HC.out).mono ?_⟩
  rintro e w4 ⟨rfl, hb4⟩
  have HB4 := Hi hb4
  clear hw3 x0 xf xl u0 uf ul v0 vl e0 e1 el
  have x0 := row1 (HX3.out.below hb4)
  have xf := (HX3.out.below hb4).frozen 0
  have xl := (HX3.out.below hb4).lt
  clear hb4
  have HKP := Hi (HKO.out.trans (KeepsOthers.of_below HB4.out))
  have HBP := Hi (show Below (W.heap.size + 1) W2 w4 from (HB3.out.mono (by omega)).trans (HB4.out.mono (by have := HZ3.out; omega)))
  cases q
  case false =>
   gi_wp2_with fail
   refine ⟨HKP.out.trans (KeepsOthers.setCell _ _ _), HBP.out.setCell (p := ⟨W.heap.size + 1, 0, none⟩) (Nat.le_refl _) _, rfl, ?_, (s, g), by simp, fun hm => ?_⟩
   ·
    have h := (HX3.out.below HB4.out).set 0 (.int .i64 250)
    simpa using h
   ·
    have h := any_not.2 hm
    rw [HQ.out] at h; cases h
  case true =>
   gi_wp2_with fail
   refine ⟨HKP.out, HBP.out, fun j hj hl => ?_, ⟨HX3.out.below HB4.out, HR3.out.below HB4.out, HF3.out.below HB4.out, ?_, HRD3.out.below (HB4.out.mono (by have := HZ3.out; omega)), fun x hx => ?_⟩, Nat.le_trans (by have := HZ3.out; omega) HB4.out.size⟩
   ·
    have hj : w10.heap.size + 2 ≤ j := hj
    exact (HB4.out.block j (by have := HZ3.out; omega)).trans (HHK.out j (by omega))
   ·
    have h := HIN.out.below HB4.out
    rw [show ((pre ++ [(s, g)]).length : Int) = (pl : Int) + 1 from by rw [List.length_append, HPL.out]; simp]
    exact h
   ·
    rcases List.mem_append.1 hx with hx | hx
    · exact HI.out.all x hx
    ·
     rw [List.mem_singleton] at hx
     subst hx
     exact any_not.1 HQ.out
 case done =>
  rintro ys W2 rfl ⟨hI, hI2⟩ hb hs hD
  obtain ⟨hl, hhl⟩ : ∃ hl, r.l.held.length = hl := ⟨_, rfl⟩
  have x0 := row1 hI.err
  have xf := hI.err.frozen 0
  have xl := hI.err.lt
  have u0 := row1 hI.num
  have ul := hI.num.lt
  have t0 := row1 hI.box
  have tl := hI.box.lt
  rw [hhl] at u0
  have HD := Hi hD
  have HBF := Hi (HB.out.trans (hb.mono (by omega)))
  have HALL := Hi hI.all
  have HHL := Hi hhl
  have HZ := Hi hI.err
  clear hb hD hI hhl hI2
  by_cases hlm : hl = m
  ·
   subst hlm
   have hdn : ((hl : Int) != (hl : Int)) = false := by simp
   have hRZ := Hi (HZ.out.set 0 (.int .i64 0))
   have HRR := Hi (show k = 0 from by rw [← HK.out, if_pos (fit_iff.2 ⟨fun x hx => by rw [HRT.out]; exact HALL.out x hx, by rw [HRT.out, HM.out]; exact HHL.out⟩)])
   unfold marked
   go_wp2_with fail
   have hD9 : (W2.setCell ⟨W.heap.size + 1, 0, none⟩ (.int .i64 0)).heap[w10.heap.size]? = some (.deferred (some [])) := (heap_setCell_ne _ _ _ _ (by show w10.heap.size ≠ W.heap.size + 1; omega)).trans HD.out
   have hr9 : RowAt ((W2.setCell ⟨W.heap.size + 1, 0, none⟩ (.int .i64 0)).putObj w10.heap.size (.deferred none)) (W.heap.size + 1) 44 #[.int .i64 0] := RowAt.lie hRZ.out (CellsLie.putObj _ hD9 rfl)
   have c9 := row1 hr9
   have l9 := hr9.lt
   refine ⟨by simp, .inl ⟨_, _, rfl, run_takeDeferred hD9, ?_⟩⟩
   have hfin : Below W.heap.size W ((W2.setCell ⟨W.heap.size + 1, 0, none⟩ (.int .i64 0)).putObj w10.heap.size (.deferred none)) := (HBF.out.trans ((Below.refl _ _).setCell (p := ⟨W.heap.size + 1, 0, none⟩) (by simp) _)).trans (below_putObj (o := .deferred (some [])) _ (by omega))
   rw [HRR.out]
   generalize ((W2.setCell ⟨W.heap.size + 1, 0, none⟩ (.int .i64 0)).putObj w10.heap.size (.deferred none)) = w9x at *
   exact ⟨_, by simp [results, Tryz.results20, go_sem, c9, l9], rfl, hfin⟩
  ·
   have hdn : ((hl : Int) == (m : Int)) = false := by rw [beq_eq_false_iff_ne]; omega
   have hdn2 : ((hl : Int) != (m : Int)) = true := by rw [bne, hdn]; rfl
   have hRZ := Hi (HZ.out.set 0 (.int .i64 250))
   have HLM := Hi hlm
   have HRR := Hi (show k = 250 from by rw [← HK.out, if_neg (fun h => HLM.out (by have h2 := (fit_iff.1 h).2; rw [HRT.out, HM.out, HHL.out] at h2; exact h2))])
   clear hlm
   unfold marked
   go_wp2_with fail
   have hD9 : (W2.setCell ⟨W.heap.size + 1, 0, none⟩ (.int .i64 250)).heap[w10.heap.size]? = some (.deferred (some [])) := (heap_setCell_ne _ _ _ _ (by show w10.heap.size ≠ W.heap.size + 1; omega)).trans HD.out
   have hr9 : RowAt ((W2.setCell ⟨W.heap.size + 1, 0, none⟩ (.int .i64 250)).putObj w10.heap.size (.deferred none)) (W.heap.size + 1) 44 #[.int .i64 250] := RowAt.lie hRZ.out (CellsLie.putObj _ hD9 rfl)
   have c9 := row1 hr9
   have l9 := hr9.lt
   refine ⟨by simp, .inl ⟨_, _, rfl, run_takeDeferred hD9, ?_⟩⟩
   have hfin : Below W.heap.size W ((W2.setCell ⟨W.heap.size + 1, 0, none⟩ (.int .i64 250)).putObj w10.heap.size (.deferred none)) := (HBF.out.trans ((Below.refl _ _).setCell (p := ⟨W.heap.size + 1, 0, none⟩) (by simp) _)).trans (below_putObj (o := .deferred (some [])) _ (by omega))
   rw [HRR.out]
   generalize ((W2.setCell ⟨W.heap.size + 1, 0, none⟩ (.int .i64 250)).putObj w10.heap.size (.deferred none)) = w9x at *
   exact ⟨_, by simp [results, Tryz.results20, go_sem, c9, l9], rfl, hfin⟩
 case stop =>
  rintro c2 pre W2 ⟨rr, hr2⟩ ⟨rfl, herr, hno⟩ hb hs hD
  have HRR := Hi (show k = 250 from by
   rw [← HK.out, if_neg (fun h => ?_)]
   obtain ⟨x, hx, hxr⟩ := hno
   exact hxr (by rw [← HRT.out]; exact (fit_iff.1 h).1 x (by rw [← hr2]; exact List.mem_append_left _ hx)))
  have HE9 := Hi herr
  have HD := Hi hD
  have HBF := Hi (HB.out.trans (hb.mono (by omega)))
  clear hb hD herr hno hr2
  unfold marked
  go_wp2_with fail
  have hr9 : RowAt (W2.putObj w10.heap.size (.deferred none)) (W.heap.size + 1) 44 #[.int .i64 250] := RowAt.lie HE9.out (CellsLie.putObj _ HD.out rfl)
  have c9 := row1 hr9
  have l9 := hr9.lt
  have hfin : Below W.heap.size W (W2.putObj w10.heap.size (.deferred none)) := HBF.out.trans (below_putObj (o := .deferred (some [])) _ (by omega))
  refine ⟨by simp, .inl ⟨_, _, rfl, run_takeDeferred HD.out, ?_⟩⟩
  rw [HRR.out]
  generalize W2.putObj w10.heap.size (.deferred none) = w9x at *
  exact ⟨_, by simp [results, Tryz.results20, go_sem, c9, l9], rfl, hfin⟩
 case panic =>
  rintro pre W2 h
  exact h.elim
theorem Check_any (F : Nat → Prop) (A0 As : Option Addr) (n0 c0 ns cs : Nat) (A : Nat → Option Addr) (n c : Nat → Nat) (r : Rec) (W : World) (h : RecF F W A0 As n0 c0 ns cs A n c r) (hf : FitR r) (k : Int) (hk : (if r.ok then 0 else 250) = k) :
  Calls Tryz.prog 20 #[.agg (recC r.e r.l.E A0 As n0 c0 ns cs A n c)] W fun e W' => e = .returned (.int .i64 k) ∧ Below W.heap.size W W' := by
 rw [ok_flat] at hk
 rcases Bool.eq_false_or_eq_true (flatR r) with h1 | h1
 ·
  rw [h1, Bool.true_and] at hk
  exact check_fit F A0 As n0 c0 ns cs A n c r W h hf h1 k hk
 ·
  rw [h1] at hk
  simp at hk
  subst hk
  exact check_flat F A0 As n0 c0 ns cs A n c r W h hf h1
end Go.Proofs.YtkicidopjihjmaaGreat
set_option maxRecDepth 20000
namespace Go.Proofs.YtkicidopjihjmaaGreat.Li
open Go Go.RowKit
attribute [local go_sem] via_cell via_frozen
theorem _root_.Go.Proofs.YtkicidopjihjmaaGreat.Rd.first {w : World} {B n k : Nat} {A : Option Addr} {X : List Ent} (h : Rd w B 2 A n (Cs encE X)) (hx : X.length = n) (hk : k ≤ n) : Rd w B 2 A k (Cs encE (X.take k)) := by
 refine ⟨by rw [Cs_length encE_len, List.length_take, hx, Nat.min_eq_left hk], fun hp => ?_⟩
 obtain ⟨b, off, e, hb, hc⟩ := h.2 (by omega)
 refine ⟨b, off, e, hb, fun j u hu => hc j u ?_⟩
 have h1 : Cs encE X = Cs encE (X.take k) ++ Cs encE (X.drop k) := by rw [← Cs_append, List.take_append_drop]
 rw [h1, List.getElem?_append_left (List.getElem?_eq_some_iff.1 hu).1]
 exact hu
def Lim.cut (l : Lim) : Lim := ⟨l.E, fun k => (l.r k).take 12⟩
def cutN (l : Lim) (k : Nat) : Nat := ((l.r k).take 12).length
theorem limC_updn (E : Nat) (A : Nat → Option Addr) (n c : Nat → Nat) {k : Nat} (hk : k < 3) (A1 : Option Addr) (n1 c1 : Nat) :
  (limC E A n c).setIfInBounds (1 + k) (.slice A1 n1 c1) = limC E (fun j => if j = k then A1 else A j) (fun j => if j = k then n1 else n j) (fun j => if j = k then c1 else c j) := by
 match k, hk with
 | 0, _ => rfl
 | 1, _ => rfl
 | 2, _ => rfl
structure OwAt (w0 wr : World) (gx i : Nat) (l : Lim) (A : Nat → Option Addr) (n c : Nat → Nat) : Prop where
 row : RowAt wr gx 32 (limC l.E A n c)
 out : RowAt wr (gx + 1) 32 zeroC
 own : ∀ k, k < i → k < 3 → OwnO wr (gx + 1 + 1) 41 2 (.slice (A k) (n k) (c k)) (n k) (Cs encE ((l.r k).take 12)) ∧ cutN l k = n k
 apart : ∀ j k, j < i → k < i → j < 3 → k < 3 → j ≠ k → ∀ p q, A j = some p → A k = some q → p.block ≠ q.block
 below : Below gx w0 wr
def OwEx (w0 wr : World) (gx i : Nat) (l : Lim) : Prop := ∃ A n c, OwAt w0 wr gx i l A n c
theorem OwAt.next {w0 wr w8 : World} {gx i : Nat} {l : Lim} {A : Nat → Option Addr} {n c : Nat → Nat} (h : OwAt w0 wr gx i l A n c) (hi : i < 3) (hb : Below wr.heap.size wr w8) (A1 : Option Addr) (n1 c1 : Nat)
  (hown : w8.ownsRow wr.heap.size 41 2 (.slice A1 n1 c1) n1 (Cs encE ((l.r i).take 12))) (hn : cutN l i = n1) :
  OwEx w0 (w8.setCell ⟨gx, 1 + i, none⟩ (.slice A1 n1 c1)) gx (i + 1) l := by
 have hgx := h.out.lt
 have hO := OwnO.of_own hown
 have hblk : ∀ j, j ≠ gx → j < wr.heap.size → (w8.setCell ⟨gx, 1 + i, none⟩ (.slice A1 n1 c1)).heap[j]? = wr.heap[j]? := fun j h1 h2 => (heap_setCell_ne _ _ _ _ h1).trans (hb.block j h2)
 refine ⟨fun j => if j = i then A1 else A j, fun j => if j = i then n1 else n j, fun j => if j = i then c1 else c j, ?_, ?_, fun k h1 h3 => ?_, fun j k h1 h2 h3 h4 hne p q hp hq => ?_, ?_⟩
 ·
  rw [← limC_updn _ _ _ _ hi]
  exact (h.row.below hb).set _ _
 · exact (hblk (gx + 1) (by omega) h.out.lt).trans h.out
 ·
  by_cases hki : k = i
  ·
   subst hki
   simp only [if_pos rfl]
   exact ⟨(hO.lower (by omega)).other fun g h1 _ _ => heap_setCell_ne _ _ _ _ (by show g ≠ gx; omega), hn⟩
  ·
   simp only [if_neg hki]
   exact ⟨(h.own k (by omega) h3).1.other fun g h1 h2 _ => hblk g (by omega) h2, (h.own k (by omega) h3).2⟩
 ·
  by_cases hji : j = i
  ·
   have hki : k ≠ i := by omega
   simp only [if_pos hji] at hp
   simp only [if_neg hki] at hq
   have h5 := (hO.fresh hp).1
   have h6 := ((h.own k (by omega) h4).1.fresh hq).2
   omega
  ·
   by_cases hki : k = i
   ·
    simp only [if_neg hji] at hp
    simp only [if_pos hki] at hq
    have h5 := (hO.fresh hq).1
    have h6 := ((h.own j (by omega) h3).1.fresh hp).2
    omega
   ·
    simp only [if_neg hji] at hp
    simp only [if_neg hki] at hq
    exact h.apart j k (by omega) (by omega) h3 h4 hne p q hp hq
 · exact h.below.trans ((hb.mono (show gx ≤ wr.heap.size by omega)).setCell (p := ⟨gx, 1 + i, none⟩) (Nat.le_refl _) _)
end Go.Proofs.YtkicidopjihjmaaGreat.Li
set_option maxRecDepth 20000
namespace Go.Proofs.YtkicidopjihjmaaGreat.Li
open Go Go.RowKit
attribute [local go_sem] via_cell via_frozen
def GenOk (l : Lim) : Prop := ∀ k, k < 3 → ∀ e ∈ l.r k, 0 ≤ e.2 ∧ e.2 < 18446744073709551616
theorem gen_upd {l : Lim} (h : GenOk l) (E k : Nat) (xs : List Ent) (hx : ∀ e ∈ xs, 0 ≤ e.2 ∧ e.2 < 18446744073709551616) : GenOk ⟨E, upd l.r k xs⟩ := by
 intro j hj e he
 simp only [upd] at he
 split at he
 · exact hx e he
 · exact h j hj e he
theorem gen_take {l l' : Lim} {x : Ent} (h : GenOk l) (hr : doTake l = .ok (l', x)) : GenOk l' ∧ 0 ≤ x.2 ∧ x.2 < 18446744073709551616 := by
 unfold doTake at hr
 split at hr
 · cases hr
 ·
  rename_i y rest hy
  injection hr with hr
  injection hr with h1 h2
  subst h1; subst h2
  have hm := h _ (rowN_lt l.E 2)
  have hy' : l.r (rowN l.E 2) = y :: rest := hy
  rw [hy'] at hm
  exact ⟨gen_upd h _ _ _ (fun e he => hm e (by simp [he])), hm y (by simp)⟩
structure OnAt (w : World) (B : Nat) : Prop where
 slab : w.cell? ⟨0, 0, none⟩ = some (.int .i64 (-1))
 gen : w.cell? ⟨0, 1, none⟩ = some (.int .u64 0)
 lt : 0 < B
theorem OnAt.below {w w' : World} {B : Nat} (h : OnAt w B) (hb : Below B w w') : OnAt w' B := ⟨(hb.cell (p := ⟨0, 0, none⟩) h.lt).trans h.slab, (hb.cell (p := ⟨0, 1, none⟩) h.lt).trans h.gen, h.lt⟩
theorem zero_rd (w : World) (B : Nat) : LimRd w B (fun _ => none) (fun _ => 0) lim0.r := ⟨fun k _ => Rd.none_, fun k _ => rfl⟩
def L1 : Lim := ⟨0, upd (fun _ => []) 0 [(1, 0)]⟩
def L2 : Lim := ⟨1, L1.r⟩
def L3 : Lim := ⟨1, upd L1.r 1 [(2, 0)]⟩
def L4 : Lim := ⟨2, L3.r⟩
theorem wk1 : retR lim0 (1, 0) = .ok L1 := rfl
theorem wk2 : advR L1 = .ok L2 := rfl
theorem wk3 : retR L2 (2, 0) = .ok L3 := rfl
theorem wk4 : advR L3 = .ok L4 := rfl
theorem wk5 : advR L4 = .error 241 := rfl
structure WkAt (W w : World) : Prop where
 a : RowAt w W.heap.size 41 (entC (1, 0))
 b : RowAt w (W.heap.size + 1) 41 (entC (2, 0))
 c : RowAt w (W.heap.size + 1 + 1) 41 (entC (3, 0))
 below : Below W.heap.size W w
theorem WkAt.later {W w w' : World} (h : WkAt W w) (hb : Below w.heap.size w w') : WkAt W w' := ⟨h.a.below hb, h.b.below hb, h.c.below hb, h.below.trans (hb.mono h.below.size)⟩
theorem WkAt.laid {W w w' : World} {g : Nat} {C : Array Value} (h : WkAt W w) (hl : LaidL g w C w') (hg : W.heap.size + 1 + 1 + 1 ≤ g) : WkAt W w' :=
 ⟨(hl.block _ (by omega)).trans h.a, (hl.block _ (by omega)).trans h.b, (hl.block _ (by omega)).trans h.c, h.below.trans (hl.below.mono (by omega))⟩
end Go.Proofs.YtkicidopjihjmaaGreat.Li
set_option maxRecDepth 20000
namespace Go.Proofs.YtkicidopjihjmaaGreat.Li
open Go Go.RowKit
attribute [local go_sem] via_cell via_frozen
def ofL (l : Lim) (ago : Nat) : List Ent := if l.E < ago then [] else l.at ago
def ofA (E : Nat) (A : Nat → Option Addr) (ago : Nat) : Option Addr := if E < ago then none else A (rowN E ago)
def ofN (E : Nat) (n : Nat → Nat) (ago : Nat) : Nat := if E < ago then 0 else n (rowN E ago)
theorem rowN_ref {E ago : Nat} (h : ago ≤ E) : (E - ago) % 3 = rowN E ago := by unfold rowN; omega
theorem of_rd {w : World} {B : Nat} {A : Nat → Option Addr} {n : Nat → Nat} {l : Lim} (h : LimRd w B A n l.r) (ago : Nat) : Rd w B 2 (ofA l.E A ago) (ofN l.E n ago) (Cs encE (ofL l ago)) ∧ (ofL l ago).length = ofN l.E n ago := by
 unfold ofA ofN ofL
 by_cases hE : l.E < ago
 · rw [if_pos hE, if_pos hE, if_pos hE]; exact ⟨Rd.none_, rfl⟩
 · rw [if_neg hE, if_neg hE, if_neg hE]; exact ⟨h.rd _ (rowN_lt l.E ago), h.len _ (rowN_lt l.E ago)⟩
theorem of_any (A : Nat → Option Addr) (n c : Nat → Nat) (E ago : Nat) (ha : ago < 3) (hE : E < 18446744073709551616) (W : World) :
  Calls Tryz.prog 74 #[.agg (limC E A n c), .int .u64 (ago : Int)] W fun e W' => e = .returned (.slice (ofA E A ago) (ofN E n ago) (ofN E c ago)) ∧ Below W.heap.size W W' := by
 have HB := Hi (show Below W.heap.size W (W.alloc (.cells (limC E A n c) 32)) from (Below.refl _ _).alloc (Nat.le_refl _) _)
 have HR := Hi (RowAt.new W 32 (limC E A n c))
 have haI : (ago : Int) < 3 := by omega
 have ha0 : (0 : Int) ≤ (ago : Int) := by omega
 by_cases h : E < ago
 ·
  have hd : decide ((E : Int) < (ago : Int)) = true := by simp; omega
  have hdN : decide (E < ago) = true := by simpa using h
  have HF := Hi (show ofA E A ago = none ∧ ofN E n ago = 0 ∧ ofN E c ago = 0 from by unfold ofA ofN; simp [h])
  rw [HF.out.1, HF.out.2.1, HF.out.2.2]
  clear h HF
  go_enter Tryz.func74, Tryz.ntmps74
  go_wp2
  go_ret
  exact ⟨rfl, HB.out⟩
 ·
  have hd : decide ((E : Int) < (ago : Int)) = false := by simp; omega
  have hdN : decide (E < ago) = false := by simpa using h
  have hk3 := rowN_lt E ago
  have HF := Hi (show ofA E A ago = A (rowN E ago) ∧ ofN E n ago = n (rowN E ago) ∧ ofN E c ago = c (rowN E ago) from by unfold ofA ofN; simp [h])
  have hw1 : IntKind.u64.wrap ((E : Int) - (ago : Int)) = (E : Int) - (ago : Int) := IntWalk.u64_in _ (by omega)
  have hle : (ago : Int) ≤ (E : Int) := by omega
  have hmod : ((E : Int) - (ago : Int)) % 3 = ((rowN E ago : Nat) : Int) := by rw [← rowN_ref (show ago ≤ E by omega)]; omega
  rw [HF.out.1, HF.out.2.1, HF.out.2.2]
  have q0 : (W.alloc (.cells (limC E A n c) 32)).cell? ⟨W.heap.size, 0, none⟩ = some (.int .u64 (E : Int)) := by rw [HR.out.cell 0]; rfl
  have hc := limC_cell HR.out hk3
  have ql := HR.out.lt
  have hkI : ((rowN E ago : Nat) : Int) < 3 := by omega
  clear h HF
  go_enter Tryz.func74, Tryz.ntmps74
  go_wp2_with fail
  generalize W.alloc (.cells (limC E A n c) 32) = w1 at *
  generalize rowN E ago = kk at *
  go_wp2_with fail
  go_ret
  exact ⟨rfl, HB.out⟩
theorem has_any (B : Nat) (A : Option Addr) (c m : Nat) (s : Int) (xs : List Ent) (W : World) (h : Rd W B 2 A m (Cs encE xs)) (hx : xs.length = m) (hm : m ≤ 12288) (hB : B ≤ W.heap.size) (r : Bool) (hr : hasB xs s = r) :
  Calls Tryz.prog 73 #[.slice A m c, .int .i64 s] W fun e W' => e = .returned (.bool r) ∧ Below W.heap.size W W' := by
 have HX := Hi hx
 have H := Hi h
 have HR := Hi hr
 clear h hx hr
 go_enter Tryz.func73, Tryz.ntmps73
 go_wp2_with fail
 go_loopw [9] (fun i wr => ∃ k : Nat, k ≤ m ∧ i = .int .i64 k ∧ (xs.take k).any (fun x => x.1 == s) = false ∧ Below W.heap.size W wr) (fun i _ => m - (intOf i).toNat)
 case atStart => exact ⟨0, Nat.zero_le _, rfl, rfl, Below.refl _ _⟩
 case round =>
  obtain ⟨k, hk, rfl, hno, hbw⟩ := hrel
  have HN := Hi hno
  have HBW := Hi hbw
  clear hno hbw
  by_cases hlt : k < m
  ·
   have hlx : k < xs.length := by rw [HX.out]; exact hlt
   obtain ⟨b, o, rfl, hb, d0, d1⟩ := (H.out.below (HBW.out.mono hB)).ent HX.out hlt
   have hbl : b < wr.heap.size := Nat.lt_of_lt_of_le hb (Nat.le_trans hB HBW.out.size)
   have hkm : (k : Int) < (m : Int) := by omega
   have HT := Hi (any_take_succ (p := fun x => x.1 == s) hlx)
   obtain ⟨x, hxx⟩ : ∃ x, xs.getD k (0, 0) = x := ⟨_, rfl⟩
   rw [hxx] at d0 d1 HT
   obtain ⟨x1, x2⟩ := x
   dsimp only at d0 d1 HT
   rw [HN.out] at HT
   have HB2 := Hi (show Below W.heap.size W (wr.alloc (.cells #[.int .i64 x1, .int .u64 x2] 41)) from HBW.out.alloc HBW.out.size _)
   clear hxx hb
   by_cases he : x1 = s
   ·
    subst he
    have hd : (x1 == x1) = true := by simp
    have HF := Hi (show true = r from by rw [← HR.out]; unfold hasB; rw [any_of_take (by rw [HT.out]; simp)])
    go_wp2_with fail
    go_ret
    exact ⟨ret_bool HF.out, HB2.out⟩
   ·
    have hd : (x1 == s) = false := by simpa using he
    rw [hd] at HT
    go_wp2_with fail
    go_roundw
    case rel => exact ⟨k + 1, by omega, by go_num, HT.out, HB2.out⟩
    case measure => simp [intOf]; omega
  ·
   have HF := Hi (show false = r from by
    have := HN.out
    rw [List.take_of_length_le (by rw [HX.out]; omega)] at this
    rw [← HR.out]; exact this.symm)
   go_wp2_with fail
   go_ret
   exact ⟨ret_bool HF.out, HBW.out⟩
theorem rrow_any (B : Nat) (A1 A2 : Option Addr) (c1 c2 : Nat) (xs ys : List Ent) (W : World) (h1 : Rd W B 2 A1 xs.length (Cs encE xs)) (h2 : Rd W B 2 A2 ys.length (Cs encE ys)) (hB : B ≤ W.heap.size)
  (hl1 : xs.length ≤ 4096) (hl2 : ys.length ≤ 4096) (r : Bool) (hr : decide (xs = ys) = r) :
  Calls Tryz.prog 87 #[.slice A1 xs.length c1, .slice A2 ys.length c2] W fun e W' => e = .returned (.bool r) ∧ Below W.heap.size W W' := by
 subst hr
 by_cases hlen : xs.length = ys.length
 ·
  have ht : ((xs.length : Int) != (ys.length : Int)) = false := by rw [bne_eq_false_iff_eq]; omega
  have HL := Hi hlen
  have H1 := Hi h1
  have H2 := Hi h2
  clear hlen h1 h2
  go_enter Tryz.func87, Tryz.ntmps87
  go_wp2_with fail
  go_loopw [14] (fun i wr => ∃ k : Nat, k ≤ xs.length ∧ i = .int .i64 k ∧ xs.take k = ys.take k ∧ Below W.heap.size W wr) (fun i _ => xs.length - (intOf i).toNat)
  case atStart => exact ⟨0, Nat.zero_le _, rfl, rfl, Below.refl _ _⟩
  case round =>
   obtain ⟨k, hk, rfl, hpre, hbw⟩ := hrel
   have HP := Hi hpre
   have HBW := Hi hbw
   clear hpre hbw
   by_cases hlt : k < xs.length
   ·
    have hlt2 : k < ys.length := by have := HL.out; omega
    obtain ⟨b1, o1, rfl, hb1, d10, d11⟩ := (H1.out.below (HBW.out.mono hB)).ent rfl hlt
    obtain ⟨b2, o2, rfl, hb2, d20, d21⟩ := (H2.out.below (HBW.out.mono hB)).ent rfl hlt2
    have hbl1 : b1 < wr.heap.size := by have := HBW.out.size; omega
    have hbl2 : b2 < wr.heap.size := by have := HBW.out.size; omega
    have hi1 : (k : Int) < (xs.length : Int) := by omega
    have hi2 : (k : Int) < (ys.length : Int) := by omega
    have HG := Hi (show xs.take (k + 1) = xs.take k ++ [xs.getD k (0, 0)] ∧ ys.take (k + 1) = ys.take k ++ [ys.getD k (0, 0)] from ⟨getD_take xs k hlt, getD_take ys k hlt2⟩)
    obtain ⟨x, hxx⟩ : ∃ x, xs.getD k (0, 0) = x := ⟨_, rfl⟩
    obtain ⟨y, hyy⟩ : ∃ y, ys.getD k (0, 0) = y := ⟨_, rfl⟩
    rw [hxx] at d10 d11 HG
    rw [hyy] at d20 d21 HG
    obtain ⟨x1, x2⟩ := x
    obtain ⟨y1, y2⟩ := y
    dsimp only at d10 d11 d20 d21
    have HBN := Hi (show Below wr.heap.size wr (wr.alloc (.cells #[.int .i64 x1, .int .u64 x2] 41)) from (Below.refl _ _).alloc (Nat.le_refl _) _)
    have HRN := Hi (RowAt.new wr 41 #[.int .i64 x1, .int .u64 x2])
    go_upto_region 6 with (fail)
    generalize wr.alloc _ = w2 at *
    have e0 := row20 HRN.out
    have e1 := row21 HRN.out
    have el := HRN.out.lt
    have d20 := kept HBN.out d20
    have d21 := kept HBN.out d21
    have hbl2 : b2 < w2.heap.size := by have := HBN.out.size; omega
    have HBE := Hi (HBW.out.trans (HBN.out.mono HBW.out.size))
    clear hxx hyy hb1 hb2 d10 d11 hbl1 HBN
    by_cases hxy : ((x1, x2) : Ent) = (y1, y2)
    ·
     have hne := fun w => neqE w (x1, x2) (y1, y2) true (by simpa using hxy)
     have HT := Hi (show xs.take (k + 1) = ys.take (k + 1) from by rw [HG.out.1, HG.out.2, HP.out, hxy])
     dsimp only at hne
     clear hxy
     go_quiet (fail)
     have HBQ := Hi (below_drewN HBE.out nq)
     generalize w2.drewN nq = w3 at *
     clear e0 e1 el d20 d21 hbl2 hne
     go_wp2_with fail
     go_roundw
     case rel => exact ⟨k + 1, by omega, by go_num, HT.out, HBQ.out⟩
     case measure => simp [intOf]; omega
    ·
     have hne := fun w => neqE w (x1, x2) (y1, y2) false (by simpa using hxy)
     have HF := Hi (show false = decide (xs = ys) from by
      symm
      rw [decide_eq_false_iff_not]
      intro e
      have h1 := HG.out.1
      rw [e, HG.out.2] at h1
      have h2 := (List.append_inj h1 rfl).2
      exact hxy (by simpa using h2.symm))
     dsimp only at hne
     clear hxy
     go_quiet (fail)
     have HBQ := Hi (below_drewN HBE.out nq)
     generalize w2.drewN nq = w3 at *
     clear e0 e1 el d20 d21 hbl2 hne
     go_wp2_with fail
     go_ret
     exact ⟨ret_bool HF.out, HBQ.out⟩
   ·
    obtain rfl : k = xs.length := by omega
    have HF := Hi (show true = decide (xs = ys) from by
     symm
     rw [decide_eq_true_eq]
     have := HP.out
     rwa [List.take_length, HL.out, List.take_length] at this)
    go_wp2_with fail
    go_ret
    exact ⟨ret_bool HF.out, HBW.out⟩
 ·
  have ht : ((xs.length : Int) != (ys.length : Int)) = true := by rw [bne_iff_ne]; omega
  have HF := Hi (show false = decide (xs = ys) from by
   symm; rw [decide_eq_false_iff_not]; intro e; exact hlen (by rw [e]))
  clear hlen
  go_enter Tryz.func87, Tryz.ntmps87
  go_wp2_with fail
  go_ret
  exact ⟨ret_bool HF.out, Below.refl _ _⟩
end Go.Proofs.YtkicidopjihjmaaGreat.Li
set_option maxRecDepth 20000
namespace Go.Proofs.YtkicidopjihjmaaGreat.Li
open Go Go.RowKit
attribute [local go_sem] via_cell via_frozen
def sameB (l m : Lim) : Bool := decide (l.E = m.E) && (decide (l.r 0 = m.r 0) && (decide (l.r 1 = m.r 1) && decide (l.r 2 = m.r 2)))
theorem rrow_n (B : Nat) (A1 A2 : Option Addr) (n1 n2 c1 c2 : Nat) (xs ys : List Ent) (W : World) (h1 : Rd W B 2 A1 n1 (Cs encE xs)) (h2 : Rd W B 2 A2 n2 (Cs encE ys)) (hx1 : xs.length = n1) (hx2 : ys.length = n2) (hB : B ≤ W.heap.size)
  (hl1 : n1 ≤ 4096) (hl2 : n2 ≤ 4096) (r : Bool) (hr : decide (xs = ys) = r) :
  Calls Tryz.prog 87 #[.slice A1 n1 c1, .slice A2 n2 c2] W fun e W' => e = .returned (.bool r) ∧ Below W.heap.size W W' := by
 subst hx1; subst hx2
 exact rrow_any B A1 A2 c1 c2 xs ys W h1 h2 hB hl1 hl2 r hr
structure TwoL (w : World) (g1 g2 : Nat) (l m : Lim) (A : Nat → Option Addr) (n c : Nat → Nat) (A' : Nat → Option Addr) (n' c' : Nat → Nat) : Prop where
 r1 : RowAt w g1 32 (limC l.E A n c)
 r2 : RowAt w g2 32 (limC m.E A' n' c')
 d1 : LimRd w w.heap.size A n l.r
 d2 : LimRd w w.heap.size A' n' m.r
 m1 : ∀ k, k < 3 → n k ≤ 4096
 m2 : ∀ k, k < 3 → n' k ≤ 4096
theorem TwoL.later {w w2 : World} {g1 g2 : Nat} {l m : Lim} {A : Nat → Option Addr} {n c : Nat → Nat} {A' : Nat → Option Addr} {n' c' : Nat → Nat} (h : TwoL w g1 g2 l m A n c A' n' c') (hb : Below w.heap.size w w2) : TwoL w2 g1 g2 l m A n c A' n' c' :=
 ⟨h.r1.below hb, h.r2.below hb, (h.d1.below hb).more hb.size, (h.d2.below hb).more hb.size, h.m1, h.m2⟩
theorem TwoL.new {W : World} {l m : Lim} {A : Nat → Option Addr} {n c : Nat → Nat} {A' : Nat → Option Addr} {n' c' : Nat → Nat} (h1 : LimRd W W.heap.size A n l.r) (h2 : LimRd W W.heap.size A' n' m.r) (m1 : ∀ k, k < 3 → n k ≤ 4096) (m2 : ∀ k, k < 3 → n' k ≤ 4096) :
  TwoL ((W.alloc (.cells (limC l.E A n c) 32)).alloc (.cells (limC m.E A' n' c') 32)) W.heap.size (W.heap.size + 1) l m A n c A' n' c' ∧ Below W.heap.size W ((W.alloc (.cells (limC l.E A n c) 32)).alloc (.cells (limC m.E A' n' c') 32)) := by
 have hb : Below W.heap.size W ((W.alloc (.cells (limC l.E A n c) 32)).alloc (.cells (limC m.E A' n' c') 32)) := ((Below.refl _ _).alloc (Nat.le_refl _) _).alloc (by simp) _
 refine ⟨⟨(RowAt.new W 32 _).below ((Below.refl _ _).alloc (Nat.le_refl _) _), ?_, (h1.below hb).more hb.size, (h2.below hb).more hb.size, m1, m2⟩, hb⟩
 have h := RowAt.new (W.alloc (.cells (limC l.E A n c) 32)) 32 (limC m.E A' n' c')
 simpa using h
theorem rsame_any (A : Nat → Option Addr) (n c : Nat → Nat) (l : Lim) (A' : Nat → Option Addr) (n' c' : Nat → Nat) (m : Lim) (W : World) (h1 : LimRd W W.heap.size A n l.r) (h2 : LimRd W W.heap.size A' n' m.r) (m1 : ∀ k, k < 3 → n k ≤ 4096) (m2 : ∀ k, k < 3 → n' k ≤ 4096) (r : Bool) (hr : sameB l m = r) :
  Calls Tryz.prog 52 #[.agg (limC l.E A n c), .agg (limC m.E A' n' c')] W fun e W' => e = .returned (.bool r) ∧ Below W.heap.size W W' := by
 obtain ⟨ht, hb⟩ := TwoL.new (c := c) (c' := c') h1 h2 m1 m2
 have HT := Hi ht
 have HB := Hi hb
 have HR := Hi hr
 clear ht hb hr h1 h2 m1 m2
 by_cases hE : l.E = m.E
 ·
  have hd : ((l.E : Int) == (m.E : Int)) = true := by simp; omega
  have HEE := Hi hE
  clear hE
  go_enter Tryz.func52, Tryz.ntmps52
  go_wp2_with fail
  generalize (W.alloc _).alloc _ = w0 at *
  have q0 := cl HT.out.r1 0
  have q1 := cl HT.out.r1 1
  have q2 := cl HT.out.r1 2
  have q3 := cl HT.out.r1 3
  have p0 := cl HT.out.r2 0
  have p1 := cl HT.out.r2 1
  have p2 := cl HT.out.r2 2
  have p3 := cl HT.out.r2 3
  have ql := HT.out.r1.lt
  have pl := HT.out.r2.lt
  obtain ⟨b0, hb0⟩ : ∃ b0, decide (l.r 0 = m.r 0) = b0 := ⟨_, rfl⟩
  have HC := Hi (rrow_n w0.heap.size (A 0) (A' 0) (n 0) (n' 0) (c 0) (c' 0) (l.r 0) (m.r 0) w0 (HT.out.d1.rd 0 (by omega)) (HT.out.d2.rd 0 (by omega)) (HT.out.d1.len 0 (by omega)) (HT.out.d2.len 0 (by omega)) (Nat.le_refl _) (HT.out.m1 0 (by omega)) (HT.out.m2 0 (by omega)) b0 hb0)
  have HQ0 := Hi hb0
  clear hb0
  go_wp2_with fail
  with_reducible refine HC.out.mono ?_
  rintro e w1 ⟨rfl, hb⟩
  have HT := Hi (HT.out.later hb)
  have HB := bt HB hb
  clear q0 q1 q2 q3 p0 p1 p2 p3 ql pl HC hb
  cases b0 with
  | false =>
   have HF := Hi (show false = r from by rw [← HR.out]; unfold sameB; rw [HQ0.out]; simp)
   go_wp2_with fail
   go_ret
   exact ⟨ret_bool HF.out, HB.out⟩
  | true =>
   have q0 := cl HT.out.r1 0
   have q1 := cl HT.out.r1 1
   have q2 := cl HT.out.r1 2
   have q3 := cl HT.out.r1 3
   have p0 := cl HT.out.r2 0
   have p1 := cl HT.out.r2 1
   have p2 := cl HT.out.r2 2
   have p3 := cl HT.out.r2 3
   have ql := HT.out.r1.lt
   have pl := HT.out.r2.lt
   obtain ⟨b1, hb1⟩ : ∃ b1, decide (l.r 1 = m.r 1) = b1 := ⟨_, rfl⟩
   have HC := Hi (rrow_n w1.heap.size (A 1) (A' 1) (n 1) (n' 1) (c 1) (c' 1) (l.r 1) (m.r 1) w1 (HT.out.d1.rd 1 (by omega)) (HT.out.d2.rd 1 (by omega)) (HT.out.d1.len 1 (by omega)) (HT.out.d2.len 1 (by omega)) (Nat.le_refl _) (HT.out.m1 1 (by omega)) (HT.out.m2 1 (by omega)) b1 hb1)
   have HQ1 := Hi hb1
   clear hb1
   go_wp2_with fail
   with_reducible refine HC.out.mono ?_
   rintro e w2 ⟨rfl, hb⟩
   have HT := Hi (HT.out.later hb)
   have HB := bt HB hb
   clear q0 q1 q2 q3 p0 p1 p2 p3 ql pl HC hb
   cases b1 with
   | false =>
    have HF := Hi (show false = r from by rw [← HR.out]; unfold sameB; rw [HQ1.out]; simp)
    go_wp2_with fail
    go_ret
    exact ⟨ret_bool HF.out, HB.out⟩
   | true =>
    have q0 := cl HT.out.r1 0
    have q1 := cl HT.out.r1 1
    have q2 := cl HT.out.r1 2
    have q3 := cl HT.out.r1 3
    have p0 := cl HT.out.r2 0
    have p1 := cl HT.out.r2 1
    have p2 := cl HT.out.r2 2
    have p3 := cl HT.out.r2 3
    have ql := HT.out.r1.lt
    have pl := HT.out.r2.lt
    obtain ⟨b2, hb2⟩ : ∃ b2, decide (l.r 2 = m.r 2) = b2 := ⟨_, rfl⟩
    have HC := Hi (rrow_n w2.heap.size (A 2) (A' 2) (n 2) (n' 2) (c 2) (c' 2) (l.r 2) (m.r 2) w2 (HT.out.d1.rd 2 (by omega)) (HT.out.d2.rd 2 (by omega)) (HT.out.d1.len 2 (by omega)) (HT.out.d2.len 2 (by omega)) (Nat.le_refl _) (HT.out.m1 2 (by omega)) (HT.out.m2 2 (by omega)) b2 hb2)
    have HQ2 := Hi hb2
    clear hb2
    go_wp2_with fail
    with_reducible refine HC.out.mono ?_
    rintro e w3 ⟨rfl, hb⟩
    have HT := Hi (HT.out.later hb)
    have HB := bt HB hb
    clear q0 q1 q2 q3 p0 p1 p2 p3 ql pl HC hb
    cases b2 with
    | false =>
     have HF := Hi (show false = r from by rw [← HR.out]; unfold sameB; rw [HQ2.out]; simp)
     go_wp2_with fail
     go_ret
     exact ⟨ret_bool HF.out, HB.out⟩
    | true =>
     have HF := Hi (show true = r from by rw [← HR.out]; unfold sameB; rw [HQ0.out, HQ1.out, HQ2.out]; simp [HEE.out])
     go_wp2_with fail
     go_ret
     exact ⟨ret_bool HF.out, HB.out⟩
 ·
  have hd : ((l.E : Int) == (m.E : Int)) = false := by simp; omega
  have HF := Hi (show false = r from by rw [← HR.out]; unfold sameB; simp [hE])
  clear hE
  go_enter Tryz.func52, Tryz.ntmps52
  go_wp2_with fail
  go_ret
  exact ⟨ret_bool HF.out, HB.out⟩
end Go.Proofs.YtkicidopjihjmaaGreat.Li
namespace Go.Proofs.YtkicidopjihjmaaGreat
open Go Go.RowKit
attribute [local go_sem] via_cell via_frozen
attribute [local go_sem] Oper.semAt_some
set_option maxRecDepth 20000 in
theorem waits_no (F : Nat → Prop) (A0 As : Option Addr) (n0 c0 ns cs : Nat) (A : Nat → Option Addr) (n c : Nat → Nat) (r : Rec) (W : World) (h : RecF F W A0 As n0 c0 ns cs A n c r) (hf : FitR r) (ho : r.ok = false) :
  Calls Tryz.prog 21 #[.agg (recC r.e r.l.E A0 As n0 c0 ns cs A n c)] W fun e W' => e = .returned (.int .i64 0) ∧ Below W.heap.size W W' := by
 have hb1 := ba W (.cells #[.slice A0 n0 c0, .int .u64 r.e, .slice As ns cs, .int .u64 (r.l.E : Int), .slice (A 0) (n 0) (c 0), .slice (A 1) (n 1) (c 1), .slice (A 2) (n 2) (c 2)] 34)
 have R1 := Hi (RowAt.new W 34 #[.slice A0 n0 c0, .int .u64 r.e, .slice As ns cs, .int .u64 (r.l.E : Int), .slice (A 0) (n 0) (c 0), .slice (A 1) (n 1) (c 1), .slice (A 2) (n 2) (c 2)])
 have HB := Hi hb1
 have H := Hi (h.below hb1)
 have HF := Hi hf
 clear hb1 h hf
 have HO := Hi ho
 clear ho
 go_enter Tryz.func21, Tryz.ntmps21
 go_upto_region 1 with (fail)
 generalize W.alloc _ = w2 at *
 have q0 := cl R1.out 0
 have q1 := cl R1.out 1
 have q2 := cl R1.out 2
 have q3 := cl R1.out 3
 have q4 := cl R1.out 4
 have q5 := cl R1.out 5
 have q6 := cl R1.out 6
 have ql := R1.out.lt
 go_wp2_with fail
 with_reducible refine (Check_any F A0 As n0 c0 ns cs A n c r _ H.out HF.out 250 (by rw [HO.out]; simp)).mono ?_
 rintro e w3 ⟨rfl, hb⟩
 replace R1 := Hi (R1.out.below hb)
 replace H := Hi (H.out.below hb)
 replace HB := bt HB hb
 clear q0 q1 q2 q3 q4 q5 q6 ql
 clear hb
 have q0 := cl R1.out 0
 have q1 := cl R1.out 1
 have q2 := cl R1.out 2
 have q3 := cl R1.out 3
 have q4 := cl R1.out 4
 have q5 := cl R1.out 5
 have q6 := cl R1.out 6
 have ql := R1.out.lt
 go_wp2_with fail
 go_ret
 exact ⟨rfl, HB.out⟩
structure CkN (gn : Nat) (pre : List Ent) (W : World) : Prop where
 num : RowAt W gn 3 #[.int .i64 (pre.length : Int)]
theorem CkN.stays {gn : Nat} : Stays (CkN gn) := fun _ _ _ h hl => ⟨h.num.lie hl⟩
set_option maxRecDepth 100000 in
theorem waits_yes (F : Nat → Prop) (A0 As : Option Addr) (n0 c0 ns cs : Nat) (A : Nat → Option Addr) (n c : Nat → Nat) (r : Rec) (W : World) (h : RecF F W A0 As n0 c0 ns cs A n c r) (hf : FitR r) (ho : r.ok = true) (k : Int) (hk : (r.l.held.length : Int) = k) :
  Calls Tryz.prog 21 #[.agg (recC r.e r.l.E A0 As n0 c0 ns cs A n c)] W fun e W' => e = .returned (.int .i64 k) ∧ Below W.heap.size W W' := by
 have hb1 := ba W (.cells #[.slice A0 n0 c0, .int .u64 r.e, .slice As ns cs, .int .u64 (r.l.E : Int), .slice (A 0) (n 0) (c 0), .slice (A 1) (n 1) (c 1), .slice (A 2) (n 2) (c 2)] 34)
 have R1 := Hi (RowAt.new W 34 #[.slice A0 n0 c0, .int .u64 r.e, .slice As ns cs, .int .u64 (r.l.E : Int), .slice (A 0) (n 0) (c 0), .slice (A 1) (n 1) (c 1), .slice (A 2) (n 2) (c 2)])
 have HB := Hi hb1
 have H := Hi (h.below hb1)
 have HF := Hi hf
 clear hb1 h hf
 have HO := Hi ho
 have HK := Hi hk
 have HOK := Hi (ok_iff.1 ho)
 clear ho hk
 refine calls_of_wp_marks Tryz.func21 rfl ?_
 simp only [Tryz.ntmps21, List.size_toArray, List.length_cons, List.length_nil, Nat.reduceAdd, Nat.reduceSub, Array.replicate_succ, Array.replicate_zero, List.push_toArray, List.append_toArray, List.nil_append, List.cons_append]
 go_upto_region 1 with (fail)
 generalize W.alloc _ = w2 at *
 have q0 := cl R1.out 0
 have q1 := cl R1.out 1
 have q2 := cl R1.out 2
 have q3 := cl R1.out 3
 have q4 := cl R1.out 4
 have q5 := cl R1.out 5
 have q6 := cl R1.out 6
 have ql := R1.out.lt
 go_wp2_with fail
 with_reducible refine (Check_any F A0 As n0 c0 ns cs A n c r _ H.out HF.out 0 (by rw [HO.out]; simp)).mono ?_
 rintro e w3 ⟨rfl, hb⟩
 replace R1 := Hi (R1.out.below hb)
 replace H := Hi (H.out.below hb)
 replace HB := bt HB hb
 clear q0 q1 q2 q3 q4 q5 q6 ql
 clear hb
 have q0 := cl R1.out 0
 have q1 := cl R1.out 1
 have q2 := cl R1.out 2
 have q3 := cl R1.out 3
 have q4 := cl R1.out 4
 have q5 := cl R1.out 5
 have q6 := cl R1.out 6
 have ql := R1.out.lt
 go_upto_region 4 with (fail)
 have hb := ba w3 (.cells #[.int .i64 0] 3)
 have RN := Hi (RowAt.new w3 3 #[.int .i64 0])
 have S4 := Hi (show (w3.alloc (.cells #[.int .i64 0] 3)).heap.size = w3.heap.size + 1 from by simp)
 generalize (w3.alloc (.cells #[.int .i64 0] 3)) = w4 at *
 have HW3 := Hi HB.out.size
 have HL3 := Hi R1.out.lt
 replace R1 := Hi (R1.out.below hb)
 replace H := Hi (H.out.below hb)
 replace HB := bt HB hb
 clear q0 q1 q2 q3 q4 q5 q6 ql
 clear hb
 have q0 := cl R1.out 0
 have q1 := cl R1.out 1
 have q2 := cl R1.out 2
 have q3 := cl R1.out 3
 have q4 := cl R1.out 4
 have q5 := cl R1.out 5
 have q6 := cl R1.out 6
 have ql := R1.out.lt
 generalize w3.heap.size = gn at *
 go_wp2_with fail
 with_reducible refine (waiting_any #[.slice A0 n0 c0, .int .u64 r.e, .slice As ns cs, .int .u64 (r.l.E : Int), .slice (A 0) (n 0) (c 0), .slice (A 1) (n 1) (c 1), .slice (A 2) (n 2) (c 2)] _ _ _ _ _ _ _ rfl w4).mono ?_
 rintro e w10 ⟨rfl, hrow, hb⟩
 have hlb := hrow.lt
 replace RN := Hi (RN.out.below hb)
 replace H := Hi (H.out.below hb)
 replace HB := bt HB hb
 have hseq := waiting_seq w4.heap.size (w10.heap.size + 2) (fun j => w10.heap.size + 2 ≤ j) r.e A0 As n0 c0 ns cs A n c r.l w10 hrow H.out.lim HF.out.E (fun k hk => by rw [← H.out.ll k hk]; exact HF.out.rw k hk) HF.out.g HOK.out.lm (fun j hj => hj)
 have s4 := S4.out
 have hs10 : gn + 1 < w10.heap.size := by omega
 have hlB : W.heap.size < gn := HL3.out
 have HCW := Hi (show CkN gn [] w10 from ⟨RN.out⟩)
 have HLEN := Hi (show (r.l.held.length : Int) ≤ 12288 from by have h1 := Li.each_len r.l n H.out.ll (fun k hk => by rw [← H.out.ll k hk]; exact HF.out.rw k hk); rw [← Li.each_held, List.length_map]; omega)
 rw [s4] at hseq ⊢
 clear hrow hb hlb s4 RN R1 S4
 clear q0 q1 q2 q3 q4 q5 q6 ql
 go_wp2_with fail
 refine wp_range6 (gf := 94) (lb := #[.pointer (some ⟨gn + 1, 0, none⟩)]) rfl (enters_of Tryz.func94 (by kernel_rfl) rfl) hseq gn (by omega) (fun j hj => by have hj : w10.heap.size + 2 ≤ j := hj; omega) (Below.refl _ _) (fun _ => rfl)
  (fun pre W2 => CkN gn pre W2) (fun c pre W2 => False) CkN.stays (fun c => fun _ _ _ h _ => h) (fun _ _ _ h hb => ⟨h.num.below hb⟩) (fun _ _ _ _ h hb => h) HCW.out
  (fun T x a' W2 => a' = { tmps := (#[9].zip (encEv x)).foldl (fun t (p, v) => t.setIfInBounds p v) T, defers := [] }) (fun T a' x => fun _ _ h _ => h) ?assign ?body ?done ?stop ?panic
 case assign =>
  intro lo pre x W2 R hI hb hs hlen hV hn2 hR
  dsimp only [encEv] at hR ⊢
  gi_wp2
  exact hR _ _ (KeepsOthers.refl _) (Below.refl _ _) (fun _ _ _ => rfl) hI (by simp [encEv])
 case body =>
  rintro lo pre x a' W2 hI hpa hb hs hlen hV hn2
  subst hpa
  obtain ⟨s, g⟩ := x
  dsimp only [encEv]
  have u0 := row1 hI.num
  have uf := hI.num.frozen 0
  have ul := hI.num.lt
  have hpl : (pre.length : Int) < 12288 := by have := HLEN.out; omega
  have HI := Hi hI
  clear hI hV
  gi_wp2_with fail
  refine ⟨KeepsOthers.setCell _ _ _, (Below.refl gn W2).setCell (p := ⟨gn, 0, none⟩) (Nat.le_refl _) _, fun j hj hl => ?_, ?_⟩
  ·
   have hj : w10.heap.size + 2 ≤ j := hj
   exact heap_setCell_ne _ _ _ _ (by show j ≠ gn; omega)
  ·
   have h := HI.out.num.set 0 (.int .i64 ((pre.length : Int) + 1))
   refine ⟨?_⟩
   rw [show ((pre ++ [(s, g)]).length : Int) = (pre.length : Int) + 1 from by rw [List.length_append]; simp]
   simpa using h
 case done =>
  rintro ys W2 rfl hI hb hs hD
  have u0 := row1 hI.num
  have ul := hI.num.lt
  have HD := Hi hD
  have HBF := Hi (HB.out.trans (hb.mono (by omega)))
  rw [HK.out] at u0
  clear hb hD hI
  unfold marked
  go_wp2_with fail
  refine ⟨by simp, .inl ⟨_, _, rfl, run_takeDeferred HD.out, ?_⟩⟩
  have hfin : Below W.heap.size W (W2.putObj w10.heap.size (.deferred none)) := HBF.out.trans (below_putObj (o := .deferred (some [])) _ (by omega))
  exact ⟨_, by simp [results, Tryz.results21, go_sem], rfl, hfin⟩
 case stop =>
  rintro c2 pre W2 _ h
  exact h.elim
 case panic =>
  rintro pre W2 h
  exact h.elim
def waitsR (r : Rec) : Int := if r.ok = true then (r.l.held.length : Int) else 0
theorem vWaits {F : Nat → Prop} {w : World} {v : Value} {r : Rec} (h : RecOut F w v r) (hf : FitR r) (k : Int) (hk : waitsR r = k) : Calls Tryz.prog 21 #[v] w fun e w' => e = .returned (.int .i64 k) ∧ Below w.heap.size w w' := by
 obtain ⟨A0, As, n0, c0, ns, cs, A, n, c, rfl, h⟩ := h
 unfold waitsR at hk
 rcases Bool.eq_false_or_eq_true r.ok with h1 | h1
 ·
  rw [if_pos h1] at hk
  exact waits_yes F A0 As n0 c0 ns cs A n c r w h hf h1 k hk
 ·
  rw [if_neg (by rw [h1]; simp)] at hk
  subst hk
  exact waits_no F A0 As n0 c0 ns cs A n c r w h hf h1
theorem sameB_eq (a b : Rec) : sameR a b = (decide (a.sl = b.sl) && (decide (a.e = b.e ∧ a.S = b.S) && Li.sameB a.l b.l)) := by
 unfold sameR Li.sameB
 rw [Bool.decide_and]
def newR (g n : Nat) : Rec := ⟨List.replicate n (0, 0), 0, List.replicate g 0, Li.lim0⟩
def NewK (g n : Int) : Int := if (1 ≤ g ∧ g ≤ 8) ∧ (2 ≤ n ∧ n ≤ 128) then 0 else 2
def NewV (g n : Int) : Rec := if (1 ≤ g ∧ g ≤ 8) ∧ (2 ≤ n ∧ n ≤ 128) then newR g.toNat n.toNat else rec0
def NewRes (g n : Int) (W : World) (e : Ending) (W' : World) : Prop := (∃ v, e = .returned (.tuple #[v, .int .i64 (NewK g n)]) ∧ RecOut (fun _ => True) W' v (NewV g n)) ∧ Below W.heap.size W W'
theorem zero_recF (F : Nat → Prop) (w : World) : RecF F w none none 0 0 0 0 (fun _ => none) (fun _ => 0) (fun _ => 0) rec0 := ⟨RdF.none_, rfl, Nat.le_refl _, RdF.none_, rfl, ⟨Nat.le_refl _, Nat.zero_le _⟩, fun k _ => RdF.none_, fun k _ => rfl, fun k _ => ⟨Nat.le_refl _, Nat.zero_le _⟩⟩
theorem zero_rec (F : Nat → Prop) (w : World) : RecOut F w (.agg #[.slice none 0 0, .int .u64 0, .slice none 0 0, .int .u64 0, .slice none 0 0, .slice none 0 0, .slice none 0 0]) rec0 := ⟨none, none, 0, 0, 0, 0, fun _ => none, fun _ => 0, fun _ => 0, rfl, zero_recF F w⟩
end Go.Proofs.YtkicidopjihjmaaGreat
namespace Go.Proofs.YtkicidopjihjmaaGreat
open Go Go.RowKit
section
variable {P : Program} {ops : Array Oper} {Q : Exit → Act → World → Prop} {md : Region.Mode} {S : World → Prop} {z : Nat}
def wpAnyT (P : Program) (md : Region.Mode) (ops : Array Oper) (Q : Exit → Act → World → Prop) (S : World → Prop) (z : Nat) : Nat → Array Bool → Act → World → Prop
 | 0, listed, a, w => Region.ready md ops listed = [] ∧ Q .normal a w
 | fuel + 1, listed, a, w =>
  (Region.ready md ops listed = [] → Q .normal a w) ∧
  ∀ i ∈ Region.ready md ops listed, wpOp P ops Q i (fun a' w' => (i ≠ z → S w') ∧ wpAnyT P md ops Q S z fuel (listed.setIfInBounds i true) a' w') a w
theorem wpAny_of_T : ∀ (fuel : Nat) (listed : Array Bool) (a : Act) (w : World), wpAnyT P md ops Q S z fuel listed a w → wpAny P md ops Q fuel listed a w
 | 0, _, _, _, h => h
 | fuel + 1, _, _, _, h => ⟨h.1, fun i hi => wpOp_mono (fun a' w' h' => wpAny_of_T fuel _ a' w' h'.2) (h.2 i hi)⟩
def waitsB (md : Region.Mode) (ops : Array Oper) (z i : Nat) : Bool :=
 match ops[z]? with
 | some o => o.after.toList.any (fun e => Region.binds md e && (e.on == i)) && !(z == i)
 | none => false
theorem wpAnyT_first {i : Nat} {oi : Oper} {v : Value} (hi : ops[i]? = some oi) (hsel : ∀ (j : Nat) (o : Oper) cs b, ops[j]? = some o → o.op ≠ .select cs b) (hz : waitsB md ops z i = true)
  (hQ : ∀ c a w, Q (.panic c) (a.put oi.dst v) w → Q (.panic c) a w) :
  ∀ (fuel : Nat) (listed : Array Bool) (a : Act) (w : World),
   (∀ j oj, ops[j]? = some oj → j ≠ i → listed.getD j true = false → (∀ e ∈ oj.after, Region.binds md e = true → e.on ≠ i) → oi.apart ops oj = true) →
   i ∈ Region.ready md ops listed → YieldsIf P ops S oi v a → S w →
   wpAnyT P md ops Q S z fuel (listed.setIfInBounds i true) (a.put oi.dst v) w → wpAnyT P md ops Q S z (fuel + 1) listed a w := by
 intro fuel
 induction fuel with
 | zero =>
  intro listed a w _ hr hy hS H
  refine ⟨fun h => (by rw [h] at hr; cases hr), fun j hj => ?_⟩
  by_cases hji : j = i
  · subst hji; exact hy.wpOp hi hS ⟨fun _ => hS, H⟩
  ·
   have := ready_mono hj hji
   rw [H.1] at this
   cases this
 | succ fuel ih =>
  intro listed a w hfree hr hy hS H
  refine ⟨fun h => (by rw [h] at hr; cases hr), fun j hj => ?_⟩
  by_cases hji : j = i
  · subst hji; exact hy.wpOp hi hS ⟨fun _ => hS, H⟩
  ·
   have h1 := H.2 j (ready_mono hj hji)
   obtain ⟨hjun, oj, hoj, hall⟩ := mem_ready.1 hj
   have hnot : ∀ e ∈ oj.after, Region.binds md e = true → e.on ≠ i := fun e he hb heq => by
    have h1 := hall e he hb
    have h0 := (mem_ready.1 hr).1
    rw [heq] at h1
    rcases Nat.lt_or_ge i listed.size with h' | h'
    · simp [h'] at h0 h1; rw [h0] at h1; cases h1
    · simp [Array.getElem?_eq_none h'] at h1
   have hjz : j ≠ z := by
    intro e
    subst e
    unfold waitsB at hz
    rw [hoj] at hz
    simp only [Bool.and_eq_true, List.any_eq_true, beq_iff_eq] at hz
    obtain ⟨⟨e, he, hb, hon⟩, _⟩ := hz
    exact hnot e (by simpa using he) hb hon
   have h2 := wpOp_putIf hoj (hfree j oj hoj hji hjun hnot) (fun cs b => hsel i oi cs b hi) (fun cs b => hsel j oj cs b hoj) hQ hy h1
   have hfree' : ∀ k ok, ops[k]? = some ok → k ≠ i → (listed.setIfInBounds j true).getD k true = false →
     (∀ e ∈ ok.after, Region.binds md e = true → e.on ≠ i) → oi.apart ops ok = true := fun k ok hk hki hun hno => by
    refine hfree k ok hk hki ?_ hno
    by_cases hjk : j = k
    · subst hjk; exact hjun
    · rw [getD_set_ne true hjk] at hun; exact hun
   refine wpOp_mono (fun a' w' h3 => ⟨h3.2.1, ih (listed.setIfInBounds j true) a' w' hfree' (ready_mono hr (Ne.symm hji)) h3.1 (h3.2.1 hjz) ?_⟩) h2
   rw [Array.setIfInBounds_comm _ _ hji]
   exact h3.2.2
theorem wpAnyT_take {i : Nat} {oi : Oper} {v : Value} {fuel : Nat} {listed : Array Bool} {a : Act} {w : World} (hi : ops[i]? = some oi)
  (hs : Region.noSelect ops = true) (hf : Region.free md ops listed i = true) (hr : (Region.ready md ops listed).contains i = true) (hz : waitsB md ops z i = true)
  (hQ : ∀ c a w, Q (.panic c) (a.put oi.dst v) w → Q (.panic c) a w) (hy : YieldsIf P ops S oi v a) (hS : S w)
  (h : wpAnyT P md ops Q S z fuel (listed.setIfInBounds i true) (a.put oi.dst v) w) : wpAnyT P md ops Q S z (fuel + 1) listed a w :=
 wpAnyT_first hi (Region.noSelect_spec hs) hz hQ fuel listed a w (Region.free_spec hi hf) (by simpa using hr) hy hS h
theorem tkT {i : Nat} {oi : Oper} {v : Value} {fuel : Nat} {listed : Array Bool} {a a2 : Act} {w : World} (hi : ops[i]? = some oi) (h : wpAnyT P md ops Q S z fuel (listed.setIfInBounds i true) a2 w)
  (hs : Region.noSelect ops = true := by kernel_rfl) (hf : Region.free md ops listed i = true := by kernel_rfl) (hr : (Region.ready md ops listed).contains i = true := by kernel_rfl) (hz : waitsB md ops z i = true := by kernel_rfl) (hS : S w := by assumption)
  (hy : YieldsIf P ops S oi v a := by refine Or.inl ⟨by rfl, ?_⟩; intro w hSw; (try dsimp only at hSw); (repeat (have hSx := And.left hSw; replace hSw := And.right hSw)); go_simp; first | done | with_reducible rfl)
  (hn : a.put oi.dst v = a2 := by first | (simp only [Act.put, Na, Nb, Nc, Nd, Nx, Nf]; done) | (simp only [Act.put, Na, Nb, Nc, Nd, Nx, Nf]; rfl) | rfl) (hQ : ∀ c a w, Q (.panic c) (a.put oi.dst v) w → Q (.panic c) a w := by exact fun _ _ _ h => h) : wpAnyT P md ops Q S z (fuel + 1) listed a w := wpAnyT_take hi hs hf hr hz hQ hy hS (by rw [hn]; exact h)
theorem wnT {fuel : Nat} {listed : Array Bool} {a a2 : Act} {w : World} (h : wpAnyT P md ops Q S z fuel listed a2 w) (hn : a = a2 := by first | (simp only [Act.put, Na, Nb, Nc, Nd, Nx, Nf]; done) | (simp only [Act.put, Na, Nb, Nc, Nd, Nx, Nf]; rfl) | rfl) : wpAnyT P md ops Q S z fuel listed a w := by rw [hn]; exact h
theorem wpAnyT_one {i : Nat} {o : Oper} {fuel : Nat} {listed : Array Bool} {a : Act} {w : World} (ho : ops[i]? = some o) (hr : Region.ready md ops listed = [i])
  (h : ∀ K' : Act → World → Prop, Shut (∀ a w, (i ≠ z → S w) → wpAnyT P md ops Q S z fuel (listed.setIfInBounds i true) a w → K' a w) → if Region.wanted o (yielded ops a.tmps) = true then Oper.wp P o a w K' Q else K' (a.put o.dst undef) w) : wpAnyT P md ops Q S z (fuel + 1) listed a w :=
 ⟨fun h0 => (by rw [hr] at h0; cases h0), by
  rw [hr]
  intro j hj
  obtain rfl := List.mem_singleton.1 hj
  exact wpOp_step ho (fun K' hK => h K' (fun a w hS hW => hK a w ⟨hS, hW⟩))⟩
theorem wpAnyT_done {listed : Array Bool} {a : Act} {w : World} (hr : Region.ready md ops listed = []) (h : Q .normal a w) : ∀ fuel, wpAnyT P md ops Q S z fuel listed a w
 | 0 => ⟨hr, h⟩
 | _ + 1 => ⟨fun _ => h, by rw [hr]; simp⟩
theorem wp_region_T (S : World → Prop) (z : Nat) {id : Nat} {a : Act} {w : World} (hm : P.follows .mixedOrders = true) (hS : S w.drew)
  (h : S w.drew → wpAnyT P .any ops Q S z ops.size (Array.replicate ops.size false) a w.drew) : (Code.region id ops true).wp P Q a w :=
 wp_region_any hm (wpAny_of_T _ _ _ _ (h hS))
end
end Go.Proofs.YtkicidopjihjmaaGreat
set_option maxRecDepth 20000
namespace Go.Proofs.YtkicidopjihjmaaGreat.Pn
open Go Go.RowKit
attribute [local go_sem] Oper.semAt_some
def encP (x : Nat × Int) : Array Value := #[.int .i64 ((x.1 % 8 : Nat) : Int), .int .u64 x.2]
def pinF : Nat → List Int → List (Nat × Int)
 | _, [] => []
 | k, s :: l => (if 0 < s then [(k, s - 1)] else []) ++ pinF (k + 1) l
def pinL (S : List Int) : List (Nat × Int) := pinF 0 S
theorem pinF_append : ∀ (k : Nat) (l m : List Int), pinF k (l ++ m) = pinF k l ++ pinF (k + l.length) m
 | k, [], m => by simp [pinF]
 | k, s :: l, m => by
  simp only [List.cons_append, pinF, List.append_assoc, pinF_append (k + 1) l m, List.length_cons]
  rw [show k + 1 + l.length = k + (l.length + 1) by omega]
theorem pinL_snoc (S : List Int) (k : Nat) (hk : k < S.length) : pinL (S.take (k + 1)) = pinL (S.take k) ++ if 0 < S[k] then [(k, S[k] - 1)] else [] := by
 unfold pinL
 rw [List.take_succ_eq_append_getElem hk, pinF_append]
 simp [pinF, List.length_take, Nat.min_eq_left (Nat.le_of_lt hk)]
theorem pinF_length : ∀ (k : Nat) (l : List Int), (pinF k l).length ≤ l.length
 | _, [] => by simp [pinF]
 | k, s :: l => by
  have := pinF_length (k + 1) l
  simp only [pinF, List.length_append, List.length_cons]
  split <;> simp <;> omega
theorem pinL_length (S : List Int) : (pinL S).length ≤ S.length := pinF_length 0 S
def fl (e : Int) (pre : List (Nat × Int)) : List Bool := pre.foldl (fun l x => l.set (x.1 % 8) (x.2 != e)) (List.replicate 8 false)
theorem fl_length (e : Int) (pre : List (Nat × Int)) : (fl e pre).length = 8 := by
 have : ∀ (pre : List (Nat × Int)) (l : List Bool), (pre.foldl (fun l x => l.set (x.1 % 8) (x.2 != e)) l).length = l.length := by
  intro pre
  induction pre with
  | nil => simp
  | cons x pre ih => intro l; rw [List.foldl_cons, ih, List.length_set]
 unfold fl; rw [this]; simp
theorem fl_snoc (e : Int) (pre : List (Nat × Int)) (x : Nat × Int) : fl e (pre ++ [x]) = (fl e pre).set (x.1 % 8) (x.2 != e) := by
 unfold fl; rw [List.foldl_append]; rfl
def flags (e : Int) (S : List Int) : List Bool := S.map (heldB e) ++ List.replicate (8 - S.length) false
theorem flags_length (e : Int) (S : List Int) (h : S.length ≤ 8) : (flags e S).length = 8 := by simp [flags]; omega
theorem flags_snoc (e : Int) (S : List Int) (s : Int) (h : S.length < 8) : flags e (S ++ [s]) = (flags e S).set S.length (heldB e s) := by
 unfold flags
 rw [List.map_append, List.set_append_right _ _ (by simp), List.length_map, Nat.sub_self, show 8 - S.length = (8 - (S ++ [s]).length) + 1 by simp; omega, List.replicate_succ, List.set_cons_zero]
 simp
theorem fl_flags (e : Int) (S : List Int) (h8 : S.length ≤ 8) (hS : ∀ s ∈ S, s ≤ e + 1) : ∀ k, k ≤ S.length → fl e (pinL (S.take k)) = flags e (S.take k) := by
 intro k
 induction k with
 | zero => intro _; rfl
 | succ k ih =>
  intro hk
  have hl : (S.take k).length = k := by rw [List.length_take]; omega
  have hs := hS S[k] (List.getElem_mem hk)
  rw [pinL_snoc S k hk, List.take_succ_eq_append_getElem hk, flags_snoc e _ _ (by omega), hl]
  by_cases h0 : 0 < S[k]
  ·
   rw [if_pos h0, fl_snoc, ih (by omega), Nat.mod_eq_of_lt (by omega)]
   congr 1
   rw [Bool.eq_iff_iff]; simp [heldB, h0]; omega
  ·
   rw [if_neg h0, List.append_nil, ih (by omega)]
   have hb : heldB e S[k] = false := by simp [heldB, h0]
   rw [hb]
   apply List.ext_getElem?
   intro j
   rw [List.getElem?_set]
   split
   ·
    rename_i hj
    subst hj
    rw [flags_length e (S.take k) (by omega), if_pos (by omega)]
    unfold flags
    rw [List.getElem?_append_right (by simp; omega), List.getElem?_replicate, if_pos (by simp; omega)]
   · rfl
theorem fl_all (e : Int) (S : List Int) (h8 : S.length ≤ 8) (hS : ∀ s ∈ S, s ≤ e + 1) : fl e (pinL S) = flags e S := by
 have h := fl_flags e S h8 hS S.length (Nat.le_refl _)
 rwa [List.take_length] at h
theorem flags_any (e : Int) (S : List Int) : (flags e S).any id = S.any (heldB e) := by
 unfold flags
 rw [List.any_append, List.any_map]
 simp
theorem flags_get (e : Int) (S : List Int) (k : Nat) (hk : k < S.length) : (flags e S)[k]? = some (heldB e S[k]) := by
 unfold flags
 rw [List.getElem?_append_left (by simpa using hk)]
 simp [hk]
theorem flags_out (e : Int) (S : List Int) (k : Nat) (hk : S.length ≤ k) (h8 : k < 8) : (flags e S)[k]? = some false := by
 unfold flags
 rw [List.getElem?_append_right (by simpa using hk), List.getElem?_replicate, if_pos (by simp; omega)]
theorem pinned_any (A : Option Addr) (c n : Nat) (e : Int) (W : World) :
  Calls Tryz.prog 97 #[.agg #[.int .u64 e, .slice A n c]] W fun x W' => x = .returned (.func (.func 125) #[] #[.pointer (some ⟨W.heap.size, 0, none⟩)]) ∧
   RowAt W' W.heap.size 28 #[.int .u64 e, .slice A n c] ∧ Below W.heap.size W W' := by
 have H1 := Hi (RowAt.new W 28 #[.int .u64 e, .slice A n c])
 go_enter Tryz.func97, Tryz.ntmps97
 go_wp2
 go_ret
 exact ⟨rfl, H1.out, (Below.refl _ _).alloc (Nat.le_refl _) _⟩
theorem pinned_seq (K : Nat → Prop) (gp : Nat) (A : Option Addr) (c : Nat) (e : Int) (S : List Int) (w : World) (hk : RowAt w gp 28 #[.int .u64 e, .slice A S.length c])
  (hKlt : ∀ j, K j → j < w.heap.size) (hr : Rd w w.heap.size 1 A S.length (Cs encW S)) (hKb : ∀ p, A = some p → 0 < S.length → K p.block) (hl : S.length ≤ 8) (hS : ∀ s ∈ S, U64 s) :
  Seq3 Tryz.prog 125 #[.pointer (some ⟨gp, 0, none⟩)] encP K (fun ys => ys = pinL S) (fun pre => ∃ r, pre ++ r = pinL S) (fun _ => False) [] S.length w := by
 intro l J Jx W hbW hJ hJx hY h0
 have HR := Hi hr
 have hkW := row21 (hk.below hbW)
 have hkl := (hk.below hbW).lt
 have HCW := Hi (fun j (hj : K j) => hbW.block j (hKlt j hj))
 have hszW := hbW.size
 have HKB := Hi hKb
 have HKL := Hi hKlt
 have HJ := Hi hJ
 have HY := Hi hY
 have H0 := Hi h0
 have HU := Hi hS
 clear hr hk hJ hJx hY h0 hKb hKlt hS
 refine (callsIn_wide (n := 4)).1 (callsIn_of_wp Tryz.func125 rfl trivial ?_ rfl)
 simp only [Tryz.ntmps125, List.size_toArray, List.length_cons, List.length_nil, Nat.reduceAdd, Nat.reduceSub, Array.replicate_succ, Array.replicate_zero, List.push_toArray, List.append_toArray, List.nil_append, List.cons_append]
 gi_wp2
 gi_loopw [8] (fun i wr => ∃ k : Nat, k ≤ S.length ∧ i = .int .i64 k ∧ J (pinL (S.take k)) wr ∧ (∀ j, K j → wr.heap[j]? = W.heap[j]?)) (fun i _ => S.length - (intOf i).toNat)
 case atStart => exact ⟨0, Nat.zero_le _, rfl, H0.out, fun _ _ => rfl⟩
 case round =>
  obtain ⟨k, hk, rfl, hj, hkeep⟩ := hrel
  have HKP := Hi hkeep
  have HJk := Hi hj
  clear hkeep hj
  by_cases hlt : k < S.length
  ·
   obtain ⟨b1, o1, rfl, hb1, hc1⟩ := HR.out.elem encW_len hlt
   have hKb1 := HKB.out _ rfl (by omega)
   have hbh : wr.heap[b1]? = w.heap[b1]? := (HKP.out b1 hKb1).trans (HCW.out b1 hKb1)
   have hd10 := (cell_of_heap (p := ⟨b1, o1 + k * 1 + 0, none⟩) hbh).trans (hc1 0 _ (by omega) rfl)
   simp only [Nat.mul_one, Nat.add_zero] at hd10
   have hb1r : b1 < wr.heap.size := by
    rw [Array.getElem?_eq_getElem hb1] at hbh
    exact (Array.getElem?_eq_some_iff.1 hbh).1
   have HL := Hi (Nat.le_trans (pinL_length (S.take k)) (List.length_take_le _ _))
   have HS := Hi (pinL_snoc S k hlt)
   have HE := Hi (show pinL S = pinL (S.take (k + 1)) ++ pinF (0 + (S.take (k + 1)).length) (S.drop (k + 1)) by
    unfold pinL; rw [← pinF_append, List.take_append_drop])
   have HUx := Hi (HU.out _ (List.getElem_mem hlt))
   have hk8 : k % 8 = k := Nat.mod_eq_of_lt (by omega)
   have HK8 := Hi hk8
   generalize S[k] = s at *
   clear hc1 hbh hk8
   by_cases hs : 0 < s
   ·
    rw [if_pos hs] at HS
    have u0 : (0 : Int) ≤ s - 1 := by omega
    have u1 : s - 1 < 18446744073709551616 := by have := HUx.out; unfold U64 at this; omega
    obtain ⟨fn, tmps, assign, body, hy, hR⟩ := HY.out (pinL (S.take k)) (k, s - 1) _ HJk.out (Nat.lt_of_le_of_lt HL.out hlt)
    dsimp only [encP] at hy
    rw [HK8.out] at hy
    gi_wp2
    refine hR.mono ?_
    rintro e W3 (⟨rfl, hJ3, hk3⟩ | ⟨rfl, hJx3⟩)
    ·
     rw [← HS.out] at hJ3
     have HJ3 := Hi hJ3
     have HK3 : Hid (∀ j, K j → W3.heap[j]? = W.heap[j]?) := Hi (fun j hj => (hk3 j hj).trans (HKP.out j hj))
     clear hJ3 hk3
     gi_wp2
     go_roundw
     case rel => exact ⟨k + 1, by omega, by go_num, HJ3.out, HK3.out⟩
     case measure => simp [intOf]; omega
    ·
     rw [← HS.out] at hJx3
     have HJ3 := Hi hJx3
     clear hJx3
     gi_wp2
     refine bodyPost_ret (results_none rfl _ _ _) rfl ?_
     exact .inl ⟨_, rfl, .inr ⟨_, ⟨_, HE.out.symm⟩, HJ3.out⟩⟩
   ·
    rw [if_neg hs, List.append_nil] at HS
    have hbe : decide (0 < s) = false := by simpa using hs
    have HJ1 := HJk
    rw [← HS.out] at HJ1
    clear hs
    gi_wp2
    refine ⟨by simp, ?_⟩
    gi_wp2
    go_roundw
    case rel => exact ⟨k + 1, by omega, by go_num, HJ1.out, HKP.out⟩
    case measure => simp [intOf]; omega
  ·
   gi_wp2
   go_end0
   obtain rfl : k = S.length := by omega
   have h1 := HJk.out
   rw [List.take_length] at h1
   exact .inl ⟨_, rfl, .inl ⟨_, rfl, h1⟩⟩
end Go.Proofs.YtkicidopjihjmaaGreat.Pn
set_option maxRecDepth 20000
namespace Go.Proofs.YtkicidopjihjmaaGreat.Pn
open Go Go.RowKit
attribute [local go_sem] Oper.semAt_some
def FlSt (ko : Nat) (e : Int) (pre : List (Nat × Int)) (W : World) : Prop := RowAt W ko 112 (Cs encB (fl e pre)).toArray
theorem FlSt.stays (ko : Nat) (e : Int) : Stays (FlSt ko e) := fun _ _ _ h hl => h.lie hl
theorem encB_cells (l : List Bool) (k : Nat) (hk : k < l.length) : (Cs encB l)[k]? = some (.bool l[k]) := by
 have h := Cs_at encB_len l k 0 hk (by omega)
 simpa [encB] using h
theorem encB_set (l : List Bool) (k : Nat) (b : Bool) : (Cs encB l).set k (.bool b) = Cs encB (l.set k b) := by
 have h : ∀ l : List Bool, Cs encB l = l.map Value.bool := fun l => by induction l with
  | nil => rfl
  | cons x l ih => simp [Cs, encB] at ih ⊢; exact ih
 rw [h, h, List.map_set]
def PlainAct (ps : Array Tmp) (vs : Array Value) (s1 s2 : Nat) (v1 v2 : Value) (T : Array Value) (a' : Act) : Prop := a' = { tmps := (((ps.zip vs).foldl (fun t (p, v) => t.setIfInBounds p v) T).setIfInBounds s1 v1).setIfInBounds s2 v2, defers := [] }
set_option maxRecDepth 100000 in
theorem back_any (A : Option Addr) (c n : Nat) (e : Int) (S : List Int) (W : World) (h : Rd W W.heap.size 1 A n (Cs encW S)) (hx : S.length = n) (hS : ∀ s ∈ S, U64 s) (ho : pOk e S = true) :
  Calls Tryz.prog 62 #[.agg #[.int .u64 e, .slice A n c]] W fun x W' => x = .returned (.agg (Cs encB (flags e S)).toArray) ∧ Below W.heap.size W W' := by
 obtain ⟨g1, g8, _, gS⟩ := pOk_out ho
 have hn : n ≤ 8 := by omega
 have HFL := Hi (fl_all e S g8 gS)
 have HX := Hi hx
 have HS := Hi hS
 have HH := Hi h
 obtain ⟨w1, hw1⟩ : ∃ w1, W.alloc (.cells #[.int .u64 e, .slice A n c] 28) = w1 := ⟨_, rfl⟩
 obtain ⟨w2, hw2⟩ : ∃ w2, w1.alloc (.cells #[.bool false, .bool false, .bool false, .bool false, .bool false, .bool false, .bool false, .bool false] 112) = w2 := ⟨_, rfl⟩
 obtain ⟨w3, hw3⟩ : ∃ w3, w2.alloc (.cells #[.bool false, .bool false, .bool false, .bool false, .bool false, .bool false, .bool false, .bool false] 112) = w3 := ⟨_, rfl⟩
 have s1 : w1.heap.size = W.heap.size + 1 := by rw [← hw1]; simp
 have s2 : w2.heap.size = W.heap.size + 1 + 1 := by rw [← hw2]; simp [s1]
 have s3 : w3.heap.size = W.heap.size + 1 + 1 + 1 := by rw [← hw3]; simp [s2]
 have b1 := baw hw1
 have b2 := baw hw2
 have b3 := baw hw3
 have r1 : RowAt w3 W.heap.size 28 #[.int .u64 e, .slice A n c] := by have h := RowAt.new W 28 #[.int .u64 e, .slice A n c]; rw [hw1] at h; exact (h.below b2).below b3
 have r2 : RowAt w3 (W.heap.size + 1) 112 #[.bool false, .bool false, .bool false, .bool false, .bool false, .bool false, .bool false, .bool false] := by have h := RowAt.new w1 112 #[.bool false, .bool false, .bool false, .bool false, .bool false, .bool false, .bool false, .bool false]; rw [hw2, s1] at h; exact h.below b3
 have r3 : RowAt w3 (W.heap.size + 1 + 1) 112 (Cs encB (fl e [])).toArray := by have h := RowAt.new w2 112 #[.bool false, .bool false, .bool false, .bool false, .bool false, .bool false, .bool false, .bool false]; rw [hw3, s2] at h; exact h
 have hb0 : Below W.heap.size W w3 := (b1.trans (b2.mono b1.size)).trans (b3.mono (by omega))
 have HB := Hi hb0
 have R1 := Hi r1
 have R2 := Hi r2
 have R3 := Hi r3
 have q0 := row20 r1
 have q1 := row21 r1
 have l1 := r1.lt
 refine calls_of_wp_marks Tryz.func62 rfl ?_
 simp only [Tryz.ntmps62, List.size_toArray, List.length_cons, List.length_nil, Nat.reduceAdd, Nat.reduceSub, Array.replicate_succ, Array.replicate_zero, List.push_toArray, List.append_toArray, List.nil_append, List.cons_append]
 clear b1 b2 b3 hb0 r1 r2 r3 h hx hS ho gS
 go_wp2_with fail
 clear hw1 hw2 hw3 s1 s2
 refine (pinned_any A c n e w3).mono ?_
 rintro x w5 ⟨rfl, hra, hb⟩
 have HB5 := bt HB hb
 replace R1 := Hi (R1.out.below hb)
 replace R2 := Hi (R2.out.below hb)
 replace R3 := Hi (R3.out.below hb)
 have hla := hra.lt
 have hr5 := (HH.out.below HB5.out).more HB5.out.size
 have hseq := pinned_seq (fun j => j < W.heap.size + 1 + 1 ∧ j < w5.heap.size) w3.heap.size A c e S w5 (by rw [HX.out]; exact hra) (fun j hj => hj.2) (by rw [HX.out]; exact hr5) (fun p hp hpos => by
  subst hp
  obtain ⟨b, off, e, hb1, _⟩ := HH.out.2 (by rw [← HX.out]; exact hpos)
  injection e with e
  subst e
  exact ⟨by show b < _; omega, by show b < _; omega⟩) g8 HS.out
 rw [s3] at hseq hla ⊢
 clear hb hra hr5 q0 q1 l1
 go_wp2_with fail
 refine wp_range (gf := 125) (lb := #[.pointer (some ⟨W.heap.size + 1 + 1 + 1, 0, none⟩)]) rfl (enters_of Tryz.func125 (by kernel_rfl) rfl) hseq (W.heap.size + 1 + 1) (by omega) (fun j hj => hj.2) (Below.refl _ _) (fun _ => rfl)
  (FlSt (W.heap.size + 1 + 1) e) (fun _ _ _ => False) (FlSt.stays _ _) (fun _ _ _ _ h _ => h) R3.out
  (fun T x a' W2 => PlainAct #[8, 9] (encP x) 4 5 (.int .i64 ((x.1 % 8 : Nat) : Int)) (.int .u64 x.2) T a') (fun T a' => fun _ _ _ h _ => h) ?assign ?body ?done ?stop ?panic
 case assign =>
  intro l pre x W2 R hI hb hs hlen hR
  dsimp only [encP] at hR ⊢
  gi_wp2
  exact hR _ _ (KeepsOthers.refl _) (Below.refl _ _) (fun j hj => rfl) hI (by simp [PlainAct, encP])
 case body =>
  rintro l pre x a' W2 hrow hpa hb hs hlen
  have hpa : a' = _ := hpa
  subst hpa
  dsimp only [encP]
  have hk8 : x.1 % 8 < 8 := Nat.mod_lt _ (by omega)
  have HSN := Hi (fl_snoc e pre x)
  have hlen8 := fl_length e pre
  have hrow' : RowAt W2 (W.heap.size + 1 + 1) 112 (Cs encB (fl e pre)).toArray := hrow
  obtain ⟨k, q⟩ := x
  dsimp only at hk8 HSN ⊢
  generalize k % 8 = k at *
  have c0 := hrow'.cell k
  rw [List.getElem?_toArray, encB_cells _ k (by omega)] at c0
  have f0 := hrow'.frozen k
  have l0 := hrow'.lt
  have hk8I : (k : Int) < 8 := by omega
  have HR := Hi hrow'
  have r1 := RowAt.belowB R1.out (by omega) hb
  have q0 := row20 r1
  have l1 := r1.lt
  clear hrow hrow' r1
  gi_wp2
  refine ⟨KeepsOthers.setCell _ _ _, (Below.refl (W.heap.size + 1 + 1) W2).setCell (p := ⟨W.heap.size + 1 + 1, k, none⟩) (Nat.le_refl _) _, fun j hj => heap_setCell_ne _ _ _ _ (by have := hj.1; simp; omega), ?_⟩
  have h := HR.out.set k (.bool (q != e))
  rw [List.setIfInBounds_toArray, encB_set] at h
  unfold FlSt
  rw [HSN.out]
  exact h
 case done =>
  rintro ys W2 rfl hrow hb hs hD
  have hrow' : RowAt W2 (W.heap.size + 1 + 1) 112 (Cs encB (flags e S)).toArray := by rw [← HFL.out]; exact hrow
  have hl8 := flags_length e S g8
  have r2 := RowAt.belowB R2.out (by omega) hb
  have HD := Hi hD
  have HBF := Hi (HB5.out.trans (hb.mono (by omega)))
  obtain ⟨X, hX⟩ : ∃ X, (Cs encB (flags e S)).toArray = X := ⟨_, rfl⟩
  have hXs : X.size = 8 := by rw [← hX]; simp [Cs_length encB_len, hl8]
  have hX1 : X.all (·.oneCell') = true := by
   rw [← hX, Array.all_eq_true_iff_forall_mem]
   intro v hv
   exact Cs_one_cell (enc := encB) (by intro x u hu; simp [encB] at hu; subst hu; rfl) (flags e S) v (by simpa using hv)
  rw [hX] at hrow'
  have HXX := Hi hX
  have INF : Hid ((Tryz.prog.info? 112).map (·.size) = some X.size) := Hi (by rw [hXs]; kernel_rfl)
  have INF8 : Hid ((#[.bool false, .bool false, .bool false, .bool false, .bool false, .bool false, .bool false, .bool false] : Array Value).size = X.size) := Hi (by rw [hXs]; rfl)
  have HX1 := Hi hX1
  have R3 := Hi hrow'
  have R2 := Hi r2
  clear hrow hrow' r2 hb hD hl8 hXs hX1 hX
  unfold marked
  go_wp2_with (first
   | (refine wpList_load_row rfl 112 _ rfl (W.heap.size + 1 + 1) rfl 112 X (0, 0) _ R3.out Tryz.underlying112 rfl INF.out ?_)
   | (refine wpList_store_rowAt rfl 112 _ _ rfl (W.heap.size + 1) 112 _ X rfl rfl R2.out INF8.out INF.out HX1.out ?_; intro w8 hr8 hp8; have HR8 := Hi hr8; have HP8 := Hi hp8; clear hr8 hp8))
  have hD8 : w8.heap[w5.heap.size]? = some (.deferred (some [])) := (HP8.out.block _ (by have := HB5.out.size; omega) hs).trans HD.out
  refine ⟨by simp, .inl ⟨_, _, rfl, run_takeDeferred hD8, ?_⟩⟩
  have hr9 : RowAt (w8.putObj w5.heap.size (.deferred none)) (W.heap.size + 1) 112 X := RowAt.lie HR8.out (CellsLie.putObj _ hD8 rfl)
  refine ⟨_, results_cell_row Tryz.results62 _ _ (W.heap.size + 1) 112 X (0, 0) _ rfl hr9 Tryz.underlying112 rfl INF.out, by rw [HXX.out], ?_⟩
  exact (HBF.out.trans (HP8.out.below.mono (by omega))).trans (below_putObj (o := .deferred (some [])) _ (by have := HB5.out.size; omega))
 case stop =>
  rintro c pre W _ h
  exact h.elim
 case panic =>
  rintro pre W h
  exact h.elim
end Go.Proofs.YtkicidopjihjmaaGreat.Pn
set_option maxRecDepth 20000
namespace Go.Proofs.YtkicidopjihjmaaGreat.Pn
open Go Go.RowKit
attribute [local go_sem] via_cell via_frozen
theorem back_step (e : Int) (S : List Int) (j : Nat) (b : Bool) (h8 : j < 8) (h : (flags e S)[j]? = some b) : backL e (S.take (j + 1)) = backL e (S.take j) ++ if b = true then [(j : Int)] else [] := by
 by_cases hj : j < S.length
 ·
  rw [flags_get e S j hj] at h
  injection h with h
  subst h
  exact backL_snoc e S j hj
 ·
  rw [flags_out e S j (by omega) h8] at h
  injection h with h
  subst h
  rw [List.take_of_length_le (by omega), List.take_of_length_le (by omega)]
  simp
theorem rBack_any (A : Option Addr) (c n : Nat) (e : Int) (S : List Int) (W : World) (h : Rd W W.heap.size 1 A n (Cs encW S)) (hx : S.length = n) (hS : ∀ s ∈ S, U64 s) (hn : n ≤ 4096) (m : Nat) (hm : (backL e S).length = m) :
  Calls Tryz.prog 142 #[.agg #[.int .u64 e, .slice A n c]] W fun x W' => ∃ A' c', x = .returned (.slice A' m c') ∧ m ≤ c' ∧ c' ≤ 9223372036854775807 ∧ Rd W' W'.heap.size 1 A' m (Cs encI (backL e S)) ∧ Below W.heap.size W W' := by
 subst hx hm
 have HS := Hi hS
 clear hS
 go_enter Tryz.func142, Tryz.ntmps142
 go_wp2_with fail
 have hb0 := ba W (.cells #[.int .u64 e, .slice A S.length c] 28)
 have r1 : RowAt (W.alloc (.cells #[.int .u64 e, .slice A S.length c] 28)) W.heap.size 28 #[.int .u64 e, .slice A S.length c] := RowAt.new _ _ _
 have hs0 : (W.alloc (.cells #[.int .u64 e, .slice A S.length c] 28)).heap.size = W.heap.size + 1 := by simp
 generalize W.alloc _ = w0 at *
 have H0 := Hi hb0
 have H1 := Hi r1
 clear hb0 r1
 go_loopw [3, 9] (fun v i wr => ∃ j : Nat, j ≤ S.length ∧ i = .int .i64 j ∧ RowAt wr W.heap.size 28 #[.int .u64 e, .slice A S.length c] ∧ wr.ownsRow (W.heap.size + 1) 3 1 v (backL e (S.take j)).length (Cs encI (backL e (S.take j))) ∧ Below W.heap.size W wr) (fun _ i _ => S.length - (intOf i).toNat)
 case atStart => exact ⟨0, Nat.zero_le _, rfl, H1.out, World.ownsRow_nil _ _ _ _, H0.out⟩
 case round =>
  obtain ⟨j, hj, rfl, hr1, hown, hbw⟩ := hrel
  have HB := Hi hbw
  have HO := Hi hown
  have R1 := Hi hr1
  have hsz : W.heap.size < wr.heap.size := hr1.lt
  have x0 := row20 hr1
  have x1 := row21 hr1
  clear hr1 hown hbw
  by_cases hlt : j < S.length
  ·
   obtain ⟨b1, o1, rfl, hb1, hc1⟩ := (h.below HB.out).elem encW_len hlt
   have hd10 := hc1 0 _ (by omega) rfl
   simp only [Nat.mul_one, Nat.add_zero] at hd10
   clear hc1
   have hbl1 : b1 < wr.heap.size := by omega
   have HSt := Hi (backL_snoc e S j hlt)
   have HU := Hi (HS.out _ (List.getElem_mem hlt))
   have hle := backL_length e (S.take j)
   have hlt2 : (S.take j).length ≤ 4096 := by rw [List.length_take]; omega
   generalize S[j] = s at *
   by_cases h0 : 0 < s
   ·
    have u0 : (0 : Int) ≤ s - 1 := by omega
    have u1 : s - 1 < 18446744073709551616 := by have := HU.out; unfold U64 at this; omega
    by_cases hse : s - 1 < e
    ·
     have HH := Hi (show heldB e s = true by simp [heldB]; omega)
     have HRN := Hi (Rd.new wr #[.int .i64 (j : Int)] 3 1 1 rfl)
     go_wp2_with (at_builtin; refine wpList_app elI rfl _ _ rfl rfl (HO.out.alloc _) rfl HRN.out (by simp [Value.oneCell']) (by omega) (by simp; omega) ?_; intro v2 w2 hown2 hb3 _ _; have HB4 := Hi (((Below.refl (W.heap.size + 1) wr).alloc (by omega) (.cells #[.int .i64 (j : Int)] 3)).trans hb3); have HO4 := Hi hown2; clear hown2 hb3)
     go_roundw
     case rel =>
      refine ⟨j + 1, by omega, by go_num, R1.out.belowB (by omega) HB4.out, ?_, HB.out.trans (HB4.out.mono (by omega))⟩
      rw [HSt.out, if_pos HH.out, Cs_append, List.length_append]
      exact HO4.out
     case measure => simp [intOf]; omega
    ·
     have hse' : decide (s - 1 < e) = false := by simp; omega
     have HH := Hi (show ¬ heldB e s = true by simp [heldB]; omega)
     go_wp2_with fail
     go_roundw
     case rel => exact ⟨j + 1, by omega, by go_num, R1.out, by rw [HSt.out, if_neg HH.out, List.append_nil]; exact HO.out, HB.out⟩
     case measure => simp [intOf]; omega
   ·
    have h0' : decide (0 < s) = false := by simp; omega
    have HH := Hi (show ¬ heldB e s = true by simp [heldB]; omega)
    go_wp2_with fail
    go_roundw
    case rel => exact ⟨j + 1, by omega, by go_num, R1.out, by rw [HSt.out, if_neg HH.out, List.append_nil]; exact HO.out, HB.out⟩
    case measure => simp [intOf]; omega
  ·
   obtain rfl : j = S.length := by omega
   have h := HO.out
   rw [List.take_length] at h
   obtain ⟨A3, c3, rfl, hc3, hcm3⟩ := own_form2 h
   have H := Hi (Rd.of_own h)
   clear h
   go_wp2_with fail
   go_ret
   exact ⟨A3, c3, rfl, hc3, hcm3, H.out, HB.out⟩
end Go.Proofs.YtkicidopjihjmaaGreat.Pn
set_option maxRecDepth 20000
namespace Go.Proofs.YtkicidopjihjmaaGreat.Pn
open Go Go.RowKit
attribute [local go_sem] Oper.semAt_some
def mnStep (o : Option Int) (x : Nat × Int) : Option Int := match o with | none => some x.2 | some m => if x.2 < m then some x.2 else some m
def mnP (pre : List (Nat × Int)) : Option Int := pre.foldl mnStep none
def OldSt (g : Nat) (pre : List (Nat × Int)) (W : World) : Prop := RowAt W g 25 #[.int .u64 ((mnP pre).getD 0)] ∧ RowAt W (g + 1) 4 #[.bool (mnP pre).isSome]
theorem OldSt.stays (g : Nat) : Stays (OldSt g) := fun _ _ _ h hl => ⟨h.1.lie hl, h.2.lie hl⟩
end Go.Proofs.YtkicidopjihjmaaGreat.Pn
set_option maxRecDepth 20000
namespace Go.Proofs.YtkicidopjihjmaaGreat.Pn
open Go Go.RowKit
attribute [local go_sem] via_cell via_frozen
structure HandP (w : World) (gh gs n : Nat) (e : Int) (S : List Int) : Prop where
 len : S.length = n
 ne : gs ≠ gh
 box : RowAt w gh 186 #[.int .u64 e, .slice (some ⟨gs, 0, none⟩) n n]
 row : RowAt w gs 25 (Cs encW S).toArray
theorem HandP.rd {w : World} {gh gs n : Nat} {e : Int} {S : List Int} (h : HandP w gh gs n e S) : Rd w w.heap.size 1 (some ⟨gs, 0, none⟩) n (Cs encW S) := by
 refine ⟨by rw [Cs_length encW_len, h.len], fun _ => ⟨gs, 0, rfl, h.row.lt, fun j u hu => ?_⟩⟩
 rw [Nat.zero_add, h.row.cell]
 simpa using hu
theorem HandP.below {w w' : World} {gh gs n : Nat} {e : Int} {S : List Int} (h : HandP w gh gs n e S) (hb : Below w.heap.size w w') : HandP w' gh gs n e S := ⟨h.len, h.ne, h.box.below hb, h.row.below hb⟩
theorem HandP.cell {w : World} {gh gs n : Nat} {e : Int} {S : List Int} (h : HandP w gh gs n e S) {k : Nat} (hk : k < n) : w.cell? ⟨gs, k, none⟩ = some (.int .u64 (S.getD k 0)) := by
 have hk' : k < S.length := by rw [h.len]; exact hk
 rw [h.row.cell]
 have := Cs_at encW_len S k 0 hk' (by omega)
 rw [List.getD_eq_getElem?_getD, List.getElem?_eq_getElem hk']
 simpa [encW] using this
theorem encW_set (l : List Int) (k : Nat) (b : Int) : (Cs encW l).set k (.int .u64 b) = Cs encW (l.set k b) := by
 have h : ∀ l : List Int, Cs encW l = l.map (Value.int .u64) := fun l => by induction l with
  | nil => rfl
  | cons x l ih => simp [Cs, encW] at ih ⊢; exact ih
 rw [h, h, List.map_set]
theorem HandP.set {w : World} {gh gs n : Nat} {e : Int} {S : List Int} (h : HandP w gh gs n e S) (k : Nat) (v : Int) : HandP (w.setCell ⟨gs, k, none⟩ (.int .u64 v)) gh gs n e (S.set k v) := by
 refine ⟨by rw [List.length_set, h.len], h.ne, h.box.setNe (Ne.symm h.ne), ?_⟩
 have := h.row.set k (.int .u64 v)
 rw [List.setIfInBounds_toArray, encW_set] at this
 exact this
theorem HandP.setE {w : World} {gh gs n : Nat} {e : Int} {S : List Int} (h : HandP w gh gs n e S) (v : Int) : HandP (w.setCell ⟨gh, 0, none⟩ (.int .u64 v)) gh gs n v S :=
 ⟨h.len, h.ne, h.box.set 0 (.int .u64 v), h.row.setNe h.ne⟩
def OwnRes (W : World) (n : Nat) (e : Int) (S : List Int) (x : Ending) (W' : World) : Prop := ∃ gh gs, x = .returned (.pointer (some ⟨gh, 0, none⟩)) ∧ HandP W' gh gs n e S ∧ W.heap.size ≤ gh ∧ W.heap.size ≤ gs ∧ Below W.heap.size W W'
theorem powns_any (A : Option Addr) (c n : Nat) (e : Int) (S : List Int) (W : World) (h : Rd W W.heap.size 1 A n (Cs encW S)) (hx : S.length = n) (hn : 1 ≤ n) (hl : n ≤ 4096) :
  Calls Tryz.prog 149 #[.agg #[.int .u64 e, .slice A n c]] W (OwnRes W n e S) := by
 obtain ⟨i0, hi0, hz0, hz1, hz2⟩ := info_parts elW.info
 have hmk := fun w => run_make_rowN (P := Tryz.prog) 26 25 i0 _ Tryz.underlying26 hi0 hz0 .i64 .i64 n n (Nat.le_refl _) (by rw [hz2]; omega) (by omega) w
 rw [hz1, Nat.mul_one] at hmk
 clear hi0 hz0 hz1 hz2
 obtain ⟨w1, hw1⟩ : ∃ w1, W.alloc (.cells #[.int .u64 e, .slice A n c] 28) = w1 := ⟨_, rfl⟩
 have hb1 := baw hw1
 have r1 : RowAt w1 W.heap.size 28 #[.int .u64 e, .slice A n c] := by rw [← hw1]; exact RowAt.new _ _ _
 obtain ⟨M, hM⟩ : ∃ M, madeCells (Value.int .u64 0).cells n = M := ⟨_, rfl⟩
 have hM2 : madeCells #[.int .u64 0] n = M := by rw [← hM]; rfl
 have hMs : M.size = n := by rw [← hM]; simp [madeCells]
 have HH := Hi h
 have HX := Hi hx
 have HB := Hi hb1
 have q0 := row20 r1
 have q1 := row21 r1
 have l1 := r1.lt
 have R1 := Hi r1
 clear h hx hb1 r1
 go_enter Tryz.func149, Tryz.ntmps149
 go_wp2_with fail
 clear hw1
 have hbd0 : Below w1.heap.size w1 w1.drew := (Below.refl _ _).drew
 have HN : Hid (∀ w', Below w1.heap.size w1 w' → (Below w1.heap.size w1 w' ∧ w'.cell? ⟨W.heap.size, 0, none⟩ = some (.int .u64 e) ∧ w'.cell? ⟨W.heap.size, 1, none⟩ = some (.slice A n c))) := Hi (fun w' hb => ⟨hb, kept hb q0, kept hb q1⟩)
 go_region_held3 (fun wX => Below w1.heap.size w1 wX ∧ wX.cell? ⟨W.heap.size, 0, none⟩ = some (.int .u64 e) ∧ wX.cell? ⟨W.heap.size, 1, none⟩ = some (.slice A n c))
  (first | exact HN.out _ hbd0 | exact HN.out _ (((Below.refl _ _).alloc (Nat.le_refl _) _).drew) | exact HN.out _ ((((Below.refl _ _).alloc (Nat.le_refl _) _).alloc (by simp) _).drew) | go_keep)
  (fail)
 obtain ⟨gs, hgs⟩ : ∃ g, w1.heap.size = g := ⟨_, rfl⟩
 have hb3 : Below w1.heap.size w1 ((w1.alloc (.cells M 25)).alloc (.cells #[.int .u64 e, .slice (some ⟨w1.heap.size, 0, none⟩) n n] 186)).drew := (((Below.refl _ _).alloc (Nat.le_refl _) _).alloc (by simp) _).drew
 have r5 : RowAt ((w1.alloc (.cells M 25)).alloc (.cells #[.int .u64 e, .slice (some ⟨w1.heap.size, 0, none⟩) n n] 186)).drew gs 25 M := by
  rw [← hgs]; exact ((RowAt.new w1 25 M).below ((Below.refl _ _).alloc (Nat.le_refl _) _)).drew
 have r6 : RowAt ((w1.alloc (.cells M 25)).alloc (.cells #[.int .u64 e, .slice (some ⟨w1.heap.size, 0, none⟩) n n] 186)).drew (gs + 1) 186 #[.int .u64 e, .slice (some ⟨gs, 0, none⟩) n n] := by
  have h := RowAt.new (w1.alloc (.cells M 25)) 186 #[.int .u64 e, .slice (some ⟨w1.heap.size, 0, none⟩) n n]
  rw [World.size_alloc, hgs] at h
  rw [hgs]
  exact h.drew
 have hWgs : W.heap.size < gs := by omega
 replace R1 := Hi (R1.out.below hb3)
 have HB3 := bt HB hb3
 have HR5 := Hi r5
 have HR6 := Hi r6
 rw [hgs] at HB3 HR5 HR6 R1 ⊢
 clear hb3 r5 r6 HN hbd0 q0 q1 hgs hM hM2 hmk
 rename_i hHeld
 clear hHeld
 generalize ((w1.alloc (.cells M 25)).alloc (.cells #[.int .u64 e, .slice (some ⟨gs, 0, none⟩) n n] 186)).drew = w3 at *
 have a0 := row21 R1.out
 have x0 := row21 HR6.out
 have la := R1.out.lt
 have lx := HR6.out.lt
 go_wp2_with fail
 refine wp_region_tail 7 (by kernel_rfl) (by kernel_rfl) ?_
 simp only [List.take_succ_cons, List.take_zero, List.drop_succ_cons, List.drop_zero]
 repeat (go_big_quiet_step (fail))
 refine tail_out fun w7 hb7 => ?_
 have hl7 := hb7.size
 refine wpList_copyRow rfl _ _ 26 26 rfl 25 1 Tryz.underlying26 (by kernel_rfl) gs n n c W.heap.size A rfl rfl (by omega) M 25 (HR5.out.below hb7) (Cs encW S) (HH.out.below (HB3.out.trans (hb7.mono HB3.out.size))) (by rw [HH.out.1, hMs, Nat.mul_one]) (Cs_one_cell encW_one _) ?_
 intro w8 hrow8 hp8
 have hsz8 := hp8.size
 have hx6 : RowAt w8 (gs + 1) 186 #[.int .u64 e, .slice (some ⟨gs, 0, none⟩) n n] := (hp8.block _ (by omega) (by omega)).trans (HR6.out.below hb7)
 have HH8 := Hi (show HandP w8 (gs + 1) gs n e S from ⟨HX.out, by omega, hx6, hrow8⟩)
 have HBF := Hi ((HB3.out.trans (hb7.mono HB3.out.size)).trans (hp8.below.mono (by omega)))
 clear a0 x0 la lx HR5 HR6 hb7 hrow8 hp8 hx6 R1 hl7 HB HB3
 go_wp2_with fail
 go_ret
 exact ⟨gs + 1, gs, rfl, HH8.out, by omega, by omega, HBF.out⟩
def SlotRes (W : World) (gs n : Nat) (g : Int) (x : Ending) (W' : World) : Prop :=
 Below W.heap.size W W' ∧ ((∃ k : Nat, g = k ∧ k < n ∧ x = .returned (.pointer (some ⟨gs, k, none⟩))) ∨ ((g < 0 ∨ (n : Int) ≤ g) ∧ x = .panicked (errX 2)))
theorem slot_any (gh gs n : Nat) (e : Int) (S : List Int) (k g b : Int) (W : World) (h : HandP W gh gs n e S) (hn : n ≤ 4096) :
  Calls Tryz.prog 165 #[.pointer (some ⟨gh, 0, none⟩), .agg #[.int .i64 k, .int .i64 g, .int .u64 b]] W (SlotRes W gs n g) := by
 have hb1 := ba W (.cells #[.int .i64 k, .int .i64 g, .int .u64 b] 155)
 have h1 := h.below hb1
 have r1 : RowAt (W.alloc (.cells #[.int .i64 k, .int .i64 g, .int .u64 b] 155)) W.heap.size 155 #[.int .i64 k, .int .i64 g, .int .u64 b] := RowAt.new _ _ _
 have hx0 := row21 h1.box
 have e1 := r1.cell 1
 simp only [List.getElem?_toArray, List.getElem?_cons_succ, List.getElem?_cons_zero] at e1
 have hl1 := h1.box.lt
 have hl2 := r1.lt
 have hl3 := h1.row.lt
 have HB := Hi hb1
 have HH := Hi h1
 clear hb1 h h1 r1
 by_cases hg0 : 0 ≤ g
 ·
  obtain ⟨j, rfl⟩ := Int.eq_ofNat_of_zero_le hg0
  by_cases hjn : j < n
  ·
   have hjI : (j : Int) < (n : Int) := by omega
   go_enter Tryz.func165, Tryz.ntmps165
   go_wp2_with fail
   generalize W.alloc _ = w1 at *
   refine wp_region_tail 14 (by kernel_rfl) (by kernel_rfl) ?_
   simp only [List.take_succ_cons, List.take_zero, List.drop_succ_cons, List.drop_zero]
   repeat (go_big_quiet_step (fail))
   refine tail_out fun w2 hb2 => ?_
   have hz2 : gs < w2.heap.size := Nat.lt_of_lt_of_le hl3 hb2.size
   have z1 : gh < w2.heap.size := Nat.lt_of_lt_of_le hl1 hb2.size
   have z2 : W.heap.size < w2.heap.size := Nat.lt_of_lt_of_le hl2 hb2.size
   have g0 := kept hb2 hx0
   have k1 := kept hb2 e1
   have HB2 := bt HB hb2
   clear hb2 hx0 e1
   go_wp2_with fail
   refine (need_ok 2 _).mono ?_
   rintro x w3 ⟨rfl, rfl⟩
   go_wp2_with fail
   go_quiet (fail)
   go_wp2_with fail
   go_ret
   exact ⟨below_drewN HB2.out _, .inl ⟨j, rfl, hjn, rfl⟩⟩
  ·
   have hjI : decide ((j : Int) < (n : Int)) = false := by simp; omega
   go_enter Tryz.func165, Tryz.ntmps165
   go_wp2_with fail
   generalize W.alloc _ = w1 at *
   refine wp_region_tail 14 (by kernel_rfl) (by kernel_rfl) ?_
   simp only [List.take_succ_cons, List.take_zero, List.drop_succ_cons, List.drop_zero]
   repeat (go_big_quiet_step (fail))
   refine tail_out fun w2 hb2 => ?_
   have HB2 := bt HB hb2
   clear hb2 hx0 e1
   go_wp2_with fail
   refine (need_no 2 _).mono ?_
   rintro x w3 ⟨rfl, rfl⟩
   go_wp2_with fail
   exact ⟨rfl, HB2.out, .inr ⟨.inr (by omega), rfl⟩⟩
 ·
  have hg0' : decide (0 ≤ g) = false := by simp; omega
  go_enter Tryz.func165, Tryz.ntmps165
  go_wp2_with fail
  generalize W.alloc _ = w1 at *
  refine wp_region_tail 14 (by kernel_rfl) (by kernel_rfl) ?_
  simp only [List.take_succ_cons, List.take_zero, List.drop_succ_cons, List.drop_zero]
  repeat (go_big_quiet_step (fail))
  refine tail_out fun w2 hb2 => ?_
  have HB2 := bt HB hb2
  clear hb2 hx0 e1
  go_wp2_with fail
  refine (need_no 2 _).mono ?_
  rintro x w3 ⟨rfl, rfl⟩
  go_wp2_with fail
  exact ⟨rfl, HB2.out, .inr ⟨.inl (by omega), rfl⟩⟩
def ActRes (W : World) (gh gs n : Nat) (E X : Int) (ys : List Int) (x : Ending) (W' : World) : Prop :=
 (E = 0 ∧ x = .returned (.tuple #[]) ∧ HandP W' gh gs n X ys ∧ Past2 gh gs W W') ∨ (E ≠ 0 ∧ x = .panicked (errX E) ∧ Below W.heap.size W W')
theorem unpin_any (gh gs n : Nat) (e : Int) (S : List Int) (g b : Int) (W : World) (h : HandP W gh gs n e S) (hn : n ≤ 4096) (hS : ∀ s ∈ S, U64 s) :
  Calls Tryz.prog 160 #[.pointer (some ⟨gh, 0, none⟩), .agg #[.int .i64 2, .int .i64 g, .int .u64 b]] W (ActRes W gh gs n (dE e S 2 g b) (dX e 2) (dS e S 2 g b)) := by
 have hb1 := ba W (.cells #[.int .i64 2, .int .i64 g, .int .u64 b] 155)
 have HSL := Hi (slot_any gh gs n e S 2 g b _ (h.below hb1) hn)
 have HB := Hi hb1
 have HH := Hi (h.below hb1)
 have HS := Hi hS
 have hghW := h.box.lt
 have hgsW := h.row.lt
 clear hb1 h hS
 go_enter Tryz.func160, Tryz.ntmps160
 go_wp2_with fail
 refine HSL.out.mono ?_
 rintro x w1 ⟨hb, hres⟩
 replace HB := bt HB hb
 replace HH := Hi (HH.out.below hb)
 clear hb HSL
 rcases hres with ⟨k, rfl, hk, rfl⟩ | ⟨ho, rfl⟩
 ·
  have c0 := HH.out.cell hk
  have f0 := HH.out.row.frozen k
  have l0 := HH.out.row.lt
  have hu : U64 (S.getD k 0) := by
   have hk' : k < S.length := by rw [HH.out.len]; exact hk
   rw [List.getD_eq_getElem?_getD, List.getElem?_eq_getElem hk']
   exact HS.out _ (List.getElem_mem hk')
  have HE := Hi (show dE e S 2 k b = if S.getD k 0 = 0 then 4 else 0 by
   unfold dE
   have := HH.out.len
   rw [if_neg (by omega), if_neg (by omega), if_neg (by omega)]; simp)
  generalize S.getD k 0 = s at *
  by_cases hs : 0 < s
  ·
   go_wp2_with fail
   refine (need_ok 4 _).mono ?_
   rintro x w3 ⟨rfl, rfl⟩
   go_wp2_with fail
   go_end0
   refine .inl ⟨by rw [HE.out, if_neg (by omega)], rfl, ?_, (Past2.of_below HB.out).trans (Past2.set2 _ _)⟩
   have := HH.out.set k 0
   simpa [dX, dS] using this
  ·
   have hs' : decide (0 < s) = false := by simp; omega
   go_wp2_with fail
   refine (need_no 4 _).mono ?_
   rintro x w3 ⟨rfl, rfl⟩
   go_wp2_with fail
   have he : dE e S 2 k b = 4 := by rw [HE.out, if_pos (by unfold U64 at hu; omega)]
   exact ⟨rfl, .inr ⟨by rw [he]; omega, by rw [he], HB.out⟩⟩
 ·
  go_wp2_with fail
  have he : dE e S 2 g b = 2 := by
   unfold dE
   have := HH.out.len
   rw [if_pos (by omega)]
  exact ⟨rfl, .inr ⟨by rw [he]; omega, by rw [he], HB.out⟩⟩
end Go.Proofs.YtkicidopjihjmaaGreat.Pn
set_option maxRecDepth 20000
namespace Go.Proofs.YtkicidopjihjmaaGreat.Pn
open Go Go.RowKit
attribute [local go_sem] via_cell via_frozen
theorem pin_any (gh gs n : Nat) (e : Int) (S : List Int) (g b : Int) (W : World) (h : HandP W gh gs n e S) (hn : n ≤ 4096) (hS : ∀ s ∈ S, U64 s) (h0 : 0 ≤ e) (he : e ≤ 4611686018427387904) (hb0 : 0 ≤ b) :
  Calls Tryz.prog 159 #[.pointer (some ⟨gh, 0, none⟩), .agg #[.int .i64 1, .int .i64 g, .int .u64 b]] W (ActRes W gh gs n (dE e S 1 g b) (dX e 1) (dS e S 1 g b)) := by
 have hb1 := ba W (.cells #[.int .i64 1, .int .i64 g, .int .u64 b] 155)
 have HSL := Hi (slot_any gh gs n e S 1 g b _ (h.below hb1) hn)
 have HB := Hi hb1
 have HH := Hi (h.below hb1)
 have HS := Hi hS
 have hghW := h.box.lt
 have hgsW := h.row.lt
 have RO := Hi (RowAt.new W 155 #[.int .i64 1, .int .i64 g, .int .u64 b])
 clear hb1 h hS
 go_enter Tryz.func159, Tryz.ntmps159
 go_wp2_with fail
 refine HSL.out.mono ?_
 rintro x w1 ⟨hb, hres⟩
 replace HB := bt HB hb
 replace HH := Hi (HH.out.below hb)
 replace RO := Hi (RO.out.below hb)
 clear hb HSL
 rcases hres with ⟨k, rfl, hk, rfl⟩ | ⟨ho, rfl⟩
 ·
  have c0 := HH.out.cell hk
  have l0 := HH.out.row.lt
  have hu : U64 (S.getD k 0) := by
   have hk' : k < S.length := by rw [HH.out.len]; exact hk
   rw [List.getD_eq_getElem?_getD, List.getElem?_eq_getElem hk']
   exact HS.out _ (List.getElem_mem hk')
  have HE := Hi (show dE e S 1 k b = if 0 < S.getD k 0 then 5 else if e < b then 4 else 0 by
   unfold dE
   have := HH.out.len
   rw [if_neg (by omega), if_neg (by omega), if_pos rfl]; simp)
  generalize S.getD k 0 = s at *
  by_cases hs : s = 0
  ·
   have hsb : (s == 0) = true := by simpa using hs
   clear hs
   go_wp2_with fail
   refine (need_ok 5 _).mono ?_
   rintro x w3 ⟨rfl, rfl⟩
   go_wp2_with fail
   have a0 := row20 HH.out.box
   have la := HH.out.box.lt
   have o2 := RO.out.cell 2
   simp only [List.getElem?_toArray, List.getElem?_cons_succ, List.getElem?_cons_zero] at o2
   have lo := RO.out.lt
   have hs0 : s = 0 := by simpa using hsb
   clear hsb
   subst hs0
   clear c0
   by_cases hbe : b ≤ e
   ·
    refine wp_region_tail 8 (by kernel_rfl) (by kernel_rfl) ?_
    simp only [List.take_succ_cons, List.take_zero, List.drop_succ_cons, List.drop_zero]
    repeat (go_big_quiet_step (fail))
    refine tail_out fun w2 hb2 => ?_
    replace HB := bt HB hb2
    replace HH := Hi (HH.out.below hb2)
    replace RO := Hi (RO.out.below hb2)
    clear a0 la o2 lo l0 hb2
    go_wp2_with fail
    refine (need_ok 4 _).mono ?_
    rintro x w3 ⟨rfl, rfl⟩
    have a0 := row20 HH.out.box
    have la := HH.out.box.lt
    have o2 := RO.out.cell 2
    simp only [List.getElem?_toArray, List.getElem?_cons_succ, List.getElem?_cons_zero] at o2
    have lo := RO.out.lt
    have l0 := HH.out.row.lt
    have u0 : (0 : Int) ≤ e - b := by omega
    have u1 : e - b < 18446744073709551616 := by omega
    have u2 : (0 : Int) ≤ e - b + 1 := by omega
    have u3 : e - b + 1 < 18446744073709551616 := by omega
    go_wp2_with fail
    refine wp_region_tail 11 (by kernel_rfl) (by kernel_rfl) ?_
    simp only [List.take_succ_cons, List.take_zero, List.drop_succ_cons, List.drop_zero]
    repeat (go_big_quiet_step (fail))
    refine tail_out fun w4 hb2 => ?_
    replace HB := bt HB hb2
    replace HH := Hi (HH.out.below hb2)
    clear a0 la o2 lo l0 hb2
    have c0 := HH.out.cell hk
    have f0 := HH.out.row.frozen k
    have l0 := HH.out.row.lt
    go_wp2_with fail
    go_end0
    have hE0 : dE e S 1 k b = 0 := by rw [HE.out, if_neg (by omega), if_neg (by omega)]
    refine .inl ⟨hE0, rfl, ?_, (Past2.of_below HB.out).trans (Past2.set2 _ _)⟩
    have := HH.out.set k (e - b + 1)
    have hv : e - b + 1 = e + 1 - b := by omega
    rw [hv] at this ⊢
    simpa [dX, dS] using this
   ·
    have hbe' : decide (b ≤ e) = false := by simp; omega
    refine wp_region_tail 8 (by kernel_rfl) (by kernel_rfl) ?_
    simp only [List.take_succ_cons, List.take_zero, List.drop_succ_cons, List.drop_zero]
    repeat (go_big_quiet_step (fail))
    refine tail_out fun w2 hb2 => ?_
    replace HB := bt HB hb2
    clear a0 la o2 lo l0 hb2
    go_wp2_with fail
    refine (need_no 4 _).mono ?_
    rintro x w3 ⟨rfl, rfl⟩
    go_wp2_with fail
    have he : dE e S 1 k b = 4 := by rw [HE.out, if_neg (by omega), if_pos (by omega)]
    exact ⟨rfl, .inr ⟨by rw [he]; omega, by rw [he], HB.out⟩⟩
  ·
   have hsb : (s == 0) = false := by simpa using hs
   have hs0 : 0 < s := by unfold U64 at hu; omega
   clear hs
   go_wp2_with fail
   refine (need_no 5 _).mono ?_
   rintro x w3 ⟨rfl, rfl⟩
   go_wp2_with fail
   have he : dE e S 1 k b = 5 := by rw [HE.out, if_pos hs0]
   exact ⟨rfl, .inr ⟨by rw [he]; omega, by rw [he], HB.out⟩⟩
 ·
  go_wp2_with fail
  have he : dE e S 1 g b = 2 := by
   unfold dE
   have := HH.out.len
   rw [if_pos (by omega)]
  exact ⟨rfl, .inr ⟨by rw [he]; omega, by rw [he], HB.out⟩⟩
theorem rd_flags {w : World} {g : Nat} {t : TypeId} {F : List Bool} {n : Nat} (h : RowAt w g t (Cs encB F).toArray) (hn : F.length = n) : Rd w w.heap.size 1 (some ⟨g, 0, none⟩) n (Cs encB F) := by
 refine ⟨by rw [Cs_length encB_len, hn], fun _ => ⟨g, 0, rfl, h.lt, fun j u hu => ?_⟩⟩
 rw [Nat.zero_add, h.cell]
 simpa using hu
theorem goes_any (gh gs n : Nat) (e : Int) (S : List Int) (g b : Int) (W : World) (h : HandP W gh gs n e S) (hS : ∀ s ∈ S, U64 s) (h0 : 0 ≤ e) (ho : pOk e S = true) :
  Calls Tryz.prog 158 #[.pointer (some ⟨gh, 0, none⟩), .agg #[.int .i64 3, .int .i64 g, .int .u64 b]] W (ActRes W gh gs n (dE e S 3 g b) (dX e 3) (dS e S 3 g b)) := by
 have g8 := (pOk_out ho).2.1
 have he := (pOk_out ho).2.2.1
 have hb1 := ba W (.cells #[.int .i64 3, .int .i64 g, .int .u64 b] 155)
 have HB := Hi hb1
 have HH := Hi (h.below hb1)
 have HS := Hi hS
 have hghW := h.box.lt
 have hgsW := h.row.lt
 have HBK := Hi (back_any (some ⟨gs, 0, none⟩) n n e S _ (h.below hb1).rd h.len hS ho)
 have HE := Hi (show dE e S 3 g b = if S.any (heldB e) = true then 231 else if e = 4611686018427387904 then 6 else 0 by
  unfold dE; rw [if_neg (by omega), if_pos rfl])
 have hfl8 := Hi (flags_length e S g8)
 have HAN := Hi (flags_any e S)
 have a0 := row20 HH.out.box
 have a1 := row21 HH.out.box
 have la := HH.out.box.lt
 clear hb1 h hS ho
 go_enter Tryz.func158, Tryz.ntmps158
 go_wp2_with fail
 refine HBK.out.mono ?_
 rintro x w1 ⟨rfl, hb⟩
 replace HB := bt HB hb
 replace HH := Hi (HH.out.below hb)
 clear hb HBK a0 a1 la
 obtain ⟨F, hF⟩ : ∃ F, flags e S = F := ⟨_, rfl⟩
 rw [hF] at hfl8 HAN ⊢
 clear hF
 obtain ⟨X, hX⟩ : ∃ X, (Cs encB F).toArray = X := ⟨_, rfl⟩
 have hXs : X.size = 8 := by rw [← hX]; simp [Cs_length encB_len, hfl8.out]
 have hX1 : X.all (·.oneCell') = true := by
  rw [← hX, Array.all_eq_true_iff_forall_mem]
  intro v hv
  exact Cs_one_cell (enc := encB) (by intro x u hu; simp [encB] at hu; subst hu; rfl) F v (by simpa using hv)
 have HX := Hi hX
 rw [hX]
 have INF : Hid ((Tryz.prog.info? 112).map (·.size) = some X.size) := Hi (by rw [hXs]; kernel_rfl)
 have INF8 : Hid ((#[.bool false, .bool false, .bool false, .bool false, .bool false, .bool false, .bool false, .bool false] : Array Value).size = X.size) := Hi (by rw [hXs]; rfl)
 have HX1 := Hi hX1
 clear hXs hX1 hX
 go_wp2_with (refine wpList_store_new rfl 112 _ _ rfl _ X w1.heap.size rfl rfl rfl INF.out INF8.out HX1.out ?_)
 have hb4 := ba w1 (.cells X 112)
 have r4 : RowAt (w1.alloc (.cells X 112)) w1.heap.size 112 (Cs encB F).toArray := by rw [HX.out]; exact RowAt.new _ _ _
 replace HB := bt HB hb4
 replace HH := Hi (HH.out.below hb4)
 obtain ⟨q, hq⟩ : ∃ q, S.any (heldB e) = q := ⟨_, rfl⟩
 have HC := Hi (ContainsBB _ (some ⟨w1.heap.size, 0, none⟩) 8 8 F _ (rd_flags r4 hfl8.out) hfl8.out (Nat.le_refl _) (by omega) q (by rw [HAN.out, hq]))
 have HQ := Hi hq
 clear hb4 r4 hq
 generalize (w1.alloc (.cells X 112)) = w2 at *
 refine HC.out.mono ?_
 rintro x w3 ⟨rfl, rfl⟩
 cases q
 ·
  go_wp2_with fail
  refine (need_ok 231 _).mono ?_
  rintro x w3 ⟨rfl, rfl⟩
  have a0 := row20 HH.out.box
  have f0 := HH.out.box.frozen 0
  have la := HH.out.box.lt
  by_cases hm : e < 4611686018427387904
  ·
   have u0 : (0 : Int) ≤ e + 1 := by omega
   have u1 : e + 1 < 18446744073709551616 := by omega
   go_wp2_with fail
   refine (need_ok 6 _).mono ?_
   rintro x w3 ⟨rfl, rfl⟩
   go_wp2_with fail
   go_end0
   refine .inl ⟨by rw [HE.out, HQ.out]; simp; omega, rfl, ?_, (Past2.of_below HB.out).trans (Past2.set1 _ _)⟩
   have := HH.out.setE (e + 1)
   simpa [dX, dS] using this
  ·
   have hm' : decide (e < 4611686018427387904) = false := by simp; omega
   go_wp2_with fail
   refine (need_no 6 _).mono ?_
   rintro x w3 ⟨rfl, rfl⟩
   go_wp2_with fail
   have he : dE e S 3 g b = 6 := by rw [HE.out, HQ.out]; simp; omega
   exact ⟨rfl, .inr ⟨by rw [he]; omega, by rw [he], HB.out⟩⟩
 ·
  go_wp2_with fail
  refine (need_no 231 _).mono ?_
  rintro x w3 ⟨rfl, rfl⟩
  go_wp2_with fail
  have he : dE e S 3 g b = 231 := by rw [HE.out, HQ.out]; simp
  exact ⟨rfl, .inr ⟨by rw [he]; omega, by rw [he], HB.out⟩⟩
end Go.Proofs.YtkicidopjihjmaaGreat.Pn
set_option maxRecDepth 20000
namespace Go.Proofs.YtkicidopjihjmaaGreat.Pn
open Go Go.RowKit
attribute [local go_sem] via_cell via_frozen
@[local go_sem] theorem wpmf (fn : Fn) (first cap : Array Value) (w : World) : (Instr.makeFunc fn first cap).run Tryz.prog w = .ok (.func fn first cap) w := rfl
@[local go_sem] theorem assert_errno (k : Int) (W : World) : (Instr.typeAssert (.iface 44 (.int .i64 k)) 20 44 true).run Tryz.prog W = .ok (.tuple #[.int .i64 k, .bool true]) W := by
 simp [Instr.typeAssert]
theorem catch_idle (p : Addr) (w : World) :
  CallsD Tryz.prog 157 #[.pointer (some p)] .returning w fun e u' w' => e = .returned (.tuple #[]) ∧ u' = .returning ∧ w' = w := by
 refine callsD_of_wpS Tryz.func157 rfl fun c₀ cs hu => ?_
 apply wpS_seq
 apply wpS_region
 simp [wpOpsS, go_sem, recoverD, hu, Tryz.ntmps157, Exit.thenS]
 refine wpS_of_wp ?_
 simp only [List.size_toArray, List.length_cons, List.length_nil, Nat.reduceAdd, Nat.reduceSub, Array.replicate_succ, Array.replicate_zero, List.push_toArray, List.append_toArray, List.nil_append, List.cons_append, List.setIfInBounds_toArray, List.set_cons_succ, List.set_cons_zero]
 go_wp2
 cases c₀
 simp_all [bodyPostS, results, Tryz.results157]
set_option maxRecDepth 100000 in
theorem catch_err (b2 : Nat) (k : Int) (w : World) (h2 : RowAt w b2 44 #[.int .i64 0]) :
  CallsD Tryz.prog 157 #[.pointer (some ⟨b2, 0, none⟩)] (.panicking (errX k)) w fun e u' w' =>
   e = .returned (.tuple #[]) ∧ u' = .panicking [{ v := .iface 44 (.int .i64 k), recovered := true }] ∧ w' = w.setCell ⟨b2, 0, none⟩ (.int .i64 k) := by
 have c2 := row1 h2
 have f2 := h2.frozen 0
 refine callsD_of_wpS Tryz.func157 rfl fun c₀ cs hu => ?_
 apply wpS_seq
 apply wpS_region
 simp [wpOpsS, go_sem, recoverD, hu, Tryz.ntmps157, Exit.thenS, errX]
 refine wpS_of_wp ?_
 simp only [List.size_toArray, List.length_cons, List.length_nil, Nat.reduceAdd, Nat.reduceSub, Array.replicate_succ, Array.replicate_zero, List.push_toArray, List.append_toArray, List.nil_append, List.cons_append, List.setIfInBounds_toArray, List.set_cons_succ, List.set_cons_zero]
 go_wp2
 simp [bodyPostS, results, Tryz.results157]
def DoesRes (W : World) (gh gs n : Nat) (e : Int) (S : List Int) (k g b : Int) (x : Ending) (W' : World) : Prop :=
 x = .returned (.int .i64 (dE e S k g b)) ∧ HandP W' gh gs n (if dE e S k g b = 0 then dX e k else e) (if dE e S k g b = 0 then dS e S k g b else S) ∧ Past2 gh gs W W'
theorem does_way (F : Nat) (gh gs n : Nat) (e : Int) (S : List Int) (k g b : Int) (W : World) (h : HandP W gh gs n e S) (hkf : (k = 1 ∧ F = 159) ∨ (k = 2 ∧ F = 160) ∨ (k = 3 ∧ F = 158))
  (HC : ∀ w, Below W.heap.size W w → HandP w gh gs n e S → Calls Tryz.prog F #[.pointer (some ⟨gh, 0, none⟩), .agg #[.int .i64 k, .int .i64 g, .int .u64 b]] w (ActRes w gh gs n (dE e S k g b) (dX e k) (dS e S k g b))) :
  Calls Tryz.prog 150 #[.pointer (some ⟨gh, 0, none⟩), .agg #[.int .i64 k, .int .i64 g, .int .u64 b]] W (DoesRes W gh gs n e S k g b) := by
 have b1 : Below W.heap.size W ((W.alloc (.cells #[.int .i64 k, .int .i64 g, .int .u64 b] 155)).alloc (.cells #[.int .i64 0] 44)) := ((Below.refl _ _).alloc (Nat.le_refl _) _).alloc (by simp) _
 have r2 : RowAt ((W.alloc (.cells #[.int .i64 k, .int .i64 g, .int .u64 b] 155)).alloc (.cells #[.int .i64 0] 44)) (W.heap.size + 1) 44 #[.int .i64 0] := by
  have h := RowAt.new (W.alloc (.cells #[.int .i64 k, .int .i64 g, .int .u64 b] 155)) 44 #[.int .i64 0]
  rw [World.size_alloc] at h; exact h
 have HH := Hi (h.below b1)
 have HB := Hi b1
 have R2 := Hi r2
 have HCC := Hi (HC _ b1 (h.below b1))
 have hghW := h.box.lt
 have hgsW := h.row.lt
 obtain ⟨E, hE⟩ : ∃ E, dE e S k g b = E := ⟨_, rfl⟩
 unfold DoesRes
 rw [hE] at HCC ⊢
 obtain ⟨X, hX⟩ : ∃ X, dX e k = X := ⟨_, rfl⟩
 obtain ⟨Y, hY⟩ : ∃ Y, dS e S k g b = Y := ⟨_, rfl⟩
 rw [hX, hY] at HCC ⊢
 clear b1 r2 HC h hE hX hY
 rcases hkf with ⟨rfl, rfl⟩ | ⟨rfl, rfl⟩ | ⟨rfl, rfl⟩
 all_goals
  go_enter_defers Tryz.func150, Tryz.ntmps150
  go_wp2_with fail
  generalize (W.alloc _).alloc _ = w1 at *
  have hl1 := R2.out.lt
  refine HCC.out.mono ?_
  rintro x w2 (⟨hE, rfl, hh2, hp⟩ | ⟨hE, rfl, hb⟩)
  ·
   have r2 : RowAt w2 (W.heap.size + 1) 44 #[.int .i64 0] := (hp.block _ (by omega) (by omega) hl1).trans R2.out
   have HH2 := Hi hh2
   have HP := Hi ((Past2.of_below HB.out).trans hp)
   have c2 := row1 r2
   have f2 := r2.frozen 0
   have l2 := r2.lt
   have HR2 := Hi r2
   subst hE
   clear hh2 hp r2 HCC
   go_wp2_with fail
   refine leaves_cons (f := 157) (args := #[.pointer (some ⟨W.heap.size + 1, 0, none⟩)]) (by simp) (by simp [go_sem]) ?_
   refine (catch_idle ⟨W.heap.size + 1, 0, none⟩ _).mono ?_
   rintro x u' w'' ⟨rfl, rfl, rfl⟩
   have hr2 : RowAt (w2.setCell ⟨W.heap.size + 1, 0, none⟩ (.int .i64 0)) (W.heap.size + 1) 44 #[.int .i64 0] := HR2.out.set 0 _
   have hhF : HandP (w2.setCell ⟨W.heap.size + 1, 0, none⟩ (.int .i64 0)) gh gs n X Y := ⟨HH2.out.len, HH2.out.ne, HH2.out.box.setNe (by omega), HH2.out.row.setNe (by omega)⟩
   have hpF : Past2 gh gs W (w2.setCell ⟨W.heap.size + 1, 0, none⟩ (.int .i64 0)) := ⟨HP.out.os, HP.out.tape, HP.out.output, by have := HP.out.size; simp; omega, fun j h1 h2 hl => by rw [heap_setCell_ne _ _ _ _ (by simp; omega)]; exact HP.out.block j h1 h2 hl⟩
   generalize w2.setCell _ _ = wF at *
   simp [Leaves, settle, results, Tryz.results150, go_sem, row1 hr2, hr2.lt]
   exact ⟨hhF, hpF⟩
  ·
   have r2 : RowAt w2 (W.heap.size + 1) 44 #[.int .i64 0] := R2.out.below hb
   have HH2 := Hi (HH.out.below hb)
   have HP := Hi ((Past2.of_below (p := gh) (q := gs) HB.out).trans (Past2.of_below hb))
   have HE := Hi hE
   have HR2 := Hi r2
   clear hb r2 HCC hE
   dsimp only
   refine leaves_cons (f := 157) (args := #[.pointer (some ⟨W.heap.size + 1, 0, none⟩)]) (by simp) (by simp [go_sem]) ?_
   refine (catch_err (W.heap.size + 1) E w2 HR2.out).mono ?_
   rintro x u' w'' ⟨rfl, rfl, rfl⟩
   have hr2 : RowAt (w2.setCell ⟨W.heap.size + 1, 0, none⟩ (.int .i64 E)) (W.heap.size + 1) 44 #[.int .i64 E] := HR2.out.set 0 _
   have hhF : HandP (w2.setCell ⟨W.heap.size + 1, 0, none⟩ (.int .i64 E)) gh gs n e S := ⟨HH2.out.len, HH2.out.ne, HH2.out.box.setNe (by omega), HH2.out.row.setNe (by omega)⟩
   have hpF : Past2 gh gs W (w2.setCell ⟨W.heap.size + 1, 0, none⟩ (.int .i64 E)) := ⟨HP.out.os, HP.out.tape, HP.out.output, by have := HP.out.size; simp; omega, fun j h1 h2 hl => by rw [heap_setCell_ne _ _ _ _ (by simp; omega)]; exact HP.out.block j h1 h2 hl⟩
   generalize w2.setCell _ _ = wF at *
   simp [Leaves, settle, results, Tryz.results150, go_sem, row1 hr2, hr2.lt, HE.out]
   exact ⟨hhF, hpF⟩
theorem does_bad (gh gs n : Nat) (e : Int) (S : List Int) (k g b : Int) (W : World) (h : HandP W gh gs n e S) (hk : k < 1 ∨ 3 < k) :
  Calls Tryz.prog 150 #[.pointer (some ⟨gh, 0, none⟩), .agg #[.int .i64 k, .int .i64 g, .int .u64 b]] W (DoesRes W gh gs n e S k g b) := by
 have b1 : Below W.heap.size W ((W.alloc (.cells #[.int .i64 k, .int .i64 g, .int .u64 b] 155)).alloc (.cells #[.int .i64 0] 44)) := ((Below.refl _ _).alloc (Nat.le_refl _) _).alloc (by simp) _
 have r2 : RowAt ((W.alloc (.cells #[.int .i64 k, .int .i64 g, .int .u64 b] 155)).alloc (.cells #[.int .i64 0] 44)) (W.heap.size + 1) 44 #[.int .i64 0] := by
  have h := RowAt.new (W.alloc (.cells #[.int .i64 k, .int .i64 g, .int .u64 b] 155)) 44 #[.int .i64 0]
  rw [World.size_alloc] at h; exact h
 have HE := Hi (show dE e S k g b = 2 by unfold dE; rw [if_pos (by omega)])
 have HB := Hi b1
 have HH := Hi (h.below b1)
 have R2 := Hi r2
 have hghW := h.box.lt
 have hgsW := h.row.lt
 have k1 : (k == 1) = false := by simp; omega
 have k2 : (k == 2) = false := by simp; omega
 have k3 : (k == 3) = false := by simp; omega
 have HW := Hi h
 clear b1 r2 h
 unfold DoesRes
 rw [HE.out]
 go_enter_defers Tryz.func150, Tryz.ntmps150
 go_wp2_with fail
 refine leaves_cons (f := 157) (args := #[.pointer (some ⟨W.heap.size + 1, 0, none⟩)]) (by simp) (by simp [go_sem]) ?_
 refine (catch_idle ⟨W.heap.size + 1, 0, none⟩ _).mono ?_
 rintro x u' w'' ⟨rfl, rfl, rfl⟩
 have b2 : Below W.heap.size W ((W.alloc (.cells #[.int .i64 k, .int .i64 g, .int .u64 b] 155)).alloc (.cells #[.int .i64 2] 44)) := ((Below.refl _ _).alloc (Nat.le_refl _) _).alloc (by simp) _
 have hr2 : RowAt ((W.alloc (.cells #[.int .i64 k, .int .i64 g, .int .u64 b] 155)).alloc (.cells #[.int .i64 2] 44)) (W.heap.size + 1) 44 #[.int .i64 2] := by
  have h := RowAt.new (W.alloc (.cells #[.int .i64 k, .int .i64 g, .int .u64 b] 155)) 44 #[.int .i64 2]
  rw [World.size_alloc] at h; exact h
 have hhF := HW.out.below b2
 have hpF := Past2.of_below (p := gh) (q := gs) b2
 generalize (W.alloc _).alloc _ = wF at *
 simp [Leaves, settle, results, Tryz.results150, go_sem, row1 hr2, hr2.lt]
 exact ⟨hhF, hpF⟩
theorem does_any (gh gs n : Nat) (e : Int) (S : List Int) (k g b : Int) (W : World) (h : HandP W gh gs n e S) (ho : pOk e S = true) (h0 : 0 ≤ e) (hS : ∀ s ∈ S, U64 s) (hb : 0 ≤ b) :
  Calls Tryz.prog 150 #[.pointer (some ⟨gh, 0, none⟩), .agg #[.int .i64 k, .int .i64 g, .int .u64 b]] W (DoesRes W gh gs n e S k g b) := by
 have hn : n ≤ 4096 := by have := (pOk_out ho).2.1; have := h.len; omega
 by_cases hk : k < 1 ∨ 3 < k
 · exact does_bad gh gs n e S k g b W h hk
 ·
  obtain rfl | rfl | rfl : k = 1 ∨ k = 2 ∨ k = 3 := by omega
  · exact does_way 159 gh gs n e S 1 g b W h (.inl ⟨rfl, rfl⟩) (fun w _ hw => pin_any gh gs n e S g b w hw hn hS h0 (pOk_out ho).2.2.1 hb)
  · exact does_way 160 gh gs n e S 2 g b W h (.inr (.inl ⟨rfl, rfl⟩)) (fun w _ hw => unpin_any gh gs n e S g b w hw hn hS)
  · exact does_way 158 gh gs n e S 3 g b W h (.inr (.inr ⟨rfl, rfl⟩)) (fun w _ hw => goes_any gh gs n e S g b w hw hS h0 ho)
structure PnOut (W : World) (A : Option Addr) (n : Nat) (ys : List Int) (w : World) : Prop where
 len : ys.length = n
 own : 0 < n → ∃ gs, A = some ⟨gs, 0, none⟩ ∧ W.heap.size ≤ gs ∧ RowAt w gs 25 (Cs encW ys).toArray
theorem PnOut.rd {W w : World} {A : Option Addr} {n : Nat} {ys : List Int} (h : PnOut W A n ys w) : Rd w w.heap.size 1 A n (Cs encW ys) := by
 refine ⟨by rw [Cs_length encW_len, h.len], fun hn => ?_⟩
 obtain ⟨gs, rfl, h1, h2⟩ := h.own hn
 exact ⟨gs, 0, rfl, h2.lt, fun j u hu => by rw [Nat.zero_add, h2.cell]; simpa using hu⟩
theorem PnOut.none (W w : World) : PnOut W none 0 [] w := ⟨rfl, fun h => absurd h (by omega)⟩
def DoRes (W : World) (E X : Int) (Y : List Int) (m : Nat) (x : Ending) (W' : World) : Prop :=
 ∃ A' c', x = .returned (.tuple #[.agg #[.int .u64 X, .slice A' m c'], .int .i64 E]) ∧ m ≤ c' ∧ c' ≤ 9223372036854775807 ∧ PnOut W A' m Y W' ∧ Below W.heap.size W W'
theorem Do_any (A : Option Addr) (c n : Nat) (e : Int) (S : List Int) (k g b : Int) (W : World) (h : Rd W W.heap.size 1 A n (Cs encW S)) (hx : S.length = n) (h0 : 0 ≤ e) (hS : ∀ s ∈ S, U64 s) (hb : 0 ≤ b) (hl : n ≤ 4096)
  (E X : Int) (Y : List Int) (m : Nat) (hE : doE e S k g b = E) (hX : doX e S k g b = X) (hY : doS e S k g b = Y) (hm : Y.length = m) :
  Calls Tryz.prog 127 #[.agg #[.int .u64 e, .slice A n c], .agg #[.int .i64 k, .int .i64 g, .int .u64 b]] W (DoRes W E X Y m) := by
 have b3 : Below W.heap.size W (((W.alloc (.cells #[.int .u64 e, .slice A n c] 28)).alloc (.cells #[.int .i64 k, .int .i64 g, .int .u64 b] 155)).alloc (.cells #[.int .u64 0, .slice none 0 0] 28)) := (((Below.refl _ _).alloc (Nat.le_refl _) _).alloc (by simp) _).alloc (by simp; omega) _
 have r1 : RowAt (((W.alloc (.cells #[.int .u64 e, .slice A n c] 28)).alloc (.cells #[.int .i64 k, .int .i64 g, .int .u64 b] 155)).alloc (.cells #[.int .u64 0, .slice none 0 0] 28)) W.heap.size 28 #[.int .u64 e, .slice A n c] :=
  (RowAt.new W 28 #[.int .u64 e, .slice A n c]).below (((Below.refl _ _).alloc (Nat.le_refl _) _).alloc (by simp) _)
 have r2 : RowAt (((W.alloc (.cells #[.int .u64 e, .slice A n c] 28)).alloc (.cells #[.int .i64 k, .int .i64 g, .int .u64 b] 155)).alloc (.cells #[.int .u64 0, .slice none 0 0] 28)) (W.heap.size + 1) 155 #[.int .i64 k, .int .i64 g, .int .u64 b] := by
  have h := RowAt.new (W.alloc (.cells #[.int .u64 e, .slice A n c] 28)) 155 #[.int .i64 k, .int .i64 g, .int .u64 b]
  rw [World.size_alloc] at h; exact h.below ((Below.refl _ _).alloc (Nat.le_refl _) _)
 have r3 : RowAt (((W.alloc (.cells #[.int .u64 e, .slice A n c] 28)).alloc (.cells #[.int .i64 k, .int .i64 g, .int .u64 b] 155)).alloc (.cells #[.int .u64 0, .slice none 0 0] 28)) (W.heap.size + 1 + 1) 28 #[.int .u64 0, .slice none 0 0] := by
  have h := RowAt.new ((W.alloc (.cells #[.int .u64 e, .slice A n c] 28)).alloc (.cells #[.int .i64 k, .int .i64 g, .int .u64 b] 155)) 28 #[.int .u64 0, .slice none 0 0]
  rw [World.size_alloc, World.size_alloc] at h; exact h
 obtain ⟨ck, hck⟩ : ∃ ck : Int, (if pOk e S = true then 0 else 230) = ck := ⟨_, rfl⟩
 have HC := Hi (check_any A c n e S _ ((h.below b3).more b3.size) hx h0 hl ck hck)
 have HB := Hi b3
 have R1 := Hi r1
 have R2 := Hi r2
 have R3 := Hi r3
 have HR := Hi h
 have HX := Hi hx
 have HS := Hi hS
 obtain ⟨p, hp⟩ : ∃ p, pOk e S = p := ⟨_, rfl⟩
 have HP := Hi hp
 have HE := Hi hE
 have HXX := Hi hX
 have HY := Hi hY
 have HM := Hi hm
 rw [hp] at hck
 clear b3 r1 r2 r3 h hx hS hp hE hX hY hm
 cases p
 ·
  simp at hck
  subst hck
  have he := HE.out
  have hx := HXX.out
  have hy := HY.out
  have hm := HM.out
  simp only [doX, doS, doE, HP.out] at he hx hy
  simp at he hx hy
  subst he hx hy
  simp at hm
  subst hm
  clear HE HXX HY HM HP
  go_enter Tryz.func127, Tryz.ntmps127
  go_wp2_with fail
  generalize ((W.alloc _).alloc _).alloc _ = w1 at *
  refine HC.out.mono ?_
  rintro x w2 ⟨rfl, hb⟩
  replace R3 := Hi (R3.out.below hb)
  replace HB := bt HB hb
  have z0 := row20 R3.out
  have z1 := row21 R3.out
  have f0 := R3.out.frozen 0
  have f1 := R3.out.frozen 1
  have l3 := R3.out.lt
  clear hb HC
  go_wp2_with fail
  have hr4 := (R3.out.set 0 (.int .u64 0)).set 1 (.slice none 0 0)
  have hb4 : Below W.heap.size W ((w2.setCell ⟨W.heap.size + 1 + 1, 0, none⟩ (.int .u64 0)).setCell ⟨W.heap.size + 1 + 1, 1, none⟩ (.slice none 0 0)) := (HB.out.setCell (p := ⟨W.heap.size + 1 + 1, 0, none⟩) (by simp; omega) _).setCell (p := ⟨W.heap.size + 1 + 1, 1, none⟩) (by simp; omega) _
  generalize (w2.setCell _ _).setCell _ _ = wF at *
  have hr5 : RowAt wF (W.heap.size + 1 + 1) 28 #[.int .u64 0, .slice none 0 0] := by simpa using hr4
  refine bodyPost_ret (v := .tuple #[.agg #[.int .u64 0, .slice none 0 0], .int .i64 230]) (by simp [results, Tryz.results127, go_sem, row20 hr5, row21 hr5, hr5.lt]) rfl ⟨none, 0, rfl, Nat.le_refl _, by omega, PnOut.none _ _, hb4⟩
 ·
  simp at hck
  subst hck
  have hn1 : 1 ≤ n := by have := (pOk_out HP.out).1; have := HX.out; omega
  go_enter Tryz.func127, Tryz.ntmps127
  go_wp2_with fail
  generalize ((W.alloc _).alloc _).alloc _ = w1 at *
  refine HC.out.mono ?_
  rintro x w2 ⟨rfl, hb⟩
  replace R1 := Hi (R1.out.below hb)
  replace R2 := Hi (R2.out.below hb)
  replace R3 := Hi (R3.out.below hb)
  replace HB := bt HB hb
  have HOW := Hi (powns_any A c n e S w2 ((HR.out.below HB.out).more HB.out.size) HX.out hn1 hl)
  have y0 := row20 R1.out
  have y1 := row21 R1.out
  have l1 := R1.out.lt
  clear hb HC
  go_wp2_with fail
  refine HOW.out.mono ?_
  rintro x w3 ⟨gh, gs, rfl, hh, hgh, hgs, hb⟩
  have l2' : W.heap.size + 1 + 1 < w2.heap.size := R3.out.lt
  replace R2 := Hi (R2.out.below hb)
  replace R3 := Hi (R3.out.below hb)
  replace HB := bt HB hb
  have HH := Hi hh
  have HDO := Hi (does_any gh gs n e S k g b w3 hh HP.out h0 HS.out ‹0 ≤ b›)
  have z0 := R2.out.cell 0
  have z1 := R2.out.cell 1
  have z2 := R2.out.cell 2
  simp only [List.getElem?_toArray, List.getElem?_cons_succ, List.getElem?_cons_zero] at z0 z1 z2
  have l2 := R2.out.lt
  clear hb hh y0 y1 l1 HOW R1
  go_wp2_with fail
  refine HDO.out.mono ?_
  rintro x w4 ⟨rfl, hh, hp⟩
  have hE : doE e S k g b = dE e S k g b := by unfold doE; rw [if_pos HP.out]
  have hsW := HB.out.size
  have l3 := R3.out.lt
  have r3 : RowAt w4 (W.heap.size + 1 + 1) 28 #[.int .u64 0, .slice none 0 0] := (hp.block _ (by omega) (by omega) R3.out.lt).trans R3.out
  have hbW : Below W.heap.size W w4 := ⟨hp.os.trans HB.out.os, hp.tape.trans HB.out.tape, hp.output.trans HB.out.output, by have := hp.size; omega, fun j hj => (hp.block j (by omega) (by omega) (by omega)).trans (HB.out.block j hj)⟩
  have hE2 := HE.out
  rw [hE] at hE2
  have hx2 := HXX.out
  have hy2 := HY.out
  unfold doX at hx2
  unfold doS at hy2
  rw [hE, hE2] at hx2 hy2
  rw [hE2] at hh ⊢
  replace R3 := Hi r3
  replace HB := Hi hbW
  have z0 := row20 r3
  have z1 := row21 r3
  have f0 := r3.frozen 0
  have f1 := r3.frozen 1
  have l4 := r3.lt
  clear hp r3 hbW HDO HE HXX HY hE hE2 z2 l2 l3 R2
  by_cases h0 : E = 0
  ·
   subst h0
   simp only [if_true] at hh hx2 hy2
   subst hx2 hy2
   have HH4 := Hi hh
   have HM4 := Hi (show n = m by rw [← HM.out, ← hh.len])
   have a0 := row20 hh.box
   have a1 := row21 hh.box
   have la := hh.box.lt
   clear hh HH
   generalize dX e k = X at *
   generalize dS e S k g b = Y at *
   go_wp2_with fail
   have hr4 := (R3.out.set 0 (.int .u64 X)).set 1 (.slice (some ⟨gs, 0, none⟩) n n)
   have hb4 : Below W.heap.size W ((w4.setCell ⟨W.heap.size + 1 + 1, 0, none⟩ (.int .u64 X)).setCell ⟨W.heap.size + 1 + 1, 1, none⟩ (.slice (some ⟨gs, 0, none⟩) n n)) := (HB.out.setCell (p := ⟨W.heap.size + 1 + 1, 0, none⟩) (by simp; omega) _).setCell (p := ⟨W.heap.size + 1 + 1, 1, none⟩) (by simp; omega) _
   have hrow : RowAt ((w4.setCell ⟨W.heap.size + 1 + 1, 0, none⟩ (.int .u64 X)).setCell ⟨W.heap.size + 1 + 1, 1, none⟩ (.slice (some ⟨gs, 0, none⟩) n n)) gs 25 (Cs encW Y).toArray := (HH4.out.row.setNe (by omega)).setNe (by omega)
   generalize (w4.setCell _ _).setCell _ _ = wF at *
   have hr5 : RowAt wF (W.heap.size + 1 + 1) 28 #[.int .u64 X, .slice (some ⟨gs, 0, none⟩) n n] := by simpa using hr4
   refine bodyPost_ret (v := .tuple #[.agg #[.int .u64 X, .slice (some ⟨gs, 0, none⟩) n n], .int .i64 0]) (by simp [results, Tryz.results127, go_sem, row20 hr5, row21 hr5, hr5.lt]) rfl ⟨some ⟨gs, 0, none⟩, n, by rw [HM4.out], by have := HM4.out; omega, by omega, ⟨HM.out, fun _ => ⟨gs, rfl, by omega, hrow⟩⟩, hb4⟩
  ·
   rw [if_neg h0] at hx2 hy2
   subst hx2 hy2
   have hm := HM.out
   simp at hm
   subst hm
   have h0' : (E != 0) = true := by simpa using h0
   clear h0 hh HH HM
   go_wp2_with fail
   have hr4 := (R3.out.set 0 (.int .u64 0)).set 1 (.slice none 0 0)
   have hb4 : Below W.heap.size W ((w4.setCell ⟨W.heap.size + 1 + 1, 0, none⟩ (.int .u64 0)).setCell ⟨W.heap.size + 1 + 1, 1, none⟩ (.slice none 0 0)) := (HB.out.setCell (p := ⟨W.heap.size + 1 + 1, 0, none⟩) (by simp; omega) _).setCell (p := ⟨W.heap.size + 1 + 1, 1, none⟩) (by simp; omega) _
   generalize (w4.setCell _ _).setCell _ _ = wF at *
   have hr5 : RowAt wF (W.heap.size + 1 + 1) 28 #[.int .u64 0, .slice none 0 0] := by simpa using hr4
   refine bodyPost_ret (v := .tuple #[.agg #[.int .u64 0, .slice none 0 0], .int .i64 E]) (by simp [results, Tryz.results127, go_sem, row20 hr5, row21 hr5, hr5.lt]) rfl ⟨none, 0, rfl, Nat.le_refl _, by omega, PnOut.none _ _, hb4⟩
end Go.Proofs.YtkicidopjihjmaaGreat.Pn
namespace Go.Proofs.YtkicidopjihjmaaGreat
open Go Go.RowKit
theorem rp7 {w : World} {g : Nat} {t : TypeId} {u0 u1 u2 u3 u4 u5 u6 : Value} (h : RowAt w g t #[u0, u1, u2, u3, u4, u5, u6]) (v0 v1 v2 v3 v4 v5 v6 : Value) : RowAt (((((((w.setCell ⟨g, 0, none⟩ v0).setCell ⟨g, 1, none⟩ v1).setCell ⟨g, 2, none⟩ v2).setCell ⟨g, 3, none⟩ v3).setCell ⟨g, 4, none⟩ v4).setCell ⟨g, 5, none⟩ v5).setCell ⟨g, 6, none⟩ v6) g t #[v0, v1, v2, v3, v4, v5, v6] := by
  have h2 := ((((((h.set 0 v0).set 1 v1).set 2 v2).set 3 v3).set 4 v4).set 5 v5).set 6 v6
  simpa using h2
attribute [local go_sem] via_cell via_frozen
theorem own_typ {w : World} {base : Nat} {e : TypeId} {sz n : Nat} {v : Value} {xs : List Value} (h : w.ownsRow base e sz v n xs) {g : Nat} (hg : v.ownBlock = some g) : base ≤ g ∧ ∃ cs, RowAt w g e cs := by
 rcases h.2 with ⟨rfl, h1⟩ | ⟨b, cap, rest, hv, h2, h3, h4⟩
 · cases hg
 ·
  subst hv
  injection hg with hg
  subst hg
  exact ⟨h2, _, h3⟩
theorem own_kept {w w' : World} {base : Nat} {e : TypeId} {sz n : Nat} {v : Value} {xs : List Value} (h : w.ownsRow base e sz v n xs) (hk : ∀ g, v.ownBlock = some g → g < w.heap.size → w'.heap[g]? = w.heap[g]?) : w'.ownsRow base e sz v n xs := by
 rcases h.2 with ⟨rfl, h1⟩ | ⟨b, cap, rest, hv, h2, h3, h4⟩
 · exact ⟨h.1, .inl ⟨rfl, h1⟩⟩
 · exact ⟨h.1, .inr ⟨b, cap, rest, hv, h2, (hk b (by rw [hv]; rfl) (Array.getElem?_eq_some_iff.1 h3).1).trans h3, h4⟩⟩
theorem row_typ {w : World} {g : Nat} {t t' : TypeId} {cs cs' : Array Value} (h : RowAt w g t cs) (h' : RowAt w g t' cs') : t = t' := by
 unfold RowAt at h h'
 rw [h] at h'
 injection h' with h'
 injection h'
def Off (gh : Nat) (At : Option Addr) : Nat → Prop := fun j => j ≠ gh ∧ ∀ q, At = some q → q.block ≠ j
def OffB (base gh : Nat) (At : Option Addr) : Nat → Prop := fun j => base ≤ j ∧ Off gh At j
abbrev handC (e : Int) (E : Nat) (A0 As : Option Addr) (n0 c0 ns cs : Nat) (A : Nat → Option Addr) (n c : Nat → Nat) (o : EOp) (At : Option Addr) (nt ct : Nat) : Array Value :=
 #[.slice A0 n0 c0, .int .u64 e, .slice As ns cs, .int .u64 (E : Int), .slice (A 0) (n 0) (c 0), .slice (A 1) (n 1) (c 1), .slice (A 2) (n 2) (c 2), .int .i64 o.k, .int .i64 o.g, .int .u64 o.b, .int .i64 o.x.1, .int .u64 o.x.2, .slice At nt ct]
structure HandR (w : World) (base gh : Nat) (A0 As : Option Addr) (n0 c0 ns cs : Nat) (A : Nat → Option Addr) (n c : Nat → Nat) (o : EOp) (At : Option Addr) (nt ct : Nat) (r : Rec) (told : List Ent) : Prop where
 row : RowAt w gh 95 (handC r.e r.l.E A0 As n0 c0 ns cs A n c o At nt ct)
 all : RecF (OffB base gh At) w A0 As n0 c0 ns cs A n c r
 own : w.ownsRow base 41 2 (.slice At nt ct) nt (Cs encE told)
 len : told.length = nt
 lo : base ≤ gh
def HandX (w : World) (base gh : Nat) (o : EOp) (r : Rec) (told : List Ent) : Prop := ∃ A0 As n0 c0 ns cs A n c At nt ct, HandR w base gh A0 As n0 c0 ns cs A n c o At nt ct r told
theorem off_up {gh : Nat} {At : Option Addr} {w : World} (hg : gh < w.heap.size) (ha : ∀ q, At = some q → q.block < w.heap.size) {j : Nat} (hj : w.heap.size ≤ j) : Off gh At j := ⟨by omega, fun q hq => by have := ha q hq; omega⟩
theorem told_lt {w : World} {base : Nat} {At : Option Addr} {nt ct : Nat} {xs : List Value} (h : w.ownsRow base 41 2 (.slice At nt ct) nt xs) : ∀ q, At = some q → base ≤ q.block ∧ q.block < w.heap.size := by
 intro q hq
 obtain ⟨h1, cs, h2⟩ := own_typ (g := q.block) h (by rw [hq]; rfl)
 exact ⟨h1, h2.lt⟩
theorem told_ne {w : World} {base gh : Nat} {At : Option Addr} {nt ct : Nat} {xs : List Value} {C : Array Value} (h : w.ownsRow base 41 2 (.slice At nt ct) nt xs) (hr : RowAt w gh 95 C) : ∀ q, At = some q → q.block ≠ gh := by
 intro q hq e
 obtain ⟨_, cs, h2⟩ := own_typ (g := q.block) h (by rw [hq]; rfl)
 rw [e] at h2
 exact absurd (row_typ h2 hr) (by decide)
theorem HandR.below {w w' : World} {base gh : Nat} {A0 As : Option Addr} {n0 c0 ns cs : Nat} {A : Nat → Option Addr} {n c : Nat → Nat} {o : EOp} {At : Option Addr} {nt ct : Nat} {r : Rec} {told : List Ent} (h : HandR w base gh A0 As n0 c0 ns cs A n c o At nt ct r told) (hb : Below w.heap.size w w') : HandR w' base gh A0 As n0 c0 ns cs A n c o At nt ct r told :=
 ⟨h.row.below hb, h.all.below hb, own_keepB h.own hb, h.len, h.lo⟩
theorem HandR.past {w w' : World} {base gh : Nat} {A0 As A0' As' : Option Addr} {n0 c0 ns cs n0' c0' ns' cs' : Nat} {A A' : Nat → Option Addr} {n c n' c' : Nat → Nat} {o o' : EOp} {At : Option Addr} {nt ct : Nat} {r r' : Rec} {told : List Ent} (h : HandR w base gh A0 As n0 c0 ns cs A n c o At nt ct r told) (hp : Past gh w w')
  (hr : RowAt w' gh 95 (handC r'.e r'.l.E A0' As' n0' c0' ns' cs' A' n' c' o' At nt ct)) (hrec : RecF (OffB base gh At) w A0' As' n0' c0' ns' cs' A' n' c' r') : HandR w' base gh A0' As' n0' c0' ns' cs' A' n' c' o' At nt ct r' told := by
 refine ⟨hr, hrec.stay ⟨hp.size, fun j hj hl => hp.block j hj.2.1 hl⟩, own_kept h.own (fun g hg hl => hp.block g ?_ hl), h.len, h.lo⟩
 intro e
 cases At with
 | none => cases hg
 | some q =>
  injection hg with hg
  exact told_ne h.own h.row q rfl (hg.trans e)
theorem own_block {At : Option Addr} {nt ct : Nat} : (Value.slice At nt ct).ownBlock = At.map (·.block) := by cases At <;> rfl
theorem HandR.kept {w w1 : World} {base gh : Nat} {A0 As : Option Addr} {n0 c0 ns cs : Nat} {A : Nat → Option Addr} {n c : Nat → Nat} {o : EOp} {At : Option Addr} {nt ct : Nat} {r : Rec} {told : List Ent} (h : HandR w base gh A0 As n0 c0 ns cs A n c o At nt ct r told) (hg : w.grownBy w1 (Value.slice At nt ct).ownBlock) : RowAt w1 gh 95 (handC r.e r.l.E A0 As n0 c0 ns cs A n c o At nt ct) :=
 h.row.heap (hg.block gh h.row.lt (fun e => by
  rw [own_block] at e
  cases At with
  | none => cases e
  | some q => injection e with e; exact told_ne h.own h.row q rfl e.symm))
theorem HandR.tell {w w1 w2 : World} {base gh : Nat} {A0 As : Option Addr} {n0 c0 ns cs : Nat} {A : Nat → Option Addr} {n c : Nat → Nat} {o : EOp} {At At' : Option Addr} {nt ct nt' ct' : Nat} {r : Rec} {told told' : List Ent} (h : HandR w base gh A0 As n0 c0 ns cs A n c o At nt ct r told) (hg : w.grownBy w1 (Value.slice At nt ct).ownBlock)
  (ho : w1.ownsRow base 41 2 (.slice At' nt' ct') nt' (Cs encE told')) (hl : told'.length = nt') (hv : (Value.slice At' nt' ct').ownBlock = (Value.slice At nt ct).ownBlock ∨ (Value.slice At' nt' ct').ownBlock = some w.heap.size) (hp : Past gh w1 w2) (hr : RowAt w2 gh 95 (handC r.e r.l.E A0 As n0 c0 ns cs A n c o At' nt' ct')) :
  HandR w2 base gh A0 As n0 c0 ns cs A n c o At' nt' ct' r told' := by
 have hne := told_ne h.own h.row
 have hr1 : RowAt w1 gh 95 (handC r.e r.l.E A0 As n0 c0 ns cs A n c o At nt ct) := h.row.heap (hg.block gh h.row.lt (fun e => by
  rw [own_block] at e
  cases At with
  | none => cases e
  | some q => injection e with e; exact hne q rfl e.symm))
 have hup : ∀ j, OffB base gh At j → j < w.heap.size → (OffB base gh At j ∧ OffB base gh At' j) := fun j hj hlt => ⟨hj, hj.1, hj.2.1, fun q hq => by
  rw [own_block, own_block, hq] at hv
  rcases hv with hv | hv
  ·
   cases At with
   | none => cases hv
   | some q0 => injection hv with hv; have hv : q.block = q0.block := hv; rw [hv]; exact hj.2.2 q0 rfl
  · injection hv with hv; have hv : q.block = w.heap.size := hv; omega⟩
 have hst : StayF (fun j => OffB base gh At j ∧ OffB base gh At' j) w w2 := ⟨Nat.le_trans hg.size hp.size, fun j hj hlt => (hp.block j hj.1.2.1 (Nat.lt_of_lt_of_le hlt hg.size)).trans (hg.block j hlt (fun e => by
  rw [own_block] at e
  cases At with
  | none => cases e
  | some q => injection e with e; exact hj.1.2.2 q rfl e.symm))⟩
 refine ⟨hr, ((h.all.up hup).stay hst).up (fun j hj _ => hj.2), own_kept ho (fun g hg' hl' => hp.block g ?_ hl'), hl, h.lo⟩
 intro e
 rw [own_block] at hg'
 cases At' with
 | none => cases hg'
 | some q => injection hg' with hg'; exact told_ne ho hr1 q rfl (hg'.trans e)
structure PastH (gh : Nat) (At : Option Addr) (w w' : World) : Prop where
 os : w'.os = w.os
 tape : w'.tape = w.tape
 output : w'.output = w.output
 size : w.heap.size ≤ w'.heap.size
 block : ∀ j, Off gh At j → j < w.heap.size → w'.heap[j]? = w.heap[j]?
theorem PastH.of_past {gh : Nat} {At : Option Addr} {w w' : World} (h : Past gh w w') : PastH gh At w w' := ⟨h.below.os, h.below.tape, h.below.output, h.size, fun j hj hl => h.block j hj.1 hl⟩
theorem PastH.of_below {gh : Nat} {At : Option Addr} {w w' : World} (h : Below w.heap.size w w') : PastH gh At w w' := ⟨h.os, h.tape, h.output, h.size, fun j _ hl => h.block j hl⟩
theorem PastH.trans {gh : Nat} {At : Option Addr} {a b c : World} (h : PastH gh At a b) (g : PastH gh At b c) : PastH gh At a c := ⟨g.os.trans h.os, g.tape.trans h.tape, g.output.trans h.output, Nat.le_trans h.size g.size, fun j hj hl => (g.block j hj (Nat.lt_of_lt_of_le hl h.size)).trans (h.block j hj hl)⟩
theorem PastH.to_below {gh base : Nat} {At : Option Addr} {w w' : World} (h : PastH gh At w w') (hg : base ≤ gh) (ha : ∀ q, At = some q → base ≤ q.block) (hb : base ≤ w.heap.size) : Below base w w' :=
 ⟨h.os, h.tape, h.output, h.size, fun j hj => h.block j ⟨by omega, fun q hq => by have := ha q hq; omega⟩ (by omega)⟩
theorem PastH.grown {gh : Nat} {At : Option Addr} {nt ct : Nat} {w w' : World} (h : w.grownBy w' (Value.slice At nt ct).ownBlock) : PastH gh At w w' :=
 ⟨h.os, h.tape, h.output, h.size, fun j hj hl => h.block j hl (fun e => by
  cases At with
  | none => cases e
  | some q => injection e with e; exact hj.2 q rfl e.symm)⟩
theorem PastH.stayB {gh : Nat} {At : Option Addr} {w w' : World} (h : PastH gh At w w') (base : Nat) : StayF (OffB base gh At) w w' := ⟨h.size, fun j hj => h.block j hj.2⟩
theorem PastH.stay {gh : Nat} {At : Option Addr} {w w' : World} (h : PastH gh At w w') : StayF (Off gh At) w w' := ⟨h.size, h.block⟩
def MthRes (gh base : Nat) (o : EOp) (At : Option Addr) (res : Except Int (Rec × List Ent)) (W : World) (e : Ending) (W' : World) : Prop :=
 (∃ r' t', res = .ok (r', t') ∧ e = .returned (.tuple #[]) ∧ HandX W' base gh o r' t' ∧ PastH gh At W W') ∨ (∃ k, res = .error k ∧ e = .panicked (errX k) ∧ (∃ cs, RowAt W' gh 95 cs ∧ cs.size = 13) ∧ Past gh W W')
theorem row13 {w : World} {g : Nat} {t : TypeId} {v0 v1 v2 v3 v4 v5 v6 v7 v8 v9 v10 v11 v12 : Value} (h : RowAt w g t #[v0, v1, v2, v3, v4, v5, v6, v7, v8, v9, v10, v11, v12]) : w.cell? ⟨g, 0, none⟩ = some v0 ∧ w.cell? ⟨g, 1, none⟩ = some v1 ∧ w.cell? ⟨g, 2, none⟩ = some v2 ∧ w.cell? ⟨g, 3, none⟩ = some v3 ∧ w.cell? ⟨g, 4, none⟩ = some v4 ∧ w.cell? ⟨g, 5, none⟩ = some v5 ∧ w.cell? ⟨g, 6, none⟩ = some v6 ∧ w.cell? ⟨g, 7, none⟩ = some v7 ∧ w.cell? ⟨g, 8, none⟩ = some v8 ∧ w.cell? ⟨g, 9, none⟩ = some v9 ∧ w.cell? ⟨g, 10, none⟩ = some v10 ∧ w.cell? ⟨g, 11, none⟩ = some v11 ∧ w.cell? ⟨g, 12, none⟩ = some v12 := by
 refine ⟨?_, ?_, ?_, ?_, ?_, ?_, ?_, ?_, ?_, ?_, ?_, ?_, ?_⟩
 · have := h.cell 0; simpa using this
 · have := h.cell 1; simpa using this
 · have := h.cell 2; simpa using this
 · have := h.cell 3; simpa using this
 · have := h.cell 4; simpa using this
 · have := h.cell 5; simpa using this
 · have := h.cell 6; simpa using this
 · have := h.cell 7; simpa using this
 · have := h.cell 8; simpa using this
 · have := h.cell 9; simpa using this
 · have := h.cell 10; simpa using this
 · have := h.cell 11; simpa using this
 · have := h.cell 12; simpa using this
theorem pnew_yes (n : Nat) (W : World) (h0 : 1 ≤ n) (h1 : n ≤ 8) :
  Calls Tryz.prog 66 #[.int .i64 (n : Int)] W fun e W' => ∃ A c, e = .returned (.tuple #[.agg #[.int .u64 0, .slice A n c], .int .i64 0]) ∧ n ≤ c ∧ c ≤ 4096 ∧ Rd W' W'.heap.size 1 A n (Cs encW (List.replicate n 0)) ∧ (∀ q, A = some q → W.heap.size < q.block) ∧ Below W.heap.size W W' := by
 obtain ⟨i0, hi0, hz0, hz1, hz2⟩ := info_parts Pn.elW.info
 have hmk := fun w => run_make_rowN (P := Tryz.prog) 26 25 i0 _ Tryz.underlying26 hi0 hz0 .i64 .i64 n n (Nat.le_refl _) (by rw [hz2]; omega) (by omega) w
 rw [hz1, Nat.mul_one] at hmk
 have hg0 : decide ((n : Int) < 1) = false := by simp; omega
 have hg1 : decide (8 < (n : Int)) = false := by simp; omega
 clear hi0 hz0 hz1 hz2
 go_enter Tryz.func66, Tryz.ntmps66
 go_wp2_with fail
 have hM := Pn.Cs_rep n
 obtain ⟨w1, hw1⟩ : ∃ w1, W.alloc (.cells #[.int .u64 0, .slice (some ⟨W.heap.size + 1, 0, none⟩) n n] 28) = w1 := ⟨_, rfl⟩
 have hs1 : w1.heap.size = W.heap.size + 1 := by rw [← hw1]; simp
 have hb1 := baw hw1
 have hrd := Rd.new w1 (madeCells #[.int .u64 0] n) 25 1 n (by simp [madeCells])
 have hM2 : (madeCells #[.int .u64 0] n).toList = Cs encW (List.replicate n 0) := by simpa [Value.cells] using hM
 rw [hM2, hs1] at hrd
 refine bodyPost_ret (v := .tuple #[.agg #[.int .u64 0, .slice (some ⟨W.heap.size + 1, 0, none⟩) n n], .int .i64 0]) (by simp [results, Tryz.results66, go_sem]) rfl ⟨_, n, rfl, Nat.le_refl _, by omega, ?_, fun q hq => (by injection hq with hq; subst hq; simp), ?_⟩
 · rw [hw1]; exact hrd.more (by rw [World.size_alloc, hs1]; omega)
 · rw [hw1]; exact hb1.alloc (by omega) _
theorem anew_yes (n : Nat) (W : World) (h0 : 2 ≤ n) (h1 : n ≤ 128) :
  Calls Tryz.prog 67 #[.int .i64 (n : Int)] W fun e W' => ∃ A c, e = .returned (.tuple #[.agg #[.slice A n c], .int .i64 0]) ∧ n ≤ c ∧ c ≤ 4096 ∧ Rd W' W'.heap.size 2 A n (Cs encE (List.replicate n (0, 0))) ∧ (∀ q, A = some q → W.heap.size < q.block) ∧ Below W.heap.size W W' := by
 obtain ⟨i0, hi0, hz0, hz1, hz2⟩ := info_parts elS.info
 have hmk := fun w => run_make_rowN (P := Tryz.prog) 22 84 i0 _ Tryz.underlying22 hi0 hz0 .i64 .i64 n n (Nat.le_refl _) (by rw [hz2]; omega) (by omega) w
 rw [hz1] at hmk
 have hg0 : decide ((n : Int) < 2) = false := by simp; omega
 have hg1 : decide (128 < (n : Int)) = false := by simp; omega
 clear hi0 hz0 hz1 hz2
 go_enter Tryz.func67, Tryz.ntmps67
 go_wp2_with fail
 have hM := Cs_rep n
 obtain ⟨w1, hw1⟩ : ∃ w1, W.alloc (.cells #[.slice (some ⟨W.heap.size + 1, 0, none⟩) n n] 24) = w1 := ⟨_, rfl⟩
 have hs1 : w1.heap.size = W.heap.size + 1 := by rw [← hw1]; simp
 have hb1 := baw hw1
 have hrd := Rd.new w1 (madeCells #[.int .i64 0, .int .u64 0] (n * 2)) 84 2 n (by simp [madeCells])
 have hM2 : (madeCells #[.int .i64 0, .int .u64 0] (n * 2)).toList = Cs encE (List.replicate n (0, 0)) := hM
 rw [hM2, hs1] at hrd
 refine bodyPost_ret (v := .tuple #[.agg #[.slice (some ⟨W.heap.size + 1, 0, none⟩) n n], .int .i64 0]) (by simp [results, Tryz.results67, go_sem]) rfl ⟨_, n, rfl, Nat.le_refl _, by omega, ?_, fun q hq => (by injection hq with hq; subst hq; simp), ?_⟩
 · rw [hw1]; exact hrd.more (by rw [World.size_alloc, hs1]; omega)
 · rw [hw1]; exact hb1.alloc (by omega) _
theorem new_bad (g n : Int) (hb : ¬ ((1 ≤ g ∧ g ≤ 8) ∧ (2 ≤ n ∧ n ≤ 128))) (W : World) : Calls Tryz.prog 31 #[.int .i64 g, .int .i64 n] W (NewRes g n W) := by
 have HK := Hi (show NewK g n = 2 from if_neg hb)
 have HV := Hi (show NewV g n = rec0 from if_neg hb)
 have hb1 := ba W (.cells #[.slice none 0 0, .int .u64 0, .slice none 0 0, .int .u64 0, .slice none 0 0, .slice none 0 0, .slice none 0 0] 34)
 have R4 := Hi (RowAt.new W 34 #[.slice none 0 0, .int .u64 0, .slice none 0 0, .int .u64 0, .slice none 0 0, .slice none 0 0, .slice none 0 0])
 have HB := Hi hb1
 clear hb1
 by_cases hg : 1 ≤ g ∧ g ≤ 8
 case neg =>
  have HG := Hi hg
  clear hg hb
  go_enter Tryz.func31, Tryz.ntmps31
  go_wp2_with fail
  generalize W.alloc _ = w1 at *
  with_reducible refine (Pn.new_no g w1 HG.out).mono ?_
  rintro e w2 ⟨rfl, hb⟩
  replace R4 := Hi (R4.out.below hb)
  replace HB := bt HB hb
  clear hb
  go_upto_region 2 with (fail)
  have hb := ba w2 (.cells #[.int .u64 0, .slice none 0 0] 28)
  replace R4 := Hi (R4.out.below hb)
  replace HB := bt HB hb
  clear hb
  generalize w2.alloc _ = w3 at *
  have z0 := cl R4.out 0
  have z1 := cl R4.out 1
  have z2 := cl R4.out 2
  have z3 := cl R4.out 3
  have z4 := cl R4.out 4
  have z5 := cl R4.out 5
  have z6 := cl R4.out 6
  obtain ⟨f0, f1, f2, f3, f4, f5, f6⟩ := fz R4.out
  have zl := R4.out.lt
  go_wp2_with fail
  have R5 := Hi (rp7 R4.out (.slice none 0 0) (.int .u64 0) (.slice none 0 0) (.int .u64 0) (.slice none 0 0) (.slice none 0 0) (.slice none 0 0))
  have HB5 := Hi (show Below W.heap.size W (((((((w3.setCell ⟨W.heap.size, 0, none⟩ (.slice none 0 0)).setCell ⟨W.heap.size, 1, none⟩ (.int .u64 0)).setCell ⟨W.heap.size, 2, none⟩ (.slice none 0 0)).setCell ⟨W.heap.size, 3, none⟩ (.int .u64 0)).setCell ⟨W.heap.size, 4, none⟩ (.slice none 0 0)).setCell ⟨W.heap.size, 5, none⟩ (.slice none 0 0)).setCell ⟨W.heap.size, 6, none⟩ (.slice none 0 0)) from (((((((HB.out.setCell (p := ⟨W.heap.size, 0, none⟩) (Nat.le_refl _) (.slice none 0 0)).setCell (p := ⟨W.heap.size, 1, none⟩) (Nat.le_refl _) (.int .u64 0)).setCell (p := ⟨W.heap.size, 2, none⟩) (Nat.le_refl _) (.slice none 0 0)).setCell (p := ⟨W.heap.size, 3, none⟩) (Nat.le_refl _) (.int .u64 0)).setCell (p := ⟨W.heap.size, 4, none⟩) (Nat.le_refl _) (.slice none 0 0)).setCell (p := ⟨W.heap.size, 5, none⟩) (Nat.le_refl _) (.slice none 0 0)).setCell (p := ⟨W.heap.size, 6, none⟩) (Nat.le_refl _) (.slice none 0 0)))
  clear z0 f0 z1 f1 z2 f2 z3 f3 z4 f4 z5 f5 z6 f6 zl
  generalize World.setCell _ _ _ = w9 at *
  have c0 := cl R5.out 0
  have c1 := cl R5.out 1
  have c2 := cl R5.out 2
  have c3 := cl R5.out 3
  have c4 := cl R5.out 4
  have c5 := cl R5.out 5
  have c6 := cl R5.out 6
  have cl := R5.out.lt
  exact bodyPost_ret (v := .tuple #[.agg #[.slice none 0 0, .int .u64 0, .slice none 0 0, .int .u64 0, .slice none 0 0, .slice none 0 0, .slice none 0 0], .int .i64 2]) (by simp [results, Tryz.results31, go_sem, c0, c1, c2, c3, c4, c5, c6, cl]) rfl ⟨⟨_, by rw [HK.out], by rw [HV.out]; exact zero_rec _ _⟩, HB5.out⟩
 case pos =>
  have HG := Hi hg
  have HN := Hi (show ¬ (2 ≤ n ∧ n ≤ 128) from fun h => hb ⟨hg, h⟩)
  obtain ⟨m, hm⟩ := Int.eq_ofNat_of_zero_le (show 0 ≤ g by omega)
  have hm1 : 1 ≤ m := by omega
  have hm8 : m ≤ 8 := by omega
  clear hg hb
  subst hm
  go_enter Tryz.func31, Tryz.ntmps31
  go_wp2_with fail
  generalize W.alloc _ = w1 at *
  with_reducible refine (pnew_yes m w1 hm1 hm8).mono ?_
  rintro e w2 ⟨AP, cP, rfl, hc1, hc2, hrd, hlo, hb⟩
  replace R4 := Hi (R4.out.below hb)
  replace HB := bt HB hb
  clear hb hrd hlo
  go_upto_region 2 with (fail)
  have hb := ba w2 (.cells #[.int .u64 0, .slice AP m cP] 28)
  replace R4 := Hi (R4.out.below hb)
  replace HB := bt HB hb
  clear hb
  generalize w2.alloc _ = w3 at *
  go_wp2_with fail
  with_reducible refine (new_no n w3 HN.out).mono ?_
  rintro e w4 ⟨rfl, hb⟩
  replace R4 := Hi (R4.out.below hb)
  replace HB := bt HB hb
  clear hb
  go_upto_region 5 with (fail)
  have hb := ba w4 (.cells #[.slice none 0 0] 24)
  replace R4 := Hi (R4.out.below hb)
  replace HB := bt HB hb
  clear hb
  generalize w4.alloc (.cells #[.slice none 0 0] 24) = w5 at *
  have z0 := cl R4.out 0
  have z1 := cl R4.out 1
  have z2 := cl R4.out 2
  have z3 := cl R4.out 3
  have z4 := cl R4.out 4
  have z5 := cl R4.out 5
  have z6 := cl R4.out 6
  obtain ⟨f0, f1, f2, f3, f4, f5, f6⟩ := fz R4.out
  have zl := R4.out.lt
  go_wp2_with fail
  have R5 := Hi (rp7 R4.out (.slice none 0 0) (.int .u64 0) (.slice none 0 0) (.int .u64 0) (.slice none 0 0) (.slice none 0 0) (.slice none 0 0))
  have HB5 := Hi (show Below W.heap.size W (((((((w5.setCell ⟨W.heap.size, 0, none⟩ (.slice none 0 0)).setCell ⟨W.heap.size, 1, none⟩ (.int .u64 0)).setCell ⟨W.heap.size, 2, none⟩ (.slice none 0 0)).setCell ⟨W.heap.size, 3, none⟩ (.int .u64 0)).setCell ⟨W.heap.size, 4, none⟩ (.slice none 0 0)).setCell ⟨W.heap.size, 5, none⟩ (.slice none 0 0)).setCell ⟨W.heap.size, 6, none⟩ (.slice none 0 0)) from (((((((HB.out.setCell (p := ⟨W.heap.size, 0, none⟩) (Nat.le_refl _) (.slice none 0 0)).setCell (p := ⟨W.heap.size, 1, none⟩) (Nat.le_refl _) (.int .u64 0)).setCell (p := ⟨W.heap.size, 2, none⟩) (Nat.le_refl _) (.slice none 0 0)).setCell (p := ⟨W.heap.size, 3, none⟩) (Nat.le_refl _) (.int .u64 0)).setCell (p := ⟨W.heap.size, 4, none⟩) (Nat.le_refl _) (.slice none 0 0)).setCell (p := ⟨W.heap.size, 5, none⟩) (Nat.le_refl _) (.slice none 0 0)).setCell (p := ⟨W.heap.size, 6, none⟩) (Nat.le_refl _) (.slice none 0 0)))
  clear z0 f0 z1 f1 z2 f2 z3 f3 z4 f4 z5 f5 z6 f6 zl
  generalize World.setCell _ _ _ = w9 at *
  have c0 := cl R5.out 0
  have c1 := cl R5.out 1
  have c2 := cl R5.out 2
  have c3 := cl R5.out 3
  have c4 := cl R5.out 4
  have c5 := cl R5.out 5
  have c6 := cl R5.out 6
  have cl := R5.out.lt
  exact bodyPost_ret (v := .tuple #[.agg #[.slice none 0 0, .int .u64 0, .slice none 0 0, .int .u64 0, .slice none 0 0, .slice none 0 0, .slice none 0 0], .int .i64 2]) (by simp [results, Tryz.results31, go_sem, c0, c1, c2, c3, c4, c5, c6, cl]) rfl ⟨⟨_, by rw [HK.out], by rw [HV.out]; exact zero_rec _ _⟩, HB5.out⟩
set_option maxRecDepth 20000 in
theorem new_good (g n : Nat) (hg1 : 1 ≤ g) (hg8 : g ≤ 8) (hn2 : 2 ≤ n) (hn9 : n ≤ 128) (W : World) : Calls Tryz.prog 31 #[.int .i64 (g : Int), .int .i64 (n : Int)] W (NewRes (g : Int) (n : Int) W) := by
 have HK := Hi (show NewK (g : Int) (n : Int) = 0 from if_pos (by omega))
 have HV := Hi (show NewV (g : Int) (n : Int) = newR g n from by unfold NewV; rw [if_pos (by omega)]; rfl)
 have hb1 := ba W (.cells #[.slice none 0 0, .int .u64 0, .slice none 0 0, .int .u64 0, .slice none 0 0, .slice none 0 0, .slice none 0 0] 34)
 have R4 := Hi (RowAt.new W 34 #[.slice none 0 0, .int .u64 0, .slice none 0 0, .int .u64 0, .slice none 0 0, .slice none 0 0, .slice none 0 0])
 have HB := Hi hb1
 clear hb1
 go_enter Tryz.func31, Tryz.ntmps31
 go_wp2_with fail
 generalize W.alloc _ = w1 at *
 have HW1 := Hi R4.out.lt
 with_reducible refine (pnew_yes g w1 hg1 hg8).mono ?_
 rintro e w2 ⟨AP, cP, rfl, hc1, hc2, hrd, hlo, hb⟩
 replace R4 := Hi (R4.out.below hb)
 replace HB := bt HB hb
 have HRP := Hi hrd
 have HLO := Hi (show ∀ q, AP = some q → q.block ≠ W.heap.size from fun q hq => by have := hlo q hq; have := HW1.out; omega)
 clear hb hrd hlo
 go_upto_region 2 with (fail)
 have hb := ba w2 (.cells #[.int .u64 0, .slice AP g cP] 28)
 have R6 := Hi (RowAt.new w2 28 #[.int .u64 0, .slice AP g cP])
 replace R4 := Hi (R4.out.below hb)
 replace HRP := Hi ((HRP.out.below hb).more hb.size)
 replace HB := bt HB hb
 clear hb
 generalize w2.alloc _ = w3 at *
 have HG6 := Hi (show W.heap.size ≠ w2.heap.size from by have := R4.out; intro e; rw [e] at this; exact absurd (row_typ this R6.out) (by decide))
 generalize w2.heap.size = g6 at *
 have HW3 := Hi R4.out.lt
 go_wp2_with fail
 with_reducible refine (anew_yes n w3 hn2 hn9).mono ?_
 rintro e w4 ⟨AA, cA, rfl, hd1, hd2, hrd, hla, hb⟩
 replace R4 := Hi (R4.out.below hb)
 replace R6 := Hi (R6.out.below hb)
 replace HRP := Hi ((HRP.out.below hb).more hb.size)
 replace HB := bt HB hb
 have HRA := Hi hrd
 have HLA := Hi (show ∀ q, AA = some q → q.block ≠ W.heap.size from fun q hq => by have := hla q hq; have := HW3.out; omega)
 clear hb hrd hla
 go_upto_region 5 with (fail)
 have hb := ba w4 (.cells #[.slice AA n cA] 24)
 have R8 := Hi (RowAt.new w4 24 #[.slice AA n cA])
 replace R4 := Hi (R4.out.below hb)
 replace R6 := Hi (R6.out.below hb)
 replace HRP := Hi ((HRP.out.below hb).more hb.size)
 replace HRA := Hi ((HRA.out.below hb).more hb.size)
 replace HB := bt HB hb
 clear hb
 generalize w4.alloc (.cells #[.slice AA n cA] 24) = w5 at *
 have HG8 := Hi (show W.heap.size ≠ w4.heap.size from by have := R4.out; intro e; rw [e] at this; exact absurd (row_typ this R8.out) (by decide))
 generalize w4.heap.size = g8 at *
 go_upto_region 7 with (fail)
 have HSX := Hi (fun (wX : World) (hgX : Below w5.heap.size w5 wX) => show wX.cell? ⟨g8, 0, none⟩ = some (.slice AA n cA) ∧ wX.cell? ⟨g6, 0, none⟩ = some (.int .u64 0) ∧ wX.cell? ⟨g6, 1, none⟩ = some (.slice AP g cP) ∧ g8 < wX.heap.size ∧ g6 < wX.heap.size from ⟨kept hgX (row1 R8.out), kept hgX (row20 R6.out), kept hgX (row21 R6.out), Nat.lt_of_lt_of_le R8.out.lt hgX.size, Nat.lt_of_lt_of_le R6.out.lt hgX.size⟩)
 have HGR := Hi ((Below.refl w5.heap.size w5).drew)
 refine wp_region_held_drew (S := fun wX => wX.cell? ⟨g8, 0, none⟩ = some (.slice AA n cA) ∧ wX.cell? ⟨g6, 0, none⟩ = some (.int .u64 0) ∧ wX.cell? ⟨g6, 1, none⟩ = some (.slice AP g cP) ∧ g8 < wX.heap.size ∧ g6 < wX.heap.size) (by kernel_rfl) (HSX.out _ HGR.out) (fun hHeld => ?_)
 clear hHeld
 have hS0 := HSX.out _ HGR.out
 refine tkI (i := 0) rfl ?_
 refine tkI (i := 1) rfl ?_
 refine ryH (i := 2) rfl (fun K0 hK0 => ?_)
 go_simp
 with_reducible refine (Li.New_any _).mono ?_
 rintro e w6 ⟨rfl, hb⟩
 have HX6 := bt HGR hb
 clear hS0 hb
 have hS0 := HSX.out _ HX6.out
 refine hK0.out _ _ hS0 (fun _ => wnH ?_)
 clear hK0 K0
 refine tkI (i := 3) rfl ?_
 replace R4 := Hi (R4.out.below HX6.out)
 replace R6 := Hi (R6.out.below HX6.out)
 replace R8 := Hi (R8.out.below HX6.out)
 replace HRP := Hi ((HRP.out.below HX6.out).more HX6.out.size)
 replace HRA := Hi ((HRA.out.below HX6.out).more HX6.out.size)
 replace HB := Hi (HB.out.trans (HX6.out.mono HB.out.size))
 refine ryH (i := 4) rfl (fun K1 hK1 => ?_)
 have z0 := cl R4.out 0
 obtain ⟨f0, f1, f2, f3, f4, f5, f6⟩ := fz R4.out
 have z1 := cl R4.out 1
 have z2 := cl R4.out 2
 have z3 := cl R4.out 3
 have z4 := cl R4.out 4
 have z5 := cl R4.out 5
 have z6 := cl R4.out 6
 have zl := R4.out.lt
 go_simp
 have R5 := Hi (rp7 R4.out (.slice AA n cA) (.int .u64 0) (.slice AP g cP) (.int .u64 0) (.slice none 0 0) (.slice none 0 0) (.slice none 0 0))
 have HB5 := Hi (show Below W.heap.size W (((((((w6.setCell ⟨W.heap.size, 0, none⟩ (.slice AA n cA)).setCell ⟨W.heap.size, 1, none⟩ (.int .u64 0)).setCell ⟨W.heap.size, 2, none⟩ (.slice AP g cP)).setCell ⟨W.heap.size, 3, none⟩ (.int .u64 0)).setCell ⟨W.heap.size, 4, none⟩ (.slice none 0 0)).setCell ⟨W.heap.size, 5, none⟩ (.slice none 0 0)).setCell ⟨W.heap.size, 6, none⟩ (.slice none 0 0)) from (((((((HB.out.setCell (p := ⟨W.heap.size, 0, none⟩) (Nat.le_refl _) (.slice AA n cA)).setCell (p := ⟨W.heap.size, 1, none⟩) (Nat.le_refl _) (.int .u64 0)).setCell (p := ⟨W.heap.size, 2, none⟩) (Nat.le_refl _) (.slice AP g cP)).setCell (p := ⟨W.heap.size, 3, none⟩) (Nat.le_refl _) (.int .u64 0)).setCell (p := ⟨W.heap.size, 4, none⟩) (Nat.le_refl _) (.slice none 0 0)).setCell (p := ⟨W.heap.size, 5, none⟩) (Nat.le_refl _) (.slice none 0 0)).setCell (p := ⟨W.heap.size, 6, none⟩) (Nat.le_refl _) (.slice none 0 0)))
 have HPS := Hi (show Past W.heap.size w6 (((((((w6.setCell ⟨W.heap.size, 0, none⟩ (.slice AA n cA)).setCell ⟨W.heap.size, 1, none⟩ (.int .u64 0)).setCell ⟨W.heap.size, 2, none⟩ (.slice AP g cP)).setCell ⟨W.heap.size, 3, none⟩ (.int .u64 0)).setCell ⟨W.heap.size, 4, none⟩ (.slice none 0 0)).setCell ⟨W.heap.size, 5, none⟩ (.slice none 0 0)).setCell ⟨W.heap.size, 6, none⟩ (.slice none 0 0)) from ((((((((Past.refl W.heap.size w6).trans (Past.set 0 (.slice AA n cA))).trans (Past.set 1 (.int .u64 0))).trans (Past.set 2 (.slice AP g cP))).trans (Past.set 3 (.int .u64 0))).trans (Past.set 4 (.slice none 0 0))).trans (Past.set 5 (.slice none 0 0))).trans (Past.set 6 (.slice none 0 0))))
 clear z0 f0 z1 f1 z2 f2 z3 f3 z4 f4 z5 f5 z6 f6 zl hS0
 generalize World.setCell _ _ _ = w9 at *
 have HST := Hi (show StayF (fun j => j ≠ W.heap.size) w6 w9 from ⟨HPS.out.size, fun j hj hl => HPS.out.block j hj hl⟩)
 have R6n := HPS.out
 have R8x := R8.out.past HPS.out (Ne.symm HG8.out)
 have R6x := R6.out.past HPS.out (Ne.symm HG6.out)
 have hS0 : w9.cell? ⟨g8, 0, none⟩ = some (.slice AA n cA) ∧ w9.cell? ⟨g6, 0, none⟩ = some (.int .u64 0) ∧ w9.cell? ⟨g6, 1, none⟩ = some (.slice AP g cP) ∧ g8 < w9.heap.size ∧ g6 < w9.heap.size := ⟨row1 R8x, row20 R6x, row21 R6x, R8x.lt, R6x.lt⟩
 clear R6n R8x R6x
 refine hK1.out _ _ hS0 (fun _ => wnH ?_)
 clear hK1 K1
 refine tkI (i := 5) rfl ?_
 refine wpAnyH_done (by kernel_rfl) ?_ _
 go_wp2_with fail
 have c0 := cl R5.out 0
 have c1 := cl R5.out 1
 have c2 := cl R5.out 2
 have c3 := cl R5.out 3
 have c4 := cl R5.out 4
 have c5 := cl R5.out 5
 have c6 := cl R5.out 6
 have cl := R5.out.lt
 refine bodyPost_ret (v := .tuple #[.agg #[.slice AA n cA, .int .u64 0, .slice AP g cP, .int .u64 0, .slice none 0 0, .slice none 0 0, .slice none 0 0], .int .i64 0]) (by simp [results, Tryz.results31, go_sem, c0, c1, c2, c3, c4, c5, c6, cl]) rfl ⟨⟨_, by rw [HK.out], ?_⟩, HB5.out⟩
 rw [HV.out]
 exact ⟨AA, AP, n, cA, g, cP, fun _ => none, fun _ => 0, fun _ => 0, rfl, RdF.all (HRA.out.stayF (F := fun j => j ≠ W.heap.size) (fun _ => HLA.out) HST.out), by simp [newR], hd1, RdF.all (HRP.out.stayF (F := fun j => j ≠ W.heap.size) (fun _ => HLO.out) HST.out), by simp [newR], ⟨hc1, Nat.le_trans hc2 (by decide)⟩, fun k _ => RdF.none_, fun k _ => rfl, fun k _ => ⟨Nat.le_refl _, Nat.zero_le _⟩⟩
def PinRes (gh base : Nat) (o : EOp) (At : Option Addr) (nt ct : Nat) (told : List Ent) (res : Except Int (Rec × List Ent)) (W : World) (e : Ending) (W' : World) : Prop :=
 (∃ r', res = .ok (r', told) ∧ e = .returned (.tuple #[]) ∧ (∃ A0 As n0 c0 ns cs A n c, HandR W' base gh A0 As n0 c0 ns cs A n c o At nt ct r' told) ∧ Past gh W W') ∨ (∃ k, res = .error k ∧ e = .panicked (errX k) ∧ (∃ cs, RowAt W' gh 95 cs ∧ cs.size = 13) ∧ Past gh W W')
theorem New_any (g n : Int) (W : World) : Calls Tryz.prog 31 #[.int .i64 g, .int .i64 n] W (NewRes g n W) := by
 by_cases h : (1 ≤ g ∧ g ≤ 8) ∧ (2 ≤ n ∧ n ≤ 128)
 ·
  obtain ⟨a, ha⟩ := Int.eq_ofNat_of_zero_le (show 0 ≤ g by omega)
  obtain ⟨b, hb⟩ := Int.eq_ofNat_of_zero_le (show 0 ≤ n by omega)
  subst ha hb
  exact new_good a b (by omega) (by omega) (by omega) (by omega) W
 · exact new_bad g n h W
theorem off_from {gh : Nat} {At : Option Addr} {w : World} {base nt ct : Nat} {xs : List Value} (hg : gh < w.heap.size) (ho : w.ownsRow base 41 2 (.slice At nt ct) nt xs) (hb : base ≤ gh) : ∀ j, From w.heap.size j → OffB base gh At j := fun j hj => ⟨by have hj : w.heap.size ≤ j := hj; omega, off_up hg (fun q hq => (told_lt ho q hq).2) hj⟩
theorem PnOut.rdF {W w : World} {A : Option Addr} {n : Nat} {ys : List Int} (h : Pn.PnOut W A n ys w) : RdF (From W.heap.size) w 1 A n (Cs encW ys) := RdF.of h.rd (fun hn q hq => by
 obtain ⟨gs, h1, h2, _⟩ := h.own hn
 rw [hq] at h1
 injection h1 with h1
 subst h1
 exact h2) (fun _ hn q hq => by
 obtain ⟨gs, h1, _, h3⟩ := h.own hn
 rw [hq] at h1
 injection h1 with h1
 subst h1
 exact ⟨_, _, h3⟩)
set_option maxRecDepth 20000 in
theorem pinned_any (base gh : Nat) (A0 As : Option Addr) (n0 c0 ns cs : Nat) (A : Nat → Option Addr) (n c : Nat → Nat) (o : EOp) (At : Option Addr) (nt ct : Nat) (r : Rec) (told : List Ent) (k : Int) (W : World) (h : HandR W base gh A0 As n0 c0 ns cs A n c o At nt ct r told) (hf : FitR r) (hb0 : 0 ≤ o.b) (res : Except Int (Rec × List Ent)) (hres : pinR r told o k = res) :
  Calls Tryz.prog 102 #[.pointer (some ⟨gh, 0, none⟩), .int .i64 k] W (PinRes gh base o At nt ct told res W) := by
 have H := Hi h
 have HF := Hi hf
 have HR := Hi hres
 have HB0 := Hi hb0
 clear h hf hres hb0
 obtain ⟨E, hE⟩ : ∃ E, Pn.doE r.e r.S k o.g o.b = E := ⟨_, rfl⟩
 obtain ⟨X, hX⟩ : ∃ X, Pn.doX r.e r.S k o.g o.b = X := ⟨_, rfl⟩
 obtain ⟨Y, hY⟩ : ∃ Y, Pn.doS r.e r.S k o.g o.b = Y := ⟨_, rfl⟩
 obtain ⟨m, hm⟩ : ∃ m, Y.length = m := ⟨_, rfl⟩
 have HE := Hi hE
 have HX := Hi hX
 have HY := Hi hY
 have HM := Hi hm
 clear hE hX hY hm
 go_enter Tryz.func102, Tryz.ntmps102
 go_upto_region 0 with (fail)
 have HSX := Hi (fun (wX : World) (hgX : Below W.heap.size W wX) => show wX.cell? ⟨gh, 1, none⟩ = some (.int .u64 r.e) ∧ wX.cell? ⟨gh, 2, none⟩ = some (.slice As ns cs) ∧ wX.cell? ⟨gh, 8, none⟩ = some (.int .i64 o.g) ∧ wX.cell? ⟨gh, 9, none⟩ = some (.int .u64 o.b) ∧ gh < wX.heap.size from by
  obtain ⟨z0, z1, z2, z3, z4, z5, z6, z7, z8, z9, z10, z11, z12⟩ := row13 H.out.row
  exact ⟨kept hgX z1, kept hgX z2, kept hgX z8, kept hgX z9, Nat.lt_of_lt_of_le H.out.row.lt hgX.size⟩)
 have HGR := Hi ((Below.refl W.heap.size W).drew)
 refine wp_region_T (fun wX => wX.cell? ⟨gh, 1, none⟩ = some (.int .u64 r.e) ∧ wX.cell? ⟨gh, 2, none⟩ = some (.slice As ns cs) ∧ wX.cell? ⟨gh, 8, none⟩ = some (.int .i64 o.g) ∧ wX.cell? ⟨gh, 9, none⟩ = some (.int .u64 o.b) ∧ gh < wX.heap.size) 25 (by kernel_rfl) (HSX.out _ HGR.out) (fun hHeld => ?_)
 clear hHeld
 have hS0 := HSX.out _ HGR.out
 refine tkT (i := 0) rfl ?_
 refine tkT (i := 1) rfl ?_
 refine tkT (i := 2) rfl ?_
 refine tkT (i := 3) rfl ?_
 refine tkT (i := 4) rfl ?_
 refine tkT (i := 5) rfl ?_
 refine tkT (i := 6) rfl ?_
 refine tkT (i := 7) rfl ?_
 refine tkT (i := 8) rfl ?_
 refine tkT (i := 9) rfl ?_
 refine tkT (i := 10) rfl ?_
 refine tkT (i := 11) rfl ?_
 refine tkT (i := 12) rfl ?_
 refine tkT (i := 13) rfl ?_
 refine tkT (i := 14) rfl ?_
 refine tkT (i := 15) rfl ?_
 refine tkT (i := 16) rfl ?_
 refine tkT (i := 17) rfl ?_
 refine wpAnyT_one (i := 18) rfl (by kernel_rfl) (fun K0 hK0 => ?_)
 go_simp
 with_reducible refine (Pn.Do_any As cs ns r.e r.S k o.g o.b _ ((H.out.below HGR.out).all.S.rd) H.out.all.ls HF.out.e.1 HF.out.s HB0.out (by rw [← H.out.all.ls]; exact HF.out.S) E X Y m HE.out HX.out HY.out HM.out).mono ?_
 rintro e w1 ⟨A', c', rfl, hmc, hcm, hpn, hb⟩
 have HPN := Hi (PnOut.rdF hpn)
 have HX1 := bt HGR hb
 have HMC := Hi (And.intro hmc hcm)
 clear hS0 hb hpn hmc hcm
 have hS0 := HSX.out _ HX1.out
 refine hK0.out _ _ (fun _ => hS0) ?_
 clear hK0 K0
 (try simp only [Act.put, Na, Nb, Nc, Nd, Nx, Nf])
 refine tkT (i := 19) rfl ?_
 refine tkT (i := 20) rfl ?_
 by_cases hE0 : E = 0
 case neg =>
  refine wpAnyT_one (i := 21) rfl (by kernel_rfl) (fun K1 hK1 => ?_)
  go_simp
  with_reducible refine (sureP_no X A' m c' E hE0 w1).mono ?_
  rintro e w2 ⟨rfl, hb⟩
  have HX2 := bt HX1 hb
  have HRR := Hi (show res = Except.error E from by rw [← HR.out]; unfold pinR; rw [HE.out, if_neg hE0])
  have HP := Hi (Past.of_below H.out.row.lt HX2.out)
  exact ⟨rfl, .inr ⟨E, HRR.out, rfl, ⟨_, H.out.row.below HX2.out, rfl⟩, HP.out⟩⟩
 case pos =>
  subst hE0
  refine wpAnyT_one (i := 21) rfl (by kernel_rfl) (fun K2 hK2 => ?_)
  go_simp
  with_reducible refine (sureP_ok X A' m c' w1).mono ?_
  rintro e w2 ⟨rfl, hb⟩
  have HX2 := bt HX1 hb
  have HPN2 := Hi (HPN.out.below hb)
  clear hS0 hb
  have hS0 := HSX.out _ HX2.out
  refine hK2.out _ _ (fun _ => hS0) ?_
  clear hK2 K2
  (try simp only [Act.put, Na, Nb, Nc, Nd, Nx, Nf])
  refine wpAnyT_one (i := 22) rfl (by kernel_rfl) (fun K3 hK3 => ?_)
  go_simp
  refine hK3.out _ _ (fun _ => hS0) ?_
  clear hK3 K3
  (try simp only [Act.put, Na, Nb, Nc, Nd, Nx, Nf])
  refine wpAnyT_one (i := 23) rfl (by kernel_rfl) (fun K4 hK4 => ?_)
  go_simp
  refine hK4.out _ _ (fun _ => hS0) ?_
  clear hK4 K4
  (try simp only [Act.put, Na, Nb, Nc, Nd, Nx, Nf])
  refine wpAnyT_one (i := 24) rfl (by kernel_rfl) (fun K5 hK5 => ?_)
  go_simp
  refine hK5.out _ _ (fun _ => hS0) ?_
  clear hK5 K5
  (try simp only [Act.put, Na, Nb, Nc, Nd, Nx, Nf])
  refine wpAnyT_one (i := 25) rfl (by kernel_rfl) (fun K6 hK6 => ?_)
  have H2 := Hi (H.out.below HX2.out)
  obtain ⟨z0, z1, z2, z3, z4, z5, z6, z7, z8, z9, z10, z11, z12⟩ := row13 H2.out.row
  have zl := H2.out.row.lt
  have f1 := H2.out.row.frozen 1
  have f2 := H2.out.row.frozen 2
  go_simp
  have HP2 := Hi (show Past gh w2 ((w2.setCell ⟨gh, 1, none⟩ (.int .u64 X)).setCell ⟨gh, 2, none⟩ (.slice A' m c')) from (((Past.refl gh w2).trans (Past.set 1 (.int .u64 X))).trans (Past.set 2 (.slice A' m c'))))
  have HN := Hi (show RowAt ((w2.setCell ⟨gh, 1, none⟩ (.int .u64 X)).setCell ⟨gh, 2, none⟩ (.slice A' m c')) gh 95 #[.slice A0 n0 c0, .int .u64 X, .slice A' m c', .int .u64 (r.l.E : Int), .slice (A 0) (n 0) (c 0), .slice (A 1) (n 1) (c 1), .slice (A 2) (n 2) (c 2), .int .i64 o.k, .int .i64 o.g, .int .u64 o.b, .int .i64 o.x.1, .int .u64 o.x.2, .slice At nt ct] from by have h := ((H2.out.row.set 1 (.int .u64 X)).set 2 (.slice A' m c')); simpa using h)
  clear z0 z1 z2 z3 z4 z5 z6 z7 z8 z9 z10 z11 z12 zl f1 f2 hS0
  generalize (w2.setCell _ _).setCell _ _ = w3 at *
  refine hK6.out _ _ (fun h => absurd rfl h) ?_
  clear hK6 K6
  (try simp only [Act.put, Na, Nb, Nc, Nd, Nx, Nf])
  refine wpAnyT_done (by kernel_rfl) ?_ _
  have HPD := Hi ((Past.of_below H.out.row.lt HX2.out).trans HP2.out)
  have HRR := Hi (show res = Except.ok ((⟨r.sl, X, Y, r.l⟩ : Rec), told) from by rw [← HR.out]; unfold pinR; rw [HE.out, if_pos rfl, HX.out, HY.out])
  have HFR := Hi (off_from H.out.row.lt H.out.own H.out.lo)
  have HHN := Hi (show HandR w3 base gh A0 A' n0 c0 m c' A n c o At nt ct (⟨r.sl, X, Y, r.l⟩ : Rec) told from H2.out.past HP2.out HN.out ⟨H2.out.all.sl, H2.out.all.l0, H2.out.all.h0, HPN2.out.up (fun j hj _ => HFR.out j hj), HM.out, HMC.out, H2.out.all.rw, H2.out.all.ll, H2.out.all.hl⟩)
  go_wp2_with fail
  go_end0
  exact .inl ⟨_, HRR.out, rfl, ⟨_, _, _, _, _, _, _, _, _, HHN.out⟩, HPD.out⟩
theorem pin_any (base gh : Nat) (A0 As : Option Addr) (n0 c0 ns cs : Nat) (A : Nat → Option Addr) (n c : Nat → Nat) (o : EOp) (At : Option Addr) (nt ct : Nat) (r : Rec) (told : List Ent) (W : World) (h : HandR W base gh A0 As n0 c0 ns cs A n c o At nt ct r told) (hf : FitR r) (hb0 : 0 ≤ o.b) (res : Except Int (Rec × List Ent)) (hres : pinR r told o 1 = res) :
  Calls Tryz.prog 76 #[.pointer (some ⟨gh, 0, none⟩)] W (MthRes gh base o At res W) := by
 have HC := Hi (pinned_any base gh A0 As n0 c0 ns cs A n c o At nt ct r told 1 W h hf hb0 res hres)
 clear h hf hb0 hres
 go_enter Tryz.func76, Tryz.ntmps76
 go_wp2_with fail
 with_reducible refine HC.out.mono ?_
 rintro e w1 (⟨r', hr, rfl, ⟨X0, Xs, x0, d0, xs', ds, X, x, d, hx⟩, hp⟩ | ⟨k, hr, rfl, hx, hp⟩)
 ·
  have HX := Hi (show HandX w1 base gh o r' told from ⟨_, _, _, _, _, _, _, _, _, _, _, _, hx⟩)
  have HP := Hi (PastH.of_past (At := At) hp)
  have HR := Hi hr
  clear hx hp hr
  go_wp2_with fail
  go_end0
  exact .inl ⟨_, _, HR.out, rfl, HX.out, HP.out⟩
 · exact ⟨rfl, .inr ⟨k, hr, rfl, hx, hp⟩⟩
theorem unpin_any (base gh : Nat) (A0 As : Option Addr) (n0 c0 ns cs : Nat) (A : Nat → Option Addr) (n c : Nat → Nat) (o : EOp) (At : Option Addr) (nt ct : Nat) (r : Rec) (told : List Ent) (W : World) (h : HandR W base gh A0 As n0 c0 ns cs A n c o At nt ct r told) (hf : FitR r) (hb0 : 0 ≤ o.b) (res : Except Int (Rec × List Ent)) (hres : pinR r told o 2 = res) :
  Calls Tryz.prog 77 #[.pointer (some ⟨gh, 0, none⟩)] W (MthRes gh base o At res W) := by
 have HC := Hi (pinned_any base gh A0 As n0 c0 ns cs A n c o At nt ct r told 2 W h hf hb0 res hres)
 clear h hf hb0 hres
 go_enter Tryz.func77, Tryz.ntmps77
 go_wp2_with fail
 with_reducible refine HC.out.mono ?_
 rintro e w1 (⟨r', hr, rfl, ⟨X0, Xs, x0, d0, xs', ds, X, x, d, hx⟩, hp⟩ | ⟨k, hr, rfl, hx, hp⟩)
 ·
  have HX := Hi (show HandX w1 base gh o r' told from ⟨_, _, _, _, _, _, _, _, _, _, _, _, hx⟩)
  have HP := Hi (PastH.of_past (At := At) hp)
  have HR := Hi hr
  clear hx hp hr
  go_wp2_with fail
  go_end0
  exact .inl ⟨_, _, HR.out, rfl, HX.out, HP.out⟩
 · exact ⟨rfl, .inr ⟨k, hr, rfl, hx, hp⟩⟩
theorem LimOwn.rdF {w : World} {base : Nat} {A : Nat → Option Addr} {n c : Nat → Nat} {r : Nat → List Ent} (h : Li.LimOwn w base A n c r) (k : Nat) (hk : k < 3) : RdF (From base) w 2 (A k) (n k) (Cs encE (r k)) ∧ n k ≤ c k ∧ c k ≤ MaxLen := by
 refine ⟨RdF.of (h.own k hk).rd (fun hn q hq => ((h.own k hk).fresh hq).1) (fun _ hn q hq => by
  rcases (h.own k hk).2 with ⟨h1, h2⟩ | ⟨g, o, cap, cur, h1, h2, h3, h4⟩
  · omega
  ·
   injection h1 with h1
   rw [hq] at h1
   injection h1 with h1
   subst h1
   exact ⟨_, _, h3⟩), ?_⟩
 obtain ⟨A', c', hv, h1, h2⟩ := (h.own k hk).form
 injection hv with hv1 hv2 hv3
 exact ⟨by rw [hv3]; exact h1, by rw [hv3]; exact h2⟩
theorem ArOut.rdF {W w : World} {A : Option Addr} {n : Nat} {ys : List Ent} (h : ArOut W A n ys w) : RdF (From W.heap.size) w 2 A n (Cs encE ys) := RdF.of h.rd (fun hn q hq => by
 obtain ⟨gs, h1, h2, _⟩ := h.own hn
 rw [hq] at h1
 injection h1 with h1
 subst h1
 exact h2) (fun _ hn q hq => by
 obtain ⟨gs, h1, _, h3⟩ := h.own hn
 rw [hq] at h1
 injection h1 with h1
 subst h1
 exact ⟨_, _, h3⟩)
set_option maxRecDepth 20000 in
theorem egoes_any (base gh : Nat) (A0 As : Option Addr) (n0 c0 ns cs : Nat) (A : Nat → Option Addr) (n c : Nat → Nat) (o : EOp) (At : Option Addr) (nt ct : Nat) (r : Rec) (told : List Ent) (W : World) (h : HandR W base gh A0 As n0 c0 ns cs A n c o At nt ct r told) (hf : FitR r) (hb0 : 0 ≤ o.b) (res : Except Int (Rec × List Ent)) (hres : goR r told o = res) :
  Calls Tryz.prog 82 #[.pointer (some ⟨gh, 0, none⟩)] W (MthRes gh base o At res W) := by
 have H := Hi h
 have HF := Hi hf
 have HR := Hi hres
 have HB0 := Hi hb0
 obtain ⟨xs, hxs⟩ : ∃ xs, (if r.l.ok = true then r.l.at 2 else []) = xs := ⟨_, rfl⟩
 have HXS := Hi hxs
 clear h hf hres hb0 hxs
 go_enter Tryz.func82, Tryz.ntmps82
 obtain ⟨z0, z1, z2, z3, z4, z5, z6, z7, z8, z9, z10, z11, z12⟩ := row13 H.out.row
 have zl := H.out.row.lt
 go_wp2_with fail
 with_reducible refine (Li.ready_any W.heap.size A n c r.l W H.out.all.lim HF.out.E (Nat.le_refl _) (fun k hk => by rw [← H.out.all.ll k hk]; exact HF.out.rw k hk) HF.out.g xs HXS.out).mono ?_
 rintro e w1 ⟨v, rfl, hown, hb⟩
 obtain ⟨AR, cR, rfl, hcR⟩ := own_form hown
 have H1 := Hi (H.out.below hb)
 have HB1 := Hi hb
 clear hown hb hcR
 clear z0 z1 z2 z3 z4 z5 z6 z7 z8 z9 z10 z11 z12 zl
 obtain ⟨m, hm⟩ : ∃ m, xs.length = m := ⟨_, rfl⟩
 have HM := Hi hm
 rw [hm]
 clear hm
 by_cases hm0 : m = 0
 case neg =>
  have hd : ((m : Int) == 0) = false := by rw [beq_eq_false_iff_ne]; omega
  have HRR := Hi (show res = Except.error 241 from by rw [← HR.out]; unfold goR; rw [HXS.out, HM.out, if_neg hm0])
  clear hm0
  go_wp2_with fail
  with_reducible refine (eneed_no 241 _).mono ?_
  rintro e w2 ⟨rfl, rfl⟩
  exact ⟨rfl, .inr ⟨241, HRR.out, rfl, ⟨_, H1.out.row, rfl⟩, Past.of_below H.out.row.lt HB1.out⟩⟩
 case pos =>
  subst hm0
  go_wp2_with fail
  with_reducible refine (eneed_ok 241 _).mono ?_
  rintro e w2 ⟨rfl, hw⟩
  subst hw
  obtain ⟨pr, hpr⟩ : ∃ pr, pinR r told o 3 = pr := ⟨_, rfl⟩
  have HPR := Hi hpr
  clear hpr
  go_wp2_with fail
  with_reducible refine (pinned_any base gh A0 As n0 c0 ns cs A n c o At nt ct r told 3 w1 H1.out HF.out HB0.out pr HPR.out).mono ?_
  rintro e w3 (⟨r', hr, rfl, hx, hp⟩ | ⟨k, hr, rfl, hx, hp⟩)
  case inr =>
   have HRR := Hi (show res = Except.error k from by rw [← HR.out]; unfold goR; rw [HXS.out, HM.out, if_pos rfl, HPR.out, hr])
   exact ⟨rfl, .inr ⟨k, HRR.out, rfl, hx, (Past.of_below H.out.row.lt HB1.out).trans hp⟩⟩
  case inl =>
   obtain ⟨X0, Xs, x0, d0, xs', ds, X, x, d, hx⟩ := hx
   have H3 := Hi hx
   have HRL := Hi (show r'.l = r.l from by have h := HPR.out; rw [hr] at h; unfold pinR at h; split at h; (· injection h with h; injection h with h h2; rw [← h]); (· cases h))
   have HP3 := Hi ((Past.of_below H.out.row.lt HB1.out).trans hp)
   have HRP := Hi hr
   clear hx hp hr
   obtain ⟨ad, had⟩ : ∃ ad, Li.advR r'.l = ad := ⟨_, rfl⟩
   have HAD := Hi had
   clear had
   obtain ⟨z0, z1, z2, z3, z4, z5, z6, z7, z8, z9, z10, z11, z12⟩ := row13 H3.out.row
   have zl := H3.out.row.lt
   go_wp2_with fail
   with_reducible refine (Li.Advance_any w3.heap.size X x d r'.l w3 H3.out.all.lim (by rw [HRL.out]; exact HF.out.E) (Nat.le_refl _) (fun k hk => by rw [← H3.out.all.ll k hk, HRL.out]; exact HF.out.rw k hk) (by rw [HRL.out]; exact HF.out.g)).mono ?_
   rw [HAD.out]
   rintro e w4 ⟨hb, (⟨l', A4, n4, c4, hr4, rfl, hown⟩ | ⟨k, hr4, rfl⟩)⟩
   case inr =>
    have HRR := Hi (show res = Except.error k from by rw [← HR.out]; unfold goR; rw [HXS.out, HM.out, if_pos rfl, HPR.out, HRP.out]; dsimp only; rw [HAD.out, hr4])
    have H4 := Hi (H3.out.below hb)
    have HB4 := Hi hb
    have HK := Hi (show k ≠ 0 from by have h := HAD.out; rw [hr4] at h; unfold Li.advR at h; split at h; (· exact Li.doAdv_ne h); (· injection h with h; omega))
    clear hb hr4
    clear z0 z1 z2 z3 z4 z5 z6 z7 z8 z9 z10 z11 z12 zl
    go_wp2_with fail
    with_reducible refine (sureL_no 0 none none none 0 0 0 0 0 0 k HK.out _).mono ?_
    rintro e w5 ⟨rfl, hb⟩
    have HP5 := Hi ((HP3.out.trans (Past.of_below H3.out.row.lt HB4.out)).trans (Past.of_below H4.out.row.lt hb))
    have H5 := Hi (H4.out.below hb)
    clear hb
    exact ⟨rfl, .inr ⟨k, HRR.out, rfl, ⟨_, H5.out.row, rfl⟩, HP5.out⟩⟩
   case inl =>
    have HRR := Hi (show res = Except.ok ((⟨r'.sl, r'.e, r'.S, l'⟩ : Rec), told) from by rw [← HR.out]; unfold goR; rw [HXS.out, HM.out, if_pos rfl, HPR.out, HRP.out]; dsimp only; rw [HAD.out, hr4])
    clear hr4
    have H4 := Hi (H3.out.below hb)
    have HP4 := Hi (HP3.out.trans (Past.of_below H3.out.row.lt hb))
    have HOW := Hi hown
    have HLT := Hi H3.out.row.lt
    clear hb hown
    clear z0 z1 z2 z3 z4 z5 z6 z7 z8 z9 z10 z11 z12 zl
    go_wp2_with fail
    with_reducible refine (sureL_ok (l'.E : Int) (A4 0) (A4 1) (A4 2) (n4 0) (n4 1) (n4 2) (c4 0) (c4 1) (c4 2) _).mono ?_
    rintro e w5 ⟨rfl, hb⟩
    have H5 := Hi (H4.out.below hb)
    have HP5 := Hi (HP4.out.trans (Past.of_below H4.out.row.lt hb))
    have HOW5 := Hi (HOW.out.keepB hb)
    clear hb
    obtain ⟨z0, z1, z2, z3, z4, z5, z6, z7, z8, z9, z10, z11, z12⟩ := row13 H5.out.row
    have zl := H5.out.row.lt
    have f3 := H5.out.row.frozen 3
    have f4 := H5.out.row.frozen 4
    have f5 := H5.out.row.frozen 5
    have f6 := H5.out.row.frozen 6
    go_wp2_with fail
    have HP6 := Hi (show Past gh w5 ((((w5.setCell ⟨gh, 3, none⟩ (.int .u64 (l'.E : Int))).setCell ⟨gh, 4, none⟩ (.slice (A4 0) (n4 0) (c4 0))).setCell ⟨gh, 5, none⟩ (.slice (A4 1) (n4 1) (c4 1))).setCell ⟨gh, 6, none⟩ (.slice (A4 2) (n4 2) (c4 2))) from (((((Past.refl gh w5).trans (Past.set 3 (.int .u64 (l'.E : Int)))).trans (Past.set 4 (.slice (A4 0) (n4 0) (c4 0)))).trans (Past.set 5 (.slice (A4 1) (n4 1) (c4 1)))).trans (Past.set 6 (.slice (A4 2) (n4 2) (c4 2)))))
    have HN := Hi (show RowAt ((((w5.setCell ⟨gh, 3, none⟩ (.int .u64 (l'.E : Int))).setCell ⟨gh, 4, none⟩ (.slice (A4 0) (n4 0) (c4 0))).setCell ⟨gh, 5, none⟩ (.slice (A4 1) (n4 1) (c4 1))).setCell ⟨gh, 6, none⟩ (.slice (A4 2) (n4 2) (c4 2))) gh 95 #[.slice X0 x0 d0, .int .u64 r'.e, .slice Xs xs' ds, .int .u64 (l'.E : Int), .slice (A4 0) (n4 0) (c4 0), .slice (A4 1) (n4 1) (c4 1), .slice (A4 2) (n4 2) (c4 2), .int .i64 o.k, .int .i64 o.g, .int .u64 o.b, .int .i64 o.x.1, .int .u64 o.x.2, .slice At nt ct] from by have h := ((((H5.out.row.set 3 (.int .u64 (l'.E : Int))).set 4 (.slice (A4 0) (n4 0) (c4 0))).set 5 (.slice (A4 1) (n4 1) (c4 1))).set 6 (.slice (A4 2) (n4 2) (c4 2))); simpa using h)
    clear z0 z1 z2 z3 z4 z5 z6 z7 z8 z9 z10 z11 z12 zl
    clear f3 f4 f5 f6
    generalize (((w5.setCell _ _).setCell _ _).setCell _ _).setCell _ _ = w6 at *
    go_end0
    have HFR := off_from HLT.out H3.out.own H3.out.lo
    refine .inl ⟨_, _, HRR.out, rfl, ⟨_, _, _, _, _, _, _, _, _, _, _, _, H5.out.past (r' := (⟨r'.sl, r'.e, r'.S, l'⟩ : Rec)) HP6.out HN.out ⟨H5.out.all.sl, H5.out.all.l0, H5.out.all.h0, H5.out.all.S, H5.out.all.ls, H5.out.all.hs, fun k hk => ((LimOwn.rdF HOW5.out k hk).1).up (fun j hj _ => HFR j hj), fun k hk => HOW5.out.len k hk, fun k hk => (LimOwn.rdF HOW5.out k hk).2⟩⟩, PastH.of_past (HP5.out.trans HP6.out)⟩
set_option maxRecDepth 20000 in
theorem etake_any (base gh : Nat) (A0 As : Option Addr) (n0 c0 ns cs : Nat) (A : Nat → Option Addr) (n c : Nat → Nat) (o : EOp) (At : Option Addr) (nt ct : Nat) (r : Rec) (told : List Ent) (W : World) (h : HandR W base gh A0 As n0 c0 ns cs A n c o At nt ct r told) (hf : FitR r) (ht : (nt : Int) ≤ 1000000) (htk : (tkL r.sl 1).length ≤ 4096) (res : Except Int (Rec × List Ent)) (hres : takeR r told = res) :
  Calls Tryz.prog 78 #[.pointer (some ⟨gh, 0, none⟩)] W (MthRes gh base o At res W) := by
 have H := Hi h
 have HF := Hi hf
 have HR := Hi hres
 obtain ⟨E, hE⟩ : ∃ E, tkE r.sl 1 = E := ⟨_, rfl⟩
 obtain ⟨Y, hY⟩ : ∃ Y, tkA r.sl 1 = Y := ⟨_, rfl⟩
 obtain ⟨L, hL⟩ : ∃ L, tkL r.sl 1 = L := ⟨_, rfl⟩
 obtain ⟨k, hk⟩ : ∃ k, Y.length = k := ⟨_, rfl⟩
 obtain ⟨m, hm⟩ : ∃ m, L.length = m := ⟨_, rfl⟩
 rw [hL, hm] at htk
 have HE := Hi hE
 have HY := Hi hY
 have HL := Hi hL
 have HK := Hi hk
 have HM := Hi hm
 have HTM := Hi (And.intro ht htk)
 clear h hf hres hE hY hL hk hm ht htk
 go_enter Tryz.func78, Tryz.ntmps78
 obtain ⟨z0, z1, z2, z3, z4, z5, z6, z7, z8, z9, z10, z11, z12⟩ := row13 H.out.row
 have zl := H.out.row.lt
 go_wp2_with fail
 with_reducible refine (TakeK A0 c0 n0 1 r.sl W H.out.all.sl.rd H.out.all.l0 (by rw [← H.out.all.l0]; exact HF.out.sl) E Y L k m HE.out HY.out HL.out HK.out HM.out).mono ?_
 rintro e w1 ⟨A1, c1, A2, c2, rfl, hkc, hmc, hao, hrl, hlo, hb⟩
 go_upto_region 1 with (fail)
 have hb2 := ba w1 (.cells #[.slice A1 k c1] 24)
 have R2 := Hi (RowAt.new w1 24 #[.slice A1 k c1])
 have HB2 := Hi (hb.trans (hb2.mono hb.size))
 have H2 := Hi (H.out.below HB2.out)
 have HAO := Hi ((ArOut.rdF hao).below hb2)
 have HRL := Hi ((hrl.below hb2).more hb2.size)
 have HKC := Hi hkc
 have HLO := Hi hlo
 have HLT := Hi H.out.row.lt
 clear hb hb2 hao hrl hkc hmc hlo
 clear z0 z1 z2 z3 z4 z5 z6 z7 z8 z9 z10 z11 z12 zl
 generalize w1.alloc (.cells #[.slice A1 k c1] 24) = w2 at *
 generalize w1.heap.size = g2 at *
 have x0 := row1 R2.out
 have xl := R2.out.lt
 by_cases hE0 : E = 0
 case neg =>
  have HRR := Hi (show res = Except.error E from by rw [← HR.out]; unfold takeR; rw [HE.out, if_neg hE0])
  go_wp2_with fail
  with_reducible refine (sureA_no A1 k c1 E hE0 _).mono ?_
  rintro e w3 ⟨rfl, hb⟩
  exact ⟨rfl, .inr ⟨E, HRR.out, rfl, ⟨_, (H2.out.below hb).row, rfl⟩, (Past.of_below HLT.out HB2.out).trans (Past.of_below H2.out.row.lt hb)⟩⟩
 case pos =>
  subst hE0
  have HRR := Hi (show res = Except.ok ((⟨Y, r.e, r.S, r.l⟩ : Rec), told ++ L) from by rw [← HR.out]; unfold takeR; rw [HE.out, if_pos rfl, HY.out, HL.out])
  go_wp2_with fail
  with_reducible refine (sureA_ok A1 k c1 _).mono ?_
  rintro e w3 ⟨rfl, hb⟩
  have H3 := Hi (H2.out.below hb)
  have HP3 := Hi ((Past.of_below HLT.out HB2.out).trans (Past.of_below H2.out.row.lt hb))
  have HAO3 := Hi (HAO.out.below hb)
  have HRL3 := Hi ((HRL.out.below hb).more hb.size)
  clear hb x0 xl
  obtain ⟨z0, z1, z2, z3, z4, z5, z6, z7, z8, z9, z10, z11, z12⟩ := row13 H3.out.row
  have zl := H3.out.row.lt
  have f0 := H3.out.row.frozen 0
  go_upto_region 2 with (fail)
  have HPS := Hi (show Past gh w3 (w3.setCell ⟨gh, 0, none⟩ (.slice A1 k c1)) from ((Past.refl gh w3).trans (Past.set 0 (.slice A1 k c1))))
  have HN := Hi (show RowAt (w3.setCell ⟨gh, 0, none⟩ (.slice A1 k c1)) gh 95 #[.slice A1 k c1, .int .u64 r.e, .slice As ns cs, .int .u64 (r.l.E : Int), .slice (A 0) (n 0) (c 0), .slice (A 1) (n 1) (c 1), .slice (A 2) (n 2) (c 2), .int .i64 o.k, .int .i64 o.g, .int .u64 o.b, .int .i64 o.x.1, .int .u64 o.x.2, .slice At nt ct] from by have h := (H3.out.row.set 0 (.slice A1 k c1)); simpa using h)
  clear z0 z1 z2 z3 z4 z5 z6 z7 z8 z9 z10 z11 z12 zl
  clear f0
  have HRL4 := Hi (show Rd (w3.setCell ⟨gh, 0, none⟩ (.slice A1 k c1)) (w3.setCell ⟨gh, 0, none⟩ (.slice A1 k c1)).heap.size 2 A2 m (Cs encE L) from HRL3.out.stayF (F := fun j => j ≠ gh) (fun _ q hq => by have := HLO.out q hq; have := HLT.out; omega) ⟨HPS.out.size, fun j hj hl => HPS.out.block j hj hl⟩)
  generalize (w3.setCell ⟨gh, 0, none⟩ (.slice A1 k c1)) = w4 at *
  have HFR := off_from HLT.out H.out.own H.out.lo
  have H4 := Hi (H3.out.past (r' := (⟨Y, r.e, r.S, r.l⟩ : Rec)) HPS.out HN.out ⟨HAO3.out.up (fun j hj _ => HFR j hj), HK.out, HKC.out, H3.out.all.S, H3.out.all.ls, H3.out.all.hs, H3.out.all.rw, H3.out.all.ll, H3.out.all.hl⟩)
  have HP4 := Hi (HP3.out.trans HPS.out)
  clear HN HPS HFR HAO3 HRL3 HRL HAO
  obtain ⟨z0, z1, z2, z3, z4, z5, z6, z7, z8, z9, z10, z11, z12⟩ := row13 H4.out.row
  have zl := H4.out.row.lt
  have HBW := Hi (show base ≤ w4.heap.size from by have := H4.out.lo; have := H4.out.row.lt; omega)
  go_wp2_with (at_builtin; go_loud (refine wpList_app elE rfl _ _ rfl rfl H4.out.own rfl HRL4.out (Cs_one_cell encE_one _) (by have := HTM.out; omega) HBW.out ?_); intro v6 w6 hown6 hb6 hg6 hv6; obtain ⟨A7, c7, rfl, hc7, hcm7⟩ := own_form2 hown6; have hr6 := HandR.kept H4.out hg6; have HR6 := Hi hr6; obtain ⟨y0, y1, y2, y3, y4, y5, y6, y7, y8, y9, y10, y11, y12⟩ := row13 hr6; have yl := hr6.lt; have yf := hr6.frozen 12; have HO6 := Hi hown6; have HG6 := Hi hg6; have HV6 := Hi hv6; clear hr6 hown6 hb6 hg6 hv6)
  have HPS := Hi (show Past gh w6 (w6.setCell ⟨gh, 12, none⟩ (.slice A7 (nt + m) c7)) from ((Past.refl gh w6).trans (Past.set 12 (.slice A7 (nt + m) c7))))
  have HN := Hi (show RowAt (w6.setCell ⟨gh, 12, none⟩ (.slice A7 (nt + m) c7)) gh 95 #[.slice A1 k c1, .int .u64 r.e, .slice As ns cs, .int .u64 (r.l.E : Int), .slice (A 0) (n 0) (c 0), .slice (A 1) (n 1) (c 1), .slice (A 2) (n 2) (c 2), .int .i64 o.k, .int .i64 o.g, .int .u64 o.b, .int .i64 o.x.1, .int .u64 o.x.2, .slice A7 (nt + m) c7] from by have h := (HR6.out.set 12 (.slice A7 (nt + m) c7)); simpa using h)
  generalize w6.setCell _ _ = w7 at *
  go_end0
  have H7 := H4.out.tell HG6.out (told' := told ++ L) (by rw [Cs_append]; exact HO6.out) (by rw [List.length_append, H4.out.len, HM.out]) HV6.out HPS.out HN.out
  exact .inl ⟨_, _, HRR.out, rfl, ⟨_, _, _, _, _, _, _, _, _, _, _, _, H7⟩, ((PastH.of_past HP4.out).trans (PastH.grown HG6.out)).trans (PastH.of_past HPS.out)⟩
set_option maxRecDepth 20000 in
theorem eback_any (base gh : Nat) (A0 As : Option Addr) (n0 c0 ns cs : Nat) (A : Nat → Option Addr) (n c : Nat → Nat) (o : EOp) (At : Option Addr) (nt ct : Nat) (r : Rec) (told : List Ent) (W : World) (h : HandR W base gh A0 As n0 c0 ns cs A n c o At nt ct r told) (hf : FitR r) (hz : U64 o.x.2) (res : Except Int (Rec × List Ent)) (hres : backR r told o.x = res) :
  Calls Tryz.prog 79 #[.pointer (some ⟨gh, 0, none⟩)] W (MthRes gh base o At res W) := by
 have H := Hi h
 have HF := Hi hf
 have HR := Hi hres
 have HZ := Hi hz
 obtain ⟨q, hq⟩ : ∃ q, metR r o.x = q := ⟨_, rfl⟩
 obtain ⟨v, hv⟩ : ∃ v, (if q = true then tagOf r.sl o.x else 0) = v := ⟨_, rfl⟩
 have HQ := Hi hq
 have HQ2 := Hi (show (arOk r.sl && meantB r.sl (o.x.1, o.x.2)) = q from hq)
 have HV := Hi hv
 have HV2 := Hi (show (if q = true then tagOf r.sl (o.x.1, o.x.2) else 0) = v from hv)
 clear h hf hres hz hq hv
 go_enter Tryz.func79, Tryz.ntmps79
 go_upto_region 0 with (fail)
 have HSX := Hi (fun (wX : World) (hgX : Below W.heap.size W wX) => show wX.cell? ⟨gh, 0, none⟩ = some (.slice A0 n0 c0) ∧ wX.cell? ⟨gh, 10, none⟩ = some (.int .i64 o.x.1) ∧ wX.cell? ⟨gh, 11, none⟩ = some (.int .u64 o.x.2) ∧ gh < wX.heap.size from by
  obtain ⟨z0, z1, z2, z3, z4, z5, z6, z7, z8, z9, z10, z11, z12⟩ := row13 H.out.row
  exact ⟨kept hgX z0, kept hgX z10, kept hgX z11, Nat.lt_of_lt_of_le H.out.row.lt hgX.size⟩)
 have HGR := Hi ((Below.refl W.heap.size W).drew)
 refine wp_region_held_drew (S := fun wX => wX.cell? ⟨gh, 0, none⟩ = some (.slice A0 n0 c0) ∧ wX.cell? ⟨gh, 10, none⟩ = some (.int .i64 o.x.1) ∧ wX.cell? ⟨gh, 11, none⟩ = some (.int .u64 o.x.2) ∧ gh < wX.heap.size) (by kernel_rfl) (HSX.out _ HGR.out) (fun hHeld => ?_)
 clear hHeld
 have hS0 := HSX.out _ HGR.out
 refine tkI (i := 0) rfl ?_
 refine tkI (i := 1) rfl ?_
 refine tkI (i := 2) rfl ?_
 refine tkI (i := 3) rfl ?_
 refine tkI (i := 4) rfl ?_
 refine tkI (i := 5) rfl ?_
 refine tkI (i := 6) rfl ?_
 refine tkI (i := 7) rfl ?_
 refine tkI (i := 8) rfl ?_
 refine tkI (i := 9) rfl ?_
 refine ryH (i := 10) rfl (fun K0 hK0 => ?_)
 go_simp
 with_reducible refine (tag_any A0 c0 n0 o.x.1 o.x.2 r.sl _ (H.out.below HGR.out).all.sl.rd H.out.all.l0 (by rw [← H.out.all.l0]; exact HF.out.sl) q HQ2.out v HV2.out).mono ?_
 rintro e w1 ⟨rfl, hb⟩
 have HX1 := bt HGR hb
 clear hS0 hb
 have hS0 := HSX.out _ HX1.out
 refine hK0.out _ _ hS0 (fun _ => wnH ?_)
 clear hK0 K0
 refine tkI (i := 11) rfl ?_
 refine tkI (i := 12) rfl ?_
 refine tkI (i := 13) rfl ?_
 refine tkI (i := 14) rfl ?_
 refine tkI (i := 15) rfl ?_
 refine wpAnyH_done (by kernel_rfl) ?_ _
 have H1 := Hi (H.out.below HX1.out)
 have HP1 := Hi (Past.of_below H.out.row.lt HX1.out)
 clear hS0 HSX HGR
 obtain ⟨ok, hok⟩ : ∃ ok, decide (q = true ∧ v = 1) = ok := ⟨_, rfl⟩
 have HOK := Hi hok
 have HOKM := Hi (show (metR r o.x = true ∧ tagOf r.sl o.x = 1) ↔ ok = true from by
  rw [← hok, decide_eq_true_eq, HQ.out]
  constructor
  · rintro ⟨h1, h2⟩; exact ⟨h1, by rw [← HV.out, if_pos h1]; exact h2⟩
  · rintro ⟨h1, h2⟩; exact ⟨h1, by have := HV.out; rw [if_pos h1] at this; rw [this]; exact h2⟩)
 clear hok
 go_upto_region 1 with (fail)
 cases ok
 case false =>
  have HRR := Hi (show res = Except.error 4 from by rw [← HR.out]; unfold backR; rw [if_neg (fun h => by have := HOKM.out.1 h; cases this)])
  cases q
  case false =>
   go_wp2_with fail
   with_reducible refine (eneed_no 4 _).mono ?_
   rintro e w2 ⟨rfl, rfl⟩
   exact ⟨rfl, .inr ⟨4, HRR.out, rfl, ⟨_, H1.out.row, rfl⟩, HP1.out⟩⟩
  case true =>
   have hv1 : ¬ v = 1 := by simpa using HOK.out
   have hd : (v == 1) = false := by simpa using hv1
   clear hv1
   go_wp2_with fail
   with_reducible refine (eneed_no 4 _).mono ?_
   rintro e w2 ⟨rfl, rfl⟩
   exact ⟨rfl, .inr ⟨4, HRR.out, rfl, ⟨_, H1.out.row, rfl⟩, HP1.out⟩⟩
 case true =>
  have hqv : q = true ∧ v = 1 := by simpa using HOK.out
  obtain ⟨hq1, hv1⟩ := hqv
  subst hq1 hv1
  go_wp2_with fail
  with_reducible refine (eneed_ok 4 _).mono ?_
  rintro e w2 ⟨rfl, hw⟩
  subst hw
  obtain ⟨E, hE⟩ : ∃ E, gvE r.sl [(o.x.1, o.x.2)] = E := ⟨_, rfl⟩
  obtain ⟨Y, hY⟩ : ∃ Y, gvA r.sl [(o.x.1, o.x.2)] = Y := ⟨_, rfl⟩
  obtain ⟨k, hk⟩ : ∃ k, Y.length = k := ⟨_, rfl⟩
  have HE := Hi hE
  have HY := Hi hY
  have HK := Hi hk
  clear hE hY hk
  go_upto_region 2 with (fail)
  have HSX := Hi (fun (wX : World) (hgX : Below w1.heap.size w1 wX) => show wX.cell? ⟨gh, 0, none⟩ = some (.slice A0 n0 c0) ∧ wX.cell? ⟨gh, 10, none⟩ = some (.int .i64 o.x.1) ∧ wX.cell? ⟨gh, 11, none⟩ = some (.int .u64 o.x.2) ∧ gh < wX.heap.size from by
   obtain ⟨z0, z1, z2, z3, z4, z5, z6, z7, z8, z9, z10, z11, z12⟩ := row13 H1.out.row
   exact ⟨kept hgX z0, kept hgX z10, kept hgX z11, Nat.lt_of_lt_of_le H1.out.row.lt hgX.size⟩)
  have HGR := Hi ((Below.refl w1.heap.size w1).drew)
  refine wp_region_T (fun wX => wX.cell? ⟨gh, 0, none⟩ = some (.slice A0 n0 c0) ∧ wX.cell? ⟨gh, 10, none⟩ = some (.int .i64 o.x.1) ∧ wX.cell? ⟨gh, 11, none⟩ = some (.int .u64 o.x.2) ∧ gh < wX.heap.size) 19 (by kernel_rfl) (HSX.out _ HGR.out) (fun hHeld => ?_)
  clear hHeld
  have hS0 := HSX.out _ HGR.out
  refine tkT (i := 0) rfl ?_
  refine tkT (i := 1) rfl ?_
  refine tkT (i := 2) rfl ?_
  refine tkT (i := 3) rfl ?_
  refine tkT (i := 4) rfl ?_
  refine tkT (i := 5) rfl ?_
  refine tkT (i := 6) rfl ?_
  refine tkT (i := 7) rfl ?_
  refine tkT (i := 8) rfl ?_
  refine tkT (i := 9) rfl ?_
  refine tkT (i := 10) rfl ?_
  refine wpAnyT_one (i := 11) rfl (by kernel_rfl) (fun K0 hK0 => ?_)
  go_simp
  have HAL := Hi (((Below.refl w1.heap.size w1).alloc (Nat.le_refl _) (.cells #[.int .i64 o.x.1, .int .u64 o.x.2] 41)).drew)
  have HSRC := Hi (show Rd (w1.alloc (.cells #[.int .i64 o.x.1, .int .u64 o.x.2] 41)).drew (w1.alloc (.cells #[.int .i64 o.x.1, .int .u64 o.x.2] 41)).drew.heap.size 2 (some ⟨w1.heap.size, 0, none⟩) 1 (Cs encE [(o.x.1, o.x.2)]) from ((Rd.new w1 #[.int .i64 o.x.1, .int .u64 o.x.2] 41 2 1 rfl).below (Below.refl (w1.heap.size + 1) _).drew).more (Nat.le_of_eq (World.size_alloc w1 (.cells #[.int .i64 o.x.1, .int .u64 o.x.2] 41)).symm))
  clear hS0
  have hS0 := HSX.out _ HAL.out
  refine hK0.out _ _ (fun _ => hS0) ?_
  clear hK0 K0
  (try simp only [Act.put, Na, Nb, Nc, Nd, Nx, Nf])
  generalize (w1.alloc (.cells #[.int .i64 o.x.1, .int .u64 o.x.2] 41)).drew = wb at *
  skip
  refine wpAnyT_one (i := 12) rfl (by kernel_rfl) (fun K1 hK1 => ?_)
  go_simp
  have HB4 := Hi (H1.out.below HAL.out)
  with_reducible refine (GiveK A0 c0 n0 (some ⟨w1.heap.size, 0, none⟩) 1 1 r.sl [(o.x.1, o.x.2)] wb HB4.out.all.sl.rd HB4.out.all.l0 (by rw [← HB4.out.all.l0]; exact HF.out.sl) HSRC.out rfl (by omega) (by intro x hx; rw [List.mem_singleton] at hx; subst hx; exact HZ.out) E Y k HE.out HY.out HK.out).mono ?_
  rintro e w5 ⟨A1, c1, rfl, hkc, hao, hb⟩
  have HAO := Hi (ArOut.rdF hao)
  have HKC := Hi hkc
  have HX5 := bt HAL hb
  clear hS0 hb hkc hao
  have hS0 := HSX.out _ HX5.out
  refine hK1.out _ _ (fun _ => hS0) ?_
  clear hK1 K1
  (try simp only [Act.put, Na, Nb, Nc, Nd, Nx, Nf])
  refine tkT (i := 13) rfl ?_
  refine tkT (i := 14) rfl ?_
  by_cases hE0 : E = 0
  case neg =>
   refine wpAnyT_one (i := 15) rfl (by kernel_rfl) (fun K2 hK2 => ?_)
   go_simp
   with_reducible refine (sureA_no A1 k c1 E hE0 w5).mono ?_
   rintro e w6 ⟨rfl, hb⟩
   have HX6 := bt HX5 hb
   have HRR := Hi (show res = Except.error E from by rw [← HR.out]; unfold backR; rw [if_pos (HOKM.out.2 (by simp))]; rw [if_neg (by rw [show gvE r.sl [o.x] = E from HE.out]; exact hE0)]; rw [show gvE r.sl [o.x] = E from HE.out])
   have HP := Hi (HP1.out.trans (Past.of_below H1.out.row.lt HX6.out))
   exact ⟨rfl, .inr ⟨E, HRR.out, rfl, ⟨_, (H1.out.below HX6.out).row, rfl⟩, HP.out⟩⟩
  case pos =>
   subst hE0
   refine wpAnyT_one (i := 15) rfl (by kernel_rfl) (fun K3 hK3 => ?_)
   go_simp
   with_reducible refine (sureA_ok A1 k c1 w5).mono ?_
   rintro e w6 ⟨rfl, hb⟩
   have HX6 := bt HX5 hb
   have HAO6 := Hi (HAO.out.below hb)
   clear hS0 hb
   have hS0 := HSX.out _ HX6.out
   refine hK3.out _ _ (fun _ => hS0) ?_
   clear hK3 K3
   (try simp only [Act.put, Na, Nb, Nc, Nd, Nx, Nf])
   refine wpAnyT_one (i := 16) rfl (by kernel_rfl) (fun K4 hK4 => ?_)
   go_simp
   refine hK4.out _ _ (fun _ => hS0) ?_
   clear hK4 K4
   (try simp only [Act.put, Na, Nb, Nc, Nd, Nx, Nf])
   refine wpAnyT_one (i := 17) rfl (by kernel_rfl) (fun K5 hK5 => ?_)
   go_simp
   refine hK5.out _ _ (fun _ => hS0) ?_
   clear hK5 K5
   (try simp only [Act.put, Na, Nb, Nc, Nd, Nx, Nf])
   refine wpAnyT_one (i := 18) rfl (by kernel_rfl) (fun K6 hK6 => ?_)
   go_simp
   refine hK6.out _ _ (fun _ => hS0) ?_
   clear hK6 K6
   (try simp only [Act.put, Na, Nb, Nc, Nd, Nx, Nf])
   refine wpAnyT_one (i := 19) rfl (by kernel_rfl) (fun K7 hK7 => ?_)
   have H6 := Hi (H1.out.below HX6.out)
   obtain ⟨z0, z1, z2, z3, z4, z5, z6, z7, z8, z9, z10, z11, z12⟩ := row13 H6.out.row
   have zl := H6.out.row.lt
   have f0 := H6.out.row.frozen 0
   go_simp
   have HPS := Hi (show Past gh w6 (w6.setCell ⟨gh, 0, none⟩ (.slice A1 k c1)) from ((Past.refl gh w6).trans (Past.set 0 (.slice A1 k c1))))
   have HN := Hi (show RowAt (w6.setCell ⟨gh, 0, none⟩ (.slice A1 k c1)) gh 95 #[.slice A1 k c1, .int .u64 r.e, .slice As ns cs, .int .u64 (r.l.E : Int), .slice (A 0) (n 0) (c 0), .slice (A 1) (n 1) (c 1), .slice (A 2) (n 2) (c 2), .int .i64 o.k, .int .i64 o.g, .int .u64 o.b, .int .i64 o.x.1, .int .u64 o.x.2, .slice At nt ct] from by have h := (H6.out.row.set 0 (.slice A1 k c1)); simpa using h)
   clear z0 z1 z2 z3 z4 z5 z6 z7 z8 z9 z10 z11 z12 zl
   clear f0 hS0
   generalize (w6.setCell ⟨gh, 0, none⟩ (.slice A1 k c1)) = wn at *
   refine hK7.out _ _ (fun h => absurd rfl h) ?_
   clear hK7 K7
   (try simp only [Act.put, Na, Nb, Nc, Nd, Nx, Nf])
   refine wpAnyT_done (by kernel_rfl) ?_ _
   have HFR := off_from (Nat.lt_of_lt_of_le H1.out.row.lt HAL.out.size) (own_keepB H1.out.own HAL.out) H1.out.lo
   have HNW := Hi (H6.out.past (r' := (⟨Y, r.e, r.S, r.l⟩ : Rec)) HPS.out HN.out ⟨HAO6.out.up (fun j hj _ => HFR j hj), HK.out, HKC.out, H6.out.all.S, H6.out.all.ls, H6.out.all.hs, H6.out.all.rw, H6.out.all.ll, H6.out.all.hl⟩)
   have HPW := Hi ((HP1.out.trans (Past.of_below H1.out.row.lt HX6.out)).trans HPS.out)
   clear HFR HN HPS HX6 HX5 HAL HSRC HAO HAO6 HB4 H6
   have HRR := Hi (show res = Except.ok ((⟨Y, r.e, r.S, r.l⟩ : Rec), told) from by rw [← HR.out]; unfold backR; rw [if_pos (HOKM.out.2 (by simp)), if_pos (show gvE r.sl [o.x] = 0 from HE.out), show gvA r.sl [o.x] = Y from HY.out])
   go_wp2_with fail
   go_end0
   exact .inl ⟨_, _, HRR.out, rfl, ⟨_, _, _, _, _, _, _, _, _, _, _, _, HNW.out⟩, PastH.of_past HPW.out⟩
set_option maxRecDepth 20000 in
theorem eretire_any (base gh : Nat) (A0 As : Option Addr) (n0 c0 ns cs : Nat) (A : Nat → Option Addr) (n c : Nat → Nat) (o : EOp) (At : Option Addr) (nt ct : Nat) (r : Rec) (told : List Ent) (W : World) (h : HandR W base gh A0 As n0 c0 ns cs A n c o At nt ct r told) (hf : FitR r) (hz : U64 o.x.2) (res : Except Int (Rec × List Ent)) (hres : retiR r told o.x = res) :
  Calls Tryz.prog 80 #[.pointer (some ⟨gh, 0, none⟩)] W (MthRes gh base o At res W) := by
 have H := Hi h
 have HF := Hi hf
 have HR := Hi hres
 have HZ := Hi hz
 have HZ2 := Hi (show 0 ≤ o.x.2 ∧ o.x.2 < 18446744073709551616 from by unfold U64 at hz; omega)
 clear h hf hres hz
 have HP0 := Hi (Past.refl gh W)
 obtain ⟨E, hE⟩ : ∃ E, rtE r.sl [(o.x.1, o.x.2)] = E := ⟨_, rfl⟩
 obtain ⟨Y, hY⟩ : ∃ Y, rtA r.sl [(o.x.1, o.x.2)] = Y := ⟨_, rfl⟩
 obtain ⟨k, hk⟩ : ∃ k, Y.length = k := ⟨_, rfl⟩
 have HE := Hi hE
 have HY := Hi hY
 have HK := Hi hk
 clear hE hY hk
 go_enter Tryz.func80, Tryz.ntmps80
 go_upto_region 0 with (fail)
 have HSX := Hi (fun (wX : World) (hgX : Below W.heap.size W wX) => show wX.cell? ⟨gh, 0, none⟩ = some (.slice A0 n0 c0) ∧ wX.cell? ⟨gh, 10, none⟩ = some (.int .i64 o.x.1) ∧ wX.cell? ⟨gh, 11, none⟩ = some (.int .u64 o.x.2) ∧ gh < wX.heap.size from by
  obtain ⟨z0, z1, z2, z3, z4, z5, z6, z7, z8, z9, z10, z11, z12⟩ := row13 H.out.row
  exact ⟨kept hgX z0, kept hgX z10, kept hgX z11, Nat.lt_of_lt_of_le H.out.row.lt hgX.size⟩)
 have HGR := Hi ((Below.refl W.heap.size W).drew)
 refine wp_region_T (fun wX => wX.cell? ⟨gh, 0, none⟩ = some (.slice A0 n0 c0) ∧ wX.cell? ⟨gh, 10, none⟩ = some (.int .i64 o.x.1) ∧ wX.cell? ⟨gh, 11, none⟩ = some (.int .u64 o.x.2) ∧ gh < wX.heap.size) 19 (by kernel_rfl) (HSX.out _ HGR.out) (fun hHeld => ?_)
 clear hHeld
 have hS0 := HSX.out _ HGR.out
 refine tkT (i := 0) rfl ?_
 refine tkT (i := 1) rfl ?_
 refine tkT (i := 2) rfl ?_
 refine tkT (i := 3) rfl ?_
 refine tkT (i := 4) rfl ?_
 refine tkT (i := 5) rfl ?_
 refine tkT (i := 6) rfl ?_
 refine tkT (i := 7) rfl ?_
 refine tkT (i := 8) rfl ?_
 refine tkT (i := 9) rfl ?_
 refine tkT (i := 10) rfl ?_
 refine wpAnyT_one (i := 11) rfl (by kernel_rfl) (fun K0 hK0 => ?_)
 go_simp
 have HAL := Hi (((Below.refl W.heap.size W).alloc (Nat.le_refl _) (.cells #[.int .i64 o.x.1, .int .u64 o.x.2] 41)).drew)
 have HSRC := Hi (show Rd (W.alloc (.cells #[.int .i64 o.x.1, .int .u64 o.x.2] 41)).drew (W.alloc (.cells #[.int .i64 o.x.1, .int .u64 o.x.2] 41)).drew.heap.size 2 (some ⟨W.heap.size, 0, none⟩) 1 (Cs encE [(o.x.1, o.x.2)]) from ((Rd.new W #[.int .i64 o.x.1, .int .u64 o.x.2] 41 2 1 rfl).below (Below.refl (W.heap.size + 1) _).drew).more (Nat.le_of_eq (World.size_alloc W (.cells #[.int .i64 o.x.1, .int .u64 o.x.2] 41)).symm))
 clear hS0
 have hS0 := HSX.out _ HAL.out
 refine hK0.out _ _ (fun _ => hS0) ?_
 clear hK0 K0
 (try simp only [Act.put, Na, Nb, Nc, Nd, Nx, Nf])
 generalize (W.alloc (.cells #[.int .i64 o.x.1, .int .u64 o.x.2] 41)).drew = wb at *
 skip
 refine wpAnyT_one (i := 12) rfl (by kernel_rfl) (fun K1 hK1 => ?_)
 go_simp
 have HB4 := Hi (H.out.below HAL.out)
 with_reducible refine (RetireK A0 c0 n0 (some ⟨W.heap.size, 0, none⟩) 1 1 r.sl [(o.x.1, o.x.2)] wb HB4.out.all.sl.rd HB4.out.all.l0 (by rw [← HB4.out.all.l0]; exact HF.out.sl) HSRC.out rfl (by omega) E Y k HE.out HY.out HK.out).mono ?_
 rintro e w5 ⟨A1, c1, rfl, hkc, hao, hb⟩
 have HAO := Hi (ArOut.rdF hao)
 have HKC := Hi hkc
 have HX5 := bt HAL hb
 clear hS0 hb hkc hao
 have hS0 := HSX.out _ HX5.out
 refine hK1.out _ _ (fun _ => hS0) ?_
 clear hK1 K1
 (try simp only [Act.put, Na, Nb, Nc, Nd, Nx, Nf])
 refine tkT (i := 13) rfl ?_
 refine tkT (i := 14) rfl ?_
 by_cases hE0 : E = 0
 case neg =>
  refine wpAnyT_one (i := 15) rfl (by kernel_rfl) (fun K2 hK2 => ?_)
  go_simp
  with_reducible refine (sureA_no A1 k c1 E hE0 w5).mono ?_
  rintro e w6 ⟨rfl, hb⟩
  have HX6 := bt HX5 hb
  have HRR := Hi (show res = Except.error E from by rw [← HR.out]; unfold retiR; rw [if_neg (by rw [show rtE r.sl [o.x] = E from HE.out]; exact hE0)]; rw [show rtE r.sl [o.x] = E from HE.out])
  have HP := Hi (HP0.out.trans (Past.of_below H.out.row.lt HX6.out))
  exact ⟨rfl, .inr ⟨E, HRR.out, rfl, ⟨_, (H.out.below HX6.out).row, rfl⟩, HP.out⟩⟩
 case pos =>
  subst hE0
  refine wpAnyT_one (i := 15) rfl (by kernel_rfl) (fun K3 hK3 => ?_)
  go_simp
  with_reducible refine (sureA_ok A1 k c1 w5).mono ?_
  rintro e w6 ⟨rfl, hb⟩
  have HX6 := bt HX5 hb
  have HAO6 := Hi (HAO.out.below hb)
  clear hS0 hb
  have hS0 := HSX.out _ HX6.out
  refine hK3.out _ _ (fun _ => hS0) ?_
  clear hK3 K3
  (try simp only [Act.put, Na, Nb, Nc, Nd, Nx, Nf])
  refine wpAnyT_one (i := 16) rfl (by kernel_rfl) (fun K4 hK4 => ?_)
  go_simp
  refine hK4.out _ _ (fun _ => hS0) ?_
  clear hK4 K4
  (try simp only [Act.put, Na, Nb, Nc, Nd, Nx, Nf])
  refine wpAnyT_one (i := 17) rfl (by kernel_rfl) (fun K5 hK5 => ?_)
  go_simp
  refine hK5.out _ _ (fun _ => hS0) ?_
  clear hK5 K5
  (try simp only [Act.put, Na, Nb, Nc, Nd, Nx, Nf])
  refine wpAnyT_one (i := 18) rfl (by kernel_rfl) (fun K6 hK6 => ?_)
  go_simp
  refine hK6.out _ _ (fun _ => hS0) ?_
  clear hK6 K6
  (try simp only [Act.put, Na, Nb, Nc, Nd, Nx, Nf])
  refine wpAnyT_one (i := 19) rfl (by kernel_rfl) (fun K7 hK7 => ?_)
  have H6 := Hi (H.out.below HX6.out)
  obtain ⟨z0, z1, z2, z3, z4, z5, z6, z7, z8, z9, z10, z11, z12⟩ := row13 H6.out.row
  have zl := H6.out.row.lt
  have f0 := H6.out.row.frozen 0
  go_simp
  have HPS := Hi (show Past gh w6 (w6.setCell ⟨gh, 0, none⟩ (.slice A1 k c1)) from ((Past.refl gh w6).trans (Past.set 0 (.slice A1 k c1))))
  have HN := Hi (show RowAt (w6.setCell ⟨gh, 0, none⟩ (.slice A1 k c1)) gh 95 #[.slice A1 k c1, .int .u64 r.e, .slice As ns cs, .int .u64 (r.l.E : Int), .slice (A 0) (n 0) (c 0), .slice (A 1) (n 1) (c 1), .slice (A 2) (n 2) (c 2), .int .i64 o.k, .int .i64 o.g, .int .u64 o.b, .int .i64 o.x.1, .int .u64 o.x.2, .slice At nt ct] from by have h := (H6.out.row.set 0 (.slice A1 k c1)); simpa using h)
  clear z0 z1 z2 z3 z4 z5 z6 z7 z8 z9 z10 z11 z12 zl
  clear f0 hS0
  generalize (w6.setCell ⟨gh, 0, none⟩ (.slice A1 k c1)) = wn at *
  refine hK7.out _ _ (fun h => absurd rfl h) ?_
  clear hK7 K7
  (try simp only [Act.put, Na, Nb, Nc, Nd, Nx, Nf])
  refine wpAnyT_done (by kernel_rfl) ?_ _
  have HFR := off_from (Nat.lt_of_lt_of_le H.out.row.lt HAL.out.size) (own_keepB H.out.own HAL.out) H.out.lo
  have HNW := Hi (H6.out.past (r' := (⟨Y, r.e, r.S, r.l⟩ : Rec)) HPS.out HN.out ⟨HAO6.out.up (fun j hj _ => HFR j hj), HK.out, HKC.out, H6.out.all.S, H6.out.all.ls, H6.out.all.hs, H6.out.all.rw, H6.out.all.ll, H6.out.all.hl⟩)
  have HPW := Hi ((HP0.out.trans (Past.of_below H.out.row.lt HX6.out)).trans HPS.out)
  clear HFR HN HPS HX6 HX5 HAL HSRC HAO HAO6 HB4 H6
  clear HSX HGR
  obtain ⟨rt, hrt⟩ : ∃ rt, Li.retR r.l (o.x.1, o.x.2) = rt := ⟨_, rfl⟩
  have HRT := Hi hrt
  clear hrt
  go_upto_region 1 with (fail)
  have HSX := Hi (fun (wX : World) (hgX : Below wn.heap.size wn wX) => show wX.cell? ⟨gh, 3, none⟩ = some (.int .u64 (r.l.E : Int)) ∧ wX.cell? ⟨gh, 4, none⟩ = some (.slice (A 0) (n 0) (c 0)) ∧ wX.cell? ⟨gh, 5, none⟩ = some (.slice (A 1) (n 1) (c 1)) ∧ wX.cell? ⟨gh, 6, none⟩ = some (.slice (A 2) (n 2) (c 2)) ∧ wX.cell? ⟨gh, 10, none⟩ = some (.int .i64 o.x.1) ∧ wX.cell? ⟨gh, 11, none⟩ = some (.int .u64 o.x.2) ∧ gh < wX.heap.size from by
   obtain ⟨z0, z1, z2, z3, z4, z5, z6, z7, z8, z9, z10, z11, z12⟩ := row13 HNW.out.row
   exact ⟨kept hgX z3, kept hgX z4, kept hgX z5, kept hgX z6, kept hgX z10, kept hgX z11, Nat.lt_of_lt_of_le HNW.out.row.lt hgX.size⟩)
  have HGR := Hi ((Below.refl wn.heap.size wn).drew)
  refine wp_region_T (fun wX => wX.cell? ⟨gh, 3, none⟩ = some (.int .u64 (r.l.E : Int)) ∧ wX.cell? ⟨gh, 4, none⟩ = some (.slice (A 0) (n 0) (c 0)) ∧ wX.cell? ⟨gh, 5, none⟩ = some (.slice (A 1) (n 1) (c 1)) ∧ wX.cell? ⟨gh, 6, none⟩ = some (.slice (A 2) (n 2) (c 2)) ∧ wX.cell? ⟨gh, 10, none⟩ = some (.int .i64 o.x.1) ∧ wX.cell? ⟨gh, 11, none⟩ = some (.int .u64 o.x.2) ∧ gh < wX.heap.size) 18 (by kernel_rfl) (HSX.out _ HGR.out) (fun hHeld => ?_)
  clear hHeld
  have hS0 := HSX.out _ HGR.out
  refine tkT (i := 0) rfl ?_
  refine tkT (i := 1) rfl ?_
  refine tkT (i := 2) rfl ?_
  refine tkT (i := 3) rfl ?_
  refine tkT (i := 4) rfl ?_
  refine tkT (i := 5) rfl ?_
  refine tkT (i := 6) rfl ?_
  refine tkT (i := 7) rfl ?_
  refine tkT (i := 8) rfl ?_
  refine tkT (i := 9) rfl ?_
  refine tkT (i := 10) rfl ?_
  refine wpAnyT_one (i := 11) rfl (by kernel_rfl) (fun K0 hK0 => ?_)
  go_simp
  with_reducible refine (Li.Retire_any wn.drew.heap.size A n c r.l o.x.1 o.x.2 wn.drew (HNW.out.below HGR.out).all.lim HF.out.E (Nat.le_refl _) (fun k hk => by rw [← HNW.out.all.ll k hk]; exact HF.out.rw k hk) HF.out.g HZ2.out).mono ?_
  rw [HRT.out]
  rintro e w8 ⟨hb, (⟨l', A4, n4, c4, hr4, rfl, hown⟩ | ⟨kk, hr4, rfl⟩)⟩
  case inr =>
   have HRR := Hi (show res = Except.error kk from by rw [← HR.out]; unfold retiR; rw [if_pos (show rtE r.sl [o.x] = 0 from HE.out), show Li.retR r.l o.x = rt from HRT.out, hr4])
   have HKK := Hi (show kk ≠ 0 from by have h := HRT.out; rw [hr4] at h; unfold Li.retR at h; split at h; (· exact Li.doRet_ne h); (· injection h with h; omega))
   have HX8 := bt HGR hb
   clear hS0 hb hr4
   have hS0 := HSX.out _ HX8.out
   refine hK0.out _ _ (fun _ => hS0) ?_
   clear hK0 K0
   (try simp only [Act.put, Na, Nb, Nc, Nd, Nx, Nf])
   refine tkT (i := 12) rfl ?_
   refine tkT (i := 13) rfl ?_
   refine wpAnyT_one (i := 14) rfl (by kernel_rfl) (fun K1 hK1 => ?_)
   go_simp
   with_reducible refine (sureL_no 0 none none none 0 0 0 0 0 0 kk HKK.out w8).mono ?_
   rintro e w9 ⟨rfl, hb⟩
   have HX9 := bt HX8 hb
   exact ⟨rfl, .inr ⟨kk, HRR.out, rfl, ⟨_, (HNW.out.below HX9.out).row, rfl⟩, HPW.out.trans (Past.of_below HNW.out.row.lt HX9.out)⟩⟩
  case inl =>
   have HRR := Hi (show res = Except.ok ((⟨Y, r.e, r.S, l'⟩ : Rec), told) from by rw [← HR.out]; unfold retiR; rw [if_pos (show rtE r.sl [o.x] = 0 from HE.out), show Li.retR r.l o.x = rt from HRT.out, hr4]; dsimp only; rw [show rtA r.sl [o.x] = Y from HY.out])
   have HX8 := bt HGR hb
   have HOW := Hi hown
   clear hS0 hb hr4 hown
   have hS0 := HSX.out _ HX8.out
   refine hK0.out _ _ (fun _ => hS0) ?_
   clear hK0 K0
   (try simp only [Act.put, Na, Nb, Nc, Nd, Nx, Nf])
   refine tkT (i := 12) rfl ?_
   refine tkT (i := 13) rfl ?_
   refine wpAnyT_one (i := 14) rfl (by kernel_rfl) (fun K2 hK2 => ?_)
   go_simp
   with_reducible refine (sureL_ok (l'.E : Int) (A4 0) (A4 1) (A4 2) (n4 0) (n4 1) (n4 2) (c4 0) (c4 1) (c4 2) w8).mono ?_
   rintro e wp ⟨rfl, hb⟩
   have HXp := bt HX8 hb
   have HOWp := Hi (HOW.out.keepB hb)
   clear hS0 hb
   have hS0 := HSX.out _ HXp.out
   refine hK2.out _ _ (fun _ => hS0) ?_
   clear hK2 K2
   (try simp only [Act.put, Na, Nb, Nc, Nd, Nx, Nf])
   refine wpAnyT_one (i := 15) rfl (by kernel_rfl) (fun K3 hK3 => ?_)
   go_simp
   refine hK3.out _ _ (fun _ => hS0) ?_
   clear hK3 K3
   (try simp only [Act.put, Na, Nb, Nc, Nd, Nx, Nf])
   refine wpAnyT_one (i := 16) rfl (by kernel_rfl) (fun K4 hK4 => ?_)
   go_simp
   refine hK4.out _ _ (fun _ => hS0) ?_
   clear hK4 K4
   (try simp only [Act.put, Na, Nb, Nc, Nd, Nx, Nf])
   refine wpAnyT_one (i := 17) rfl (by kernel_rfl) (fun K5 hK5 => ?_)
   go_simp
   refine hK5.out _ _ (fun _ => hS0) ?_
   clear hK5 K5
   (try simp only [Act.put, Na, Nb, Nc, Nd, Nx, Nf])
   refine wpAnyT_one (i := 18) rfl (by kernel_rfl) (fun K6 hK6 => ?_)
   have Hp := Hi (HNW.out.below HXp.out)
   obtain ⟨z0, z1, z2, z3, z4, z5, z6, z7, z8, z9, z10, z11, z12⟩ := row13 Hp.out.row
   have zl := Hp.out.row.lt
   have f3 := Hp.out.row.frozen 3
   have f4 := Hp.out.row.frozen 4
   have f5 := Hp.out.row.frozen 5
   have f6 := Hp.out.row.frozen 6
   go_simp
   have HPS := Hi (show Past gh wp ((((wp.setCell ⟨gh, 3, none⟩ (.int .u64 (l'.E : Int))).setCell ⟨gh, 4, none⟩ (.slice (A4 0) (n4 0) (c4 0))).setCell ⟨gh, 5, none⟩ (.slice (A4 1) (n4 1) (c4 1))).setCell ⟨gh, 6, none⟩ (.slice (A4 2) (n4 2) (c4 2))) from (((((Past.refl gh wp).trans (Past.set 3 (.int .u64 (l'.E : Int)))).trans (Past.set 4 (.slice (A4 0) (n4 0) (c4 0)))).trans (Past.set 5 (.slice (A4 1) (n4 1) (c4 1)))).trans (Past.set 6 (.slice (A4 2) (n4 2) (c4 2)))))
   have HN := Hi (show RowAt ((((wp.setCell ⟨gh, 3, none⟩ (.int .u64 (l'.E : Int))).setCell ⟨gh, 4, none⟩ (.slice (A4 0) (n4 0) (c4 0))).setCell ⟨gh, 5, none⟩ (.slice (A4 1) (n4 1) (c4 1))).setCell ⟨gh, 6, none⟩ (.slice (A4 2) (n4 2) (c4 2))) gh 95 #[.slice A1 k c1, .int .u64 r.e, .slice As ns cs, .int .u64 (l'.E : Int), .slice (A4 0) (n4 0) (c4 0), .slice (A4 1) (n4 1) (c4 1), .slice (A4 2) (n4 2) (c4 2), .int .i64 o.k, .int .i64 o.g, .int .u64 o.b, .int .i64 o.x.1, .int .u64 o.x.2, .slice At nt ct] from by have h := ((((Hp.out.row.set 3 (.int .u64 (l'.E : Int))).set 4 (.slice (A4 0) (n4 0) (c4 0))).set 5 (.slice (A4 1) (n4 1) (c4 1))).set 6 (.slice (A4 2) (n4 2) (c4 2))); simpa using h)
   clear z0 z1 z2 z3 z4 z5 z6 z7 z8 z9 z10 z11 z12 zl
   clear f3 f4 f5 f6 hS0
   generalize (((wp.setCell _ _).setCell _ _).setCell _ _).setCell _ _ = wq at *
   refine hK6.out _ _ (fun h => absurd rfl h) ?_
   clear hK6 K6
   (try simp only [Act.put, Na, Nb, Nc, Nd, Nx, Nf])
   refine wpAnyT_done (by kernel_rfl) ?_ _
   have HFR := off_from HNW.out.row.lt HNW.out.own HNW.out.lo
   go_wp2_with fail
   go_end0
   refine .inl ⟨_, _, HRR.out, rfl, ⟨_, _, _, _, _, _, _, _, _, _, _, _, Hp.out.past (r' := (⟨Y, r.e, r.S, l'⟩ : Rec)) HPS.out HN.out ⟨Hp.out.all.sl, Hp.out.all.l0, Hp.out.all.h0, Hp.out.all.S, Hp.out.all.ls, Hp.out.all.hs, fun k hk => ((LimOwn.rdF HOWp.out k hk).1).up (fun j hj _ => HFR j hj), fun k hk => HOWp.out.len k hk, fun k hk => (LimOwn.rdF HOWp.out k hk).2⟩⟩, PastH.of_past ((HPW.out.trans (Past.of_below HNW.out.row.lt HXp.out)).trans HPS.out)⟩
theorem row4 {w : World} {g : Nat} {t : TypeId} {v0 v1 v2 v3 : Value} (h : RowAt w g t #[v0, v1, v2, v3]) : w.cell? ⟨g, 0, none⟩ = some v0 ∧ w.cell? ⟨g, 1, none⟩ = some v1 ∧ w.cell? ⟨g, 2, none⟩ = some v2 ∧ w.cell? ⟨g, 3, none⟩ = some v3 :=
 ⟨by have := h.cell 0; simpa using this, by have := h.cell 1; simpa using this, by have := h.cell 2; simpa using this, by have := h.cell 3; simpa using this⟩
set_option maxRecDepth 20000 in
theorem efree_any (base gh : Nat) (A0 As : Option Addr) (n0 c0 ns cs : Nat) (A : Nat → Option Addr) (n c : Nat → Nat) (o : EOp) (At : Option Addr) (nt ct : Nat) (r : Rec) (told : List Ent) (W : World) (h : HandR W base gh A0 As n0 c0 ns cs A n c o At nt ct r told) (hf : FitR r) (ht : (nt : Int) ≤ 1000000) (res : Except Int (Rec × List Ent)) (hres : freeR r told = res) :
  Calls Tryz.prog 81 #[.pointer (some ⟨gh, 0, none⟩)] W (MthRes gh base o At res W) := by
 have H := Hi h
 have HF := Hi hf
 have HR := Hi hres
 have HT := Hi ht
 obtain ⟨tk, htk⟩ : ∃ tk, Li.takR r.l = tk := ⟨_, rfl⟩
 have HTK := Hi htk
 clear h hf hres ht htk
 go_enter Tryz.func81, Tryz.ntmps81
 obtain ⟨z0, z1, z2, z3, z4, z5, z6, z7, z8, z9, z10, z11, z12⟩ := row13 H.out.row
 have zl := H.out.row.lt
 go_wp2_with fail
 with_reducible refine (Li.Take_any W.heap.size A n c r.l W H.out.all.lim HF.out.E (Nat.le_refl _) (fun k hk => by rw [← H.out.all.ll k hk]; exact HF.out.rw k hk) HF.out.g).mono ?_
 rw [HTK.out]
 rintro e w1 ⟨hb, (⟨l', x, A4, n4, c4, hr4, rfl, hown⟩ | ⟨kk, hr4, rfl⟩)⟩
 case inr =>
  have HRR := Hi (show res = Except.error kk from by rw [← HR.out]; unfold freeR; rw [HTK.out, hr4])
  have HKK := Hi (show kk ≠ 0 from by have h := HTK.out; rw [hr4] at h; unfold Li.takR at h; split at h; (· unfold Li.doTake at h; split at h; (· injection h with h; omega); (· cases h)); (· injection h with h; omega))
  go_upto_region 1 with (fail)
  have hb2 : Below w1.heap.size w1 ((w1.alloc (.cells #[.int .u64 0, .slice none 0 0, .slice none 0 0, .slice none 0 0] 32)).alloc (.cells #[.int .i64 0, .int .u64 0] 41)) := ((Below.refl _ _).alloc (Nat.le_refl _) _).alloc (by simp) _
  have HB2 := Hi (hb.trans (hb2.mono hb.size))
  have H2 := Hi (H.out.below HB2.out)
  have hd : (kk == 0) = false := by simpa using HKK.out
  clear hb hb2 hr4
  clear z0 z1 z2 z3 z4 z5 z6 z7 z8 z9 z10 z11 z12 zl
  generalize (w1.alloc _).alloc _ = w3 at *
  go_wp2_with fail
  with_reducible refine (eneed_no kk _).mono ?_
  rintro e w4 ⟨rfl, rfl⟩
  exact ⟨rfl, .inr ⟨kk, HRR.out, rfl, ⟨_, H2.out.row, rfl⟩, Past.of_below H.out.row.lt HB2.out⟩⟩
 case inl =>
  have HRT := Hi (show freeR r told = (if gvE r.sl [x] = 0 then .ok ((⟨gvA r.sl [x], r.e, r.S, l'⟩ : Rec), told ++ [x]) else .error (gvE r.sl [x])) from by unfold freeR; rw [HTK.out, hr4])
  have HZ := Hi (show U64 x.2 from by have h := HTK.out; rw [hr4] at h; unfold Li.takR at h; split at h; (· exact (Li.gen_take HF.out.g h).2); (· cases h))
  go_upto_region 1 with (fail)
  have al := al2 w1 #[.int .u64 (l'.E : Int), .slice (A4 0) (n4 0) (c4 0), .slice (A4 1) (n4 1) (c4 1), .slice (A4 2) (n4 2) (c4 2)] 32 #[.int .i64 x.1, .int .u64 x.2] 41
  have b2 := al.2.1
  have b3 := al.2.2
  have hb2 := b2.trans (b3.mono b2.size)
  have R2 := Hi al.1.1
  have R3 := Hi al.1.2
  clear al
  have HB2 := Hi (hb.trans (hb2.mono hb.size))
  have H2 := Hi (H.out.below HB2.out)
  have HOW := Hi (hown.keepB hb2)
  have HWL := Hi hb.size
  clear hb hb2 b2 b3 hr4 hown
  clear z0 z1 z2 z3 z4 z5 z6 z7 z8 z9 z10 z11 z12 zl
  generalize (w1.alloc _).alloc _ = w3 at *
  generalize w1.heap.size = g2 at *
  have HP3 := Hi (Past.of_below H.out.row.lt HB2.out)
  have HLT := Hi H.out.row.lt
  have HT3 := Hi (show ∀ q, At = some q → q.block ≠ g2 + 1 from fun q hq => by have := (told_lt H.out.own q hq).2; have := HWL.out; omega)
  go_wp2_with fail
  with_reducible refine (eneed_ok 0 _).mono ?_
  rintro e w4 ⟨rfl, hw⟩
  subst hw
  obtain ⟨E, hE⟩ : ∃ E, gvE r.sl [(x.1, x.2)] = E := ⟨_, rfl⟩
  obtain ⟨Y, hY⟩ : ∃ Y, gvA r.sl [(x.1, x.2)] = Y := ⟨_, rfl⟩
  obtain ⟨k, hk⟩ : ∃ k, Y.length = k := ⟨_, rfl⟩
  have HE := Hi hE
  have HY := Hi hY
  have HK := Hi hk
  clear hE hY hk
  go_upto_region 2 with (fail)
  have HSX := Hi (fun (wX : World) (hgX : Below w3.heap.size w3 wX) => show wX.cell? ⟨gh, 0, none⟩ = some (.slice A0 n0 c0) ∧ wX.cell? ⟨g2 + 1, 0, none⟩ = some (.int .i64 x.1) ∧ wX.cell? ⟨g2 + 1, 1, none⟩ = some (.int .u64 x.2) ∧ gh < wX.heap.size ∧ g2 + 1 < wX.heap.size from by
   obtain ⟨z0, z1, z2, z3, z4, z5, z6, z7, z8, z9, z10, z11, z12⟩ := row13 H2.out.row
   exact ⟨kept hgX z0, kept hgX (row20 R3.out), kept hgX (row21 R3.out), Nat.lt_of_lt_of_le H2.out.row.lt hgX.size, Nat.lt_of_lt_of_le R3.out.lt hgX.size⟩)
  have HGR := Hi ((Below.refl w3.heap.size w3).drew)
  have HP0 := Hi (Past.refl gh w3)
  refine wp_region_T (fun wX => wX.cell? ⟨gh, 0, none⟩ = some (.slice A0 n0 c0) ∧ wX.cell? ⟨g2 + 1, 0, none⟩ = some (.int .i64 x.1) ∧ wX.cell? ⟨g2 + 1, 1, none⟩ = some (.int .u64 x.2) ∧ gh < wX.heap.size ∧ g2 + 1 < wX.heap.size) 15 (by kernel_rfl) (HSX.out _ HGR.out) (fun hHeld => ?_)
  clear hHeld
  have hS0 := HSX.out _ HGR.out
  refine tkT (i := 0) rfl ?_
  refine tkT (i := 1) rfl ?_
  refine tkT (i := 2) rfl ?_
  refine tkT (i := 3) rfl ?_
  refine tkT (i := 4) rfl ?_
  refine tkT (i := 5) rfl ?_
  refine tkT (i := 6) rfl ?_
  refine wpAnyT_one (i := 7) rfl (by kernel_rfl) (fun K0 hK0 => ?_)
  go_simp
  have HAL := Hi (((Below.refl w3.heap.size w3).alloc (Nat.le_refl _) (.cells #[.int .i64 x.1, .int .u64 x.2] 41)).drew)
  have HSRC := Hi (show Rd (w3.alloc (.cells #[.int .i64 x.1, .int .u64 x.2] 41)).drew (w3.alloc (.cells #[.int .i64 x.1, .int .u64 x.2] 41)).drew.heap.size 2 (some ⟨w3.heap.size, 0, none⟩) 1 (Cs encE [(x.1, x.2)]) from ((Rd.new w3 #[.int .i64 x.1, .int .u64 x.2] 41 2 1 rfl).below (Below.refl (w3.heap.size + 1) _).drew).more (Nat.le_of_eq (World.size_alloc w3 (.cells #[.int .i64 x.1, .int .u64 x.2] 41)).symm))
  clear hS0
  have hS0 := HSX.out _ HAL.out
  refine hK0.out _ _ (fun _ => hS0) ?_
  clear hK0 K0
  (try simp only [Act.put, Na, Nb, Nc, Nd, Nx, Nf])
  generalize (w3.alloc (.cells #[.int .i64 x.1, .int .u64 x.2] 41)).drew = wb at *
  skip
  refine wpAnyT_one (i := 8) rfl (by kernel_rfl) (fun K1 hK1 => ?_)
  go_simp
  have HB4 := Hi (H2.out.below HAL.out)
  with_reducible refine (GiveK A0 c0 n0 (some ⟨w3.heap.size, 0, none⟩) 1 1 r.sl [(x.1, x.2)] wb HB4.out.all.sl.rd HB4.out.all.l0 (by rw [← HB4.out.all.l0]; exact HF.out.sl) HSRC.out rfl (by omega) (by intro x hx; rw [List.mem_singleton] at hx; subst hx; exact HZ.out) E Y k HE.out HY.out HK.out).mono ?_
  rintro e w5 ⟨A1, c1, rfl, hkc, hao, hb⟩
  have HAO := Hi (ArOut.rdF hao)
  have HKC := Hi hkc
  have HX5 := bt HAL hb
  clear hS0 hb hkc hao
  have hS0 := HSX.out _ HX5.out
  refine hK1.out _ _ (fun _ => hS0) ?_
  clear hK1 K1
  (try simp only [Act.put, Na, Nb, Nc, Nd, Nx, Nf])
  refine tkT (i := 9) rfl ?_
  refine tkT (i := 10) rfl ?_
  by_cases hE0 : E = 0
  case neg =>
   refine wpAnyT_one (i := 11) rfl (by kernel_rfl) (fun K2 hK2 => ?_)
   go_simp
   with_reducible refine (sureA_no A1 k c1 E hE0 w5).mono ?_
   rintro e w6 ⟨rfl, hb⟩
   have HX6 := bt HX5 hb
   have HRR := Hi (show res = Except.error E from by rw [← HR.out]; rw [HRT.out, if_neg (by rw [show gvE r.sl [x] = E from HE.out]; exact hE0), show gvE r.sl [x] = E from HE.out])
   have HP := Hi (HP3.out.trans (Past.of_below H2.out.row.lt HX6.out))
   exact ⟨rfl, .inr ⟨E, HRR.out, rfl, ⟨_, (H2.out.below HX6.out).row, rfl⟩, HP.out⟩⟩
  case pos =>
   subst hE0
   refine wpAnyT_one (i := 11) rfl (by kernel_rfl) (fun K3 hK3 => ?_)
   go_simp
   with_reducible refine (sureA_ok A1 k c1 w5).mono ?_
   rintro e w6 ⟨rfl, hb⟩
   have HX6 := bt HX5 hb
   have HAO6 := Hi (HAO.out.below hb)
   clear hS0 hb
   have hS0 := HSX.out _ HX6.out
   refine hK3.out _ _ (fun _ => hS0) ?_
   clear hK3 K3
   (try simp only [Act.put, Na, Nb, Nc, Nd, Nx, Nf])
   refine wpAnyT_one (i := 12) rfl (by kernel_rfl) (fun K4 hK4 => ?_)
   go_simp
   refine hK4.out _ _ (fun _ => hS0) ?_
   clear hK4 K4
   (try simp only [Act.put, Na, Nb, Nc, Nd, Nx, Nf])
   refine wpAnyT_one (i := 13) rfl (by kernel_rfl) (fun K5 hK5 => ?_)
   go_simp
   refine hK5.out _ _ (fun _ => hS0) ?_
   clear hK5 K5
   (try simp only [Act.put, Na, Nb, Nc, Nd, Nx, Nf])
   refine wpAnyT_one (i := 14) rfl (by kernel_rfl) (fun K6 hK6 => ?_)
   go_simp
   refine hK6.out _ _ (fun _ => hS0) ?_
   clear hK6 K6
   (try simp only [Act.put, Na, Nb, Nc, Nd, Nx, Nf])
   refine wpAnyT_one (i := 15) rfl (by kernel_rfl) (fun K7 hK7 => ?_)
   have H6 := Hi (H2.out.below HX6.out)
   obtain ⟨z0, z1, z2, z3, z4, z5, z6, z7, z8, z9, z10, z11, z12⟩ := row13 H6.out.row
   have zl := H6.out.row.lt
   have f0 := H6.out.row.frozen 0
   go_simp
   have HPS := Hi (show Past gh w6 (w6.setCell ⟨gh, 0, none⟩ (.slice A1 k c1)) from ((Past.refl gh w6).trans (Past.set 0 (.slice A1 k c1))))
   have HN := Hi (show RowAt (w6.setCell ⟨gh, 0, none⟩ (.slice A1 k c1)) gh 95 #[.slice A1 k c1, .int .u64 r.e, .slice As ns cs, .int .u64 (r.l.E : Int), .slice (A 0) (n 0) (c 0), .slice (A 1) (n 1) (c 1), .slice (A 2) (n 2) (c 2), .int .i64 o.k, .int .i64 o.g, .int .u64 o.b, .int .i64 o.x.1, .int .u64 o.x.2, .slice At nt ct] from by have h := (H6.out.row.set 0 (.slice A1 k c1)); simpa using h)
   clear z0 z1 z2 z3 z4 z5 z6 z7 z8 z9 z10 z11 z12 zl
   clear f0 hS0
   generalize (w6.setCell ⟨gh, 0, none⟩ (.slice A1 k c1)) = wn at *
   refine hK7.out _ _ (fun h => absurd rfl h) ?_
   clear hK7 K7
   (try simp only [Act.put, Na, Nb, Nc, Nd, Nx, Nf])
   refine wpAnyT_done (by kernel_rfl) ?_ _
   have HFR := off_from (Nat.lt_of_lt_of_le H2.out.row.lt HAL.out.size) (own_keepB H2.out.own HAL.out) H2.out.lo
   have HNW := Hi (H6.out.past (r' := (⟨Y, r.e, r.S, r.l⟩ : Rec)) HPS.out HN.out ⟨HAO6.out.up (fun j hj _ => HFR j hj), HK.out, HKC.out, H6.out.all.S, H6.out.all.ls, H6.out.all.hs, H6.out.all.rw, H6.out.all.ll, H6.out.all.hl⟩)
   have HPW := Hi ((HP0.out.trans (Past.of_below H2.out.row.lt HX6.out)).trans HPS.out)
   clear HFR HN HPS HX6 HX5 HAL HSRC HAO HAO6 HB4 H6
   have HRR := Hi (show res = Except.ok ((⟨Y, r.e, r.S, l'⟩ : Rec), told ++ [x]) from by rw [← HR.out, HRT.out, if_pos (show gvE r.sl [x] = 0 from HE.out), show gvA r.sl [x] = Y from HY.out])
   have R2n := Hi (R2.out.past HPW.out (fun e => by have h := R2.out; rw [e] at h; exact absurd (row_typ h H2.out.row) (by decide)))
   have R3n := Hi (R3.out.past HPW.out (fun e => by have h := R3.out; rw [e] at h; exact absurd (row_typ h H2.out.row) (by decide)))
   have HOWn := Hi (HOW.out.other (fun g hg hl => HPW.out.block g (by have := HLT.out; have := HWL.out; omega) hl))
   clear HSX HGR HOW
   obtain ⟨l0, l1, l2, l3⟩ := row4 R2n.out
   have ll := R2n.out.lt
   obtain ⟨z0, z1, z2, z3, z4, z5, z6, z7, z8, z9, z10, z11, z12⟩ := row13 HNW.out.row
   have zl := HNW.out.row.lt
   have f3 := HNW.out.row.frozen 3
   have f4 := HNW.out.row.frozen 4
   have f5 := HNW.out.row.frozen 5
   have f6 := HNW.out.row.frozen 6
   go_upto_region 4 with (fail)
   have HPS := Hi (show Past gh wn ((((wn.setCell ⟨gh, 3, none⟩ (.int .u64 (l'.E : Int))).setCell ⟨gh, 4, none⟩ (.slice (A4 0) (n4 0) (c4 0))).setCell ⟨gh, 5, none⟩ (.slice (A4 1) (n4 1) (c4 1))).setCell ⟨gh, 6, none⟩ (.slice (A4 2) (n4 2) (c4 2))) from (((((Past.refl gh wn).trans (Past.set 3 (.int .u64 (l'.E : Int)))).trans (Past.set 4 (.slice (A4 0) (n4 0) (c4 0)))).trans (Past.set 5 (.slice (A4 1) (n4 1) (c4 1)))).trans (Past.set 6 (.slice (A4 2) (n4 2) (c4 2)))))
   have HN := Hi (show RowAt ((((wn.setCell ⟨gh, 3, none⟩ (.int .u64 (l'.E : Int))).setCell ⟨gh, 4, none⟩ (.slice (A4 0) (n4 0) (c4 0))).setCell ⟨gh, 5, none⟩ (.slice (A4 1) (n4 1) (c4 1))).setCell ⟨gh, 6, none⟩ (.slice (A4 2) (n4 2) (c4 2))) gh 95 #[.slice A1 k c1, .int .u64 r.e, .slice As ns cs, .int .u64 (l'.E : Int), .slice (A4 0) (n4 0) (c4 0), .slice (A4 1) (n4 1) (c4 1), .slice (A4 2) (n4 2) (c4 2), .int .i64 o.k, .int .i64 o.g, .int .u64 o.b, .int .i64 o.x.1, .int .u64 o.x.2, .slice At nt ct] from by have h := ((((HNW.out.row.set 3 (.int .u64 (l'.E : Int))).set 4 (.slice (A4 0) (n4 0) (c4 0))).set 5 (.slice (A4 1) (n4 1) (c4 1))).set 6 (.slice (A4 2) (n4 2) (c4 2))); simpa using h)
   clear z0 z1 z2 z3 z4 z5 z6 z7 z8 z9 z10 z11 z12 zl
   clear f3 f4 f5 f6 l0 l1 l2 l3 ll
   generalize (((wn.setCell _ _).setCell _ _).setCell _ _).setCell _ _ = wq at *
   have HFR := off_from HLT.out H.out.own H.out.lo
   have HQ := Hi (HNW.out.past (r' := (⟨Y, r.e, r.S, l'⟩ : Rec)) HPS.out HN.out ⟨HNW.out.all.sl, HNW.out.all.l0, HNW.out.all.h0, HNW.out.all.S, HNW.out.all.ls, HNW.out.all.hs, fun k hk => ((LimOwn.rdF HOWn.out k hk).1).up (fun j hj _ => HFR j hj), fun k hk => HOWn.out.len k hk, fun k hk => (LimOwn.rdF HOWn.out k hk).2⟩)
   have R3q := Hi (R3n.out.past HPS.out (fun e => by have h := R3n.out; rw [e] at h; exact absurd (row_typ h HNW.out.row) (by decide)))
   have HPQ := Hi ((HP3.out.trans HPW.out).trans HPS.out)
   clear HFR HN HPS HOWn R2n R3n
   have HBW := Hi (show base ≤ wq.heap.size from by have := HQ.out.lo; have := HQ.out.row.lt; omega)
   have HSX := Hi (fun (wX : World) (hgX : Below wq.heap.size wq wX) => show wX.cell? ⟨gh, 12, none⟩ = some (.slice At nt ct) ∧ wX.cell? ⟨g2 + 1, 0, none⟩ = some (.int .i64 x.1) ∧ wX.cell? ⟨g2 + 1, 1, none⟩ = some (.int .u64 x.2) ∧ gh < wX.heap.size ∧ g2 + 1 < wX.heap.size from by
    obtain ⟨z0, z1, z2, z3, z4, z5, z6, z7, z8, z9, z10, z11, z12⟩ := row13 HQ.out.row
    exact ⟨kept hgX z12, kept hgX (row20 R3q.out), kept hgX (row21 R3q.out), Nat.lt_of_lt_of_le HQ.out.row.lt hgX.size, Nat.lt_of_lt_of_le R3q.out.lt hgX.size⟩)
   have HGR := Hi ((Below.refl wq.heap.size wq).drew)
   refine wp_region_T (fun wX => wX.cell? ⟨gh, 12, none⟩ = some (.slice At nt ct) ∧ wX.cell? ⟨g2 + 1, 0, none⟩ = some (.int .i64 x.1) ∧ wX.cell? ⟨g2 + 1, 1, none⟩ = some (.int .u64 x.2) ∧ gh < wX.heap.size ∧ g2 + 1 < wX.heap.size) 10 (by kernel_rfl) (HSX.out _ HGR.out) (fun hHeld => ?_)
   clear hHeld
   have hS0 := HSX.out _ HGR.out
   refine tkT (i := 0) rfl ?_
   refine tkT (i := 1) rfl ?_
   refine tkT (i := 2) rfl ?_
   refine tkT (i := 3) rfl ?_
   refine tkT (i := 4) rfl ?_
   refine tkT (i := 5) rfl ?_
   refine wpAnyT_one (i := 6) rfl (by kernel_rfl) (fun K0 hK0 => ?_)
   go_simp
   have HAL := Hi (((Below.refl wq.heap.size wq).alloc (Nat.le_refl _) (.cells #[.int .i64 x.1, .int .u64 x.2] 41)).drew)
   have HSRC := Hi (show Rd (wq.alloc (.cells #[.int .i64 x.1, .int .u64 x.2] 41)).drew (wq.alloc (.cells #[.int .i64 x.1, .int .u64 x.2] 41)).drew.heap.size 2 (some ⟨wq.heap.size, 0, none⟩) 1 (Cs encE [x]) from ((Rd.new wq #[.int .i64 x.1, .int .u64 x.2] 41 2 1 rfl).below (Below.refl (wq.heap.size + 1) _).drew).more (Nat.le_of_eq (World.size_alloc wq (.cells #[.int .i64 x.1, .int .u64 x.2] 41)).symm))
   clear hS0
   have hS0 := HSX.out _ HAL.out
   have HQb := Hi (HQ.out.below HAL.out)
   have R3b := Hi (R3q.out.below HAL.out)
   refine hK0.out _ _ (fun _ => hS0) ?_
   clear hK0 K0
   (try simp only [Act.put, Na, Nb, Nc, Nd, Nx, Nf])
   generalize (wq.alloc (.cells #[.int .i64 x.1, .int .u64 x.2] 41)).drew = wb at *
   refine wpAnyT_one (i := 7) rfl (by kernel_rfl) (fun K1 hK1 => ?_)
   rw [if_pos (by rfl)]
   refine wp_app (m := 1) (n := nt) (v := .slice At nt ct) elE _ _ rfl rfl HQb.out.own rfl HSRC.out (Cs_one_cell encE_one _) (by have := HT.out; omega) (Nat.le_trans HBW.out HAL.out.size) ?_
   intro v6 w6 hown6 hb6 hg6 hv6
   obtain ⟨A7, c7, rfl, hc7, hcm7⟩ := own_form2 hown6
   have HR6 := Hi (HandR.kept HQb.out hg6)
   have R36 := Hi (R3b.out.heap (hg6.block _ R3b.out.lt (fun e => by rw [own_block] at e; cases At with | none => cases e | some q => (injection e with e; exact HT3.out q rfl e.symm))))
   have HO6 := Hi hown6
   have HG6 := Hi hg6
   have HV6 := Hi hv6
   clear hown6 hb6 hg6 hv6 hS0
   obtain ⟨z0, z1, z2, z3, z4, z5, z6, z7, z8, z9, z10, z11, z12⟩ := row13 HR6.out
   have hS0 : w6.cell? ⟨gh, 12, none⟩ = some (.slice At nt ct) ∧ w6.cell? ⟨g2 + 1, 0, none⟩ = some (.int .i64 x.1) ∧ w6.cell? ⟨g2 + 1, 1, none⟩ = some (.int .u64 x.2) ∧ gh < w6.heap.size ∧ g2 + 1 < w6.heap.size := ⟨z12, row20 R36.out, row21 R36.out, HR6.out.lt, R36.out.lt⟩
   clear z0 z1 z2 z3 z4 z5 z6 z7 z8 z9 z10 z11 z12
   refine hK1.out _ _ (fun _ => hS0) ?_
   clear hK1 K1
   (try simp only [Act.put, Na, Nb, Nc, Nd, Nx, Nf])
   refine wpAnyT_one (i := 8) rfl (by kernel_rfl) (fun K2 hK2 => ?_)
   go_simp
   refine hK2.out _ _ (fun _ => hS0) ?_
   clear hK2 K2
   (try simp only [Act.put, Na, Nb, Nc, Nd, Nx, Nf])
   refine wpAnyT_one (i := 9) rfl (by kernel_rfl) (fun K3 hK3 => ?_)
   go_simp
   refine hK3.out _ _ (fun _ => hS0) ?_
   clear hK3 K3
   (try simp only [Act.put, Na, Nb, Nc, Nd, Nx, Nf])
   refine wpAnyT_one (i := 10) rfl (by kernel_rfl) (fun K4 hK4 => ?_)
   obtain ⟨z0, z1, z2, z3, z4, z5, z6, z7, z8, z9, z10, z11, z12⟩ := row13 HR6.out
   have zl := HR6.out.lt
   have f12 := HR6.out.frozen 12
   clear hS0
   go_simp
   have HPS := Hi (show Past gh w6 (w6.setCell ⟨gh, 12, none⟩ (.slice A7 (nt + 1) c7)) from ((Past.refl gh w6).trans (Past.set 12 (.slice A7 (nt + 1) c7))))
   have HN := Hi (show RowAt (w6.setCell ⟨gh, 12, none⟩ (.slice A7 (nt + 1) c7)) gh 95 #[.slice A1 k c1, .int .u64 r.e, .slice As ns cs, .int .u64 (l'.E : Int), .slice (A4 0) (n4 0) (c4 0), .slice (A4 1) (n4 1) (c4 1), .slice (A4 2) (n4 2) (c4 2), .int .i64 o.k, .int .i64 o.g, .int .u64 o.b, .int .i64 o.x.1, .int .u64 o.x.2, .slice A7 (nt + 1) c7] from by have h := (HR6.out.set 12 (.slice A7 (nt + 1) c7)); simpa using h)
   clear z0 z1 z2 z3 z4 z5 z6 z7 z8 z9 z10 z11 z12 zl
   clear f12
   generalize w6.setCell _ _ = w7 at *
   refine hK4.out _ _ (fun h => absurd rfl h) ?_
   clear hK4 K4
   (try simp only [Act.put, Na, Nb, Nc, Nd, Nx, Nf])
   refine wpAnyT_done (by kernel_rfl) ?_ _
   go_wp2_with fail
   go_end0
   have H7 := HQb.out.tell HG6.out (told' := told ++ [x]) (by rw [Cs_append]; exact HO6.out) (by rw [List.length_append, HQb.out.len]; rfl) HV6.out HPS.out HN.out
   exact .inl ⟨_, _, HRR.out, rfl, ⟨_, _, _, _, _, _, _, _, _, _, _, _, H7⟩, (((PastH.of_past HPQ.out).trans (PastH.of_below HAL.out)).trans (PastH.grown HG6.out)).trans (PastH.of_past HPS.out)⟩
end Go.Proofs.YtkicidopjihjmaaGreat

/-
  Mutexes, plainly: which may be, who waits, asking, leaving, deeds, rings.
-/
import Derived.Test.YtlelpnahillioaaMem
set_option linter.unusedSimpArgs false
set_option linter.unusedVariables false
namespace Go.Proofs.Ytlelpnahillioaa
open Go Go.RowKit

/-- A mutex: who has it, who waits for it. -/
abbrev Mu := Int × List Int
abbrev Ml := List Mu
def goerB (g : Int) : Bool := decide (0 ≤ g) && decide (g < 8)
theorem goerB_iff {g : Int} : goerB g = true ↔ 0 ≤ g ∧ g < 8 := by simp [goerB]
def flatQ (l : Ml) : List Int := l.flatMap (fun m => m.2)
def muB (m : Mu) : Bool := decide (0 ≤ m.1) && decide (m.1 ≤ 8) && (decide (0 < m.1) || decide (m.2.length = 0)) && m.2.all goerB && !m.2.contains (m.1 - 1)
def rightM (l : Ml) : Bool := decide (1 ≤ l.length) && decide (l.length ≤ 160) && l.all muB && decide ((flatQ l).Nodup)
structure MuOk (m : Mu) : Prop where
  lo : 0 ≤ m.1
  hi : m.1 ≤ 8
  none : m.1 = 0 → m.2 = []
  goers : ∀ g ∈ m.2, 0 ≤ g ∧ g < 8
  other : m.1 - 1 ∉ m.2
theorem muB_iff {m : Mu} : muB m = true ↔ MuOk m := by
  unfold muB
  simp only [Bool.and_eq_true, Bool.or_eq_true, decide_eq_true_eq, List.all_eq_true, Bool.not_eq_true', goerB_iff]
  constructor
  · rintro ⟨⟨⟨⟨h1, h2⟩, h3⟩, h4⟩, h5⟩
    exact ⟨h1, h2, fun h => List.eq_nil_of_length_eq_zero (by omega), h4, by simpa using h5⟩
  · rintro ⟨h1, h2, h3, h4, h5⟩
    refine ⟨⟨⟨⟨h1, h2⟩, ?_⟩, h4⟩, by simpa using h5⟩
    by_cases h : m.1 = 0
    · right; rw [h3 h]; rfl
    · left; omega
structure RightM (l : Ml) : Prop where
  lo : 1 ≤ l.length
  hi : l.length ≤ 160
  all : ∀ m ∈ l, MuOk m
  nodup : (flatQ l).Nodup
theorem rightM_iff {l : Ml} : rightM l = true ↔ RightM l := by
  unfold rightM
  simp only [Bool.and_eq_true, decide_eq_true_eq, List.all_eq_true]
  constructor
  · rintro ⟨⟨⟨h1, h2⟩, h3⟩, h4⟩
    exact ⟨h1, h2, fun m hm => muB_iff.1 (h3 m hm), h4⟩
  · rintro ⟨h1, h2, h3, h4⟩
    exact ⟨⟨⟨h1, h2⟩, fun m hm => muB_iff.2 (h3 m hm)⟩, h4⟩
/-- Numbers below eight, none twice: no more than eight. -/
theorem nodup_le (n : Nat) : ∀ (l : List Int), l.Nodup → (∀ g ∈ l, 0 ≤ g ∧ g < (n : Int)) → l.length ≤ n := by
  induction n with
  | zero =>
    intro l _ h
    cases l with
    | nil => exact Nat.le_refl _
    | cons a l => have := h a (by simp); omega
  | succ n ih =>
    intro l hn h
    have h1 : (l.erase (n : Int)).length ≤ n := ih _ (hn.erase _) (fun g hg => by
      have hm := (List.Nodup.mem_erase_iff hn).1 hg
      have := h g hm.2
      omega)
    have h2 := List.length_erase (a := (n : Int)) (l := l)
    split at h2 <;> omega
theorem mem_flatQ {l : Ml} {g : Int} : g ∈ flatQ l ↔ ∃ m ∈ l, g ∈ m.2 := by simp [flatQ]
theorem RightM.goers {l : Ml} (h : RightM l) {g : Int} (hg : g ∈ flatQ l) : 0 ≤ g ∧ g < 8 := by
  obtain ⟨m, hm, h2⟩ := mem_flatQ.1 hg
  exact (h.all m hm).goers g h2
theorem RightM.flat_len {l : Ml} (h : RightM l) : (flatQ l).length ≤ 8 := nodup_le 8 _ h.nodup (fun g hg => h.goers hg)
theorem len_flat {l : Ml} {m : Mu} (hm : m ∈ l) : m.2.length ≤ (flatQ l).length := by
  induction l with
  | nil => simp at hm
  | cons a l ih =>
    have e : flatQ (a :: l) = a.2 ++ flatQ l := by simp [flatQ]
    rw [e, List.length_append]
    rcases List.mem_cons.1 hm with rfl | h
    · omega
    · have := ih h; omega
theorem RightM.q_len {l : Ml} (h : RightM l) {m : Mu} (hm : m ∈ l) : m.2.length ≤ 8 := Nat.le_trans (len_flat hm) h.flat_len

/-- Which one a goroutine waits for. -/
def waitsGo : Nat → Ml → Int → Int
  | _, [], _ => -1
  | k, m :: l, g => if m.2.contains g then (k : Int) else waitsGo (k + 1) l g
def waitsX (l : Ml) (g : Int) : Int := waitsGo 0 l g
def mAt (l : Ml) (k : Nat) : Mu := l.getD k (0, [])
theorem mAt_mem {l : Ml} {k : Nat} (h : k < l.length) : mAt l k ∈ l := by
  unfold mAt
  rw [List.getD_eq_getElem?_getD, List.getElem?_eq_getElem h]
  exact List.getElem_mem h
theorem mAt_get {l : Ml} {k : Nat} (h : k < l.length) : mAt l k = l[k] := by
  unfold mAt
  rw [List.getD_eq_getElem?_getD, List.getElem?_eq_getElem h]; rfl
theorem mAt_set {l : Ml} {k j : Nat} {m : Mu} (h : k < l.length) : mAt (l.set k m) j = if j = k then m else mAt l j := by
  unfold mAt
  rw [List.getD_eq_getElem?_getD, List.getD_eq_getElem?_getD, List.getElem?_set]
  by_cases hj : k = j
  · subst hj; simp [h]
  · rw [if_neg hj, if_neg (fun e => hj e.symm)]
theorem waitsGo_some (l : Ml) (g : Int) : ∀ k, (waitsGo k l g = -1 ∧ g ∉ flatQ l) ∨ ∃ j, j < l.length ∧ waitsGo k l g = (k + j : Nat) ∧ g ∈ (mAt l j).2 ∧ ∀ i, i < j → g ∉ (mAt l i).2 := by
  induction l with
  | nil => intro k; exact .inl ⟨rfl, by simp [flatQ]⟩
  | cons m l ih =>
    intro k
    unfold waitsGo
    by_cases hm : m.2.contains g = true
    · rw [if_pos hm]
      exact .inr ⟨0, by simp, by simp, by simpa [mAt] using hm, fun i hi => absurd hi (Nat.not_lt_zero _)⟩
    · rw [if_neg hm]
      have hm' : g ∉ m.2 := by simpa using hm
      rcases ih (k + 1) with ⟨h1, h2⟩ | ⟨j, h1, h2, h3, h4⟩
      · exact .inl ⟨h1, by simp [flatQ] at h2 ⊢; exact ⟨hm', h2⟩⟩
      · refine .inr ⟨j + 1, by simp; omega, by rw [h2]; congr 1; omega, by simpa [mAt] using h3, fun i hi => ?_⟩
        cases i with
        | zero => simpa [mAt] using hm'
        | succ i => have := h4 i (by omega); simpa [mAt] using this
theorem waitsX_cases (l : Ml) (g : Int) : (waitsX l g = -1 ∧ g ∉ flatQ l) ∨ ∃ j : Nat, j < l.length ∧ waitsX l g = (j : Int) ∧ g ∈ (mAt l j).2 ∧ ∀ i, i < j → g ∉ (mAt l i).2 := by
  rcases waitsGo_some l g 0 with h | ⟨j, h1, h2, h3, h4⟩
  · exact .inl h
  · exact .inr ⟨j, h1, by unfold waitsX; rw [h2]; simp, h3, h4⟩
theorem waitsX_neg {l : Ml} {g : Int} : waitsX l g < 0 ↔ g ∉ flatQ l := by
  rcases waitsX_cases l g with ⟨h1, h2⟩ | ⟨j, h1, h2, h3, _⟩
  · exact ⟨fun _ => h2, fun _ => by omega⟩
  · refine ⟨fun h => by omega, fun h => absurd (mem_flatQ.2 ⟨_, mAt_mem h1, h3⟩) h⟩

/-- Asked for: the mutexes then, and whether it has it; the error. -/
def askX (l : Ml) (w g : Int) : Except Int (Ml × Bool) :=
  if !(decide (0 ≤ w) && decide (w < l.length) && goerB g) then .error 2
  else if (mAt l w.toNat).1 = g + 1 ∨ 0 ≤ waitsX l g then .error 151
  else if (mAt l w.toNat).1 = 0 then .ok (l.set w.toNat (g + 1, (mAt l w.toNat).2), true)
  else .ok (l.set w.toNat ((mAt l w.toNat).1, (mAt l w.toNat).2 ++ [g]), false)
/-- Left: the mutexes then, and who has it; the error. -/
def leaveX (l : Ml) (w g : Int) : Except Int (Ml × Int) :=
  if !(decide (0 ≤ w) && decide (w < l.length) && goerB g) then .error 2
  else if (mAt l w.toNat).1 ≠ g + 1 then .error 4
  else match (mAt l w.toNat).2 with
    | [] => .ok (l.set w.toNat (0, []), -1)
    | n :: q => .ok (l.set w.toNat (n + 1, q), n)
/-- A deed: leaves it, who, which. -/
abbrev Dd := Bool × Int × Int
def doX (l : Ml) (d : Dd) : Except Int Ml := if d.1 then (leaveX l d.2.2 d.2.1).map (·.1) else (askX l d.2.2 d.2.1).map (·.1)
def overB (l : Ml) (d : Dd) : Bool := goerB d.2.1 && decide (0 ≤ waitsX l d.2.1)
def playX : Ml → List Dd → Nat → Except Int (Ml × Nat)
  | l, [], n => .ok (l, n)
  | l, d :: ds, n => if overB l d then playX l ds (n + 1) else match doX l d with
    | .ok l2 => playX l2 ds n
    | .error e => .error e
/-- The mutexes that one has. -/
def hasGo (g : Int) : Nat → Ml → List Int
  | _, [] => []
  | k, m :: l => if m.1 = g + 1 then (k : Int) :: hasGo g (k + 1) l else hasGo g (k + 1) l
def hasX (l : Ml) (g : Int) : List Int := if goerB g then hasGo g 0 l else []
theorem hasGo_append (g : Int) (l m : Ml) : ∀ k, hasGo g k (l ++ m) = hasGo g k l ++ hasGo g (k + l.length) m := by
  induction l with
  | nil => intro k; simp [hasGo]
  | cons a l ih =>
    intro k
    simp only [List.cons_append, hasGo, ih, List.length_cons]
    rw [show k + 1 + l.length = k + (l.length + 1) by omega]
    split <;> simp
theorem hasGo_snoc (g : Int) (l : Ml) (m : Mu) : hasGo g 0 (l ++ [m]) = if m.1 = g + 1 then hasGo g 0 l ++ [(l.length : Int)] else hasGo g 0 l := by
  rw [hasGo_append]
  simp only [hasGo, Nat.zero_add]
  split <;> simp
theorem hasGo_len (g : Int) (l : Ml) : ∀ k, (hasGo g k l).length ≤ l.length := by
  induction l with
  | nil => intro k; simp [hasGo]
  | cons a l ih =>
    intro k
    have := ih (k + 1)
    simp only [hasGo]
    split <;> simp <;> omega
/-- Followed from one on: who is met, up to the first one again. -/
def ringGo (l : Ml) (first : Int) : Nat → Int → List Int → Option (List Int)
  | 0, _, _ => none
  | n + 1, at_, out => if waitsX l at_ < 0 then none else if (mAt l (waitsX l at_).toNat).1 - 1 = first then some (out ++ [at_]) else ringGo l first n ((mAt l (waitsX l at_).toNat).1 - 1) (out ++ [at_])
def ringAt (l : Ml) (first : Int) : Option (List Int) := ringGo l first 8 first []
def ringFrom (l : Ml) : Nat → Nat → List Int
  | 0, _ => []
  | n + 1, first => match ringAt l first with
    | some out => out
    | none => ringFrom l n (first + 1)
def ringX (l : Ml) : List Int := ringFrom l 8 0

/-! What is kept. -/
theorem flat_set {l : Ml} {k : Nat} (h : k < l.length) (m : Mu) : ∃ A C, flatQ l = A ++ ((mAt l k).2 ++ C) ∧ flatQ (l.set k m) = A ++ (m.2 ++ C) := by
  refine ⟨flatQ (l.take k), flatQ (l.drop (k + 1)), ?_, ?_⟩
  · have e : l = l.take k ++ (mAt l k :: l.drop (k + 1)) := by
      rw [mAt_get h]
      exact (List.take_append_drop k l).symm.trans (by rw [List.drop_eq_getElem_cons h])
    have : flatQ l = flatQ (l.take k ++ (mAt l k :: l.drop (k + 1))) := by rw [← e]
    rw [this]; simp [flatQ]
  · rw [List.set_eq_take_append_cons_drop, if_pos h]; simp [flatQ]
theorem RightM.set {l : Ml} (h : RightM l) {k : Nat} (hk : k < l.length) {m : Mu} (hm : MuOk m) (hn : (flatQ (l.set k m)).Nodup) : RightM (l.set k m) := by
  refine ⟨by simpa using h.lo, by simpa using h.hi, fun x hx => ?_, hn⟩
  rcases List.mem_or_eq_of_mem_set hx with hx | rfl
  · exact h.all x hx
  · exact hm
theorem mid_nodup {A B B' C : List Int} (h : (A ++ (B ++ C)).Nodup) (hb : B'.Nodup) (hs : ∀ x ∈ B', x ∈ B ∨ (x ∉ A ∧ x ∉ C)) : (A ++ (B' ++ C)).Nodup := by
  rw [List.nodup_append, List.nodup_append] at h ⊢
  obtain ⟨h1, ⟨h2, h3, h4⟩, h5⟩ := h
  refine ⟨h1, ⟨hb, h3, fun a ha b hb2 => ?_⟩, fun a ha b hb2 => ?_⟩
  · rcases hs a ha with h | ⟨_, h⟩
    · exact h4 a h b hb2
    · intro e; subst e; exact h hb2
  · rcases List.mem_append.1 hb2 with hb2 | hb2
    · rcases hs b hb2 with h | ⟨h, _⟩
      · exact h5 a ha b (List.mem_append_left _ h)
      · intro e; subst e; exact h ha
    · exact h5 a ha b (List.mem_append_right _ hb2)
theorem askX_right {l : Ml} (h : RightM l) {w g : Int} {l2 : Ml} {got : Bool} (ha : askX l w g = .ok (l2, got)) : RightM l2 := by
  unfold askX at ha
  split at ha
  · cases ha
  rename_i h1
  simp only [Bool.not_eq_true', Bool.not_eq_false, Bool.and_eq_true, decide_eq_true_eq] at h1
  obtain ⟨⟨h0, hw⟩, hg⟩ := h1
  have hg := goerB_iff.1 hg
  have hk : w.toNat < l.length := by omega
  split at ha
  · cases ha
  rename_i h2
  have hb : (mAt l w.toNat).1 ≠ g + 1 := fun e => h2 (.inl e)
  have hnw : g ∉ flatQ l := waitsX_neg.1 (by omega)
  have hm := h.all _ (mAt_mem hk)
  split at ha
  · rename_i hz
    injection ha with ha
    injection ha with ha _
    subst ha
    obtain ⟨A, C, e1, e2⟩ := flat_set hk (g + 1, (mAt l w.toNat).2)
    refine h.set hk ⟨by show 0 ≤ g + 1; omega, by show g + 1 ≤ 8; omega, fun e => by simp at e; omega, hm.goers, ?_⟩ (by rw [e2]; have := h.nodup; rw [e1] at this; exact this)
    show g + 1 - 1 ∉ (mAt l w.toNat).2
    rw [hm.none hz]; simp
  · rename_i hz
    injection ha with ha
    injection ha with ha _
    subst ha
    obtain ⟨A, C, e1, e2⟩ := flat_set hk ((mAt l w.toNat).1, (mAt l w.toNat).2 ++ [g])
    refine h.set hk ⟨hm.lo, hm.hi, fun e => absurd e hz, fun x hx => ?_, fun hx => ?_⟩ ?_
    · rcases List.mem_append.1 hx with hx | hx
      · exact hm.goers x hx
      · rw [List.mem_singleton] at hx; subst hx; exact hg
    · rcases List.mem_append.1 hx with hx | hx
      · exact hm.other hx
      · rw [List.mem_singleton] at hx
        have : (mAt l w.toNat).1 - 1 = g := hx
        omega
    · rw [e2]
      have hn := h.nodup
      rw [e1] at hn hnw
      refine mid_nodup hn ?_ (fun x hx => ?_)
      · show ((mAt l w.toNat).2 ++ [g]).Nodup
        rw [List.nodup_append]
        refine ⟨(List.nodup_append.1 (List.nodup_append.1 hn).2.1).1, by simp, fun a ha b hb e => ?_⟩
        rw [List.mem_singleton] at hb
        subst hb; subst e
        exact hnw (by simp [ha])
      · rcases List.mem_append.1 hx with hx | hx
        · exact .inl hx
        · rw [List.mem_singleton] at hx
          subst hx
          exact .inr ⟨fun h => hnw (by simp [h]), fun h => hnw (by simp [h])⟩
theorem leaveX_right {l : Ml} (h : RightM l) {w g : Int} {l2 : Ml} {nx : Int} (ha : leaveX l w g = .ok (l2, nx)) : RightM l2 := by
  unfold leaveX at ha
  split at ha
  · cases ha
  rename_i h1
  simp only [Bool.not_eq_true', Bool.not_eq_false, Bool.and_eq_true, decide_eq_true_eq] at h1
  obtain ⟨⟨h0, hw⟩, hg⟩ := h1
  have hk : w.toNat < l.length := by omega
  split at ha
  · cases ha
  have hm := h.all _ (mAt_mem hk)
  split at ha
  · rename_i hq
    injection ha with ha
    injection ha with ha _
    subst ha
    obtain ⟨A, C, e1, e2⟩ := flat_set hk (0, [])
    refine h.set hk ⟨by show (0 : Int) ≤ 0; omega, by show (0 : Int) ≤ 8; omega, fun _ => rfl, fun x hx => by simp at hx, by simp⟩ ?_
    rw [e2]
    have hn := h.nodup
    rw [e1] at hn
    exact mid_nodup hn (by simp) (fun x hx => by simp at hx)
  · rename_i n q hq
    injection ha with ha
    injection ha with ha _
    subst ha
    obtain ⟨A, C, e1, e2⟩ := flat_set hk (n + 1, q)
    have hgn := hm.goers n (by rw [hq]; simp)
    have hn := h.nodup
    rw [e1, hq] at hn
    have hnq : (n :: q).Nodup := (List.nodup_append.1 (List.nodup_append.1 hn).2.1).1
    refine h.set hk ⟨by show 0 ≤ n + 1; omega, by show n + 1 ≤ 8; omega, fun e => by simp at e; omega, fun x hx => hm.goers x (by rw [hq]; simp [show x ∈ q from hx]), ?_⟩ ?_
    · show n + 1 - 1 ∉ q
      rw [show n + 1 - 1 = n by omega]
      exact (List.nodup_cons.1 hnq).1
    · rw [e2]
      exact mid_nodup hn (List.nodup_cons.1 hnq).2 (fun x hx => .inl (by simp [show x ∈ q from hx]))
theorem doX_right {l : Ml} (h : RightM l) {d : Dd} {l2 : Ml} (hd : doX l d = .ok l2) : RightM l2 := by
  unfold doX at hd
  split at hd
  · cases hl : leaveX l d.2.2 d.2.1 with
    | error e => rw [hl] at hd; cases hd
    | ok x => rw [hl] at hd; injection hd with hd; subst hd; exact leaveX_right h hl
  · cases hl : askX l d.2.2 d.2.1 with
    | error e => rw [hl] at hd; cases hd
    | ok x => rw [hl] at hd; injection hd with hd; subst hd; exact askX_right h hl
theorem playX_right : ∀ (ds : List Dd) {l l2 : Ml} {n m : Nat}, RightM l → playX l ds n = .ok (l2, m) → RightM l2
  | [], l, l2, n, m, h, hp => by unfold playX at hp; injection hp with hp; injection hp with hp _; subst hp; exact h
  | d :: ds, l, l2, n, m, h, hp => by
    unfold playX at hp
    split at hp
    · exact playX_right ds h hp
    · split at hp
      · rename_i l3 hd; exact playX_right ds (doX_right h hd) hp
      · cases hp
end Go.Proofs.Ytlelpnahillioaa

/-
  Limbos, in plain Lean: what waits, in order; what may be; the steps.
-/
import Derived.Test.YthnpcmigphpolaaDoorMore
set_option linter.unusedSimpArgs false
set_option linter.unusedVariables false
namespace Go.Proofs.YthnpcmigphpolaaDoor
open Go Go.RowKit

abbrev Ent := Int × Int
def encE (x : Ent) : List Value := [.int .i64 x.1, .int .u64 x.2]
theorem encE_len : ∀ x : Ent, (encE x).length = 2 := fun _ => rfl
theorem encE_one : ∀ x : Ent, ∀ u ∈ encE x, u.oneCell' = true := fun x u hu => by
  simp only [encE, List.mem_cons, List.not_mem_nil, or_false] at hu
  rcases hu with rfl | rfl <;> rfl

def LAST : Nat := 4611686018427387904
def entB (e : Ent) : Bool := decide (0 ≤ e.1) && (decide (e.1 < 128) && decide (e.2 ≤ 1099511627775))
/-- A limbo: its epoch, its rows. -/
structure Lim where
  E : Nat
  r : Nat → List Ent
def lim0 : Lim := ⟨0, fun _ => []⟩
def upd (r : Nat → List Ent) (k : Nat) (x : List Ent) : Nat → List Ent := fun j => if j = k then x else r j
def rowN (E ago : Nat) : Nat := (E + 3 - ago) % 3
theorem rowN_lt (E ago : Nat) : rowN E ago < 3 := Nat.mod_lt _ (by omega)
def Lim.at (l : Lim) (ago : Nat) : List Ent := l.r (rowN l.E ago)
def tag (a : Nat) (l : List Ent) : List (Nat × Ent) := l.map (fun e => (a, e))
/-- What waits, the oldest first, and how many epochs ago it was retired. -/
def Lim.each (l : Lim) : List (Nat × Ent) := tag 2 (l.at 2) ++ (tag 1 (l.at 1) ++ tag 0 (l.at 0))
def Lim.held (l : Lim) : List Ent := l.at 2 ++ (l.at 1 ++ l.at 0)
theorem tag_snd (a : Nat) (l : List Ent) : (tag a l).map (·.2) = l := by
  unfold tag; induction l with
  | nil => rfl
  | cons x l ih => simpa using ih
theorem each_held (l : Lim) : l.each.map (·.2) = l.held := by
  unfold Lim.each Lim.held
  rw [List.map_append, List.map_append, tag_snd, tag_snd, tag_snd]
def okP (E : Nat) : List (Nat × Ent) → List Int → Bool
  | [], _ => true
  | p :: l, met => (decide (p.1 ≤ E) && (entB p.2 && !met.contains p.2.1)) && okP E l (p.2.1 :: met)
def metOf (l : List (Nat × Ent)) : List Int := (l.map (fun p => p.2.1)).reverse
theorem okP_append (E : Nat) (a b : List (Nat × Ent)) (met : List Int) : okP E (a ++ b) met = (okP E a met && okP E b (metOf a ++ met)) := by
  induction a generalizing met with
  | nil => simp [okP, metOf]
  | cons p a ih =>
    rw [List.cons_append, okP, okP, ih]
    have hm : metOf (p :: a) ++ met = metOf a ++ p.2.1 :: met := by simp [metOf]
    rw [hm]
    simp only [Bool.and_assoc]
theorem okP_snoc (E : Nat) (a : List (Nat × Ent)) (p : Nat × Ent) : okP E (a ++ [p]) [] = (okP E a [] && (decide (p.1 ≤ E) && (entB p.2 && !(metOf a).contains p.2.1))) := by
  rw [okP_append]
  simp [okP]
def Lim.ok (l : Lim) : Bool := decide (l.E ≤ LAST) && okP l.E l.each []
def hasB (l : List Ent) (s : Int) : Bool := l.any (fun x => x.1 == s)
/-- How many epochs ago what waits of a slab was retired. -/
def whenP : List (Nat × Ent) → Int → Option Nat
  | [], _ => none
  | p :: l, s => if p.2.1 = s then some p.1 else whenP l s
theorem whenP_append_none {a b : List (Nat × Ent)} {s : Int} (h : ∀ p ∈ a, p.2.1 ≠ s) : whenP (a ++ b) s = whenP b s := by
  induction a with
  | nil => rfl
  | cons p a ih => rw [List.cons_append, whenP, if_neg (h p (by simp)), ih (fun q hq => h q (by simp [hq]))]
theorem whenP_none {a : List (Nat × Ent)} {s : Int} (h : ∀ p ∈ a, p.2.1 ≠ s) : whenP a s = none := by
  have := whenP_append_none (b := []) h
  simpa [whenP] using this

/-! The steps: the error, or what comes. -/
def doRet (l : Lim) (e : Ent) : Except Int Lim :=
  if entB e = false then .error 2
  else if hasB (l.r 0) e.1 || (hasB (l.r 1) e.1 || hasB (l.r 2) e.1) then .error 5
  else .ok ⟨l.E, upd l.r (rowN l.E 0) (l.at 0 ++ [e])⟩
def doAdv (l : Lim) : Except Int Lim :=
  if l.at 2 ≠ [] then .error 241
  else if l.E < LAST then .ok ⟨l.E + 1, l.r⟩
  else .error 6
def doTake (l : Lim) : Except Int (Lim × Ent) :=
  match l.at 2 with
  | [] => .error 4
  | e :: rest => .ok (⟨l.E, upd l.r (rowN l.E 2) rest⟩, e)
/-- All that is ready is taken. -/
def drain (l : Lim) : Lim := ⟨l.E, upd l.r (rowN l.E 2) []⟩
def doStep (l : Lim) (s : Ent) : Except Int (Lim × List Ent) :=
  if 0 ≤ s.1 then (doRet l s).map (fun l' => (l', [])) else (doAdv (drain l)).map (fun l' => (l', l.at 2))
def doRun : Lim → List Ent → List Ent → Except Int (Lim × List Ent)
  | l, [], took => .ok (l, took)
  | l, s :: rest, took =>
    match doStep l s with
    | .error k => .error k
    | .ok (l', out) => doRun l' rest (took ++ out)

/-! What a limbo that may be says. -/
theorem okP_mem {E : Nat} {l : List (Nat × Ent)} {met : List Int} (h : okP E l met = true) : ∀ p ∈ l, p.1 ≤ E ∧ entB p.2 = true ∧ p.2.1 ∉ met := by
  induction l generalizing met with
  | nil => intro p hp; simp at hp
  | cons q l ih =>
    rw [okP] at h
    simp only [Bool.and_eq_true, decide_eq_true_eq, Bool.not_eq_true', List.contains_eq_mem, decide_eq_false_iff_not] at h
    intro p hp
    rcases List.mem_cons.1 hp with rfl | hp
    · exact ⟨h.1.1, h.1.2.1, h.1.2.2⟩
    · obtain ⟨h1, h2, h3⟩ := ih h.2 p hp
      exact ⟨h1, h2, fun hm => h3 (by simp [hm])⟩
theorem entB_out {e : Ent} (h : entB e = true) : 0 ≤ e.1 ∧ e.1 < 128 ∧ e.2 ≤ 1099511627775 := by
  unfold entB at h
  simpa using h
/-- The slabs of what waits are apart. -/
theorem okP_nodup {E : Nat} {l : List (Nat × Ent)} {met : List Int} (h : okP E l met = true) : (l.map (fun p => p.2.1)).Nodup := by
  induction l generalizing met with
  | nil => simp
  | cons q l ih =>
    rw [okP] at h
    simp only [Bool.and_eq_true] at h
    rw [List.map_cons, List.nodup_cons]
    refine ⟨fun hm => ?_, ih h.2⟩
    obtain ⟨p, hp, he⟩ := List.mem_map.1 hm
    exact (okP_mem h.2 p hp).2.2 (by simp [he])
theorem tag_len (a : Nat) (l : List Ent) : (tag a l).length = l.length := by simp [tag]
/-- At most 128 things wait. -/
theorem okP_len {E : Nat} {l : List (Nat × Ent)} (h : okP E l [] = true) : l.length ≤ 128 := by
  have hn := okP_nodup h
  have hs : (l.map (fun p => p.2.1)) ⊆ (List.range 128).map (fun (n : Nat) => (n : Int)) := by
    intro s hs
    obtain ⟨p, hp, rfl⟩ := List.mem_map.1 hs
    obtain ⟨h1, h2, _⟩ := entB_out (okP_mem h p hp).2.1
    exact List.mem_map.2 ⟨p.2.1.toNat, by simp; omega, by omega⟩
  have := List.Nodup.length_le_of_subset hn hs
  simpa using this
end Go.Proofs.YthnpcmigphpolaaDoor

/-
  The plain law of the copies that tell all: from the house to the minutes.
-/
import Derived.Test.YtloenmikkkklhaaL2
import Derived.Test.YtloenmikkkklhaaR6
namespace Go.Proofs.Ytloenmikkkklhaa
open Go.RowKit

theorem at_nonneg {th : List Thing} (h : okThings th th.length = true) : ∀ (k : Nat) (y : Thing), th[k]? = some y → 0 ≤ y.at_ ∧ y.at_ ≤ 99 := by
  intro k
  induction k using Nat.strongRecOn with
  | ind k ih =>
    intro y hy
    have hk : k < th.length := (List.getElem?_eq_some_iff.1 hy).1
    have h1 := okThings_lt h hk hy
    simp only [okThing, Bool.and_eq_true] at h1
    obtain ⟨⟨⟨_, h2⟩, _⟩, _⟩ := h1
    have h3 := inB_iff.1 h2
    refine ⟨?_, h3.2⟩
    unfold fromAt at h3
    split at h3
    · rename_i h4
      have h5 := inB_iff.1 h4
      obtain ⟨j, hj⟩ : ∃ j : Nat, y.of = (j : Int) := ⟨y.of.toNat, by omega⟩
      have hjl : j < th.length := by omega
      have h6 := ih j (by omega) th[j] (List.getElem?_eq_getElem hjl)
      have h7 : thAt th y.of = th[j].at_ := by simp [thAt, hj, List.getElem?_eq_getElem hjl]
      omega
    · exact h3.1
theorem markStep_bound {change : Int} {i : Nat} {acc : Int} {m : Mark} (ha : 0 ≤ acc ∧ acc ≤ 100) (hm : 0 ≤ m.at_ ∧ m.at_ ≤ 99) : 0 ≤ markStep change i acc m ∧ markStep change i acc m ≤ 100 := by
  unfold markStep
  split <;> omega
theorem fold_bound {change : Int} {i : Nat} : ∀ (mk : List Mark) (acc : Int), (0 ≤ acc ∧ acc ≤ 100) → (∀ m ∈ mk, 0 ≤ m.at_ ∧ m.at_ ≤ 99) → 0 ≤ mk.foldl (markStep change i) acc ∧ mk.foldl (markStep change i) acc ≤ 100
  | [], _, h, _ => h
  | m :: r, acc, h, hm => fold_bound r _ (markStep_bound h (hm m (by simp))) (fun x hx => hm x (by simp [hx]))
theorem marks_ok {th : List Thing} {mk : List Mark} (hc : chkHouse th mk = true) : ∀ m ∈ mk, 0 ≤ m.at_ ∧ m.at_ ≤ 99 := fun m hm => by
  simp only [chkHouse, Bool.and_eq_true] at hc
  obtain ⟨⟨⟨_, _⟩, hok⟩, hall⟩ := hc
  have h1 := List.all_eq_true.1 hall m hm
  simp only [okMark, Bool.and_eq_true] at h1
  obtain ⟨⟨_, h2⟩, h3⟩ := h1
  have h4 := inB_iff.1 h2
  have h5 := inB_iff.1 h3
  obtain ⟨j, hj⟩ : ∃ j : Nat, m.thing = (j : Int) := ⟨m.thing.toNat, by omega⟩
  have hjl : j < th.length := by omega
  have h6 := at_nonneg hok j th[j] (List.getElem?_eq_getElem hjl)
  have h7 : thAt th m.thing = th[j].at_ := by simp [thAt, hj, List.getElem?_eq_getElem hjl]
  omega
theorem sinceUpto_bound {th : List Thing} {mk : List Mark} (hc : chkHouse th mk = true) (change : Int) : ∀ n, n ≤ th.length → ∀ x ∈ sinceUpto th mk change n, 0 ≤ x ∧ x ≤ 100
  | 0, _, x, hx => by simp [sinceUpto] at hx
  | n + 1, hn, x, hx => by
    rw [sinceUpto, List.mem_append, List.mem_singleton] at hx
    rcases hx with hx | rfl
    · exact sinceUpto_bound hc change n (by omega) x hx
    · have hok : okThings th th.length = true := by
        simp only [chkHouse, Bool.and_eq_true] at hc
        exact hc.1.2
      have hx : th[n]? = some th[n] := List.getElem?_eq_getElem (by omega)
      have h1 := at_nonneg hok n _ hx
      rw [hx, Option.getD_some]
      refine fold_bound mk _ ?_ (marks_ok hc)
      unfold since0
      split <;> omega
theorem sinceOf_bound {th : List Thing} {mk : List Mark} (hc : chkHouse th mk = true) (change : Int) {i : Nat} (hi : i < th.length) : 0 ≤ sinceOf th mk change i ∧ sinceOf th mk change i ≤ 100 := by
  unfold sinceOf
  rw [sinceArr_lt th mk change th.length i hi, List.getD_eq_getElem?_getD, List.getElem?_eq_getElem (by rw [sinceUpto_length]; exact hi)]
  exact sinceUpto_bound hc change th.length (Nat.le_refl _) _ (List.getElem_mem _)

/-- The minute at which all plates are there. -/
def firstOf (th : List Thing) (plates : List Int) : Nat → Int
  | 0 => 0
  | k + 1 => max (firstOf th plates k) (thAt th (plates.getD k 0))
theorem firstOf_bound {th : List Thing} {mk : List Mark} {plates : List Int} (hc : chkHouse th mk = true) (hp : platesUpto th plates 99 plates.length) : ∀ k, k ≤ plates.length → 0 ≤ firstOf th plates k ∧ firstOf th plates k ≤ 99
  | 0, _ => by simp [firstOf]
  | k + 1, hk => by
    have ih := firstOf_bound hc hp k (by omega)
    obtain ⟨j, hx, ⟨t, ht, _, h2⟩, _⟩ := platesUpto_lt hp (show k < plates.length by omega)
    have h3 : plates.getD k 0 = (j : Int) := by rw [List.getD_eq_getElem?_getD, hx]; rfl
    have h4 : thAt th (plates.getD k 0) = t.at_ := by rw [h3]; simp [thAt, ht]
    simp only [firstOf]
    omega
def atOf (th : List Thing) (mk : List Mark) (change first last : Int) (p : Int) : Int := min last (max 0 (sinceOf th mk change p.toNat - first))
def atsOf (th : List Thing) (mk : List Mark) (change first last : Int) (plates : List Int) : List Int := plates.map (atOf th mk change first last)

theorem plates_mem {th : List Thing} {plates : List Int} (hp : platesUpto th plates 99 plates.length) : ∀ p ∈ plates, ∃ j : Nat, p = (j : Int) ∧ j < th.length := fun p hm => by
  obtain ⟨i, hi, rfl⟩ := List.getElem_of_mem hm
  obtain ⟨j, hx, ⟨t, ht, _⟩, _⟩ := platesUpto_lt hp hi
  rw [List.getElem?_eq_getElem hi] at hx
  exact ⟨j, Option.some.inj hx, (List.getElem?_eq_some_iff.1 ht).1⟩
theorem atsOk {th : List Thing} {mk : List Mark} {change first last : Int} {plates : List Int} (hn : 1 ≤ plates.length ∧ plates.length ≤ 3) (hl : 1 ≤ last ∧ last ≤ 30) : AtsOk last (atsOf th mk change first last plates) where
  last_ := hl
  len := by simp [atsOf]; omega
  mem := fun a ha => by
    simp only [atsOf, List.mem_map] at ha
    obtain ⟨p, _, rfl⟩ := ha
    unfold atOf
    omega
/-- A plate has the change just if its minute has come. -/
theorem at_le {th : List Thing} {mk : List Mark} {change first last k p : Int} (hk : 0 ≤ k ∧ k < last) : atOf th mk change first last p ≤ k ↔ sinceOf th mk change p.toNat ≤ first + k := by
  unfold atOf
  omega
theorem news_shows {th : List Thing} {mk : List Mark} {change first last k : Int} (plates : List Int) (hk : 0 ≤ k ∧ k < last) : newsOf th mk change (first + k) plates = shows (atsOf th mk change first last plates) k := by
  simp only [newsOf, shows, atsOf, List.map_map]
  refine List.map_congr_left fun p _ => ?_
  simp only [newOf, Function.comp]
  by_cases h : sinceOf th mk change p.toNat ≤ first + k
  · rw [if_pos h, if_pos (at_le hk |>.2 h)]
  · rw [if_neg h, if_neg (fun h2 => h (at_le hk |>.1 h2))]
theorem mn_le {last : Int} {ats : List Int} (h : AtsOk last ats) (i : Int) : mn ats ≤ i ↔ ∃ a ∈ ats, a ≤ i := by
  obtain ⟨⟨l1, l2⟩, ⟨n1, n2⟩, hm⟩ := h
  match ats, n1, n2, hm with
  | [a], _, _, hm => have := hm a (by simp); simp [mn]; omega
  | [a, b], _, _, hm => have := hm a (by simp); have := hm b (by simp); simp [mn]; omega
  | [a, b, c], _, _, hm => have := hm a (by simp); have := hm b (by simp); have := hm c (by simp); simp [mn]; omega
  | [], n1, _, _ => simp at n1
  | _ :: _ :: _ :: _ :: _, _, n2, _ => simp at n2
theorem lt_mx {last : Int} {ats : List Int} (h : AtsOk last ats) {i : Int} (hi : 0 ≤ i) : i < mx ats ↔ ∃ a ∈ ats, i < a := by
  obtain ⟨⟨l1, l2⟩, ⟨n1, n2⟩, hm⟩ := h
  match ats, n1, n2, hm with
  | [a], _, _, hm => have := hm a (by simp); simp [mx]; omega
  | [a, b], _, _, hm => have := hm a (by simp); have := hm b (by simp); simp [mx]; omega
  | [a, b, c], _, _, hm => have := hm a (by simp); have := hm b (by simp); have := hm c (by simp); simp [mx]; omega
  | [], n1, _, _ => simp at n1
  | _ :: _ :: _ :: _ :: _, _, n2, _ => simp at n2
theorem mixed_iff {th : List Thing} {mk : List Mark} {change first last i : Int} {plates : List Int} (hn : 1 ≤ plates.length ∧ plates.length ≤ 3) (hl : 1 ≤ last ∧ last ≤ 30) (hi : 0 ≤ i ∧ i < last) :
    mixedB (sinceArr th mk change th.length) plates (first + i) = decide (mn (atsOf th mk change first last plates) ≤ i ∧ i < mx (atsOf th mk change first last plates)) := by
  have hA := atsOk (th := th) (mk := mk) (change := change) (first := first) hn hl
  rw [Bool.eq_iff_iff]
  simp only [mixedB, Bool.and_eq_true, List.any_eq_true, decide_eq_true_eq, Bool.not_eq_true', decide_eq_false_iff_not]
  rw [mn_le hA, lt_mx hA hi.1]
  refine and_congr ?_ ?_
  · constructor
    · rintro ⟨p, hp, h⟩
      exact ⟨_, List.mem_map.2 ⟨p, hp, rfl⟩, (at_le hi).2 h⟩
    · rintro ⟨a, ha, h⟩
      obtain ⟨p, hp, rfl⟩ := List.mem_map.1 ha
      exact ⟨p, hp, (at_le hi).1 h⟩
  · constructor
    · rintro ⟨p, hp, h⟩
      refine ⟨_, List.mem_map.2 ⟨p, hp, rfl⟩, ?_⟩
      have h2 : ¬ atOf th mk change first last p ≤ i := fun h3 => h ((at_le hi).1 h3)
      omega
    · rintro ⟨a, ha, h⟩
      obtain ⟨p, hp, rfl⟩ := List.mem_map.1 ha
      exact ⟨p, hp, fun h3 => by have := (at_le hi).2 h3; omega⟩
theorem mixed_in {th : List Thing} {mk : List Mark} {plates : List Int} {minute : Int} {c : Nat} (hc : c < 3) : (mixedList th mk plates minute 3).any (· == (c : Int)) = mixedB (sinceArr th mk (c : Int) th.length) plates minute := by
  have e : ∀ n : Nat, ∀ b : Bool, (if b = true then [(n : Int)] else []).any (· == (c : Int)) = (b && n == c) := fun n b => by
    cases b
    · rfl
    · by_cases h : n = c
      · subst h; simp
      · have : ((n : Int) == (c : Int)) = false := by simp; omega
        simp [this, h]
  simp only [mixedList, List.nil_append, List.any_append, e]
  obtain rfl | rfl | rfl : c = 0 ∨ c = 1 ∨ c = 2 := by omega
  · simp
  · simp
  · simp
/-- How many minutes there are so far that name the change. -/
def minutesUpto (ats : List Int) : Nat → Int
  | 0 => 0
  | k + 1 => minutesUpto ats k + (if mn ats ≤ k ∧ (k : Int) < mx ats then 1 else 0)
theorem minutesUpto_eq {ats : List Int} (h0 : 0 ≤ mn ats) (h1 : mn ats ≤ mx ats) : ∀ k : Nat, minutesUpto ats k = max 0 (min (k : Int) (mx ats) - mn ats)
  | 0 => by simp only [minutesUpto]; omega
  | k + 1 => by
    rw [minutesUpto, minutesUpto_eq h0 h1 k]
    split <;> omega
theorem minutes_all {last : Int} {ats : List Int} (h : AtsOk last ats) {k : Nat} (hk : (k : Int) = last) : minutesUpto ats k = mx ats - mn ats := by
  have := mn_mx h
  rw [minutesUpto_eq this.1 this.2.1]
  omega
end Go.Proofs.Ytloenmikkkklhaa

/-
  The plain law of the copies that tell all: the one way, and what follows of it.
-/
import Derived.Test.YtloenmikkkklhaaL1
namespace Go.Proofs.Ytloenmikkkklhaa
open Go.RowKit

theorem first_keeps {last rate : Int} {ats : List Int} (h : AtsOk last ats) : Keeps last ats (firstUpto (msOf last rate ats.length) 1) := by
  have hl := h.len
  have hmem : ∀ p, p < ats.length → 0 ≤ ats.getD p 0 ∧ ats.getD p 0 ≤ last := fun p hp => by
    rw [List.getD_eq_getElem?_getD, List.getElem?_eq_getElem hp]
    exact h.mem _ (List.getElem_mem hp)
  have key : ∀ p, p < ats.length → lo6 (firstUpto (msOf last rate ats.length) 1) 0 p = 0 ∧ hi6 (firstUpto (msOf last rate ats.length) 1) 0 p = last := by
    obtain h1 | h1 | h1 : ats.length = 1 ∨ ats.length = 2 ∨ ats.length = 3 := by omega
    all_goals
      rw [h1]
      intro p hp
      rcases p with _ | _ | _ | p
      all_goals first | exact ⟨rfl, rfl⟩ | omega
  exact ⟨firstUpto_length _ _, fun p hp => by rw [(key p hp).1]; have := hmem p hp; omega, fun p hp => by rw [(key p hp).2]; have := hmem p hp; omega⟩

theorem ways_one {last rate : Int} {ats : List Int} (h : AtsOk last ats) (fs : List Found) (hfs : ∀ c ∈ fs, ∃ k : Int, 0 ≤ k ∧ c = foundOf ats k) :
    ∀ n, n ≤ fs.length → ∃ wh, waysUpto (msOf last rate ats.length) fs n = [⟨List.replicate n 0, wh⟩] ∧ Keeps last ats wh ∧
      ∀ (j : Nat) (k : Int), j < n → fs[j]? = some (foundOf ats k) → ∀ p, p < ats.length → (k < ats.getD p 0 → k + 1 ≤ lo6 wh 0 p) ∧ (ats.getD p 0 ≤ k → hi6 wh 0 p ≤ k)
  | 0, _ => ⟨_, rfl, first_keeps h, fun j k hj => by omega⟩
  | n + 1, hn => by
    obtain ⟨wh, h1, h2, h3⟩ := ways_one h fs hfs n (by omega)
    have hx : fs[n]? = some fs[n] := List.getElem?_eq_getElem (by omega)
    obtain ⟨k, hk, e⟩ := hfs _ (List.getElem_mem (show n < fs.length by omega))
    rw [e] at hx
    have hs := Keeps.step (x := ⟨List.replicate n 0, wh⟩) (k := k) h2 h.len.2 hk
    refine ⟨seeUpto wh 0 k (shows ats k) ats.length, ?_, h2.see h.len.2 hk _ (Nat.le_refl _), fun j q hj hq p hp => ?_⟩
    · rw [waysUpto, h1, hx, Option.getD_some, hs, List.replicate_succ']
    · have hp3 : p < 3 := by have := h.len; omega
      have hlo := see_lo (new := shows ats k) (minute := k) h2.len hp3 ats.length h.len.2
      have hhi := see_hi (new := shows ats k) (minute := k) h2.len hp3 ats.length h.len.2
      rw [shows_at hp] at hlo hhi
      by_cases e2 : j = n
      · subst e2
        rw [hx] at hq
        have hqk : q = k := by
          have := congrArg Found.minute (Option.some.inj hq)
          exact this.symm
        subst hqk
        constructor
        · intro h4
          rw [hlo, if_neg (show ¬ ats.getD p 0 ≤ q by omega), if_pos ⟨hp, rfl⟩]
          omega
        · intro h4
          rw [hhi, if_pos h4, if_pos ⟨hp, rfl⟩]
          omega
      · obtain ⟨g1, g2⟩ := h3 j q (by omega) hq p hp
        constructor
        · intro h4
          have := g1 h4
          rw [hlo]
          split <;> (split <;> omega)
        · intro h4
          have := g2 h4
          rw [hhi]
          split <;> (split <;> omega)

/-- The one way: each plate was changed in its minute. -/
theorem found_way {last rate : Int} {ats : List Int} (h : AtsOk last ats) :
    ∃ wh, waysOf (msOf last rate ats.length) (fsOf last ats ats) = [⟨List.replicate (fsOf last ats ats).length 0, wh⟩] ∧ wh.length = 18 ∧ ∀ p, p < ats.length → lo6 wh 0 p = ats.getD p 0 ∧ hi6 wh 0 p = ats.getD p 0 := by
  have hfs : ∀ c ∈ fsOf last ats ats, ∃ k : Int, 0 ≤ k ∧ c = foundOf ats k := fun c hc => by
    obtain ⟨a, ha, k, hk, e⟩ := fsOf_mem hc
    exact ⟨k, (ks_mem h.last_.1 (h.mem a ha) hk).1, e⟩
  obtain ⟨wh, h1, h2, h3⟩ := ways_one (rate := rate) h (fsOf last ats ats) hfs _ (Nat.le_refl _)
  refine ⟨wh, h1, h2.len, fun p hp => ?_⟩
  have ha : ats.getD p 0 ∈ ats := by
    rw [List.getD_eq_getElem?_getD, List.getElem?_eq_getElem hp]
    exact List.getElem_mem hp
  have hm := h.mem _ ha
  have hlo := h2.lo p hp
  have hhi := h2.hi p hp
  have use : ∀ k, k ∈ ks last (ats.getD p 0) → (k < ats.getD p 0 → k + 1 ≤ lo6 wh 0 p) ∧ (ats.getD p 0 ≤ k → hi6 wh 0 p ≤ k) := fun k hk => by
    obtain ⟨j, hj, e⟩ := List.getElem_of_mem (fsOf_of (last := last) (ats := ats) ha hk)
    exact h3 j k hj (by rw [List.getElem?_eq_getElem hj, e]) p hp
  by_cases h0 : ats.getD p 0 = 0
  · have := (use 0 (by rw [ks, if_pos h0]; simp)).2 (by omega)
    omega
  · have g1 := (use (ats.getD p 0 - 1) (by rw [ks, if_neg h0]; split <;> simp)).1 (by omega)
    by_cases h4 : ats.getD p 0 < last
    · have g2 := (use (ats.getD p 0) (by rw [ks, if_neg h0, if_pos h4]; simp)).2 (by omega)
      omega
    · omega

/-! ### What follows -/
def mn (ats : List Int) : Int := ats.foldl min 30
def mx (ats : List Int) : Int := ats.foldl max 0
theorem mn_mx {last : Int} {ats : List Int} (h : AtsOk last ats) : 0 ≤ mn ats ∧ mn ats ≤ mx ats ∧ mx ats ≤ last := by
  obtain ⟨⟨l1, l2⟩, ⟨n1, n2⟩, hm⟩ := h
  match ats, n1, n2, hm with
  | [a], _, _, hm => have := hm a (by simp); simp [mn, mx]; omega
  | [a, b], _, _, hm => have := hm a (by simp); have := hm b (by simp); simp [mn, mx]; omega
  | [a, b, c], _, _, hm => have := hm a (by simp); have := hm b (by simp); have := hm c (by simp); simp [mn, mx]; omega
  | [], n1, _, _ => simp at n1
  | _ :: _ :: _ :: _ :: _, _, n2, _ => simp at n2
theorem spread_eq {last : Int} {ats wh : List Int} (h : AtsOk last ats) (hw : ∀ p, p < ats.length → lo6 wh 0 p = ats.getD p 0 ∧ hi6 wh 0 p = ats.getD p 0) :
    spreadLo wh 0 ats.length = mx ats - mn ats ∧ spreadHi wh 0 ats.length = mx ats - mn ats := by
  obtain ⟨⟨l1, l2⟩, ⟨n1, n2⟩, hm⟩ := h
  match ats, n1, n2, hm, hw with
  | [a], _, _, hm, hw =>
    have := hm a (by simp)
    obtain ⟨x0, y0⟩ := hw 0 (by simp)
    simp only [List.getD_cons_zero] at x0 y0
    constructor <;> simp [spreadLo, spreadHi, spLast, spFirst, spHigh, spIn, x0, y0, mn, mx] <;> omega
  | [a, b], _, _, hm, hw =>
    have := hm a (by simp); have := hm b (by simp)
    obtain ⟨x0, y0⟩ := hw 0 (by simp)
    obtain ⟨x1, y1⟩ := hw 1 (by simp)
    simp only [List.getD_cons_zero, List.getD_cons_succ] at x0 y0 x1 y1
    constructor <;> simp [spreadLo, spreadHi, spLast, spFirst, spHigh, spIn, x0, y0, x1, y1, mn, mx] <;> omega
  | [a, b, c], _, _, hm, hw =>
    have := hm a (by simp); have := hm b (by simp); have := hm c (by simp)
    obtain ⟨x0, y0⟩ := hw 0 (by simp)
    obtain ⟨x1, y1⟩ := hw 1 (by simp)
    obtain ⟨x2, y2⟩ := hw 2 (by simp)
    simp only [List.getD_cons_zero, List.getD_cons_succ] at x0 y0 x1 y1 x2 y2
    constructor <;> simp [spreadLo, spreadHi, spLast, spFirst, spHigh, spIn, x0, y0, x1, y1, x2, y2, mn, mx] <;> omega
  | [], n1, _, _, _ => simp at n1
  | _ :: _ :: _ :: _ :: _, _, n2, _, _ => simp at n2
end Go.Proofs.Ytloenmikkkklhaa

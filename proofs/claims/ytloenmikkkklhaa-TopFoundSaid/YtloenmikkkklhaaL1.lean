/-
  The plain law of the copies that tell all: from the minutes at which the plates were changed to the one way.
-/
import Derived.Test.YtloenmikkkklhaaP16
namespace Go.Proofs.Ytloenmikkkklhaa
open Go.RowKit

/-- The minutes of which copies are found for a plate that was changed at minute a. -/
def ks (last a : Int) : List Int := if a = 0 then [0] else if a < last then [a - 1, a] else [a - 1]
def shows (ats : List Int) (k : Int) : List Int := ats.map fun a => if a ≤ k then 1 else 0
def foundOf (ats : List Int) (k : Int) : Found := ⟨k, shows ats k, [0]⟩
def fsOf (last : Int) (ats : List Int) : List Int → List Found
  | [] => []
  | a :: r => (ks last a).map (foundOf ats) ++ fsOf last ats r
def msOf (last rate : Int) (n : Nat) : List Machine := [⟨List.replicate n ⟨0, last⟩, rate⟩]
structure AtsOk (last : Int) (ats : List Int) : Prop where
  last_ : 1 ≤ last ∧ last ≤ 30
  len : 1 ≤ ats.length ∧ ats.length ≤ 3
  mem : ∀ a ∈ ats, 0 ≤ a ∧ a ≤ last

theorem ks_mem {last a k : Int} (hl : 1 ≤ last) (ha : 0 ≤ a ∧ a ≤ last) (h : k ∈ ks last a) : 0 ≤ k ∧ k < last := by
  unfold ks at h
  split at h
  · simp at h; omega
  · split at h
    · simp at h; omega
    · simp at h; omega
theorem ks_length (last a : Int) : (ks last a).length ≤ 2 := by
  unfold ks
  split
  · simp
  · split <;> simp
theorem fsOf_mem {last : Int} {ats : List Int} : ∀ {l : List Int} {c : Found}, c ∈ fsOf last ats l → ∃ a ∈ l, ∃ k ∈ ks last a, c = foundOf ats k
  | [], _, h => by simp [fsOf] at h
  | a :: r, c, h => by
    rw [fsOf, List.mem_append, List.mem_map] at h
    rcases h with ⟨k, hk, rfl⟩ | h
    · exact ⟨a, by simp, k, hk, rfl⟩
    · obtain ⟨b, hb, k, hk, e⟩ := fsOf_mem h
      exact ⟨b, by simp [hb], k, hk, e⟩
theorem fsOf_of {last : Int} {ats : List Int} {a k : Int} : ∀ {l : List Int}, a ∈ l → k ∈ ks last a → foundOf ats k ∈ fsOf last ats l
  | [], h, _ => by simp at h
  | b :: r, h, hk => by
    rw [fsOf, List.mem_append]
    rcases List.mem_cons.1 h with rfl | h
    · exact .inl (List.mem_map.2 ⟨k, hk, rfl⟩)
    · exact .inr (fsOf_of h hk)
theorem fsOf_length (last : Int) (ats : List Int) : ∀ l, (fsOf last ats l).length ≤ 2 * l.length
  | [] => by simp [fsOf]
  | a :: r => by
    have h1 := ks_length last a
    have h2 := fsOf_length last ats r
    rw [fsOf, List.length_append, List.length_map, List.length_cons]
    omega
theorem okRunOf {last rate : Int} {ats : List Int} (h : AtsOk last ats) (hr : 0 ≤ rate ∧ rate ≤ 9) : OkRun ats.length last (msOf last rate ats.length) (fsOf last ats ats) where
  hpl := by have := h.len; omega
  hlast := h.last_
  hms := by simp [msOf]
  hfs := by have := fsOf_length last ats ats; have := h.len; omega
  mach := by
    intro m hm
    simp only [msOf, List.mem_singleton] at hm
    subst hm
    refine ⟨by simp, hr, fun s hs => ?_⟩
    obtain ⟨_, rfl⟩ := List.mem_replicate.1 hs
    have := h.last_
    dsimp only
    omega
  found := by
    intro c hc
    obtain ⟨a, ha, k, hk, rfl⟩ := fsOf_mem hc
    have h1 := ks_mem h.last_.1 (h.mem a ha) hk
    refine ⟨?_, by simp [foundOf, shows], by simp [foundOf], fun n hn => ?_, fun i m hm => ?_⟩
    · show 0 ≤ k ∧ k ≤ last - 1
      omega
    · simp only [foundOf, shows, List.mem_map] at hn
      obtain ⟨b, _, rfl⟩ := hn
      split <;> omega
    · simp only [foundOf] at hm
      rcases i with _ | i
      · simp at hm
        subst hm
        simp [msOf]
      · simp at hm

/-! ### What a copy does to a way -/
theorem lo6_set_lo {wh : List Int} {p : Nat} (q : Nat) {v : Int} (hl : wh.length = 18) (hp : p < 3) (hq : q < 3) : lo6 (wh.set (0 * 6 + p * 2) v) 0 q = if q = p then v else lo6 wh 0 q := by
  unfold lo6
  simp only [List.getD_eq_getElem?_getD]
  by_cases e : q = p
  · subst e
    rw [if_pos rfl, List.getElem?_set_self (by omega)]; rfl
  · rw [if_neg e, List.getElem?_set_ne (by omega)]
theorem lo6_set_hi {wh : List Int} {p : Nat} (q : Nat) {v : Int} : lo6 (wh.set (0 * 6 + p * 2 + 1) v) 0 q = lo6 wh 0 q := by
  unfold lo6
  simp only [List.getD_eq_getElem?_getD]
  rw [List.getElem?_set_ne (by omega)]
theorem hi6_set_hi {wh : List Int} {p : Nat} (q : Nat) {v : Int} (hl : wh.length = 18) (hp : p < 3) (hq : q < 3) : hi6 (wh.set (0 * 6 + p * 2 + 1) v) 0 q = if q = p then v else hi6 wh 0 q := by
  unfold hi6
  simp only [List.getD_eq_getElem?_getD]
  by_cases e : q = p
  · subst e
    rw [if_pos rfl, List.getElem?_set_self (by omega)]; rfl
  · rw [if_neg e, List.getElem?_set_ne (by omega)]
theorem hi6_set_lo {wh : List Int} {p : Nat} (q : Nat) {v : Int} : hi6 (wh.set (0 * 6 + p * 2) v) 0 q = hi6 wh 0 q := by
  unfold hi6
  simp only [List.getD_eq_getElem?_getD]
  rw [List.getElem?_set_ne (by omega)]
theorem see_lo {wh new : List Int} {minute : Int} (hl : wh.length = 18) {q : Nat} (hq : q < 3) : ∀ j, j ≤ 3 → lo6 (seeUpto wh 0 minute new j) 0 q = if q < j ∧ new.getD q 0 = 0 then max (lo6 wh 0 q) (minute + 1) else lo6 wh 0 q
  | 0, _ => by simp [seeUpto]
  | j + 1, hj => by
    have ih := see_lo (new := new) (minute := minute) hl hq j (by omega)
    have hlen : (seeUpto wh 0 minute new j).length = 18 := by rw [seeUpto_length]; exact hl
    rw [seeUpto]
    unfold seeOne
    by_cases h0 : new.getD j 0 = 0
    · rw [if_pos h0, lo6_set_lo q hlen (by omega) hq]
      by_cases e : q = j
      · subst e
        rw [if_pos rfl, if_pos ⟨by omega, h0⟩]
        have : (seeUpto wh 0 minute new q).getD (0 * 6 + q * 2) 0 = lo6 (seeUpto wh 0 minute new q) 0 q := rfl
        rw [this, ih, if_neg (by omega)]
      · rw [if_neg e, ih]
        by_cases h1 : q < j ∧ new.getD q 0 = 0
        · rw [if_pos h1, if_pos ⟨by omega, h1.2⟩]
        · rw [if_neg h1, if_neg (fun h2 => h1 ⟨by omega, h2.2⟩)]
    · rw [if_neg h0]
      have e2 : ∀ (c : Prop) [Decidable c], (q < j ∧ new.getD q 0 = 0) ↔ (q < j + 1 ∧ new.getD q 0 = 0) := fun _ _ => by
        constructor
        · rintro ⟨a, b⟩; exact ⟨by omega, b⟩
        · rintro ⟨a, b⟩
          refine ⟨?_, b⟩
          by_cases e : q = j
          · subst e; exact absurd b h0
          · omega
      have e3 := e2 True
      split
      · rw [lo6_set_hi, ih]; simp only [e3]
      · rw [ih]; simp only [e3]
theorem see_hi {wh new : List Int} {minute : Int} (hl : wh.length = 18) {q : Nat} (hq : q < 3) : ∀ j, j ≤ 3 → hi6 (seeUpto wh 0 minute new j) 0 q = if q < j ∧ new.getD q 0 = 1 then min (hi6 wh 0 q) minute else hi6 wh 0 q
  | 0, _ => by simp [seeUpto]
  | j + 1, hj => by
    have ih := see_hi (new := new) (minute := minute) hl hq j (by omega)
    have hlen : (seeUpto wh 0 minute new j).length = 18 := by rw [seeUpto_length]; exact hl
    rw [seeUpto]
    unfold seeOne
    by_cases h1 : new.getD j 0 = 1
    · rw [if_neg (by omega), if_pos h1, hi6_set_hi q hlen (by omega) hq]
      by_cases e : q = j
      · subst e
        rw [if_pos rfl, if_pos ⟨by omega, h1⟩]
        have : (seeUpto wh 0 minute new q).getD (0 * 6 + q * 2 + 1) 0 = hi6 (seeUpto wh 0 minute new q) 0 q := rfl
        rw [this, ih, if_neg (by omega)]
      · rw [if_neg e, ih]
        by_cases h2 : q < j ∧ new.getD q 0 = 1
        · rw [if_pos h2, if_pos ⟨by omega, h2.2⟩]
        · rw [if_neg h2, if_neg (fun h3 => h2 ⟨by omega, h3.2⟩)]
    · have e3 : (q < j ∧ new.getD q 0 = 1) ↔ (q < j + 1 ∧ new.getD q 0 = 1) := by
        constructor
        · rintro ⟨a, b⟩; exact ⟨by omega, b⟩
        · rintro ⟨a, b⟩
          refine ⟨?_, b⟩
          by_cases e : q = j
          · subst e; exact absurd b h1
          · omega
      rw [if_neg h1]
      split
      · rw [hi6_set_lo, ih]; simp only [e3]
      · rw [ih]; simp only [e3]

/-- A way that keeps to the minutes. -/
structure Keeps (last : Int) (ats : List Int) (wh : List Int) : Prop where
  len : wh.length = 18
  lo : ∀ p, p < ats.length → 0 ≤ lo6 wh 0 p ∧ lo6 wh 0 p ≤ ats.getD p 0
  hi : ∀ p, p < ats.length → ats.getD p 0 ≤ hi6 wh 0 p ∧ hi6 wh 0 p ≤ last
theorem shows_at {ats : List Int} {k : Int} {p : Nat} (hp : p < ats.length) : (shows ats k).getD p 0 = if ats.getD p 0 ≤ k then 1 else 0 := by
  simp [shows, List.getD_eq_getElem?_getD, List.getElem?_map, List.getElem?_eq_getElem hp]
theorem Keeps.see {last : Int} {ats wh : List Int} {k : Int} (h : Keeps last ats wh) (hn : ats.length ≤ 3) (hk : 0 ≤ k) (j : Nat) (hj : j ≤ ats.length) : Keeps last ats (seeUpto wh 0 k (shows ats k) j) where
  len := by rw [seeUpto_length]; exact h.len
  lo := fun p hp => by
    have h1 := h.lo p hp
    rw [see_lo h.len (by omega) j (by omega), shows_at hp]
    by_cases ha : ats.getD p 0 ≤ k
    · rw [if_pos ha, if_neg (by omega)]; exact h1
    · rw [if_neg ha]
      split <;> omega
  hi := fun p hp => by
    have h1 := h.hi p hp
    rw [see_hi h.len (by omega) j (by omega), shows_at hp]
    by_cases ha : ats.getD p 0 ≤ k
    · rw [if_pos ha]
      split <;> omega
    · rw [if_neg ha, if_neg (by omega)]; exact h1
theorem Keeps.seeB {last : Int} {ats wh : List Int} {k : Int} (h : Keeps last ats wh) (hn : ats.length ≤ 3) (hk : 0 ≤ k) : ∀ j, j ≤ ats.length → seeB wh 0 k (shows ats k) j = true
  | 0, _ => rfl
  | j + 1, hj => by
    rw [Go.Proofs.Ytloenmikkkklhaa.seeB, Keeps.seeB h hn hk j (by omega), Bool.true_and, decide_eq_true_eq]
    have h2 := h.see hn hk (j + 1) hj
    have h3 := h2.lo j (by omega)
    have h4 := h2.hi j (by omega)
    have e1 : (seeUpto wh 0 k (shows ats k) (j + 1)).getD (0 * 6 + j * 2) 0 = lo6 (seeUpto wh 0 k (shows ats k) (j + 1)) 0 j := rfl
    have e2 : (seeUpto wh 0 k (shows ats k) (j + 1)).getD (0 * 6 + j * 2 + 1) 0 = hi6 (seeUpto wh 0 k (shows ats k) (j + 1)) 0 j := rfl
    rw [e1, e2]
    omega
theorem Keeps.step {last : Int} {ats : List Int} {x : Way} {k : Int} (h : Keeps last ats x.when_) (hn : ats.length ≤ 3) (hk : 0 ≤ k) :
    stepC [x] (foundOf ats k) = [⟨x.from_ ++ [0], seeUpto x.when_ 0 k (shows ats k) ats.length⟩] := by
  have hl : (shows ats k).length = ats.length := by simp [shows]
  have hB := h.seeB hn hk ats.length (Nat.le_refl _)
  simp only [stepC, stepW, foundOf, List.flatMap_cons, List.flatMap_nil, List.append_nil, stepM, Int.toNat_zero, hl, hB, if_true]
end Go.Proofs.Ytloenmikkkklhaa

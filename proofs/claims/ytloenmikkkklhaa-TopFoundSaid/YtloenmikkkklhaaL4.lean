/-
  The plain law of the copies that tell all, put together: the one way, and what follows from it.
-/
import Derived.Test.YtloenmikkkklhaaL3
namespace Go.Proofs.Ytloenmikkkklhaa
open Go.RowKit

structure FoundLaw (ms : List Machine) (fs : List Found) (y : Way) (ats : List Int) (n : Nat) (rate : Int) : Prop where
  way : waysOf ms fs = [y]
  froms : y.from_ = List.replicate fs.length 0
  lo : ∀ p, p < n → lo6 y.when_ 0 p = ats.getD p 0 ∧ hi6 y.when_ 0 p = ats.getD p 0
  old : ∀ p, p < n → oldLo ms y.when_ p = rate * ats.getD p 0 ∧ oldHi ms y.when_ p = rate * ats.getD p 0
  new : ∀ p, p < n → ∀ (k : Nat) (c : Found), fs[k]? = some c → c.new[p]? = some (if ats.getD p 0 ≤ c.minute then 1 else 0)
  mixes : mixesLo ms (waysOf ms fs) n = rate * (mx ats - mn ats) ∧ mixesHi ms (waysOf ms fs) n = rate * (mx ats - mn ats)
  mixed : mixedOf (spreadLo y.when_ 0 n) (spreadHi y.when_ 0 n) = if 0 < mx ats - mn ats then 1 else 2
  some_ : 0 < fs.length

theorem sum_one (last rate : Int) (n : Nat) (f : Nat → Int) : sumUpto (msOf last rate n) f (msOf last rate n).length = rate * f 0 := by
  simp [sumUpto, msOf, rateOf]
theorem hull_lo1 (f : Way → Int) (x : Way) : hullLo f [x] [x].length = f x := by simp [hullLo]
theorem hull_hi1 (f : Way → Int) (x : Way) : hullHi f [x] [x].length = f x := by simp [hullHi]

theorem foundLaw {last rate : Int} {ats : List Int} {fs : List Found} {n : Nat} (h : AtsOk last ats) (hn : ats.length = n) (hf : fsOf last ats ats = fs) :
    ∃ y : Way, FoundLaw (msOf last rate n) fs y ats n rate := by
  subst hn
  subst hf
  obtain ⟨wh, h1, _, h3⟩ := found_way (rate := rate) h
  obtain ⟨e1, e2⟩ := spread_eq h h3
  have hmm := mn_mx h
  refine ⟨⟨List.replicate (fsOf last ats ats).length 0, wh⟩, h1, rfl, h3, fun p hp => ?_, fun p hp k c hc => ?_, ?_, ?_, ?_⟩
  · simp only [oldLo, oldHi, sum_one]
    exact ⟨by rw [(h3 p hp).1], by rw [(h3 p hp).2]⟩
  · obtain ⟨a, _, k', _, rfl⟩ := fsOf_mem (List.mem_of_getElem? hc)
    have := shows_at (k := k') hp
    simp only [foundOf]
    have hl : p < (shows ats k').length := by simp [shows, hp]
    rw [List.getD_eq_getElem?_getD, List.getElem?_eq_getElem hl] at this
    rw [List.getElem?_eq_getElem hl]
    exact congrArg some this
  · rw [h1]
    simp only [mixesLo, mixesHi, hull_lo1, hull_hi1, mixLo, mixHi, sum_one, e1, e2]
    exact ⟨trivial, trivial⟩
  · rw [e1, e2]
    simp only [mixedOf]
    by_cases h0 : 0 < mx ats - mn ats
    · rw [if_pos h0, if_pos h0]
    · rw [if_neg h0, if_neg h0, if_pos (by omega)]
  · obtain ⟨a, r, rfl⟩ : ∃ a r, ats = a :: r := by
      cases ats with
      | nil => have := h.len; simp at this
      | cons a r => exact ⟨a, r, rfl⟩
    simp only [fsOf, List.length_append, List.length_map]
    have : 0 < (ks last a).length := by unfold ks; split; · simp
                                        · split <;> simp
    omega
end Go.Proofs.Ytloenmikkkklhaa

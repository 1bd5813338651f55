/-
  slices.IndexFunc and slices.ContainsFunc over whole numbers, at whatever predicate.
-/
import Derived.Test.YtloenmikkkklhaaProg
import Derived.Test.YtloenmikkkklhaaK
import Derived.Shelf.Abstract
namespace Go.Proofs.Ytloenmikkkklhaa
open Go.RowKit

/-- Where something is so first; -1: nowhere. -/
def idxOf {α : Type} (p : α → Bool) (xs : List α) : Int := match xs.findIdx? p with | some i => i | none => -1
theorem idxOf_here {α : Type} {p : α → Bool} {xs : List α} {k : Nat} {x : α} (hx : xs[k]? = some x) (hp : p x = true) (hn : ∀ (j : Nat) (y : α), j < k → xs[j]? = some y → p y = false) : idxOf p xs = k := by
  have hk : k < xs.length := (List.getElem?_eq_some_iff.1 hx).1
  have : xs.findIdx? p = some k := by
    rw [List.findIdx?_eq_some_iff_getElem]
    refine ⟨hk, by rw [(List.getElem?_eq_some_iff.1 hx).2]; exact hp, fun j hj => ?_⟩
    have := hn j xs[j] hj (List.getElem?_eq_getElem (by omega))
    simp [this]
  simp [idxOf, this]
theorem idxOf_none {α : Type} {p : α → Bool} {xs : List α} (hn : ∀ (j : Nat) (y : α), j < xs.length → xs[j]? = some y → p y = false) : idxOf p xs = -1 := by
  have : xs.findIdx? p = none := by
    rw [List.findIdx?_eq_none_iff]
    intro x hx
    obtain ⟨j, hj, rfl⟩ := List.getElem_of_mem hx
    exact hn j _ hj (List.getElem?_eq_getElem hj)
  simp [idxOf, this]
theorem idxOf_any {α : Type} (p : α → Bool) (xs : List α) : decide (0 ≤ idxOf p xs) = xs.any p := by
  unfold idxOf
  cases h : xs.findIdx? p with
  | none =>
    rw [List.findIdx?_eq_none_iff] at h
    have : xs.any p = false := by rw [List.any_eq_false]; intro x hx; simp [h x hx]
    rw [this]; simp
  | some i =>
    obtain ⟨h1, h2, _⟩ := List.findIdx?_eq_some_iff_getElem.1 h
    have : xs.any p = true := List.any_eq_true.2 ⟨_, List.getElem_mem h1, h2⟩
    rw [this]; simp

/-- A function value, called at an element of a list in a world that extends w, answers p. -/
def PredX {α : Type} (g : Nat) (lb : Array Value) (enc : α → Value) (p : α → Bool) (xs : List α) (w : World) : Prop :=
  ∀ (W : World) (x : α), x ∈ xs → Ext w W → Calls Try.prog g (#[enc x] ++ lb) W fun e w' => e = .returned (.bool (p x)) ∧ Ext W w'

set_option maxHeartbeats 1000000 in
theorem indexInt (g : Nat) (lb : Array Value) (p : Int → Bool) (A : Option Addr) (xs : List Int) (c : Nat) (w : World) (eg : Enters Try.prog g) (hm : (xs.length : Int) ≤ 9223372036854775807)
    (hA : RdI w A xs) (hp : PredX g lb (Value.int .i64) p xs w) :
    Calls Try.prog 76 #[.slice A xs.length c, .func (.func g) #[] lb] w fun e w' => e = .returned (.int .i64 (idxOf p xs)) ∧ Ext w w' := by
  have HP := Lib.hid hp
  have HA := Lib.hid hA
  clear hp hA
  unfold Enters at eg
  go_enter Try.func76, Try.ntmps76
  go_wp2_with fail
  go_loopw [8] (fun i wr => ∃ k : Nat, k ≤ xs.length ∧ Hid (∀ (j : Nat) (y : Int), j < k → xs[j]? = some y → p y = false) ∧ i = .int .i64 k ∧ Ext w wr) (fun i _ => xs.length - (intOf i).toNat)
  case atStart => exact ⟨0, Nat.zero_le _, fun _ _ h => by omega, rfl, Ext.refl _⟩
  case round =>
    obtain ⟨k, hk, hn, rfl, hE⟩ := hrel
    by_cases hlt : k < xs.length
    · have hx : xs[k]? = some xs[k] := List.getElem?_eq_getElem hlt
      have hmem : xs[k] ∈ xs := List.getElem_mem hlt
      generalize xs[k] = y at hx hmem
      obtain ⟨bb, oo, rfl, f0⟩ := (HA.out.ext hE).get hx
      have hx' := Lib.hid hx
      clear hx
      cases hp : p y
      all_goals
        have Hp := Lib.hid hp
        clear hp
        go_wp2_with fail
        refine (HP.out wr y hmem hE).mono ?_
        rw [Hp.out]
        rintro e w' ⟨rfl, hE'⟩
        go_wp2_with fail
      · go_roundw
        case rel =>
          refine ⟨k + 1, by omega, fun j z hj hz => ?_, by go_num, hE.trans hE'⟩
          by_cases hjk : j = k
          · subst hjk
            rw [hx'.out] at hz
            cases hz
            exact Hp.out
          · exact hn.out j z (by omega) hz
        case measure => simp [intOf]; omega
      · go_ret
        exact ⟨ret_int (idxOf_here hx'.out Hp.out hn.out).symm, hE.trans hE'⟩
    · go_wp2_with fail
      go_ret
      have : k = xs.length := by omega
      subst this
      exact ⟨ret_int (idxOf_none hn.out).symm, hE⟩

set_option maxHeartbeats 400000 in
theorem containsInt (g : Nat) (lb : Array Value) (p : Int → Bool) (A : Option Addr) (xs : List Int) (c : Nat) (w : World) (eg : Enters Try.prog g) (hm : (xs.length : Int) ≤ 9223372036854775807)
    (hA : RdI w A xs) (hp : PredX g lb (Value.int .i64) p xs w) :
    Calls Try.prog 64 #[.slice A xs.length c, .func (.func g) #[] lb] w fun e w' => e = .returned (.bool (xs.any p)) ∧ Ext w w' := by
  have HC := Lib.hid (indexInt g lb p A xs c w eg hm hA hp)
  clear hp hA eg
  go_enter Try.func64, Try.ntmps64
  go_wp2_with (go_at_call 76; refine HC.out.mono ?_; rintro e w' ⟨rfl, hE⟩)
  go_ret
  exact ⟨ret_bool (idxOf_any _ _), hE⟩
end Go.Proofs.Ytloenmikkkklhaa

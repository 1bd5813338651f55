/-
  The layer 'changes': a house at work: marked, has, there.
-/
import Derived.Test.YtloenmikkkklhaaC2
namespace Go.Proofs.Ytloenmikkkklhaa
open Go.RowKit

/-- The cells of a house at work. -/
def houseCells (A B : Option Addr) (n cm k ck : Nat) (change : Int) (s b : List Int) : Array Value :=
  (Value.slice A n cm :: .slice B k ck :: .int .i64 change :: (s.map (Value.int .i64) ++ b.map (Value.int .i64))).toArray
theorem house_0 (A B : Option Addr) (n cm k ck : Nat) (change : Int) (s b : List Int) : (houseCells A B n cm k ck change s b)[0]? = some (.slice A n cm) := by simp [houseCells]
theorem house_1 (A B : Option Addr) (n cm k ck : Nat) (change : Int) (s b : List Int) : (houseCells A B n cm k ck change s b)[1]? = some (.slice B k ck) := by simp [houseCells]
theorem house_s (A B : Option Addr) (n cm k ck : Nat) (change : Int) (s b : List Int) {i : Nat} {v : Int} (h : s[i]? = some v) : (houseCells A B n cm k ck change s b)[3 + i]? = some (.int .i64 v) := by
  have hi : i < s.length := (List.getElem?_eq_some_iff.1 h).1
  simp only [houseCells, List.getElem?_toArray]
  rw [show 3 + i = i + 1 + 1 + 1 by omega]
  simp only [List.getElem?_cons_succ]
  rw [List.getElem?_append_left (by simpa using hi)]
  simp [h]
theorem house_b (A B : Option Addr) (n cm k ck : Nat) (change : Int) (s b : List Int) (hs : s.length = 8) {i : Nat} {v : Int} (h : b[i]? = some v) : (houseCells A B n cm k ck change s b)[11 + i]? = some (.int .i64 v) := by
  simp only [houseCells, List.getElem?_toArray]
  rw [show 11 + i = 8 + i + 1 + 1 + 1 by omega]
  simp only [List.getElem?_cons_succ]
  rw [List.getElem?_append_right (by simp; omega)]
  simp [hs, h]
theorem house_set_s (A B : Option Addr) (n cm k ck : Nat) (change : Int) (s b : List Int) {i : Nat} (v : Int) (h : i < s.length) : (houseCells A B n cm k ck change s b).setIfInBounds (3 + i) (.int .i64 v) = houseCells A B n cm k ck change (s.set i v) b := by
  simp only [houseCells, List.setIfInBounds_toArray]
  rw [show 3 + i = i + 1 + 1 + 1 by omega]
  simp only [List.set_cons_succ, List.map_set]
  rw [List.set_append_left _ _ (by simpa using h)]
theorem house_set_b (A B : Option Addr) (n cm k ck : Nat) (change : Int) (s b : List Int) {i : Nat} (v : Int) (hs : s.length = 8) : (houseCells A B n cm k ck change s b).setIfInBounds (11 + i) (.int .i64 v) = houseCells A B n cm k ck change s (b.set i v) := by
  simp only [houseCells, List.setIfInBounds_toArray]
  rw [show 11 + i = 8 + i + 1 + 1 + 1 by omega]
  simp only [List.set_cons_succ, List.map_set]
  rw [List.set_append_right _ _ (by simp; omega)]
  simp [hs]

def markedB (mk : List Mark) (v : Int) (i : Nat) : Bool := decide (0 ≤ v) && (mk[v.toNat]?.getD default).thing == (i : Int)

set_option maxHeartbeats 400000 in
theorem marked7 (hb : Nat) (B : Option Addr) (mk : List Mark) (ck : Nat) (i : Nat) (v : Int) (w : World) (hi : i < 8) (hv : v < mk.length) (hm2 : (mk.length : Int) ≤ 9223372036854775807)
    (h1 : w.cell? ⟨hb, 1, none⟩ = some (.slice B mk.length ck)) (h2 : w.cell? ⟨hb, 11 + i, none⟩ = some (.int .i64 v)) (hB : RdM w B mk) :
    Calls Try.prog 61 #[.pointer (some ⟨hb, 0, none⟩), .int .i64 i] w fun e w' => e = .returned (.bool (markedB mk v i)) ∧ w = w' := by
  by_cases h0 : 0 ≤ v
  · obtain ⟨k, rfl⟩ := Int.eq_ofNat_of_zero_le h0
    have hk : k < mk.length := by omega
    have hx : mk[k]? = some mk[k] := List.getElem?_eq_getElem hk
    have hq : markedB mk (k : Int) i = (mk[k].thing == (i : Int)) := by simp [markedB, hx]
    obtain ⟨bb, oo, rfl⟩ := hB.base (by omega)
    obtain ⟨_, f1, _⟩ := hB.at hx
    generalize mk[k].thing = tt at f1 hq
    have Hq := Lib.hid hq
    clear hq hB hx
    go_enter Try.func61, Try.ntmps61
    go_wp2_with fail
    go_ret
    exact ⟨ret_bool Hq.out.symm, rfl⟩
  · have hq : markedB mk v i = false := by simp [markedB, h0]
    have Hq := Lib.hid hq
    clear hq hB
    have h0' : decide (0 ≤ v) = false := by simpa using h0
    go_enter Try.func61, Try.ntmps61
    go_wp2_with fail
    go_ret
    exact ⟨ret_bool Hq.out.symm, rfl⟩

set_option maxHeartbeats 400000 in
theorem has7 (hb : Nat) (i : Nat) (v minute : Int) (w : World) (hi : i < 8) (h2 : w.cell? ⟨hb, 3 + i, none⟩ = some (.int .i64 v)) :
    Calls Try.prog 62 #[.pointer (some ⟨hb, 0, none⟩), .int .i64 i, .int .i64 minute] w fun e w' => e = .returned (.bool (decide (v ≤ minute))) ∧ w = w' := by
  go_enter Try.func62, Try.ntmps62
  go_wp2_with fail
  go_ret
  exact ⟨rfl, rfl⟩

set_option maxHeartbeats 400000 in
theorem there7 (hb : Nat) (A : Option Addr) (th : List Thing) (cm : Nat) (i : Nat) (t : Thing) (minute : Int) (w : World) (hm : (th.length : Int) ≤ 9223372036854775807)
    (h0 : w.cell? ⟨hb, 0, none⟩ = some (.slice A th.length cm)) (hA : RdT w A th) (hx : th[i]? = some t) :
    Calls Try.prog 58 #[.pointer (some ⟨hb, 0, none⟩), .int .i64 i, .int .i64 minute] w fun e w' => e = .returned (.bool (decide (t.at_ ≤ minute))) ∧ w = w' := by
  have hk : i < th.length := (List.getElem?_eq_some_iff.1 hx).1
  obtain ⟨bb, oo, rfl⟩ := hA.base (by omega)
  obtain ⟨_, f1, _, _⟩ := hA.at hx
  clear hA hx
  go_enter Try.func58, Try.ntmps58
  go_wp2_with fail
  go_ret
  exact ⟨rfl, rfl⟩
end Go.Proofs.Ytloenmikkkklhaa

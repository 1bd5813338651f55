/-
  The layer 'changes': things and Time of a valid house.
-/
import Derived.Test.YtloenmikkkklhaaC7
namespace Go.Proofs.Ytloenmikkkklhaa
open Go.RowKit

def thingsUpto (p : Nat → Thing → Bool) (th : List Thing) : Nat → List Int
  | 0 => []
  | n + 1 => thingsUpto p th n ++ (match th[n]? with | some t => if p n t = true then [(n : Int)] else [] | none => [])
theorem thingsUpto_length (p : Nat → Thing → Bool) (th : List Thing) : ∀ n, (thingsUpto p th n).length ≤ n
  | 0 => Nat.le_refl _
  | n + 1 => by
    have := thingsUpto_length p th n
    rw [thingsUpto, List.length_append]
    split
    · split <;> simp <;> omega
    · simp; omega
theorem thingsUpto_mem {p : Nat → Thing → Bool} {th : List Thing} : ∀ {n : Nat} {x : Int}, x ∈ thingsUpto p th n → ∃ i : Nat, x = i ∧ i < n ∧ ∃ t, th[i]? = some t ∧ p i t = true
  | 0, x, h => by cases h
  | n + 1, x, h => by
    rw [thingsUpto, List.mem_append] at h
    rcases h with h | h
    · obtain ⟨i, h1, h2, h3⟩ := thingsUpto_mem h
      exact ⟨i, h1, by omega, h3⟩
    · split at h
      · rename_i t ht
        split at h
        · rename_i hp
          simp only [List.mem_singleton] at h
          exact ⟨n, h, by omega, t, ht, hp⟩
        · cases h
      · cases h
def PredT (g : Nat) (lb : Array Value) (p : Nat → Thing → Bool) (th : List Thing) (w : World) : Prop :=
  ∀ (W : World) (i : Nat) (t : Thing), th[i]? = some t → Ext w W → Calls Try.prog g (#[.int .i64 i, .agg #[.int .i64 t.of, .int .i64 t.at_, .int .i64 t.cost, .int .i64 t.prints]] ++ lb) W fun e w' => e = .returned (.bool (p i t)) ∧ Ext W w'

set_option maxHeartbeats 1000000 in
theorem things7 (g : Nat) (lb : Array Value) (p : Nat → Thing → Bool) (hb : Nat) (th : List Thing) (mk : List Mark) (change : Int) (s : List Int) (w : World) (eg : Enters Try.prog g) (h8 : th.length ≤ 8)
    (hH : IsHouse w hb th mk change s) (hp : PredT g lb p th w) :
    Calls Try.prog 56 #[.pointer (some ⟨hb, 0, none⟩), .func (.func g) #[] lb] w
      fun e w' => ∃ D cd, e = .returned (.slice D (thingsUpto p th th.length).length cd) ∧ RdI w' D (thingsUpto p th th.length) ∧ Ext w w' := by
  obtain ⟨⟨A, B, cm, ck, b, h1, hA, hB, h4⟩, h5⟩ := hH
  have hh0 : w.cell? ⟨hb, 0, none⟩ = some (.slice A th.length cm) := blk_at h1 0 (house_0 _ _ _ _ _ _ _ _ _)
  have HA := Lib.hid hA
  have HP := Lib.hid hp
  clear hA hB hp h1 h4 h5
  unfold Enters at eg
  obtain ⟨i0, hi, hz0, hz1, hz2⟩ := info_parts info_int
  go_enter Try.func56, Try.ntmps56
  go_wp2_with fail
  go_loopg [4, 13] th.length (fun g v i wr => ∃ k : Nat, k + g = th.length ∧ i = .int .i64 k ∧ OwnI wr w.heap.size v (thingsUpto p th k) ∧ Ext w wr)
  case atStart => exact ⟨0, by omega, rfl, own_none _ _ _ _, Ext.refl _⟩
  case round =>
    obtain ⟨k, hk, rfl, hown, hE⟩ := hrel
    by_cases hlt : k < th.length
    · have hx : th[k]? = some th[k] := List.getElem?_eq_getElem hlt
      generalize th[k] = y at hx
      obtain ⟨bb, oo, rfl⟩ := HA.out.base (by omega)
      obtain ⟨f0, f1, f2, f3⟩ := (HA.out.ext hE).at hx
      have hc := HP.out wr.drew k y hx
      clear hc
      have HX := Lib.hid hx
      have HK := Lib.hid hk
      have HO := Lib.hid hown
      have hnext : thingsUpto p th (k + 1) = thingsUpto p th k ++ (if p k y = true then [(k : Int)] else []) := by rw [thingsUpto, hx]
      have HN := Lib.hid hnext
      clear hx hk hown hnext
      obtain ⟨of, at_, cost, prints⟩ := y
      dsimp only at f0 f1 f2 f3
      go_wp2_with fail
      obtain ⟨w4, lb4, e1, e2, hE4, hblk⟩ := new_block wr #[.int .i64 of, .int .i64 at_, .int .i64 cost, .int .i64 prints] 37
      rw [e1]
      clear e1 e2 hblk f0 f1 f2 f3
      refine (HP.out w4 k _ HX.out (hE.trans hE4)).mono ?_
      cases q : p k ⟨of, at_, cost, prints⟩
      · have HQ := Lib.hid q
        clear q
        rintro e w5 ⟨rfl, hE5⟩
        go_wp2_with fail
        go_roundg (gk - 1)
        case measure => have := HK.out; omega
        case rel => exact ⟨k + 1, by have := HK.out; omega, by go_num, by rw [HN.out, HQ.out]; simpa using own_later HO.out (hE4.trans hE5), hE.trans (hE4.trans hE5)⟩
      · have HQ := Lib.hid q
        clear q
        rintro e w5 ⟨rfl, hE5⟩
        have hO5 : w5.ownsRow w.heap.size 3 1 _ (thingsUpto p th k).length ((thingsUpto p th k).map (Value.int .i64)) := own_later HO.out (hE4.trans hE5)
        have hE6 : Ext w w5 := hE.trans (hE4.trans hE5)
        have hsz := hE6.size
        have hlen := thingsUpto_length p th k
        have b1 : (thingsUpto p th k).length + 1 ≤ maxLen := by unfold maxLen; omega
        have b2 : ((thingsUpto p th k).length + 1) * 8 ≤ 140737488355328 := by omega
        go_wp2_with (at_builtin; refine wpList_append_own _ rfl _ _ 26 rfl w.heap.size 3 i0 (.int .i64 0) 1 8 Try.underlying26 hi hz0 hz1 hz2 rfl (by decide) _ _ _ rfl (hO5.alloc _) ⟨w5.heap.size, 0, none⟩ 1 1 [.int .i64 k] rfl rfl (cell_one_new _ _ _) (by simp [Value.oneCell']) b1 b2 (by rw [World.size_alloc]; omega) ?_; intro v2 w6 hown2 hgrow _)
        go_roundg (gk - 1)
        case measure => have := HK.out; omega
        case rel => exact ⟨k + 1, by have := HK.out; omega, by go_num, by rw [HN.out, HQ.out]; exact OwnI.snoc hown2, own_ext hE6 hO5 _ hgrow⟩
    · obtain rfl : k = th.length := by omega
      obtain ⟨D, cd, rfl, hD⟩ := hown.reads
      have HD := Lib.hid hD
      clear hk hlt hD
      go_wp2_with fail
      go_ret
      exact ⟨D, cd, rfl, HD.out, hE⟩

theorem enters_time1 : Enters Try.prog 57 := enters_of Try.func57 (by kernel_rfl) rfl

def printsAt (minute : Int) (_ : Nat) (t : Thing) : Bool := (t.prints == 1) && decide (t.at_ ≤ minute)

set_option maxHeartbeats 1000000 in
theorem time1_7 (hb pb mb : Nat) (th : List Thing) (mk : List Mark) (change : Int) (s : List Int) (i : Nat) (t : Thing) (minute : Int) (w : World) (h8 : th.length ≤ 8) (hH : IsHouse w hb th mk change s)
    (hp : w.cell? ⟨pb, 0, none⟩ = some (.pointer (some ⟨hb, 0, none⟩))) (hq : w.cell? ⟨mb, 0, none⟩ = some (.int .i64 minute)) (hx : th[i]? = some t) :
    Calls Try.prog 57 #[.int .i64 i, .agg #[.int .i64 t.of, .int .i64 t.at_, .int .i64 t.cost, .int .i64 t.prints], .pointer (some ⟨pb, 0, none⟩), .pointer (some ⟨mb, 0, none⟩)] w fun e w' => e = .returned (.bool (printsAt minute i t)) ∧ Ext w w' := by
  have hm : (th.length : Int) ≤ 9223372036854775807 := by omega
  have hpr : ∀ b : Bool, (t.prints == 1) = b → printsAt minute i t = (b && decide (t.at_ ≤ minute)) := fun b h => by rw [printsAt, h]
  have HPR := Lib.hid hpr
  have HH := Lib.hid hH
  have HX := Lib.hid hx
  clear hpr hH hx
  cases q : (t.prints == 1)
  · have HQ := Lib.hid (HPR.out _ q)
    go_enter Try.func57, Try.ntmps57
    go_wp2_with fail
    go_ret
    exact ⟨ret_bool (by rw [HQ.out]; rfl), Ext.alloc _ _⟩
  · have HQ := Lib.hid (HPR.out _ q)
    go_enter Try.func57, Try.ntmps57
    go_wp2_with (go_at_call 58; obtain ⟨⟨A, B, cm, ck, b, h1, hA, _⟩, _⟩ := HH.out; refine (there7 hb A th cm i t minute _ hm ((Ext.alloc _ _).cell (blk_at h1 0 (house_0 _ _ _ _ _ _ _ _ _))) (hA.ext (Ext.alloc _ _)) HX.out).mono ?_; rintro e w' ⟨rfl, rfl⟩)
    go_ret
    exact ⟨ret_bool (by rw [HQ.out]; rfl), Ext.alloc _ _⟩
end Go.Proofs.Ytloenmikkkklhaa

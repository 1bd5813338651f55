/-
  The references of the layers 'metal' and 'changes': small functions.
-/
import Derived.Test.YtloenmikkkklhaaC9
import Derived.Test.YtloenmikkkklhaaP2
namespace Go.Proofs.Ytloenmikkkklhaa
open Go.RowKit

set_option maxHeartbeats 400000 in
theorem withinA (n a b : Int) (w : World) :
    Calls Try.prog 7 #[.int .i64 n, .int .i64 a, .int .i64 b] w fun e w' => e = .returned (.bool (inB n a b)) ∧ w = w' := by
  go_enter Try.func7, Try.ntmps7
  go_wp2
  all_goals go_ret
  · exact ⟨ret_bool (by simp [inB, *]), rfl⟩
  · exact ⟨ret_bool (by simp [inB]; omega), rfl⟩
set_option maxHeartbeats 400000 in
theorem within_7 (n a b : Int) (w : World) :
    Calls Try.prog 24 #[.int .i64 n, .int .i64 a, .int .i64 b] w fun e w' => e = .returned (.bool (inB n a b)) ∧ w = w' := by
  go_enter Try.func24, Try.ntmps24
  go_wp2_with (go_at_call 7; refine (withinA _ _ _ _).mono ?_; rintro e w' ⟨rfl, rfl⟩)
  go_ret
  exact ⟨rfl, rfl⟩
set_option maxHeartbeats 400000 in
theorem within_6 (n a b : Int) (w : World) :
    Calls Try.prog 35 #[.int .i64 n, .int .i64 a, .int .i64 b] w fun e w' => e = .returned (.bool (inB n a b)) ∧ w = w' := by
  go_enter Try.func35, Try.ntmps35
  go_wp2_with (go_at_call 7; refine (withinA _ _ _ _).mono ?_; rintro e w' ⟨rfl, rfl⟩)
  go_ret
  exact ⟨rfl, rfl⟩
set_option maxHeartbeats 400000 in
theorem isChangeR (n : Int) (w : World) :
    Calls Try.prog 6 #[.int .i64 n] w fun e w' => e = .returned (.bool (inB n 0 2)) ∧ w = w' := by
  go_enter Try.func6, Try.ntmps6
  go_wp2_with (go_at_call 24; refine (within_7 _ _ _ _).mono ?_; rintro e w' ⟨rfl, rfl⟩)
  go_ret
  exact ⟨rfl, rfl⟩
set_option maxHeartbeats 400000 in
theorem isMinuteR (n : Int) (w : World) :
    Calls Try.prog 11 #[.int .i64 n] w fun e w' => e = .returned (.bool (inB n 0 99)) ∧ w = w' := by
  go_enter Try.func11, Try.ntmps11
  go_wp2_with (go_at_call 24; refine (within_7 _ _ _ _).mono ?_; rintro e w' ⟨rfl, rfl⟩)
  go_ret
  exact ⟨rfl, rfl⟩
set_option maxHeartbeats 400000 in
theorem isThingR (A B : Option Addr) (m cm k ck : Nat) (n : Int) (w : World) (hm : (m : Int) ≤ 9223372036854775807) :
    Calls Try.prog 53 #[.agg #[.slice A m cm, .slice B k ck], .int .i64 n] w fun e w' => e = .returned (.bool (inB n 0 (m - 1))) ∧ Ext w w' := by
  go_enter Try.func53, Try.ntmps53
  go_wp2_with (go_at_call 24; refine (within_7 _ _ _ _).mono ?_; rintro e w' ⟨rfl, rfl⟩)
  go_ret
  exact ⟨rfl, Ext.alloc _ _⟩
set_option maxHeartbeats 400000 in
theorem farR (A B : Option Addr) (m cm k ck : Nat) (w : World) :
    Calls Try.prog 4 #[.agg #[.slice A m cm, .slice B k ck]] w fun e w' => e = .returned (.bool (decide (40 < m) || decide (40 < k))) ∧ Ext w w' := by
  by_cases h1 : 40 < m
  · have h1' : (40 : Int) < m := by omega
    go_enter Try.func4, Try.ntmps4
    go_wp2_with fail
    go_ret
    exact ⟨ret_bool (by simp [h1]), Ext.alloc _ _⟩
  · have h1' : ¬ (40 : Int) < m := by omega
    go_enter Try.func4, Try.ntmps4
    go_wp2_with fail
    all_goals go_ret
    all_goals exact ⟨ret_bool (by simp; omega), Ext.alloc _ _⟩

set_option maxHeartbeats 1000000 in
theorem isMarkR (A B : Option Addr) (th : List Thing) (cm kk ck : Nat) (x : Mark) (w : World) (hm : (th.length : Int) ≤ 9223372036854775807) (hA : RdT w A th) :
    Calls Try.prog 25 #[.agg #[.slice A th.length cm, .slice B kk ck], .agg #[.int .i64 x.change, .int .i64 x.thing, .int .i64 x.at_]] w fun e w' => e = .returned (.bool (okMark th x)) ∧ Ext w w' := by
  obtain ⟨c, t, at_⟩ := x
  unfold okMark
  cases hc : inB c 0 2
  · have Q1 : Hid (∀ W, Calls Try.prog 6 #[.int .i64 c] W fun e w' => e = .returned (.bool false) ∧ W = w') := Lib.hid fun W => by
      have h := isChangeR c W
      rwa [hc] at h
    clear hA
    go_enter Try.func25, Try.ntmps25
    go_upto_region 1 with fail
    obtain ⟨w0, p0, e1, e2, hE0, hb⟩ := new_block w #[.slice A th.length cm, .slice B kk ck] 25
    have e3 : w.heap.size + 1 = w0.heap.size := by rw [← e1]; simp
    rw [e3, e1, e2]
    clear e1 e2 e3
    obtain ⟨w1, p1, e1, e2, hE1', hb2⟩ := new_block w0 #[.int .i64 c, .int .i64 t, .int .i64 at_] 68
    rw [e1, e2]
    clear e1 e2
    have c0 := hE1'.cell (blk_at hb 0 rfl)
    have c1 := hE1'.cell (blk_at hb 1 rfl)
    have d0 := blk_at hb2 0 rfl
    have d1 := blk_at hb2 1 rfl
    have d2 := blk_at hb2 2 rfl
    have hE1 := hE0.trans hE1'
    clear hb hb2
    refine wp_region_ext (by kernel_rfl) (by kernel_rfl) ?_
    repeat (go_big_quiet_step ((first | (go_at_call 6; exact Calls.inXsame _ (Q1.out _)) | (go_at_call 53; exact Calls.inX _ (Q2.out _)) | (go_at_call 24; exact Calls.inXsame _ (within_7 _ _ _ _)))))
    refine wpQuiet_nil ?_
    rintro _ ⟨x, rfl⟩
    go_wp2
    go_ret
    exact ⟨rfl, hE1.trans x.ext⟩
  have Q1 : Hid (∀ W, Calls Try.prog 6 #[.int .i64 c] W fun e w' => e = .returned (.bool true) ∧ W = w') := Lib.hid fun W => by
    have h := isChangeR c W
    rwa [hc] at h
  cases ht : inB t 0 ((th.length : Int) - 1)
  · have Q2 : Hid (∀ W, Calls Try.prog 53 #[.agg #[.slice A th.length cm, .slice B kk ck], .int .i64 t] W fun e w' => e = .returned (.bool false) ∧ Ext W w') := Lib.hid fun W => by
      have h := isThingR A B th.length cm kk ck t W hm
      rwa [ht] at h
    clear hA
    go_enter Try.func25, Try.ntmps25
    go_upto_region 1 with fail
    obtain ⟨w0, p0, e1, e2, hE0, hb⟩ := new_block w #[.slice A th.length cm, .slice B kk ck] 25
    have e3 : w.heap.size + 1 = w0.heap.size := by rw [← e1]; simp
    rw [e3, e1, e2]
    clear e1 e2 e3
    obtain ⟨w1, p1, e1, e2, hE1', hb2⟩ := new_block w0 #[.int .i64 c, .int .i64 t, .int .i64 at_] 68
    rw [e1, e2]
    clear e1 e2
    have c0 := hE1'.cell (blk_at hb 0 rfl)
    have c1 := hE1'.cell (blk_at hb 1 rfl)
    have d0 := blk_at hb2 0 rfl
    have d1 := blk_at hb2 1 rfl
    have d2 := blk_at hb2 2 rfl
    have hE1 := hE0.trans hE1'
    clear hb hb2
    refine wp_region_ext (by kernel_rfl) (by kernel_rfl) ?_
    repeat (go_big_quiet_step ((first | (go_at_call 6; exact Calls.inXsame _ (Q1.out _)) | (go_at_call 53; exact Calls.inX _ (Q2.out _)) | (go_at_call 24; exact Calls.inXsame _ (within_7 _ _ _ _)))))
    refine wpQuiet_nil ?_
    rintro _ ⟨x, rfl⟩
    go_wp2
    go_ret
    exact ⟨rfl, hE1.trans x.ext⟩
  · have Q2 : Hid (∀ W, Calls Try.prog 53 #[.agg #[.slice A th.length cm, .slice B kk ck], .int .i64 t] W fun e w' => e = .returned (.bool true) ∧ Ext W w') := Lib.hid fun W => by
      have h := isThingR A B th.length cm kk ck t W hm
      rwa [ht] at h
    obtain ⟨hn, hn1⟩ := inB_iff.1 ht
    obtain ⟨k, rfl⟩ := Int.eq_ofNat_of_zero_le hn
    have hk : k < th.length := by omega
    have hx : th[k]? = some th[k] := List.getElem?_eq_getElem hk
    have hat : thAt th (k : Int) = th[k].at_ := by simp [thAt, hx]
    obtain ⟨b, o, rfl, _, f1, _, _⟩ := hA.get hx
    rw [← hat] at f1
    have F1 := Lib.hid f1
    clear hA hat hx f1
    have hn2 : (k : Int) < th.length := by omega
    go_enter Try.func25, Try.ntmps25
    go_upto_region 1 with fail
    obtain ⟨w0, p0, e1, e2, hE0, hb⟩ := new_block w #[.slice (some ⟨b, o, none⟩) th.length cm, .slice B kk ck] 25
    have e3 : w.heap.size + 1 = w0.heap.size := by rw [← e1]; simp
    rw [e3, e1, e2]
    clear e1 e2 e3
    obtain ⟨w1, p1, e1, e2, hE1', hb2⟩ := new_block w0 #[.int .i64 c, .int .i64 k, .int .i64 at_] 68
    rw [e1, e2]
    clear e1 e2
    have c0 := hE1'.cell (blk_at hb 0 rfl)
    have c1 := hE1'.cell (blk_at hb 1 rfl)
    have d0 := blk_at hb2 0 rfl
    have d1 := blk_at hb2 1 rfl
    have d2 := blk_at hb2 2 rfl
    have hE1 := hE0.trans hE1'
    clear hb hb2
    have f2 := hE1.cell F1.out
    refine wp_region_ext (by kernel_rfl) (by kernel_rfl) ?_
    repeat (go_big_quiet_step ((first | (go_at_call 6; exact Calls.inXsame _ (Q1.out _)) | (go_at_call 53; exact Calls.inX _ (Q2.out _)) | (go_at_call 24; exact Calls.inXsame _ (within_7 _ _ _ _)))))
    refine wpQuiet_nil ?_
    rintro _ ⟨x, rfl⟩
    go_wp2
    go_ret
    exact ⟨rfl, hE1.trans x.ext⟩

set_option maxHeartbeats 1000000 in
theorem inR (A : Option Addr) (c : Nat) (l : List Int) (n : Int) (w : World) (hA : RdI w A l) (hm : (l.length : Int) ≤ 9223372036854775807) :
    Calls Try.prog 15 #[.slice A l.length c, .int .i64 n] w fun e w' => e = .returned (.bool (l.any (· == n))) ∧ w = w' := by
  have HA := Lib.hid hA
  clear hA
  go_enter Try.func15, Try.ntmps15
  go_upto_region 2 with fail
  go_loopg [5] l.length (fun g i wr => ∃ k : Nat, k + g = l.length ∧ i = .int .i64 k ∧ w = wr ∧ (l.take k).any (· == n) = false)
  case atStart => exact ⟨0, by omega, rfl, rfl, by simp⟩
  case round =>
    obtain ⟨k, hk, rfl, rfl, hn⟩ := hrel
    have HK := Lib.hid hk
    have HN := Lib.hid hn
    by_cases hlt : k < l.length
    · clear hk hn
      have hx : l[k]? = some l[k] := List.getElem?_eq_getElem hlt
      have hmem : l[k] ∈ l := List.getElem_mem hlt
      have hnext : (l.take (k + 1)).any (· == n) = (l[k] == n) := by rw [List.take_add_one, hx, List.any_append, HN.out]; simp
      generalize l[k] = y at hx hmem hnext
      obtain ⟨b, o, rfl, f0⟩ := HA.out.get hx
      have HX := Lib.hid hnext
      have hki : (k : Int) < l.length := by omega
      clear hx hnext
      cases hy : y == n
      · have HY := Lib.hid hy
        go_wp2_with fail
        go_roundg (gk - 1)
        case measure => have := HK.out; omega
        case rel => exact ⟨k + 1, by have := HK.out; omega, by go_num, rfl, by rw [HX.out, HY.out]⟩
      · have HY := Lib.hid hy
        have HMEM := Lib.hid hmem
        go_wp2_with fail
        go_ret
        exact ⟨ret_bool (List.any_eq_true.2 ⟨y, HMEM.out, HY.out⟩).symm, rfl⟩
    · obtain rfl : k = l.length := by omega
      clear hk hn
      go_wp2_with fail
      go_ret
      exact ⟨ret_bool (by rw [← HN.out, List.take_length]), rfl⟩
end Go.Proofs.Ytloenmikkkklhaa

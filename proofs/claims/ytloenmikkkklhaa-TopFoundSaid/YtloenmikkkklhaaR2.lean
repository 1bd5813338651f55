/-
  The reference's check of a house; which lists are plates.
-/
import Derived.Test.YtloenmikkkklhaaR1
namespace Go.Proofs.Ytloenmikkkklhaa
open Go.RowKit

theorem isMarkb {P : Program} {f : FuncId} {args : Array Value} {w : World} {b c : Bool} (h : Calls P f args w fun e w' => e = .returned (.bool b) ∧ Ext w w') (hb : b = c) : Calls P f args w fun e w' => e = .returned (.bool c) ∧ Ext w w' := hb ▸ h
/-- An answer OK or an error, OK only if something is so. -/
def AnsE (n : Int) (p : Prop) (e : Ending) : Prop := ∃ b : Bool, e = .returned (.int .i64 (errOf b n)) ∧ (b = true → p)

theorem within_7b {n a b : Int} {r : Bool} (h : inB n a b = r) (w : World) : Calls Try.prog 24 #[.int .i64 n, .int .i64 a, .int .i64 b] w fun e w' => e = .returned (.bool r) ∧ w = w' := h ▸ within_7 n a b w
theorem withinAb {n a b : Int} {r : Bool} (h : inB n a b = r) (w : World) : Calls Try.prog 7 #[.int .i64 n, .int .i64 a, .int .i64 b] w fun e w' => e = .returned (.bool r) ∧ w = w' := h ▸ withinA n a b w
theorem within_6b {n a b : Int} {r : Bool} (h : inB n a b = r) (w : World) : Calls Try.prog 35 #[.int .i64 n, .int .i64 a, .int .i64 b] w fun e w' => e = .returned (.bool r) ∧ w = w' := h ▸ within_6 n a b w
theorem isMinuteb {n : Int} {r : Bool} (h : inB n 0 99 = r) (w : World) : Calls Try.prog 11 #[.int .i64 n] w fun e w' => e = .returned (.bool r) ∧ w = w' := h ▸ isMinuteR n w

attribute [local irreducible] inB in
set_option maxRecDepth 100000 in
set_option maxHeartbeats 40000000 in
theorem refCheck7 (A B : Option Addr) (th : List Thing) (mk : List Mark) (cm ck : Nat) (w : World) (hm : (th.length : Int) ≤ 9223372036854775807) (hm2 : (mk.length : Int) ≤ 9223372036854775807)
    (hA : RdT w A th) (hB : RdM w B mk) :
    Calls Try.prog 5 #[.agg #[.slice A th.length cm, .slice B mk.length ck]] w
      fun e w' => AnsE 70 (chkHouse th mk = true) e ∧ Ext w w' := by
  have HA := Lib.hid hA
  have HB := Lib.hid hB
  clear hA hB
  by_cases q1 : 8 < th.length
  · have q1' : (8 : Int) < th.length := by omega
    go_enter Try.func5, Try.ntmps5
    go_wp2_with fail
    go_ret
    exact ⟨⟨false, rfl, (fun h => by cases h)⟩, Ext.alloc _ _⟩
  by_cases q2 : 6 < mk.length
  · have q1' : ¬ (8 : Int) < th.length := by omega
    have q2' : (6 : Int) < mk.length := by omega
    go_enter Try.func5, Try.ntmps5
    go_wp2_with fail
    go_ret
    exact ⟨⟨false, rfl, (fun h => by cases h)⟩, Ext.alloc _ _⟩
  have q1' : ¬ (8 : Int) < th.length := by omega
  have q2' : ¬ (6 : Int) < mk.length := by omega
  go_enter Try.func5, Try.ntmps5
  go_upto_region 1 with fail
  obtain ⟨w1, hb, e1, e2, hEw, hblk⟩ := new_block w #[.slice A th.length cm, .slice B mk.length ck] 25
  rw [e1, e2]
  clear e1 e2
  have hh0 : w1.cell? ⟨hb, 0, none⟩ = some (.slice A th.length cm) := blk_at hblk 0 rfl
  have hh1 : w1.cell? ⟨hb, 1, none⟩ = some (.slice B mk.length ck) := blk_at hblk 1 rfl
  have H0 := Lib.hid hh0
  have H1 := Lib.hid hh1
  clear hblk
  go_upto_region 4 with fail
  clear hh0 hh1
  go_loopg [3] th.length (fun g i wr => ∃ k : Nat, k + g = th.length ∧ i = .int .i64 k ∧ Ext w1 wr ∧ okThings th k = true)
  case atStart => exact ⟨0, by omega, rfl, Ext.refl _, rfl⟩
  case round =>
    obtain ⟨k, hk, rfl, hE, hok⟩ := hrel
    have HK := Lib.hid hk
    have HOK := Lib.hid hok
    have g0 := hE.cell H0.out
    by_cases hlt : k < th.length
    · clear hk hok
      have hx : th[k]? = some th[k] := List.getElem?_eq_getElem hlt
      have hki : (k : Int) < th.length := by omega
      generalize th[k] = y at hx
      obtain ⟨bb, oo, hAe⟩ := HA.out.base (by omega)
      subst hAe
      obtain ⟨f0, f1, f2, f3⟩ := (HA.out.ext (hEw.trans hE)).at hx
      obtain ⟨of, at_, cost, prints⟩ := y
      dsimp only at f0 f1 f2 f3
      have hstep : okThings th (k + 1) = okThing th k ⟨of, at_, cost, prints⟩ := by simp [okThings, hx, HOK.out]
      have HST := Lib.hid hstep
      clear hx hstep
      go_upto_region 7 with fail
      obtain ⟨wl, lb, e1, e2, hEl, lblk⟩ := new_block wr #[.int .i64 of, .int .i64 at_, .int .i64 cost, .int .i64 prints] 37
      rw [e1, e2]
      clear e1 e2
      have l0 : wl.cell? ⟨lb, 0, none⟩ = some (.int .i64 of) := blk_at lblk 0 rfl
      have l1 : wl.cell? ⟨lb, 1, none⟩ = some (.int .i64 at_) := blk_at lblk 1 rfl
      have l2 : wl.cell? ⟨lb, 2, none⟩ = some (.int .i64 cost) := blk_at lblk 2 rfl
      have l3 : wl.cell? ⟨lb, 3, none⟩ = some (.int .i64 prints) := blk_at lblk 3 rfl
      have c0 := hEl.cell g0
      clear lblk
      clear f0 f1 f2 f3
      cases e1 : inB of (-1) ((k : Int) - 1)
      · have E1 := Lib.hid e1
        clear e1
        refine wp_region_ext (by kernel_rfl) (by kernel_rfl) ?_
        repeat (go_big_quiet_step ((first | (go_at_call 24; exact Calls.inXsame _ (within_7b (by first | exact E1.out) _)) | (go_at_call 11; exact Calls.inXsame _ (isMinuteb E2.out _)))))
        refine wpQuiet_nil ?_
        rintro _ ⟨x, rfl⟩
        go_wp2_with fail
        go_ret
        exact ⟨⟨false, rfl, (fun h => by cases h)⟩, hEw.trans (hE.trans (hEl.trans x.ext))⟩
      cases e2 : inB at_ 0 99
      · have E1 := Lib.hid e1
        have E2 := Lib.hid e2
        clear e1 e2
        refine wp_region_ext (by kernel_rfl) (by kernel_rfl) ?_
        repeat (go_big_quiet_step ((first | (go_at_call 24; exact Calls.inXsame _ (within_7b (by first | exact E1.out) _)) | (go_at_call 11; exact Calls.inXsame _ (isMinuteb E2.out _)))))
        refine wpQuiet_nil ?_
        rintro _ ⟨x, rfl⟩
        go_wp2_with fail
        go_ret
        exact ⟨⟨false, rfl, (fun h => by cases h)⟩, hEw.trans (hE.trans (hEl.trans x.ext))⟩
      by_cases hof : of = -1
      · subst hof
        cases e4 : inB cost 0 99
        · have E1 := Lib.hid e1
          have E2 := Lib.hid e2
          have E4 := Lib.hid e4
          clear e1 e2 e4
          refine wp_region_ext (by kernel_rfl) (by kernel_rfl) ?_
          repeat (go_big_quiet_step ((first | (go_at_call 24; exact Calls.inXsame _ (within_7b (by first | exact E1.out | exact E4.out) _)) | (go_at_call 11; exact Calls.inXsame _ (isMinuteb E2.out _)))))
          refine wpQuiet_nil ?_
          rintro _ ⟨x, rfl⟩
          go_wp2_with fail
          go_ret
          exact ⟨⟨false, rfl, (fun h => by cases h)⟩, hEw.trans (hE.trans (hEl.trans x.ext))⟩
        cases e5 : inB prints 0 1
        · have E1 := Lib.hid e1
          have E2 := Lib.hid e2
          have E4 := Lib.hid e4
          have E5 := Lib.hid e5
          clear e1 e2 e4 e5
          refine wp_region_ext (by kernel_rfl) (by kernel_rfl) ?_
          repeat (go_big_quiet_step ((first | (go_at_call 24; exact Calls.inXsame _ (within_7b (by first | exact E1.out | exact E4.out | exact E5.out) _)) | (go_at_call 11; exact Calls.inXsame _ (isMinuteb E2.out _)))))
          refine wpQuiet_nil ?_
          rintro _ ⟨x, rfl⟩
          go_wp2_with fail
          go_ret
          exact ⟨⟨false, rfl, (fun h => by cases h)⟩, hEw.trans (hE.trans (hEl.trans x.ext))⟩
        · have hgood : okThings th (k + 1) = true := by
            have e0 : inB (-1) 0 ((k : Int) - 1) = false := by simp [inB]
            rw [HST.out]; simp [okThing, okOf, fromAt, e0, e2, e4, e5]
          have HGOOD := Lib.hid hgood
          have E1 := Lib.hid e1
          have E2 := Lib.hid e2
          have E4 := Lib.hid e4
          have E5 := Lib.hid e5
          clear e1 e2 e4 e5 hgood
          refine wp_region_ext (by kernel_rfl) (by kernel_rfl) ?_
          repeat (go_big_quiet_step ((first | (go_at_call 24; exact Calls.inXsame _ (within_7b (by first | exact E1.out | exact E4.out | exact E5.out) _)) | (go_at_call 11; exact Calls.inXsame _ (isMinuteb E2.out _)))))
          refine wpQuiet_nil ?_
          rintro _ ⟨x, rfl⟩
          go_wp2_with fail
          go_roundg (gk - 1)
          case measure => have := HK.out; omega
          case rel => exact ⟨k + 1, by have := HK.out; omega, by go_num, hE.trans (hEl.trans x.ext), HGOOD.out⟩
      · have hj := inB_iff.1 e1
        obtain ⟨j, rfl⟩ : ∃ j : Nat, of = (j : Int) := ⟨of.toNat, by omega⟩
        have hjl : j < th.length := by omega
        have hji : (j : Int) < th.length := by omega
        have e3 : ((j : Int) != -1) = true := by simp
        obtain ⟨_, p1, _, _⟩ := (HA.out.ext (hEw.trans hE)).at (List.getElem?_eq_getElem hjl)
        have hq : th[j].at_ = thAt th (j : Int) := by simp [thAt, List.getElem?_eq_getElem hjl]
        rw [hq] at p1
        have P1 := Lib.hid p1
        clear hq p1 hof hj
        cases e6 : decide (at_ < thAt th (j : Int))
        · cases e4 : inB cost 0 99
          · have E1 := Lib.hid e1
            have E2 := Lib.hid e2
            have E4 := Lib.hid e4
            clear e1 e2 e4
            have c9 := hEl.cell P1.out
            refine wp_region_ext (by kernel_rfl) (by kernel_rfl) ?_
            repeat (go_big_quiet_step ((first | (go_at_call 24; exact Calls.inXsame _ (within_7b (by first | exact E1.out | exact E4.out) _)) | (go_at_call 11; exact Calls.inXsame _ (isMinuteb E2.out _)))))
            refine wpQuiet_nil ?_
            rintro _ ⟨x, rfl⟩
            go_wp2_with fail
            go_ret
            exact ⟨⟨false, rfl, (fun h => by cases h)⟩, hEw.trans (hE.trans (hEl.trans x.ext))⟩
          cases e5 : inB prints 0 1
          · have E1 := Lib.hid e1
            have E2 := Lib.hid e2
            have E4 := Lib.hid e4
            have E5 := Lib.hid e5
            clear e1 e2 e4 e5
            have c9 := hEl.cell P1.out
            refine wp_region_ext (by kernel_rfl) (by kernel_rfl) ?_
            repeat (go_big_quiet_step ((first | (go_at_call 24; exact Calls.inXsame _ (within_7b (by first | exact E1.out | exact E4.out | exact E5.out) _)) | (go_at_call 11; exact Calls.inXsame _ (isMinuteb E2.out _)))))
            refine wpQuiet_nil ?_
            rintro _ ⟨x, rfl⟩
            go_wp2_with fail
            go_ret
            exact ⟨⟨false, rfl, (fun h => by cases h)⟩, hEw.trans (hE.trans (hEl.trans x.ext))⟩
          · have hgood : okThings th (k + 1) = true := by
              have e0 : inB (j : Int) 0 ((k : Int) - 1) = true := by
                have := inB_iff.1 e1
                exact inB_iff.2 ⟨by omega, by omega⟩
              have e7 : inB at_ (thAt th (j : Int)) 99 = true := by
                have := inB_iff.1 e2
                exact inB_iff.2 ⟨by simpa using e6, by omega⟩
              rw [HST.out]; simp [okThing, okOf, fromAt, e0, e7, e4, e5]
            have HGOOD := Lib.hid hgood
            have E1 := Lib.hid e1
            have E2 := Lib.hid e2
            have E4 := Lib.hid e4
            have E5 := Lib.hid e5
            clear e1 e2 e4 e5 hgood
            have c9 := hEl.cell P1.out
            refine wp_region_ext (by kernel_rfl) (by kernel_rfl) ?_
            repeat (go_big_quiet_step ((first | (go_at_call 24; exact Calls.inXsame _ (within_7b (by first | exact E1.out | exact E4.out | exact E5.out) _)) | (go_at_call 11; exact Calls.inXsame _ (isMinuteb E2.out _)))))
            refine wpQuiet_nil ?_
            rintro _ ⟨x, rfl⟩
            go_wp2_with fail
            go_roundg (gk - 1)
            case measure => have := HK.out; omega
            case rel => exact ⟨k + 1, by have := HK.out; omega, by go_num, hE.trans (hEl.trans x.ext), HGOOD.out⟩
        · have E1 := Lib.hid e1
          have E2 := Lib.hid e2
          clear e1 e2
          have c9 := hEl.cell P1.out
          refine wp_region_ext (by kernel_rfl) (by kernel_rfl) ?_
          repeat (go_big_quiet_step ((first | (go_at_call 24; exact Calls.inXsame _ (within_7b (by first | exact E1.out) _)) | (go_at_call 11; exact Calls.inXsame _ (isMinuteb E2.out _)))))
          refine wpQuiet_nil ?_
          rintro _ ⟨x, rfl⟩
          go_wp2_with fail
          go_ret
          exact ⟨⟨false, rfl, (fun h => by cases h)⟩, hEw.trans (hE.trans (hEl.trans x.ext))⟩
    · obtain rfl : k = th.length := by omega
      clear hk hlt hok
      go_upto_region 10 with fail
      clear g0
      obtain ⟨wb, rfl⟩ : ∃ z : World, z = wr := ⟨_, rfl⟩
      go_loopg [5] mk.length (fun g i wr => ∃ k : Nat, k + g = mk.length ∧ i = .int .i64 k ∧ Ext w1 wr ∧ (mk.take k).all (okMark th) = true)
      case atStart => exact ⟨0, by omega, rfl, hE, rfl⟩
      case round =>
        clear hE
        obtain ⟨k, hk, rfl, hE, hall⟩ := hrel
        have HKM := Lib.hid hk
        have HALL := Lib.hid hall
        have g1 := hE.cell H1.out
        by_cases hlt : k < mk.length
        · clear hk hall
          have hki : (k : Int) < mk.length := by omega
          have hx : mk[k]? = some mk[k] := List.getElem?_eq_getElem hlt
          have htake : (mk.take (k + 1)).all (okMark th) = okMark th mk[k] := by rw [List.take_add_one, hx, List.all_append, HALL.out]; simp
          generalize mk[k] = y at hx htake
          obtain ⟨bb, oo, hBe⟩ := HB.out.base (by omega)
          subst hBe
          obtain ⟨f0, f1, f2⟩ := (HB.out.ext (hEw.trans hE)).at hx
          have HTK := Lib.hid htake
          have g0 := hE.cell H0.out
          have hEwr := hEw.trans hE
          clear hx htake
          cases hy : okMark th y
          · have N := Lib.hid (fun (W : World) (hW : Ext wr W) => isMarkb (isMarkR A (some ⟨bb, oo, none⟩) th cm mk.length ck y W hm (HA.out.ext (hEwr.trans hW))) hy)
            clear hy
            go_upto_region 12 with fail
            refine wp_region_ext (by kernel_rfl) (by kernel_rfl) ?_
            repeat (go_big_quiet_step ((go_at_call 25; refine Calls.inX _ (N.out _ (ExtW.ext _)))))
            refine wpQuiet_nil ?_
            rintro _ ⟨x, rfl⟩
            go_wp2_with fail
            go_ret
            exact ⟨⟨false, rfl, (fun h => by cases h)⟩, hEwr.trans x.ext⟩
          · have N := Lib.hid (fun (W : World) (hW : Ext wr W) => isMarkb (isMarkR A (some ⟨bb, oo, none⟩) th cm mk.length ck y W hm (HA.out.ext (hEwr.trans hW))) hy)
            have HY := Lib.hid hy
            clear hy
            go_upto_region 12 with fail
            refine wp_region_ext (by kernel_rfl) (by kernel_rfl) ?_
            repeat (go_big_quiet_step ((go_at_call 25; refine Calls.inX _ (N.out _ (ExtW.ext _)))))
            refine wpQuiet_nil ?_
            rintro _ ⟨x, rfl⟩
            go_wp2_with fail
            go_roundg (gk - 1)
            case measure => have := HKM.out; omega
            case rel => exact ⟨k + 1, by have := HKM.out; omega, by go_num, hE.trans x.ext, by rw [HTK.out]; exact HY.out⟩
        · obtain rfl : k = mk.length := by omega
          have hgood : chkHouse th mk = true := by
            rw [List.take_length] at hall
            simp only [chkHouse, HOK.out, hall, Bool.and_true, Bool.and_eq_true, decide_eq_true_eq]
            omega
          have HGOOD := Lib.hid hgood
          clear hk hlt hall hgood
          go_wp2_with fail
          go_ret
          exact ⟨⟨true, rfl, fun _ => HGOOD.out⟩, hEw.trans hE⟩
end Go.Proofs.Ytloenmikkkklhaa

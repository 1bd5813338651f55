/-
  The layer 'changes': Check and open.
-/
import Derived.Test.YtloenmikkkklhaaC1
import Derived.Test.YtloenmikkkklhaaF1
namespace Go.Proofs.Ytloenmikkkklhaa
open Go.RowKit

set_option maxHeartbeats 1000000 in
theorem indexMark7 (hb ho : Nat) (A B : Option Addr) (th : List Thing) (mk : List Mark) (cm ck : Nat) (w : World) (hm : (th.length : Int) ≤ 9223372036854775807) (hm2 : (mk.length : Int) ≤ 9223372036854775807)
    (h0 : w.cell? ⟨hb, ho, none⟩ = some (.slice A th.length cm)) (h1 : w.cell? ⟨hb, ho + 1, none⟩ = some (.slice B mk.length ck)) (hA : RdT w A th) (hB : RdM w B mk) :
    Calls Try.prog 81 #[.slice B mk.length ck, .func (.func 75) #[] #[.pointer (some ⟨hb, ho, none⟩)]] w
      fun e w' => e = .returned (.int .i64 (idxOf (fun x => !okMark th x) mk)) ∧ Ext w w' := by
  go_enter Try.func81, Try.ntmps81
  go_wp2_with fail
  go_loopw [8] (fun i wr => ∃ k : Nat, k ≤ mk.length ∧ Hid (∀ (j : Nat) (y : Mark), j < k → mk[j]? = some y → (!okMark th y) = false) ∧ i = .int .i64 k ∧ Ext w wr) (fun i _ => mk.length - (intOf i).toNat)
  case atStart => exact ⟨0, Nat.zero_le _, fun _ _ h => by omega, rfl, Ext.refl _⟩
  case round =>
    obtain ⟨k, hk, hn, rfl, hE⟩ := hrel
    by_cases hlt : k < mk.length
    · have hx : mk[k]? = some mk[k] := List.getElem?_eq_getElem hlt
      generalize mk[k] = y at hx
      obtain ⟨bb, oo, rfl, f0, f1, f2⟩ := (hB.ext hE).get hx
      have hx' := Lib.hid hx
      clear hx
      have H0 := Lib.hid h0
      have H1 := Lib.hid h1
      clear h0 h1
      cases hp : (!okMark th y)
      all_goals
        have Hp := Lib.hid hp
        go_wp2_with ((refine (check7_mark hb ho A _ th mk cm ck y _ hm (hE.cell H0.out) (hE.cell H1.out) (hA.ext hE)).mono ?_); rw [Hp.out]; rintro e w' ⟨rfl, hE'⟩)
      · go_roundw
        case rel =>
          refine ⟨k + 1, by omega, fun j z hj hz => ?_, by go_num, hE.trans hE'⟩
          by_cases hjk : j = k
          · subst hjk
            rw [hx'.out] at hz
            cases hz
            exact hp
          · exact hn.out j z (by omega) hz
        case measure => simp [intOf]; omega
      · go_ret
        exact ⟨ret_int (idxOf_here hx'.out hp hn.out).symm, hE.trans hE'⟩
    · go_wp2_with fail
      go_ret
      have : k = mk.length := by omega
      subst this
      exact ⟨ret_int (idxOf_none hn.out).symm, hE⟩

set_option maxHeartbeats 400000 in
theorem containsMark7 (hb ho : Nat) (A B : Option Addr) (th : List Thing) (mk : List Mark) (cm ck : Nat) (w : World) (hm : (th.length : Int) ≤ 9223372036854775807) (hm2 : (mk.length : Int) ≤ 9223372036854775807)
    (h0 : w.cell? ⟨hb, ho, none⟩ = some (.slice A th.length cm)) (h1 : w.cell? ⟨hb, ho + 1, none⟩ = some (.slice B mk.length ck)) (hA : RdT w A th) (hB : RdM w B mk) :
    Calls Try.prog 74 #[.slice B mk.length ck, .func (.func 75) #[] #[.pointer (some ⟨hb, ho, none⟩)]] w
      fun e w' => e = .returned (.bool (mk.any fun x => !okMark th x)) ∧ Ext w w' := by
  go_enter Try.func74, Try.ntmps74
  go_wp2_with (go_at_call 81; refine (indexMark7 hb ho A B th mk cm ck _ hm hm2 h0 h1 hA hB).mono ?_; rintro e w' ⟨rfl, hE⟩)
  go_ret
  exact ⟨ret_bool (idxOf_any _ _), hE⟩

set_option maxHeartbeats 2000000 in
theorem check7 (A B : Option Addr) (th : List Thing) (mk : List Mark) (cm ck : Nat) (w : World) (hm : (th.length : Int) ≤ 9223372036854775807) (hm2 : (mk.length : Int) ≤ 9223372036854775807)
    (hA : RdT w A th) (hB : RdM w B mk) :
    Calls Try.prog 59 #[.agg #[.slice A th.length cm, .slice B mk.length ck]] w
      fun e w' => e = .returned (.int .i64 (errOf (chkHouse th mk) 70)) ∧ Ext w w' := by
  by_cases g1 : 8 < th.length
  · have g1' : (8 : Int) < th.length := by omega
    have hq : chkHouse th mk = false := by simp [chkHouse]; omega
    rw [hq]
    go_enter Try.func59, Try.ntmps59
    go_wp2_with fail
    go_ret
    exact ⟨rfl, Ext.alloc _ _⟩
  by_cases g2 : 6 < mk.length
  · have g2' : (6 : Int) < mk.length := by omega
    have hq : chkHouse th mk = false := by simp [chkHouse]; omega
    rw [hq]
    go_enter Try.func59, Try.ntmps59
    go_wp2_with fail
    go_ret
    exact ⟨rfl, Ext.alloc _ _⟩
  go_enter Try.func59, Try.ntmps59
  go_wp2_with fail
  obtain ⟨w1, hb, e1, e2, hE0, hblk⟩ := new_block w #[.slice A th.length cm, .slice B mk.length ck] 25
  rw [e1, e2]
  clear e1 e2
  have hh0 : w1.cell? ⟨hb, 0, none⟩ = some (.slice A th.length cm) := blk_at hblk 0 rfl
  have hh1 : w1.cell? ⟨hb, 1, none⟩ = some (.slice B mk.length ck) := blk_at hblk 1 rfl
  clear hblk
  replace hA := hA.ext hE0
  replace hB := hB.ext hE0
  go_loopw [19] (fun i wr => ∃ k : Nat, k ≤ th.length ∧ Hid (okThings th k = true) ∧ i = .int .i64 k ∧ Ext w1 wr) (fun i _ => th.length - (intOf i).toNat)
  case atStart => exact ⟨0, Nat.zero_le _, rfl, rfl, Ext.refl _⟩
  case round =>
    obtain ⟨k, hk, hok, rfl, hE⟩ := hrel
    by_cases hlt : k < th.length
    · have hx : th[k]? = some th[k] := List.getElem?_eq_getElem hlt
      generalize th[k] = y at hx
      obtain ⟨bb, oo, rfl⟩ := hA.base (by omega)
      obtain ⟨f0, f1, f2, f3⟩ := (hA.ext hE).at hx
      have g0 := hE.cell hh0
      have g1 := hE.cell hh1
      obtain ⟨of, at_, cost, prints⟩ := y
      dsimp only at f0 f1 f2 f3
      have hx' := Lib.hid hx
      have HA := Lib.hid hA
      have HB := Lib.hid hB
      have H0 := Lib.hid hh0
      have H1 := Lib.hid hh1
      clear hx hA hB hh0 hh1
      have hstep : okThings th (k + 1) = okThing th k ⟨of, at_, cost, prints⟩ := by simp [okThings, hx'.out, hok.out]
      have hbad : okThing th k ⟨of, at_, cost, prints⟩ = false → chkHouse th mk = false := fun h => by
        cases hq : okThings th th.length
        · simp [chkHouse, hq]
        · rw [okThings_lt hq hlt hx'.out] at h; cases h
      have hbad' := Lib.hid hbad
      have hstep' := Lib.hid hstep
      clear hbad hstep
      cases e1 : inB of 0 ((k : Int) - 1)
      · cases e2 : (of == -1)
        · have e2' : (of != -1) = true := by simpa using e2
          clear e2
          go_wp2_with (go_at_call 60; refine (within7 _ _ _ _).mono ?_; rintro e w' ⟨rfl, rfl⟩)
          all_goals go_ret
          all_goals exact ⟨ret_int (by rw [hbad'.out (by simp [okThing, okOf, fromAt, e1]; intro h; exact absurd h (by simpa using e2'))]; rfl), hE0.trans (hE.trans (Ext.alloc _ _))⟩
        · have e2' : (of != -1) = false := by simpa using e2
          cases e3 : inB at_ 0 99
          · skip
            go_wp2_with (go_at_call 60; refine (within7 _ _ _ _).mono ?_; rintro e w' ⟨rfl, rfl⟩)
            all_goals go_ret
            all_goals exact ⟨ret_int (by rw [hbad'.out (by simp [okThing, okOf, fromAt, e1, e2, e3])]; rfl), hE0.trans (hE.trans (Ext.alloc _ _))⟩
          cases e4 : inB cost 0 99
          · skip
            go_wp2_with (go_at_call 60; refine (within7 _ _ _ _).mono ?_; rintro e w' ⟨rfl, rfl⟩)
            all_goals go_ret
            all_goals exact ⟨ret_int (by rw [hbad'.out (by simp [okThing, okOf, fromAt, e1, e2, e3, e4])]; rfl), hE0.trans (hE.trans (Ext.alloc _ _))⟩
          cases e5 : inB prints 0 1
          · skip
            go_wp2_with (go_at_call 60; refine (within7 _ _ _ _).mono ?_; rintro e w' ⟨rfl, rfl⟩)
            all_goals go_ret
            all_goals exact ⟨ret_int (by rw [hbad'.out (by simp [okThing, okOf, fromAt, e1, e2, e3, e4, e5])]; rfl), hE0.trans (hE.trans (Ext.alloc _ _))⟩
          · skip
            go_wp2_with (go_at_call 60; refine (within7 _ _ _ _).mono ?_; rintro e w' ⟨rfl, rfl⟩)
            all_goals
              go_roundw
              case rel => exact ⟨k + 1, by omega, by show okThings th (k + 1) = true; rw [hstep'.out]; simp [okThing, okOf, fromAt, e1, e2, e3, e4, e5], by go_num, hE.trans (Ext.alloc _ _)⟩
              case measure => simp [intOf]; omega
      · obtain ⟨j0, j1⟩ := inB_iff.1 e1
        obtain ⟨j, rfl⟩ := Int.eq_ofNat_of_zero_le j0
        have hj : j < th.length := by omega
        obtain ⟨_, q1, _, _⟩ := (HA.out.ext hE).at (List.getElem?_eq_getElem hj)
        have hq : th[j].at_ = thAt th (j : Int) := by simp [thAt, List.getElem?_eq_getElem hj]
        rw [hq] at q1
        clear hq
        cases e3 : inB at_ (thAt th (j : Int)) 99
        · skip
          go_wp2_with (go_at_call 60; refine (within7 _ _ _ _).mono ?_; rintro e w' ⟨rfl, rfl⟩)
          all_goals go_ret
          all_goals exact ⟨ret_int (by rw [hbad'.out (by simp [okThing, okOf, fromAt, e1, e3])]; rfl), hE0.trans (hE.trans (Ext.alloc _ _))⟩
        cases e4 : inB cost 0 99
        · skip
          go_wp2_with (go_at_call 60; refine (within7 _ _ _ _).mono ?_; rintro e w' ⟨rfl, rfl⟩)
          all_goals go_ret
          all_goals exact ⟨ret_int (by rw [hbad'.out (by simp [okThing, okOf, fromAt, e1, e3, e4])]; rfl), hE0.trans (hE.trans (Ext.alloc _ _))⟩
        cases e5 : inB prints 0 1
        · skip
          go_wp2_with (go_at_call 60; refine (within7 _ _ _ _).mono ?_; rintro e w' ⟨rfl, rfl⟩)
          all_goals go_ret
          all_goals exact ⟨ret_int (by rw [hbad'.out (by simp [okThing, okOf, fromAt, e1, e3, e4, e5])]; rfl), hE0.trans (hE.trans (Ext.alloc _ _))⟩
        · skip
          go_wp2_with (go_at_call 60; refine (within7 _ _ _ _).mono ?_; rintro e w' ⟨rfl, rfl⟩)
          all_goals
            go_roundw
            case rel => exact ⟨k + 1, by omega, by show okThings th (k + 1) = true; rw [hstep'.out]; simp [okThing, okOf, fromAt, e1, e3, e4, e5], by go_num, hE.trans (Ext.alloc _ _)⟩
            case measure => simp [intOf]; omega
    · have hall : okThings th th.length = true := by
        have : k = th.length := by omega
        rw [← this]; exact hok.out
      have hgood : chkHouse th mk = !(mk.any fun x => !okMark th x) := by
        have hz : (mk.any fun x => !okMark th x) = !(mk.all (okMark th)) := by simp [List.all_eq_not_any_not]
        rw [hz]
        cases hq : mk.all (okMark th)
        · simp [chkHouse, hq]
        · simp [chkHouse, hq, hall]; omega
      have hgood' := Lib.hid hgood
      clear hgood hall
      have g0 := hE.cell hh0
      have g1 := hE.cell hh1
      have HA := Lib.hid hA
      have HB := Lib.hid hB
      clear hA hB hh0 hh1
      cases hb1 : mk.any fun x => !okMark th x
      all_goals
        have Hb := Lib.hid hb1
        clear hb1
        go_wp2_with (go_at_call 74; refine (containsMark7 hb 0 A B th mk cm ck _ hm hm2 g0 g1 (HA.out.ext hE) (HB.out.ext hE)).mono ?_; rw [Hb.out]; rintro e w' ⟨rfl, hE'⟩)
        go_ret
        exact ⟨ret_int (by rw [hgood'.out, Hb.out]; rfl), hE0.trans (hE.trans hE')⟩
end Go.Proofs.Ytloenmikkkklhaa

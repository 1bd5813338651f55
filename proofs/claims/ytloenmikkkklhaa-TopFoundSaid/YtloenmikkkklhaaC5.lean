/-
  The layer 'changes': open, Has and Since of a valid house, asked of what is in it.
-/
import Derived.Test.YtloenmikkkklhaaC4
namespace Go.Proofs.Ytloenmikkkklhaa
open Go.RowKit

set_option maxHeartbeats 400000 in
theorem open7 (A B : Option Addr) (th : List Thing) (mk : List Mark) (cm ck : Nat) (w : World) (hm : (th.length : Int) ≤ 9223372036854775807) (hm2 : (mk.length : Int) ≤ 9223372036854775807)
    (hA : RdT w A th) (hB : RdM w B mk) (hc : chkHouse th mk = true) :
    Calls Try.prog 30 #[.agg #[.slice A th.length cm, .slice B mk.length ck], .bool true] w fun e w' => e = .returned (.int .i64 0) ∧ Ext w w' := by
  have HA := Lib.hid hA
  have HB := Lib.hid hB
  have HC := Lib.hid hc
  clear hA hB hc
  go_enter Try.func30, Try.ntmps30
  go_wp2_with (go_at_call 59; have hq := check7 A B th mk cm ck (w.alloc (.cells #[.slice A th.length cm, .slice B mk.length ck] 25)) hm hm2 (HA.out.ext (Ext.alloc _ _)) (HB.out.ext (Ext.alloc _ _)); rw [HC.out, errOf_true] at hq; refine hq.mono ?_; clear hq; rintro e w' ⟨rfl, hE⟩)
  go_ret
  exact ⟨rfl, (Ext.alloc _ _).trans hE⟩

/-- Since when thing i has a change; 100: never. -/
def sinceOf (th : List Thing) (mk : List Mark) (change : Int) (i : Nat) : Int := (sinceArr th mk change th.length).getD i 0

theorem house_load {w : World} {hb : Nat} {th : List Thing} {mk : List Mark} {change : Int} {s : List Int} (h : IsHouse w hb th mk change s) {i : Nat} (hi : i < 8) : w.cell? ⟨hb, 3 + i, none⟩ = some (.int .i64 (s.getD i 0)) := by
  obtain ⟨⟨A, B, cm, ck, b, h1, _⟩, h8⟩ := h
  exact blk_at h1 _ (house_s _ _ _ _ _ _ _ _ _ (getD_some (by omega)))

set_option maxHeartbeats 1000000 in
theorem Has7 (A B : Option Addr) (th : List Thing) (mk : List Mark) (cm ck i : Nat) (change minute : Int) (w : World) (hm2 : (mk.length : Int) ≤ 9223372036854775807)
    (hA : RdT w A th) (hB : RdM w B mk) (hc : chkHouse th mk = true) (hi : i < th.length) (hch : inB change 0 2 = true) (hmi : inB minute 0 99 = true) :
    Calls Try.prog 34 #[.agg #[.slice A th.length cm, .slice B mk.length ck], .int .i64 i, .int .i64 change, .int .i64 minute] w
      fun e w' => e = .returned (.tuple #[.bool (decide (sinceOf th mk change i ≤ minute)), .int .i64 0]) ∧ Ext w w' := by
  have h8 : th.length ≤ 8 := by simp [chkHouse] at hc; omega
  have hm : (th.length : Int) ≤ 9223372036854775807 := by omega
  have q1 : ∀ W, Calls Try.prog 31 #[.agg #[.slice A th.length cm, .slice B mk.length ck], .int .i64 i] W fun e w' => e = .returned (.bool true) ∧ Ext W w' := fun W => by
    have h := isThing7 A B th.length cm mk.length ck i W hm
    rwa [show inB (i : Int) 0 ((th.length : Int) - 1) = true from inB_iff.2 ⟨by omega, by omega⟩] at h
  have q2 : ∀ W, Calls Try.prog 32 #[.int .i64 change] W fun e w' => e = .returned (.bool true) ∧ W = w' := fun W => by
    have h := isChange7 change W
    rwa [hch] at h
  have q3 : ∀ W, Calls Try.prog 37 #[.int .i64 minute] W fun e w' => e = .returned (.bool true) ∧ W = w' := fun W => by
    have h := isMinute7 minute W
    rwa [hmi] at h
  have Q1 := Lib.hid q1
  have Q2 := Lib.hid q2
  have Q3 := Lib.hid q3
  have HA := Lib.hid hA
  have HB := Lib.hid hB
  have HC := Lib.hid hc
  clear q1 q2 q3 hA hB hc hch hmi
  go_enter Try.func34, Try.ntmps34
  go_wp2_with fail
  obtain ⟨w1, p0, e1, e2, hE0, pblk⟩ := new_block w #[.slice A th.length cm, .slice B mk.length ck] 25
  rw [e1, e2]
  clear e1 e2
  have hh0 : w1.cell? ⟨p0, 0, none⟩ = some (.slice A th.length cm) := blk_at pblk 0 rfl
  have hh1 : w1.cell? ⟨p0, 1, none⟩ = some (.slice B mk.length ck) := blk_at pblk 1 rfl
  clear pblk
  refine wp_region_ext (by kernel_rfl) (by kernel_rfl) ?_
  repeat (go_big_quiet_step ((first | (go_at_call 31; exact Calls.inX _ (Q1.out _)) | (go_at_call 32; exact Calls.inXsame _ (Q2.out _)) | (go_at_call 37; exact Calls.inXsame _ (Q3.out _)) | (go_at_call 30; refine Calls.inX _ (open7 A B th mk cm ck _ hm hm2 (HA.out.ext (hE0.trans (ExtW.ext _))) (HB.out.ext (hE0.trans (ExtW.ext _))) HC.out)))))
  refine wpQuiet_nil ?_
  rintro _ ⟨x, rfl⟩
  have g0 := x.ext.cell hh0
  have g1 := x.ext.cell hh1
  have hE1 := hE0.trans x.ext
  obtain ⟨w2, hw2⟩ : ∃ w2, x.out = w2 := ⟨_, rfl⟩
  rw [hw2] at g0 g1 hE1 ⊢
  clear hw2 x hh0 hh1
  go_wp2_with (first | (go_at_call 33; refine (follow7 A B th mk cm ck change _ hm2 (HA.out.ext hE1) (HB.out.ext hE1) HC.out).mono ?_; rintro e w' ⟨hb, rfl, hE2, hH⟩; have hl := house_load hH (Nat.lt_of_lt_of_le hi h8)) | (go_at_call 62; refine (has7 hb i _ minute _ (Nat.lt_of_lt_of_le hi h8) hl).mono ?_; rintro e w'' ⟨rfl, rfl⟩))
  go_ret2
  exact ⟨rfl, hE1.trans hE2⟩
end Go.Proofs.Ytloenmikkkklhaa

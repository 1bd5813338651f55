/-
  The layer 'changes': mixed and Mixed of a valid house.
-/
import Derived.Test.YtloenmikkkklhaaC5
import Derived.Test.YtloenmikkkklhaaF1
import Derived.Test.YtloenmikkkklhaaB
import Derived.Laws.EntriesVeiled
namespace Go.Proofs.Ytloenmikkkklhaa
open Go.RowKit

theorem enters_mixed1 : Enters Try.prog 63 := enters_of Try.func63 (by kernel_rfl) rfl
theorem enters_mixed2 : Enters Try.prog 65 := enters_of Try.func65 (by kernel_rfl) rfl

set_option maxHeartbeats 400000 in
theorem mixed1_7 (hb pb mb : Nat) (i : Nat) (v minute : Int) (w : World) (hi : i < 8) (hp : w.cell? ⟨pb, 0, none⟩ = some (.pointer (some ⟨hb, 0, none⟩))) (hq : w.cell? ⟨mb, 0, none⟩ = some (.int .i64 minute))
    (h2 : w.cell? ⟨hb, 3 + i, none⟩ = some (.int .i64 v)) :
    Calls Try.prog 63 #[.int .i64 i, .pointer (some ⟨pb, 0, none⟩), .pointer (some ⟨mb, 0, none⟩)] w fun e w' => e = .returned (.bool (decide (v ≤ minute))) ∧ Ext w w' := by
  go_enter Try.func63, Try.ntmps63
  go_wp2_with (go_at_call 62; refine (has7 hb i v minute _ hi h2).mono ?_; rintro e w'' ⟨rfl, rfl⟩)
  go_ret
  exact ⟨rfl, Ext.refl _⟩

set_option maxHeartbeats 400000 in
theorem mixed2_7 (hb pb mb fb : Nat) (i : Nat) (v minute : Int) (w : World) (hi : i < 8) (hp : w.cell? ⟨pb, 0, none⟩ = some (.pointer (some ⟨hb, 0, none⟩))) (hq : w.cell? ⟨mb, 0, none⟩ = some (.int .i64 minute))
    (hf : w.cell? ⟨fb, 0, none⟩ = some (.func (.func 63) #[] #[.pointer (some ⟨pb, 0, none⟩), .pointer (some ⟨mb, 0, none⟩)]))
    (h2 : w.cell? ⟨hb, 3 + i, none⟩ = some (.int .i64 v)) :
    Calls Try.prog 65 #[.int .i64 i, .pointer (some ⟨fb, 0, none⟩)] w fun e w' => e = .returned (.bool (!decide (v ≤ minute))) ∧ Ext w w' := by
  go_enter Try.func65, Try.ntmps65
  go_wp2_with (go_at_call 63; refine (mixed1_7 hb pb mb i v minute _ hi hp hq h2).mono ?_; rintro e w'' ⟨rfl, hE⟩)
  go_ret
  exact ⟨rfl, hE⟩

/-- Do some of some things have the change, and some not? -/
def mixedB (s : List Int) (plates : List Int) (minute : Int) : Bool :=
  (plates.any fun n => decide (s.getD n.toNat 0 ≤ minute)) && (plates.any fun n => !decide (s.getD n.toNat 0 ≤ minute))

set_option maxHeartbeats 1000000 in
theorem mixed7 (hb : Nat) (A : Option Addr) (plates : List Int) (c : Nat) (th : List Thing) (mk : List Mark) (change minute : Int) (s : List Int) (w : World) (hm : (plates.length : Int) ≤ 9223372036854775807)
    (hH : IsHouse w hb th mk change s) (hA : RdI w A plates) (hp : ∀ n ∈ plates, 0 ≤ n ∧ n < 8) :
    Calls Try.prog 38 #[.pointer (some ⟨hb, 0, none⟩), .slice A plates.length c, .int .i64 minute] w fun e w' => e = .returned (.bool (mixedB s plates minute)) ∧ Ext w w' := by
  have HH := Lib.hid hH
  have HA := Lib.hid hA
  have HP := Lib.hid hp
  clear hH hA hp
  go_enter Try.func38, Try.ntmps38
  go_upto_region 1 with fail
  obtain ⟨w1, pb, e1, e2, hE1, b1⟩ := new_block w #[.pointer (some ⟨hb, 0, none⟩)] 80
  have e3 : w.heap.size + 1 = w1.heap.size := by rw [← e1]; simp
  rw [e3, e1, e2]
  clear e1 e2 e3
  obtain ⟨w2, mb, e1, e2, hE2, b2⟩ := new_block w1 #[.int .i64 minute] 3
  rw [e1, e2]
  clear e1 e2
  have c1 : w2.cell? ⟨pb, 0, none⟩ = some (.pointer (some ⟨hb, 0, none⟩)) := hE2.cell (blk_at b1 0 rfl)
  have c2 : w2.cell? ⟨mb, 0, none⟩ = some (.int .i64 minute) := blk_at b2 0 rfl
  clear b1 b2
  go_upto_region 2 with fail
  obtain ⟨w3, fb, e1, e2, hE3, b3⟩ := new_block w2 #[.func (.func 63) #[] #[.pointer (some ⟨pb, 0, none⟩), .pointer (some ⟨mb, 0, none⟩)]] 32
  rw [e1, e2]
  clear e1 e2
  have d1 := hE3.cell c1
  have d2 := hE3.cell c2
  have d3 : w3.cell? ⟨fb, 0, none⟩ = some (.func (.func 63) #[] #[.pointer (some ⟨pb, 0, none⟩), .pointer (some ⟨mb, 0, none⟩)]) := blk_at b3 0 rfl
  clear c1 c2 b3
  have hE : Ext w w3 := hE1.trans (hE2.trans hE3)
  clear hE1 hE2 hE3
  have p1 : PredX 63 #[.pointer (some ⟨pb, 0, none⟩), .pointer (some ⟨mb, 0, none⟩)] (Value.int .i64) (fun n => decide (s.getD n.toNat 0 ≤ minute)) plates w3 := fun W x hx hW => by
    obtain ⟨h0, h1⟩ := HP.out x hx
    obtain ⟨k, rfl⟩ := Int.eq_ofNat_of_zero_le h0
    exact mixed1_7 hb pb mb k _ minute W (by omega) (hW.cell d1) (hW.cell d2) (house_load (HH.out.ext (hE.trans hW)) (by omega))
  have P1 := Lib.hid p1
  have p2 : PredX 65 #[.pointer (some ⟨fb, 0, none⟩)] (Value.int .i64) (fun n => !decide (s.getD n.toNat 0 ≤ minute)) plates w3 := fun W x hx hW => by
    obtain ⟨h0, h1⟩ := HP.out x hx
    obtain ⟨k, rfl⟩ := Int.eq_ofNat_of_zero_le h0
    exact mixed2_7 hb pb mb fb k _ minute W (by omega) (hW.cell d1) (hW.cell d2) (hW.cell d3) (house_load (HH.out.ext (hE.trans hW)) (by omega))
  have P2 := Lib.hid p2
  clear p1 p2 d1 d2
  have hres : ∀ b1 b2 : Bool, (plates.any fun n => decide (s.getD n.toNat 0 ≤ minute)) = b1 → (plates.any fun n => !decide (s.getD n.toNat 0 ≤ minute)) = b2 → mixedB s plates minute = (b1 && b2) := fun b1 b2 h1 h2 => by rw [mixedB, h1, h2]
  have HR := Lib.hid hres
  clear hres
  go_wp2_with fail
  refine (containsInt _ _ _ A plates c w3 enters_mixed1 hm (HA.out.ext hE) P1.out).mono ?_
  cases q1 : plates.any fun n => decide (s.getD n.toNat 0 ≤ minute)
  · have Q1 := Lib.hid q1
    clear q1
    rintro e w4 ⟨rfl, hE4⟩
    go_wp2_with fail
    go_ret
    exact ⟨ret_bool (HR.out _ _ Q1.out rfl).symm, hE.trans hE4⟩
  · have Q1 := Lib.hid q1
    clear q1
    rintro e w4 ⟨rfl, hE4⟩
    go_wp2_with fail
    have p3 : PredX 65 #[.pointer (some ⟨fb, 0, none⟩)] (Value.int .i64) (fun n => !decide (s.getD n.toNat 0 ≤ minute)) plates w4 := fun W x hx hW => P2.out W x hx (hE4.trans hW)
    refine (containsInt _ _ _ A plates c w4 enters_mixed2 hm (HA.out.ext (hE.trans hE4)) p3).mono ?_
    clear p3
    cases q2 : plates.any fun n => !decide (s.getD n.toNat 0 ≤ minute)
    all_goals
      have Q2 := Lib.hid q2
      clear q2
      rintro e w5 ⟨rfl, hE5⟩
      go_wp2_with fail
      go_ret
      exact ⟨ret_bool (HR.out _ _ Q1.out Q2.out).symm, hE.trans (hE4.trans hE5)⟩
end Go.Proofs.Ytloenmikkkklhaa

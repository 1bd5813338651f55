/-
  The examples are shown.
-/
import Derived.Test.YtloenmikkkklhaaR10
import Derived.Test.YtloenmikkkklhaaP10
namespace Go.Proofs.Ytloenmikkkklhaa
open Go.RowKit

set_option maxRecDepth 100000 in
theorem ex_ways : 0 < (waysOf exMs exFs).length := by decide
set_option maxRecDepth 100000 in
theorem ex_lo : mixesLo exMs (waysOf exMs exFs) 2 = 3 := by decide
set_option maxRecDepth 100000 in
theorem ex_hi : mixesHi exMs (waysOf exMs exFs) 2 = 57 := by decide
set_option maxRecDepth 100000 in
theorem ex_time : timeLow (timeUpto (sinceArr exTh exMk 0 exTh.length) exTh 100) = 20 ∧ timeHigh (timeUpto (sinceArr exTh exMk 0 exTh.length) exTh 100) = 99 ∧ timeErr (timeUpto (sinceArr exTh exMk 0 exTh.length) exTh 100) = 0 := by decide

theorem exMixes (A B : Option Addr) (cm ck : Nat) (w : World) (hA : RdMach w A exMs) (hB : RdFound w B exFs) :
    Calls Try.prog 20 #[.agg #[.int .i64 2, .int .i64 10, .slice A 2 cm, .slice B 3 ck]] w
      fun e w' => e = .returned (.tuple #[.agg #[.int .i64 3, .int .i64 57], .int .i64 0]) ∧ Ext w w' := by
  have h := Mixes6 2 10 A B exMs exFs cm ck w exRun hA hB ex_ways
  rw [ex_lo, ex_hi] at h
  exact h
theorem exTime (A B : Option Addr) (cm ck : Nat) (w : World) (hA : RdT w A exTh) (hB : RdM w B exMk) :
    Calls Try.prog 29 #[.agg #[.slice A 6 cm, .slice B 2 ck], .int .i64 0] w
      fun e w' => e = .returned (.tuple #[.agg #[.int .i64 20, .int .i64 99], .int .i64 0]) ∧ Ext w w' := by
  have h := Time7 A B exTh exMk cm ck 0 w (by decide) hA hB exHouse (by decide)
  rw [ex_time.1, ex_time.2.1, ex_time.2.2] at h
  exact h

set_option maxRecDepth 100000 in
set_option maxHeartbeats 8000000 in
theorem shownR (w : World) : Calls Try.prog 9 #[] w fun e w' => e = .returned (.bool true) ∧ Ext w w' := by
  go_enter Try.func9, Try.ntmps9
  go_upto_region 2 with (go_at_call 27; refine (example6 _).mono ?_; rintro e w1 ⟨A, B, c, d, q0, q1, C, D, e', f, n, m, rfl, hM, hF, hE1⟩)
  obtain ⟨w2, p1, e1, e2, hE2, pblk⟩ := new_block w1 #[.int .i64 2, .int .i64 10, .slice A 2 c, .slice B 3 d] 41
  have e3 : w1.heap.size + 1 = w2.heap.size := by rw [← e1]; simp
  (try simp only [e3])
  rw [e1, e2]
  clear e1 e2 e3
  obtain ⟨w3, p2, e1, e2, hE3, pblk2⟩ := new_block w2 #[.int .i64 q0, .int .i64 q1, .slice C n e', .slice D m f] 41
  rw [e1, e2]
  clear e1 e2 pblk2
  have HP1 := Lib.hid (hE3.heap pblk)
  have HM := Lib.hid (RdMach.ext hM (hE2.trans hE3))
  have HF := Lib.hid (RdFound.ext hF (hE2.trans hE3))
  have hEa : Ext w w3 := hE1.trans (hE2.trans hE3)
  clear pblk hM hF hE2 hE3 hE1
  go_upto_region 3 with (go_at_call 28; refine (example7 _).mono ?_; rintro e w4 ⟨A2, c2, B2, d2, C2, e2', D2, f2, n2, m2, rfl, hT, hK2, hE4⟩)
  obtain ⟨w5, p3, e1, e2, hE5, qblk⟩ := new_block w4 #[.slice A2 6 c2, .slice B2 2 d2] 25
  have e3 : w4.heap.size + 1 = w5.heap.size := by rw [← e1]; simp
  (try simp only [e3])
  rw [e1, e2]
  clear e1 e2 e3
  obtain ⟨w6, p4, e1, e2, hE6, qblk2⟩ := new_block w5 #[.slice C2 n2 e2', .slice D2 m2 f2] 25
  rw [e1, e2]
  clear e1 e2 qblk2
  have hE46 := hE4.trans (hE5.trans hE6)
  have hp1 := hE46.heap HP1.out
  have HM6 := Lib.hid (RdMach.ext HM.out hE46)
  have HF6 := Lib.hid (RdFound.ext HF.out hE46)
  have HP3 := Lib.hid (hE6.heap qblk)
  have HT := Lib.hid (RdT.ext hT (hE5.trans hE6))
  have HK2 := Lib.hid (RdM.ext hK2 (hE5.trans hE6))
  have hEb := hEa.trans hE46
  have r0 := blk_at hp1 0 rfl
  have r1 := blk_at hp1 1 rfl
  have r2 := blk_at hp1 2 rfl
  have r3 := blk_at hp1 3 rfl
  clear qblk hT hK2 hE5 hE6 hE4 hE46 hp1 hEa
  go_upto_region 4 with (go_at_call 20; refine (exMixes _ _ _ _ _ HM6.out HF6.out).mono ?_; rintro e w7 ⟨rfl, hE7⟩)
  obtain ⟨w8, p5, e1, e2, hE8, sblk⟩ := new_block w7 #[.int .i64 3, .int .i64 57] 48
  rw [e1, e2]
  clear e1 e2 r0 r1 r2 r3
  have hE78 := hE7.trans hE8
  have hq3 := hE78.heap HP3.out
  have HT8 := Lib.hid (RdT.ext HT.out hE78)
  have HK8 := Lib.hid (RdM.ext HK2.out hE78)
  have hEc := hEb.trans hE78
  have r0 := blk_at hq3 0 rfl
  have r1 := blk_at hq3 1 rfl
  clear hE7 hE8 hE78 hq3 hEb
  go_upto_region 5 with (go_at_call 29; refine (exTime _ _ _ _ _ HT8.out HK8.out).mono ?_; rintro e w9 ⟨rfl, hE9⟩)
  obtain ⟨wa, p6, e1, e2, hEA, tblk⟩ := new_block w9 #[.int .i64 20, .int .i64 99] 48
  rw [e1, e2]
  clear e1 e2 r0 r1
  have hs := (hE9.trans hEA).heap sblk
  have s0 := blk_at hs 0 rfl
  have s1 := blk_at hs 1 rfl
  have t0 := blk_at tblk 0 rfl
  have t1 := blk_at tblk 1 rfl
  have hEd := hEc.trans (hE9.trans hEA)
  clear sblk tblk hs
  go_wp2_with fail
  go_ret
  exact ⟨rfl, hEd⟩
end Go.Proofs.Ytloenmikkkklhaa

/-
  The layer 'changes': Time of a valid house.
-/
import Derived.Test.YtloenmikkkklhaaC8
namespace Go.Proofs.Ytloenmikkkklhaa
open Go.RowKit

def timeStep (s : List Int) (th : List Thing) (minute : Int) (lo hi : Int) : Int × Int :=
  if mixedB s (thingsUpto (printsAt minute) th th.length) minute = true then (min lo minute, minute) else (lo, hi)
def timeUpto (s : List Int) (th : List Thing) : Nat → Int × Int
  | 0 => (100, 0)
  | n + 1 => timeStep s th n (timeUpto s th n).1 (timeUpto s th n).2
def timeLow (p : Int × Int) : Int := if p.1 = 100 then 0 else p.1
def timeHigh (p : Int × Int) : Int := if p.1 = 100 then 0 else p.2
def timeErr (p : Int × Int) : Int := if p.1 = 100 then 3 else 0

set_option maxRecDepth 100000 in
set_option maxHeartbeats 1000000 in
theorem Time7 (A B : Option Addr) (th : List Thing) (mk : List Mark) (cm ck : Nat) (change : Int) (w : World) (hm2 : (mk.length : Int) ≤ 9223372036854775807)
    (hA : RdT w A th) (hB : RdM w B mk) (hc : chkHouse th mk = true) (hch : inB change 0 2 = true) :
    Calls Try.prog 29 #[.agg #[.slice A th.length cm, .slice B mk.length ck], .int .i64 change] w
      fun e w' => e = .returned (.tuple #[.agg #[.int .i64 (timeLow (timeUpto (sinceArr th mk change th.length) th 100)), .int .i64 (timeHigh (timeUpto (sinceArr th mk change th.length) th 100))], .int .i64 (timeErr (timeUpto (sinceArr th mk change th.length) th 100))]) ∧ Ext w w' := by
  have h8 : th.length ≤ 8 := by simp [chkHouse] at hc; omega
  have hm : (th.length : Int) ≤ 9223372036854775807 := by omega
  have q2 : ∀ W, Calls Try.prog 32 #[.int .i64 change] W fun e w' => e = .returned (.bool true) ∧ W = w' := fun W => by
    have h := isChange7 change W
    rwa [hch] at h
  have Q2 := Lib.hid q2
  have HA := Lib.hid hA
  have HB := Lib.hid hB
  have HC := Lib.hid hc
  clear q2 hA hB hc hch
  go_enter Try.func29, Try.ntmps29
  go_upto_region 1 with fail
  obtain ⟨w1, p0, e1, e2, hE0, pblk⟩ := new_block w #[.slice A th.length cm, .slice B mk.length ck] 25
  have e3 : w.heap.size + 1 = w1.heap.size := by rw [← e1]; simp
  rw [e3, e1, e2]
  have hp0 : w.heap.size ≤ p0 := by rw [← e2]; exact Nat.le_refl _
  clear e1 e2 e3
  obtain ⟨w2, rb, e1, e2, hE1, rblk⟩ := new_block w1 #[.int .i64 0, .int .i64 0] 48
  have hrb : w.heap.size ≤ rb := by rw [← e2]; exact hE0.size
  rw [e1, e2]
  clear e1 e2
  have hh0 : w2.cell? ⟨p0, 0, none⟩ = some (.slice A th.length cm) := hE1.cell (blk_at pblk 0 rfl)
  have hh1 : w2.cell? ⟨p0, 1, none⟩ = some (.slice B mk.length ck) := hE1.cell (blk_at pblk 1 rfl)
  have hE2 := hE0.trans hE1
  have HR := Lib.hid rblk
  clear pblk hE0 hE1 rblk
  refine wp_region_ext (by kernel_rfl) (by kernel_rfl) ?_
  repeat (go_big_quiet_step ((first | (go_at_call 32; exact Calls.inXsame _ (Q2.out _)) | (go_at_call 30; refine Calls.inX _ (open7 A B th mk cm ck _ hm hm2 (HA.out.ext (hE2.trans (ExtW.ext _))) (HB.out.ext (hE2.trans (ExtW.ext _))) HC.out)))))
  refine wpQuiet_nil ?_
  rintro _ ⟨x, rfl⟩
  have g0 := x.ext.cell hh0
  have g1 := x.ext.cell hh1
  have hE3 := hE2.trans x.ext
  have HR1 := Lib.hid (x.ext.heap HR.out)
  obtain ⟨w3, hw3⟩ : ∃ w3, x.out = w3 := ⟨_, rfl⟩
  rw [hw3] at g0 g1 hE3 HR1 ⊢
  clear hw3 x hh0 hh1 HR hE2
  go_wp2_with fail
  refine (follow7 A B th mk cm ck change _ hm2 (HA.out.ext hE3) (HB.out.ext hE3) HC.out).mono ?_
  rintro e w4 ⟨hb, rfl, hE4, hH⟩
  have HH := Lib.hid hH
  clear hH
  go_upto_region 6 with fail
  obtain ⟨w5, qb, e1, e2, hE5, qblk⟩ := new_block w4 #[.pointer (some ⟨hb, 0, none⟩)] 80
  have e3 : w4.heap.size + 1 = w5.heap.size := by rw [← e1]; simp
  rw [e3, e1, e2]
  clear e1 e2 e3
  have hq0 : w5.cell? ⟨qb, 0, none⟩ = some (.pointer (some ⟨hb, 0, none⟩)) := blk_at qblk 0 rfl
  clear qblk
  obtain ⟨w6, sb, e1, e2, hE6, sblk⟩ := new_block w5 #[.int .i64 100, .int .i64 0] 48
  have hsb : w5.heap.size ≤ sb := by rw [← e2]; exact Nat.le_refl _
  rw [e1, e2]
  clear e1 e2 g0 g1
  have HSB := Lib.hid sblk
  clear sblk
  have hEw : Ext w w5 := hE3.trans (hE4.trans hE5)
  have HR2 := Lib.hid ((hE4.trans hE5).heap HR1.out)
  have HH5 := Lib.hid (HH.out.ext hE5)
  go_wp2_with fail
  go_loopg [23] 100 (fun g i wr => ∃ k : Nat, k + g = 100 ∧ i = .int .i64 k ∧ Ext w5 wr ∧ wr.heap[sb]? = some (.cells #[.int .i64 (timeUpto (sinceArr th mk change th.length) th k).1, .int .i64 (timeUpto (sinceArr th mk change th.length) th k).2] 48 (0, 0)))
  case atStart => exact ⟨0, by omega, rfl, hE6, HSB.out⟩
  case round =>
    obtain ⟨k, hk, rfl, hE, hblk⟩ := hrel
    have HK := Lib.hid hk
    have HB1 := Lib.hid hblk
    clear hblk
    by_cases hlt : k < 100
    · have hlt' : (k : Int) < 100 := by omega
      clear hk
      have hnext : timeUpto (sinceArr th mk change th.length) th (k + 1) = timeStep (sinceArr th mk change th.length) th k (timeUpto (sinceArr th mk change th.length) th k).1 (timeUpto (sinceArr th mk change th.length) th k).2 := rfl
      generalize timeUpto (sinceArr th mk change th.length) th k = lh at HB1 hnext
      obtain ⟨lo, hi⟩ := lh
      dsimp only at HB1 hnext
      have HN := Lib.hid hnext
      clear hnext
      have g0 := hE.cell hq0
      go_upto_region 9 with fail
      obtain ⟨w7, mb, e1, e2, hE7, mblk⟩ := new_block wr #[.int .i64 k] 3
      rw [e1, e2]
      clear e1 e2
      have m0 : w7.cell? ⟨mb, 0, none⟩ = some (.int .i64 k) := blk_at mblk 0 rfl
      have g1 := hE7.cell g0
      have HB2 := Lib.hid (hE7.heap HB1.out)
      clear g0 mblk
      have hE8 := hE.trans hE7
      have pt : PredT 57 #[.pointer (some ⟨qb, 0, none⟩), .pointer (some ⟨mb, 0, none⟩)] (printsAt k) th w7 := fun W i t ht hW => time1_7 hb qb mb th mk change _ i t k W h8 (HH5.out.ext (hE8.trans hW)) (hW.cell g1) (hW.cell m0) ht
      have PT := Lib.hid (things7 _ _ (printsAt k) hb th mk change _ w7 enters_time1 h8 (HH5.out.ext hE8) pt)
      clear pt
      go_wp2_with fail
      refine PT.out.mono ?_
      rintro e w8 ⟨D, cd, rfl, hD, hE9⟩
      have m1 := hE9.cell m0
      have g2 := hE9.cell g1
      have HB3 := Lib.hid (hE9.heap HB2.out)
      have HD := Lib.hid hD
      have hE10 := hE8.trans hE9
      have hlen := thingsUpto_length (printsAt k) th th.length
      clear m0 g1 hD
      go_wp2_with fail
      refine (mixed7 hb D _ cd th mk change k _ w8 (by omega) (HH5.out.ext hE10) HD.out (fun n hn => by
        obtain ⟨i, rfl, hi8, _⟩ := thingsUpto_mem hn
        omega)).mono ?_
      have hstepF : mixedB (sinceArr th mk change th.length) (thingsUpto (printsAt k) th th.length) k = false → timeStep (sinceArr th mk change th.length) th k lo hi = (lo, hi) := fun h => by rw [timeStep, h, if_neg (by simp)]
      have hstepT : mixedB (sinceArr th mk change th.length) (thingsUpto (printsAt k) th th.length) k = true → timeStep (sinceArr th mk change th.length) th k lo hi = (min lo k, (k : Int)) := fun h => by rw [timeStep, h, if_pos rfl]
      cases q : mixedB (sinceArr th mk change th.length) (thingsUpto (printsAt k) th th.length) k
      · have HT := Lib.hid (HN.out.trans (hstepF q))
        clear hstepF hstepT q HN
        rintro e w9 ⟨rfl, hE11⟩
        go_wp2_with fail
        go_roundg (gk - 1)
        case measure => have := HK.out; omega
        case rel =>
          refine ⟨k + 1, by have := HK.out; omega, by go_num, hE10.trans hE11, ?_⟩
          rw [HT.out]
          exact hE11.heap HB3.out
      · have HT := Lib.hid (HN.out.trans (hstepT q))
        clear hstepF hstepT q HN
        rintro e w9 ⟨rfl, hE11⟩
        have m2 := hE11.cell m1
        have HB4 := Lib.hid (hE11.heap HB3.out)
        have s0 : w9.cell? ⟨sb, 0, none⟩ = some (.int .i64 lo) := blk_at HB4.out 0 rfl
        have s1 : w9.cell? ⟨sb, 1, none⟩ = some (.int .i64 hi) := blk_at HB4.out 1 rfl
        have s2 : w9.frozen? ⟨sb, 0, none⟩ = false := blk_free HB4.out _
        have s3 : w9.frozen? ⟨sb, 1, none⟩ = false := blk_free HB4.out _
        clear m1
        go_wp2_with fail
        all_goals
          go_roundg (gk - 1)
          case measure => have := HK.out; omega
          case rel =>
            refine ⟨k + 1, by have := HK.out; omega, by go_num, ?_, ?_⟩
            · exact (((Turned.refl sb w9).set_ _ _).set_ _ _).below (hE10.trans hE11) hsb
            · rw [HT.out]
              show _ = some (Obj.cells #[.int .i64 (min lo (k : Int)), .int .i64 (k : Int)] 48 (0, 0))
              first | (rw [Int.min_eq_right (by omega)]; exact blk_put (blk_put HB4.out 0 (.int .i64 k)) 1 (.int .i64 k)) | (rw [Int.min_eq_left (by omega)]; exact blk_put (blk_put HB4.out 0 (.int .i64 lo)) 1 (.int .i64 k))
    · obtain rfl : k = 100 := by omega
      clear hk hlt
      generalize hlh : timeUpto (sinceArr th mk change th.length) th 100 = lh at HB1
      have HLH := Lib.hid hlh
      clear hlh
      obtain ⟨lo, hi⟩ := lh
      have s0 : wr.cell? ⟨sb, 0, none⟩ = some (.int .i64 lo) := blk_at HB1.out 0 rfl
      have s1 : wr.cell? ⟨sb, 1, none⟩ = some (.int .i64 hi) := blk_at HB1.out 1 rfl
      have HR3 := Lib.hid (hE.heap HR2.out)
      have r0 : wr.cell? ⟨rb, 0, none⟩ = some (.int .i64 0) := blk_at HR3.out 0 rfl
      have r1 : wr.cell? ⟨rb, 1, none⟩ = some (.int .i64 0) := blk_at HR3.out 1 rfl
      have r2 : wr.frozen? ⟨rb, 0, none⟩ = false := blk_free HR3.out _
      have r3 : wr.frozen? ⟨rb, 1, none⟩ = false := blk_free HR3.out _
      have hEz : ∀ a b : Int, Ext w ((wr.setCell ⟨rb, 0, none⟩ (.int .i64 a)).setCell ⟨rb, 1, none⟩ (.int .i64 b)) := fun a b => (((Turned.refl rb wr).set_ _ _).set_ _ _).below (hEw.trans hE) hrb
      have hz : ∀ a b : Int, ((wr.setCell ⟨rb, 0, none⟩ (.int .i64 a)).setCell ⟨rb, 1, none⟩ (.int .i64 b)).heap[rb]? = some (.cells #[.int .i64 a, .int .i64 b] 48 (0, 0)) := fun a b => blk_put (blk_put HR3.out 0 _) 1 _
      have HEZ := Lib.hid hEz
      have HZ := Lib.hid hz
      clear hEz hz
      by_cases h : lo = 100
      · subst h
        go_wp2_with fail
        have hE1 := HEZ.out 0 0
        have hz := HZ.out 0 0
        generalize (wr.setCell ⟨rb, 0, none⟩ (.int .i64 0)).setCell ⟨rb, 1, none⟩ (.int .i64 0) = wz at hE1 hz ⊢
        have z0 : wz.cell? ⟨rb, 0, none⟩ = some (.int .i64 0) := blk_at hz 0 rfl
        have z1 : wz.cell? ⟨rb, 1, none⟩ = some (.int .i64 0) := blk_at hz 1 rfl
        refine bodyPost_ret (v := .tuple #[.agg #[.int .i64 0, .int .i64 0], .int .i64 3]) (by simp [results, Try.results29, go_sem, z0, z1]) rfl ⟨?_, hE1⟩
        rw [HLH.out]
        rfl
      · have h1 : (lo == 100) = false := by simpa using h
        have H := Lib.hid h
        clear h
        go_wp2_with fail
        have hE1 := HEZ.out lo hi
        have hz := HZ.out lo hi
        generalize (wr.setCell ⟨rb, 0, none⟩ (.int .i64 lo)).setCell ⟨rb, 1, none⟩ (.int .i64 hi) = wz at hE1 hz ⊢
        have z0 : wz.cell? ⟨rb, 0, none⟩ = some (.int .i64 lo) := blk_at hz 0 rfl
        have z1 : wz.cell? ⟨rb, 1, none⟩ = some (.int .i64 hi) := blk_at hz 1 rfl
        refine bodyPost_ret (v := .tuple #[.agg #[.int .i64 lo, .int .i64 hi], .int .i64 0]) (by simp [results, Try.results29, go_sem, z0, z1]) rfl ⟨?_, hE1⟩
        rw [HLH.out, timeLow, timeHigh, timeErr, if_neg H.out, if_neg H.out, if_neg H.out]
end Go.Proofs.Ytloenmikkkklhaa

/-
  The layer 'copies': When's and Old's function values.
-/
import Derived.Test.YtloenmikkkklhaaP10
namespace Go.Proofs.Ytloenmikkkklhaa
open Go.RowKit

theorem enters_when1 : Enters Try.prog 43 := enters_of Try.func43 (by kernel_rfl) rfl
theorem enters_old1 : Enters Try.prog 44 := enters_of Try.func44 (by kernel_rfl) rfl

set_option maxRecDepth 100000 in
set_option maxHeartbeats 4000000 in
theorem when1_6 (qm qp m p : Nat) (v : Value) (hv1 : v.oneCell' = true) (wh : List Int) (w : World) (h18 : wh.length = 18) (hm : m < 3) (hp : p < 3)
    (q0 : w.cell? ⟨qm, 0, none⟩ = some (.int .i64 m)) (q1 : w.cell? ⟨qp, 0, none⟩ = some (.int .i64 p)) :
    Calls Try.prog 43 #[.agg (wayCells v wh), .pointer (some ⟨qm, 0, none⟩), .pointer (some ⟨qp, 0, none⟩)] w
      fun e w' => e = .returned (.agg #[.int .i64 (lo6 wh m p), .int .i64 (hi6 wh m p)]) ∧ Ext w w' := by
  have hm3 : (m : Int) < 3 := by omega
  have hp3 : (p : Int) < 3 := by omega
  go_enter Try.func43, Try.ntmps43
  go_upto_region 1 with fail
  obtain ⟨w1, p0, e1, e2, hE0, pblk⟩ := new_block w (wayCells v wh) 94
  have e3 : w.heap.size + 1 = w1.heap.size := by rw [← e1]; simp
  rw [e3, e1, e2]
  clear e1 e2 e3
  obtain ⟨w2, rb, e1, e2, hE1, rblk⟩ := new_block w1 #[.int .i64 0, .int .i64 0] 48
  have hrb : w.heap.size ≤ rb := by rw [← e2]; exact hE0.size
  rw [e1, e2]
  clear e1 e2
  have hE2 := hE0.trans hE1
  have HP := Lib.hid (hE1.heap pblk)
  have HRB := Lib.hid rblk
  have HRBN := Lib.hid hrb
  have r0 := hE2.cell q0
  have r1 := hE2.cell q1
  have c0 := way_lo HP.out h18 (m := m) (k := p) hm hp
  have c1 := way_hi HP.out h18 (m := m) (k := p) hm hp
  have g0 := IsSpan.c0 HRB.out
  have g1 := IsSpan.c1 HRB.out
  have g2 := IsSpan.f HRB.out 0
  have g3 := IsSpan.f HRB.out 1
  clear pblk rblk hrb q0 q1
  go_region
  all_goals go_wp2_with fail
  all_goals
    have HS := IsSpan.set1 (IsSpan.set0 HRB.out (lo6 wh m p)) (hi6 wh m p)
    refine bodyPost_ret (v := .agg #[.int .i64 (lo6 wh m p), .int .i64 (hi6 wh m p)]) (by simp [results, Try.results43, go_sem, HS.c0, HS.c1]; done) rfl ⟨rfl, ?_⟩
    exact ((((Turned.refl rb w2).set_ _ _).set_ _ _).drew_).below hE2 HRBN.out

def oldLo (ms : List Machine) (wh : List Int) (p : Nat) : Int := sumUpto ms (fun m => lo6 wh m p) ms.length
def oldHi (ms : List Machine) (wh : List Int) (p : Nat) : Int := sumUpto ms (fun m => hi6 wh m p) ms.length

set_option maxRecDepth 100000 in
set_option maxHeartbeats 4000000 in
theorem old1_6 (pb qp p : Nat) (A : Option Addr) (cm : Nat) (ms : List Machine) (v : Value) (hv1 : v.oneCell' = true) (wh : List Int) (w : World) (h18 : wh.length = 18) (hs : Small wh) (hp : p < 3) (hms : ms.length ≤ 3)
    (hr : ∀ k, 0 ≤ rateOf ms k ∧ rateOf ms k ≤ 9) (q0 : w.cell? ⟨qp, 0, none⟩ = some (.int .i64 p)) (q2 : w.cell? ⟨pb, 2, none⟩ = some (.slice A ms.length cm)) (hA : RdMach w A ms) :
    Calls Try.prog 44 #[.agg (wayCells v wh), .pointer (some ⟨pb, 0, none⟩), .pointer (some ⟨qp, 0, none⟩)] w
      fun e w' => e = .returned (.agg #[.int .i64 (oldLo ms wh p), .int .i64 (oldHi ms wh p)]) ∧ Ext w w' := by
  have H18 := Lib.hid h18
  have HS := Lib.hid hs
  have HR := Lib.hid hr
  have HA := Lib.hid hA
  have Q0 := Lib.hid q0
  have hp3 : (p : Int) < 3 := by omega
  have HSL := Lib.hid (sumUpto_small (f := fun m => lo6 wh m p) hr (fun k => lo6_small hs k p))
  have HSH := Lib.hid (sumUpto_small (f := fun m => hi6 wh m p) hr (fun k => hi6_small hs k p))
  have hm : (ms.length : Int) ≤ 9223372036854775807 := by omega
  clear hs hr hA q0
  go_enter Try.func44, Try.ntmps44
  go_upto_region 1 with fail
  obtain ⟨w1, p0, e1, e2, hE0, pblk⟩ := new_block w (wayCells v wh) 94
  have e3 : w.heap.size + 1 = w1.heap.size := by rw [← e1]; simp
  have hp0 : p0 < w1.heap.size := blk_lt pblk
  have hqp := World.block_lt_of_cell? _ _ Q0.out
  rw [e3, e1, e2]
  clear e1 e3
  obtain ⟨w2, rb, e1, e2', hE1, rblk⟩ := new_block w1 #[.int .i64 0, .int .i64 0] 48
  have hrb : w.heap.size ≤ rb := by rw [← e2']; exact hE0.size
  have hpr : p0 ≠ rb := by rw [← e2']; omega
  have hqr : qp ≠ rb := by simp only at hqp; omega
  rw [e1, e2']
  clear e1 e2 e2' hp0 hqp
  have hE2 := hE0.trans hE1
  have HP := Lib.hid (hE1.heap pblk)
  have HPR := Lib.hid hpr
  have HQR := Lib.hid hqr
  have HRBN := Lib.hid hrb
  have r2 := hE2.cell q2
  have HRB := Lib.hid rblk
  clear pblk rblk q2 hpr hrb hqr
  go_upto_region 2 with fail
  clear r2
  go_loopg [10] ms.length (fun g i wr => ∃ k : Nat, k + g = ms.length ∧ i = .int .i64 k ∧ Turned rb w2 wr ∧ IsSpan wr rb (sumUpto ms (fun m => lo6 wh m p) k) (sumUpto ms (fun m => hi6 wh m p) k))
  case atStart => exact ⟨0, by omega, rfl, Turned.refl _ _, HRB.out⟩
  case round =>
    obtain ⟨k, hk, rfl, hT, hbl⟩ := hrel
    have HK := Lib.hid hk
    have HBL := Lib.hid hbl
    have hE : Ext w wr := hT.below hE2 HRBN.out
    by_cases hlt : k < ms.length
    · clear hk hbl
      have hx : ms[k]? = some ms[k] := List.getElem?_eq_getElem hlt
      have hrk : rateOf ms k = ms[k].rate := by rw [rateOf, hx]; rfl
      generalize ms[k] = y at hx hrk
      obtain ⟨bb, oo, hAe⟩ := HA.out.base (by omega)
      subst hAe
      obtain ⟨C, c, f0, f1, _, _⟩ := (HA.out.ext hE).at hx
      rw [← hrk] at f1
      have HRK := Lib.hid (HR.out k)
      have HN1 := Lib.hid (show sumUpto ms (fun m => lo6 wh m p) (k + 1) = sumUpto ms (fun m => lo6 wh m p) k + rateOf ms k * lo6 wh k p from rfl)
      have HN2 := Lib.hid (show sumUpto ms (fun m => hi6 wh m p) (k + 1) = sumUpto ms (fun m => hi6 wh m p) k + rateOf ms k * hi6 wh k p from rfl)
      have HM1 := Lib.hid (mul_small (HR.out k) (lo6_small HS.out k p))
      have HM2 := Lib.hid (mul_small (HR.out k) (hi6_small HS.out k p))
      clear hx hrk
      have hk3 : (k : Int) < ms.length := by omega
      have hk3n : k < 3 := by omega
      have hk3i : (k : Int) < 3 := by omega
      go_upto_region 4 with fail
      obtain ⟨wm, lb, e1, e2, hEm, lblk⟩ := new_block wr #[.slice C y.changes.length c, .int .i64 (rateOf ms k)] 44
      have hlr : lb ≠ rb := by rw [← e2]; have := blk_lt HBL.out; omega
      rw [e1, e2]
      clear e1 e2 f0 f1
      have l2 : wm.cell? ⟨lb, 1, none⟩ = some (.int .i64 (rateOf ms k)) := blk_at lblk 1 rfl
      have q0l := (hE.trans hEm).cell Q0.out
      have HPM := Lib.hid (hEm.heap (hT.heap_ HPR.out HP.out))
      have t0 := way_lo HPM.out H18.out (m := k) (k := p) hk3n hp
      have t1 := way_hi HPM.out H18.out (m := k) (k := p) hk3n hp
      have HB2 := Lib.hid (hEm.heap HBL.out)
      have g0 := IsSpan.c0 HB2.out
      have g2 := IsSpan.f HB2.out 0
      obtain ⟨m1, m2⟩ := HM1.out
      obtain ⟨m3, m4⟩ := HM2.out
      obtain ⟨m5, m6⟩ := HSL.out k
      obtain ⟨m7, m8⟩ := HSH.out k
      generalize hP1 : rateOf ms k * lo6 wh k p = pr1 at m1 m2
      generalize hP2 : rateOf ms k * hi6 wh k p = pr2 at m3 m4
      clear lblk
      go_cut [] (fun wc => Turned rb wm wc ∧ IsSpan wc rb (sumUpto ms (fun m => lo6 wh m p) k + pr1) (sumUpto ms (fun m => hi6 wh m p) k))
      case first =>
        go_region
        all_goals go_wp2_with fail
        all_goals go_meet
        all_goals exact ⟨((Turned.refl rb wm).set_ _ _).drew_, IsSpan.set0 HB2.out _⟩
      case rest =>
        obtain ⟨hTn, hB3⟩ := hcut
        obtain ⟨wn, rfl⟩ : ∃ z : World, z = wc := ⟨_, rfl⟩
        have HB3 := Lib.hid hB3
        have l3 := hTn.cell_ hlr l2
        have t2 := hTn.cell_ HPR.out t1
        have q3 := hTn.cell_ HQR.out q0l
        have g4 := IsSpan.c1 HB3.out
        have g5 := IsSpan.f HB3.out 1
        clear hB3 l2 t0 t1 g0 g2 q0l
        go_upto_region 5 with fail
        go_region
        all_goals go_wp2_with fail
        all_goals
          go_roundg (gk - 1)
          case measure => have := HK.out; omega
          case rel => exact ⟨k + 1, by have := HK.out; omega, by go_num, hT.trans ((Turned.of_ext hEm).trans (hTn.trans (((Turned.refl rb wn).set_ _ _).drew_))), by rw [HN1.out, HN2.out, hP1, hP2]; exact IsSpan.set1 HB3.out _⟩
    · obtain rfl : k = ms.length := by omega
      clear hk hbl
      have g0 := HBL.out.c0
      have g1 := HBL.out.c1
      have g2 := HBL.out.f 0
      have g3 := HBL.out.f 1
      go_wp2_with fail
      obtain ⟨wz, e, hEz, z0, z1⟩ := span_final hE HRBN.out HBL.out (sumUpto ms (fun m => lo6 wh m p) ms.length) (sumUpto ms (fun m => hi6 wh m p) ms.length)
      rw [e]
      exact bodyPost_ret (v := .agg #[.int .i64 (oldLo ms wh p), .int .i64 (oldHi ms wh p)]) (by simp [results, Try.results44, go_sem, z0, z1, oldLo, oldHi]) rfl ⟨rfl, hEz⟩
end Go.Proofs.Ytloenmikkkklhaa

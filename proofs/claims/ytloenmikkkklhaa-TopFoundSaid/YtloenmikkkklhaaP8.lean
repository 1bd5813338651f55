/-
  The layer 'copies': how many copies mix, in one way.
-/
import Derived.Test.YtloenmikkkklhaaP7
namespace Go.Proofs.Ytloenmikkkklhaa
open Go.RowKit

def rateOf (ms : List Machine) (k : Nat) : Int := (ms[k]?.getD ⟨[], 0⟩).rate
/-- What the machines add up to. -/
def sumUpto (ms : List Machine) (f : Nat → Int) : Nat → Int
  | 0 => 0
  | k + 1 => sumUpto ms f k + rateOf ms k * f k
theorem rate_small {pl last : Int} {ms : List Machine} {fs : List Found} (hv : OkRun pl last ms fs) (k : Nat) : 0 ≤ rateOf ms k ∧ rateOf ms k ≤ 9 := by
  unfold rateOf
  cases h : ms[k]? with
  | none => simp
  | some m => exact (hv.mach m (List.mem_of_getElem? h)).2.1
theorem mul_small {a b : Int} (ha : 0 ≤ a ∧ a ≤ 9) (hb : 0 ≤ b ∧ b ≤ 31) : 0 ≤ a * b ∧ a * b ≤ 279 := by
  obtain ⟨a1, a2⟩ := ha
  obtain ⟨b1, b2⟩ := hb
  refine ⟨Int.mul_nonneg a1 b1, ?_⟩
  calc a * b ≤ 9 * b := Int.mul_le_mul_of_nonneg_right a2 b1
    _ ≤ 279 := by omega
theorem sumUpto_small {ms : List Machine} {f : Nat → Int} (hr : ∀ k, 0 ≤ rateOf ms k ∧ rateOf ms k ≤ 9) (hf : ∀ k, 0 ≤ f k ∧ f k ≤ 31) : ∀ k, 0 ≤ sumUpto ms f k ∧ sumUpto ms f k ≤ 279 * k
  | 0 => by simp [sumUpto]
  | k + 1 => by
    have h1 := sumUpto_small hr hf k
    have h2 := mul_small (hr k) (hf k)
    simp only [sumUpto]
    omega

abbrev IsSpan (w : World) (g : Nat) (x y : Int) : Prop := w.heap[g]? = some (.cells #[.int .i64 x, .int .i64 y] 48 (0, 0))
theorem IsSpan.c0 {w : World} {g : Nat} {x y : Int} (h : IsSpan w g x y) : w.cell? ⟨g, 0, none⟩ = some (.int .i64 x) := blk_at h 0 rfl
theorem IsSpan.c1 {w : World} {g : Nat} {x y : Int} (h : IsSpan w g x y) : w.cell? ⟨g, 1, none⟩ = some (.int .i64 y) := blk_at h 1 rfl
theorem IsSpan.f {w : World} {g : Nat} {x y : Int} (h : IsSpan w g x y) (i : Nat) : w.frozen? ⟨g, i, none⟩ = false := blk_free h i
theorem IsSpan.set0 {w : World} {g : Nat} {x y : Int} (h : IsSpan w g x y) (a : Int) : IsSpan (w.setCell ⟨g, 0, none⟩ (.int .i64 a)) g a y := blk_put h 0 _
theorem IsSpan.set1 {w : World} {g : Nat} {x y : Int} (h : IsSpan w g x y) (a : Int) : IsSpan (w.setCell ⟨g, 1, none⟩ (.int .i64 a)) g x a := blk_put h 1 _
theorem set_turned (w : World) (g i : Nat) (v : Value) : ∃ w', w.setCell ⟨g, i, none⟩ v = w' ∧ Turned g w w' := ⟨_, rfl, (Turned.refl g w).set_ i v⟩

theorem span_final {w wr : World} {rb : Nat} {x y : Int} (hw : Ext w wr) (hb : w.heap.size ≤ rb) (h : IsSpan wr rb x y) (a b : Int) :
    ∃ wz, (wr.setCell ⟨rb, 0, none⟩ (.int .i64 a)).setCell ⟨rb, 1, none⟩ (.int .i64 b) = wz ∧ Ext w wz ∧ wz.cell? ⟨rb, 0, none⟩ = some (.int .i64 a) ∧ wz.cell? ⟨rb, 1, none⟩ = some (.int .i64 b) :=
  ⟨_, rfl, (((Turned.refl rb wr).set_ _ _).set_ _ _).below hw hb, ((h.set0 a).set1 b).c0, ((h.set0 a).set1 b).c1⟩

def mixLo (ms : List Machine) (wh : List Int) (pl : Nat) : Int := sumUpto ms (fun m => spreadLo wh m pl) ms.length
def mixHi (ms : List Machine) (wh : List Int) (pl : Nat) : Int := sumUpto ms (fun m => spreadHi wh m pl) ms.length

set_option maxRecDepth 100000 in
set_option maxHeartbeats 4000000 in
theorem mixes1_6 (pb pl : Nat) (A : Option Addr) (cm : Nat) (ms : List Machine) (v : Value) (hv1 : v.oneCell' = true) (wh : List Int) (w : World) (h18 : wh.length = 18) (hs : Small wh) (hpl : 1 ≤ pl ∧ pl ≤ 3) (hms : ms.length ≤ 3)
    (hr : ∀ k, 0 ≤ rateOf ms k ∧ rateOf ms k ≤ 9) (q0 : w.cell? ⟨pb, 0, none⟩ = some (.int .i64 pl)) (q2 : w.cell? ⟨pb, 2, none⟩ = some (.slice A ms.length cm)) (hA : RdMach w A ms) :
    Calls Try.prog 69 #[.agg (wayCells v wh), .pointer (some ⟨pb, 0, none⟩)] w
      fun e w' => e = .returned (.agg #[.int .i64 (mixLo ms wh pl), .int .i64 (mixHi ms wh pl)]) ∧ Ext w w' := by
  have H18 := Lib.hid h18
  have HS := Lib.hid hs
  have HPL := Lib.hid hpl
  have HR := Lib.hid hr
  have HA := Lib.hid hA
  have Q0 := Lib.hid q0
  have HSL := Lib.hid (sumUpto_small (f := fun m => spreadLo wh m pl) hr (fun k => spreadLo_small hs k pl))
  have HSH := Lib.hid (sumUpto_small (f := fun m => spreadHi wh m pl) hr (fun k => spreadHi_small hs k pl))
  have hm : (ms.length : Int) ≤ 9223372036854775807 := by omega
  clear hs hr hA hpl q0
  go_enter Try.func69, Try.ntmps69
  go_upto_region 1 with fail
  obtain ⟨w1, p0, e1, e2, hE0, pblk⟩ := new_block w (wayCells v wh) 94
  have e3 : w.heap.size + 1 = w1.heap.size := by rw [← e1]; simp
  have hp0 : p0 < w1.heap.size := blk_lt pblk
  rw [e3, e1, e2]
  clear e1 e2 e3
  obtain ⟨w2, rb, e1, e2, hE1, rblk⟩ := new_block w1 #[.int .i64 0, .int .i64 0] 48
  have hrb : w.heap.size ≤ rb := by rw [← e2]; exact hE0.size
  have hpr : p0 ≠ rb := by rw [← e2]; omega
  rw [e1, e2]
  clear e1 e2 hp0
  have hE2 := hE0.trans hE1
  have HP := Lib.hid (hE1.heap pblk)
  have HPR := Lib.hid hpr
  have HRBN := Lib.hid hrb
  have r2 := hE2.cell q2
  have HRB := Lib.hid rblk
  clear pblk rblk q2 hpr hrb
  go_upto_region 2 with fail
  clear r2
  go_loopg [10] ms.length (fun g i wr => ∃ k : Nat, k + g = ms.length ∧ i = .int .i64 k ∧ Turned rb w2 wr ∧ IsSpan wr rb (sumUpto ms (fun m => spreadLo wh m pl) k) (sumUpto ms (fun m => spreadHi wh m pl) k))
  case atStart => exact ⟨0, by omega, rfl, Turned.refl _ _, HRB.out⟩
  case round =>
    obtain ⟨k, hk, rfl, hT, hbl⟩ := hrel
    have HK := Lib.hid hk
    have HBL := Lib.hid hbl
    have hE : Ext w wr := hT.below hE2 HRBN.out
    by_cases hlt : k < ms.length
    · clear hk hbl
      have hx : ms[k]? = some ms[k] := List.getElem?_eq_getElem hlt
      have hrk : rateOf ms k = ms[k].rate := by rw [rateOf, hx]; rfl
      generalize ms[k] = y at hx hrk
      obtain ⟨bb, oo, hAe⟩ := HA.out.base (by omega)
      subst hAe
      obtain ⟨C, c, f0, f1, _, _⟩ := (HA.out.ext hE).at hx
      rw [← hrk] at f1
      have HRK := Lib.hid (HR.out k)
      have HN1 := Lib.hid (show sumUpto ms (fun m => spreadLo wh m pl) (k + 1) = sumUpto ms (fun m => spreadLo wh m pl) k + rateOf ms k * spreadLo wh k pl from rfl)
      have HN2 := Lib.hid (show sumUpto ms (fun m => spreadHi wh m pl) (k + 1) = sumUpto ms (fun m => spreadHi wh m pl) k + rateOf ms k * spreadHi wh k pl from rfl)
      have HM1 := Lib.hid (mul_small (HR.out k) (spreadLo_small HS.out k pl))
      have HM2 := Lib.hid (mul_small (HR.out k) (spreadHi_small HS.out k pl))
      clear hx hrk
      have hk3 : (k : Int) < ms.length := by omega
      have hk3n : k < 3 := by omega
      go_upto_region 4 with fail
      obtain ⟨wl, lb, e1, e2, hEl, lblk⟩ := new_block wr #[.slice C y.changes.length c, .int .i64 (rateOf ms k)] 44
      have hlr : lb ≠ rb := by rw [← e2]; have := blk_lt HBL.out; omega
      rw [e1, e2]
      clear e1 e2 f0 f1
      have l1 : wl.cell? ⟨lb, 1, none⟩ = some (.int .i64 (rateOf ms k)) := blk_at lblk 1 rfl
      have q0l := (hE.trans hEl).cell Q0.out
      clear lblk
      refine wp_region_lit ?_
      refine wpList_load_row rfl 94 (.tmp 2) rfl p0 rfl 94 _ (0, 0) _ (hEl.heap (hT.heap_ HPR.out HP.out)) Try.underlying94 rfl (by rw [info_way_size, way_size H18.out]) ?_
      simp only [Act.put]
      go_upto_region 5 with (go_at_call 48; refine (spread6 v hv1 wh k pl _ H18.out HS.out hk3n HPL.out).mono ?_; rintro e w' ⟨rfl, hE3⟩)
      have hrl := blk_lt HBL.out
      obtain ⟨wm, tb, e1, e2, hEm, tblk⟩ := new_block w' #[.int .i64 (spreadLo wh k pl), .int .i64 (spreadHi wh k pl)] 48
      have htr : tb ≠ rb := by rw [← e2]; have := hE3.size; have := hEl.size; omega
      rw [e1, e2]
      clear e1 e2 hrl
      have hEr : Ext wr wm := hEl.trans (hE3.trans hEm)
      have l2 := (hE3.trans hEm).cell l1
      have t0 : wm.cell? ⟨tb, 0, none⟩ = some (.int .i64 (spreadLo wh k pl)) := blk_at tblk 0 rfl
      have t1 : wm.cell? ⟨tb, 1, none⟩ = some (.int .i64 (spreadHi wh k pl)) := blk_at tblk 1 rfl
      have HB2 := Lib.hid (hEr.heap HBL.out)
      have g0 := IsSpan.c0 HB2.out
      have g2 := IsSpan.f HB2.out 0
      obtain ⟨m1, m2⟩ := HM1.out
      obtain ⟨m3, m4⟩ := HM2.out
      obtain ⟨m5, m6⟩ := HSL.out k
      obtain ⟨m7, m8⟩ := HSH.out k
      generalize hP1 : rateOf ms k * spreadLo wh k pl = pr1 at m1 m2
      generalize hP2 : rateOf ms k * spreadHi wh k pl = pr2 at m3 m4
      clear tblk l1 q0l
      go_upto_region 6 with fail
      obtain ⟨wn, e1, hTn⟩ := set_turned wm rb 0 (.int .i64 (sumUpto ms (fun m => spreadLo wh m pl) k + pr1))
      have HB3 := Lib.hid (IsSpan.set0 HB2.out (sumUpto ms (fun m => spreadLo wh m pl) k + pr1))
      rw [e1] at HB3 ⊢
      have l3 := hTn.cell_ hlr l2
      have t2 := hTn.cell_ htr t1
      have g4 := IsSpan.c1 HB3.out
      have g5 := IsSpan.f HB3.out 1
      have HE1 := Lib.hid e1
      clear e1 l2 t0 t1 g0 g2
      go_wp2_with fail
      obtain ⟨wo, e1, hTo⟩ := set_turned wn rb 1 (.int .i64 (sumUpto ms (fun m => spreadHi wh m pl) k + pr2))
      have HB4 := Lib.hid (IsSpan.set1 HB3.out (sumUpto ms (fun m => spreadHi wh m pl) k + pr2))
      rw [e1] at HB4 ⊢
      go_roundg (gk - 1)
      case measure => have := HK.out; omega
      case rel => exact ⟨k + 1, by have := HK.out; omega, by go_num, hT.trans ((Turned.of_ext hEr).trans (hTn.trans hTo)), by rw [HN1.out, HN2.out, hP1, hP2]; exact HB4.out⟩
    · obtain rfl : k = ms.length := by omega
      clear hk hbl
      have g0 := HBL.out.c0
      have g1 := HBL.out.c1
      have g2 := HBL.out.f 0
      have g3 := HBL.out.f 1
      go_wp2_with fail
      obtain ⟨wz, e, hEz, z0, z1⟩ := span_final hE HRBN.out HBL.out (sumUpto ms (fun m => spreadLo wh m pl) ms.length) (sumUpto ms (fun m => spreadHi wh m pl) ms.length)
      rw [e]
      exact bodyPost_ret (v := .agg #[.int .i64 (mixLo ms wh pl), .int .i64 (mixHi ms wh pl)]) (by simp [results, Try.results69, go_sem, z0, z1, mixLo, mixHi]) rfl ⟨rfl, hEz⟩
end Go.Proofs.Ytloenmikkkklhaa

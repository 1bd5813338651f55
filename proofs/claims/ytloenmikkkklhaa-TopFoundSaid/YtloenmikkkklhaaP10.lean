/-
  The layer 'copies': mixes, Mixes.
-/
import Derived.Test.YtloenmikkkklhaaP9
namespace Go.Proofs.Ytloenmikkkklhaa
open Go.RowKit

theorem enters_mixes1 : Enters Try.prog 69 := enters_of Try.func69 (by kernel_rfl) rfl
/-- Between how many copies mix. -/
def mixesLo (ms : List Machine) (L : List Way) (pl : Nat) : Int := hullLo (fun x => mixLo ms x.when_ pl) L L.length
def mixesHi (ms : List Machine) (L : List Way) (pl : Nat) : Int := hullHi (fun x => mixHi ms x.when_ pl) L L.length

set_option maxRecDepth 100000 in
set_option maxHeartbeats 4000000 in
theorem mixes6 (pl : Nat) (last : Int) (A B : Option Addr) (ms : List Machine) (fs : List Found) (cm ck : Nat) (D : Option Addr) (cd : Nat) (L : List Way) (w : World) (hv : OkRun pl last ms fs) (hA : RdMach w A ms)
    (h1 : 0 < L.length) (h2 : L.length ≤ 729) (hL : ∀ x ∈ L, x.when_.length = 18 ∧ Small x.when_) (hD : RdWay w D L) :
    Calls Try.prog 47 #[.agg #[.int .i64 pl, .int .i64 last, .slice A ms.length cm, .slice B fs.length ck], .slice D L.length cd] w
      fun e w' => e = .returned (.agg #[.int .i64 (mixesLo ms L pl), .int .i64 (mixesHi ms L pl)]) ∧ Ext w w' := by
  have HV := Lib.hid hv
  have HA := Lib.hid hA
  have HD := Lib.hid hD
  have HL := Lib.hid hL
  clear hv hA hD hL
  go_enter Try.func47, Try.ntmps47
  go_upto_region 1 with fail
  obtain ⟨w1, p0, e1, e2, hE0, pblk⟩ := new_block w #[.int .i64 pl, .int .i64 last, .slice A ms.length cm, .slice B fs.length ck] 41
  have e3 : w.heap.size + 1 = w1.heap.size := by rw [← e1]; simp
  rw [e3, e1, e2]
  clear e1 e2 e3
  obtain ⟨w2, rb, e1, e2, hE1, rblk⟩ := new_block w1 #[.int .i64 0, .int .i64 0] 48
  have hrb : w.heap.size ≤ rb := by rw [← e2]; exact hE0.size
  rw [e1, e2]
  clear e1 e2
  have hE2 := hE0.trans hE1
  have r0 : w2.cell? ⟨p0, 0, none⟩ = some (.int .i64 pl) := hE1.cell (blk_at pblk 0 rfl)
  have r2 : w2.cell? ⟨p0, 2, none⟩ = some (.slice A ms.length cm) := hE1.cell (blk_at pblk 2 rfl)
  have HRB := Lib.hid rblk
  have hsp : SpanX 69 #[.pointer (some ⟨p0, 0, none⟩)] (fun x => mixLo ms x.when_ pl) (fun x => mixHi ms x.when_ pl) L w2 := fun W x hx A1 c hW =>
    mixes1_6 p0 pl A cm ms (.slice A1 x.from_.length c) rfl x.when_ W (HL.out x hx).1 (HL.out x hx).2 (by have := HV.out.hpl; omega) HV.out.hms.2 (fun k => rate_small HV.out k) (hW.cell r0) (hW.cell r2) (HA.out.ext (hE2.trans hW))
  have HSP := Lib.hid (hull6 69 #[.pointer (some ⟨p0, 0, none⟩)] _ _ D cd L w2 enters_mixes1 h1 h2 (HD.out.ext hE2) hsp)
  have HRBN := Lib.hid hrb
  have g0 := IsSpan.c0 HRB.out
  have g1 := IsSpan.c1 HRB.out
  have g2 := IsSpan.f HRB.out 0
  have g3 := IsSpan.f HRB.out 1
  clear pblk rblk r0 r2 hsp hrb
  go_wp2_with (go_at_call 42; refine HSP.out.mono ?_; rintro e w' ⟨rfl, hE3⟩; have g4 := IsSpan.c0 (hE3.heap HRB.out); have g5 := IsSpan.c1 (hE3.heap HRB.out); have g6 := IsSpan.f (hE3.heap HRB.out) 0; have g7 := IsSpan.f (hE3.heap HRB.out) 1)
  obtain ⟨wz, e, hEz, z0, z1⟩ := span_final (hE2.trans hE3) HRBN.out (hE3.heap HRB.out) (mixesLo ms L pl) (mixesHi ms L pl)
  have e' := e
  unfold mixesLo mixesHi at e'
  rw [e']
  exact bodyPost_ret (v := .agg #[.int .i64 (mixesLo ms L pl), .int .i64 (mixesHi ms L pl)]) (by simp [results, Try.results47, go_sem, z0, z1]) rfl ⟨rfl, hEz⟩

set_option maxRecDepth 100000 in
set_option maxHeartbeats 4000000 in
theorem Mixes6 (pl : Nat) (last : Int) (A B : Option Addr) (ms : List Machine) (fs : List Found) (cm ck : Nat) (w : World) (hv : OkRun pl last ms fs) (hA : RdMach w A ms) (hB : RdFound w B fs)
    (h1 : 0 < (waysOf ms fs).length) :
    Calls Try.prog 20 #[.agg #[.int .i64 pl, .int .i64 last, .slice A ms.length cm, .slice B fs.length ck]] w
      fun e w' => e = .returned (.tuple #[.agg #[.int .i64 (mixesLo ms (waysOf ms fs) pl), .int .i64 (mixesHi ms (waysOf ms fs) pl)], .int .i64 0]) ∧ Ext w w' := by
  have hln : (waysOf ms fs).length ≤ 729 := Nat.le_trans (waysUpto_length ms fs (fun c hc => (hv.found c hc).2.2.1.2) _) (Nat.le_trans (Nat.pow_le_pow_right (by omega) (show fs.length ≤ 6 from hv.hfs)) (by decide))
  have HV := Lib.hid hv
  have HA := Lib.hid hA
  have HB := Lib.hid hB
  clear hv hA hB
  go_enter Try.func20, Try.ntmps20
  go_upto_region 1 with fail
  obtain ⟨w1, p0, e1, e2, hE0, pblk⟩ := new_block w #[.int .i64 pl, .int .i64 last, .slice A ms.length cm, .slice B fs.length ck] 41
  have e3 : w.heap.size + 1 = w1.heap.size := by rw [← e1]; simp
  rw [e3, e1, e2]
  clear e1 e2 e3
  obtain ⟨w2, rb, e1, e2, hE1, rblk⟩ := new_block w1 #[.int .i64 0, .int .i64 0] 48
  have hrb : w.heap.size ≤ rb := by rw [← e2]; exact hE0.size
  rw [e1, e2]
  clear e1 e2
  have hE2 := hE0.trans hE1
  have r0 : w2.cell? ⟨p0, 0, none⟩ = some (.int .i64 pl) := hE1.cell (blk_at pblk 0 rfl)
  have r1 : w2.cell? ⟨p0, 1, none⟩ = some (.int .i64 last) := hE1.cell (blk_at pblk 1 rfl)
  have r2 : w2.cell? ⟨p0, 2, none⟩ = some (.slice A ms.length cm) := hE1.cell (blk_at pblk 2 rfl)
  have r3 : w2.cell? ⟨p0, 3, none⟩ = some (.slice B fs.length ck) := hE1.cell (blk_at pblk 3 rfl)
  have HRB := Lib.hid rblk
  have HRBN := Lib.hid hrb
  clear pblk rblk hrb
  go_upto_region 4 with (go_at_call 39; refine (open6 pl last A B ms fs cm ck _ HV.out (HA.out.ext hE2) (HB.out.ext hE2) h1).mono ?_; rintro e w3 ⟨D, cd, rfl, hcd, hD, hE3⟩)
  have s0 := hE3.cell r0
  have s1 := hE3.cell r1
  have s2 := hE3.cell r2
  have s3 := hE3.cell r3
  have HD := Lib.hid hD
  have HRB3 := Lib.hid (hE3.heap HRB.out)
  clear hD hcd r0 r1 r2 r3
  go_wp2_with (go_at_call 47; refine (mixes6 pl last A B ms fs cm ck D cd _ _ HV.out (HA.out.ext (hE2.trans hE3)) h1 hln (fun x hx => ⟨(waysOf_ok ms fs x hx).1, waysOf_small HV.out x hx⟩) HD.out).mono ?_; rintro e w' ⟨rfl, hE4⟩; have g4 := IsSpan.c0 (hE4.heap HRB3.out); have g5 := IsSpan.c1 (hE4.heap HRB3.out); have g6 := IsSpan.f (hE4.heap HRB3.out) 0; have g7 := IsSpan.f (hE4.heap HRB3.out) 1)
  obtain ⟨wz, e, hEz, z0, z1⟩ := span_final (hE2.trans (hE3.trans hE4)) HRBN.out (hE4.heap HRB3.out) (mixesLo ms (waysOf ms fs) pl) (mixesHi ms (waysOf ms fs) pl)
  rw [e]
  exact bodyPost_ret (v := .tuple #[.agg #[.int .i64 (mixesLo ms (waysOf ms fs) pl), .int .i64 (mixesHi ms (waysOf ms fs) pl)], .int .i64 0]) (by simp [results, Try.results20, go_sem, z0, z1]) rfl ⟨rfl, hEz⟩
end Go.Proofs.Ytloenmikkkklhaa

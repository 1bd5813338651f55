/-
  The layer 'copies': Mixed, of a run that can be in one way alone.
-/
import Derived.Test.YtloenmikkkklhaaP12
namespace Go.Proofs.Ytloenmikkkklhaa
open Go.RowKit

theorem open6x (pl last : Int) (A B : Option Addr) (ms : List Machine) (fs : List Found) (cm ck : Nat) (x : Way) (w : World) (hv : OkRun pl last ms fs) (hw : waysOf ms fs = [x]) (hA : RdMach w A ms) (hB : RdFound w B fs) :
    Calls Try.prog 39 #[.agg #[.int .i64 pl, .int .i64 last, .slice A ms.length cm, .slice B fs.length ck], .bool true] w
      fun e w' => ∃ D cd, e = .returned (.tuple #[.slice D 1 cd, .int .i64 0]) ∧ RdWay w' D [x] ∧ Ext w w' := by
  refine (open6 pl last A B ms fs cm ck w hv hA hB (by rw [hw]; simp)).mono ?_
  rintro e w' ⟨D, cd, h1, _, h2, h3⟩
  rw [hw] at h1 h2
  exact ⟨D, cd, h1, h2, h3⟩

def mixedOf (lo hi : Int) : Int := if 0 < lo then 1 else if hi = 0 then 2 else 3

set_option maxRecDepth 100000 in
set_option maxHeartbeats 4000000 in
theorem Mixed6 (pl : Nat) (last : Int) (A B : Option Addr) (ms : List Machine) (fs : List Found) (cm ck m : Nat) (x : Way) (w : World) (hv : OkRun pl last ms fs) (hw : waysOf ms fs = [x]) (hA : RdMach w A ms) (hB : RdFound w B fs) (hm : m < ms.length) :
    Calls Try.prog 21 #[.agg #[.int .i64 pl, .int .i64 last, .slice A ms.length cm, .slice B fs.length ck], .int .i64 m] w
      fun e w' => e = .returned (.tuple #[.int .i64 (mixedOf (spreadLo x.when_ m pl) (spreadHi x.when_ m pl)), .int .i64 0]) ∧ Ext w w' := by
  have hmem : x ∈ waysOf ms fs := by rw [hw]; simp
  have h18 : x.when_.length = 18 := (waysOf_ok ms fs x hmem).1
  have HS := Lib.hid (waysOf_small hv x hmem)
  have HA := Lib.hid hA
  have HB := Lib.hid hB
  have HPL := Lib.hid (show 1 ≤ pl ∧ pl ≤ 3 by have := hv.hpl; omega)
  have hm3 : m < 3 := by have := hv.hms; omega
  have im : inB (m : Int) 0 ((ms.length : Int) - 1) = true := inB_iff.2 ⟨by omega, by omega⟩
  have hmI : (ms.length : Int) ≤ 9223372036854775807 := by have := hv.hms; omega
  have IM : Hid (∀ W, Calls Try.prog 40 #[.agg #[.int .i64 pl, .int .i64 last, .slice A ms.length cm, .slice B fs.length ck], .int .i64 m] W fun e w' => e = .returned (.bool true) ∧ Ext W w') := Lib.hid fun W => by
    have h := isMachine6 pl last A B ms.length cm fs.length ck m W hmI
    rwa [im] at h
  have OP : Hid (∀ W, Ext w W → Calls Try.prog 39 #[.agg #[.int .i64 pl, .int .i64 last, .slice A ms.length cm, .slice B fs.length ck], .bool true] W
      fun e w' => ∃ D cd, e = .returned (.tuple #[.slice D 1 cd, .int .i64 0]) ∧ RdWay w' D [x] ∧ Ext W w') := Lib.hid fun W hW => open6x pl last A B ms fs cm ck x W hv hw (HA.out.ext hW) (HB.out.ext hW)
  clear hv hA hB im hmem hw
  go_enter Try.func21, Try.ntmps21
  go_upto_region 1 with fail
  obtain ⟨w1, p0, e1, e2, hE0, hrun⟩ := new_run w pl last A B ms.length cm fs.length ck
  rw [e1, e2]
  clear e1 e2
  have hS0 : (Ext w1 w1.drew ∧ w1.drew.cell? ⟨p0, 0, none⟩ = some (.int .i64 pl) ∧ w1.drew.cell? ⟨p0, 1, none⟩ = some (.int .i64 last) ∧ w1.drew.cell? ⟨p0, 2, none⟩ = some (.slice A ms.length cm) ∧ w1.drew.cell? ⟨p0, 3, none⟩ = some (.slice B fs.length ck)) := hrun.ext (Ext.drew _)
  have HSX : Hid (∀ a b : World, (Ext w1 a ∧ a.cell? ⟨p0, 0, none⟩ = some (.int .i64 pl) ∧ a.cell? ⟨p0, 1, none⟩ = some (.int .i64 last) ∧ a.cell? ⟨p0, 2, none⟩ = some (.slice A ms.length cm) ∧ a.cell? ⟨p0, 3, none⟩ = some (.slice B fs.length ck)) → Ext a b → (Ext w1 b ∧ b.cell? ⟨p0, 0, none⟩ = some (.int .i64 pl) ∧ b.cell? ⟨p0, 1, none⟩ = some (.int .i64 last) ∧ b.cell? ⟨p0, 2, none⟩ = some (.slice A ms.length cm) ∧ b.cell? ⟨p0, 3, none⟩ = some (.slice B fs.length ck))) := Lib.hid fun a b h he => ⟨h.1.trans he, he.cell h.2.1, he.cell h.2.2.1, he.cell h.2.2.2.1, he.cell h.2.2.2.2⟩
  have HS0 := Lib.hid hS0
  clear hrun hS0
  go_region_held3 (fun w' => (Ext w1 w' ∧ w'.cell? ⟨p0, 0, none⟩ = some (.int .i64 pl) ∧ w'.cell? ⟨p0, 1, none⟩ = some (.int .i64 last) ∧ w'.cell? ⟨p0, 2, none⟩ = some (.slice A ms.length cm) ∧ w'.cell? ⟨p0, 3, none⟩ = some (.slice B fs.length ck)))
    (first | exact HS0.out | exact HS1.out | exact HS2.out)
    (first | (go_at_call 40; refine (IM.out _).mono ?_; rintro e wx ⟨rfl, hE3⟩; have HS1 := Lib.hid (HSX.out _ _ HS0.out hE3)) | (go_at_call 39; refine (OP.out _ (hE0.trans HS1.out.1)).mono ?_; rintro e wy ⟨D, cd, rfl, hD, hE4⟩; have HS2 := Lib.hid (HSX.out _ _ HS1.out hE4)))
  obtain ⟨db, do_, hDe⟩ := hD.base (by simp)
  subst hDe
  have HD := Lib.hid hD
  have hEw : Ext w wy := hE0.trans HS2.out.1
  have HEW := Lib.hid hEw
  clear hD hE3 hE4 HS0 HS1 HSX
  generalize hlo : spreadLo x.when_ m pl = lo
  generalize hhi : spreadHi x.when_ m pl = hi
  have HLO := Lib.hid hlo
  have HHI := Lib.hid hhi
  clear hlo hhi
  go_upto_region 6 with fail
  go_loopg [8, 9, 26] 1 (fun g a b i wr => ∃ k : Nat, k + g = 1 ∧ i = .int .i64 k ∧ a = .int .i64 (if k = 0 then 0 else if 0 < lo then 1 else 0) ∧ b = .int .i64 (if k = 0 then 0 else if 0 < lo then 0 else if hi = 0 then 1 else 0) ∧ Ext wy wr)
  case atStart => exact ⟨0, by omega, rfl, rfl, rfl, Ext.refl _⟩
  case round =>
    obtain ⟨k, hk, rfl, rfl, rfl, hE⟩ := hrel
    by_cases hlt : k < 1
    · obtain rfl : k = 0 := by omega
      obtain rfl : gk = 1 := by omega
      clear hk hlt
      rw [if_pos rfl, if_pos rfl]
      obtain ⟨cs, ⟨A1, ca, rfl, _, _, _, _⟩, _, hcell⟩ := (HD.out.ext hE).at (i := 0) (x := x) rfl
      have HR : wr.rangeAt db (do_ + 0 * 19) (.slice A1 x.from_.length ca :: x.when_.map (Value.int .i64)) := fun j v hv => hcell j v hv
      have HR := Lib.hid HR
      clear hcell
      go_upto_region 7 with fail
      refine wp_region_lit ?_
      refine wpList_plain rfl (fun K hK => ?_)
      go_simp
      refine hK _ _ ?_
      clear hK K
      refine wpList_load_mid rfl 94 (.tmp 28) rfl db (do_ + 0 * 19) (by rw [Nat.zero_mul]; rfl) _ _ HR.out Try.underlying94 rfl (by rw [info_way_size]; simp [h18]) ?_
      refine wpList_plain rfl (fun K hK => ?_)
      go_simp
      refine hK _ _ ?_
      clear hK K
      refine wpList_store_blk rfl 94 (.tmp 11) (.tmp 29) rfl wr.heap.size 94 _ _ rfl rfl (heap_alloc_new wr _) (by rw [info_way_size]; simp [h18]) (by simp [h18]) (by simp [Value.oneCell']) ?_
      intro wp hTp hblkp
      simp only [Act.put]
      have hEp : Ext wr wp := hTp.below (Ext.alloc _ _) (Nat.le_refl _)
      have hblkp2 : wp.heap[wr.heap.size]? = some (.cells (wayCells (.slice A1 x.from_.length ca) x.when_) 94 (0, 0)) := hblkp
      generalize wr.heap.size = pb at hblkp2 ⊢
      have HBP := Lib.hid hblkp2
      have hEyp := hE.trans hEp
      have s0 := hEyp.cell HS2.out.2.1
      clear hTp hblkp hblkp2
      go_upto_region 8 with fail
      refine wp_region_lit ?_
      refine wpList_load_row rfl 94 (.tmp 11) rfl pb rfl 94 _ (0, 0) _ HBP.out Try.underlying94 rfl (by rw [info_way_size, way_size h18]) ?_
      simp only [Act.put]
      go_upto_region 9 with (go_at_call 48; refine (spread6 _ rfl x.when_ m pl _ h18 HS.out hm3 HPL.out).mono ?_; rintro e w5 ⟨rfl, hE5⟩; rw [HLO.out, HHI.out])
      obtain ⟨w6, tb, e1, e2, hE6, tblk⟩ := new_block w5 #[.int .i64 lo, .int .i64 hi] 48
      rw [e1, e2]
      clear e1 e2
      have t0 : w6.cell? ⟨tb, 0, none⟩ = some (.int .i64 lo) := blk_at tblk 0 rfl
      have t1 : w6.cell? ⟨tb, 1, none⟩ = some (.int .i64 hi) := blk_at tblk 1 rfl
      have hEf := hEyp.trans (hE5.trans hE6)
      clear tblk
      by_cases q1 : 0 < lo
      · have q2 : decide (lo > 0) = true := by simpa using q1
        go_wp2_with fail
        go_roundg 0
        case measure => omega
        case rel => exact ⟨1, by omega, by go_num, by rw [if_neg (by omega), if_pos q1], by rw [if_neg (by omega), if_pos q1], hEf⟩
      · by_cases q3 : hi = 0
        · have q4 : (hi == 0) = true := by simpa using q3
          go_wp2_with fail
          go_roundg 0
          case measure => omega
          case rel => exact ⟨1, by omega, by go_num, by rw [if_neg (by omega), if_neg (show ¬ 0 < lo by omega)], by rw [if_neg (by omega), if_neg (show ¬ 0 < lo by omega), if_pos q3], hEf⟩
        · have q4 : (hi == 0) = false := by simpa using q3
          go_wp2_with fail
          go_roundg 0
          case measure => omega
          case rel => exact ⟨1, by omega, by go_num, by rw [if_neg (by omega), if_neg (show ¬ 0 < lo by omega)], by rw [if_neg (by omega), if_neg (show ¬ 0 < lo by omega), if_neg (show ¬ hi = 0 by omega)], hEf⟩
    · obtain rfl : k = 1 := by omega
      clear hk hlt
      rw [if_neg (show ¬ (1 : Nat) = 0 by omega), if_neg (show ¬ (1 : Nat) = 0 by omega)]
      have hkn : mixedOf lo hi = knownOf (if 0 < lo then 1 else 0) (if 0 < lo then 0 else if hi = 0 then 1 else 0) 1 := by
        unfold mixedOf knownOf
        split
        · simp
        · split <;> simp
      have HKN := Lib.hid hkn
      clear hkn
      generalize (if 0 < lo then (1 : Int) else 0) = so at HKN ⊢
      generalize (if 0 < lo then (0 : Int) else if hi = 0 then 1 else 0) = no at HKN ⊢
      go_wp2_with (go_at_call 46; refine (known6 _ _ _ _).mono ?_; rintro e w' ⟨rfl, rfl⟩)
      go_ret2
      exact ⟨by rw [HLO.out, HHI.out, HKN.out]; rfl, HEW.out.trans hE⟩
end Go.Proofs.Ytloenmikkkklhaa

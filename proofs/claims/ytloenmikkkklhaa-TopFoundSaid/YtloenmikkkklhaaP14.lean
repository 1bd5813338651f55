/-
  The layer 'copies': Read, of a run that can be in one way alone.
-/
import Derived.Test.YtloenmikkkklhaaP13
namespace Go.Proofs.Ytloenmikkkklhaa
open Go.RowKit

def readOf (lo hi minute : Int) : Int := if hi ≤ minute then 1 else if minute < lo then 2 else 3

set_option maxRecDepth 100000 in
set_option maxHeartbeats 4000000 in
theorem Read6 (pl : Nat) (last : Int) (A B : Option Addr) (ms : List Machine) (fs : List Found) (cm ck m f p : Nat) (c : Found) (x : Way) (w : World) (hv : OkRun pl last ms fs) (hw : waysOf ms fs = [x]) (hA : RdMach w A ms) (hB : RdFound w B fs) (hm3 : m < 3) (hf : fs[f]? = some c) (hxf : x.from_[f]? = some (m : Int)) (hp : p < pl) :
    Calls Try.prog 19 #[.agg #[.int .i64 pl, .int .i64 last, .slice A ms.length cm, .slice B fs.length ck], .int .i64 f, .int .i64 p] w
      fun e w' => e = .returned (.tuple #[.int .i64 (readOf (lo6 x.when_ m p) (hi6 x.when_ m p) c.minute), .int .i64 0]) ∧ Ext w w' := by
  have hmem : x ∈ waysOf ms fs := by rw [hw]; simp
  have h18 : x.when_.length = 18 := (waysOf_ok ms fs x hmem).1
  have HS := Lib.hid (waysOf_small hv x hmem)
  have HA := Lib.hid hA
  have HB := Lib.hid hB
  have HPL := Lib.hid (show 1 ≤ pl ∧ pl ≤ 3 by have := hv.hpl; omega)
  have hfl : f < fs.length := (List.getElem?_eq_some_iff.1 hf).1
  have hxl : f < x.from_.length := (List.getElem?_eq_some_iff.1 hxf).1
  have im : inB (f : Int) 0 ((fs.length : Int) - 1) = true := inB_iff.2 ⟨by omega, by omega⟩
  have ip : inB (p : Int) 0 ((pl : Int) - 1) = true := inB_iff.2 ⟨by omega, by omega⟩
  have hpl1 : (1 : Int) ≤ pl := by have := hv.hpl; omega
  have hpl2 : (pl : Int) ≤ 3 := by have := hv.hpl; omega
  have hp3 : p < 3 := by omega
  have hp3i : (p : Int) < 3 := by omega
  have hm3i : (m : Int) < 3 := by omega
  have hfi : (f : Int) < fs.length := by omega
  have hfxi : (f : Int) < x.from_.length := by omega
  have hxl6 : x.from_.length ≤ 6 := by have := (waysOf_ok ms fs x hmem).2; have := hv.hfs; omega
  have IP : Hid (∀ W, Calls Try.prog 41 #[.agg #[.int .i64 pl, .int .i64 last, .slice A ms.length cm, .slice B fs.length ck], .int .i64 p] W fun e w' => e = .returned (.bool true) ∧ Ext W w') := Lib.hid fun W => by
    have h := isPlate6 pl last A B ms.length cm fs.length ck p W hpl1 hpl2
    rwa [ip] at h
  have hmI : (fs.length : Int) ≤ 9223372036854775807 := by have := hv.hfs; omega
  have IM : Hid (∀ W, Calls Try.prog 45 #[.agg #[.int .i64 pl, .int .i64 last, .slice A ms.length cm, .slice B fs.length ck], .int .i64 f] W fun e w' => e = .returned (.bool true) ∧ Ext W w') := Lib.hid fun W => by
    have h := isFound6 pl last A B ms.length cm fs.length ck f W hmI
    rwa [im] at h
  have OP : Hid (∀ W, Ext w W → Calls Try.prog 39 #[.agg #[.int .i64 pl, .int .i64 last, .slice A ms.length cm, .slice B fs.length ck], .bool true] W
      fun e w' => ∃ D cd, e = .returned (.tuple #[.slice D 1 cd, .int .i64 0]) ∧ RdWay w' D [x] ∧ Ext W w') := Lib.hid fun W hW => open6x pl last A B ms fs cm ck x W hv hw (HA.out.ext hW) (HB.out.ext hW)
  have HF := Lib.hid hf
  have HXF := Lib.hid hxf
  clear hv hA hB im ip hmem hw hf hxf
  go_enter Try.func19, Try.ntmps19
  go_upto_region 1 with fail
  obtain ⟨w1, p0, e1, e2, hE0, hrun⟩ := new_run w pl last A B ms.length cm fs.length ck
  rw [e1, e2]
  clear e1 e2
  have hS0 : (Ext w1 w1.drew ∧ w1.drew.cell? ⟨p0, 0, none⟩ = some (.int .i64 pl) ∧ w1.drew.cell? ⟨p0, 1, none⟩ = some (.int .i64 last) ∧ w1.drew.cell? ⟨p0, 2, none⟩ = some (.slice A ms.length cm) ∧ w1.drew.cell? ⟨p0, 3, none⟩ = some (.slice B fs.length ck)) := hrun.ext (Ext.drew _)
  have HSX : Hid (∀ a b : World, (Ext w1 a ∧ a.cell? ⟨p0, 0, none⟩ = some (.int .i64 pl) ∧ a.cell? ⟨p0, 1, none⟩ = some (.int .i64 last) ∧ a.cell? ⟨p0, 2, none⟩ = some (.slice A ms.length cm) ∧ a.cell? ⟨p0, 3, none⟩ = some (.slice B fs.length ck)) → Ext a b → (Ext w1 b ∧ b.cell? ⟨p0, 0, none⟩ = some (.int .i64 pl) ∧ b.cell? ⟨p0, 1, none⟩ = some (.int .i64 last) ∧ b.cell? ⟨p0, 2, none⟩ = some (.slice A ms.length cm) ∧ b.cell? ⟨p0, 3, none⟩ = some (.slice B fs.length ck))) := Lib.hid fun a b h he => ⟨h.1.trans he, he.cell h.2.1, he.cell h.2.2.1, he.cell h.2.2.2.1, he.cell h.2.2.2.2⟩
  have HS0 := Lib.hid hS0
  clear hrun hS0
  go_region_held3 (fun w' => (Ext w1 w' ∧ w'.cell? ⟨p0, 0, none⟩ = some (.int .i64 pl) ∧ w'.cell? ⟨p0, 1, none⟩ = some (.int .i64 last) ∧ w'.cell? ⟨p0, 2, none⟩ = some (.slice A ms.length cm) ∧ w'.cell? ⟨p0, 3, none⟩ = some (.slice B fs.length ck)))
    (first | exact HS0.out | exact HS1.out | exact HS2.out | exact HS3.out)
    (first | (go_at_call 45; refine (IM.out _).mono ?_; rintro e wv ⟨rfl, hE2m⟩; have HS3 := Lib.hid (HSX.out _ _ HS0.out hE2m)) | (go_at_call 41; refine (IP.out _).mono ?_; rintro e wx ⟨rfl, hE3⟩; have HS1 := Lib.hid (HSX.out _ _ HS3.out hE3)) | (go_at_call 39; refine (OP.out _ (hE0.trans HS1.out.1)).mono ?_; rintro e wy ⟨D, cd, rfl, hD, hE4⟩; have HS2 := Lib.hid (HSX.out _ _ HS1.out hE4)))
  obtain ⟨db, do_, hDe⟩ := hD.base (by simp)
  subst hDe
  have HD := Lib.hid hD
  have hEw : Ext w wy := hE0.trans HS2.out.1
  have HEW := Lib.hid hEw
  clear hD hE2m hE3 hE4 HS0 HS1 HS3 HSX
  generalize hlo : lo6 x.when_ m p = lo
  generalize hhi : hi6 x.when_ m p = hi
  have HLO := Lib.hid hlo
  have HHI := Lib.hid hhi
  clear hlo hhi
  go_upto_region 6 with fail
  go_loopg [10, 11, 34] 1 (fun g a b i wr => ∃ k : Nat, k + g = 1 ∧ i = .int .i64 k ∧ a = .int .i64 (if k = 0 then 0 else if hi ≤ c.minute then 1 else 0) ∧ b = .int .i64 (if k = 0 then 0 else if hi ≤ c.minute then 0 else if c.minute < lo then 1 else 0) ∧ Ext wy wr)
  case atStart => exact ⟨0, by omega, rfl, rfl, rfl, Ext.refl _⟩
  case round =>
    obtain ⟨k, hk, rfl, rfl, rfl, hE⟩ := hrel
    by_cases hlt : k < 1
    · obtain rfl : k = 0 := by omega
      obtain rfl : gk = 1 := by omega
      clear hk hlt
      rw [if_pos rfl, if_pos rfl]
      obtain ⟨cs, ⟨A1, ca, rfl, _, _, hRI, _⟩, _, hcell⟩ := (HD.out.ext hE).at (i := 0) (x := x) rfl
      have HR : wr.rangeAt db (do_ + 0 * 19) (.slice A1 x.from_.length ca :: x.when_.map (Value.int .i64)) := fun j v hv => hcell j v hv
      have HR := Lib.hid HR
      clear hcell
      go_upto_region 7 with fail
      refine wp_region_lit ?_
      refine wpList_plain rfl (fun K hK => ?_)
      go_simp
      refine hK _ _ ?_
      clear hK K
      refine wpList_load_mid rfl 94 (.tmp 36) rfl db (do_ + 0 * 19) (by rw [Nat.zero_mul]; rfl) _ _ HR.out Try.underlying94 rfl (by rw [info_way_size]; simp [h18]) ?_
      refine wpList_plain rfl (fun K hK => ?_)
      go_simp
      refine hK _ _ ?_
      clear hK K
      refine wpList_store_blk rfl 94 (.tmp 13) (.tmp 37) rfl wr.heap.size 94 _ _ rfl rfl (heap_alloc_new wr _) (by rw [info_way_size]; simp [h18]) (by simp [h18]) (by simp [Value.oneCell']) ?_
      intro wp hTp hblkp
      simp only [Act.put]
      have hEp : Ext wr wp := hTp.below (Ext.alloc _ _) (Nat.le_refl _)
      have hblkp2 : wp.heap[wr.heap.size]? = some (.cells (wayCells (.slice A1 x.from_.length ca) x.when_) 94 (0, 0)) := hblkp
      generalize wr.heap.size = pb at hblkp2 ⊢
      have HBP := Lib.hid hblkp2
      have hEyp := hE.trans hEp
      have s3 := hEyp.cell HS2.out.2.2.2.2
      obtain ⟨fb, fo, hFe⟩ := hRI.base (by omega)
      subst hFe
      have f0 := (hRI.ext hEp).at HXF.out
      obtain ⟨bb, oo, hBe⟩ := HB.out.base (by omega)
      subst hBe
      obtain ⟨_, _, _, _, f1, _⟩ := (HB.out.ext (hEw.trans hEyp)).at HF.out
      have b0 := blk_at HBP.out 0 (way_0 _ _)
      have b1 := way_lo HBP.out h18 (m := m) (k := p) hm3 hp3
      have b2 := way_hi HBP.out h18 (m := m) (k := p) hm3 hp3
      rw [HLO.out] at b1
      rw [HHI.out] at b2
      clear hTp hblkp hblkp2 hRI
      go_upto_region 8 with fail
      go_region_held3 (fun w' => w'.cell? ⟨pb, 0, none⟩ = some (.slice (some ⟨fb, fo, none⟩) x.from_.length ca) ∧ w'.cell? ⟨pb, 1 + m * 6 + p * 2, none⟩ = some (.int .i64 lo) ∧ w'.cell? ⟨pb, 1 + m * 6 + p * 2 + 1, none⟩ = some (.int .i64 hi) ∧ w'.cell? ⟨fb, fo + f, none⟩ = some (.int .i64 m) ∧ w'.cell? ⟨p0, 3, none⟩ = some (.slice (some ⟨bb, oo, none⟩) fs.length ck) ∧ w'.cell? ⟨bb, oo + f * 3, none⟩ = some (.int .i64 c.minute))
        (go_keep) (fail)
      obtain ⟨wq, tb, e1, e2, hEq, tblk⟩ := new_block wp #[.int .i64 lo, .int .i64 hi] 48
      rw [e1, e2]
      clear e1 e2
      have t0 : wq.drew.cell? ⟨tb, 0, none⟩ = some (.int .i64 lo) := (Ext.drew wq).cell (blk_at tblk 0 rfl)
      have t1 : wq.drew.cell? ⟨tb, 1, none⟩ = some (.int .i64 hi) := (Ext.drew wq).cell (blk_at tblk 1 rfl)
      have hEf := hEyp.trans (hEq.trans (Ext.drew wq))
      clear tblk b0 b1 b2 f0 f1 s3
      generalize wq.drew = wz at t0 t1 hEf ⊢
      generalize hmn : c.minute = mn
      by_cases q1 : hi ≤ mn
      · have q2 : decide (hi ≤ mn) = true := by simpa using q1
        go_wp2_with fail
        go_roundg 0
        case measure => omega
        case rel => exact ⟨1, by omega, by go_num, by rw [if_neg (by omega), if_pos (by omega)], by rw [if_neg (by omega), if_pos (by omega)], hEf⟩
      · by_cases q3 : mn < lo
        · have q4 : decide (lo > mn) = true := by simpa using q3
          go_wp2_with fail
          go_roundg 0
          case measure => omega
          case rel => exact ⟨1, by omega, by go_num, by rw [if_neg (by omega), if_neg (by omega)], by rw [if_neg (by omega), if_neg (by omega), if_pos (by omega)], hEf⟩
        · have q4 : decide (lo > mn) = false := by simpa using q3
          go_wp2_with fail
          go_roundg 0
          case measure => omega
          case rel => exact ⟨1, by omega, by go_num, by rw [if_neg (by omega), if_neg (by omega)], by rw [if_neg (by omega), if_neg (by omega), if_neg (by omega)], hEf⟩
    · obtain rfl : k = 1 := by omega
      clear hk hlt
      rw [if_neg (show ¬ (1 : Nat) = 0 by omega), if_neg (show ¬ (1 : Nat) = 0 by omega)]
      have hkn : readOf lo hi c.minute = knownOf (if hi ≤ c.minute then 1 else 0) (if hi ≤ c.minute then 0 else if c.minute < lo then 1 else 0) 1 := by
        unfold readOf knownOf
        split
        · simp
        · split <;> simp
      have HKN := Lib.hid hkn
      clear hkn
      generalize (if hi ≤ c.minute then (1 : Int) else 0) = so at HKN ⊢
      generalize (if hi ≤ c.minute then (0 : Int) else if c.minute < lo then 1 else 0) = no at HKN ⊢
      go_wp2_with (go_at_call 46; refine (known6 _ _ _ _).mono ?_; rintro e w' ⟨rfl, rfl⟩)
      go_ret2
      exact ⟨by rw [HLO.out, HHI.out, HKN.out]; rfl, HEW.out.trans hE⟩
end Go.Proofs.Ytloenmikkkklhaa

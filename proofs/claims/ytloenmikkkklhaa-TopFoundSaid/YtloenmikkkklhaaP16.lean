/-
  slices.Sort and slices.Compact of one number; the layer 'copies': where, Seek, of a run that can be in one way alone.
-/
import Derived.Test.YtloenmikkkklhaaP15
namespace Go.Proofs.Ytloenmikkkklhaa
open Go.RowKit

set_option maxRecDepth 100000 in
set_option maxHeartbeats 1000000 in
theorem insertion_one (A : Option Addr) (c : Nat) (w : World) : Calls Try.prog 82 #[.slice A 1 c, .int .i64 0, .int .i64 1] w fun e w' => (∃ v, e = .returned v) ∧ Ext w w' := by
  go_enter Try.func82, Try.ntmps82
  go_wp2_with fail
  refine wp_loop_rounds 1 ?_
  rw [rounds_succ]
  go_wp2_with fail
  first | go_end0 | ((try simp only [Exit.inBlock, Exit.then]); refine bodyPost_ret (results_none rfl _ _ _) rfl ?_)
  exact ⟨⟨_, rfl⟩, Ext.refl _⟩
set_option maxRecDepth 100000 in
set_option maxHeartbeats 1000000 in
theorem len64_one (w : World) : Calls Try.prog 92 #[.int .u64 1] w fun e w' => (∃ k, e = .returned (.int .i64 k)) ∧ Ext w w' := by
  go_enter Try.func92, Try.ntmps92
  go_wp2_with fail
  go_ret
  exact ⟨⟨_, rfl⟩, Ext.refl _⟩
set_option maxRecDepth 100000 in
set_option maxHeartbeats 1000000 in
theorem len_one (w : World) : Calls Try.prog 80 #[.int .u64 1] w fun e w' => (∃ k, e = .returned (.int .i64 k)) ∧ Ext w w' := by
  go_enter Try.func80, Try.ntmps80
  go_wp2_with (go_at_call 92; refine (len64_one _).mono ?_; rintro e w' ⟨⟨k, rfl⟩, hE⟩)
  go_ret
  exact ⟨⟨_, rfl⟩, hE⟩
set_option maxRecDepth 100000 in
set_option maxHeartbeats 1000000 in
theorem pdq_one (A : Option Addr) (c : Nat) (k : Int) (w : World) : Calls Try.prog 79 #[.slice A 1 c, .int .i64 0, .int .i64 1, .int .i64 k] w fun e w' => (∃ v, e = .returned v) ∧ Ext w w' := by
  go_enter Try.func79, Try.ntmps79
  go_upto_region 2 with fail
  refine wp_loop_rounds 1 ?_
  rw [rounds_succ]
  go_wp2_with (go_at_call 82; refine (insertion_one _ _ _).mono ?_; rintro e w' ⟨⟨v, rfl⟩, hE⟩)
  first | go_end0 | ((try simp only [Exit.inBlock, Exit.then]); refine bodyPost_ret (results_none rfl _ _ _) rfl ?_)
  exact ⟨⟨_, rfl⟩, hE⟩
set_option maxRecDepth 100000 in
set_option maxHeartbeats 1000000 in
theorem sort_one (A : Option Addr) (c : Nat) (w : World) : Calls Try.prog 70 #[.slice A 1 c] w fun e w' => (∃ v, e = .returned v) ∧ Ext w w' := by
  go_enter Try.func70, Try.ntmps70
  go_wp2_with (first | (go_at_call 80; refine (len_one _).mono ?_; rintro e w1 ⟨⟨k, rfl⟩, hE1⟩) | (go_at_call 79; refine (pdq_one _ _ _ _).mono ?_; rintro e w' ⟨⟨v, rfl⟩, hE⟩))
  first | go_end0 | ((try simp only [Exit.inBlock, Exit.then]); refine bodyPost_ret (results_none rfl _ _ _) rfl ?_)
  exact ⟨⟨_, rfl⟩, hE1.trans hE⟩
set_option maxRecDepth 100000 in
set_option maxHeartbeats 1000000 in
theorem compact_one (A : Option Addr) (c : Nat) (w : World) : Calls Try.prog 71 #[.slice A 1 c] w fun e w' => e = .returned (.slice A 1 c) ∧ Ext w w' := by
  go_enter Try.func71, Try.ntmps71
  go_wp2_with fail
  go_ret
  exact ⟨rfl, Ext.refl _⟩

set_option maxRecDepth 100000 in
set_option maxHeartbeats 4000000 in
theorem where6 (D : Option Addr) (cd f : Nat) (x : Way) (w : World) (h18 : x.when_.length = 18) (hD : RdWay w D [x]) (hf : f < x.from_.length) (hxl6 : x.from_.length ≤ 6) :
    Calls Try.prog 49 #[.slice D 1 cd, .int .i64 f] w fun e w' => (∃ A c, e = .returned (.slice A 1 c)) ∧ Ext w w' := by
  have hfx := List.getElem?_eq_getElem hf
  generalize x.from_[f] = n at hfx
  have HFX := Lib.hid hfx
  have hfi : (f : Int) < x.from_.length := by omega
  obtain ⟨db, do_, hDe⟩ := hD.base (by simp)
  subst hDe
  have HD := Lib.hid hD
  clear hD hfx
  go_enter Try.func49, Try.ntmps49
  go_upto_region 3 with fail
  go_loopg [5, 10] 1 (fun g v i wr => ∃ k : Nat, k + g = 1 ∧ i = .int .i64 k ∧ Ext w wr ∧ ∃ xs : List Int, OwnI wr w.heap.size v xs ∧ xs.length = k)
  case atStart => exact ⟨0, by omega, rfl, Ext.refl _, [], own_none _ _ _ _, rfl⟩
  case round =>
    obtain ⟨k, hk, rfl, hE, xs, hO, hxs⟩ := hrel
    have HO := Lib.hid hO
    by_cases hlt : k < 1
    · obtain rfl : k = 0 := by omega
      obtain rfl : gk = 1 := by omega
      clear hk hlt hO
      obtain ⟨cs, ⟨A1, ca, rfl, _, _, hRI, _⟩, _, hcell⟩ := (HD.out.ext hE).at (i := 0) (x := x) rfl
      have HR : wr.rangeAt db (do_ + 0 * 19) (.slice A1 x.from_.length ca :: x.when_.map (Value.int .i64)) := fun j v hv => hcell j v hv
      have HR := Lib.hid HR
      clear hcell
      go_upto_region 4 with fail
      refine wp_region_lit ?_
      refine wpList_plain rfl (fun K hK => ?_)
      go_simp
      refine hK _ _ ?_
      clear hK K
      refine wpList_load_mid rfl 94 (.tmp 12) rfl db (do_ + 0 * 19) (by rw [Nat.zero_mul]; rfl) _ _ HR.out Try.underlying94 rfl (by rw [info_way_size]; simp [h18]) ?_
      refine wpList_plain rfl (fun K hK => ?_)
      go_simp
      refine hK _ _ ?_
      clear hK K
      refine wpList_store_blk rfl 94 (.tmp 7) (.tmp 13) rfl wr.heap.size 94 _ _ rfl rfl (heap_alloc_new wr _) (by rw [info_way_size]; simp [h18]) (by simp [h18]) (by simp [Value.oneCell']) ?_
      intro wp hTp hblkp
      simp only [Act.put]
      have hEp : Ext wr wp := hTp.below (Ext.alloc _ _) (Nat.le_refl _)
      have hblkp2 : wp.heap[wr.heap.size]? = some (.cells (wayCells (.slice A1 x.from_.length ca) x.when_) 94 (0, 0)) := hblkp
      generalize wr.heap.size = pb at hblkp2 ⊢
      have b0 := blk_at hblkp2 0 (way_0 _ _)
      obtain ⟨fb, fo, hFe⟩ := hRI.base (by omega)
      subst hFe
      have f0 := (hRI.ext hEp).at HFX.out
      have hEyp := hE.trans hEp
      have HOp := Lib.hid (own_later HO.out hEp)
      clear hTp hblkp hblkp2 hRI
      obtain ⟨i0, hi, hz0, hz1, hz2⟩ : ∃ i0, Try.prog.info? 3 = some i0 ∧ i0.zero = some (.int .i64 0) ∧ i0.size = 1 ∧ i0.bytes = 8 := by
        have h := info_int
        cases hi : Try.prog.info? 3 with
        | none => rw [hi] at h; cases h
        | some i =>
          rw [hi] at h
          simp only [Option.map_some, Option.some.injEq, Prod.mk.injEq] at h
          exact ⟨i, rfl, h.1, h.2.1, h.2.2⟩
      have b1 : xs.length + 1 ≤ maxLen := by unfold maxLen; omega
      have b2 : (xs.length + 1) * 8 ≤ 140737488355328 := by omega
      have hsz := hEyp.size
      go_wp2_with (at_builtin; refine wpList_append_own _ rfl _ _ 26 rfl w.heap.size 3 i0 (.int .i64 0) 1 8 Try.underlying26 hi hz0 hz1 hz2 rfl (by decide) _ _ _ rfl (HOp.out.alloc _) ⟨wp.heap.size, 0, none⟩ 1 1 [.int .i64 n] rfl rfl (cell_one_new _ _ _) (by simp [Value.oneCell']) b1 b2 (by rw [World.size_alloc]; omega) ?_; intro v2 w6 hown2 hgrow _)
      have hE6 := own_ext hEyp HOp.out _ hgrow
      have hO6 := OwnI.snoc hown2
      have HO6 := Lib.hid hO6
      clear hown2 hgrow hO6
      go_roundg 0
      case measure => omega
      case rel => exact ⟨1, by omega, by go_num, hE6, _, HO6.out, by simp [hxs]⟩
    · obtain rfl : k = 1 := by omega
      obtain ⟨A1, c1, rfl, _⟩ := OwnI.reads hO
      rw [hxs]
      clear hk hlt hO HO
      go_wp2_with (first | (go_at_call 70; refine (sort_one _ _ _).mono ?_; rintro e w1 ⟨⟨v, rfl⟩, hE1⟩) | (go_at_call 71; refine (compact_one _ _ _).mono ?_; rintro e w' ⟨rfl, hE2⟩))
      go_ret
      exact ⟨⟨A1, c1, rfl⟩, hE.trans (hE1.trans hE2)⟩

set_option maxRecDepth 100000 in
set_option maxHeartbeats 4000000 in
theorem Seek6 (pl : Nat) (last : Int) (A B : Option Addr) (ms : List Machine) (fs : List Found) (cm ck : Nat) (x : Way) (w : World) (hv : OkRun pl last ms fs) (hw : waysOf ms fs = [x]) (hA : RdMach w A ms) (hB : RdFound w B fs) :
    Calls Try.prog 23 #[.agg #[.int .i64 pl, .int .i64 last, .slice A ms.length cm, .slice B fs.length ck]] w
      fun e w' => e = .returned (.tuple #[.int .i64 0, .int .i64 3]) ∧ Ext w w' := by
  have hmem : x ∈ waysOf ms fs := by rw [hw]; simp
  have h18 : x.when_.length = 18 := (waysOf_ok ms fs x hmem).1
  have hxl : x.from_.length = fs.length := (waysOf_ok ms fs x hmem).2
  have hfs : fs.length ≤ 6 := hv.hfs
  have hfsI : (fs.length : Int) ≤ 6 := by omega
  have HA := Lib.hid hA
  have HB := Lib.hid hB
  have OP : Hid (∀ W, Ext w W → Calls Try.prog 39 #[.agg #[.int .i64 pl, .int .i64 last, .slice A ms.length cm, .slice B fs.length ck], .bool true] W
      fun e w' => ∃ D cd, e = .returned (.tuple #[.slice D 1 cd, .int .i64 0]) ∧ RdWay w' D [x] ∧ Ext W w') := Lib.hid fun W hW => open6x pl last A B ms fs cm ck x W hv hw (HA.out.ext hW) (HB.out.ext hW)
  clear hv hA hB hmem hw
  go_enter Try.func23, Try.ntmps23
  go_upto_region 1 with fail
  obtain ⟨w1, p0, e1, e2, hE0, hrun⟩ := new_run w pl last A B ms.length cm fs.length ck
  rw [e1, e2]
  clear e1 e2
  obtain ⟨r0, r1, r2, r3⟩ := hrun.2
  have R3 := Lib.hid r3
  go_upto_region 2 with (go_at_call 39; refine (OP.out _ hE0).mono ?_; rintro e wy ⟨D, cd, rfl, hD, hE4⟩)
  have HD := Lib.hid hD
  have hEw : Ext w wy := hE0.trans hE4
  have HEW := Lib.hid hEw
  have s3 := hE4.cell R3.out
  clear hD hrun r0 r1 r2 r3
  go_upto_region 6 with fail
  go_loopg [6, 7, 25] fs.length (fun g a b i wr => ∃ k : Nat, k + g = fs.length ∧ i = .int .i64 k ∧ a = .int .i64 (-1) ∧ b = .int .i64 0 ∧ Ext wy wr)
  case atStart => exact ⟨0, by omega, rfl, rfl, rfl, Ext.refl _⟩
  case round =>
    obtain ⟨k, hk, rfl, rfl, rfl, hE⟩ := hrel
    have HK := Lib.hid hk
    by_cases hlt : k < fs.length
    · clear hk
      have hki : (k : Int) < fs.length := by omega
      go_upto_region 8 with fail
      obtain ⟨wl, lb, e1, e2, hEl, lblk⟩ := new_block wr #[.int .i64 k] 3
      rw [e1, e2]
      clear e1 e2
      have l0 : wl.cell? ⟨lb, 0, none⟩ = some (.int .i64 k) := blk_at lblk 0 rfl
      clear lblk
      go_wp2_with (go_at_call 49; refine (where6 D cd k x _ h18 (HD.out.ext (hE.trans hEl)) (by omega) (by omega)).mono ?_; rintro e w' ⟨⟨A1, c1, rfl⟩, hE5⟩)
      go_roundg (gk - 1)
      case measure => have := HK.out; omega
      case rel => exact ⟨k + 1, by have := HK.out; omega, by go_num, rfl, rfl, hE.trans (hEl.trans hE5)⟩
    · obtain rfl : k = fs.length := by omega
      clear hk hlt
      go_wp2_with fail
      go_ret2
      exact ⟨rfl, HEW.out.trans hE⟩
end Go.Proofs.Ytloenmikkkklhaa

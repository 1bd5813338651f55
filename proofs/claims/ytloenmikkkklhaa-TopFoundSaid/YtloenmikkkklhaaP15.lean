/-
  The layer 'copies': Fewest, of a run that can be in one way alone, all copies from the first machine.
-/
import Derived.Test.YtloenmikkkklhaaP14
import Derived.Maps.OwnSet
import Derived.Maps.OwnOps
import Derived.Carry
namespace Go.Proofs.Ytloenmikkkklhaa
open Go.RowKit Go.Maps

theorem key_int : Keyed Try.prog 3 := int_keyed Try.underlying3
theorem zero_int (w : World) : (zeroValue 3).run Try.prog w = .ok (.int .i64 0) w := by kernel_rfl
theorem put_none (d : DataW Nat) : (DataW.map []).put (.int .i64 0) d = .map [(.int .i64 0, d)] := rfl
theorem put_one (d0 d : DataW Nat) : (DataW.map [(Lit.int .i64 0, d0)]).put (.int .i64 0) d = .map [(.int .i64 0, d)] := by
  rw [DataW.put_eq]
  rfl
def OneKey (j : Nat) (D : DataW Nat) : Prop := (j = 0 ∧ D = .map []) ∨ (0 < j ∧ ∃ d, D = .map [(.int .i64 0, d)])
theorem OneKey.put {j : Nat} {D : DataW Nat} (h : OneKey j D) (d : DataW Nat) : OneKey (j + 1) (D.put (.int .i64 0) d) := by
  rcases h with ⟨_, rfl⟩ | ⟨_, d0, rfl⟩
  · exact .inr ⟨by omega, d, put_none d⟩
  · exact .inr ⟨by omega, d, put_one d0 d⟩
theorem OneKey.size {j : Nat} {D : DataW Nat} (h : OneKey j D) (hj : 0 < j) : Maps.size D = 1 := by
  rcases h with ⟨_, rfl⟩ | ⟨_, d0, rfl⟩
  · omega
  · rfl

set_option maxRecDepth 100000 in
set_option maxHeartbeats 4000000 in
theorem Fewest6 (pl : Nat) (last : Int) (A B : Option Addr) (ms : List Machine) (fs : List Found) (cm ck : Nat) (x : Way) (w : World) (hv : OkRun pl last ms fs) (hw : waysOf ms fs = [x]) (hA : RdMach w A ms) (hB : RdFound w B fs)
    (hx0 : ∀ n ∈ x.from_, n = 0) (hxl : 0 < x.from_.length) :
    Calls Try.prog 22 #[.agg #[.int .i64 pl, .int .i64 last, .slice A ms.length cm, .slice B fs.length ck]] w
      fun e w' => e = .returned (.tuple #[.int .i64 1, .int .i64 0]) ∧ Ext w w' := by
  have hmem : x ∈ waysOf ms fs := by rw [hw]; simp
  have h18 : x.when_.length = 18 := (waysOf_ok ms fs x hmem).1
  have hxl6 : x.from_.length ≤ 6 := by have := (waysOf_ok ms fs x hmem).2; have := hv.hfs; omega
  have hms1 : (1 : Int) ≤ ms.length := by have := hv.hms; omega
  have hms3 : (ms.length : Int) ≤ 3 := by have := hv.hms; omega
  have HA := Lib.hid hA
  have HB := Lib.hid hB
  have HX0 := Lib.hid hx0
  have OP : Hid (∀ W, Ext w W → Calls Try.prog 39 #[.agg #[.int .i64 pl, .int .i64 last, .slice A ms.length cm, .slice B fs.length ck], .bool true] W
      fun e w' => ∃ D cd, e = .returned (.tuple #[.slice D 1 cd, .int .i64 0]) ∧ RdWay w' D [x] ∧ Ext W w') := Lib.hid fun W hW => open6x pl last A B ms fs cm ck x W hv hw (HA.out.ext hW) (HB.out.ext hW)
  have hmm := @run_makeMap Try.prog
  clear hv hA hB hmem hw hx0
  go_enter Try.func22, Try.ntmps22
  go_upto_region 1 with fail
  obtain ⟨w1, p0, e1, e2, hE0, hrun⟩ := new_run w pl last A B ms.length cm fs.length ck
  rw [e1, e2]
  clear e1 e2
  obtain ⟨r0, r1, r2, r3⟩ := hrun.2
  have R2 := Lib.hid r2
  go_upto_region 2 with (go_at_call 39; refine (OP.out _ hE0).mono ?_; rintro e wy ⟨D, cd, rfl, hD, hE4⟩)
  obtain ⟨db, do_, hDe⟩ := hD.base (by simp)
  subst hDe
  have HD := Lib.hid hD
  have hEw : Ext w wy := hE0.trans hE4
  have HEW := Lib.hid hEw
  have s2 := hE4.cell R2.out
  clear hD hrun r0 r1 r2 r3
  go_upto_region 6 with fail
  go_loopg [6, 25] 1 (fun g a i wr => ∃ k : Nat, k + g = 1 ∧ i = .int .i64 k ∧ a = .int .i64 (if k = 0 then ms.length else 1) ∧ Ext wy wr)
  case atStart => exact ⟨0, by omega, rfl, rfl, Ext.refl _⟩
  case round =>
    obtain ⟨k, hk, rfl, rfl, hE⟩ := hrel
    by_cases hlt : k < 1
    · obtain rfl : k = 0 := by omega
      obtain rfl : gk = 1 := by omega
      clear hk hlt
      rw [if_pos rfl]
      obtain ⟨cs, ⟨A1, ca, rfl, _, _, hRI, _⟩, _, hcell⟩ := (HD.out.ext hE).at (i := 0) (x := x) rfl
      have HR : wr.rangeAt db (do_ + 0 * 19) (.slice A1 x.from_.length ca :: x.when_.map (Value.int .i64)) := fun j v hv => hcell j v hv
      have HR := Lib.hid HR
      clear hcell
      go_upto_region 7 with fail
      refine wp_region_lit ?_
      refine wpList_plain rfl (fun K hK => ?_)
      go_simp
      refine hK _ _ ?_
      clear hK K
      refine wpList_load_mid rfl 94 (.tmp 27) rfl db (do_ + 0 * 19) (by rw [Nat.zero_mul]; rfl) _ _ HR.out Try.underlying94 rfl (by rw [info_way_size]; simp [h18]) ?_
      refine wpList_plain rfl (fun K hK => ?_)
      go_simp
      refine hK _ _ ?_
      clear hK K
      refine wpList_store_blk rfl 94 (.tmp 8) (.tmp 28) rfl wr.heap.size 94 _ _ rfl rfl (heap_alloc_new wr _) (by rw [info_way_size]; simp [h18]) (by simp [h18]) (by simp [Value.oneCell']) ?_
      intro wp hTp hblkp
      simp only [Act.put]
      have hEp : Ext wr wp := hTp.below (Ext.alloc _ _) (Nat.le_refl _)
      have hblkp2 : wp.heap[wr.heap.size]? = some (.cells (wayCells (.slice A1 x.from_.length ca) x.when_) 94 (0, 0)) := hblkp
      generalize wr.heap.size = pb at hblkp2 ⊢
      have HBP := Lib.hid hblkp2
      obtain ⟨fb, fo, hFe⟩ := hRI.base (by omega)
      subst hFe
      have HRI := Lib.hid (hRI.ext hEp)
      have hEyp := hE.trans hEp
      clear hTp hblkp hblkp2 hRI
      go_upto_region 9 with fail
      have hE6 : Ext wp (wp.alloc (.map #[] 0)) := Ext.alloc _ _
      have hown := World.ownsMap_made wp Try.prog 3 (plainElem (H := Nat) Try.prog 3)
      have hmbe : wp.heap.size ≤ wp.heap.size := Nat.le_refl _
      have b0 := hE6.cell (blk_at HBP.out 0 (way_0 _ _))
      generalize wp.alloc (.map #[] 0) = wq at hE6 hown b0 ⊢
      generalize hmb : wp.heap.size = mb at hown hmbe ⊢
      have HOWN := Lib.hid hown
      have HMB := Lib.hid hmb
      clear hown hmb hmbe
      go_upto_region 10 with fail
      clear b0
      go_loopg [33] x.from_.length (fun g i wr => ∃ j : Nat, j + g = x.from_.length ∧ i = .int .i64 j ∧ Ext wp wr ∧ ∃ D, wr.ownsMap Try.prog 3 (plainElem (H := Nat) Try.prog 3) mb j D ∧ OneKey j D)
      case atStart => exact ⟨0, by omega, rfl, hE6, _, HOWN.out, .inl ⟨rfl, rfl⟩⟩
      case round =>
        obtain ⟨j, hj, rfl, hEj, D, hown, hone⟩ := hrel
        have HJ := Lib.hid hj
        have HO := Lib.hid hown
        have HONE := Lib.hid hone
        by_cases hlt : j < x.from_.length
        · clear hj hown hone
          have hx : x.from_[j]? = some x.from_[j] := List.getElem?_eq_getElem hlt
          rw [HX0.out _ (List.getElem_mem hlt)] at hx
          have f0 := (HRI.out.ext hEj).at hx
          have hkey : keyOf Try.prog 3 (.int .i64 0) = some (.int .i64 0) := keyOf_int_mk Try.underlying3 (by decide)
          have HKEY := Lib.hid hkey
          have hji : (j : Int) < x.from_.length := by omega
          clear hx hkey
          go_wp2_with (first
            | (at_lookup; refine wpList_lookup_own_int _ rfl _ _ 99 rfl 3 3 .i64 key_int Try.underlying99 Try.underlying3 (zero_int _) mb j _ rfl HO.out _ _ rfl HKEY.out ?_; intro c hat hwc)
            | (at_mapUpdate; refine wpList_mapUpdate_own _ rfl _ _ _ 99 rfl 3 3 key_int Try.underlying99 _ mb j _ rfl HO.out (by unfold maxLen; omega) _ _ _ rfl rfl HKEY.out _ [] (plainElem_int Try.underlying3 (wrap64_wf _)) ?_; intro w1 hown1 hgrow1)
            | go_in)
          have hEn : Ext wp w1 := Below.grown hEj hgrow1 hEj.size (fun k hk => by cases hk; rw [HMB.out]; exact Nat.le_refl _)
          go_roundg (gk - 1)
          case measure => have := HJ.out; omega
          case rel => exact ⟨j + 1, by have := HJ.out; omega, by go_num, hEn, _, hown1, HONE.out.put _⟩
        · obtain rfl : j = x.from_.length := by omega
          have hsz := HONE.out.size hxl
          have HSZ := Lib.hid hsz
          clear hj hown hone hsz
          go_wp2_with (first
            | (at_len; refine wpList_len_own _ rfl _ 99 rfl 3 3 Try.underlying99 _ mb _ D rfl HO.out ?_; rw [HSZ.out])
            | go_in)
          all_goals
            go_roundg 0
            case measure => omega
            case rel => exact ⟨1, by omega, by go_num, by rw [if_neg (by omega)] <;> (first | rfl | (congr 1; omega)), hEyp.trans hEj⟩
    · obtain rfl : k = 1 := by omega
      clear hk hlt
      rw [if_neg (show ¬ (1 : Nat) = 0 by omega)]
      go_wp2_with fail
      go_ret2
      exact ⟨rfl, HEW.out.trans hE⟩
end Go.Proofs.Ytloenmikkkklhaa

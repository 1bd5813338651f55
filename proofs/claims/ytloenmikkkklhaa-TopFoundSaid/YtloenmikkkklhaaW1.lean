/-
  The walk of TopFound.
-/
import Derived.Test.YtloenmikkkklhaaL3
import Derived.Test.YtloenmikkkklhaaR11
import Derived.Test.YtloenmikkkklhaaR2
import Derived.Test.YtloenmikkkklhaaR4
import Derived.Test.YtloenmikkkklhaaK7
import Derived.Test.YtloenmikkkklhaaL4
import Derived.Test.YtloenmikkkklhaaW5
namespace Go.Proofs.Ytloenmikkkklhaa
open Go.RowKit

theorem isChangeb {n : Int} {r : Bool} (h : inB n 0 2 = r) (w : World) : Calls Try.prog 6 #[.int .i64 n] w fun e w' => e = .returned (.bool r) ∧ w = w' := h ▸ isChangeR n w

attribute [local irreducible] inB in
set_option maxRecDepth 100000 in
set_option maxHeartbeats 40000000 in
theorem topFoundR (A B C : Option Addr) (th : List Thing) (mk : List Mark) (plates : List Int) (cm ck cp : Nat) (change rate : Int) (w : World)
    (hm : (th.length : Int) ≤ 9223372036854775807) (hm2 : (mk.length : Int) ≤ 9223372036854775807) (hm3 : (plates.length : Int) ≤ 9223372036854775807) (hA : RdT w A th) (hB : RdM w B mk) (hC : RdI w C plates) :
    Calls Try.prog 3 #[.agg #[.slice A th.length cm, .slice B mk.length ck], .slice C plates.length cp, .agg #[.int .i64 change, .int .i64 rate]] w
      fun e w' => e = .returned (.bool true) ∧ Ext w w' := by
  have HA := Lib.hid hA
  have HB := Lib.hid hB
  have HC := Lib.hid hC
  clear hA hB hC
  obtain ⟨ip, zp, hip, hzp, hzsp, hsp, hbp⟩ := info_span_at
  obtain ⟨ii, zi, hii, hzi, hzsi, hsi, hbi⟩ := info_int_at
  obtain ⟨ifd, zf, hif, hzf, hzsf, hsf, hbf⟩ := info_found_at
  go_enter Try.func3, Try.ntmps3
  go_upto_region 1 with fail
  obtain ⟨w1, p0, e1, e2, hE0, pblk⟩ := new_block w #[.slice A th.length cm, .slice B mk.length ck] 25
  have e3 : w.heap.size + 1 = w1.heap.size := by rw [← e1]; simp
  rw [e3, e1, e2]
  clear e1 e2 e3
  obtain ⟨w2, px, e1, e2, hE1, xblk⟩ := new_block w1 #[.int .i64 change, .int .i64 rate] 28
  rw [e1, e2]
  clear e1 e2
  have hEw := hE0.trans hE1
  have r0 := hE1.cell (blk_at pblk 0 rfl)
  have r1 := hE1.cell (blk_at pblk 1 rfl)
  have s0 := blk_at xblk 0 rfl
  have s1 := blk_at xblk 1 rfl
  have R0 := Lib.hid r0
  have R1 := Lib.hid r1
  have S0 := Lib.hid s0
  have S1 := Lib.hid s1
  clear pblk xblk
  cases q1 : (decide (40 < th.length) || decide (40 < mk.length))
  · have Q1 := Lib.hid q1
    clear q1
    go_upto_region 2 with (first
      | (go_at_call 4; refine (farR A B th.length cm mk.length ck _).mono ?_; rw [Q1.out]; rintro e w3 ⟨rfl, hE3⟩; have u0 := hE3.cell R0.out; have u1 := hE3.cell R1.out)
      | (go_at_call 5; refine (refCheck7 A B th mk cm ck _ hm hm2 (HA.out.ext (hEw.trans hE3)) (HB.out.ext (hEw.trans hE3))).mono ?_; rintro e w4 ⟨⟨b, rfl, hb⟩, hE4⟩; have t0 := (hE3.trans hE4).cell R0.out; have t1 := (hE3.trans hE4).cell R1.out; have t2 := (hE3.trans hE4).cell S0.out; have t3 := (hE3.trans hE4).cell S1.out; cases b)
      | (go_at_call 9; refine (shownR _).mono ?_; rintro e w6 ⟨rfl, hE6⟩))
    · go_wp2_with (go_at_call 9; refine (shownR _).mono ?_; rintro e w9 ⟨rfl, hE9⟩)
      go_ret
      exact ⟨rfl, hEw.trans (hE3.trans (hE4.trans hE9))⟩
    have HCH := Lib.hid (hb trivial)
    clear hb
    cases c1 : inB change 0 2
    · have C1 := Lib.hid c1
      clear c1
      refine (isChangeb C1.out _).mono ?_
      rintro e w5 ⟨rfl, rfl⟩
      go_wp2_with (go_at_call 9; refine (shownR _).mono ?_; rintro e w9 ⟨rfl, hE9⟩)
      go_ret
      exact ⟨rfl, hEw.trans (hE3.trans (hE4.trans hE9))⟩
    have C1 := Lib.hid c1
    clear c1
    refine (isChangeb C1.out _).mono ?_
    rintro e w5 ⟨rfl, rfl⟩
    cases c2 : inB rate 0 9
    · have C2 := Lib.hid c2
      have C3 := Lib.hid c2
      clear c2
      go_wp2_with (first | (go_at_call 7; refine (withinAc (by first | exact C2.out | exact C3.out) _).mono ?_; rintro e w5 ⟨rfl, rfl⟩) | (go_at_call 9; refine (shownR _).mono ?_; rintro e w9 ⟨rfl, hE9⟩))
      go_ret
      exact ⟨rfl, hEw.trans (hE3.trans (hE4.trans hE9))⟩
    have C2 := Lib.hid c2
    clear c2
    cases c3 : inB (plates.length : Int) 1 3
    · have C3 := Lib.hid c3
      clear c3
      go_wp2_with (first | (go_at_call 7; refine (withinAc (by first | exact C2.out | exact C3.out) _).mono ?_; rintro e w5 ⟨rfl, rfl⟩) | (go_at_call 9; refine (shownR _).mono ?_; rintro e w9 ⟨rfl, hE9⟩))
      go_ret
      exact ⟨rfl, hEw.trans (hE3.trans (hE4.trans hE9))⟩
    have C3 := Lib.hid c3
    clear c3
    go_upto_region 2 with (first | (go_at_call 7; refine (withinAc (by first | exact C2.out | exact C3.out) _).mono ?_; rintro e w5 ⟨rfl, rfl⟩) | (go_at_call 8; refine (arePlatesR A B C th mk cm ck cp plates 99 _ hm3 (HA.out.ext (hEw.trans (hE3.trans hE4))) (HC.out.ext (hEw.trans (hE3.trans hE4))) (HCH.out)).mono ?_; rintro e w6 ⟨⟨b, rfl, hp⟩, hE6⟩; cases b))
    · go_wp2_with (go_at_call 9; refine (shownR _).mono ?_; rintro e w9 ⟨rfl, hE9⟩)
      go_ret
      exact ⟨rfl, hEw.trans (hE3.trans (hE4.trans (hE6.trans hE9)))⟩
    have HPU := Lib.hid (hp trivial)
    clear hp
    have hc3 := inB_iff.1 C3.out
    have hn1 : 1 ≤ plates.length := by omega
    have hn3 : plates.length ≤ 3 := by omega
    have hFB := firstOf_bound HCH.out HPU.out
    have HFB := Lib.hid hFB
    have hE26 : Ext w2 w6 := hE3.trans (hE4.trans hE6)
    have hEw6 : Ext w w6 := hEw.trans hE26
    clear hFB t0 t1 t2 t3 hE3 hE4 hE6 hc3 u0 u1
    go_loopg [7, 8] plates.length (fun g a i wr => ∃ k : Nat, k + g = plates.length ∧ i = .int .i64 k ∧ a = .int .i64 (firstOf th plates k) ∧ Ext w6 wr)
    case atStart => exact ⟨0, by omega, rfl, rfl, Ext.refl _⟩
    case round =>
      obtain ⟨k, hk, rfl, rfl, hE⟩ := hrel
      have HK := Lib.hid hk
      by_cases hlt : k < plates.length
      · clear hk
        obtain ⟨j, hx, ⟨t, ht, _, h2⟩, _⟩ := platesUpto_lt HPU.out hlt
        have hjl : j < th.length := (List.getElem?_eq_some_iff.1 ht).1
        have hki : (k : Int) < plates.length := by omega
        have hji : (j : Int) < th.length := by omega
        obtain ⟨ab, ao, hAe⟩ := HA.out.base (by omega)
        subst hAe
        obtain ⟨cb, co, hCe⟩ := HC.out.base (by omega)
        subst hCe
        have f0 := (HC.out.ext (hEw6.trans hE)).at hx
        obtain ⟨_, f1, _, _⟩ := (HA.out.ext (hEw6.trans hE)).at ht
        have g0 := (hE26.trans hE).cell R0.out
        have hstep : firstOf th plates (k + 1) = max (firstOf th plates k) t.at_ := by
          have h3 : plates.getD k 0 = (j : Int) := by rw [List.getD_eq_getElem?_getD, hx]; rfl
          simp only [firstOf, h3]
          simp [thAt, ht]
        have HST := Lib.hid hstep
        clear hx ht h2 hstep
        generalize t.at_ = ta at f1 HST
        generalize firstOf th plates k = fk at HST ⊢
        go_upto_region 7 with fail
        refine wp_region_ext (by kernel_rfl) (by kernel_rfl) ?_
        repeat (go_big_quiet_step ((fail)))
        refine wpQuiet_nil ?_
        rintro _ ⟨x, rfl⟩
        go_wp2_with fail
        all_goals
          go_roundg (gk - 1)
          case measure => have := HK.out; omega
          case rel => exact ⟨k + 1, by have := HK.out; omega, by go_num, by rw [HST.out]; first | (rw [Int.max_eq_left (by omega)]) | (rw [Int.max_eq_right (by omega)]), hE.trans x.ext⟩
      · obtain rfl : k = plates.length := by omega
        clear hk hlt
        have hfb := HFB.out plates.length (Nat.le_refl _)
        generalize hfi : firstOf th plates plates.length = first at hfb
        go_upto_region 8 with fail
        obtain ⟨hf0, hf99⟩ := hfb
        clear HK
        go_upto_region 9 with (first | (refine wpList_min rfl _ _ rfl _ _ (by rfl) (by rfl) ?_) | (refine wpList_max rfl _ _ rfl _ _ (by rfl) (by rfl) ?_))
        obtain ⟨w7, ob, e1, e2, hE7, hobh⟩ := new_block wr #[.int .i64 plates.length, .int .i64 (min 30 (100 - first)), .slice none 0 0, .slice none 0 0] 41
        have hob : wr.heap.size ≤ ob := by omega
        rw [e1, e2]
        clear e1 e2
        have hl30 : 1 ≤ min 30 (100 - first) ∧ min 30 (100 - first) ≤ 30 ∧ min 30 (100 - first) ≤ 100 - first := by omega
        generalize hlast : min 30 (100 - first) = last at hobh hl30 ⊢
        have hE27 : Ext w2 w7 := hE26.trans (hE.trans hE7)
        have g1 := hE27.cell S1.out
        go_upto_region 10 with fail
        obtain ⟨w8, mb, e1, e2, hE8, mblk⟩ := new_block w7 #[.slice none 0 0, .int .i64 rate] 44
        rw [e1, e2]
        have hmb : w7.heap.size ≤ mb := by omega
        clear e1 e2 g1
        have hob8 : ob < w7.heap.size := blk_lt hobh
        have hmo : mb ≠ ob := by omega
        have hE28 : Ext w2 w8 := hE27.trans hE8
        have hEw8 : Ext w w8 := hEw.trans hE28
        have hobw : w2.heap.size ≤ ob := by have := hE26.size; have := hE.size; omega
        have hmb8 : mb < w8.heap.size := blk_lt mblk
        have hob88 : ob < w8.heap.size := by have := hE8.size; omega
        have HOB := Lib.hid (hE8.heap hobh)
        have HMB := Lib.hid mblk
        have HLAST := Lib.hid hlast
        have HFIRST := Lib.hid hfi
        clear hobh mblk hlast hfi
        have hp0w : p0 < w2.heap.size := World.block_lt_of_cell? _ _ R0.out
        have hpxw : px < w2.heap.size := World.block_lt_of_cell? _ _ S0.out
        go_upto_region 12 with fail
        generalize hats : atsOf th mk change first last plates = ats
        have hatl : ats.length = plates.length := by rw [← hats]; simp [atsOf]
        have HATS := Lib.hid hats
        clear hats
        go_loopg [11, 12] plates.length (fun g v i wr => ∃ k : Nat, k + g = plates.length ∧ i = .int .i64 k ∧ Turned2 ob mb w8 wr ∧ ∃ vC vF,
          wr.heap[ob]? = some (.cells #[.int .i64 plates.length, .int .i64 last, .slice none 0 0, vF] 41 (0, 0)) ∧
          wr.heap[mb]? = some (.cells #[vC, .int .i64 rate] 44 (0, 0)) ∧
          OwnI wr w8.heap.size v (ats.take k) ∧
          OwnR (Plain encS) 48 2 wr w8.heap.size vC (List.replicate k ⟨0, last⟩) ∧
          OwnR (RFoundO v) 50 3 wr w8.heap.size vF (fsOf last ats (ats.take k)))
        case atStart => exact ⟨0, by omega, rfl, Turned2.refl _ _ _, _, _, HOB.out, HMB.out, own_none _ _ _ _, OwnR.none_ _ _ _ _ _, OwnR.none_ _ _ _ _ _⟩
        case round =>
          obtain ⟨k, hk, rfl, hT, vC, vF, hbo, hbm, hO, hOC, hOF⟩ := hrel
          have HK := Lib.hid hk
          have HBO := Lib.hid hbo
          have HBM := Lib.hid hbm
          have HO := Lib.hid hO
          have HOC := Lib.hid hOC
          have HOF := Lib.hid hOF
          have hEwr : Ext w2 wr := hT.below hE28 hobw (by have := hE27.size; omega)
          by_cases hlt : k < plates.length
          · clear hk hbo hbm hO hOC hOF
            obtain ⟨j, hx, ⟨t, ht, _, _⟩, _⟩ := platesUpto_lt HPU.out hlt
            have hjl : j < th.length := (List.getElem?_eq_some_iff.1 ht).1
            have hki : (k : Int) < plates.length := by omega
            have hatk : ats[k]? = some (min last (max 0 (sinceOf th mk change j - first))) := by
              rw [← HATS.out]
              simp [atsOf, hx, atOf]
            have hsb := sinceOf_bound HCH.out change hjl
            obtain ⟨cb, co, hCe⟩ := HC.out.base (by omega)
            subst hCe
            have f0 := (HC.out.ext (hEw.trans hEwr)).at hx
            have g0 := hEwr.cell R0.out
            have g1 := hEwr.cell R1.out
            have g2 := hEwr.cell S0.out
            have HAT := Lib.hid hatk
            have HSI := Lib.hid (fun (W : World) (hW : Ext wr W) => Since7 A B th mk cm ck j change W hm2 (HA.out.ext (hEw.trans (hEwr.trans hW))) (HB.out.ext (hEw.trans (hEwr.trans hW))) HCH.out hjl C1.out)
            clear hx ht hatk
            by_cases hs : sinceOf th mk change j = 100
            · rw [hs] at HSI HAT
              have e1 : sinceVal 100 = 0 := rfl
              have e2 : sinceErr 100 = 3 := rfl
              rw [e1, e2] at HSI
              clear hs e1 e2
              go_upto_region 14 with fail
              refine wp_region_ext (by kernel_rfl) (by kernel_rfl) ?_
              repeat (go_big_quiet_step ((go_at_call 10; refine Calls.inX _ (HSI.out _ (ExtW.ext _)))))
              refine wpQuiet_nil ?_
              rintro _ ⟨x, rfl⟩
              have hEx := x.ext
              generalize x.out = wx at hEx ⊢
              clear x f0 g0 g1 g2
              go_upto_region 19 with fail
              have hnb : 0 ≤ min last (max 0 (100 - first)) ∧ min last (max 0 (100 - first)) ≤ last := by omega
              have hbx := hEx.heap HBO.out
              have o1 := blk_at hbx 1 rfl
              go_upto_region 20 with (first | (refine wpList_min rfl _ _ rfl _ _ (by rfl) (by rfl) ?_) | (refine wpList_max rfl _ _ rfl _ _ (by rfl) (by rfl) ?_))
              generalize min last (max 0 (100 - first)) = n at HAT hnb ⊢
              clear o1
              have HOx := Lib.hid (own_later HO.out hEx)
              have htk : ats.take (k + 1) = ats.take k ++ [n] := by rw [List.take_add_one, HAT.out]; rfl
              have HTK := Lib.hid htk
              have htl : (ats.take k).length ≤ 3 := by rw [List.length_take]; omega
              clear htk
              generalize hys : ats.take k = ys at HOx htl HTK
              have HYS := Lib.hid hys
              clear hys
              have b1 : ys.length + 1 ≤ maxLen := by unfold maxLen; omega
              have b2 : (ys.length + 1) * 8 ≤ 140737488355328 := by omega
              have hszx : w8.heap.size ≤ wx.heap.size := Nat.le_trans hT.size hEx.size
              go_upto_region 21 with (at_builtin; refine wpList_append_own_at _ rfl _ _ 26 rfl w8.heap.size 3 ii zi 1 8 Try.underlying26 hii hzi hsi hbi hzsi (by decide) _ _ _ rfl (HOx.out.alloc _) ⟨wx.heap.size, 0, none⟩ 1 1 [.int .i64 n] rfl rfl (cell_one_new _ _ _) (by simp [Value.oneCell']) b1 b2 (by rw [World.size_alloc]; omega) ?_; intro v2 w20 hown2 hgrow _ hvb)
              have hEa : Ext wr (wx.alloc (.cells #[.int .i64 n] 3)) := hEx.trans (Ext.alloc _ _)
              have hOa := HOx.out.alloc (.cells #[.int .i64 n] 3)
              have hba := own_base hOa
              have HT20 := Lib.hid ((hT.ext hEa).grown hgrow hba)
              have hbo20 := grown_heap hgrow hba hob88 (hEa.heap HBO.out)
              have hbm20 := grown_heap hgrow hba hmb8 (hEa.heap HBM.out)
              have HO20 := Lib.hid (OwnI.snoc hown2)
              have HOC20 := Lib.hid (OwnR.grownR (R' := Plain encS) (by decide) Plain.ext (OwnR.later Plain.ext HOC.out hEa) hOa hgrow)
              have HOF20 := Lib.hid (OwnR.grownR (R' := RFoundO v2) (by decide) (RFoundO.ints hgrow hvb) (OwnR.later (RFoundO.ext hEa) HOF.out hEa) hOa hgrow)
              have HBO20 := Lib.hid hbo20
              have HBM20 := Lib.hid hbm20
              clear hgrow hba hOa hown2 hvb hEa hbx hszx HOx
              obtain ⟨cellsC, hownC, hrepsC⟩ := HOC20.out
              have hbc := own_base hownC
              have m0 := blk_at hbm20 0 rfl
              have m1 := blk_free hbm20 0
              have o1 := blk_at hbo20 1 rfl
              have hs20 := HT20.out.size
              clear hbm20 hbo20
              have hcs := blk_cells (heap_alloc_new w20 (.cells #[.int .i64 0, .int .i64 last] 48))
              have hlc : (List.replicate k (⟨0, last⟩ : Span)).length ≤ 3 := by rw [List.length_replicate]; omega
              go_upto_region 22 with (at_builtin; (refine wpList_append_own_at _ rfl _ _ 42 rfl w8.heap.size 48 ip zp 2 16 Try.underlying42 hip hzp hsp hbp hzsp (by decide) _ _ _ rfl (hownC.alloc _) ⟨w20.heap.size, 0, none⟩ 1 1 [.int .i64 0, .int .i64 last] rfl rfl hcs (by simp [Value.oneCell']) (by unfold maxLen; omega) (by omega) (by rw [World.size_alloc]; omega) ?_; intro v3 w21 hown3 hgrow3 _ _; have HOC3 := Lib.hid (OwnR.snoc (R := Plain encS) (x := (⟨0, last⟩ : Span)) Plain.ext hrepsC rfl rfl hown3); have HBM21 := Lib.hid (grown_heap hgrow3 hbc hmb8 ((Ext.alloc w20 _).heap HBM20.out)); have HG3 := Lib.hid hgrow3; clear hown3 hgrow3; obtain ⟨Ac, cac, hvd, _⟩ := OwnR.reads HOC3.out; generalize (List.replicate k (⟨0, last⟩ : Span) ++ [(⟨0, last⟩ : Span)]).length = Lc at hvd; subst hvd; have m2 := blk_at HBM21.out 0 rfl; have m3 := blk_free HBM21.out 0))
              have hrepl : List.replicate (k + 1) (⟨0, last⟩ : Span) = List.replicate k (⟨0, last⟩ : Span) ++ [(⟨0, last⟩ : Span)] := List.replicate_succ'
              rw [← hrepl] at HOC3
              have hEa := Ext.alloc w20 (.cells #[.int .i64 0, .int .i64 last] 48)
              have hOa := hownC.alloc (.cells #[.int .i64 0, .int .i64 last] 48)
              have hT21 := (HT20.out.ext hEa).grown HG3.out hbc
              have hbo21 := grown_heap HG3.out hbc hob88 (hEa.heap HBO20.out)
              have hO21 := owns_grown (by decide) (own_later HO20.out hEa) hOa HG3.out
              have hOF21 := OwnR.grownR (R' := RFoundO v2) (by decide) (RFoundO.grownF (by decide) hOa HG3.out) (OwnR.later (RFoundO.ext hEa) HOF20.out hEa) hOa HG3.out
              have hUm : Turned mb w21 (w21.setCell ⟨mb, 0, none⟩ (.slice Ac Lc cac)) := (Turned.refl mb w21).set_ _ _
              have hbm22 := blk_put HBM21.out 0 (.slice Ac Lc cac)
              generalize w21.setCell ⟨mb, 0, none⟩ (.slice Ac Lc cac) = w22 at hUm hbm22 ⊢
              have HT22 := Lib.hid (hT21.right hUm)
              have HBO22 := Lib.hid (hUm.heap_ (show ob ≠ mb from hmo.symm) hbo21)
              have HBM22 := Lib.hid hbm22
              have HO22 := Lib.hid (owns_turned hO21 hUm hmb8)
              have HOC22 := Lib.hid (OwnR.turned (R := Plain encS) Plain.ext HOC3.out hUm hmb8)
              have HOF22 := Lib.hid (OwnR.turned (RFoundO.turnedF (by decide) HBM21.out hUm) hOF21 hUm hmb8)
              clear hbm22 hT21 hbo21 hO21 hOF21 hUm hOa hEa HG3 HBM21 HOC3 hrepl
              (try clear m2 m3)
              (try clear m0 m1)
              (try clear hownC hrepsC hbc)
              go_upto_region 23 with (first | (refine wpList_min rfl _ _ rfl _ _ (by rfl) (by rfl) ?_) | (refine wpList_max rfl _ _ rfl _ _ (by rfl) (by rfl) ?_))
              have hk0 : 0 ≤ max 0 (n - 1) ∧ max 0 (n - 1) ≤ 30 := by omega
              generalize hge : max 0 (n - 1) = k0 at hk0 ⊢
              have HGE := Lib.hid hge
              clear hge
              have hnx : (foundOf ats 0).from_.length = 1 := rfl
              have hp0o : p0 ≠ ob := by omega
              have hp0m : p0 ≠ mb := by have := hE27.size; omega
              have hpxo : px ≠ ob := by omega
              have hpxm : px ≠ mb := by have := hE27.size; omega
              have hmbw : w2.heap.size ≤ mb := by have := hE27.size; omega
              obtain ⟨og, rfl⟩ : ∃ og : Nat, og = gk := ⟨_, rfl⟩
              obtain ⟨wo, rfl⟩ : ∃ z : World, z = wr := ⟨_, rfl⟩
              go_loopg [16] (ks last n).length (fun g q wr => ∃ i : Nat, i + g = (ks last n).length ∧ q = .int .i64 (k0 + i) ∧ Turned2 ob mb w8 wr ∧ ∃ vG,
                wr.heap[ob]? = some (.cells #[.int .i64 plates.length, .int .i64 last, .slice none 0 0, vG] 41 (0, 0)) ∧
                wr.heap[mb]? = some (.cells #[.slice Ac Lc cac, .int .i64 rate] 44 (0, 0)) ∧
                OwnI wr w8.heap.size v2 (ys ++ [n]) ∧
                OwnR (Plain encS) 48 2 wr w8.heap.size (.slice Ac Lc cac) (List.replicate (k + 1) ⟨0, last⟩) ∧
                OwnR (RFoundO v2) 50 3 wr w8.heap.size vG (fsOf last ats (ats.take k) ++ ((ks last n).take i).map (foundOf ats)))
              case atStart => exact ⟨0, by omega, by simp, HT22.out, _, HBO22.out, HBM22.out, HO22.out, HOC22.out, by simpa using HOF22.out⟩
              case round =>
                obtain ⟨i, hi, rfl, hT3, vG, hbo, hbm, hO3, hOC3, hOF3⟩ := hrel
                have HI := Lib.hid hi
                have HBO3 := Lib.hid hbo
                have HBM3 := Lib.hid hbm
                have HO3 := Lib.hid hO3
                have HOC3 := Lib.hid hOC3
                have HOF3 := Lib.hid hOF3
                have o1 := blk_at hbo 1 rfl
                by_cases hlt3 : i < (ks last n).length
                · clear hi hbo hbm hO3 hOC3 hOF3
                  obtain ⟨hat, hq1, hq2⟩ := ks_at hnb hl30.1 hlt3
                  rw [HGE.out] at hat hq1 hq2
                  have hq0 : 0 ≤ k0 + (i : Int) := by omega
                  have htk : ((ks last n).take (i + 1)).map (foundOf ats) = ((ks last n).take i).map (foundOf ats) ++ [foundOf ats (k0 + i)] := by rw [List.take_add_one, hat]; simp
                  have HTK3 := Lib.hid htk
                  have hnx : k0 + ((i + 1 : Nat) : Int) = k0 + (i : Int) + 1 := by omega
                  have HNX := Lib.hid hnx
                  clear hat htk hnx
                  generalize k0 + (i : Int) = q at hq0 hq1 hq2 HTK3 HNX ⊢
                  have hEq : Ext w2 wr := hT3.below hE28 hobw hmbw
                  have g0 := hEq.cell R0.out
                  have g1 := hEq.cell R1.out
                  have g2 := hEq.cell S0.out
                  have hln3 := hl30.2.2
                  have hch := C1.out
                  go_upto_region 26 with (go_at_call 12; refine (copiedR A B (some ⟨cb, co, none⟩) th mk cm ck cp plates change first q _ hm2 hn3 (HA.out.ext (hEw.trans hEq)) (HB.out.ext (hEw.trans hEq)) (HC.out.ext (hEw.trans hEq)) HCH.out C1.out ⟨hf0, hf99⟩ ⟨hq0, by omega⟩ (by omega) (plates_mem HPU.out)).mono ?_; rintro e w24 ⟨N, cN, F, cF, rfl, hcN, hcF, hRN, hRF, hTN, hTF, hNN, hNF, hE24⟩)
                  obtain ⟨w25, fb, e1, e2, hE25, fblk⟩ := new_block w24 #[.int .i64 q, .slice N plates.length cN, .slice F 1 cF] 50
                  rw [e1, e2]
                  clear e1 e2 g0 g1 g2 o1
                  have hE5 := hE24.trans hE25
                  have hbo25 := hE5.heap HBO3.out
                  have hbm25 := hE5.heap HBM3.out
                  obtain ⟨cellsF, hownF, hrepsF⟩ := OwnR.later (RFoundO.ext hE5) HOF3.out hE5
                  have hsl : (shows ats q).length = plates.length := by simp [shows, hatl]
                  have hnw := news_shows (th := th) (mk := mk) (change := change) (first := first) plates ⟨hq0, hq2⟩
                  rw [HATS.out] at hnw
                  rw [hnw] at hRN
                  have hlt2 := owns_lt HO3.out
                  have hel : RFoundO v2 w25 (foundOf ats q) [.int .i64 q, .slice N plates.length cN, .slice F 1 cF] :=
                    ⟨N, cN, F, cF, by simp [foundOf, hsl], by simp only [foundOf, hsl]; exact hcN, hcF, RdI.ext hRN hE25, RdI.ext hRF hE25, hTN.ext hE25, hTF.ext hE25,
                      off_fresh hlt2 (fun b o e => ⟨(hNN b o e).1, Nat.lt_of_lt_of_le (hNN b o e).2 hE25.size⟩), off_fresh hlt2 (fun b o e => ⟨(hNF b o e).1, Nat.lt_of_lt_of_le (hNF b o e).2 hE25.size⟩)⟩
                  have hEa := Ext.alloc w25 (.cells #[.int .i64 q, .slice N plates.length cN, .slice F 1 cF] 50)
                  have hOa := hownF.alloc (.cells #[.int .i64 q, .slice N plates.length cN, .slice F 1 cF] 50)
                  have hRa := hrepsF.ext (RFoundO.ext hEa)
                  have hela := RFoundO.ext hEa _ _ hel
                  have hba := own_base hOa
                  have hcs := blk_cells (heap_alloc_new w25 (.cells #[.int .i64 q, .slice N plates.length cN, .slice F 1 cF] 50))
                  have hlf : (fsOf last ats (ats.take k) ++ ((ks last n).take i).map (foundOf ats)).length ≤ 8 := by
                    have h1 := fsOf_length last ats (ats.take k)
                    have h2 := ks_length last n
                    simp only [List.length_append, List.length_map, List.length_take] at h1 ⊢
                    omega
                  generalize hfl : fsOf last ats (ats.take k) ++ ((ks last n).take i).map (foundOf ats) = fl at hownF hrepsF hOa hRa hlf
                  have HFL := Lib.hid hfl
                  have hb25 : w8.heap.size ≤ w25.heap.size := Nat.le_trans hT3.size hE5.size
                  have o3 := blk_at hbo25 3 rfl
                  have c0 := blk_at fblk 0 rfl
                  have c1 := blk_at fblk 1 rfl
                  have c2 := blk_at fblk 2 rfl
                  have HEA := Lib.hid hEa
                  have HBO25 := Lib.hid hbo25
                  have HBM25 := Lib.hid hbm25
                  have HE5 := Lib.hid hE5
                  clear hfl hbo25 hbm25 hel hrepsF hRN hRF hTN hTF hNN hNF hnw hsl hlt2 fblk hE5 hE24 hE25
                  go_wp2_with (at_builtin; (refine wpList_append_own_at _ rfl _ _ 39 rfl w8.heap.size 50 ifd zf 3 56 Try.underlying39 hif hzf hsf hbf hzsf (by decide) _ _ _ rfl hOa ⟨w25.heap.size, 0, none⟩ 1 1 [.int .i64 q, .slice N plates.length cN, .slice F 1 cF] rfl rfl hcs (by simp [Value.oneCell']) (by unfold maxLen; omega) (by omega) (by rw [World.size_alloc]; omega) ?_; intro v4 w26 hown4 hgrow4 _ _; have HOF4 := Lib.hid (OwnR.snoc (R := RFoundO v2) (x := foundOf ats q) (RFoundO.grownF (by decide) hOa hgrow4) hRa (RFoundO.grownF (by decide) hOa hgrow4 _ _ hela) rfl hown4); have HBO26 := Lib.hid (grown_heap hgrow4 hba hob88 (HEA.out.heap HBO25.out)); have HG4 := Lib.hid hgrow4; clear hown4 hgrow4; obtain ⟨Af, caf, hvd, _⟩ := OwnR.reads HOF4.out; generalize (fl ++ [foundOf ats q]).length = Lf at hvd; subst hvd; have m2 := blk_at HBO26.out 3 rfl; have m3 := blk_free HBO26.out 3))
                  have hUo : Turned ob w26 (w26.setCell ⟨ob, 3, none⟩ (.slice Af Lf caf)) := (Turned.refl ob w26).set_ _ _
                  have hbo27 := blk_put HBO26.out 3 (.slice Af Lf caf)
                  generalize w26.setCell ⟨ob, 3, none⟩ (.slice Af Lf caf) = w27 at hUo hbo27 ⊢
                  have HT27 := Lib.hid ((((hT3.ext HE5.out).ext HEA.out).grown HG4.out hba).left hUo)
                  have HBO27 := Lib.hid hbo27
                  have HBM27 := Lib.hid (hUo.heap_ hmo (grown_heap HG4.out hba hmb8 (HEA.out.heap HBM25.out)))
                  have HO27 := Lib.hid (owns_turned (owns_grown (by decide) (own_later HO3.out (HE5.out.trans HEA.out)) hOa HG4.out) hUo hob88)
                  have HOC27 := Lib.hid (OwnR.turned (R := Plain encS) Plain.ext (OwnR.grownR (R' := Plain encS) (by decide) Plain.ext (OwnR.later (R := Plain encS) Plain.ext HOC3.out (HE5.out.trans HEA.out)) hOa HG4.out) hUo hob88)
                  have HOF27 := Lib.hid (OwnR.turned (RFoundO.turnedF (by decide) HBO26.out hUo) HOF4.out hUo hob88)
                  clear hbo27 hUo
                  go_roundg (gk - 1)
                  case measure => have := HI.out; omega
                  case rel => exact ⟨i + 1, by have := HI.out; omega, by rw [HNX.out], HT27.out, _, HBO27.out, HBM27.out, HO27.out, HOC27.out, by rw [HTK3.out, ← List.append_assoc, HFL.out]; exact HOF27.out⟩
                · obtain rfl : i = (ks last n).length := by omega
                  have hend := ks_end hnb hl30.1
                  rw [HGE.out] at hend
                  rw [List.take_length, ← fsOf_snoc, HYS.out, ← HTK.out] at hOF3
                  rw [← HTK.out] at hO3
                  have HO9 := Lib.hid hO3
                  have HF9 := Lib.hid hOF3
                  clear hi hbo hbm hO3 hOC3 hOF3
                  generalize k0 + ((ks last n).length : Int) = qe at hend ⊢
                  by_cases h1 : qe ≤ n
                  · have h2 : ¬ qe < last := fun h => hend ⟨h1, h⟩
                    go_wp2_with fail
                    go_roundg (og - 1)
                    case measure => have := HK.out; omega
                    case rel => exact ⟨k + 1, by have := HK.out; omega, by go_num, hT3, _, vG, HBO3.out, HBM3.out, HO9.out, HOC3.out, HF9.out⟩
                  · go_wp2_with fail
                    go_roundg (og - 1)
                    case measure => have := HK.out; omega
                    case rel => exact ⟨k + 1, by have := HK.out; omega, by go_num, hT3, _, vG, HBO3.out, HBM3.out, HO9.out, HOC3.out, HF9.out⟩
            · have e1 : sinceVal (sinceOf th mk change j) = sinceOf th mk change j := if_neg hs
              have e2 : sinceErr (sinceOf th mk change j) = 0 := if_neg hs
              rw [e1, e2] at HSI
              clear e1 e2
              generalize sinceOf th mk change j = s at HSI HAT hsb hs
              have him : inB s 0 99 = true := inB_iff.2 (by omega)
              have HIM := Lib.hid him
              clear him
              go_upto_region 14 with fail
              refine wp_region_ext (by kernel_rfl) (by kernel_rfl) ?_
              repeat (go_big_quiet_step ((go_at_call 10; refine Calls.inX _ (HSI.out _ (ExtW.ext _)))))
              refine wpQuiet_nil ?_
              rintro _ ⟨x, rfl⟩
              have hEx := x.ext
              generalize x.out = wx at hEx ⊢
              clear x f0 g0 g1 g2
              go_upto_region 19 with (go_at_call 11; refine (isMinuteb HIM.out _).mono ?_; rintro e w5 ⟨rfl, rfl⟩)
              have hnb : 0 ≤ min last (max 0 (s - first)) ∧ min last (max 0 (s - first)) ≤ last := by omega
              have hbx := hEx.heap HBO.out
              have o1 := blk_at hbx 1 rfl
              go_upto_region 20 with (first | (refine wpList_min rfl _ _ rfl _ _ (by rfl) (by rfl) ?_) | (refine wpList_max rfl _ _ rfl _ _ (by rfl) (by rfl) ?_))
              generalize min last (max 0 (s - first)) = n at HAT hnb ⊢
              clear o1
              have HOx := Lib.hid (own_later HO.out hEx)
              have htk : ats.take (k + 1) = ats.take k ++ [n] := by rw [List.take_add_one, HAT.out]; rfl
              have HTK := Lib.hid htk
              have htl : (ats.take k).length ≤ 3 := by rw [List.length_take]; omega
              clear htk
              generalize hys : ats.take k = ys at HOx htl HTK
              have HYS := Lib.hid hys
              clear hys
              have b1 : ys.length + 1 ≤ maxLen := by unfold maxLen; omega
              have b2 : (ys.length + 1) * 8 ≤ 140737488355328 := by omega
              have hszx : w8.heap.size ≤ wx.heap.size := Nat.le_trans hT.size hEx.size
              go_upto_region 21 with (at_builtin; refine wpList_append_own_at _ rfl _ _ 26 rfl w8.heap.size 3 ii zi 1 8 Try.underlying26 hii hzi hsi hbi hzsi (by decide) _ _ _ rfl (HOx.out.alloc _) ⟨wx.heap.size, 0, none⟩ 1 1 [.int .i64 n] rfl rfl (cell_one_new _ _ _) (by simp [Value.oneCell']) b1 b2 (by rw [World.size_alloc]; omega) ?_; intro v2 w20 hown2 hgrow _ hvb)
              have hEa : Ext wr (wx.alloc (.cells #[.int .i64 n] 3)) := hEx.trans (Ext.alloc _ _)
              have hOa := HOx.out.alloc (.cells #[.int .i64 n] 3)
              have hba := own_base hOa
              have HT20 := Lib.hid ((hT.ext hEa).grown hgrow hba)
              have hbo20 := grown_heap hgrow hba hob88 (hEa.heap HBO.out)
              have hbm20 := grown_heap hgrow hba hmb8 (hEa.heap HBM.out)
              have HO20 := Lib.hid (OwnI.snoc hown2)
              have HOC20 := Lib.hid (OwnR.grownR (R' := Plain encS) (by decide) Plain.ext (OwnR.later Plain.ext HOC.out hEa) hOa hgrow)
              have HOF20 := Lib.hid (OwnR.grownR (R' := RFoundO v2) (by decide) (RFoundO.ints hgrow hvb) (OwnR.later (RFoundO.ext hEa) HOF.out hEa) hOa hgrow)
              have HBO20 := Lib.hid hbo20
              have HBM20 := Lib.hid hbm20
              clear hgrow hba hOa hown2 hvb hEa hbx hszx HOx
              obtain ⟨cellsC, hownC, hrepsC⟩ := HOC20.out
              have hbc := own_base hownC
              have m0 := blk_at hbm20 0 rfl
              have m1 := blk_free hbm20 0
              have o1 := blk_at hbo20 1 rfl
              have hs20 := HT20.out.size
              clear hbm20 hbo20
              have hcs := blk_cells (heap_alloc_new w20 (.cells #[.int .i64 0, .int .i64 last] 48))
              have hlc : (List.replicate k (⟨0, last⟩ : Span)).length ≤ 3 := by rw [List.length_replicate]; omega
              go_upto_region 22 with (at_builtin; (refine wpList_append_own_at _ rfl _ _ 42 rfl w8.heap.size 48 ip zp 2 16 Try.underlying42 hip hzp hsp hbp hzsp (by decide) _ _ _ rfl (hownC.alloc _) ⟨w20.heap.size, 0, none⟩ 1 1 [.int .i64 0, .int .i64 last] rfl rfl hcs (by simp [Value.oneCell']) (by unfold maxLen; omega) (by omega) (by rw [World.size_alloc]; omega) ?_; intro v3 w21 hown3 hgrow3 _ _; have HOC3 := Lib.hid (OwnR.snoc (R := Plain encS) (x := (⟨0, last⟩ : Span)) Plain.ext hrepsC rfl rfl hown3); have HBM21 := Lib.hid (grown_heap hgrow3 hbc hmb8 ((Ext.alloc w20 _).heap HBM20.out)); have HG3 := Lib.hid hgrow3; clear hown3 hgrow3; obtain ⟨Ac, cac, hvd, _⟩ := OwnR.reads HOC3.out; generalize (List.replicate k (⟨0, last⟩ : Span) ++ [(⟨0, last⟩ : Span)]).length = Lc at hvd; subst hvd; have m2 := blk_at HBM21.out 0 rfl; have m3 := blk_free HBM21.out 0))
              have hrepl : List.replicate (k + 1) (⟨0, last⟩ : Span) = List.replicate k (⟨0, last⟩ : Span) ++ [(⟨0, last⟩ : Span)] := List.replicate_succ'
              rw [← hrepl] at HOC3
              have hEa := Ext.alloc w20 (.cells #[.int .i64 0, .int .i64 last] 48)
              have hOa := hownC.alloc (.cells #[.int .i64 0, .int .i64 last] 48)
              have hT21 := (HT20.out.ext hEa).grown HG3.out hbc
              have hbo21 := grown_heap HG3.out hbc hob88 (hEa.heap HBO20.out)
              have hO21 := owns_grown (by decide) (own_later HO20.out hEa) hOa HG3.out
              have hOF21 := OwnR.grownR (R' := RFoundO v2) (by decide) (RFoundO.grownF (by decide) hOa HG3.out) (OwnR.later (RFoundO.ext hEa) HOF20.out hEa) hOa HG3.out
              have hUm : Turned mb w21 (w21.setCell ⟨mb, 0, none⟩ (.slice Ac Lc cac)) := (Turned.refl mb w21).set_ _ _
              have hbm22 := blk_put HBM21.out 0 (.slice Ac Lc cac)
              generalize w21.setCell ⟨mb, 0, none⟩ (.slice Ac Lc cac) = w22 at hUm hbm22 ⊢
              have HT22 := Lib.hid (hT21.right hUm)
              have HBO22 := Lib.hid (hUm.heap_ (show ob ≠ mb from hmo.symm) hbo21)
              have HBM22 := Lib.hid hbm22
              have HO22 := Lib.hid (owns_turned hO21 hUm hmb8)
              have HOC22 := Lib.hid (OwnR.turned (R := Plain encS) Plain.ext HOC3.out hUm hmb8)
              have HOF22 := Lib.hid (OwnR.turned (RFoundO.turnedF (by decide) HBM21.out hUm) hOF21 hUm hmb8)
              clear hbm22 hT21 hbo21 hO21 hOF21 hUm hOa hEa HG3 HBM21 HOC3 hrepl
              (try clear m2 m3)
              (try clear m0 m1)
              (try clear hownC hrepsC hbc)
              go_upto_region 23 with (first | (refine wpList_min rfl _ _ rfl _ _ (by rfl) (by rfl) ?_) | (refine wpList_max rfl _ _ rfl _ _ (by rfl) (by rfl) ?_))
              have hk0 : 0 ≤ max 0 (n - 1) ∧ max 0 (n - 1) ≤ 30 := by omega
              generalize hge : max 0 (n - 1) = k0 at hk0 ⊢
              have HGE := Lib.hid hge
              clear hge
              have hnx : (foundOf ats 0).from_.length = 1 := rfl
              have hp0o : p0 ≠ ob := by omega
              have hp0m : p0 ≠ mb := by have := hE27.size; omega
              have hpxo : px ≠ ob := by omega
              have hpxm : px ≠ mb := by have := hE27.size; omega
              have hmbw : w2.heap.size ≤ mb := by have := hE27.size; omega
              obtain ⟨og, rfl⟩ : ∃ og : Nat, og = gk := ⟨_, rfl⟩
              obtain ⟨wo, rfl⟩ : ∃ z : World, z = wr := ⟨_, rfl⟩
              go_loopg [16] (ks last n).length (fun g q wr => ∃ i : Nat, i + g = (ks last n).length ∧ q = .int .i64 (k0 + i) ∧ Turned2 ob mb w8 wr ∧ ∃ vG,
                wr.heap[ob]? = some (.cells #[.int .i64 plates.length, .int .i64 last, .slice none 0 0, vG] 41 (0, 0)) ∧
                wr.heap[mb]? = some (.cells #[.slice Ac Lc cac, .int .i64 rate] 44 (0, 0)) ∧
                OwnI wr w8.heap.size v2 (ys ++ [n]) ∧
                OwnR (Plain encS) 48 2 wr w8.heap.size (.slice Ac Lc cac) (List.replicate (k + 1) ⟨0, last⟩) ∧
                OwnR (RFoundO v2) 50 3 wr w8.heap.size vG (fsOf last ats (ats.take k) ++ ((ks last n).take i).map (foundOf ats)))
              case atStart => exact ⟨0, by omega, by simp, HT22.out, _, HBO22.out, HBM22.out, HO22.out, HOC22.out, by simpa using HOF22.out⟩
              case round =>
                obtain ⟨i, hi, rfl, hT3, vG, hbo, hbm, hO3, hOC3, hOF3⟩ := hrel
                have HI := Lib.hid hi
                have HBO3 := Lib.hid hbo
                have HBM3 := Lib.hid hbm
                have HO3 := Lib.hid hO3
                have HOC3 := Lib.hid hOC3
                have HOF3 := Lib.hid hOF3
                have o1 := blk_at hbo 1 rfl
                by_cases hlt3 : i < (ks last n).length
                · clear hi hbo hbm hO3 hOC3 hOF3
                  obtain ⟨hat, hq1, hq2⟩ := ks_at hnb hl30.1 hlt3
                  rw [HGE.out] at hat hq1 hq2
                  have hq0 : 0 ≤ k0 + (i : Int) := by omega
                  have htk : ((ks last n).take (i + 1)).map (foundOf ats) = ((ks last n).take i).map (foundOf ats) ++ [foundOf ats (k0 + i)] := by rw [List.take_add_one, hat]; simp
                  have HTK3 := Lib.hid htk
                  have hnx : k0 + ((i + 1 : Nat) : Int) = k0 + (i : Int) + 1 := by omega
                  have HNX := Lib.hid hnx
                  clear hat htk hnx
                  generalize k0 + (i : Int) = q at hq0 hq1 hq2 HTK3 HNX ⊢
                  have hEq : Ext w2 wr := hT3.below hE28 hobw hmbw
                  have g0 := hEq.cell R0.out
                  have g1 := hEq.cell R1.out
                  have g2 := hEq.cell S0.out
                  have hln3 := hl30.2.2
                  have hch := C1.out
                  go_upto_region 26 with (go_at_call 12; refine (copiedR A B (some ⟨cb, co, none⟩) th mk cm ck cp plates change first q _ hm2 hn3 (HA.out.ext (hEw.trans hEq)) (HB.out.ext (hEw.trans hEq)) (HC.out.ext (hEw.trans hEq)) HCH.out C1.out ⟨hf0, hf99⟩ ⟨hq0, by omega⟩ (by omega) (plates_mem HPU.out)).mono ?_; rintro e w24 ⟨N, cN, F, cF, rfl, hcN, hcF, hRN, hRF, hTN, hTF, hNN, hNF, hE24⟩)
                  obtain ⟨w25, fb, e1, e2, hE25, fblk⟩ := new_block w24 #[.int .i64 q, .slice N plates.length cN, .slice F 1 cF] 50
                  rw [e1, e2]
                  clear e1 e2 g0 g1 g2 o1
                  have hE5 := hE24.trans hE25
                  have hbo25 := hE5.heap HBO3.out
                  have hbm25 := hE5.heap HBM3.out
                  obtain ⟨cellsF, hownF, hrepsF⟩ := OwnR.later (RFoundO.ext hE5) HOF3.out hE5
                  have hsl : (shows ats q).length = plates.length := by simp [shows, hatl]
                  have hnw := news_shows (th := th) (mk := mk) (change := change) (first := first) plates ⟨hq0, hq2⟩
                  rw [HATS.out] at hnw
                  rw [hnw] at hRN
                  have hlt2 := owns_lt HO3.out
                  have hel : RFoundO v2 w25 (foundOf ats q) [.int .i64 q, .slice N plates.length cN, .slice F 1 cF] :=
                    ⟨N, cN, F, cF, by simp [foundOf, hsl], by simp only [foundOf, hsl]; exact hcN, hcF, RdI.ext hRN hE25, RdI.ext hRF hE25, hTN.ext hE25, hTF.ext hE25,
                      off_fresh hlt2 (fun b o e => ⟨(hNN b o e).1, Nat.lt_of_lt_of_le (hNN b o e).2 hE25.size⟩), off_fresh hlt2 (fun b o e => ⟨(hNF b o e).1, Nat.lt_of_lt_of_le (hNF b o e).2 hE25.size⟩)⟩
                  have hEa := Ext.alloc w25 (.cells #[.int .i64 q, .slice N plates.length cN, .slice F 1 cF] 50)
                  have hOa := hownF.alloc (.cells #[.int .i64 q, .slice N plates.length cN, .slice F 1 cF] 50)
                  have hRa := hrepsF.ext (RFoundO.ext hEa)
                  have hela := RFoundO.ext hEa _ _ hel
                  have hba := own_base hOa
                  have hcs := blk_cells (heap_alloc_new w25 (.cells #[.int .i64 q, .slice N plates.length cN, .slice F 1 cF] 50))
                  have hlf : (fsOf last ats (ats.take k) ++ ((ks last n).take i).map (foundOf ats)).length ≤ 8 := by
                    have h1 := fsOf_length last ats (ats.take k)
                    have h2 := ks_length last n
                    simp only [List.length_append, List.length_map, List.length_take] at h1 ⊢
                    omega
                  generalize hfl : fsOf last ats (ats.take k) ++ ((ks last n).take i).map (foundOf ats) = fl at hownF hrepsF hOa hRa hlf
                  have HFL := Lib.hid hfl
                  have hb25 : w8.heap.size ≤ w25.heap.size := Nat.le_trans hT3.size hE5.size
                  have o3 := blk_at hbo25 3 rfl
                  have c0 := blk_at fblk 0 rfl
                  have c1 := blk_at fblk 1 rfl
                  have c2 := blk_at fblk 2 rfl
                  have HEA := Lib.hid hEa
                  have HBO25 := Lib.hid hbo25
                  have HBM25 := Lib.hid hbm25
                  have HE5 := Lib.hid hE5
                  clear hfl hbo25 hbm25 hel hrepsF hRN hRF hTN hTF hNN hNF hnw hsl hlt2 fblk hE5 hE24 hE25
                  go_wp2_with (at_builtin; (refine wpList_append_own_at _ rfl _ _ 39 rfl w8.heap.size 50 ifd zf 3 56 Try.underlying39 hif hzf hsf hbf hzsf (by decide) _ _ _ rfl hOa ⟨w25.heap.size, 0, none⟩ 1 1 [.int .i64 q, .slice N plates.length cN, .slice F 1 cF] rfl rfl hcs (by simp [Value.oneCell']) (by unfold maxLen; omega) (by omega) (by rw [World.size_alloc]; omega) ?_; intro v4 w26 hown4 hgrow4 _ _; have HOF4 := Lib.hid (OwnR.snoc (R := RFoundO v2) (x := foundOf ats q) (RFoundO.grownF (by decide) hOa hgrow4) hRa (RFoundO.grownF (by decide) hOa hgrow4 _ _ hela) rfl hown4); have HBO26 := Lib.hid (grown_heap hgrow4 hba hob88 (HEA.out.heap HBO25.out)); have HG4 := Lib.hid hgrow4; clear hown4 hgrow4; obtain ⟨Af, caf, hvd, _⟩ := OwnR.reads HOF4.out; generalize (fl ++ [foundOf ats q]).length = Lf at hvd; subst hvd; have m2 := blk_at HBO26.out 3 rfl; have m3 := blk_free HBO26.out 3))
                  have hUo : Turned ob w26 (w26.setCell ⟨ob, 3, none⟩ (.slice Af Lf caf)) := (Turned.refl ob w26).set_ _ _
                  have hbo27 := blk_put HBO26.out 3 (.slice Af Lf caf)
                  generalize w26.setCell ⟨ob, 3, none⟩ (.slice Af Lf caf) = w27 at hUo hbo27 ⊢
                  have HT27 := Lib.hid ((((hT3.ext HE5.out).ext HEA.out).grown HG4.out hba).left hUo)
                  have HBO27 := Lib.hid hbo27
                  have HBM27 := Lib.hid (hUo.heap_ hmo (grown_heap HG4.out hba hmb8 (HEA.out.heap HBM25.out)))
                  have HO27 := Lib.hid (owns_turned (owns_grown (by decide) (own_later HO3.out (HE5.out.trans HEA.out)) hOa HG4.out) hUo hob88)
                  have HOC27 := Lib.hid (OwnR.turned (R := Plain encS) Plain.ext (OwnR.grownR (R' := Plain encS) (by decide) Plain.ext (OwnR.later (R := Plain encS) Plain.ext HOC3.out (HE5.out.trans HEA.out)) hOa HG4.out) hUo hob88)
                  have HOF27 := Lib.hid (OwnR.turned (RFoundO.turnedF (by decide) HBO26.out hUo) HOF4.out hUo hob88)
                  clear hbo27 hUo
                  go_roundg (gk - 1)
                  case measure => have := HI.out; omega
                  case rel => exact ⟨i + 1, by have := HI.out; omega, by rw [HNX.out], HT27.out, _, HBO27.out, HBM27.out, HO27.out, HOC27.out, by rw [HTK3.out, ← List.append_assoc, HFL.out]; exact HOF27.out⟩
                · obtain rfl : i = (ks last n).length := by omega
                  have hend := ks_end hnb hl30.1
                  rw [HGE.out] at hend
                  rw [List.take_length, ← fsOf_snoc, HYS.out, ← HTK.out] at hOF3
                  rw [← HTK.out] at hO3
                  have HO9 := Lib.hid hO3
                  have HF9 := Lib.hid hOF3
                  clear hi hbo hbm hO3 hOC3 hOF3
                  generalize k0 + ((ks last n).length : Int) = qe at hend ⊢
                  by_cases h1 : qe ≤ n
                  · have h2 : ¬ qe < last := fun h => hend ⟨h1, h⟩
                    go_wp2_with fail
                    go_roundg (og - 1)
                    case measure => have := HK.out; omega
                    case rel => exact ⟨k + 1, by have := HK.out; omega, by go_num, hT3, _, vG, HBO3.out, HBM3.out, HO9.out, HOC3.out, HF9.out⟩
                  · go_wp2_with fail
                    go_roundg (og - 1)
                    case measure => have := HK.out; omega
                    case rel => exact ⟨k + 1, by have := HK.out; omega, by go_num, hT3, _, vG, HBO3.out, HBM3.out, HO9.out, HOC3.out, HF9.out⟩
          · obtain rfl : k = plates.length := by omega
            have htl : ats.take plates.length = ats := by rw [← hatl, List.take_length]
            rw [htl] at hO hOF
            have hrt := inB_iff.1 C2.out
            have hAO : AtsOk last ats := by rw [← HATS.out]; exact atsOk ⟨hn1, hn3⟩ ⟨hl30.1, hl30.2.1⟩
            have HAO := Lib.hid hAO
            have HOK := Lib.hid (okRunOf (rate := rate) hAO hrt)
            obtain ⟨A11, c11, rfl, hc11, hR11, hT11⟩ := OwnI.full hO
            obtain ⟨Ac, cac, rfl, hcac, hRc⟩ := OwnR.reads hOC
            obtain ⟨Af, caf, rfl, hcaf, hRf⟩ := OwnR.reads hOF
            have hRf := RdL.imp RFoundO.plain hRf
            have HOCs := Lib.hid hOC
            have HO11 := Lib.hid hO
            have hrl : (List.replicate plates.length (⟨0, last⟩ : Span)).length = plates.length := List.length_replicate
            generalize hfs : fsOf last ats ats = fs at hRf hcaf HOK HBO hbo hOF
            have HFS := Lib.hid hfs
            have HOFs := Lib.hid hOF
            have m0 := blk_at hbm 0 rfl
            have m1 := blk_at hbm 1 rfl
            have hboA := (Ext.alloc wr (.cells #[.slice Ac plates.length cac, .int .i64 rate] 44)).heap hbo
            have o2 := blk_at hboA 2 rfl
            have f2 := blk_free hboA 2
            have HBOA := Lib.hid hboA
            have HRC := Lib.hid hRc
            have HRF := Lib.hid hRf
            have HR11 := Lib.hid hR11
            rw [hrl] at m0
            clear hk hlt hO hOC hOF hAO hrt hfs hRc hRf hR11 hbm hbo hboA htl HO HOC HOF
            go_upto_region 30 with fail
            have hbo31 := blk_put HBOA.out 2 (.slice (some ⟨wr.heap.size, 0, none⟩) 1 1)
            have hE31 := Ext.alloc wr (.cells #[.slice Ac plates.length cac, .int .i64 rate] 44)
            have hkb := heap_alloc_new wr (.cells #[.slice Ac plates.length cac, .int .i64 rate] 44)
            generalize wr.alloc (.cells #[.slice Ac plates.length cac, .int .i64 rate] 44) = wa at hbo31 hE31 hkb HBOA ⊢
            have hU31 : Turned ob wa (wa.setCell ⟨ob, 2, none⟩ (.slice (some ⟨wr.heap.size, 0, none⟩) 1 1)) := (Turned.refl ob wa).set_ _ _
            generalize wa.setCell ⟨ob, 2, none⟩ (.slice (some ⟨wr.heap.size, 0, none⟩) 1 1) = w31 at hbo31 hU31 ⊢
            have hobr : ob < wr.heap.size := by have := hT.size; omega
            generalize wr.heap.size = kb at hbo31 hkb hobr ⊢
            have hkb31 := hU31.heap_ (show kb ≠ ob by omega) hkb
            have hT31 := (hT.ext hE31).left hU31
            have hOC31 := OwnR.turned (R := Plain encS) Plain.ext (OwnR.later (R := Plain encS) Plain.ext HOCs.out hE31) hU31 hob88
            have hOF31 := OwnR.turned (RFoundO.turnedF (by decide) HBOA.out hU31) (OwnR.later (RFoundO.ext hE31) HOFs.out hE31) hU31 hob88
            have hO31 := owns_turned (own_later HO11.out hE31) hU31 hob88
            have hRS31 := OwnR.rd hOC31
            have hRF31 := RdL.imp RFoundO.plain (OwnR.rd hOF31)
            obtain ⟨A9, c9, e9, _, hRI31, _⟩ := OwnI.full (xs := ats) hO31
            have hA9 := (Value.slice.inj e9).1
            subst hA9
            have hRM31 : RdMach w31 (some ⟨kb, 0, none⟩) (msOf last rate plates.length) := rd_of_reps ((Reps.none RMach 2 w31).snoc (x := (⟨List.replicate plates.length ⟨0, last⟩, rate⟩ : Machine)) ⟨Ac, cac, rfl, hcac, hRS31⟩ rfl) hkb31 (by simp)
            have HRM := Lib.hid hRM31
            have HRF31 := Lib.hid hRF31
            have HRI := Lib.hid hRI31
            have HBO31 := Lib.hid hbo31
            have HT31 := Lib.hid hT31
            have hok2 := HOK.out
            rw [hatl] at hok2
            have HOK2 := Lib.hid hok2
            have b0 := blk_at hbo31 0 rfl
            have b1 := blk_at hbo31 1 rfl
            have b2 := blk_at hbo31 2 rfl
            have b3 := blk_at hbo31 3 rfl
            clear hok2 hbo31 hOC31 hOF31 hO31 hRS31 hRF31 hRI31 hRM31 hkb31 hU31 e9 m0 m1 o2 f2
            go_upto_region 34 with (go_at_call 13; refine (refCheck6 plates.length last (some ⟨kb, 0, none⟩) Af (msOf last rate plates.length) fs 1 caf _ HOK2.out HRM.out HRF31.out).mono ?_; rintro e w32 ⟨rfl, hE32⟩)
            have HE32 := Lib.hid hE32
            clear b0 b1 b2 b3 hE32
            have hE231 : Ext w2 w31 := HT31.out.below hE28 hobw (by have := hE27.size; omega)
            have hE232 : Ext w2 w32 := hE231.trans HE32.out
            have hEw32 := hEw.trans hE232
            have r0 := hE232.cell R0.out
            have r1 := hE232.cell R1.out
            have s0 := hE232.cell S0.out
            have b32 := HE32.out.heap HBO31.out
            have B32 := Lib.hid b32
            refine loop4R A B C th mk plates ats cm ck cp change first last p0 px ob w32 hm2 hm3 (HA.out.ext hEw32) (HB.out.ext hEw32) (HC.out.ext hEw32) HCH.out HFIRST.out HPU.out HATS.out ⟨hn1, hn3⟩ ⟨hf0, hf99⟩ ⟨hl30.1, hl30.2.1, hl30.2.2⟩ C1.out r0 r1 s0 (blk_at b32 1 rfl) ?_
            clear b32 r0 r1 s0
            intro w33 km n6 n21 n22 n190 n191 n192 n193 n194 n195 n196 n197 n198 n199 n200 n201 n202 n203 n204 n205 n206 n207 n208 n209 n210 n211 n212 n213 n214 n215 n216 n217 n218 n219 hkm hE33
            have HMIN := Lib.hid (minutes_all HAO.out hkm)
            have HKM := Lib.hid hkm
            clear hkm
            go_wp2_with fail
            obtain ⟨y, hLAW⟩ := foundLaw (rate := rate) HAO.out hatl HFS.out
            have LAW := Lib.hid hLAW
            clear hLAW
            have hE313 := HE32.out.trans hE33
            have hE233 := hE232.trans hE33
            have s1 := hE233.cell S1.out
            have hrt := inB_iff.1 C2.out
            have hab : ∀ a ∈ ats, 0 ≤ a ∧ a ≤ 30 := fun a ha => by
              have := HAO.out.mem a ha
              have := HAO.out.last_
              omega
            have bz := hE313.heap HBO31.out
            have b0 := blk_at bz 0 rfl
            have b1 := blk_at bz 1 rfl
            have b2 := blk_at bz 2 rfl
            have b3 := blk_at bz 3 rfl
            clear bz
            refine loop5R (msOf last rate plates.length) fs y ats last rate plates.length ob px kb caf c11 Af A11 w33 HOK2.out rfl LAW.out.way LAW.out.froms LAW.out.lo LAW.out.old LAW.out.new hatl hab ⟨by omega, by omega⟩ (RdMach.ext HRM.out hE313) (RdFound.ext HRF31.out hE313) (HRI.out.ext hE313) s1 b0 b1 b2 b3 ?_
            clear b0 b1 b2 b3 hab s1
            intro w34 v23 m6 m24 m25 m26 m27 m28 m29 m30 m31 m220 m221 m222 m223 m224 m225 m226 m227 m228 m229 m230 m231 m232 m233 m234 m235 m236 m237 m238 m239 m240 m241 m242 m243 m244 m245 m246 m247 m248 m249 m250 m251 m252 m253 m254 m255 m256 m257 m258 m259 m260 m261 m262 m263 m264 m265 m266 m267 m268 m269 m270 m271 m272 m273 m274 m275 m276 m277 m278 m279 m280 m281 m282 m283 m284 m285 m286 m287 m288 m289 m290 m291 m292 m293 m294 m295 m296 m297 m298 m299 m300 m301 m302 m303 m304 m305 m306 m307 m308 m309 hE34
            have hE314 := hE313.trans hE34
            obtain ⟨mi, hmi⟩ : ∃ mi, minutesUpto ats km = mi := ⟨_, rfl⟩
            have hmm := mn_mx HAO.out
            have hMI := HMIN.out
            rw [hmi] at hMI
            have hmi30 : 0 ≤ mi ∧ mi ≤ 30 := by have := HAO.out.last_; omega
            rw [hmi]
            clear hmi hmm
            obtain ⟨ra, hra⟩ : ∃ ra, rate * mi = ra := ⟨_, rfl⟩
            have hwr : IntKind.i64.wrap (rate * mi) = ra := (IntWalk.i64_in _ (mul_in ⟨by omega, by omega⟩ hmi30)).trans hra
            have HWR := Lib.hid hwr
            obtain ⟨x1, x2⟩ := LAW.out.mixes
            have x3 := LAW.out.mixed
            rw [← hMI] at x1 x2 x3
            rw [hra] at x1 x2
            have X1 := Lib.hid x1
            have X2 := Lib.hid x2
            have X3 := Lib.hid x3
            have HMI := Lib.hid hMI
            clear x1 x2 x3 hra hwr hMI hrt
            have bz := hE314.heap HBO31.out
            have b0 := blk_at bz 0 rfl
            have b1 := blk_at bz 1 rfl
            have b2 := blk_at bz 2 rfl
            have b3 := blk_at bz 3 rfl
            clear bz
            go_upto_region 58 with (first | (go_at_call 17; refine (copyR plates.length last (some ⟨kb, 0, none⟩) Af (msOf last rate plates.length) fs 1 caf _ HOK2.out (RdMach.ext HRM.out hE314) (RdFound.ext HRF31.out hE314)).mono ?_; rintro e w35 ⟨A', B', cm', ck', rfl, hM', hF', hTB', hE35⟩) | (go_at_call 20; refine (Mixes6 plates.length last A' B' (msOf last rate plates.length) fs cm' ck' _ HOK2.out hM' (RdL.imp RFoundN.plain hF') (by rw [LAW.out.way]; exact Nat.zero_lt_one)).mono ?_; rw [X1.out, X2.out]; rintro e w36 ⟨rfl, hE36⟩))
            clear b0 b1 b2 b3 hM' hF' hTB'
            obtain ⟨w37, sp, e1, e2, hE37, sblk⟩ := new_block w36 #[.int .i64 ra, .int .i64 ra] 48
            rw [e1, e2]
            clear e1 e2
            have SBLK := Lib.hid sblk
            clear sblk
            have hE317 := hE314.trans (hE35.trans (hE36.trans hE37))
            have bz := hE317.heap HBO31.out
            have b0 := blk_at bz 0 rfl
            have b1 := blk_at bz 1 rfl
            have b2 := blk_at bz 2 rfl
            have b3 := blk_at bz 3 rfl
            clear bz

            by_cases hpos : 0 < mi
            · have hx3 := X3.out
              rw [if_pos hpos] at hx3
              have X4 := Lib.hid hx3
              clear hx3
              go_upto_region 59 with (first | (go_at_call 17; refine (copyR plates.length last (some ⟨kb, 0, none⟩) Af (msOf last rate plates.length) fs 1 caf _ HOK2.out (RdMach.ext HRM.out hE317) (RdFound.ext HRF31.out hE317)).mono ?_; rintro e w38 ⟨A', B', cm', ck', rfl, hM', hF', hTB', hE38⟩) | (go_at_call 21; refine (Mixed6 plates.length last A' B' (msOf last rate plates.length) fs cm' ck' 0 y _ HOK2.out LAW.out.way hM' (RdL.imp RFoundN.plain hF') Nat.zero_lt_one).mono ?_; rw [X4.out]; rintro e w39 ⟨rfl, hE39⟩))
              clear b0 b1 b2 b3 hM' hF' hTB'
              have hE319 := hE317.trans (hE38.trans hE39)
              have bz := hE319.heap HBO31.out
              have b0 := blk_at bz 0 rfl
              have b1 := blk_at bz 1 rfl
              have b2 := blk_at bz 2 rfl
              have b3 := blk_at bz 3 rfl
              clear bz
              go_upto_region 60 with (first | (go_at_call 17; refine (copyR plates.length last (some ⟨kb, 0, none⟩) Af (msOf last rate plates.length) fs 1 caf _ HOK2.out (RdMach.ext HRM.out hE319) (RdFound.ext HRF31.out hE319)).mono ?_; rintro e w40 ⟨A', B', cm', ck', rfl, hM', hF', hTB', hE40⟩) | (go_at_call 22; refine (Fewest6 plates.length last A' B' (msOf last rate plates.length) fs cm' ck' y _ HOK2.out LAW.out.way hM' (RdL.imp RFoundN.plain hF') (by rw [LAW.out.froms]; exact fun n hn => List.eq_of_mem_replicate hn) (by rw [LAW.out.froms, List.length_replicate]; exact LAW.out.some_)).mono ?_; rintro e w41 ⟨rfl, hE41⟩))
              clear b0 b1 b2 b3 hM' hF' hTB'
              have hE321 := hE319.trans (hE40.trans hE41)
              have bz := hE321.heap HBO31.out
              have b0 := blk_at bz 0 rfl
              have b1 := blk_at bz 1 rfl
              have b2 := blk_at bz 2 rfl
              have b3 := blk_at bz 3 rfl
              clear bz
              go_upto_region 61 with (first | (go_at_call 17; refine (copyR plates.length last (some ⟨kb, 0, none⟩) Af (msOf last rate plates.length) fs 1 caf _ HOK2.out (RdMach.ext HRM.out hE321) (RdFound.ext HRF31.out hE321)).mono ?_; rintro e w42 ⟨A', B', cm', ck', rfl, hM', hF', hTB', hE42⟩) | (go_at_call 23; refine (Seek6 plates.length last A' B' (msOf last rate plates.length) fs cm' ck' y _ HOK2.out LAW.out.way hM' (RdL.imp RFoundN.plain hF')).mono ?_; rintro e w43 ⟨rfl, hE43⟩))
              clear b0 b1 b2 b3 hM' hF' hTB'
              have hE373 := hE38.trans (hE39.trans (hE40.trans (hE41.trans (hE42.trans hE43))))
              have hE323 := hE317.trans hE373
              have hE23z := hE231.trans hE323
              have s1 := hE23z.cell S1.out
              have sz := hE373.heap SBLK.out
              have z0 := blk_at sz 0 rfl
              have z1 := blk_at sz 1 rfl
              have hwr := HWR.out
              clear sz
              go_wp2_with (go_at_call 9; refine (shownR _).mono ?_; rintro e w44 ⟨rfl, hE44⟩)
              go_ret
              exact ⟨rfl, hEw.trans (hE23z.trans hE44)⟩
            · have hx3 := X3.out
              rw [if_neg hpos] at hx3
              have X4 := Lib.hid hx3
              clear hx3
              go_upto_region 59 with (first | (go_at_call 17; refine (copyR plates.length last (some ⟨kb, 0, none⟩) Af (msOf last rate plates.length) fs 1 caf _ HOK2.out (RdMach.ext HRM.out hE317) (RdFound.ext HRF31.out hE317)).mono ?_; rintro e w38 ⟨A', B', cm', ck', rfl, hM', hF', hTB', hE38⟩) | (go_at_call 21; refine (Mixed6 plates.length last A' B' (msOf last rate plates.length) fs cm' ck' 0 y _ HOK2.out LAW.out.way hM' (RdL.imp RFoundN.plain hF') Nat.zero_lt_one).mono ?_; rw [X4.out]; rintro e w39 ⟨rfl, hE39⟩))
              clear b0 b1 b2 b3 hM' hF' hTB'
              have hE319 := hE317.trans (hE38.trans hE39)
              have bz := hE319.heap HBO31.out
              have b0 := blk_at bz 0 rfl
              have b1 := blk_at bz 1 rfl
              have b2 := blk_at bz 2 rfl
              have b3 := blk_at bz 3 rfl
              clear bz
              go_upto_region 60 with (first | (go_at_call 17; refine (copyR plates.length last (some ⟨kb, 0, none⟩) Af (msOf last rate plates.length) fs 1 caf _ HOK2.out (RdMach.ext HRM.out hE319) (RdFound.ext HRF31.out hE319)).mono ?_; rintro e w40 ⟨A', B', cm', ck', rfl, hM', hF', hTB', hE40⟩) | (go_at_call 22; refine (Fewest6 plates.length last A' B' (msOf last rate plates.length) fs cm' ck' y _ HOK2.out LAW.out.way hM' (RdL.imp RFoundN.plain hF') (by rw [LAW.out.froms]; exact fun n hn => List.eq_of_mem_replicate hn) (by rw [LAW.out.froms, List.length_replicate]; exact LAW.out.some_)).mono ?_; rintro e w41 ⟨rfl, hE41⟩))
              clear b0 b1 b2 b3 hM' hF' hTB'
              have hE321 := hE319.trans (hE40.trans hE41)
              have bz := hE321.heap HBO31.out
              have b0 := blk_at bz 0 rfl
              have b1 := blk_at bz 1 rfl
              have b2 := blk_at bz 2 rfl
              have b3 := blk_at bz 3 rfl
              clear bz
              go_upto_region 61 with (first | (go_at_call 17; refine (copyR plates.length last (some ⟨kb, 0, none⟩) Af (msOf last rate plates.length) fs 1 caf _ HOK2.out (RdMach.ext HRM.out hE321) (RdFound.ext HRF31.out hE321)).mono ?_; rintro e w42 ⟨A', B', cm', ck', rfl, hM', hF', hTB', hE42⟩) | (go_at_call 23; refine (Seek6 plates.length last A' B' (msOf last rate plates.length) fs cm' ck' y _ HOK2.out LAW.out.way hM' (RdL.imp RFoundN.plain hF')).mono ?_; rintro e w43 ⟨rfl, hE43⟩))
              clear b0 b1 b2 b3 hM' hF' hTB'
              have hE373 := hE38.trans (hE39.trans (hE40.trans (hE41.trans (hE42.trans hE43))))
              have hE323 := hE317.trans hE373
              have hE23z := hE231.trans hE323
              have s1 := hE23z.cell S1.out
              have sz := hE373.heap SBLK.out
              have z0 := blk_at sz 0 rfl
              have z1 := blk_at sz 1 rfl
              have hwr := HWR.out
              clear sz
              go_wp2_with (go_at_call 9; refine (shownR _).mono ?_; rintro e w44 ⟨rfl, hE44⟩)
              go_ret
              exact ⟨rfl, hEw.trans (hE23z.trans hE44)⟩
  · have Q1 := Lib.hid q1
    clear q1
    go_wp2_with (first
      | (go_at_call 4; refine (farR A B th.length cm mk.length ck _).mono ?_; rw [Q1.out]; rintro e w3 ⟨rfl, hE3⟩)
      | (go_at_call 9; refine (shownR _).mono ?_; rintro e w4 ⟨rfl, hE4⟩))
    go_ret
    exact ⟨rfl, hEw.trans (hE3.trans hE4)⟩
end Go.Proofs.Ytloenmikkkklhaa

/-
  The references: Rising, ArePlates.
-/
import Derived.Test.YtloenmikkkklhaaR1
import Derived.Deep.RegionHeld3
namespace Go.Proofs.Ytloenmikkkklhaa
open Go.RowKit

theorem withinAc {n a b : Int} {r : Bool} (h : inB n a b = r) (w : World) : Calls Try.prog 7 #[.int .i64 n, .int .i64 a, .int .i64 b] w fun e w' => e = .returned (.bool r) ∧ w = w' := h ▸ withinA n a b w
def risingUpto (l : List Int) (lo hi : Int) : Nat → Bool
  | 0 => true
  | k + 1 => risingUpto l lo hi k && (inB (l.getD k 0) lo hi && (k == 0 || decide (l.getD (k - 1) 0 < l.getD k 0)))
theorem risingUpto_false {l : List Int} {lo hi : Int} {k : Nat} : ∀ {n : Nat}, risingUpto l lo hi k = false → k ≤ n → risingUpto l lo hi n = false
  | 0, h, hk => by obtain rfl : k = 0 := by omega
                   exact h
  | n + 1, h, hk => by
    by_cases e : k = n + 1
    · subst e; exact h
    · rw [risingUpto, risingUpto_false h (by omega)]; rfl
theorem risingUpto_at {l : List Int} {lo hi : Int} : ∀ {n k : Nat}, risingUpto l lo hi n = true → k < n → inB (l.getD k 0) lo hi = true ∧ (k = 0 ∨ l.getD (k - 1) 0 < l.getD k 0)
  | 0, _, _, hk => by omega
  | n + 1, k, h, hk => by
    simp only [risingUpto, Bool.and_eq_true, Bool.or_eq_true, beq_iff_eq, decide_eq_true_eq] at h
    by_cases e : k = n
    · subst e; exact h.2
    · exact risingUpto_at h.1 (by omega)

set_option maxRecDepth 100000 in
set_option maxHeartbeats 4000000 in
theorem risingR (A : Option Addr) (c : Nat) (l : List Int) (lo hi : Int) (w : World) (hm : (l.length : Int) ≤ 9223372036854775807) (hA : RdI w A l) :
    Calls Try.prog 26 #[.slice A l.length c, .int .i64 lo, .int .i64 hi] w fun e w' => e = .returned (.bool (risingUpto l lo hi l.length)) ∧ Ext w w' := by
  have HA := Lib.hid hA
  clear hA
  go_enter Try.func26, Try.ntmps26
  go_upto_region 2 with fail
  go_loopg [7] l.length (fun g i wr => ∃ k : Nat, k + g = l.length ∧ i = .int .i64 k ∧ Ext w wr ∧ risingUpto l lo hi k = true)
  case atStart => exact ⟨0, by omega, rfl, Ext.refl _, rfl⟩
  case round =>
    obtain ⟨k, hk, rfl, hE, hn⟩ := hrel
    have HK := Lib.hid hk
    have HN := Lib.hid hn
    by_cases hlt : k < l.length
    · clear hk hn
      have hx : l[k]? = some (l.getD k 0) := by rw [List.getD_eq_getElem?_getD, List.getElem?_eq_getElem hlt]; rfl
      obtain ⟨bb, oo, hAe⟩ := HA.out.base (by omega)
      subst hAe
      have f0 := (HA.out.ext hE).at hx
      have hki : (k : Int) < l.length := by omega
      have hstep : risingUpto l lo hi (k + 1) = (inB (l.getD k 0) lo hi && (k == 0 || decide (l.getD (k - 1) 0 < l.getD k 0))) := by rw [risingUpto, HN.out]; rfl
      have HST := Lib.hid hstep
      clear hx hstep
      generalize l.getD k 0 = n1 at f0 HST
      cases e1 : inB n1 lo hi
      · have hf : risingUpto l lo hi (k + 1) = false := by rw [HST.out, e1]; rfl
        have HF := Lib.hid (risingUpto_false hf hlt)
        have E1 := Lib.hid (fun W => withinAc e1 W)
        clear e1 hf
        go_upto_region 4 with fail
        refine wp_region_ext (by kernel_rfl) (by kernel_rfl) ?_
        repeat (go_big_quiet_step ((go_at_call 7; exact Calls.inXsame _ (E1.out _))))
        refine wpQuiet_nil ?_
        rintro _ ⟨x, rfl⟩
        go_wp2_with fail
        go_ret
        exact ⟨ret_bool HF.out.symm, hE.trans x.ext⟩
      · by_cases hk0 : k = 0
        · have hs : risingUpto l lo hi (k + 1) = true := by rw [HST.out, e1, hk0]; rfl
          have HS := Lib.hid hs
          have E1 := Lib.hid (fun W => withinAc e1 W)
          clear e1 hs
          obtain rfl := hk0
          rw [Nat.add_zero] at f0
          go_upto_region 4 with fail
          refine wp_region_ext (by kernel_rfl) (by kernel_rfl) ?_
          repeat (go_big_quiet_step ((go_at_call 7; exact Calls.inXsame _ (E1.out _))))
          refine wpQuiet_nil ?_
          rintro _ ⟨x, rfl⟩
          go_wp2_with fail
          go_roundg (gk - 1)
          case measure => have := HK.out; omega
          case rel => exact ⟨1, by have := HK.out; omega, by go_num, hE.trans x.ext, HS.out⟩
        · obtain ⟨j, rfl⟩ : ∃ j, k = j + 1 := ⟨k - 1, by omega⟩
          have hx2 : l[j]? = some (l.getD j 0) := by rw [List.getD_eq_getElem?_getD, List.getElem?_eq_getElem (show j < l.length by omega)]; rfl
          have f1 := (HA.out.ext hE).at hx2
          have hk1 : (0 : Int) < ((j + 1 : Nat) : Int) := by omega
          simp only [Nat.add_sub_cancel] at HST
          generalize l.getD j 0 = n0 at *
          clear hx2 hk0
          by_cases h01 : n0 < n1
          · have hs : risingUpto l lo hi (j + 1 + 1) = true := by rw [HST.out, e1]; simp [h01]
            have HS := Lib.hid hs
            have E1 := Lib.hid (fun W => withinAc e1 W)
            clear e1 hs
            go_upto_region 4 with fail
            refine wp_region_ext (by kernel_rfl) (by kernel_rfl) ?_
            repeat (go_big_quiet_step ((go_at_call 7; exact Calls.inXsame _ (E1.out _))))
            refine wpQuiet_nil ?_
            rintro _ ⟨x, rfl⟩
            go_wp2_with fail
            go_roundg (gk - 1)
            case measure => have := HK.out; omega
            case rel => exact ⟨j + 1 + 1, by have := HK.out; omega, by go_num, hE.trans x.ext, HS.out⟩
          · have hf : risingUpto l lo hi (j + 1 + 1) = false := by rw [HST.out, e1]; simp; omega
            have HF := Lib.hid (risingUpto_false hf hlt)
            have E1 := Lib.hid (fun W => withinAc e1 W)
            clear e1 hf
            go_upto_region 4 with fail
            refine wp_region_ext (by kernel_rfl) (by kernel_rfl) ?_
            repeat (go_big_quiet_step ((go_at_call 7; exact Calls.inXsame _ (E1.out _))))
            refine wpQuiet_nil ?_
            rintro _ ⟨x, rfl⟩
            go_wp2_with fail
            go_ret
            exact ⟨ret_bool HF.out.symm, hE.trans x.ext⟩
    · obtain rfl : k = l.length := by omega
      clear hk hn hlt
      go_wp2_with fail
      go_ret
      exact ⟨ret_bool HN.out.symm, hE⟩

def AnsB (p : Prop) (e : Ending) : Prop := ∃ b : Bool, e = .returned (.bool b) ∧ (b = true → p)
set_option maxRecDepth 100000 in
set_option maxHeartbeats 8000000 in
theorem arePlatesR (A B C : Option Addr) (th : List Thing) (mk : List Mark) (cm ck cp : Nat) (plates : List Int) (minute : Int) (w : World) (hm3 : (plates.length : Int) ≤ 9223372036854775807)
    (hA : RdT w A th) (hC : RdI w C plates) (hc : chkHouse th mk = true) :
    Calls Try.prog 8 #[.agg #[.slice A th.length cm, .slice B mk.length ck], .slice C plates.length cp, .int .i64 minute] w
      fun e w' => AnsB (platesUpto th plates minute plates.length) e ∧ Ext w w' := by
  have h8 : th.length ≤ 8 := by simp [chkHouse] at hc; omega
  have hm : (th.length : Int) ≤ 9223372036854775807 := by omega
  have hok : okThings th th.length = true := by
    simp only [chkHouse, Bool.and_eq_true] at hc
    exact hc.1.2
  have HOK := Lib.hid hok
  have HA := Lib.hid hA
  have HC := Lib.hid hC
  clear hA hC hc hok
  go_enter Try.func8, Try.ntmps8
  go_upto_region 1 with fail
  obtain ⟨w1, hb, e1, e2, hEw, hblk⟩ := new_block w #[.slice A th.length cm, .slice B mk.length ck] 25
  rw [e1, e2]
  clear e1 e2
  have hh0 : w1.cell? ⟨hb, 0, none⟩ = some (.slice A th.length cm) := blk_at hblk 0 rfl
  have H0 := Lib.hid hh0
  clear hblk
  cases hr : risingUpto plates 0 ((th.length : Int) - 1) plates.length
  · have HR := Lib.hid hr
    clear hr
    go_wp2_with (go_at_call 26; refine (risingR C cp plates 0 ((th.length : Int) - 1) _ hm3 (HC.out.ext hEw)).mono ?_; rw [HR.out]; rintro e w' ⟨rfl, hE1⟩)
    go_ret
    exact ⟨⟨false, rfl, (fun h => by cases h)⟩, hEw.trans hE1⟩
  · have HR := Lib.hid hr
    clear hr
    go_upto_region 4 with (go_at_call 26; refine (risingR C cp plates 0 ((th.length : Int) - 1) _ hm3 (HC.out.ext hEw)).mono ?_; rw [HR.out]; rintro e w' ⟨rfl, hE1⟩)
    clear hh0
    go_loopg [7] plates.length (fun g i wr => ∃ k : Nat, k + g = plates.length ∧ i = .int .i64 k ∧ Ext w1 wr ∧ platesUpto th plates minute k)
    case atStart => exact ⟨0, by omega, rfl, hE1, trivial⟩
    case round =>
      obtain ⟨k, hk, rfl, hE, hpu⟩ := hrel
      have HK := Lib.hid hk
      have HPU := Lib.hid hpu
      by_cases hlt : k < plates.length
      · clear hk hpu
        obtain ⟨hin, hord⟩ := risingUpto_at HR.out hlt
        have hin2 := inB_iff.1 hin
        have hx : plates[k]? = some (plates.getD k 0) := by rw [List.getD_eq_getElem?_getD, List.getElem?_eq_getElem hlt]; rfl
        obtain ⟨j, hj⟩ : ∃ j : Nat, plates.getD k 0 = (j : Int) := ⟨(plates.getD k 0).toNat, by omega⟩
        rw [hj] at hx hord hin2
        have hjl : j < th.length := by omega
        have hji : (j : Int) < th.length := by omega
        have hki : (k : Int) < plates.length := by omega
        have hxt : th[j]? = some th[j] := List.getElem?_eq_getElem hjl
        generalize th[j] = y at hxt
        have hoky := okThings_lt HOK.out hjl hxt
        obtain ⟨bb, oo, hAe⟩ := HA.out.base (by omega)
        subst hAe
        obtain ⟨cb, co, hCe⟩ := HC.out.base (by omega)
        subst hCe
        have s0 := (HC.out.ext (hEw.trans hE)).at hx
        obtain ⟨f0, f1, f2, f3⟩ := (HA.out.ext (hEw.trans hE)).at hxt
        obtain ⟨of, at_, cost, prints⟩ := y
        dsimp only at f0 f1 f2 f3
        have hpr : prints = 0 ∨ prints = 1 := by
          simp only [okThing, Bool.and_eq_true] at hoky
          have := inB_iff.1 hoky.2
          (try dsimp only at this)
          omega
        have hstep : prints = 1 → at_ ≤ minute → platesUpto th plates minute (k + 1) := fun h1 h2 => ⟨HPU.out, j, hx, ⟨_, hxt, h1, h2⟩, hord⟩
        have HST := Lib.hid hstep
        have g0 := hE.cell H0.out
        clear hin hin2 hx hj hord hxt hoky hstep
        go_upto_region 6 with fail
        go_region_held3 (fun w' => w'.cell? ⟨hb, 0, none⟩ = some (.slice (some ⟨bb, oo, none⟩) th.length cm) ∧ w'.cell? ⟨cb, co + k, none⟩ = some (.int .i64 j) ∧ w'.cell? ⟨bb, oo + j * 4, none⟩ = some (.int .i64 of) ∧ w'.cell? ⟨bb, oo + j * 4 + 1, none⟩ = some (.int .i64 at_) ∧ w'.cell? ⟨bb, oo + j * 4 + 2, none⟩ = some (.int .i64 cost) ∧ w'.cell? ⟨bb, oo + j * 4 + 3, none⟩ = some (.int .i64 prints))
          (go_keep) (fail)
        obtain ⟨wl, lb, e1, e2, hEl, lblk⟩ := new_block wr #[.int .i64 of, .int .i64 at_, .int .i64 cost, .int .i64 prints] 37
        rw [e1, e2]
        clear e1 e2
        have l1 : wl.drew.cell? ⟨lb, 1, none⟩ = some (.int .i64 at_) := (Ext.drew wl).cell (blk_at lblk 1 rfl)
        have l3 : wl.drew.cell? ⟨lb, 3, none⟩ = some (.int .i64 prints) := (Ext.drew wl).cell (blk_at lblk 3 rfl)
        have hEz := hE.trans (hEl.trans (Ext.drew wl))
        generalize wl.drew = wz at l1 l3 hEz ⊢
        clear s0 f0 f1 f2 f3 g0 lblk hEl
        rcases hpr with rfl | rfl
        · go_wp2_with fail
          go_ret
          exact ⟨⟨false, rfl, (fun h => by cases h)⟩, hEw.trans hEz⟩
        · by_cases hat : minute < at_
          · go_wp2_with fail
            go_ret
            exact ⟨⟨false, rfl, (fun h => by cases h)⟩, hEw.trans hEz⟩
          · have hn := HST.out rfl (by omega)
            have HNX := Lib.hid hn
            clear hn
            go_wp2_with fail
            go_roundg (gk - 1)
            case measure => have := HK.out; omega
            case rel => exact ⟨k + 1, by have := HK.out; omega, by go_num, hEz, HNX.out⟩
      · obtain rfl : k = plates.length := by omega
        clear hk hpu hlt
        go_wp2_with fail
        go_ret
        exact ⟨⟨true, rfl, fun _ => HPU.out⟩, hEw.trans hE⟩
end Go.Proofs.Ytloenmikkkklhaa

/-
  The reference's check of a valid run returns OK.
-/
import Derived.Test.YtloenmikkkklhaaR3
import Derived.Test.YtloenmikkkklhaaP12
namespace Go.Proofs.Ytloenmikkkklhaa
open Go.RowKit

theorem withinBc {n a b : Int} {r : Bool} (h : inB n a b = r) (w : World) : Calls Try.prog 35 #[.int .i64 n, .int .i64 a, .int .i64 b] w fun e w' => e = .returned (.bool r) ∧ w = w' := h ▸ within_6 n a b w
theorem risingUpto_true {l : List Int} {lo hi : Int} : ∀ {n : Nat}, (∀ k, k < n → inB (l.getD k 0) lo hi = true ∧ (k = 0 ∨ l.getD (k - 1) 0 < l.getD k 0)) → risingUpto l lo hi n = true
  | 0, _ => rfl
  | n + 1, h => by
    have h1 := h n (by omega)
    rw [risingUpto, risingUpto_true (fun k hk => h k (by omega)), h1.1]
    simpa using h1.2

attribute [local irreducible] inB in
set_option maxRecDepth 100000 in
set_option maxHeartbeats 1000000 in
theorem isSpanR (lo hi last : Int) (w : World) (h1 : 0 ≤ lo ∧ lo ≤ hi) (h2 : hi ≤ last) :
    Calls Try.prog 36 #[.agg #[.int .i64 lo, .int .i64 hi], .int .i64 last] w fun e w' => e = .returned (.bool true) ∧ Ext w w' := by
  have e1 : inB hi 0 last = true := inB_iff.2 ⟨by omega, h2⟩
  have e2 : inB lo 0 hi = true := inB_iff.2 h1
  have N1 := Lib.hid e1
  have N2 := Lib.hid e2
  clear e1 e2 h1 h2
  go_enter Try.func36, Try.ntmps36
  go_wp2_with (go_at_call 7; refine (withinAc (by first | exact N1.out | exact N2.out) _).mono ?_; rintro e w' ⟨rfl, rfl⟩)
  go_ret
  exact ⟨rfl, Ext.alloc _ _⟩

attribute [local irreducible] inB in
set_option maxRecDepth 100000 in
set_option maxHeartbeats 8000000 in
theorem refCheck6 (pl last : Int) (A B : Option Addr) (ms : List Machine) (fs : List Found) (cm ck : Nat) (w : World) (hv : OkRun pl last ms fs) (hA : RdMach w A ms) (hB : RdFound w B fs) :
    Calls Try.prog 13 #[.agg #[.int .i64 pl, .int .i64 last, .slice A ms.length cm, .slice B fs.length ck]] w fun e w' => e = .returned (.int .i64 0) ∧ Ext w w' := by
  obtain ⟨hpl, hlast, hms, hfs, hmach, hfound⟩ := hv
  have N1 := Lib.hid (show inB pl 1 3 = true from inB_iff.2 hpl)
  have N2 := Lib.hid (show inB last 1 30 = true from inB_iff.2 hlast)
  have N3 := Lib.hid (show inB (ms.length : Int) 1 3 = true from inB_iff.2 (by omega))
  have v4' : ¬ ((6 : Int) < fs.length) := by omega
  have hm : (ms.length : Int) ≤ 9223372036854775807 := by omega
  have hm2 : (fs.length : Int) ≤ 9223372036854775807 := by omega
  have HA := Lib.hid hA
  have HB := Lib.hid hB
  have HM := Lib.hid hmach
  have HF := Lib.hid hfound
  clear hA hB hmach hfound
  go_enter Try.func13, Try.ntmps13
  go_upto_region 1 with fail
  obtain ⟨w1, p0, e1, e2, hE0, hrun⟩ := new_run w pl last A B ms.length cm fs.length ck
  rw [e1, e2]
  clear e1 e2
  have HRUN := Lib.hid hrun
  obtain ⟨r0, r1, r2, r3⟩ := hrun.2
  clear hrun
  go_upto_region 4 with (go_at_call 35; refine (withinBc (by first | exact N1.out | exact N2.out | exact N3.out) _).mono ?_; rintro e w' ⟨rfl, rfl⟩)
  clear r0 r1 r2 r3
  go_loopg [3] ms.length (fun g i wr => ∃ k : Nat, k + g = ms.length ∧ i = .int .i64 k ∧ Ext w1 wr)
  case atStart => exact ⟨0, by omega, rfl, Ext.refl _⟩
  case round =>
    obtain ⟨k, hk, rfl, hE⟩ := hrel
    have HK := Lib.hid hk
    obtain ⟨r0, r1, r2, r3⟩ := (HRUN.out.ext hE).2
    by_cases hlt : k < ms.length
    · clear hk r3
      have hki : (k : Int) < ms.length := by omega
      have hx : ms[k]? = some ms[k] := List.getElem?_eq_getElem hlt
      have hmem := HM.out _ (List.getElem_mem hlt)
      generalize ms[k] = y at hx hmem
      obtain ⟨bb, oo, hAe⟩ := HA.out.base (by omega)
      subst hAe
      obtain ⟨C, c, f0, f1, _, hS⟩ := (HA.out.ext (hE0.trans hE)).at hx
      have HS := Lib.hid hS
      have N4 := Lib.hid (show inB y.rate 0 9 = true from inB_iff.2 hmem.2.1)
      have HSP := Lib.hid hmem.2.2
      have hlen : (y.changes.length : Int) = pl := hmem.1
      have hleni : (y.changes.length : Int) ≤ 9223372036854775807 := by omega
      clear hx hmem hS
      go_upto_region 7 with fail
      obtain ⟨wl, lb, e1, e2, hEl, lblk⟩ := new_block wr #[.slice C y.changes.length c, .int .i64 y.rate] 44
      rw [e1, e2]
      clear e1 e2 f0 f1 r0 r1 r2
      have l0 : wl.cell? ⟨lb, 0, none⟩ = some (.slice C y.changes.length c) := blk_at lblk 0 rfl
      have l1 : wl.cell? ⟨lb, 1, none⟩ = some (.int .i64 y.rate) := blk_at lblk 1 rfl
      have L0 := Lib.hid l0
      obtain ⟨r0, r1, r2, r3⟩ := (HRUN.out.ext (hE.trans hEl)).2
      have HRL := Lib.hid (HRUN.out.ext (hE.trans hEl))
      clear lblk r1 r2 r3
      rw [← hlen] at r0
      go_upto_region 10 with (go_at_call 35; refine (withinBc N4.out _).mono ?_; rintro e w' ⟨rfl, rfl⟩)
      clear l0 l1 r0
      obtain ⟨og, rfl⟩ : ∃ og : Nat, og = gk := ⟨_, rfl⟩
      obtain ⟨wo, rfl⟩ : ∃ z : World, z = wr := ⟨_, rfl⟩
      obtain ⟨ko, rfl⟩ : ∃ z : Nat, z = k := ⟨_, rfl⟩
      go_loopg [5] y.changes.length (fun g i wr => ∃ k : Nat, k + g = y.changes.length ∧ i = .int .i64 k ∧ Ext wl wr)
      case atStart => exact ⟨0, by omega, rfl, Ext.refl _⟩
      case round =>
        obtain ⟨p, hp, rfl, hE2⟩ := hrel
        have HP := Lib.hid hp
        have l0 := hE2.cell L0.out
        by_cases hlt2 : p < y.changes.length
        · clear hp
          have hpi : (p : Int) < y.changes.length := by omega
          have hx : y.changes[p]? = some y.changes[p] := List.getElem?_eq_getElem hlt2
          have hmem := HSP.out _ (List.getElem_mem hlt2)
          generalize y.changes[p] = s at hx hmem
          obtain ⟨cb, co, hCe⟩ := HS.out.base (by omega)
          subst hCe
          obtain ⟨t0, t1⟩ := (HS.out.ext (hEl.trans hE2)).at hx
          obtain ⟨lo, hi⟩ := s
          dsimp only at t0 t1 hmem
          have N5 := Lib.hid (fun W => isSpanR lo hi last W hmem.1 hmem.2)
          have q1 := hE2.cell HRL.out.2.2.1
          clear hx hmem
          go_upto_region 12 with fail
          refine wp_region_ext (by kernel_rfl) (by kernel_rfl) ?_
          repeat (go_big_quiet_step ((go_at_call 36; exact Calls.inX _ (N5.out _))))
          refine wpQuiet_nil ?_
          rintro _ ⟨x, rfl⟩
          go_wp2_with fail
          go_roundg (gk - 1)
          case measure => have := HP.out; omega
          case rel => exact ⟨p + 1, by have := HP.out; omega, by go_num, hE2.trans x.ext⟩
        · obtain rfl : p = y.changes.length := by omega
          clear hp
          go_wp2_with fail
          go_roundg (og - 1)
          case measure => have := HK.out; omega
          case rel => exact ⟨ko + 1, by have := HK.out; omega, by go_num, hE.trans (hEl.trans hE2)⟩
    · obtain rfl : k = ms.length := by omega
      clear hk hlt
      go_upto_region 15 with fail
      clear r0 r1 r2 r3
      obtain ⟨wb, rfl⟩ : ∃ z : World, z = wr := ⟨_, rfl⟩
      have HEB := Lib.hid hE
      go_loopg [6] fs.length (fun g i wr => ∃ k : Nat, k + g = fs.length ∧ i = .int .i64 k ∧ Ext w1 wr)
      case atStart => exact ⟨0, by omega, rfl, hE⟩
      case round =>
        clear hE
        obtain ⟨k, hk, rfl, hE⟩ := hrel
        have HK := Lib.hid hk
        obtain ⟨r0, r1, r2, r3⟩ := (HRUN.out.ext hE).2
        by_cases hlt : k < fs.length
        · clear hk
          have hki : (k : Int) < fs.length := by omega
          have hx : fs[k]? = some fs[k] := List.getElem?_eq_getElem hlt
          have hmem := HF.out _ (List.getElem_mem hlt)
          generalize fs[k] = y at hx hmem
          obtain ⟨bb, oo, hBe⟩ := HB.out.base (by omega)
          subst hBe
          obtain ⟨C, c, F, f, f0, f1, f2, _, _, hC, hF⟩ := (HB.out.ext (hE0.trans hE)).at hx
          have HC := Lib.hid hC
          have HFR := Lib.hid hF
          obtain ⟨m1, m2, m3, m4, m5⟩ := hmem
          have N4 := Lib.hid (show inB y.minute 0 (last - 1) = true from inB_iff.2 m1)
          have hnl : (y.new.length : Int) ≤ 9223372036854775807 := by omega
          have hfl : (y.from_.length : Int) ≤ 9223372036854775807 := by omega
          have hrt : risingUpto y.from_ 0 ((ms.length : Int) - 1) y.from_.length = true := risingUpto_true fun i hi => by
            have hxi : y.from_[i]? = some (y.from_.getD i 0) := by rw [List.getD_eq_getElem?_getD, List.getElem?_eq_getElem hi]; rfl
            obtain ⟨h1, h2⟩ := m5 i _ hxi
            exact ⟨inB_iff.2 h1, h2⟩
          have HRT := Lib.hid hrt
          have HNW := Lib.hid m4
          have hne : ((y.from_.length : Int) == 0) = false := by simp; intro h; exact m3.1 (by rw [h]; rfl)
          have hne2 : ¬ ((y.from_.length : Int) = 0) := by omega
          clear hx hC hF m3 m4 m5 hrt
          go_upto_region 18 with fail
          obtain ⟨wl, lb, e1, e2, hEl, lblk⟩ := new_block wr #[.int .i64 y.minute, .slice C y.new.length c, .slice F y.from_.length f] 50
          rw [e1, e2]
          clear e1 e2 f0 f1 f2 r0 r1 r2 r3
          have l0 : wl.cell? ⟨lb, 0, none⟩ = some (.int .i64 y.minute) := blk_at lblk 0 rfl
          have l1 : wl.cell? ⟨lb, 1, none⟩ = some (.slice C y.new.length c) := blk_at lblk 1 rfl
          have l2 : wl.cell? ⟨lb, 2, none⟩ = some (.slice F y.from_.length f) := blk_at lblk 2 rfl
          have L1 := Lib.hid l1
          obtain ⟨r0, r1, r2, r3⟩ := (HRUN.out.ext (hE.trans hEl)).2
          rw [← m2] at r0
          clear lblk r3
          go_upto_region 21 with (first | (go_at_call 35; refine (withinBc N4.out _).mono ?_; rintro e w' ⟨rfl, rfl⟩) | (go_at_call 26; refine (risingR F f y.from_ 0 ((ms.length : Int) - 1) _ hfl (HFR.out.ext hEl)).mono ?_; rw [HRT.out]; rintro e w5 ⟨rfl, hE5⟩))
          have hEl5 := hEl.trans hE5
          have L15 := Lib.hid (hE5.cell L1.out)
          clear l0 l1 l2 r0 r1 r2
          obtain ⟨og, rfl⟩ : ∃ og : Nat, og = gk := ⟨_, rfl⟩
          obtain ⟨wo, rfl⟩ : ∃ z : World, z = wr := ⟨_, rfl⟩
          obtain ⟨ko, rfl⟩ : ∃ z : Nat, z = k := ⟨_, rfl⟩
          go_loopg [8] y.new.length (fun g i wr => ∃ k : Nat, k + g = y.new.length ∧ i = .int .i64 k ∧ Ext w5 wr)
          case atStart => exact ⟨0, by omega, rfl, Ext.refl _⟩
          case round =>
            obtain ⟨p, hp, rfl, hE2⟩ := hrel
            have HP := Lib.hid hp
            have l1 := hE2.cell L15.out
            by_cases hlt2 : p < y.new.length
            · clear hp
              have hpi : (p : Int) < y.new.length := by omega
              have hx : y.new[p]? = some y.new[p] := List.getElem?_eq_getElem hlt2
              have hmem := HNW.out _ (List.getElem_mem hlt2)
              generalize y.new[p] = n at hx hmem
              obtain ⟨cb, co, hCe⟩ := HC.out.base (by omega)
              subst hCe
              have t0 := (HC.out.ext (hEl5.trans hE2)).at hx
              have N5 := Lib.hid (show inB n (-1) 1 = true from inB_iff.2 hmem)
              clear hx hmem
              go_wp2_with (go_at_call 35; refine (withinBc N5.out _).mono ?_; rintro e w' ⟨rfl, rfl⟩)
              go_roundg (gk - 1)
              case measure => have := HP.out; omega
              case rel => exact ⟨p + 1, by have := HP.out; omega, by go_num, hE2⟩
            · obtain rfl : p = y.new.length := by omega
              clear hp
              go_wp2_with fail
              go_roundg (og - 1)
              case measure => have := HK.out; omega
              case rel => exact ⟨ko + 1, by have := HK.out; omega, by go_num, hE.trans (hEl5.trans hE2)⟩
        · obtain rfl : k = fs.length := by omega
          clear hk hlt
          go_wp2_with fail
          go_ret
          exact ⟨rfl, hE0.trans hE⟩
end Go.Proofs.Ytloenmikkkklhaa

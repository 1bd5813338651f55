/-
  The layer 'copies': Check of a valid run returns OK.
-/
import Derived.Test.YtloenmikkkklhaaP1
namespace Go.Proofs.Ytloenmikkkklhaa
open Go.RowKit

set_option maxRecDepth 100000 in
set_option maxHeartbeats 4000000 in
theorem check6 (pl last : Int) (A B : Option Addr) (ms : List Machine) (fs : List Found) (cm ck : Nat) (w : World) (hv : OkRun pl last ms fs) (hA : RdMach w A ms) (hB : RdFound w B fs) :
    Calls Try.prog 66 #[.agg #[.int .i64 pl, .int .i64 last, .slice A ms.length cm, .slice B fs.length ck]] w fun e w' => e = .returned (.int .i64 0) ∧ Ext w w' := by
  obtain ⟨hpl, hlast, hms, hfs, hmach, hfound⟩ := hv
  have v1 : inB pl 1 3 = true := inB_iff.2 hpl
  have v2 : inB last 1 30 = true := inB_iff.2 hlast
  have v3 : inB (ms.length : Int) 1 3 = true := inB_iff.2 (by omega)
  have v4 : decide (6 < fs.length) = false := by simp; omega
  have v4' : decide ((6 : Int) < fs.length) = false := by simp; omega
  have hm : (ms.length : Int) ≤ 9223372036854775807 := by omega
  have hm2 : (fs.length : Int) ≤ 9223372036854775807 := by omega
  have HA := Lib.hid hA
  have HB := Lib.hid hB
  have HM := Lib.hid hmach
  have HF := Lib.hid hfound
  clear hA hB hmach hfound
  go_enter Try.func66, Try.ntmps66
  go_upto_region 1 with fail
  obtain ⟨w1, p0, e1, e2, hE0, pblk⟩ := new_block w #[.int .i64 pl, .int .i64 last, .slice A ms.length cm, .slice B fs.length ck] 41
  rw [e1, e2]
  clear e1 e2
  have r0 : w1.cell? ⟨p0, 0, none⟩ = some (.int .i64 pl) := blk_at pblk 0 rfl
  have r1 : w1.cell? ⟨p0, 1, none⟩ = some (.int .i64 last) := blk_at pblk 1 rfl
  have r2 : w1.cell? ⟨p0, 2, none⟩ = some (.slice A ms.length cm) := blk_at pblk 2 rfl
  have r3 : w1.cell? ⟨p0, 3, none⟩ = some (.slice B fs.length ck) := blk_at pblk 3 rfl
  clear pblk
  go_wp2_with (go_at_call 68; refine (within6 _ _ _ _).mono ?_; rintro e w' ⟨rfl, rfl⟩)
  go_loopg [37] ms.length (fun g i wr => ∃ k : Nat, k + g = ms.length ∧ i = .int .i64 k ∧ Ext w1 wr)
  case atStart => exact ⟨0, by omega, rfl, Ext.refl _⟩
  case round =>
    obtain ⟨k, hk, rfl, hE⟩ := hrel
    have s0 := hE.cell r0
    have s1 := hE.cell r1
    have s2 := hE.cell r2
    have s3 := hE.cell r3
    have HK := Lib.hid hk
    by_cases hlt : k < ms.length
    · clear hk
      have hx : ms[k]? = some ms[k] := List.getElem?_eq_getElem hlt
      have hmem : ms[k] ∈ ms := List.getElem_mem hlt
      generalize ms[k] = y at hx hmem
      obtain ⟨bb, oo, hAe⟩ := HA.out.base (by omega)
      subst hAe
      obtain ⟨C, c, f0, f1, hcc, hS⟩ := (HA.out.ext (hE0.trans hE)).at hx
      obtain ⟨hl, hrate, hch⟩ := HM.out y hmem
      have v5 : inB y.rate 0 9 = true := inB_iff.2 hrate
      have v6 : ((y.changes.length : Int) != pl) = false := by simp [hl]
      have v6' : ((y.changes.length : Int) == pl) = true := by simp [hl]
      have HC := Lib.hid hch
      have HX := Lib.hid hx
      have HS := Lib.hid hS
      clear hl hrate hch hx hS
      obtain ⟨og, rfl⟩ : ∃ og : Nat, og = gk := ⟨_, rfl⟩
      obtain ⟨wo, rfl⟩ : ∃ wo : World, wo = wr := ⟨_, rfl⟩
      have hcl : (y.changes.length : Int) ≤ 9223372036854775807 := by
        have := (HM.out y hmem).1; omega
      go_wp2_with (go_at_call 68; refine (within6 _ _ _ _).mono ?_; rintro e w' ⟨rfl, rfl⟩)
      obtain ⟨wp, e1, hE1⟩ : ∃ wp, wo.alloc (.cells #[.slice C y.changes.length c, .int .i64 y.rate] 44) = wp ∧ Ext wo wp := ⟨_, rfl, Ext.alloc _ _⟩
      rw [e1]
      clear e1 f0 f1 s0 s1 s2 s3
      have hE2 : Ext w1 wp := hE.trans hE1
      go_loopg [56] y.changes.length (fun g i wr => ∃ n : Nat, n + g = y.changes.length ∧ i = .int .i64 n ∧ Ext w1 wr ∧ Ext wo wr)
      case atStart => exact ⟨0, by omega, rfl, hE2, hE1⟩
      case round =>
        obtain ⟨n, hn, rfl, hE3, hE4⟩ := hrel
        have HN := Lib.hid hn
        by_cases hlt2 : n < y.changes.length
        · clear hn
          have hx : y.changes[n]? = some y.changes[n] := List.getElem?_eq_getElem hlt2
          have hmem2 : y.changes[n] ∈ y.changes := List.getElem_mem hlt2
          generalize y.changes[n] = s at hx hmem2
          obtain ⟨sb, so, hCe⟩ := HS.out.base (by omega)
          subst hCe
          obtain ⟨f0, f1⟩ := (HS.out.ext hE4).at hx
          obtain ⟨⟨q1, q2⟩, q3⟩ := HC.out s hmem2
          have v7 : inB s.lo 0 s.hi = true := inB_iff.2 ⟨q1, q2⟩
          have v8 : decide (last < s.hi) = false := by simp; omega
          have s1 := hE3.cell r1
          go_wp2_with (go_at_call 68; refine (within6 _ _ _ _).mono ?_; rintro e w' ⟨rfl, rfl⟩)
          go_roundg (gk - 1)
          case measure => have := HN.out; omega
          case rel => exact ⟨n + 1, by have := HN.out; omega, by go_num, hE3.trans (Ext.alloc _ _), hE4.trans (Ext.alloc _ _)⟩
        · clear hn
          go_wp2_with (go_at_call 68; refine (within6 _ _ _ _).mono ?_; rintro e w' ⟨rfl, rfl⟩)
          go_roundg (og - 1)
          case measure => have := HK.out; omega
          case rel => exact ⟨k + 1, by have := HK.out; omega, by go_num, hE3⟩
    · clear hk
      go_wp2_with (go_at_call 68; refine (within6 _ _ _ _).mono ?_; rintro e w' ⟨rfl, rfl⟩)
      clear s0 s1 s2 s3 HK hlt
      go_loopg [78] fs.length (fun g i wr => ∃ k : Nat, k + g = fs.length ∧ i = .int .i64 k ∧ Ext w1 wr)
      case atStart => exact ⟨0, by omega, rfl, hE⟩
      case round =>
        clear hE
        obtain ⟨j, hj, rfl, hE⟩ := hrel
        have s0 := hE.cell r0
        have s1 := hE.cell r1
        have s2 := hE.cell r2
        have s3 := hE.cell r3
        have HJ := Lib.hid hj
        by_cases hlt : j < fs.length
        · clear hj
          have hx : fs[j]? = some fs[j] := List.getElem?_eq_getElem hlt
          have hmem : fs[j] ∈ fs := List.getElem_mem hlt
          generalize fs[j] = y at hx hmem
          obtain ⟨bb, oo, hBe⟩ := HB.out.base (by omega)
          subst hBe
          obtain ⟨C, c, D, d, f0, f1, f2, hcc, hdd, hN, hF⟩ := (HB.out.ext (hE0.trans hE)).at hx
          obtain ⟨hmin, hl, ⟨hne, hn3⟩, hnew, hfr⟩ := HF.out y hmem
          have hfl : (y.from_.length : Int) ≤ 9223372036854775807 := by omega
          have v5 : inB y.minute 0 (last - 1) = true := inB_iff.2 hmin
          have v6 : ((y.new.length : Int) != pl) = false := by simp [hl]
          have v6' : ((y.new.length : Int) == pl) = true := by simp [hl]
          have v7 : ((y.from_.length : Int) == 0) = false := by simp; exact fun h => hne (by rw [h]; rfl)
          have v8 : (y.new.any fun n => !inB n (-1) 1) = false := by
            rw [List.any_eq_false]
            intro n hn
            simp [inB_iff.2 (hnew n hn)]
          have hcl : (y.new.length : Int) ≤ 9223372036854775807 := by omega
          have V8 := Lib.hid v8
          have HX := Lib.hid hx
          have HNW := Lib.hid hN
          have HFR := Lib.hid hF
          have HFP := Lib.hid hfr
          clear v8 hl hnew hfr hx hN hF
          obtain ⟨og, rfl⟩ : ∃ og : Nat, og = gk := ⟨_, rfl⟩
          obtain ⟨wo, rfl⟩ : ∃ wo : World, wo = wr := ⟨_, rfl⟩
          go_wp2_with (go_at_call 68; refine (within6 _ _ _ _).mono ?_; rintro e w' ⟨rfl, rfl⟩)
          obtain ⟨wp, e1, hE1⟩ : ∃ wp, wo.alloc (.cells #[.int .i64 y.minute, .slice C y.new.length c, .slice D y.from_.length d] 50) = wp ∧ Ext wo wp ∧ wp.cell? ⟨wo.heap.size, 2, none⟩ = some (.slice D y.from_.length d) := ⟨_, rfl, Ext.alloc _ _, blk_at (heap_alloc_new wo _) 2 rfl⟩
          obtain ⟨hE1, l2⟩ := hE1
          rw [e1]
          clear e1 f0 f1 f2 s0 s1 s2 s3
          obtain ⟨lb, hlb⟩ : ∃ lb, wo.heap.size = lb := ⟨_, rfl⟩
          rw [hlb] at l2 ⊢
          clear hlb
          have px : PredX 77 #[] (Value.int .i64) (fun n => !inB n (-1) 1) y.new wp := fun W x _ _ => (check6_new x W).mono fun _ _ ⟨h1, h2⟩ => ⟨h1, h2 ▸ Ext.refl _⟩
          have PX := Lib.hid (containsInt _ _ _ C y.new c wp enters_check6 hcl (HNW.out.ext hE1) px)
          clear px
          refine PX.out.mono ?_
          rw [V8.out]
          rintro e wq ⟨rfl, hE2⟩
          have hE3 : Ext w1 wq := hE.trans (hE1.trans hE2)
          have l2' := hE2.cell l2
          have s2 := hE3.cell r2
          clear l2
          go_wp2_with (go_at_call 68; refine (within6 _ _ _ _).mono ?_; rintro e w' ⟨rfl, rfl⟩)
          go_loopg [111] y.from_.length (fun g i wr => ∃ n : Nat, n + g = y.from_.length ∧ i = .int .i64 n ∧ Ext wq wr)
          case atStart => exact ⟨0, by omega, rfl, Ext.refl _⟩
          case round =>
            obtain ⟨n, hn, rfl, hE4⟩ := hrel
            have HN := Lib.hid hn
            by_cases hlt2 : n < y.from_.length
            · clear hn
              have hx : y.from_[n]? = some y.from_[n] := List.getElem?_eq_getElem hlt2
              generalize hmm : y.from_[n] = m at hx
              clear hmm
              obtain ⟨db, dq, hDe⟩ := HFR.out.base (by omega)
              subst hDe
              have f0 := (HFR.out.ext (hE1.trans (hE2.trans hE4))).at hx
              obtain ⟨⟨q1, q2⟩, q3⟩ := HFP.out n m hx
              have v9 : inB m 0 ((ms.length : Int) - 1) = true := inB_iff.2 ⟨q1, q2⟩
              have s2' := hE4.cell s2
              have l2'' := hE4.cell l2'
              by_cases n0 : n = 0
              · subst n0
                rw [Nat.add_zero] at f0
                go_wp2_with (go_at_call 68; refine (within6 _ _ _ _).mono ?_; rintro e w' ⟨rfl, rfl⟩)
                go_roundg (gk - 1)
                case measure => have := HN.out; omega
                case rel => exact ⟨1, by have := HN.out; omega, by go_num, hE4⟩
              · obtain ⟨j2, rfl⟩ : ∃ j2, n = j2 + 1 := ⟨n - 1, by omega⟩
                have hj2 : j2 < y.from_.length := by omega
                have fm := (HFR.out.ext (hE1.trans (hE2.trans hE4))).at (List.getElem?_eq_getElem hj2)
                have hprev : y.from_[j2] < m := by
                  rcases q3 with h | h
                  · omega
                  · simpa [List.getD_eq_getElem?_getD, List.getElem?_eq_getElem hj2] using h
                generalize y.from_[j2] = pm at fm hprev
                clear q3 n0
                have v10 : decide (m ≤ pm) = false := by simp; omega
                go_wp2_with (go_at_call 68; refine (within6 _ _ _ _).mono ?_; rintro e w' ⟨rfl, rfl⟩)
                go_roundg (gk - 1)
                case measure => have := HN.out; omega
                case rel => exact ⟨j2 + 1 + 1, by have := HN.out; omega, by go_num, hE4⟩
            · clear hn
              go_wp2_with (go_at_call 68; refine (within6 _ _ _ _).mono ?_; rintro e w' ⟨rfl, rfl⟩)
              go_roundg (og - 1)
              case measure => have := HJ.out; omega
              case rel => exact ⟨j + 1, by have := HJ.out; omega, by go_num, hE3.trans hE4⟩
        · clear hj
          go_wp2_with (go_at_call 68; refine (within6 _ _ _ _).mono ?_; rintro e w' ⟨rfl, rfl⟩)
          go_ret
          exact ⟨rfl, hE0.trans hE⟩
end Go.Proofs.Ytloenmikkkklhaa

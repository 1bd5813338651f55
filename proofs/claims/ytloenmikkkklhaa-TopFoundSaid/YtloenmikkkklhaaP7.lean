/-
  The layer 'copies': spread.
-/
import Derived.Test.YtloenmikkkklhaaP6
namespace Go.Proofs.Ytloenmikkkklhaa
open Go.RowKit

def lo6 (wh : List Int) (m k : Nat) : Int := wh.getD (m * 6 + k * 2) 0
def hi6 (wh : List Int) (m k : Nat) : Int := wh.getD (m * 6 + k * 2 + 1) 0
def spFirst (wh : List Int) (m : Nat) : Nat → Int
  | 0 => hi6 wh m 0
  | k + 1 => min (spFirst wh m k) (hi6 wh m k)
def spLast (wh : List Int) (m : Nat) : Nat → Int
  | 0 => lo6 wh m 0
  | k + 1 => max (spLast wh m k) (lo6 wh m k)
def spIn (wh : List Int) (m i : Nat) (h0 : Int) : Nat → Int
  | 0 => h0
  | k + 1 => if i = k then spIn wh m i h0 k else max (spIn wh m i h0 k) (hi6 wh m i - lo6 wh m k)
def spHigh (wh : List Int) (m pl : Nat) : Nat → Int
  | 0 => 0
  | i + 1 => spIn wh m i (spHigh wh m pl i) pl
def spreadLo (wh : List Int) (m pl : Nat) : Int := max 0 (spLast wh m pl - spFirst wh m pl)
def spreadHi (wh : List Int) (m pl : Nat) : Int := spHigh wh m pl pl

theorem lo6_small {wh : List Int} (h : Small wh) (m k : Nat) : 0 ≤ lo6 wh m k ∧ lo6 wh m k ≤ 31 := h.getD _
theorem hi6_small {wh : List Int} (h : Small wh) (m k : Nat) : 0 ≤ hi6 wh m k ∧ hi6 wh m k ≤ 31 := h.getD _
theorem spFirst_small {wh : List Int} (h : Small wh) (m : Nat) : ∀ k, 0 ≤ spFirst wh m k ∧ spFirst wh m k ≤ 31
  | 0 => hi6_small h m 0
  | k + 1 => by have := spFirst_small h m k; have := hi6_small h m k; simp only [spFirst]; omega
theorem spLast_small {wh : List Int} (h : Small wh) (m : Nat) : ∀ k, 0 ≤ spLast wh m k ∧ spLast wh m k ≤ 31
  | 0 => lo6_small h m 0
  | k + 1 => by have := spLast_small h m k; have := lo6_small h m k; simp only [spLast]; omega
theorem spIn_small {wh : List Int} (h : Small wh) (m i : Nat) {h0 : Int} (hh : 0 ≤ h0 ∧ h0 ≤ 31) : ∀ k, 0 ≤ spIn wh m i h0 k ∧ spIn wh m i h0 k ≤ 31
  | 0 => hh
  | k + 1 => by have := spIn_small h m i hh k; have := lo6_small h m k; have := hi6_small h m i; simp only [spIn]; split <;> omega
theorem spHigh_small {wh : List Int} (h : Small wh) (m pl : Nat) : ∀ i, 0 ≤ spHigh wh m pl i ∧ spHigh wh m pl i ≤ 31
  | 0 => by simp [spHigh]
  | i + 1 => spIn_small h m i (spHigh_small h m pl i) pl
theorem spreadLo_small {wh : List Int} (h : Small wh) (m pl : Nat) : 0 ≤ spreadLo wh m pl ∧ spreadLo wh m pl ≤ 31 := by
  have := spFirst_small h m pl; have := spLast_small h m pl; simp only [spreadLo]; omega
theorem spreadHi_small {wh : List Int} (h : Small wh) (m pl : Nat) : 0 ≤ spreadHi wh m pl ∧ spreadHi wh m pl ≤ 31 := spHigh_small h m pl pl

theorem min_if (a b : Int) : (if b < a then b else a) = min a b := by split <;> omega
theorem max_if (a b : Int) : (if a < b then b else a) = max a b := by split <;> omega
/-- What a way's cells hold of a machine's plate. -/
theorem way_lo {w : World} {g : Nat} {v : Value} {wh : List Int} {t : TypeId} (h : w.heap[g]? = some (.cells (wayCells v wh) t (0, 0))) (hl : wh.length = 18) {m k : Nat} (hm : m < 3) (hk : k < 3) : w.cell? ⟨g, 1 + m * 6 + k * 2, none⟩ = some (.int .i64 (lo6 wh m k)) := by
  have hi : m * 6 + k * 2 < wh.length := by omega
  rw [show 1 + m * 6 + k * 2 = 1 + (m * 6 + k * 2) by omega]
  exact blk_at h _ (way_s _ _ (by rw [List.getElem?_eq_getElem hi]; simp [lo6, List.getD_eq_getElem?_getD, hi]))
theorem way_hi {w : World} {g : Nat} {v : Value} {wh : List Int} {t : TypeId} (h : w.heap[g]? = some (.cells (wayCells v wh) t (0, 0))) (hl : wh.length = 18) {m k : Nat} (hm : m < 3) (hk : k < 3) : w.cell? ⟨g, 1 + m * 6 + k * 2 + 1, none⟩ = some (.int .i64 (hi6 wh m k)) := by
  have hi : m * 6 + k * 2 + 1 < wh.length := by omega
  rw [show 1 + m * 6 + k * 2 + 1 = 1 + (m * 6 + k * 2 + 1) by omega]
  exact blk_at h _ (way_s _ _ (by rw [List.getElem?_eq_getElem hi]; simp [hi6, List.getD_eq_getElem?_getD, hi]))

set_option maxRecDepth 100000 in
set_option maxHeartbeats 4000000 in
theorem spread6 (v : Value) (hv1 : v.oneCell' = true) (wh : List Int) (m pl : Nat) (w : World) (h18 : wh.length = 18) (hs : Small wh) (hm : m < 3) (hpl : 1 ≤ pl ∧ pl ≤ 3) :
    Calls Try.prog 48 #[.agg (wayCells v wh), .int .i64 m, .int .i64 pl] w
      fun e w' => e = .returned (.agg #[.int .i64 (spreadLo wh m pl), .int .i64 (spreadHi wh m pl)]) ∧ Ext w w' := by
  obtain ⟨hpl1, hpl2⟩ := hpl
  have H18 := Lib.hid h18
  have HS := Lib.hid hs
  clear hs
  have hm3 : (m : Int) < 3 := by omega
  go_enter Try.func48, Try.ntmps48
  go_upto_region 1 with fail
  obtain ⟨w1, p0, e1, e2, hE0, pblk⟩ := new_block w (wayCells v wh) 94
  have e3 : w.heap.size + 1 = w1.heap.size := by rw [← e1]; simp
  rw [e3, e1, e2]
  clear e1 e2 e3
  obtain ⟨w2, rb, e1, e2, hE1, rblk⟩ := new_block w1 #[.int .i64 0, .int .i64 0] 48
  have hrb : w.heap.size ≤ rb := by rw [← e2]; exact hE0.size
  rw [e1, e2]
  clear e1 e2
  have hE2 := hE0.trans hE1
  have HP := Lib.hid (hE1.heap pblk)
  have HRB := Lib.hid rblk
  clear pblk rblk
  have c0 := way_lo HP.out H18.out (m := m) (k := 0) hm (by omega)
  have c1 := way_hi HP.out H18.out (m := m) (k := 0) hm (by omega)
  have hm1 : (1 : Int) ≤ pl := by omega
  have hm2 : (pl : Int) ≤ 3 := by omega
  simp only [Nat.zero_mul, Nat.add_zero] at c0 c1
  go_upto_region 2 with fail
  refine wp_region_ext (by kernel_rfl) (by kernel_rfl) ?_
  repeat (go_big_quiet_step ((fail)))
  refine wpQuiet_nil ?_
  rintro _ ⟨x, rfl⟩
  have hE3 := x.ext
  generalize x.out = wa at hE3 ⊢
  clear x c0 c1
  go_upto_region 4 with fail
  go_loopg [8, 9, 10, 30] pl (fun g a b c i wr => ∃ k : Nat, k + g = pl ∧ i = .int .i64 k ∧ a = .int .i64 (spFirst wh m k) ∧ b = .int .i64 (spLast wh m k) ∧ c = .int .i64 (spHigh wh m pl k) ∧ Ext w2 wr)
  case atStart => exact ⟨0, by omega, rfl, rfl, rfl, rfl, hE3⟩
  case round =>
    obtain ⟨k, hk, rfl, rfl, rfl, rfl, hE⟩ := hrel
    have HK := Lib.hid hk
    by_cases hlt : k < pl
    · clear hk
      have hk3 : (k : Int) < pl := by omega
      have c0 := way_lo (hE.heap HP.out) H18.out (m := m) (k := k) hm (by omega)
      have c1 := way_hi (hE.heap HP.out) H18.out (m := m) (k := k) hm (by omega)
      have HLK := Lib.hid (lo6_small HS.out m k)
      have HHK := Lib.hid (hi6_small HS.out m k)
      have HN1 := Lib.hid (show spFirst wh m (k + 1) = min (spFirst wh m k) (hi6 wh m k) from rfl)
      have HN2 := Lib.hid (show spLast wh m (k + 1) = max (spLast wh m k) (lo6 wh m k) from rfl)
      go_upto_region 6 with fail
      obtain ⟨wl, lb, e1, e2, hEl, lblk⟩ := new_block wr #[.int .i64 (lo6 wh m k), .int .i64 (hi6 wh m k)] 48
      rw [e1, e2]
      clear e1 e2 c0 c1
      have l0 : wl.cell? ⟨lb, 0, none⟩ = some (.int .i64 (lo6 wh m k)) := blk_at lblk 0 rfl
      have l1 : wl.cell? ⟨lb, 1, none⟩ = some (.int .i64 (hi6 wh m k)) := blk_at lblk 1 rfl
      clear lblk
      go_cut [8, 9] (fun a b wc => Ext wl wc ∧ a = .int .i64 (spFirst wh m (k + 1)) ∧ b = .int .i64 (spLast wh m (k + 1)))
      case first =>
        refine wp_region_ext (by kernel_rfl) (by kernel_rfl) ?_
        repeat (go_big_quiet_step ((fail)))
        refine wpQuiet_nil ?_
        rintro _ ⟨x, rfl⟩
        go_wp2_with fail
        all_goals
          go_meet
          exact ⟨x.ext, by rw [HN1.out]; first | (rw [Int.min_eq_left (by omega)]) | (rw [Int.min_eq_right (by omega)]), by rw [HN2.out]; first | (rw [Int.max_eq_left (by omega)]) | (rw [Int.max_eq_right (by omega)])⟩
      case rest =>
      obtain ⟨hEx, rfl, rfl⟩ := hcut
      obtain ⟨wa, rfl⟩ : ∃ y : World, y = wc := ⟨_, rfl⟩
      have l2 := hEx.cell l0
      have l3 := hEx.cell l1
      clear l0 l1
      go_upto_region 8 with fail
      have hEa : Ext w2 wa := hE.trans (hEl.trans hEx)
      obtain ⟨og, rfl⟩ : ∃ og : Nat, og = gk := ⟨_, rfl⟩
      obtain ⟨wo, rfl⟩ : ∃ y : World, y = wr := ⟨_, rfl⟩
      obtain ⟨ko, rfl⟩ : ∃ y : Nat, y = k := ⟨_, rfl⟩
      go_loopg [10, 45] pl (fun g c i wr => ∃ j : Nat, j + g = pl ∧ i = .int .i64 j ∧ c = .int .i64 (spIn wh m ko (spHigh wh m pl ko) j) ∧ Ext wa wr)
      case atStart => exact ⟨0, by omega, rfl, rfl, Ext.refl _⟩
      case round =>
        obtain ⟨j, hj, rfl, rfl, hE4⟩ := hrel
        have HJ := Lib.hid hj
        by_cases hlt2 : j < pl
        · clear hj
          have hj3 : (j : Int) < pl := by omega
          have c0 := way_lo ((hEa.trans hE4).heap HP.out) H18.out (m := m) (k := j) hm (by omega)
          have c1 := way_hi ((hEa.trans hE4).heap HP.out) H18.out (m := m) (k := j) hm (by omega)
          have HLJ := Lib.hid (lo6_small HS.out m j)
          go_upto_region 10 with fail
          obtain ⟨wl2, lb2, e1, e2, hEl2, lblk⟩ := new_block wr #[.int .i64 (lo6 wh m j), .int .i64 (hi6 wh m j)] 48
          rw [e1, e2]
          clear e1 e2 c0 c1
          have l0 : wl2.cell? ⟨lb2, 0, none⟩ = some (.int .i64 (lo6 wh m j)) := blk_at lblk 0 rfl
          clear lblk
          have l4 := (hE4.trans hEl2).cell l3
          have HIN := Lib.hid (spIn_small HS.out m ko (spHigh_small HS.out m pl ko) j)
          by_cases hkj : ko = j
          · have hN : spIn wh m ko (spHigh wh m pl ko) (j + 1) = spIn wh m ko (spHigh wh m pl ko) j := by rw [spIn, if_pos hkj]
            have HN := Lib.hid hN
            have e1 : ((ko : Int) == (j : Int)) = true := by simp [hkj]
            clear hN hkj
            go_wp2_with fail
            go_roundg (gk - 1)
            case measure => have := HJ.out; omega
            case rel => exact ⟨j + 1, by have := HJ.out; omega, by go_num, by rw [HN.out], hE4.trans hEl2⟩
          · have hN : spIn wh m ko (spHigh wh m pl ko) (j + 1) = max (spIn wh m ko (spHigh wh m pl ko) j) (hi6 wh m ko - lo6 wh m j) := by rw [spIn, if_neg hkj]
            have HN := Lib.hid hN
            have e1 : ((ko : Int) == (j : Int)) = false := by simp; omega
            clear hN hkj
            generalize spIn wh m ko (spHigh wh m pl ko) j = hh at HN HIN ⊢
            generalize hi6 wh m ko = a1 at *
            generalize lo6 wh m j = a2 at *
            obtain ⟨q1, q2⟩ := HHK.out
            obtain ⟨q3, q4⟩ := HLJ.out
            go_wp2_with fail
            all_goals
              go_roundg (gk - 1)
              case measure => have := HJ.out; omega
              case rel => exact ⟨j + 1, by have := HJ.out; omega, by go_num, by rw [HN.out]; first | (rw [Int.max_eq_left (by omega)]) | (rw [Int.max_eq_right (by omega)]), hE4.trans hEl2⟩
        · obtain rfl : j = pl := by omega
          clear hj
          have HN3 := Lib.hid (show spHigh wh m j (ko + 1) = spIn wh m ko (spHigh wh m j ko) j from rfl)
          go_wp2_with fail
          go_roundg (og - 1)
          case measure => have := HK.out; omega
          case rel => exact ⟨ko + 1, by have := HK.out; omega, by go_num, rfl, rfl, by rw [HN3.out], hEa.trans hE4⟩
    · obtain rfl : k = pl := by omega
      clear hk
      have hSF := spFirst_small HS.out m k
      have hSL := spLast_small HS.out m k
      have HE1 := Lib.hid (show spreadLo wh m k = max 0 (spLast wh m k - spFirst wh m k) from rfl)
      have HE2 := Lib.hid (show spreadHi wh m k = spHigh wh m k k from rfl)
      have hres : ∀ a b : Int, ∃ wz, (wr.setCell ⟨rb, 0, none⟩ (.int .i64 a)).setCell ⟨rb, 1, none⟩ (.int .i64 b) = wz ∧ Ext w wz ∧ wz.cell? ⟨rb, 0, none⟩ = some (.int .i64 a) ∧ wz.cell? ⟨rb, 1, none⟩ = some (.int .i64 b) := fun a b => by
        have hz := blk_put (blk_put (hE.heap HRB.out) 0 (.int .i64 a)) 1 (.int .i64 b)
        exact ⟨_, rfl, (((Turned.refl rb wr).set_ _ _).set_ _ _).below (hE2.trans hE) hrb, blk_at hz 0 rfl, blk_at hz 1 rfl⟩
      have HRES := Lib.hid hres
      have g0 := blk_at (hE.heap HRB.out) 0 rfl
      have g1 := blk_at (hE.heap HRB.out) 1 rfl
      have g2 : wr.frozen? ⟨rb, 0, none⟩ = false := blk_free (hE.heap HRB.out) _
      have g3 : wr.frozen? ⟨rb, 1, none⟩ = false := blk_free (hE.heap HRB.out) _
      clear hres
      go_wp2_with fail
      all_goals
        first
        | (obtain ⟨wz, e, hEz, z0, z1⟩ := HRES.out 0 (spHigh wh m k k)
           rw [e]
           refine bodyPost_ret (v := .agg #[.int .i64 0, .int .i64 (spHigh wh m k k)]) (by simp [results, Try.results48, go_sem, z0, z1]) rfl ⟨by rw [HE1.out, HE2.out, Int.max_eq_left (by omega)], hEz⟩)
        | (obtain ⟨wz, e, hEz, z0, z1⟩ := HRES.out (spLast wh m k - spFirst wh m k) (spHigh wh m k k)
           rw [e]
           refine bodyPost_ret (v := .agg #[.int .i64 (spLast wh m k - spFirst wh m k), .int .i64 (spHigh wh m k k)]) (by simp [results, Try.results48, go_sem, z0, z1]) rfl ⟨by rw [HE1.out, HE2.out, Int.max_eq_right (by omega)], hEz⟩)
end Go.Proofs.Ytloenmikkkklhaa

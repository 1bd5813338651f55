/-
  The layer 'changes': follow: a house at work, with since when each thing has a change.
-/
import Derived.Test.YtloenmikkkklhaaC3
namespace Go.Proofs.Ytloenmikkkklhaa
open Go.RowKit

def markStep (change : Int) (i : Nat) (acc : Int) (m : Mark) : Int := if m.thing = (i : Int) ∧ m.change = change ∧ m.at_ < acc then m.at_ else acc
def since0 (s : List Int) (t : Thing) : Int := if t.of ≠ -1 ∧ s.getD t.of.toNat 0 ≤ t.at_ then t.at_ else 100
def sinceAt (mk : List Mark) (change : Int) (s : List Int) (i : Nat) (t : Thing) : Int := mk.foldl (markStep change i) (since0 s t)
def sinceUpto (th : List Thing) (mk : List Mark) (change : Int) : Nat → List Int
  | 0 => []
  | n + 1 => sinceUpto th mk change n ++ [sinceAt mk change (sinceUpto th mk change n) n (th[n]?.getD default)]
theorem sinceUpto_length (th : List Thing) (mk : List Mark) (change : Int) : ∀ n, (sinceUpto th mk change n).length = n
  | 0 => rfl
  | n + 1 => by simp [sinceUpto, sinceUpto_length th mk change n]
/-- The array of a house at work. -/
def sinceArr (th : List Thing) (mk : List Mark) (change : Int) (n : Nat) : List Int := sinceUpto th mk change n ++ List.replicate (8 - n) 0

/-- A house at work lies at block hb. -/
structure IsHouse (w : World) (hb : Nat) (th : List Thing) (mk : List Mark) (change : Int) (s : List Int) : Prop where
  ex : ∃ A B cm ck b, w.heap[hb]? = some (.cells (houseCells A B th.length cm mk.length ck change s b) 79 (0, 0)) ∧ RdT w A th ∧ RdM w B mk ∧ b.length = 8
  len : s.length = 8
theorem IsHouse.ext {w w' : World} {hb : Nat} {th : List Thing} {mk : List Mark} {change : Int} {s : List Int} (h : IsHouse w hb th mk change s) (he : Ext w w') : IsHouse w' hb th mk change s := by
  obtain ⟨⟨A, B, cm, ck, b, h1, h2, h3, h4⟩, h5⟩ := h
  exact ⟨⟨A, B, cm, ck, b, he.heap h1, h2.ext he, h3.ext he, h4⟩, h5⟩

theorem sinceArr_length (th : List Thing) (mk : List Mark) (change : Int) (n : Nat) (h : n ≤ 8) : (sinceArr th mk change n).length = 8 := by simp [sinceArr, sinceUpto_length]; omega
theorem getD_some {l : List Int} {i : Nat} (h : i < l.length) : l[i]? = some (l.getD i 0) := by rw [List.getElem?_eq_getElem h]; simp [List.getD_eq_getElem?_getD, h]
theorem sinceArr_lt (th : List Thing) (mk : List Mark) (change : Int) (n j : Nat) (h : j < n) : (sinceArr th mk change n).getD j 0 = (sinceUpto th mk change n).getD j 0 := by
  simp only [sinceArr, List.getD_eq_getElem?_getD]
  rw [List.getElem?_append_left (by rw [sinceUpto_length]; exact h)]
theorem sinceArr_step (th : List Thing) (mk : List Mark) (change : Int) (n : Nat) (t : Thing) (hx : th[n]? = some t) (h : n < 8) :
    (sinceArr th mk change n).set n (sinceAt mk change (sinceUpto th mk change n) n t) = sinceArr th mk change (n + 1) := by
  simp only [sinceArr, sinceUpto, hx, Option.getD_some]
  rw [List.set_append_right _ _ (by rw [sinceUpto_length]; exact Nat.le_refl _), sinceUpto_length, Nat.sub_self, show 8 - n = (8 - (n + 1)) + 1 by omega, List.replicate_succ]
  simp

/-- The first K of a list are below n. -/
def byOk (b : List Int) (K n : Nat) : Prop := ∀ j, j < K → b.getD j 0 < (n : Int)
theorem byOk.set_ {b : List Int} {K n : Nat} (h : byOk b K n) (i : Nat) {v : Int} (hv : v < n) : byOk (b.set i v) K n := by
  intro j hj
  have := h j hj
  by_cases e : i = j
  · subst e
    simp only [List.getD_eq_getElem?_getD] at this ⊢
    by_cases hl : i < b.length
    · rw [List.getElem?_set_self hl]; exact hv
    · rw [List.set_eq_of_length_le (by omega)]; exact this
  · simp only [List.getD_eq_getElem?_getD] at this ⊢
    rwa [List.getElem?_set_ne e]
theorem byOk.push {b : List Int} {k n : Nat} (h : byOk b k n) (hk : k < b.length) {v : Int} (hv : v < n) : byOk (b.set k v) (k + 1) n := by
  intro j hj
  by_cases e : k = j
  · subst e
    simp only [List.getD_eq_getElem?_getD]
    rw [List.getElem?_set_self hk]; exact hv
  · have := h j (by omega)
    simp only [List.getD_eq_getElem?_getD] at this ⊢
    rwa [List.getElem?_set_ne e]

set_option maxRecDepth 100000 in
set_option maxHeartbeats 4000000 in
theorem follow7 (A B : Option Addr) (th : List Thing) (mk : List Mark) (cm ck : Nat) (change : Int) (w : World) (hm2 : (mk.length : Int) ≤ 9223372036854775807)
    (hA : RdT w A th) (hB : RdM w B mk) (hc : chkHouse th mk = true) :
    Calls Try.prog 33 #[.agg #[.slice A th.length cm, .slice B mk.length ck], .int .i64 change] w
      fun e w' => ∃ hb, e = .returned (.pointer (some ⟨hb, 0, none⟩)) ∧ Ext w w' ∧ IsHouse w' hb th mk change (sinceArr th mk change th.length) := by
  have h8 : th.length ≤ 8 := by simp [chkHouse] at hc; omega
  have hok : okThings th th.length = true := by simp [chkHouse] at hc; exact hc.1.2
  have Hok := Lib.hid hok
  clear hok hc
  go_enter Try.func33, Try.ntmps33
  go_wp2_with fail
  obtain ⟨w1, p0, e1, e2, hE0, pblk⟩ := new_block w #[.slice A th.length cm, .slice B mk.length ck] 25
  have e3 : w.heap.size + 1 = w1.heap.size := by rw [← e1]; simp
  rw [e3, e1, e2]
  clear e1 e2 e3
  have hh0 : w1.cell? ⟨p0, 0, none⟩ = some (.slice A th.length cm) := blk_at pblk 0 rfl
  have hh1 : w1.cell? ⟨p0, 1, none⟩ = some (.slice B mk.length ck) := blk_at pblk 1 rfl
  have hp0 := blk_lt pblk
  clear pblk
  obtain ⟨w2, hb, e1, e2, hE1, hblk⟩ := new_block w1 #[.slice A th.length cm, .slice B mk.length ck, .int .i64 change, .int .i64 0, .int .i64 0, .int .i64 0, .int .i64 0, .int .i64 0, .int .i64 0, .int .i64 0, .int .i64 0, .int .i64 0, .int .i64 0, .int .i64 0, .int .i64 0, .int .i64 0, .int .i64 0, .int .i64 0, .int .i64 0] 79
  have hge : w1.heap.size ≤ hb := by rw [← e2]; exact Nat.le_refl _
  rw [e1, e2]
  clear e1 e2
  replace hA := hA.ext hE0
  replace hB := hB.ext hE0
  go_loopg [18] th.length (fun g i wr => ∃ k : Nat, k + g = th.length ∧ i = .int .i64 k ∧ Ext w1 wr ∧
    ∃ b : List Int, wr.heap[hb]? = some (.cells (houseCells A B th.length cm mk.length ck change (sinceArr th mk change k) b) 79 (0, 0)) ∧ b.length = 8 ∧ byOk b k mk.length)
  case atStart => exact ⟨0, by omega, rfl, hE1, List.replicate 8 0, by simpa [houseCells, sinceArr, sinceUpto] using hblk, by simp, fun j hj => by omega⟩
  case round =>
    obtain ⟨og, rfl⟩ : ∃ og : Nat, og = gk := ⟨_, rfl⟩
    obtain ⟨k, hk, rfl, hE, b, hbl, hb8, hbv⟩ := hrel
    by_cases hlt : k < th.length
    · have hx : th[k]? = some th[k] := List.getElem?_eq_getElem hlt
      generalize th[k] = y at hx
      obtain ⟨bb, oo, rfl⟩ := hA.base (by omega)
      obtain ⟨f0, f1, f2, f3⟩ := (hA.ext hE).at hx
      have g0 := hE.cell hh0
      have g1 := hE.cell hh1
      obtain ⟨of, at_, cost, prints⟩ := y
      dsimp only at f0 f1 f2 f3
      have hs8 : (sinceArr th mk change k).length = 8 := by simp [sinceArr, sinceUpto_length]; omega
      have k8 : k < 8 := by omega
      have HX := Lib.hid hx
      have HA := Lib.hid hA
      have HB := Lib.hid hB
      have H0 := Lib.hid hh0
      have H1 := Lib.hid hh1
      have HBL := Lib.hid hbl
      have HS := Lib.hid hs8
      have HV := Lib.hid hbv
      have H8 := Lib.hid hb8
      have HK := Lib.hid hk
      clear hx hA hB hh0 hh1 hbl hs8 hbv hb8 hk hblk
      go_upto_region 5 with fail
      obtain ⟨wl, lb, e1, e2, hE2, lblk⟩ := new_block wr #[.int .i64 of, .int .i64 at_, .int .i64 cost, .int .i64 prints] 37
      rw [e1, e2]
      have hlb : wr.heap.size = lb := e2
      clear e1 e2
      have l0 : wl.cell? ⟨lb, 0, none⟩ = some (.int .i64 of) := blk_at lblk 0 rfl
      have l1 : wl.cell? ⟨lb, 1, none⟩ = some (.int .i64 at_) := blk_at lblk 1 rfl
      have hln : lb ≠ hb := by have := blk_lt HBL.out; omega
      have HBW := Lib.hid (hE2.heap HBL.out)
      have HLN := Lib.hid hln
      have HLB := Lib.hid hlb
      clear hlb hln lblk
      have c1 : wl.cell? ⟨hb, 3 + k, none⟩ = some (.int .i64 ((sinceArr th mk change k).getD k 0)) := blk_at HBW.out _ (house_s _ _ _ _ _ _ _ _ _ (getD_some (by rw [HS.out]; exact k8)))
      have c2 : wl.cell? ⟨hb, 11 + k, none⟩ = some (.int .i64 (b.getD k 0)) := blk_at HBW.out _ (house_b _ _ _ _ _ _ _ _ _ HS.out (getD_some (by rw [H8.out]; exact k8)))
      have c3 : wl.frozen? ⟨hb, 3 + k, none⟩ = false := blk_free HBW.out _
      have c4 : wl.frozen? ⟨hb, 11 + k, none⟩ = false := blk_free HBW.out _
      go_cut [] (fun wc => Turned hb wl wc ∧ wc.heap[hb]? = some (.cells (houseCells (some ⟨bb, oo, none⟩) B th.length cm mk.length ck change ((sinceArr th mk change k).set k 100) (b.set k (-1))) 79 (0, 0)))
      case first =>
        go_region
        all_goals (go_wp2_with fail; go_meet)
        all_goals exact ⟨(((Turned.refl _ _).set_ _ _).set_ _ _).drew_, by rw [← house_set_b _ _ _ _ _ _ _ _ _ _ (by rw [List.length_set]; exact HS.out), ← house_set_s _ _ _ _ _ _ _ _ _ _ (by rw [HS.out]; exact k8)]; exact blk_put (blk_put HBW.out _ _) _ _⟩
      case rest =>
        clear c1 c2 c3 c4 f0 f1 f2 f3 g0 g1
        obtain ⟨wa, rfl⟩ : ∃ wa : World, wa = wc := ⟨_, rfl⟩
        obtain ⟨hT, hbl1⟩ := hcut
        have hE3 : Ext w1 wa := hT.below (hE.trans hE2) hge
        have l0' := hT.cell_ HLN.out l0
        have l1' := hT.cell_ HLN.out l1
        clear l0 l1
        have HB1 := Lib.hid hbl1
        clear hbl1
        have hS1 : ((sinceArr th mk change k).set k 100).length = 8 := by rw [List.length_set]; exact HS.out
        have HS1 := Lib.hid hS1
        clear hS1
        go_upto_region 6 with fail
        go_cut [47] (fun s47 wd => Ext wa wd ∧ s47 = .bool (decide (of ≠ -1 ∧ (sinceUpto th mk change k).getD of.toNat 0 ≤ at_)))
        case first =>
          by_cases e : of = -1
          · have e1 : (of != -1) = false := by rw [e]; rfl
            have E := Lib.hid e
            clear e
            refine wp_region_ext (by kernel_rfl) (by kernel_rfl) ?_
            repeat (go_big_quiet_step ((fail)))
            refine wpQuiet_nil ?_
            rintro _ ⟨x, rfl⟩
            go_wp2_with fail
            go_meet
            exact ⟨x.ext, by simp [E.out]⟩
          · have e1 : (of != -1) = true := by simpa using e
            have e2 := okThings_lt Hok.out hlt HX.out
            simp only [okThing, okOf, Bool.and_eq_true, Bool.or_eq_true] at e2
            have e3 : inB of 0 ((k : Int) - 1) = true := by
              rcases e2.1.1.1 with h | h
              · exact h
              · exact absurd (by simpa using h) e
            obtain ⟨j0, j1⟩ := inB_iff.1 e3
            obtain ⟨j, rfl⟩ := Int.eq_ofNat_of_zero_le j0
            have hjk : j < k := by omega
            have hj8 : (j : Int) < 8 := by omega
            have hS1j : ((sinceArr th mk change k).set k 100)[j]? = some ((sinceUpto th mk change k).getD j 0) := by
              rw [List.getElem?_set_ne (by omega), getD_some (by rw [HS.out]; omega), sinceArr_lt _ _ _ _ _ hjk]
            have c1 : wa.cell? ⟨hb, 3 + j, none⟩ = some (.int .i64 ((sinceUpto th mk change k).getD j 0)) := blk_at HB1.out _ (house_s _ _ _ _ _ _ _ _ _ hS1j)
            have E := Lib.hid e
            clear e e2 e3 hS1j
            refine wp_region_ext (by kernel_rfl) (by kernel_rfl) ?_
            repeat (go_big_quiet_step ((fail)))
            refine wpQuiet_nil ?_
            rintro _ ⟨x, rfl⟩
            go_wp2_with fail
            go_meet
            exact ⟨x.ext, by simp [E.out]⟩
        case rest =>
          obtain ⟨hE4, rfl⟩ := hcut
          obtain ⟨wb, rfl⟩ : ∃ wb : World, wb = wc := ⟨_, rfl⟩
          have l0 := hE4.cell l0'
          have l1 := hE4.cell l1'
          clear l0' l1'
          have HB2 := Lib.hid (hE4.heap HB1.out)
          have hE5 : Ext w1 wb := hE3.trans hE4
          go_upto_if 47 with fail
          go_cut [] (fun wd => Turned hb wb wd ∧ ∃ b' : List Int, wd.heap[hb]? = some (.cells (houseCells (some ⟨bb, oo, none⟩) B th.length cm mk.length ck change ((sinceArr th mk change k).set k (since0 (sinceUpto th mk change k) ⟨of, at_, cost, prints⟩)) b') 79 (0, 0)) ∧ b'.length = 8 ∧ byOk b' (k + 1) mk.length)
          case first =>
            by_cases e : of ≠ -1 ∧ (sinceUpto th mk change k).getD of.toNat 0 ≤ at_
            · have e1 : decide (of ≠ -1 ∧ (sinceUpto th mk change k).getD of.toNat 0 ≤ at_) = true := by simpa using e
              have e2 := okThings_lt Hok.out hlt HX.out
              simp only [okThing, okOf, Bool.and_eq_true, Bool.or_eq_true] at e2
              have e3 : inB of 0 ((k : Int) - 1) = true := by
                rcases e2.1.1.1 with h | h
                · exact h
                · exact absurd (by simpa using h) e.1
              obtain ⟨j0, j1⟩ := inB_iff.1 e3
              obtain ⟨j, rfl⟩ := Int.eq_ofNat_of_zero_le j0
              have hjk : j < k := by omega
              have hj8 : (j : Int) < 8 := by omega
              have hlen : (b.set k (-1)).length = 8 := by rw [List.length_set]; exact H8.out
              have c0 : wb.cell? ⟨hb, 11 + j, none⟩ = some (.int .i64 ((b.set k (-1)).getD j 0)) := blk_at HB2.out _ (house_b _ _ _ _ _ _ _ _ _ HS1.out (getD_some (by rw [hlen]; omega)))
              have hbj : (b.set k (-1)).getD j 0 < mk.length := (HV.out.set_ k (by omega)) j hjk
              generalize (b.set k (-1)).getD j 0 = bj at c0 hbj
              have c1 : wb.cell? ⟨hb, 3 + k, none⟩ = some (.int .i64 (((sinceArr th mk change k).set k 100).getD k 0)) := blk_at HB2.out _ (house_s _ _ _ _ _ _ _ _ _ (getD_some (by rw [HS1.out]; exact k8)))
              have c2 : wb.cell? ⟨hb, 11 + k, none⟩ = some (.int .i64 ((b.set k (-1)).getD k 0)) := blk_at HB2.out _ (house_b _ _ _ _ _ _ _ _ _ HS1.out (getD_some (by rw [hlen]; exact k8)))
              have c3 : wb.frozen? ⟨hb, 3 + k, none⟩ = false := blk_free HB2.out _
              have c4 : wb.frozen? ⟨hb, 11 + k, none⟩ = false := blk_free HB2.out _
              have E := Lib.hid e
              have HBJ := Lib.hid hbj
              have HL := Lib.hid hlen
              clear e e2 e3 hbj hlen
              go_wp2_with fail
              go_region
              all_goals (go_wp2_with fail; go_meet)
              all_goals exact ⟨(((Turned.refl _ _).set_ _ _).set_ _ _).drew_, (b.set k (-1)).set k bj, by rw [since0, if_pos E.out, ← List.set_set (a := 100), ← house_set_b _ _ _ _ _ _ _ _ _ _ (by rw [List.length_set]; exact HS1.out), ← house_set_s _ _ _ _ _ _ _ _ _ _ (by rw [HS1.out]; exact k8)]; exact blk_put (blk_put HB2.out _ _) _ _, by rw [List.length_set]; exact HL.out, ((HV.out.push (by rw [H8.out]; exact k8) (by omega)).set_ k HBJ.out)⟩
            · have e1 : decide (of ≠ -1 ∧ (sinceUpto th mk change k).getD of.toNat 0 ≤ at_) = false := by simpa using e
              have E := Lib.hid e
              clear e
              go_wp2_with fail
              go_meet
              exact ⟨Turned.refl _ _, b.set k (-1), by rw [since0, if_neg E.out]; exact HB2.out, by rw [List.length_set]; exact H8.out, (HV.out.push (by rw [H8.out]; exact k8) (by omega))⟩
          case rest =>
            clear l0 l1
            obtain ⟨wd, rfl⟩ : ∃ wd : World, wd = wc := ⟨_, rfl⟩
            obtain ⟨hT2, b1, hbl3, hb18, hb1v⟩ := hcut
            have hE6 : Ext w1 wd := hT2.below hE5 hge
            have g0 := hE6.cell H0.out
            have g1 := hE6.cell H1.out
            have HB3 := Lib.hid hbl3
            have H18 := Lib.hid hb18
            have H1V := Lib.hid hb1v
            clear hbl3 hb18 hb1v
            go_wp2_with fail
            clear g0 g1
            go_loopg [70] mk.length (fun g i wr => ∃ n : Nat, n + g = mk.length ∧ i = .int .i64 n ∧ Ext w1 wr ∧
              ∃ b2 : List Int, wr.heap[hb]? = some (.cells (houseCells (some ⟨bb, oo, none⟩) B th.length cm mk.length ck change ((sinceArr th mk change k).set k ((mk.take n).foldl (markStep change k) (since0 (sinceUpto th mk change k) ⟨of, at_, cost, prints⟩))) b2) 79 (0, 0)) ∧ b2.length = 8 ∧ byOk b2 (k + 1) mk.length)
            case atStart => exact ⟨0, by omega, rfl, hE6, b1, by simpa using HB3.out, H18.out, H1V.out⟩
            case round =>
              obtain ⟨n, hn, rfl, hE7, b2, hbl4, hb28, hb2v⟩ := hrel
              have HN := Lib.hid hn
              have HB4 := Lib.hid hbl4
              have H28 := Lib.hid hb28
              have H2V := Lib.hid hb2v
              clear hbl4 hb28 hb2v
              by_cases hlt2 : n < mk.length
              · clear hn
                have hx : mk[n]? = some mk[n] := List.getElem?_eq_getElem hlt2
                generalize mk[n] = y at hx
                obtain ⟨b0, o0, rfl⟩ := HB.out.base (by omega)
                obtain ⟨f0, f1, f2⟩ := (HB.out.ext hE7).at hx
                obtain ⟨mc, mt, ma⟩ := y
                dsimp only at f0 f1 f2
                have HM := Lib.hid hx
                clear hx
                generalize hcur : (mk.take n).foldl (markStep change k) (since0 (sinceUpto th mk change k) ⟨of, at_, cost, prints⟩) = cur at HB4
                have HCUR := Lib.hid hcur
                clear hcur
                have hnext : (mk.take (n + 1)).foldl (markStep change k) (since0 (sinceUpto th mk change k) ⟨of, at_, cost, prints⟩) = markStep change k cur ⟨mc, mt, ma⟩ := by
                  rw [List.take_add_one, HM.out, Option.toList_some, List.foldl_append, HCUR.out]; rfl
                have HNX := Lib.hid hnext
                clear hnext
                go_upto_region 11 with fail
                obtain ⟨we, mb, e1, e2, hE8, mblk⟩ := new_block wr #[.int .i64 mc, .int .i64 mt, .int .i64 ma] 68
                rw [e1, e2]
                have hmb : wr.heap.size = mb := e2
                clear e1 e2
                have m0 : we.cell? ⟨mb, 0, none⟩ = some (.int .i64 mc) := blk_at mblk 0 rfl
                have m1 : we.cell? ⟨mb, 1, none⟩ = some (.int .i64 mt) := blk_at mblk 1 rfl
                have m2 : we.cell? ⟨mb, 2, none⟩ = some (.int .i64 ma) := blk_at mblk 2 rfl
                clear f0 f1 f2 mblk
                have HMB := Lib.hid hmb
                clear hmb
                go_cut [10] (fun s10 wx => we = wx ∧ s10 = .bool (decide (mt = (k : Int) ∧ mc = change)))
                case first =>
                  cases q1 : (mt == (k : Int)) <;> cases q2 : (mc == change)
                  all_goals
                    go_wp2_with fail
                    go_meet
                    exact ⟨rfl, by simp at q1 q2; simp [q1, q2]⟩
                case rest =>
                  obtain ⟨rfl, rfl⟩ := hcut
                  go_upto_region 12 with fail
                  have HB5 := Lib.hid (hE8.heap HB4.out)
                  have hS4 : ((sinceArr th mk change k).set k cur).length = 8 := by rw [List.length_set]; exact HS.out
                  have c1 : we.cell? ⟨hb, 3 + k, none⟩ = some (.int .i64 cur) := blk_at HB5.out _ (house_s _ _ _ _ _ _ _ _ _ (by rw [List.getElem?_set_self (by rw [HS.out]; exact k8)]))
                  have hbk : b2.getD k 0 < mk.length := H2V.out k (by omega)
                  have c2 : we.cell? ⟨hb, 11 + k, none⟩ = some (.int .i64 (b2.getD k 0)) := blk_at HB5.out _ (house_b _ _ _ _ _ _ _ _ _ hS4 (getD_some (by rw [H28.out]; exact k8)))
                  have c3 : we.cell? ⟨hb, 1, none⟩ = some (.slice (some ⟨b0, o0, none⟩) mk.length ck) := blk_at HB5.out _ (house_1 _ _ _ _ _ _ _ _ _)
                  have hE9 : Ext w1 we := hE7.trans hE8
                  have HS4 := Lib.hid hS4
                  clear hS4
                  go_cut [10, 113] (fun _ s wy => Ext we wy ∧ ∃ tb : Bool, s = .bool tb ∧ (tb = true → (mt = (k : Int) ∧ mc = change) ∧ ma ≤ cur) ∧ (tb = false → ¬ ((mt = (k : Int) ∧ mc = change) ∧ ma < cur)))
                  case first =>
                    by_cases q1 : mt = (k : Int) ∧ mc = change
                    · rw [show decide (mt = (k : Int) ∧ mc = change) = true by simpa using q1]
                      have Q1 := Lib.hid q1
                      clear q1
                      by_cases q2 : ma < cur
                      · skip
                        refine wp_region_ext (by kernel_rfl) (by kernel_rfl) ?_
                        repeat (go_big_quiet_step ((fail)))
                        refine wpQuiet_nil ?_
                        rintro _ ⟨x, rfl⟩
                        go_wp2_with fail
                        go_meet
                        exact ⟨x.ext, true, rfl, (fun _ => ⟨Q1.out, by omega⟩), (fun h => by cases h)⟩
                      · have q2' : decide (ma < cur) = false := by simpa using q2
                        by_cases q3 : ma = cur
                        · subst q3
                          have mkd : ∀ x : ExtW we, Calls Try.prog 61 #[.pointer (some ⟨hb, 0, none⟩), .int .i64 k] x.out fun e w'' => e = .returned (.bool (markedB mk (b2.getD k 0) k)) ∧ ∃ y : ExtW we, w'' = y.out :=
                            fun x => Calls.inXsame x (marked7 hb _ mk ck k (b2.getD k 0) x.out k8 hbk hm2 (x.ext.cell c3) (x.ext.cell c2) (HB.out.ext (hE9.trans x.ext)))
                          generalize markedB mk (b2.getD k 0) k = q4 at mkd
                          have MKD := Lib.hid mkd
                          clear mkd
                          refine wp_region_ext (by kernel_rfl) (by kernel_rfl) ?_
                          repeat (go_big_quiet_step ((go_at_call 61; exact MKD.out _)))
                          refine wpQuiet_nil ?_
                          rintro _ ⟨x, rfl⟩
                          go_wp2_with fail
                          go_meet
                          exact ⟨x.ext, _, rfl, (fun _ => ⟨Q1.out, by omega⟩), (fun _ h => by omega)⟩
                        · have q3' : (ma == cur) = false := by simpa using q3
                          refine wp_region_ext (by kernel_rfl) (by kernel_rfl) ?_
                          repeat (go_big_quiet_step ((fail)))
                          refine wpQuiet_nil ?_
                          rintro _ ⟨x, rfl⟩
                          go_wp2_with fail
                          go_meet
                          exact ⟨x.ext, false, rfl, (fun h => by cases h), (fun _ h => by omega)⟩
                    · rw [show decide (mt = (k : Int) ∧ mc = change) = false by simpa using q1]
                      have Q1 := Lib.hid q1
                      clear q1
                      refine wp_region_ext (by kernel_rfl) (by kernel_rfl) ?_
                      repeat (go_big_quiet_step ((fail)))
                      refine wpQuiet_nil ?_
                      rintro _ ⟨x, rfl⟩
                      go_wp2_with fail
                      go_meet
                      exact ⟨x.ext, false, rfl, (fun h => by cases h), (fun _ h => Q1.out h.1)⟩
                  case rest =>
                    obtain ⟨wf, rfl⟩ : ∃ wf : World, wf = wc := ⟨_, rfl⟩
                    obtain ⟨hE10, tb, rfl, htb1, htb2⟩ := hcut
                    have HT1 := Lib.hid htb1
                    have HT2 := Lib.hid htb2
                    clear htb1 htb2 c1 c2 c3
                    have m2' := hE10.cell m2
                    clear m0 m1 m2
                    have HB6 := Lib.hid (hE10.heap HB5.out)
                    have hE11 : Ext w1 wf := hE9.trans hE10
                    go_upto_if 113 with fail
                    cases tb
                    · have hms : markStep change k cur ⟨mc, mt, ma⟩ = cur := by
                        have h := HT2.out rfl
                        rw [markStep, if_neg (fun q => h ⟨⟨q.1, q.2.1⟩, q.2.2⟩)]
                      have HMS := Lib.hid hms
                      clear hms
                      go_wp2_with fail
                      go_roundg (gk - 1)
                      case measure => have := HN.out; omega
                      case rel => exact ⟨n + 1, by have := HN.out; omega, by go_num, hE11, b2, by rw [HNX.out, HMS.out]; exact HB6.out, H28.out, H2V.out⟩
                    · have c1 : wf.cell? ⟨hb, 3 + k, none⟩ = some (.int .i64 cur) := blk_at HB6.out _ (house_s _ _ _ _ _ _ _ _ _ (by rw [List.getElem?_set_self (by rw [HS.out]; exact k8)]))
                      have c2 : wf.cell? ⟨hb, 11 + k, none⟩ = some (.int .i64 (b2.getD k 0)) := blk_at HB6.out _ (house_b _ _ _ _ _ _ _ _ _ HS4.out (getD_some (by rw [H28.out]; exact k8)))
                      have c3 : wf.frozen? ⟨hb, 3 + k, none⟩ = false := blk_free HB6.out _
                      have c4 : wf.frozen? ⟨hb, 11 + k, none⟩ = false := blk_free HB6.out _
                      have hms : markStep change k cur ⟨mc, mt, ma⟩ = ma := by
                        have h := HT1.out rfl
                        unfold markStep
                        split
                        · rfl
                        · have : ¬ ma < cur := fun q => by
                            rename_i hn
                            exact hn ⟨h.1.1, h.1.2, q⟩
                          omega
                      have HMS := Lib.hid hms
                      clear hms
                      go_wp2_with fail
                      go_region
                      all_goals
                        go_wp2_with fail
                        go_roundg (gk - 1)
                        case measure => have := HN.out; omega
                        case rel =>
                          refine ⟨n + 1, by have := HN.out; omega, by go_num, ?_, b2.set k n, ?_, by rw [List.length_set]; exact H28.out, ?_⟩
                          · exact ((((Turned.refl hb wf).set_ _ _).set_ _ _).drew_).below hE11 hge
                          · rw [HNX.out, HMS.out, ← List.set_set (a := cur), ← house_set_b _ _ _ _ _ _ _ _ _ _ (by rw [List.length_set]; exact HS4.out), ← house_set_s _ _ _ _ _ _ _ _ _ _ (by rw [HS4.out]; exact k8)]
                            exact blk_put (blk_put HB6.out _ _) _ _
                          · exact H2V.out.set_ k (by omega)
              · have e : mk.take n = mk := List.take_of_length_le (by omega)
                have EE := Lib.hid e
                clear e hn
                go_wp2_with fail
                go_roundg (og - 1)
                case measure => have := HK.out; omega
                case rel =>
                  refine ⟨k + 1, by have := HK.out; omega, by go_num, hE7, b2, ?_, H28.out, H2V.out⟩
                  rw [← sinceArr_step th mk change k _ HX.out k8, sinceAt]
                  have := HB4.out
                  rw [EE.out] at this
                  exact this
    · have e : k = th.length := by omega
      subst e
      clear hk
      go_wp2_with fail
      go_ret
      exact ⟨hb, rfl, hE0.trans hE, ⟨A, B, cm, ck, b, hbl, hA.ext hE, hB.ext hE, hb8⟩, sinceArr_length _ _ _ _ h8⟩
end Go.Proofs.Ytloenmikkkklhaa

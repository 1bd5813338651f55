/-
  The layer 'copies': see narrows the changes of a way.
-/
import Derived.Test.YtloenmikkkklhaaP2
namespace Go.Proofs.Ytloenmikkkklhaa
open Go.RowKit

/-- The cells of a way: its list, and its changes. -/
def wayCells (v : Value) (wh : List Int) : Array Value := (v :: wh.map (Value.int .i64)).toArray
theorem way_0 (v : Value) (wh : List Int) : (wayCells v wh)[0]? = some v := by simp [wayCells]
theorem way_s (v : Value) (wh : List Int) {i : Nat} {n : Int} (h : wh[i]? = some n) : (wayCells v wh)[1 + i]? = some (.int .i64 n) := by
  simp only [wayCells, List.getElem?_toArray]
  rw [Nat.add_comm, List.getElem?_cons_succ]
  simp [h]
theorem way_set (v : Value) (wh : List Int) (i : Nat) (n : Int) : (wayCells v wh).setIfInBounds (1 + i) (.int .i64 n) = wayCells v (wh.set i n) := by
  simp only [wayCells, List.setIfInBounds_toArray]
  rw [Nat.add_comm, List.set_cons_succ, List.map_set]

def seeOne (wh : List Int) (i : Nat) (minute n : Int) : List Int :=
  if n = 0 then wh.set i (max (wh.getD i 0) (minute + 1)) else if n = 1 then wh.set (i + 1) (min (wh.getD (i + 1) 0) minute) else wh
def seeUpto (wh : List Int) (m : Nat) (minute : Int) (new : List Int) : Nat → List Int
  | 0 => wh
  | k + 1 => seeOne (seeUpto wh m minute new k) (m * 6 + k * 2) minute (new.getD k 0)
def seeB (wh : List Int) (m : Nat) (minute : Int) (new : List Int) : Nat → Bool
  | 0 => true
  | k + 1 => seeB wh m minute new k && decide ((seeUpto wh m minute new (k + 1)).getD (m * 6 + k * 2) 0 ≤ (seeUpto wh m minute new (k + 1)).getD (m * 6 + k * 2 + 1) 0)
theorem seeOne_length (wh : List Int) (i : Nat) (minute n : Int) : (seeOne wh i minute n).length = wh.length := by
  unfold seeOne
  split
  · simp
  · split <;> simp
theorem seeUpto_length (wh : List Int) (m : Nat) (minute : Int) (new : List Int) : ∀ k, (seeUpto wh m minute new k).length = wh.length
  | 0 => rfl
  | k + 1 => by rw [seeUpto, seeOne_length, seeUpto_length wh m minute new k]
theorem seeB_false {wh : List Int} {m : Nat} {minute : Int} {new : List Int} : ∀ {n k : Nat}, seeB wh m minute new k = false → k ≤ n → seeB wh m minute new n = false
  | 0, k, h, hk => by obtain rfl : k = 0 := by omega
                      exact h
  | n + 1, k, h, hk => by
    by_cases e : k = n + 1
    · subst e; exact h
    · rw [seeB, seeB_false h (by omega)]; rfl

set_option maxRecDepth 100000 in
set_option maxHeartbeats 4000000 in
theorem see6 (ob m : Nat) (v : Value) (wh : List Int) (minute : Int) (C D : Option Addr) (new frm : List Int) (cn cf : Nat) (w : World) (hm : m < 3) (h18 : wh.length = 18) (hmin : 0 ≤ minute ∧ minute ≤ 30) (hn : new.length ≤ 3)
    (hblk : w.heap[ob]? = some (.cells (wayCells v wh) 94 (0, 0))) (hC : RdI w C new) (hne : ∀ b o, C = some ⟨b, o, none⟩ → b ≠ ob) :
    Calls Try.prog 78 #[.pointer (some ⟨ob, 1, none⟩), .agg #[.int .i64 minute, .slice C new.length cn, .slice D frm.length cf], .int .i64 m] w
      fun e w' => ∃ wh', e = .returned (.bool (seeB wh m minute new new.length)) ∧ Turned ob w w' ∧ w'.heap[ob]? = some (.cells (wayCells v wh') 94 (0, 0)) ∧ (seeB wh m minute new new.length = true → wh' = seeUpto wh m minute new new.length) := by
  have HB := Lib.hid hblk
  have HC := Lib.hid hC
  have H18 := Lib.hid h18
  have hob := blk_lt hblk
  clear hblk hC h18
  obtain ⟨hmin1, hmin2⟩ := hmin
  have hm3 : (m : Int) < 3 := by omega
  go_enter Try.func78, Try.ntmps78
  go_upto_region 1 with fail
  obtain ⟨w1, p0, e1, e2, hE0, pblk⟩ := new_block w #[.int .i64 minute, .slice C new.length cn, .slice D frm.length cf] 50
  have hp0 : p0 ≠ ob := by rw [← e2]; omega
  rw [e1, e2]
  clear e1 e2
  have r0 : w1.cell? ⟨p0, 0, none⟩ = some (.int .i64 minute) := blk_at pblk 0 rfl
  have r1 : w1.cell? ⟨p0, 1, none⟩ = some (.slice C new.length cn) := blk_at pblk 1 rfl
  have HB1 := Lib.hid (hE0.heap HB.out)
  have HP0 := Lib.hid hp0
  clear pblk hp0
  go_wp2_with fail
  go_loopg [13] new.length (fun g i wr => ∃ k : Nat, k + g = new.length ∧ i = .int .i64 k ∧ Turned ob w1 wr ∧ wr.heap[ob]? = some (.cells (wayCells v (seeUpto wh m minute new k)) 94 (0, 0)) ∧ seeB wh m minute new k = true)
  case atStart => exact ⟨0, by omega, rfl, Turned.refl _ _, HB1.out, rfl⟩
  case round =>
    obtain ⟨k, hk, rfl, hT, hblk, hs⟩ := hrel
    have HK := Lib.hid hk
    have HBL := Lib.hid hblk
    have HS := Lib.hid hs
    by_cases hlt : k < new.length
    · clear hk hblk hs
      have hx : new[k]? = some new[k] := List.getElem?_eq_getElem hlt
      have hxd : new.getD k 0 = new[k] := by rw [List.getD_eq_getElem?_getD, hx]; rfl
      generalize new[k] = n at hx hxd
      obtain ⟨cb, co, hCe⟩ := HC.out.base (by omega)
      subst hCe
      have HCN := Lib.hid (hne _ _ rfl)
      have f0 := hT.cell_ HCN.out ((HC.out.ext hE0).at hx)
      have s0 := hT.cell_ HP0.out r0
      clear hne
      have hl := seeUpto_length wh m minute new k
      rw [H18.out] at hl
      have hnext : seeUpto wh m minute new (k + 1) = seeOne (seeUpto wh m minute new k) (m * 6 + k * 2) minute n := by rw [seeUpto, hxd]
      have hnextB : seeB wh m minute new (k + 1) = (seeB wh m minute new k && decide ((seeUpto wh m minute new (k + 1)).getD (m * 6 + k * 2) 0 ≤ (seeUpto wh m minute new (k + 1)).getD (m * 6 + k * 2 + 1) 0)) := rfl
      have HNB := Lib.hid hnextB
      generalize seeUpto wh m minute new k = S at HBL hl hnext
      have HL := Lib.hid hl
      have HN := Lib.hid hnext
      clear hl hnext hxd hx hnextB
      go_upto_block 2 with fail
      go_cut [] (fun wc => Turned ob wr wc ∧ wc.heap[ob]? = some (.cells (wayCells v (seeUpto wh m minute new (k + 1))) 94 (0, 0)))
      case first =>
        by_cases n0 : n = 0
        · have hn1 : seeUpto wh m minute new (k + 1) = S.set (m * 6 + k * 2) (max (S.getD (m * 6 + k * 2) 0) (minute + 1)) := by rw [HN.out, seeOne, if_pos n0]
          subst n0
          have HN1 := Lib.hid hn1
          have hi : m * 6 + k * 2 < S.length := by rw [HL.out]; omega
          have c0 : wr.cell? ⟨ob, 1 + m * 6 + k * 2, none⟩ = some (.int .i64 (S.getD (m * 6 + k * 2) 0)) := by
            rw [show 1 + m * 6 + k * 2 = 1 + (m * 6 + k * 2) by omega]
            exact blk_at HBL.out _ (way_s _ _ (by rw [List.getElem?_eq_getElem hi]; simp [List.getD_eq_getElem?_getD, hi]))
          have c1 : wr.frozen? ⟨ob, 1 + m * 6 + k * 2, none⟩ = false := blk_free HBL.out _
          clear hn1 hi
          generalize S.getD (m * 6 + k * 2) 0 = q at c0 HN1
          go_wp2_with fail
          go_region
          all_goals go_wp2_with fail
          all_goals go_meet
          all_goals
            refine ⟨((Turned.refl _ _).set_ _ _).drew_, ?_⟩
            rw [HN1.out, ← way_set]
            first | (rw [Int.max_eq_right (by omega)]; have hz := blk_put HBL.out (1 + (m * 6 + k * 2)) (.int .i64 (minute + 1)); rw [show 1 + (m * 6 + k * 2) = 1 + m * 6 + k * 2 by omega] at hz ⊢; exact hz) | (rw [Int.max_eq_left (by omega)]; have hz := blk_put HBL.out (1 + (m * 6 + k * 2)) (.int .i64 q); rw [show 1 + (m * 6 + k * 2) = 1 + m * 6 + k * 2 by omega] at hz ⊢; exact hz)
        · have e0 : (n == 0) = false := by simpa using n0
          by_cases n1 : n = 1
          · have hn1 : seeUpto wh m minute new (k + 1) = S.set (m * 6 + k * 2 + 1) (min (S.getD (m * 6 + k * 2 + 1) 0) minute) := by rw [HN.out, seeOne, if_neg n0, if_pos n1]
            subst n1
            have HN1 := Lib.hid hn1
            have hi : m * 6 + k * 2 + 1 < S.length := by rw [HL.out]; omega
            have c0 : wr.cell? ⟨ob, 1 + m * 6 + k * 2 + 1, none⟩ = some (.int .i64 (S.getD (m * 6 + k * 2 + 1) 0)) := by
              rw [show 1 + m * 6 + k * 2 + 1 = 1 + (m * 6 + k * 2 + 1) by omega]
              exact blk_at HBL.out _ (way_s _ _ (by rw [List.getElem?_eq_getElem hi]; simp [List.getD_eq_getElem?_getD, hi]))
            have c1 : wr.frozen? ⟨ob, 1 + m * 6 + k * 2 + 1, none⟩ = false := blk_free HBL.out _
            clear hn1 hi n0
            generalize S.getD (m * 6 + k * 2 + 1) 0 = q at c0 HN1
            go_wp2_with fail
            go_region
            all_goals go_wp2_with fail
            all_goals go_meet
            all_goals
              refine ⟨((Turned.refl _ _).set_ _ _).drew_, ?_⟩
              rw [HN1.out, ← way_set]
              first | (rw [Int.min_eq_right (by omega)]; have hz := blk_put HBL.out (1 + (m * 6 + k * 2 + 1)) (.int .i64 minute); rw [show 1 + (m * 6 + k * 2 + 1) = 1 + m * 6 + k * 2 + 1 by omega] at hz ⊢; exact hz) | (rw [Int.min_eq_left (by omega)]; have hz := blk_put HBL.out (1 + (m * 6 + k * 2 + 1)) (.int .i64 q); rw [show 1 + (m * 6 + k * 2 + 1) = 1 + m * 6 + k * 2 + 1 by omega] at hz ⊢; exact hz)
          · have e1 : (n == 1) = false := by simpa using n1
            have hn1 : seeUpto wh m minute new (k + 1) = S := by rw [HN.out, seeOne, if_neg n0, if_neg n1]
            have HN1 := Lib.hid hn1
            clear hn1 n0 n1
            go_wp2_with fail
            go_meet
            exact ⟨Turned.refl _ _, by rw [HN1.out]; exact HBL.out⟩
      case rest =>
        obtain ⟨hT2, hbl2⟩ := hcut
        have hl2 : (seeUpto wh m minute new (k + 1)).length = 18 := by rw [seeUpto_length]; exact H18.out
        have i0 : m * 6 + k * 2 < (seeUpto wh m minute new (k + 1)).length := by rw [hl2]; omega
        have i1 : m * 6 + k * 2 + 1 < (seeUpto wh m minute new (k + 1)).length := by rw [hl2]; omega
        have c0 : wc.cell? ⟨ob, 1 + m * 6 + k * 2, none⟩ = some (.int .i64 ((seeUpto wh m minute new (k + 1)).getD (m * 6 + k * 2) 0)) := by
          rw [show 1 + m * 6 + k * 2 = 1 + (m * 6 + k * 2) by omega]
          exact blk_at hbl2 _ (way_s _ _ (by rw [List.getElem?_eq_getElem i0]; simp [List.getD_eq_getElem?_getD, i0]))
        have c1 : wc.cell? ⟨ob, 1 + m * 6 + k * 2 + 1, none⟩ = some (.int .i64 ((seeUpto wh m minute new (k + 1)).getD (m * 6 + k * 2 + 1) 0)) := by
          rw [show 1 + m * 6 + k * 2 + 1 = 1 + (m * 6 + k * 2 + 1) by omega]
          exact blk_at hbl2 _ (way_s _ _ (by rw [List.getElem?_eq_getElem i1]; simp [List.getD_eq_getElem?_getD, i1]))
        have HB2 := Lib.hid hbl2
        clear hbl2 hl2 i0 i1
        generalize (seeUpto wh m minute new (k + 1)).getD (m * 6 + k * 2) 0 = lo at c0 HNB
        generalize (seeUpto wh m minute new (k + 1)).getD (m * 6 + k * 2 + 1) 0 = hi at c1 HNB
        by_cases hlh : hi < lo
        · have hf : seeB wh m minute new (k + 1) = false := by rw [HNB.out]; simp; omega
          have HF := Lib.hid (seeB_false hf hlt)
          clear hf
          go_upto_region 10 with fail
          refine wp_region_ext (by kernel_rfl) (by kernel_rfl) ?_
          repeat (go_big_quiet_step ((fail)))
          refine wpQuiet_nil ?_
          rintro _ ⟨x, rfl⟩
          go_wp2_with fail
          go_ret
          exact ⟨_, by rw [HF.out]; rfl, (Turned.of_ext hE0).trans (hT.trans (hT2.trans (Turned.of_ext x.ext))), x.ext.heap HB2.out, fun h => by rw [HF.out] at h; cases h⟩
        · have hf : seeB wh m minute new (k + 1) = true := by rw [HNB.out, HS.out]; simp; omega
          have HF := Lib.hid hf
          have hlh' : decide (hi < lo) = false := by simpa using hlh
          clear hf
          go_upto_region 10 with fail
          refine wp_region_ext (by kernel_rfl) (by kernel_rfl) ?_
          repeat (go_big_quiet_step ((fail)))
          refine wpQuiet_nil ?_
          rintro _ ⟨x, rfl⟩
          go_wp2_with fail
          go_roundg (gk - 1)
          case measure => have := HK.out; omega
          case rel => exact ⟨k + 1, by have := HK.out; omega, by go_num, hT.trans (hT2.trans (Turned.of_ext x.ext)), x.ext.heap HB2.out, HF.out⟩
    · obtain rfl : k = new.length := by omega
      clear hk
      go_wp2_with fail
      go_ret
      exact ⟨_, by rw [HS.out]; rfl, (Turned.of_ext hE0).trans hT, HBL.out, fun _ => rfl⟩
end Go.Proofs.Ytloenmikkkklhaa

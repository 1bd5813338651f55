/-
  The layer 'changes': Since and Mixed of a valid house.
-/
import Derived.Test.YtloenmikkkklhaaC6
namespace Go.Proofs.Ytloenmikkkklhaa
open Go.RowKit

theorem ret2_int {j k : IntKind} {a b c d : Int} (h : a = b) (h' : c = d) : Ending.returned (.tuple #[.int j a, .int k c]) = .returned (.tuple #[.int j b, .int k d]) := by rw [h, h']
def sinceVal (n : Int) : Int := if n = 100 then 0 else n
def sinceErr (n : Int) : Int := if n = 100 then 3 else 0

set_option maxHeartbeats 1000000 in
theorem Since7 (A B : Option Addr) (th : List Thing) (mk : List Mark) (cm ck i : Nat) (change : Int) (w : World) (hm2 : (mk.length : Int) ≤ 9223372036854775807)
    (hA : RdT w A th) (hB : RdM w B mk) (hc : chkHouse th mk = true) (hi : i < th.length) (hch : inB change 0 2 = true) :
    Calls Try.prog 10 #[.agg #[.slice A th.length cm, .slice B mk.length ck], .int .i64 i, .int .i64 change] w
      fun e w' => e = .returned (.tuple #[.int .i64 (sinceVal (sinceOf th mk change i)), .int .i64 (sinceErr (sinceOf th mk change i))]) ∧ Ext w w' := by
  have h8 : th.length ≤ 8 := by simp [chkHouse] at hc; omega
  have hm : (th.length : Int) ≤ 9223372036854775807 := by omega
  have q1 : ∀ W, Calls Try.prog 31 #[.agg #[.slice A th.length cm, .slice B mk.length ck], .int .i64 i] W fun e w' => e = .returned (.bool true) ∧ Ext W w' := fun W => by
    have h := isThing7 A B th.length cm mk.length ck i W hm
    rwa [show inB (i : Int) 0 ((th.length : Int) - 1) = true from inB_iff.2 ⟨by omega, by omega⟩] at h
  have q2 : ∀ W, Calls Try.prog 32 #[.int .i64 change] W fun e w' => e = .returned (.bool true) ∧ W = w' := fun W => by
    have h := isChange7 change W
    rwa [hch] at h
  have Q1 := Lib.hid q1
  have Q2 := Lib.hid q2
  have HA := Lib.hid hA
  have HB := Lib.hid hB
  have HC := Lib.hid hc
  clear q1 q2 hA hB hc hch
  go_enter Try.func10, Try.ntmps10
  go_wp2_with fail
  obtain ⟨w1, p0, e1, e2, hE0, pblk⟩ := new_block w #[.slice A th.length cm, .slice B mk.length ck] 25
  rw [e1, e2]
  clear e1 e2
  have hh0 : w1.cell? ⟨p0, 0, none⟩ = some (.slice A th.length cm) := blk_at pblk 0 rfl
  have hh1 : w1.cell? ⟨p0, 1, none⟩ = some (.slice B mk.length ck) := blk_at pblk 1 rfl
  clear pblk
  refine wp_region_ext (by kernel_rfl) (by kernel_rfl) ?_
  repeat (go_big_quiet_step ((first | (go_at_call 31; exact Calls.inX _ (Q1.out _)) | (go_at_call 32; exact Calls.inXsame _ (Q2.out _)) | (go_at_call 30; refine Calls.inX _ (open7 A B th mk cm ck _ hm hm2 (HA.out.ext (hE0.trans (ExtW.ext _))) (HB.out.ext (hE0.trans (ExtW.ext _))) HC.out)))))
  refine wpQuiet_nil ?_
  rintro _ ⟨x, rfl⟩
  have g0 := x.ext.cell hh0
  have g1 := x.ext.cell hh1
  have hE1 := hE0.trans x.ext
  obtain ⟨w2, hw2⟩ : ∃ w2, x.out = w2 := ⟨_, rfl⟩
  rw [hw2] at g0 g1 hE1 ⊢
  clear hw2 x hh0 hh1
  go_wp2_with fail
  refine (follow7 A B th mk cm ck change _ hm2 (HA.out.ext hE1) (HB.out.ext hE1) HC.out).mono ?_
  rintro e w' ⟨hb, rfl, hE2, hH⟩
  have hl := house_load hH (Nat.lt_of_lt_of_le hi h8)
  change w'.cell? ⟨hb, 3 + i, none⟩ = some (.int .i64 (sinceOf th mk change i)) at hl
  generalize hn : sinceOf th mk change i = n at hl
  have HN := Lib.hid hn
  clear hH hn
  by_cases h : n = 100
  · subst h
    go_wp2_with fail
    go_ret2
    exact ⟨ret2_int (by rw [HN.out]; rfl) (by rw [HN.out]; rfl), hE1.trans hE2⟩
  · have h1 : (n == 100) = false := by simpa using h
    have H := Lib.hid h
    clear h
    go_wp2_with fail
    go_ret2
    exact ⟨ret2_int (by rw [HN.out, sinceVal, if_neg H.out]) (by rw [HN.out, sinceErr, if_neg H.out]), hE1.trans hE2⟩

/-- Are these plates that print and are there at a minute, strictly ascending? -/
def platesUpto (th : List Thing) (plates : List Int) (minute : Int) : Nat → Prop
  | 0 => True
  | n + 1 => platesUpto th plates minute n ∧ ∃ j : Nat, plates[n]? = some (j : Int) ∧ (∃ t, th[j]? = some t ∧ t.prints = 1 ∧ t.at_ ≤ minute) ∧ (n = 0 ∨ plates.getD (n - 1) 0 < j)
def mixedList (th : List Thing) (mk : List Mark) (plates : List Int) (minute : Int) : Nat → List Int
  | 0 => []
  | n + 1 => mixedList th mk plates minute n ++ (if mixedB (sinceArr th mk n th.length) plates minute = true then [(n : Int)] else [])

theorem mixedList_length (th : List Thing) (mk : List Mark) (plates : List Int) (minute : Int) : ∀ n, (mixedList th mk plates minute n).length ≤ n
  | 0 => Nat.le_refl _
  | n + 1 => by
    have := mixedList_length th mk plates minute n
    rw [mixedList, List.length_append]
    split <;> simp <;> omega
theorem platesUpto_lt {th : List Thing} {plates : List Int} {minute : Int} : ∀ {n k : Nat}, platesUpto th plates minute n → k < n → ∃ j : Nat, plates[k]? = some (j : Int) ∧ (∃ t, th[j]? = some t ∧ t.prints = 1 ∧ t.at_ ≤ minute) ∧ (k = 0 ∨ plates.getD (k - 1) 0 < j)
  | 0, _, _, h => by omega
  | n + 1, k, h, hk => by
    by_cases e : k = n
    · subst e; exact h.2
    · exact platesUpto_lt h.1 (by omega)

set_option maxRecDepth 100000 in
set_option maxHeartbeats 4000000 in
theorem Mixed7 (A B C : Option Addr) (th : List Thing) (mk : List Mark) (plates : List Int) (cm ck cp : Nat) (minute : Int) (w : World) (hm2 : (mk.length : Int) ≤ 9223372036854775807) (hm3 : (plates.length : Int) ≤ 9223372036854775807)
    (hA : RdT w A th) (hB : RdM w B mk) (hC : RdI w C plates) (hc : chkHouse th mk = true) (hmi : inB minute 0 99 = true) (hp : platesUpto th plates minute plates.length) :
    Calls Try.prog 14 #[.agg #[.slice A th.length cm, .slice B mk.length ck], .slice C plates.length cp, .int .i64 minute] w
      fun e w' => ∃ D cd, e = .returned (.tuple #[.slice D (mixedList th mk plates minute 3).length cd, .int .i64 0]) ∧ RdI w' D (mixedList th mk plates minute 3) ∧ Ext w w' := by
  have h8 : th.length ≤ 8 := by simp [chkHouse] at hc; omega
  have hm : (th.length : Int) ≤ 9223372036854775807 := by omega
  have q3 : ∀ W, Calls Try.prog 37 #[.int .i64 minute] W fun e w' => e = .returned (.bool true) ∧ W = w' := fun W => by
    have h := isMinute7 minute W
    rwa [hmi] at h
  have q1 : ∀ W (i : Nat), i < th.length → Calls Try.prog 31 #[.agg #[.slice A th.length cm, .slice B mk.length ck], .int .i64 i] W fun e w' => e = .returned (.bool true) ∧ Ext W w' := fun W i hi => by
    have h := isThing7 A B th.length cm mk.length ck i W hm
    rwa [show inB (i : Int) 0 ((th.length : Int) - 1) = true from inB_iff.2 ⟨by omega, by omega⟩] at h
  have Q1 := Lib.hid q1
  have Q3 := Lib.hid q3
  have HA := Lib.hid hA
  have HB := Lib.hid hB
  have HC := Lib.hid hC
  have HCH := Lib.hid hc
  have HP := Lib.hid hp
  clear q1 q3 hA hB hC hc hmi hp
  go_enter Try.func14, Try.ntmps14
  go_upto_region 1 with fail
  obtain ⟨w1, p0, e1, e2, hE0, pblk⟩ := new_block w #[.slice A th.length cm, .slice B mk.length ck] 25
  rw [e1, e2]
  clear e1 e2
  have hh0 : w1.cell? ⟨p0, 0, none⟩ = some (.slice A th.length cm) := blk_at pblk 0 rfl
  have hh1 : w1.cell? ⟨p0, 1, none⟩ = some (.slice B mk.length ck) := blk_at pblk 1 rfl
  clear pblk
  go_wp2_with fail
  refine (Q3.out _).mono ?_
  rintro e w' ⟨rfl, rfl⟩
  go_wp2_with fail
  go_loopg [8, 18] plates.length (fun g b i wr => ∃ k : Nat, k + g = plates.length ∧ i = .int .i64 k ∧ b = .bool true ∧ Ext w1 wr)
  case atStart => exact ⟨0, by omega, rfl, rfl, Ext.refl _⟩
  case round =>
    obtain ⟨k, hk, rfl, rfl, hE⟩ := hrel
    by_cases hlt : k < plates.length
    · obtain ⟨j, hx, ⟨t, ht, ht1, ht2⟩, hprev⟩ := platesUpto_lt HP.out hlt
      have hj : j < th.length := (List.getElem?_eq_some_iff.1 ht).1
      obtain ⟨ab, ao, hAe⟩ := HA.out.base (by omega)
      subst hAe
      obtain ⟨cb, co, hCe⟩ := HC.out.base (by omega)
      subst hCe
      have f0 := (HC.out.ext (hE0.trans hE)).at hx
      obtain ⟨_, t1, _, t3⟩ := (HA.out.ext (hE0.trans hE)).at ht
      rw [ht1] at t3
      have g0 := hE.cell hh0
      have g1 := hE.cell hh1
      have hj8 : (j : Int) < th.length := by omega
      have ht2' : t.at_ ≤ minute := ht2
      generalize t.at_ = ta at t1 ht2 ht2'
      have HK := Lib.hid hk
      have HX := Lib.hid hx
      have HT := Lib.hid ht
      clear hk hx ht ht1
      by_cases k0 : k = 0
      · subst k0
        rw [Nat.add_zero] at f0
        go_wp2_with (go_at_call 31; refine (Q1.out _ j hj).mono ?_; rintro e w' ⟨rfl, hE'⟩; have g0' := hE'.cell g0; have t1' := hE'.cell t1; have t3' := hE'.cell t3)
        go_roundg (gk - 1)
        case measure => have := HK.out; omega
        case rel => exact ⟨1, by have := HK.out; omega, by go_num, rfl, hE.trans hE'⟩
      · obtain ⟨m, rfl⟩ : ∃ m, k = m + 1 := ⟨k - 1, by omega⟩
        have hm1 : m < plates.length := by omega
        have fm := (HC.out.ext (hE0.trans hE)).at (List.getElem?_eq_getElem hm1)
        have hprev' : plates[m] < (j : Int) := by
          rcases hprev with h | h
          · omega
          · simpa [List.getD_eq_getElem?_getD, List.getElem?_eq_getElem hm1] using h
        generalize plates[m] = pm at fm hprev'
        clear hprev k0
        go_wp2_with (go_at_call 31; refine (Q1.out _ j hj).mono ?_; rintro e w' ⟨rfl, hE'⟩; have g0' := hE'.cell g0; have t1' := hE'.cell t1; have t3' := hE'.cell t3; have fm' := hE'.cell fm)
        go_roundg (gk - 1)
        case measure => have := HK.out; omega
        case rel => exact ⟨m + 1 + 1, by have := HK.out; omega, by go_num, rfl, hE.trans hE'⟩
    · have g0 := hE.cell hh0
      have g1 := hE.cell hh1
      clear hh0 hh1
      go_wp2_with fail
      refine (open7 A B th mk cm ck _ hm hm2 (HA.out.ext (hE0.trans hE)) (HB.out.ext (hE0.trans hE)) HCH.out).mono ?_
      rintro e w2 ⟨rfl, hE2⟩
      have g0' := hE2.cell g0
      have g1' := hE2.cell g1
      have hE3 : Ext w w2 := hE0.trans (hE.trans hE2)
      clear g0 g1 hk hlt hE hE2 hE0
      go_wp2_with fail
      obtain ⟨i0, hi, hz0, hz1, hz2⟩ := info_parts info_int
      go_loopg [12, 68] 3 (fun g v i wr => ∃ k : Nat, k + g = 3 ∧ i = .int .i64 k ∧ OwnI wr w2.heap.size v (mixedList th mk plates minute k) ∧ Ext w2 wr)
      case atStart => exact ⟨0, by omega, rfl, own_none _ _ _ _, Ext.refl _⟩
      case round =>
        obtain ⟨k, hk, rfl, hown, hE⟩ := hrel
        have g0 := hE.cell g0'
        have g1 := hE.cell g1'
        by_cases hlt : k < 3
        · have hlt' : (k : Int) < 3 := by omega
          have HK := Lib.hid hk
          have HO := Lib.hid hown
          clear hk hown
          go_wp2_with fail
          refine (follow7 A B th mk cm ck k _ hm2 (HA.out.ext (hE3.trans hE)) (HB.out.ext (hE3.trans hE)) HCH.out).mono ?_
          rintro e w4 ⟨hb, rfl, hE4, hH⟩
          have HH := Lib.hid hH
          clear hH
          go_wp2_with fail
          refine (mixed7 hb C plates cp th mk k minute _ w4 hm3 HH.out (HC.out.ext (hE3.trans (hE.trans hE4))) (fun n hn => by
            obtain ⟨q, hq, rfl⟩ := List.getElem_of_mem hn
            obtain ⟨j, hj, ⟨t, ht, _⟩, _⟩ := platesUpto_lt HP.out hq
            rw [List.getElem?_eq_getElem hq] at hj
            have := (List.getElem?_eq_some_iff.1 ht).1
            have hj2 := Option.some.inj hj
            rw [hj2]
            omega)).mono ?_
          have hnext : mixedList th mk plates minute (k + 1) = mixedList th mk plates minute k ++ (if mixedB (sinceArr th mk k th.length) plates minute = true then [(k : Int)] else []) := rfl
          cases q : mixedB (sinceArr th mk k th.length) plates minute
          · have HN : Hid (mixedList th mk plates minute (k + 1) = mixedList th mk plates minute k) := by rw [hnext, q]; simp [Hid]
            clear hnext q
            rintro e w5 ⟨rfl, hE5⟩
            go_wp2_with fail
            go_roundg (gk - 1)
            case measure => have := HK.out; omega
            case rel => exact ⟨k + 1, by have := HK.out; omega, by go_num, by rw [HN.out]; exact own_later HO.out (hE4.trans hE5), hE.trans (hE4.trans hE5)⟩
          · have HN : Hid (mixedList th mk plates minute (k + 1) = mixedList th mk plates minute k ++ [(k : Int)]) := by rw [hnext, q]; simp [Hid]
            clear hnext q
            rintro e w5 ⟨rfl, hE5⟩
            have hO5 : w5.ownsRow w2.heap.size 3 1 _ (mixedList th mk plates minute k).length ((mixedList th mk plates minute k).map (Value.int .i64)) := own_later HO.out (hE4.trans hE5)
            have hE6 : Ext w2 w5 := hE.trans (hE4.trans hE5)
            have hsz := hE6.size
            have hlen := mixedList_length th mk plates minute k
            have b1 : (mixedList th mk plates minute k).length + 1 ≤ maxLen := by unfold maxLen; omega
            have b2 : ((mixedList th mk plates minute k).length + 1) * 8 ≤ 140737488355328 := by omega
            go_wp2_with (at_builtin; refine wpList_append_own _ rfl _ _ 26 rfl w2.heap.size 3 i0 (.int .i64 0) 1 8 Try.underlying26 hi hz0 hz1 hz2 rfl (by decide) _ _ _ rfl (hO5.alloc _) ⟨w5.heap.size, 0, none⟩ 1 1 [.int .i64 k] rfl rfl (cell_one_new _ _ _) (by simp [Value.oneCell']) b1 b2 (by rw [World.size_alloc]; omega) ?_; intro v2 w6 hown2 hgrow _)
            go_roundg (gk - 1)
            case measure => have := HK.out; omega
            case rel => exact ⟨k + 1, by have := HK.out; omega, by go_num, by rw [HN.out]; exact OwnI.snoc hown2, own_ext hE6 hO5 _ hgrow⟩
        · obtain rfl : k = 3 := by omega
          obtain ⟨D, cd, rfl, hD⟩ := hown.reads
          clear hk hlt
          have HD := Lib.hid hD
          clear hD
          go_wp2_with fail
          go_ret2
          exact ⟨D, cd, rfl, HD.out, hE3.trans hE⟩
end Go.Proofs.Ytloenmikkkklhaa

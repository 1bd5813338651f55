/-
  Priced; the example of the chapter 7.
-/
import Derived.Test.YtloenmikkkklhaaR8
namespace Go.Proofs.Ytloenmikkkklhaa
open Go.RowKit

def priced (th : List Thing) (i : Nat) (cost : Int) : List Thing := th.set i { (th[i]?.getD default) with cost := cost }
theorem priced_length (th : List Thing) (i : Nat) (cost : Int) : (priced th i cost).length = th.length := by simp [priced]

theorem RdL.turnedG {α : Type} {enc : α → List Value} {sz g b o : Nat} {w w' : World} {xs : List α} (ht : Turned g w w') (hne : b ≠ g) (h : RdL (Plain enc) sz w (some ⟨b, o, none⟩) xs) : RdL (Plain enc) sz w' (some ⟨b, o, none⟩) xs := by
  rcases h with h | ⟨b', o', hA, h⟩
  · exact .inl h
  · cases hA
    refine .inr ⟨b, o, rfl, fun i x hx => ?_⟩
    obtain ⟨cs, q1, q2, q3⟩ := h i x hx
    exact ⟨cs, q1, q2, fun j v hv => ht.cell_ hne (q3 j v hv)⟩
/-- Four cells of a block of things are written. -/
theorem priced_cells {w : World} {g o i : Nat} {ncs : Array Value} {th : List Thing} {t : Thing} (hg : w.heap[g]? = some (.cells ncs 37 (0, 0))) (hR : RdT w (some ⟨g, o, none⟩) th) (hi : th[i]? = some t) (cost : Int) {w' : World}
    (hg' : w'.heap[g]? = some (.cells ((((ncs.setIfInBounds (o + i * 4) (.int .i64 t.of)).setIfInBounds (o + i * 4 + 1) (.int .i64 t.at_)).setIfInBounds (o + i * 4 + 2) (.int .i64 cost)).setIfInBounds (o + i * 4 + 3) (.int .i64 t.prints)) 37 (0, 0))) :
    RdT w' (some ⟨g, o, none⟩) (priced th i cost) := by
  have hil : i < th.length := (List.getElem?_eq_some_iff.1 hi).1
  have key : ∀ (k : Nat) (x : Thing), th[k]? = some x → ∀ (j : Nat) (v : Value), (encT x)[j]? = some v → ncs[o + k * 4 + j]? = some v := fun k x hx j v hv => by
    obtain ⟨cs, rfl, _, hc⟩ := RdL.at hR hx
    have := hc j v hv
    rwa [cell_of_row w g _ ncs _ _ hg] at this
  have hsz : o + i * 4 + 3 < ncs.size := by
    have := key i t hi 3 _ rfl
    exact (Array.getElem?_eq_some_iff.1 this).1
  refine .inr ⟨g, o, rfl, fun k x hx => ⟨encT x, rfl, rfl, fun j v hv => ?_⟩⟩
  rw [cell_of_row w' g _ _ _ _ hg']
  have hj : j < 4 := (List.getElem?_eq_some_iff.1 hv).1
  by_cases hk : k = i
  · subst hk
    have hx2 : x = { t with cost := cost } := by
      unfold priced at hx
      rw [hi, List.getElem?_set_self hil] at hx
      exact (Option.some.inj hx).symm
    subst hx2
    rcases j with _ | _ | _ | _ | j
    · cases hv
      rw [Array.getElem?_setIfInBounds_ne (by omega), Array.getElem?_setIfInBounds_ne (by omega), Array.getElem?_setIfInBounds_ne (by omega), Nat.add_zero, Array.getElem?_setIfInBounds_self_of_lt (by omega)]
    · cases hv
      rw [Array.getElem?_setIfInBounds_ne (by omega), Array.getElem?_setIfInBounds_ne (by omega), Array.getElem?_setIfInBounds_self_of_lt (by simp; omega)]
    · cases hv
      rw [Array.getElem?_setIfInBounds_ne (by omega), Array.getElem?_setIfInBounds_self_of_lt (by simp; omega)]
    · cases hv
      rw [Array.getElem?_setIfInBounds_self_of_lt (by simp; omega)]
    · omega
  · have hx2 : th[k]? = some x := by
      unfold priced at hx
      rwa [List.getElem?_set_ne (Ne.symm hk)] at hx
    have hki : k * 4 + 4 ≤ i * 4 ∨ i * 4 + 4 ≤ k * 4 := by omega
    rw [Array.getElem?_setIfInBounds_ne (by omega), Array.getElem?_setIfInBounds_ne (by omega), Array.getElem?_setIfInBounds_ne (by omega), Array.getElem?_setIfInBounds_ne (by omega)]
    exact key k x hx2 j v hv

set_option maxRecDepth 100000 in
set_option maxHeartbeats 8000000 in
theorem pricedR (A B : Option Addr) (th : List Thing) (mk : List Mark) (cm ck i : Nat) (cost : Int) (w : World) (hi : i < th.length) (h18 : th.length ≤ 8) (h2 : 0 < mk.length) (h26 : mk.length ≤ 6) (hA : RdT w A th) (hB : RdM w B mk) :
    Calls Try.prog 55 #[.agg #[.slice A th.length cm, .slice B mk.length ck], .int .i64 i, .int .i64 cost] w
      fun e w' => ∃ A' cA B' cB, e = .returned (.agg #[.slice A' th.length cA, .slice B' mk.length cB]) ∧ RdT w' A' (priced th i cost) ∧ RdM w' B' mk ∧ Ext w w' := by
  have HA := Lib.hid hA
  have HB := Lib.hid hB
  have hiI : (i : Int) < th.length := by omega
  have hx : th[i]? = some th[i] := List.getElem?_eq_getElem hi
  generalize th[i] = t at hx
  have HX := Lib.hid hx
  clear hA hB hx
  go_enter Try.func55, Try.ntmps55
  go_upto_region 1 with fail
  obtain ⟨w1, p0, e1, e2, hE0, pblk⟩ := new_block w #[.slice A th.length cm, .slice B mk.length ck] 25
  have e3 : w.heap.size + 1 = w1.heap.size := by rw [← e1]; simp
  rw [e3, e1, e2]
  clear e1 e2 e3
  obtain ⟨w2, rb, e1, e2, hE1, rblk⟩ := new_block w1 #[.slice none 0 0, .slice none 0 0] 25
  have hrb : w.heap.size ≤ rb := by have := hE0.size; omega
  rw [e1, e2]
  clear e1 e2
  have hEw2 := hE0.trans hE1
  have r0 := hE1.cell (blk_at pblk 0 rfl)
  have r1 := hE1.cell (blk_at pblk 1 rfl)
  have HRB := Lib.hid rblk
  have hrb2 : rb < w2.heap.size := blk_lt rblk
  clear pblk rblk
  go_upto_region 2 with (go_at_call 73; refine (copy7R A B th mk cm ck _ (by omega) h18 h2 h26 (HA.out.ext hEw2) (HB.out.ext hEw2)).mono ?_; rintro e w5 ⟨A', cA, B', cB, rfl, hTA, hMB, hFA, hTB, hE5⟩)
  obtain ⟨tA, oA, ncs, rfl, htA, hheap⟩ := hFA
  obtain ⟨w6, ob, e1, e2, hE6, oblk⟩ := new_block w5 #[.slice (some ⟨tA, oA, none⟩) th.length cA, .slice B' mk.length cB] 25
  have hob5 : w5.heap.size ≤ ob := by omega
  rw [e1, e2]
  clear e1 e2 r0 r1
  obtain ⟨t0, t1, t2, t3⟩ := (RdT.ext hTA hE6).at HX.out
  have o0 := blk_at oblk 0 rfl
  have o1 := blk_at oblk 1 rfl
  go_upto_region 3 with fail
  obtain ⟨w7, tb, e1, e2, hE7, tblk⟩ := new_block w6 #[.int .i64 t.of, .int .i64 t.at_, .int .i64 t.cost, .int .i64 t.prints] 37
  have htb6 : w6.heap.size ≤ tb := by omega
  rw [e1, e2]
  clear e1 e2 t0 t1 t2 t3 o0 o1
  have HTB7 := Lib.hid tblk
  have s2 := blk_at tblk 2 rfl
  have s3 := blk_free tblk 2
  go_upto_region 4 with fail
  obtain ⟨w8, e1, hT8⟩ := set_turned w7 tb 2 (.int .i64 cost)
  have hb8 := blk_put tblk 2 (.int .i64 cost)
  rw [e1] at hb8 ⊢
  clear e1 s2 s3 tblk
  have htAl : tA < w5.heap.size := blk_lt hheap
  have hobl : ob < w6.heap.size := blk_lt oblk
  have hh8 := hT8.heap_ (show tA ≠ tb by have := hE6.size; omega) ((hE6.trans hE7).heap hheap)
  have ho8 := hT8.heap_ (show ob ≠ tb by omega) (hE7.heap oblk)
  have hR8 : RdT w8 (some ⟨tA, oA, none⟩) th := RdL.turnedG hT8 (show tA ≠ tb by have := hE6.size; omega) (RdT.ext hTA (hE6.trans hE7))
  obtain ⟨t0, t1, t2, t3⟩ := hR8.at HX.out
  have o0 := blk_at ho8 0 rfl
  have o1 := blk_at ho8 1 rfl
  have u0 := blk_at hb8 0 rfl
  have u1 := blk_at hb8 1 rfl
  have u2 := blk_at hb8 2 rfl
  have u3 := blk_at hb8 3 rfl
  have fA := fun j => blk_free hh8 j
  have f0 := fA (oA + i * 4)
  have f1 := fA (oA + i * 4 + 1)
  have f2 := fA (oA + i * 4 + 2)
  have f3 := fA (oA + i * 4 + 3)
  have HR8 := Lib.hid hR8
  have HH8 := Lib.hid hh8
  clear fA hR8 hh8
  go_upto_region 5 with fail
  have hh9 := blk_put (blk_put (blk_put (blk_put HH8.out (oA + i * 4) (.int .i64 t.of)) (oA + i * 4 + 1) (.int .i64 t.at_)) (oA + i * 4 + 2) (.int .i64 cost)) (oA + i * 4 + 3) (.int .i64 t.prints)
  have hT9 : Turned tA w8 ((((w8.setCell ⟨tA, oA + i * 4, none⟩ (.int .i64 t.of)).setCell ⟨tA, oA + i * 4 + 1, none⟩ (.int .i64 t.at_)).setCell ⟨tA, oA + i * 4 + 2, none⟩ (.int .i64 cost)).setCell ⟨tA, oA + i * 4 + 3, none⟩ (.int .i64 t.prints)) := ((((Turned.refl tA w8).set_ _ _).set_ _ _).set_ _ _).set_ _ _
  generalize (((w8.setCell ⟨tA, oA + i * 4, none⟩ (.int .i64 t.of)).setCell ⟨tA, oA + i * 4 + 1, none⟩ (.int .i64 t.at_)).setCell ⟨tA, oA + i * 4 + 2, none⟩ (.int .i64 cost)).setCell ⟨tA, oA + i * 4 + 3, none⟩ (.int .i64 t.prints) = w9 at hh9 hT9 ⊢
  have hR9 := priced_cells HH8.out HR8.out HX.out cost hh9
  have ho9 := hT9.heap_ (show ob ≠ tA by omega) ho8
  have hE25 := hE5.size
  have hrb9 := hT9.heap_ (show rb ≠ tA by omega) (hT8.heap_ (show rb ≠ tb by have := hE6.size; omega) ((hE5.trans (hE6.trans hE7)).heap HRB.out))
  have hMB7 := RdM.ext hMB (hE6.trans hE7)
  have hTB7 := hTB.ext (hE6.trans hE7)
  have htbh : w7.heap[tb]? = some (.cells #[.int .i64 t.of, .int .i64 t.at_, .int .i64 t.cost, .int .i64 t.prints] 37 (0, 0)) := HTB7.out
  have hMB8 := RdL.turnedT (enc := encM) (by decide) htbh hT8 hTB7 hMB7
  have hTB8 := hTB7.turned (by decide) htbh hT8
  have hMB9 := RdL.turnedT (enc := encM) (by decide) HH8.out hT9 hTB8 hMB8
  have hTB9 := hTB8.turned (by decide) HH8.out hT9
  have hE9 : Ext w w9 := hT9.below (hT8.below (hEw2.trans (hE5.trans (hE6.trans hE7))) (by have := hEw2.size; have := hE6.size; omega)) (by have := hEw2.size; omega)
  have HR9 := Lib.hid hR9
  have HRB9 := Lib.hid hrb9
  have HMB9 := Lib.hid hMB9
  have HTB9 := Lib.hid hTB9
  have p0' := blk_at ho9 0 rfl
  have p1' := blk_at ho9 1 rfl
  have q0 := blk_at hrb9 0 rfl
  have q1 := blk_at hrb9 1 rfl
  have q2 := blk_free hrb9 0
  have q3 := blk_free hrb9 1
  have hrA : tA ≠ rb := by omega
  clear t0 t1 t2 t3 o0 o1 u0 u1 u2 u3 f0 f1 f2 f3 hh9 hT9 hR9 hMB7 hMB8 hMB9 hTB7 hTB8 hTB9 hMB hTB hrb9 ho9 ho8 htbh hb8
  go_wp2_with fail
  have hz := blk_put (blk_put HRB9.out 0 (.slice (some ⟨tA, oA, none⟩) th.length cA)) 1 (.slice B' mk.length cB)
  have hTz : Turned rb w9 ((w9.setCell ⟨rb, 0, none⟩ (.slice (some ⟨tA, oA, none⟩) th.length cA)).setCell ⟨rb, 1, none⟩ (.slice B' mk.length cB)) := ((Turned.refl rb w9).set_ _ _).set_ _ _
  generalize (w9.setCell ⟨rb, 0, none⟩ (.slice (some ⟨tA, oA, none⟩) th.length cA)).setCell ⟨rb, 1, none⟩ (.slice B' mk.length cB) = wz at hz hTz ⊢
  have z0 := blk_at hz 0 rfl
  have z1 := blk_at hz 1 rfl
  exact bodyPost_ret (v := .agg #[.slice (some ⟨tA, oA, none⟩) th.length cA, .slice B' mk.length cB]) (by simp [results, Try.results55, go_sem, z0, z1]) rfl
    ⟨_, cA, B', cB, rfl, RdL.turnedG hTz hrA HR9.out, RdL.turnedT (enc := encM) (by decide) HRB9.out hTz HTB9.out HMB9.out, hTz.below hE9 hrb⟩
end Go.Proofs.Ytloenmikkkklhaa

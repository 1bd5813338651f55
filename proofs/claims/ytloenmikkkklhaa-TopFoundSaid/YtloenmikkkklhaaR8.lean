/-
  The reference's copy of a house.
-/
import Derived.Test.YtloenmikkkklhaaR7
import Derived.Test.YtloenmikkkklhaaC9
namespace Go.Proofs.Ytloenmikkkklhaa
open Go.RowKit

theorem flat_at {α : Type} {enc : α → List Value} {sz : Nat} (hsz : ∀ x, (enc x).length = sz) : ∀ (xs : List α) (j : Nat) (u : Value), (xs.flatMap enc)[j]? = some u → ∃ i x r, xs[i]? = some x ∧ j = i * sz + r ∧ (enc x)[r]? = some u
  | [], j, u, h => by simp at h
  | x :: r, j, u, h => by
    rw [List.flatMap_cons] at h
    by_cases hj : j < sz
    · rw [List.getElem?_append_left (by rw [hsz]; exact hj)] at h
      exact ⟨0, x, j, rfl, by omega, h⟩
    · rw [List.getElem?_append_right (by rw [hsz]; omega), hsz] at h
      obtain ⟨i, y, q, h1, h2, h3⟩ := flat_at hsz r _ u h
      exact ⟨i + 1, y, q, h1, by rw [Nat.add_mul]; omega, h3⟩
theorem rd_cells {α : Type} {enc : α → List Value} {sz b o : Nat} {w : World} {xs : List α} (hsz : ∀ x, (enc x).length = sz) (h : RdL (Plain enc) sz w (some ⟨b, o, none⟩) xs) : ∀ j u, (xs.flatMap enc)[j]? = some u → w.cell? ((⟨b, o, none⟩ : Addr).add j) = some u := fun j u hu => by
  obtain ⟨i, x, r, h1, rfl, h3⟩ := flat_at hsz xs j u hu
  obtain ⟨cs, rfl, _, hc⟩ := RdL.at h h1
  rw [add_plain, ← Nat.add_assoc]
  exact hc r u h3
theorem flat_one {α : Type} {enc : α → List Value} (h : ∀ x u, u ∈ enc x → u.oneCell' = true) (xs : List α) : ∀ u ∈ xs.flatMap enc, u.oneCell' = true := fun u hu => by
  obtain ⟨x, _, hx⟩ := List.mem_flatMap.1 hu
  exact h x u hx
theorem info_thing_at : ∃ i z, Try.prog.info? 37 = some i ∧ i.zero = some z ∧ z.cells.size = 4 ∧ i.size = 4 ∧ i.bytes = 32 := by
  have h : (Try.prog.info? 37).map (fun i => (i.zero, i.size, i.bytes)) = some (some (.agg #[.int .i64 0, .int .i64 0, .int .i64 0, .int .i64 0]), 4, 32) := by kernel_rfl
  cases hi : Try.prog.info? 37 with
  | none => rw [hi] at h; cases h
  | some i =>
    rw [hi] at h
    simp only [Option.map_some, Option.some.injEq, Prod.mk.injEq] at h
    exact ⟨i, _, rfl, h.1, rfl, h.2.1, h.2.2⟩
theorem info_mark_at : ∃ i z, Try.prog.info? 68 = some i ∧ i.zero = some z ∧ z.cells.size = 3 ∧ i.size = 3 ∧ i.bytes = 24 := by
  have h : (Try.prog.info? 68).map (fun i => (i.zero, i.size, i.bytes)) = some (some (.agg #[.int .i64 0, .int .i64 0, .int .i64 0]), 3, 24) := by kernel_rfl
  cases hi : Try.prog.info? 68 with
  | none => rw [hi] at h; cases h
  | some i =>
    rw [hi] at h
    simp only [Option.map_some, Option.some.injEq, Prod.mk.injEq] at h
    exact ⟨i, _, rfl, h.1, rfl, h.2.1, h.2.2⟩

set_option maxRecDepth 100000 in
set_option maxHeartbeats 20000000 in
theorem copy7R (A B : Option Addr) (th : List Thing) (mk : List Mark) (cm ck : Nat) (w : World) (h1 : 0 < th.length) (h18 : th.length ≤ 8) (h2 : 0 < mk.length) (h26 : mk.length ≤ 6) (hA : RdT w A th) (hB : RdM w B mk) :
    Calls Try.prog 73 #[.agg #[.slice A th.length cm, .slice B mk.length ck]] w
      fun e w' => ∃ A' cA B' cB, e = .returned (.agg #[.slice A' th.length cA, .slice B' mk.length cB]) ∧ RdT w' A' th ∧ RdM w' B' mk ∧ FreshAt 37 w.heap.size w' A' ∧ TyAt 68 w' B' ∧ Ext w w' := by
  obtain ⟨it, zt, hit, hzt, hzst, hst, hbt⟩ := info_thing_at
  obtain ⟨ik, zk, hik, hzk, hzsk, hsk, hbk⟩ := info_mark_at
  obtain ⟨ab, ao, hAe⟩ := hA.base h1
  subst hAe
  obtain ⟨bb, bo, hBe⟩ := hB.base h2
  subst hBe
  have HA := Lib.hid hA
  have HB := Lib.hid hB
  clear hA hB
  go_enter Try.func73, Try.ntmps73
  go_upto_region 1 with fail
  obtain ⟨w1, p0, e1, e2, hE0, pblk⟩ := new_block w #[.slice (some ⟨ab, ao, none⟩) th.length cm, .slice (some ⟨bb, bo, none⟩) mk.length ck] 25
  have e3 : w.heap.size + 1 = w1.heap.size := by rw [← e1]; simp
  rw [e3, e1, e2]
  clear e1 e2 e3
  obtain ⟨w2, rb, e1, e2, hE1, rblk⟩ := new_block w1 #[.slice none 0 0, .slice none 0 0] 25
  have hrb : w.heap.size ≤ rb := by have := hE0.size; omega
  rw [e1, e2]
  clear e1 e2
  have hEw2 := hE0.trans hE1
  have r0 := hE1.cell (blk_at pblk 0 rfl)
  have r1 := hE1.cell (blk_at pblk 1 rfl)
  have HRB := Lib.hid rblk
  clear pblk rblk
  have HSX : Hid (∀ a b : World, (Ext w2 a ∧ a.cell? ⟨p0, 0, none⟩ = some (.slice (some ⟨ab, ao, none⟩) th.length cm) ∧ a.cell? ⟨p0, 1, none⟩ = some (.slice (some ⟨bb, bo, none⟩) mk.length ck)) → Ext a b → (Ext w2 b ∧ b.cell? ⟨p0, 0, none⟩ = some (.slice (some ⟨ab, ao, none⟩) th.length cm) ∧ b.cell? ⟨p0, 1, none⟩ = some (.slice (some ⟨bb, bo, none⟩) mk.length ck))) := Lib.hid fun a b h he => ⟨h.1.trans he, he.cell h.2.1, he.cell h.2.2⟩
  refine wp_region_noPanic ?_
  refine wp_region_last 9 (S := fun w' => (Ext w2 w' ∧ w'.cell? ⟨p0, 0, none⟩ = some (.slice (some ⟨ab, ao, none⟩) th.length cm) ∧ w'.cell? ⟨p0, 1, none⟩ = some (.slice (some ⟨bb, bo, none⟩) mk.length ck))) (by kernel_rfl) ⟨Ext.drew _, r0, r1⟩ (fun hHeld => ?_)
  generalize w2.drew = w5 at hHeld ⊢
  have HSw5 := Lib.hid hHeld
  clear r0 r1
  refine LastH.take (i := 1) (oi := _) (v := ?_) (by rfl) (by kernel_rfl) (by kernel_rfl) (by kernel_rfl) (by kernel_rfl) (fun _ _ _ h => h) (Or.inl ⟨by rfl, ?_⟩) (by assumption) ?_
  rotate_left
  · (intro w hSw; (try dsimp only at hSw); (try obtain ⟨_, _, _⟩ := hSw); go_simp; try with_reducible rfl)
  try simp only [Act.put, List.getElem_toArray, List.getElem_cons_succ, List.getElem_cons_zero, List.setIfInBounds_toArray, List.set_cons_zero, List.set_cons_succ]
  refine LastH.take (i := 2) (oi := _) (v := ?_) (by rfl) (by kernel_rfl) (by kernel_rfl) (by kernel_rfl) (by kernel_rfl) (fun _ _ _ h => h) (Or.inl ⟨by rfl, ?_⟩) (by assumption) ?_
  rotate_left
  · (intro w hSw; (try dsimp only at hSw); (try obtain ⟨_, _, _⟩ := hSw); go_simp; try with_reducible rfl)
  try simp only [Act.put, List.getElem_toArray, List.getElem_cons_succ, List.getElem_cons_zero, List.setIfInBounds_toArray, List.set_cons_zero, List.set_cons_succ]
  refine LastH.take (i := 5) (oi := _) (v := ?_) (by rfl) (by kernel_rfl) (by kernel_rfl) (by kernel_rfl) (by kernel_rfl) (fun _ _ _ h => h) (Or.inl ⟨by rfl, ?_⟩) (by assumption) ?_
  rotate_left
  · (intro w hSw; (try dsimp only at hSw); (try obtain ⟨_, _, _⟩ := hSw); go_simp; try with_reducible rfl)
  try simp only [Act.put, List.getElem_toArray, List.getElem_cons_succ, List.getElem_cons_zero, List.setIfInBounds_toArray, List.set_cons_zero, List.set_cons_succ]
  refine LastH.take (i := 6) (oi := _) (v := ?_) (by rfl) (by kernel_rfl) (by kernel_rfl) (by kernel_rfl) (by kernel_rfl) (fun _ _ _ h => h) (Or.inl ⟨by rfl, ?_⟩) (by assumption) ?_
  rotate_left
  · (intro w hSw; (try dsimp only at hSw); (try obtain ⟨_, _, _⟩ := hSw); go_simp; try with_reducible rfl)
  try simp only [Act.put, List.getElem_toArray, List.getElem_cons_succ, List.getElem_cons_zero, List.setIfInBounds_toArray, List.set_cons_zero, List.set_cons_succ]
  refine LastH.ready (rs := [0, 4]) (by kernel_rfl) (by simp) ?_
  refine AllLast.cons (o := _) rfl (by decide) (fun K hK => ?_) (AllLast.cons (o := _) rfl (by decide) (fun K hK => ?_) AllLast.nil)
  · rw [if_pos (by rfl)]
    go_simp
    have he1 : Ext w5 (w5.alloc (.cells #[] 37)) := Ext.alloc _ _
    generalize hx1 : w5.alloc (.cells #[] 37) = x1 at he1 ⊢
    clear hx1
    have HSx1 := Lib.hid (HSX.out _ _ HSw5.out he1)
    refine hK.out _ _ HSx1.out (fun hHeld => ?_)
    clear hK K
    try simp only [Act.put, List.getElem_toArray, List.getElem_cons_succ, List.getElem_cons_zero, List.setIfInBounds_toArray, List.set_cons_zero, List.set_cons_succ]
    refine LastH.ready (rs := [3, 4]) (by kernel_rfl) (by simp) ?_
    refine AllLast.cons (o := _) rfl (by decide) (fun K hK => ?_) (AllLast.cons (o := _) rfl (by decide) (fun K hK => ?_) AllLast.nil)
    · refine step_append_grows rfl (.tmp 3) (.tmp 5) 22 rfl 37 it zt 4 32 Try.underlying22 hit hzt hst hbt hzst (by decide) (some ⟨w5.heap.size, 0, none⟩) 0 0 [] rfl (fun h => nomatch h) rfl (fun _ _ _ _ h => nomatch h) ⟨ab, ao, none⟩ th.length cm (th.flatMap encT) rfl (reps_plain (enc := encT) (sz := 4) (fun _ => rfl) x1 th).1 (rd_cells (enc := encT) (sz := 4) (fun _ => rfl) (HA.out.ext (hEw2.trans HSx1.out.1))) (flat_one (fun x u hu => by simp [encT] at hu; rcases hu with rfl | rfl | rfl | rfl <;> rfl) _) (by omega) (by unfold maxLen; omega) (by omega) ?_
      intro v2 x2 hob2 hgb2
      obtain ⟨gT, cT, rfl, hcT, hRT, hTT, hFT⟩ := own_fresh (enc := encT) hob2 (reps_plain (enc := encT) (sz := 4) (fun _ => rfl) x2 th) h1
      have hFT2 := hFT.lower (Nat.le_trans hEw2.size (Below.size HSx1.out.1))
      have he2 := grown_none hgb2
      have HSx2 := Lib.hid (HSX.out _ _ HSx1.out he2)
      clear hob2 hgb2 hFT
      refine hK.out _ _ HSx2.out (fun hHeld => ?_)
      clear hK K
      try simp only [Act.put, List.getElem_toArray, List.getElem_cons_succ, List.getElem_cons_zero, List.setIfInBounds_toArray, List.set_cons_zero, List.set_cons_succ]
      refine LastH.ready (rs := [4]) (by kernel_rfl) (by simp) ?_
      refine AllLast.cons (o := _) rfl (by decide) (fun K hK => ?_) AllLast.nil
      rw [if_pos (by rfl)]
      go_simp
      have he3 : Ext x2 (x2.alloc (.cells #[] 68)) := Ext.alloc _ _
      generalize hx3 : x2.alloc (.cells #[] 68) = x3 at he3 ⊢
      clear hx3
      have HSx3 := Lib.hid (HSX.out _ _ HSx2.out he3)
      refine hK.out _ _ HSx3.out (fun hHeld => ?_)
      clear hK K
      try simp only [Act.put, List.getElem_toArray, List.getElem_cons_succ, List.getElem_cons_zero, List.setIfInBounds_toArray, List.set_cons_zero, List.set_cons_succ]
      refine LastH.ready (rs := [7]) (by kernel_rfl) (by simp) ?_
      refine AllLast.cons (o := _) rfl (by decide) (fun K hK => ?_) AllLast.nil
      refine step_append_grows rfl (.tmp 7) (.tmp 9) 23 rfl 68 ik zk 3 24 Try.underlying23 hik hzk hsk hbk hzsk (by decide) (some ⟨x2.heap.size, 0, none⟩) 0 0 [] rfl (fun h => nomatch h) rfl (fun _ _ _ _ h => nomatch h) ⟨bb, bo, none⟩ mk.length ck (mk.flatMap encM) rfl (reps_plain (enc := encM) (sz := 3) (fun _ => rfl) x3 mk).1 (rd_cells (enc := encM) (sz := 3) (fun _ => rfl) (HB.out.ext (hEw2.trans HSx3.out.1))) (flat_one (fun x u hu => by simp [encM] at hu; rcases hu with rfl | rfl | rfl | rfl <;> rfl) _) (by omega) (by unfold maxLen; omega) (by omega) ?_
      intro v4 x4 hob4 hgb4
      obtain ⟨gM, cM, rfl, hcM, hRM, hTM, hFM⟩ := own_fresh (enc := encM) hob4 (reps_plain (enc := encM) (sz := 3) (fun _ => rfl) x4 mk) h2
      have hFM2 := hFM.lower (Nat.le_trans hEw2.size (Below.size HSx3.out.1))
      have he4 := grown_none hgb4
      have HSx4 := Lib.hid (HSX.out _ _ HSx3.out he4)
      clear hob4 hgb4 hFM
      refine hK.out _ _ HSx4.out (fun hHeld => ?_)
      clear hK K
      try simp only [Act.put, List.getElem_toArray, List.getElem_cons_succ, List.getElem_cons_zero, List.setIfInBounds_toArray, List.set_cons_zero, List.set_cons_succ]
      have hRTx := RdT.ext hRT ((he3).trans he4)
      have hFTx := hFT2.ext ((he3).trans he4)
      refine LastH.take (i := 8) (oi := _) (v := ?_) (by rfl) (by kernel_rfl) (by kernel_rfl) (by kernel_rfl) (by kernel_rfl) (fun _ _ _ h => h) (Or.inl ⟨by rfl, ?_⟩) (by assumption) ?_
      rotate_left
      · (intro w hSw; (try dsimp only at hSw); (try obtain ⟨_, _, _⟩ := hSw); go_simp; try with_reducible rfl)
      try simp only [Act.put, List.getElem_toArray, List.getElem_cons_succ, List.getElem_cons_zero, List.setIfInBounds_toArray, List.set_cons_zero, List.set_cons_succ]
      have hrbX := (HSx4.out.1).heap HRB.out
      have hEX := Lib.hid HSx4.out.1
      generalize x4 = xz at hRTx hFTx hRM hTM hrbX hEX hHeld ⊢
      refine LastH.ready (rs := [9]) (by kernel_rfl) (by simp) ?_
      refine AllLast.last (o := _) rfl (fun K hK => ?_)
      rw [if_pos (by rfl)]
      have c0 := blk_at hrbX 0 rfl
      have c1 := blk_at hrbX 1 rfl
      have f0 := blk_free hrbX 0
      have f1 := blk_free hrbX 1
      go_simp
      refine hK.out _ _ ?_
      clear hK K c0 c1 f0 f1
      try simp only [Act.put, List.getElem_toArray, List.getElem_cons_succ, List.getElem_cons_zero, List.setIfInBounds_toArray, List.set_cons_zero, List.set_cons_succ]
      refine LastH.done (by kernel_rfl) (NoPanic.normal ?_) _
      try simp only [Act.put, List.getElem_toArray, List.getElem_cons_succ, List.getElem_cons_zero, List.setIfInBounds_toArray, List.set_cons_zero, List.set_cons_succ]
      have hz := blk_put (blk_put hrbX 0 (.slice (some ⟨gT, 0, none⟩) th.length cT)) 1 (.slice (some ⟨gM, 0, none⟩) mk.length cM)
      have hTz : Turned rb xz ((xz.setCell ⟨rb, 0, none⟩ (.slice (some ⟨gT, 0, none⟩) th.length cT)).setCell ⟨rb, 1, none⟩ (.slice (some ⟨gM, 0, none⟩) mk.length cM)) := ((Turned.refl rb xz).set_ _ _).set_ _ _
      generalize (xz.setCell ⟨rb, 0, none⟩ (.slice (some ⟨gT, 0, none⟩) th.length cT)).setCell ⟨rb, 1, none⟩ (.slice (some ⟨gM, 0, none⟩) mk.length cM) = wz at hz hTz ⊢
      have z0 := blk_at hz 0 rfl
      have z1 := blk_at hz 1 rfl
      have hTTx : TyAt 37 xz (some ⟨gT, 0, none⟩) := by
        obtain ⟨b, o, cs, e, _, hh⟩ := hFTx
        exact .inr ⟨b, o, cs, (0, 0), e, hh⟩
      have q1 := RdL.turnedT (enc := encT) (by decide) hrbX hTz hTTx hRTx
      have q2 := RdL.turnedT (enc := encM) (by decide) hrbX hTz hTM hRM
      have q3 := hFTx.turned (by decide) hrbX hTz
      have q4 := hTM.turned (by decide) hrbX hTz
      have q5 := hTz.below (hEw2.trans hEX.out) hrb
      clear hRTx hFTx hRM hTM hTTx hrbX hEX hz hTz
      go_wp2_with fail
      exact bodyPost_ret (v := .agg #[.slice (some ⟨gT, 0, none⟩) th.length cT, .slice (some ⟨gM, 0, none⟩) mk.length cM]) (by simp [results, Try.results73, go_sem, z0, z1]) rfl ⟨_, cT, _, cM, rfl, q1, q2, q3, q4, q5⟩
    · rw [if_pos (by rfl)]
      go_simp
      have he5 : Ext x1 (x1.alloc (.cells #[] 68)) := Ext.alloc _ _
      generalize hx5 : x1.alloc (.cells #[] 68) = x5 at he5 ⊢
      clear hx5
      have HSx5 := Lib.hid (HSX.out _ _ HSx1.out he5)
      refine hK.out _ _ HSx5.out (fun hHeld => ?_)
      clear hK K
      try simp only [Act.put, List.getElem_toArray, List.getElem_cons_succ, List.getElem_cons_zero, List.setIfInBounds_toArray, List.set_cons_zero, List.set_cons_succ]
      refine LastH.ready (rs := [3]) (by kernel_rfl) (by simp) ?_
      refine AllLast.cons (o := _) rfl (by decide) (fun K hK => ?_) AllLast.nil
      refine step_append_grows rfl (.tmp 3) (.tmp 5) 22 rfl 37 it zt 4 32 Try.underlying22 hit hzt hst hbt hzst (by decide) (some ⟨w5.heap.size, 0, none⟩) 0 0 [] rfl (fun h => nomatch h) rfl (fun _ _ _ _ h => nomatch h) ⟨ab, ao, none⟩ th.length cm (th.flatMap encT) rfl (reps_plain (enc := encT) (sz := 4) (fun _ => rfl) x5 th).1 (rd_cells (enc := encT) (sz := 4) (fun _ => rfl) (HA.out.ext (hEw2.trans HSx5.out.1))) (flat_one (fun x u hu => by simp [encT] at hu; rcases hu with rfl | rfl | rfl | rfl <;> rfl) _) (by omega) (by unfold maxLen; omega) (by omega) ?_
      intro v6 x6 hob6 hgb6
      obtain ⟨gT, cT, rfl, hcT, hRT, hTT, hFT⟩ := own_fresh (enc := encT) hob6 (reps_plain (enc := encT) (sz := 4) (fun _ => rfl) x6 th) h1
      have hFT2 := hFT.lower (Nat.le_trans hEw2.size (Below.size HSx5.out.1))
      have he6 := grown_none hgb6
      have HSx6 := Lib.hid (HSX.out _ _ HSx5.out he6)
      clear hob6 hgb6 hFT
      refine hK.out _ _ HSx6.out (fun hHeld => ?_)
      clear hK K
      try simp only [Act.put, List.getElem_toArray, List.getElem_cons_succ, List.getElem_cons_zero, List.setIfInBounds_toArray, List.set_cons_zero, List.set_cons_succ]
      refine LastH.ready (rs := [7]) (by kernel_rfl) (by simp) ?_
      refine AllLast.cons (o := _) rfl (by decide) (fun K hK => ?_) AllLast.nil
      refine step_append_grows rfl (.tmp 7) (.tmp 9) 23 rfl 68 ik zk 3 24 Try.underlying23 hik hzk hsk hbk hzsk (by decide) (some ⟨x1.heap.size, 0, none⟩) 0 0 [] rfl (fun h => nomatch h) rfl (fun _ _ _ _ h => nomatch h) ⟨bb, bo, none⟩ mk.length ck (mk.flatMap encM) rfl (reps_plain (enc := encM) (sz := 3) (fun _ => rfl) x6 mk).1 (rd_cells (enc := encM) (sz := 3) (fun _ => rfl) (HB.out.ext (hEw2.trans HSx6.out.1))) (flat_one (fun x u hu => by simp [encM] at hu; rcases hu with rfl | rfl | rfl | rfl <;> rfl) _) (by omega) (by unfold maxLen; omega) (by omega) ?_
      intro v7 x7 hob7 hgb7
      obtain ⟨gM, cM, rfl, hcM, hRM, hTM, hFM⟩ := own_fresh (enc := encM) hob7 (reps_plain (enc := encM) (sz := 3) (fun _ => rfl) x7 mk) h2
      have hFM2 := hFM.lower (Nat.le_trans hEw2.size (Below.size HSx6.out.1))
      have he7 := grown_none hgb7
      have HSx7 := Lib.hid (HSX.out _ _ HSx6.out he7)
      clear hob7 hgb7 hFM
      refine hK.out _ _ HSx7.out (fun hHeld => ?_)
      clear hK K
      try simp only [Act.put, List.getElem_toArray, List.getElem_cons_succ, List.getElem_cons_zero, List.setIfInBounds_toArray, List.set_cons_zero, List.set_cons_succ]
      have hRTx := RdT.ext hRT (he7)
      have hFTx := hFT2.ext (he7)
      refine LastH.take (i := 8) (oi := _) (v := ?_) (by rfl) (by kernel_rfl) (by kernel_rfl) (by kernel_rfl) (by kernel_rfl) (fun _ _ _ h => h) (Or.inl ⟨by rfl, ?_⟩) (by assumption) ?_
      rotate_left
      · (intro w hSw; (try dsimp only at hSw); (try obtain ⟨_, _, _⟩ := hSw); go_simp; try with_reducible rfl)
      try simp only [Act.put, List.getElem_toArray, List.getElem_cons_succ, List.getElem_cons_zero, List.setIfInBounds_toArray, List.set_cons_zero, List.set_cons_succ]
      have hrbX := (HSx7.out.1).heap HRB.out
      have hEX := Lib.hid HSx7.out.1
      generalize x7 = xz at hRTx hFTx hRM hTM hrbX hEX hHeld ⊢
      refine LastH.ready (rs := [9]) (by kernel_rfl) (by simp) ?_
      refine AllLast.last (o := _) rfl (fun K hK => ?_)
      rw [if_pos (by rfl)]
      have c0 := blk_at hrbX 0 rfl
      have c1 := blk_at hrbX 1 rfl
      have f0 := blk_free hrbX 0
      have f1 := blk_free hrbX 1
      go_simp
      refine hK.out _ _ ?_
      clear hK K c0 c1 f0 f1
      try simp only [Act.put, List.getElem_toArray, List.getElem_cons_succ, List.getElem_cons_zero, List.setIfInBounds_toArray, List.set_cons_zero, List.set_cons_succ]
      refine LastH.done (by kernel_rfl) (NoPanic.normal ?_) _
      try simp only [Act.put, List.getElem_toArray, List.getElem_cons_succ, List.getElem_cons_zero, List.setIfInBounds_toArray, List.set_cons_zero, List.set_cons_succ]
      have hz := blk_put (blk_put hrbX 0 (.slice (some ⟨gT, 0, none⟩) th.length cT)) 1 (.slice (some ⟨gM, 0, none⟩) mk.length cM)
      have hTz : Turned rb xz ((xz.setCell ⟨rb, 0, none⟩ (.slice (some ⟨gT, 0, none⟩) th.length cT)).setCell ⟨rb, 1, none⟩ (.slice (some ⟨gM, 0, none⟩) mk.length cM)) := ((Turned.refl rb xz).set_ _ _).set_ _ _
      generalize (xz.setCell ⟨rb, 0, none⟩ (.slice (some ⟨gT, 0, none⟩) th.length cT)).setCell ⟨rb, 1, none⟩ (.slice (some ⟨gM, 0, none⟩) mk.length cM) = wz at hz hTz ⊢
      have z0 := blk_at hz 0 rfl
      have z1 := blk_at hz 1 rfl
      have hTTx : TyAt 37 xz (some ⟨gT, 0, none⟩) := by
        obtain ⟨b, o, cs, e, _, hh⟩ := hFTx
        exact .inr ⟨b, o, cs, (0, 0), e, hh⟩
      have q1 := RdL.turnedT (enc := encT) (by decide) hrbX hTz hTTx hRTx
      have q2 := RdL.turnedT (enc := encM) (by decide) hrbX hTz hTM hRM
      have q3 := hFTx.turned (by decide) hrbX hTz
      have q4 := hTM.turned (by decide) hrbX hTz
      have q5 := hTz.below (hEw2.trans hEX.out) hrb
      clear hRTx hFTx hRM hTM hTTx hrbX hEX hz hTz
      go_wp2_with fail
      exact bodyPost_ret (v := .agg #[.slice (some ⟨gT, 0, none⟩) th.length cT, .slice (some ⟨gM, 0, none⟩) mk.length cM]) (by simp [results, Try.results73, go_sem, z0, z1]) rfl ⟨_, cT, _, cM, rfl, q1, q2, q3, q4, q5⟩
  · rw [if_pos (by rfl)]
    go_simp
    have he8 : Ext w5 (w5.alloc (.cells #[] 68)) := Ext.alloc _ _
    generalize hx8 : w5.alloc (.cells #[] 68) = x8 at he8 ⊢
    clear hx8
    have HSx8 := Lib.hid (HSX.out _ _ HSw5.out he8)
    refine hK.out _ _ HSx8.out (fun hHeld => ?_)
    clear hK K
    try simp only [Act.put, List.getElem_toArray, List.getElem_cons_succ, List.getElem_cons_zero, List.setIfInBounds_toArray, List.set_cons_zero, List.set_cons_succ]
    refine LastH.ready (rs := [0]) (by kernel_rfl) (by simp) ?_
    refine AllLast.cons (o := _) rfl (by decide) (fun K hK => ?_) AllLast.nil
    rw [if_pos (by rfl)]
    go_simp
    have he9 : Ext x8 (x8.alloc (.cells #[] 37)) := Ext.alloc _ _
    generalize hx9 : x8.alloc (.cells #[] 37) = x9 at he9 ⊢
    clear hx9
    have HSx9 := Lib.hid (HSX.out _ _ HSx8.out he9)
    refine hK.out _ _ HSx9.out (fun hHeld => ?_)
    clear hK K
    try simp only [Act.put, List.getElem_toArray, List.getElem_cons_succ, List.getElem_cons_zero, List.setIfInBounds_toArray, List.set_cons_zero, List.set_cons_succ]
    refine LastH.ready (rs := [3]) (by kernel_rfl) (by simp) ?_
    refine AllLast.cons (o := _) rfl (by decide) (fun K hK => ?_) AllLast.nil
    refine step_append_grows rfl (.tmp 3) (.tmp 5) 22 rfl 37 it zt 4 32 Try.underlying22 hit hzt hst hbt hzst (by decide) (some ⟨x8.heap.size, 0, none⟩) 0 0 [] rfl (fun h => nomatch h) rfl (fun _ _ _ _ h => nomatch h) ⟨ab, ao, none⟩ th.length cm (th.flatMap encT) rfl (reps_plain (enc := encT) (sz := 4) (fun _ => rfl) x9 th).1 (rd_cells (enc := encT) (sz := 4) (fun _ => rfl) (HA.out.ext (hEw2.trans HSx9.out.1))) (flat_one (fun x u hu => by simp [encT] at hu; rcases hu with rfl | rfl | rfl | rfl <;> rfl) _) (by omega) (by unfold maxLen; omega) (by omega) ?_
    intro v10 x10 hob10 hgb10
    obtain ⟨gT, cT, rfl, hcT, hRT, hTT, hFT⟩ := own_fresh (enc := encT) hob10 (reps_plain (enc := encT) (sz := 4) (fun _ => rfl) x10 th) h1
    have hFT2 := hFT.lower (Nat.le_trans hEw2.size (Below.size HSx9.out.1))
    have he10 := grown_none hgb10
    have HSx10 := Lib.hid (HSX.out _ _ HSx9.out he10)
    clear hob10 hgb10 hFT
    refine hK.out _ _ HSx10.out (fun hHeld => ?_)
    clear hK K
    try simp only [Act.put, List.getElem_toArray, List.getElem_cons_succ, List.getElem_cons_zero, List.setIfInBounds_toArray, List.set_cons_zero, List.set_cons_succ]
    refine LastH.ready (rs := [7]) (by kernel_rfl) (by simp) ?_
    refine AllLast.cons (o := _) rfl (by decide) (fun K hK => ?_) AllLast.nil
    refine step_append_grows rfl (.tmp 7) (.tmp 9) 23 rfl 68 ik zk 3 24 Try.underlying23 hik hzk hsk hbk hzsk (by decide) (some ⟨w5.heap.size, 0, none⟩) 0 0 [] rfl (fun h => nomatch h) rfl (fun _ _ _ _ h => nomatch h) ⟨bb, bo, none⟩ mk.length ck (mk.flatMap encM) rfl (reps_plain (enc := encM) (sz := 3) (fun _ => rfl) x10 mk).1 (rd_cells (enc := encM) (sz := 3) (fun _ => rfl) (HB.out.ext (hEw2.trans HSx10.out.1))) (flat_one (fun x u hu => by simp [encM] at hu; rcases hu with rfl | rfl | rfl | rfl <;> rfl) _) (by omega) (by unfold maxLen; omega) (by omega) ?_
    intro v11 x11 hob11 hgb11
    obtain ⟨gM, cM, rfl, hcM, hRM, hTM, hFM⟩ := own_fresh (enc := encM) hob11 (reps_plain (enc := encM) (sz := 3) (fun _ => rfl) x11 mk) h2
    have hFM2 := hFM.lower (Nat.le_trans hEw2.size (Below.size HSx10.out.1))
    have he11 := grown_none hgb11
    have HSx11 := Lib.hid (HSX.out _ _ HSx10.out he11)
    clear hob11 hgb11 hFM
    refine hK.out _ _ HSx11.out (fun hHeld => ?_)
    clear hK K
    try simp only [Act.put, List.getElem_toArray, List.getElem_cons_succ, List.getElem_cons_zero, List.setIfInBounds_toArray, List.set_cons_zero, List.set_cons_succ]
    have hRTx := RdT.ext hRT (he11)
    have hFTx := hFT2.ext (he11)
    refine LastH.take (i := 8) (oi := _) (v := ?_) (by rfl) (by kernel_rfl) (by kernel_rfl) (by kernel_rfl) (by kernel_rfl) (fun _ _ _ h => h) (Or.inl ⟨by rfl, ?_⟩) (by assumption) ?_
    rotate_left
    · (intro w hSw; (try dsimp only at hSw); (try obtain ⟨_, _, _⟩ := hSw); go_simp; try with_reducible rfl)
    try simp only [Act.put, List.getElem_toArray, List.getElem_cons_succ, List.getElem_cons_zero, List.setIfInBounds_toArray, List.set_cons_zero, List.set_cons_succ]
    have hrbX := (HSx11.out.1).heap HRB.out
    have hEX := Lib.hid HSx11.out.1
    generalize x11 = xz at hRTx hFTx hRM hTM hrbX hEX hHeld ⊢
    refine LastH.ready (rs := [9]) (by kernel_rfl) (by simp) ?_
    refine AllLast.last (o := _) rfl (fun K hK => ?_)
    rw [if_pos (by rfl)]
    have c0 := blk_at hrbX 0 rfl
    have c1 := blk_at hrbX 1 rfl
    have f0 := blk_free hrbX 0
    have f1 := blk_free hrbX 1
    go_simp
    refine hK.out _ _ ?_
    clear hK K c0 c1 f0 f1
    try simp only [Act.put, List.getElem_toArray, List.getElem_cons_succ, List.getElem_cons_zero, List.setIfInBounds_toArray, List.set_cons_zero, List.set_cons_succ]
    refine LastH.done (by kernel_rfl) (NoPanic.normal ?_) _
    try simp only [Act.put, List.getElem_toArray, List.getElem_cons_succ, List.getElem_cons_zero, List.setIfInBounds_toArray, List.set_cons_zero, List.set_cons_succ]
    have hz := blk_put (blk_put hrbX 0 (.slice (some ⟨gT, 0, none⟩) th.length cT)) 1 (.slice (some ⟨gM, 0, none⟩) mk.length cM)
    have hTz : Turned rb xz ((xz.setCell ⟨rb, 0, none⟩ (.slice (some ⟨gT, 0, none⟩) th.length cT)).setCell ⟨rb, 1, none⟩ (.slice (some ⟨gM, 0, none⟩) mk.length cM)) := ((Turned.refl rb xz).set_ _ _).set_ _ _
    generalize (xz.setCell ⟨rb, 0, none⟩ (.slice (some ⟨gT, 0, none⟩) th.length cT)).setCell ⟨rb, 1, none⟩ (.slice (some ⟨gM, 0, none⟩) mk.length cM) = wz at hz hTz ⊢
    have z0 := blk_at hz 0 rfl
    have z1 := blk_at hz 1 rfl
    have hTTx : TyAt 37 xz (some ⟨gT, 0, none⟩) := by
      obtain ⟨b, o, cs, e, _, hh⟩ := hFTx
      exact .inr ⟨b, o, cs, (0, 0), e, hh⟩
    have q1 := RdL.turnedT (enc := encT) (by decide) hrbX hTz hTTx hRTx
    have q2 := RdL.turnedT (enc := encM) (by decide) hrbX hTz hTM hRM
    have q3 := hFTx.turned (by decide) hrbX hTz
    have q4 := hTM.turned (by decide) hrbX hTz
    have q5 := hTz.below (hEw2.trans hEX.out) hrb
    clear hRTx hFTx hRM hTM hTTx hrbX hEX hz hTz
    go_wp2_with fail
    exact bodyPost_ret (v := .agg #[.slice (some ⟨gT, 0, none⟩) th.length cT, .slice (some ⟨gM, 0, none⟩) mk.length cM]) (by simp [results, Try.results73, go_sem, z0, z1]) rfl ⟨_, cT, _, cM, rfl, q1, q2, q3, q4, q5⟩
end Go.Proofs.Ytloenmikkkklhaa

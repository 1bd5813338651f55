/-
  The example of the chapter 7.
-/
import Derived.Test.YtloenmikkkklhaaR9
namespace Go.Proofs.Ytloenmikkkklhaa
open Go.RowKit

def exTh : List Thing := [⟨-1, 0, 20, 0⟩, ⟨0, 5, 9, 0⟩, ⟨1, 10, 3, 1⟩, ⟨1, 20, 3, 1⟩, ⟨0, 25, 8, 0⟩, ⟨4, 30, 2, 1⟩]
def exMk : List Mark := [⟨0, 1, 12⟩, ⟨1, 0, 22⟩]
theorem exHouse : chkHouse exTh exMk = true := by decide
theorem rd_things {g : Nat} {w : World} (xs : List Thing) {cs : Array Value} {t : TypeId} {fr : Nat × Nat} (hg : w.heap[g]? = some (.cells cs t fr)) (hc : cs = (xs.flatMap encT).toArray) : RdT w (some ⟨g, 0, none⟩) xs :=
  rd_of_reps (reps_plain (enc := encT) (sz := 4) (fun _ => rfl) w xs) hg hc
theorem rd_marks {g : Nat} {w : World} (xs : List Mark) {cs : Array Value} {t : TypeId} {fr : Nat × Nat} (hg : w.heap[g]? = some (.cells cs t fr)) (hc : cs = (xs.flatMap encM).toArray) : RdM w (some ⟨g, 0, none⟩) xs :=
  rd_of_reps (reps_plain (enc := encM) (sz := 3) (fun _ => rfl) w xs) hg hc

theorem priced1 (A B : Option Addr) (w : World) (hA : RdT w A exTh) (hB : RdM w B exMk) :
    Calls Try.prog 55 #[.agg #[.slice A 6 6, .slice B 2 2], .int .i64 2, .int .i64 5] w
      fun e w' => ∃ A' cA B' cB, e = .returned (.agg #[.slice A' 6 cA, .slice B' 2 cB]) ∧ RdT w' A' (priced exTh 2 5) ∧ RdM w' B' exMk ∧ Ext w w' :=
  pricedR A B exTh exMk 6 2 2 5 w (by decide) (by decide) (by decide) (by decide) hA hB
theorem priced2 (A B : Option Addr) (cA cB : Nat) (w : World) (hA : RdT w A (priced exTh 2 5)) (hB : RdM w B exMk) :
    Calls Try.prog 55 #[.agg #[.slice A 6 cA, .slice B 2 cB], .int .i64 3, .int .i64 5] w
      fun e w' => ∃ A' cA B' cB, e = .returned (.agg #[.slice A' 6 cA, .slice B' 2 cB]) ∧ RdT w' A' (priced (priced exTh 2 5) 3 5) ∧ RdM w' B' exMk ∧ Ext w w' :=
  pricedR A B (priced exTh 2 5) exMk cA cB 3 5 w (by decide) (by decide) (by decide) (by decide) hA hB

set_option maxRecDepth 100000 in
set_option maxHeartbeats 8000000 in
theorem example7 (w : World) :
    Calls Try.prog 28 #[] w fun e w' => ∃ A c B d C e' D f n m, e = .returned (.tuple #[.agg #[.slice A 6 c, .slice B 2 d], .agg #[.slice C n e', .slice D m f]]) ∧
      RdT w' A exTh ∧ RdM w' B exMk ∧ Ext w w' := by
  go_enter Try.func28, Try.ntmps28
  go_upto_region 1 with fail
  obtain ⟨w1, p0, e1, e2, hE0, pblk⟩ := new_block w #[.slice none 0 0, .slice none 0 0] 25
  have e3 : w.heap.size + 1 = w1.heap.size := by rw [← e1]; simp
  rw [e3, e1, e2]
  have hp0 : w.heap.size ≤ p0 := by omega
  clear e1 e2 e3
  obtain ⟨w2, p1, e1, e2, hE1, pblk1⟩ := new_block w1 #[.slice none 0 0, .slice none 0 0] 25
  have hp1 : w1.heap.size ≤ p1 := by omega
  have hp01 : p1 ≠ p0 := by have := blk_lt pblk; omega
  rw [e1, e2]
  clear e1 e2
  have HP0 := Lib.hid (hE1.heap pblk)
  have HP1 := Lib.hid pblk1
  clear pblk pblk1
  go_upto_region 2 with (refine wpList_store_blk rfl 25 (.tmp 0) (.tmp 12) rfl p0 25 #[.slice none 0 0, .slice none 0 0] _ rfl rfl (by repeat (first | exact HP0.out | refine (Ext.alloc _ _).heap ?_)) (by kernel_rfl) rfl (by simp [Value.oneCell']) ?_; intro wz hTz hbz)
  obtain ⟨x1, y1, e1, e2, hx1, k1⟩ := new_block w2 #[.int .i64 (-1), .int .i64 0, .int .i64 20, .int .i64 0, .int .i64 0, .int .i64 5, .int .i64 9, .int .i64 0, .int .i64 1, .int .i64 10, .int .i64 3, .int .i64 1, .int .i64 1, .int .i64 20, .int .i64 3, .int .i64 1, .int .i64 0, .int .i64 25, .int .i64 8, .int .i64 0, .int .i64 4, .int .i64 30, .int .i64 2, .int .i64 1] 37
  have e3 : w2.heap.size + 1 = x1.heap.size := by rw [← e1]; simp
  (try simp only [e3] at hTz hbz ⊢)
  (try rw [e2] at hTz)
  (try rw [e2] at hbz)
  (try rw [e2])
  rw [e1] at hTz
  clear e1 e2 e3
  obtain ⟨x2, y2, e1, e2, hx2, k2⟩ := new_block x1 #[.int .i64 0, .int .i64 1, .int .i64 12, .int .i64 1, .int .i64 0, .int .i64 22] 68
  (try rw [e2] at hTz)
  (try rw [e2] at hbz)
  (try rw [e2])
  rw [e1] at hTz
  clear e1 e2
  have HPx := (hx1.trans hx2).heap HP0.out
  have C1 := hTz.heap_ (ty_ne (by decide) (hx2.heap k1) HPx) (hx2.heap k1)
  have C2 := hTz.heap_ (ty_ne (by decide) k2 HPx) k2
  have hEz : Ext w wz := hTz.below (hE0.trans (hE1.trans (hx1.trans hx2))) hp0
  have hP1 := hTz.heap_ hp01 ((hx1.trans hx2).heap HP1.out)
  have HC1 := Lib.hid C1
  have HC2 := Lib.hid C2
  have HBZ := Lib.hid hbz
  have HP1Z := Lib.hid hP1
  have HEZ := Lib.hid hEz
  have r0 := blk_at hbz 0 rfl
  have r1 := blk_at hbz 1 rfl
  simp only [Act.put]
  clear C1 C2 hP1 hEz HPx hTz k1 k2 hx1 hx2 hbz
  have HSX : Hid (∀ a b : World, (a.cell? ⟨p0, 0, none⟩ = some (.slice (some ⟨y1, 0, none⟩) 6 6) ∧ a.cell? ⟨p0, 1, none⟩ = some (.slice (some ⟨y2, 0, none⟩) 2 2)) → Ext a b → (b.cell? ⟨p0, 0, none⟩ = some (.slice (some ⟨y1, 0, none⟩) 6 6) ∧ b.cell? ⟨p0, 1, none⟩ = some (.slice (some ⟨y2, 0, none⟩) 2 2))) := Lib.hid fun a b h he => ⟨he.cell h.1, he.cell h.2⟩
  refine wp_region_noPanic ?_
  refine wp_region_last 5 (S := fun w' => (w'.cell? ⟨p0, 0, none⟩ = some (.slice (some ⟨y1, 0, none⟩) 6 6) ∧ w'.cell? ⟨p0, 1, none⟩ = some (.slice (some ⟨y2, 0, none⟩) 2 2))) (by kernel_rfl) ⟨r0, r1⟩ (fun hHeld => ?_)
  have hE5 : Ext wz wz.drew := Ext.drew wz
  generalize wz.drew = w5 at hHeld hE5 ⊢
  have HSw5 := Lib.hid hHeld
  clear r0 r1
  refine LastH.take (i := 0) (oi := _) (v := ?_) (by rfl) (by kernel_rfl) (by kernel_rfl) (by kernel_rfl) (by kernel_rfl) (fun _ _ _ h => h) (Or.inl ⟨by rfl, ?_⟩) (by assumption) ?_
  rotate_left
  · (intro w hSw; (try dsimp only at hSw); (try obtain ⟨_, _⟩ := hSw); go_simp; try with_reducible rfl)
  try simp only [Act.put, List.getElem_toArray, List.getElem_cons_succ, List.getElem_cons_zero, List.setIfInBounds_toArray, List.set_cons_zero, List.set_cons_succ]
  refine LastH.take (i := 1) (oi := _) (v := ?_) (by rfl) (by kernel_rfl) (by kernel_rfl) (by kernel_rfl) (by kernel_rfl) (fun _ _ _ h => h) (Or.inl ⟨by rfl, ?_⟩) (by assumption) ?_
  rotate_left
  · (intro w hSw; (try dsimp only at hSw); (try obtain ⟨_, _⟩ := hSw); go_simp; try with_reducible rfl)
  try simp only [Act.put, List.getElem_toArray, List.getElem_cons_succ, List.getElem_cons_zero, List.setIfInBounds_toArray, List.set_cons_zero, List.set_cons_succ]
  refine LastH.ready (rs := [2]) (by kernel_rfl) (by simp) ?_
  refine AllLast.cons (o := _) rfl (by decide) (fun K hK => ?_) AllLast.nil
  rw [if_pos (by rfl)]
  go_simp
  refine (priced1 _ _ _ (rd_things exTh (hE5.heap HC1.out) rfl) (rd_marks exMk (hE5.heap HC2.out) rfl)).mono ?_
  rintro e w6 ⟨A1, cA1, B1, cB1, rfl, hA1, hB1, he6⟩
  have HSw6 := Lib.hid (HSX.out _ _ HSw5.out he6)
  refine hK.out _ _ HSw6.out (fun hHeld => ?_)
  clear hK K
  try simp only [Act.put, List.getElem_toArray, List.getElem_cons_succ, List.getElem_cons_zero, List.setIfInBounds_toArray, List.set_cons_zero, List.set_cons_succ]
  refine LastH.ready (rs := [3]) (by kernel_rfl) (by simp) ?_
  refine AllLast.cons (o := _) rfl (by decide) (fun K hK => ?_) AllLast.nil
  rw [if_pos (by rfl)]
  go_simp
  refine (priced2 _ _ _ _ _ hA1 hB1).mono ?_
  rintro e w7 ⟨A2, cA2, B2, cB2, rfl, hA2, hB2, he7⟩
  have HSw7 := Lib.hid (HSX.out _ _ HSw6.out he7)
  refine hK.out _ _ HSw7.out (fun hHeld => ?_)
  clear hK K
  try simp only [Act.put, List.getElem_toArray, List.getElem_cons_succ, List.getElem_cons_zero, List.setIfInBounds_toArray, List.set_cons_zero, List.set_cons_succ]
  have hEz7 := hE5.trans (he6.trans he7)
  have hq0 := hEz7.heap HBZ.out
  have hq1 := hEz7.heap HP1Z.out
  have hc1 := hEz7.heap HC1.out
  have hc2 := hEz7.heap HC2.out
  have hE7 := HEZ.out.trans hEz7
  clear hA1 hB1 hA2 hB2 he6 he7 hEz7 hE5
  refine LastH.ready (rs := [4]) (by kernel_rfl) (by simp) ?_
  refine AllLast.cons (o := _) rfl (by decide) (fun K hK => ?_) AllLast.nil
  rw [if_pos (by rfl)]
  have c0 := blk_at hq0 0 rfl
  have c1 := blk_at hq0 1 rfl
  have f0 := blk_free hq0 0
  have f1 := blk_free hq0 1
  go_simp
  have hr0 := blk_put (blk_put hq0 0 (.slice (some ⟨y1, 0, none⟩) 6 6)) 1 (.slice (some ⟨y2, 0, none⟩) 2 2)
  have hU0 : Turned p0 w7 ((w7.setCell ⟨p0, 0, none⟩ (.slice (some ⟨y1, 0, none⟩) 6 6)).setCell ⟨p0, 1, none⟩ (.slice (some ⟨y2, 0, none⟩) 2 2)) := ((Turned.refl p0 w7).set_ _ _).set_ _ _
  generalize (w7.setCell ⟨p0, 0, none⟩ (.slice (some ⟨y1, 0, none⟩) 6 6)).setCell ⟨p0, 1, none⟩ (.slice (some ⟨y2, 0, none⟩) 2 2) = w8 at hr0 hU0 ⊢
  refine hK.out _ _ ⟨blk_at hr0 0 rfl, blk_at hr0 1 rfl⟩ (fun hHeld => ?_)
  clear hK K c0 c1 f0 f1
  try simp only [Act.put, List.getElem_toArray, List.getElem_cons_succ, List.getElem_cons_zero, List.setIfInBounds_toArray, List.set_cons_zero, List.set_cons_succ]
  have hs1 := hU0.heap_ hp01 hq1
  have hd1 := hU0.heap_ (ty_ne (by decide) hc1 hq0) hc1
  have hd2 := hU0.heap_ (ty_ne (by decide) hc2 hq0) hc2
  refine LastH.ready (rs := [5]) (by kernel_rfl) (by simp) ?_
  refine AllLast.last (o := _) rfl (fun K hK => ?_)
  rw [if_pos (by rfl)]
  have c0 := blk_at hs1 0 rfl
  have c1 := blk_at hs1 1 rfl
  have f0 := blk_free hs1 0
  have f1 := blk_free hs1 1
  go_simp
  have ht1 := blk_put (blk_put hs1 0 (.slice A2 6 cA2)) 1 (.slice B2 2 cB2)
  have hU1 : Turned p1 w8 ((w8.setCell ⟨p1, 0, none⟩ (.slice A2 6 cA2)).setCell ⟨p1, 1, none⟩ (.slice B2 2 cB2)) := ((Turned.refl p1 w8).set_ _ _).set_ _ _
  generalize (w8.setCell ⟨p1, 0, none⟩ (.slice A2 6 cA2)).setCell ⟨p1, 1, none⟩ (.slice B2 2 cB2) = w9 at ht1 hU1 ⊢
  refine hK.out _ _ ?_
  clear hK K c0 c1 f0 f1
  try simp only [Act.put, List.getElem_toArray, List.getElem_cons_succ, List.getElem_cons_zero, List.setIfInBounds_toArray, List.set_cons_zero, List.set_cons_succ]
  refine LastH.done (by kernel_rfl) (NoPanic.normal ?_) _
  try simp only [Act.put, List.getElem_toArray, List.getElem_cons_succ, List.getElem_cons_zero, List.setIfInBounds_toArray, List.set_cons_zero, List.set_cons_succ]
  have z0 := hU1.cell_ (show p0 ≠ p1 from hp01.symm) (blk_at hr0 0 rfl)
  have z1 := hU1.cell_ (show p0 ≠ p1 from hp01.symm) (blk_at hr0 1 rfl)
  have v0 := blk_at ht1 0 rfl
  have v1 := blk_at ht1 1 rfl
  have g1 := rd_things exTh (hU1.heap_ (ty_ne (by decide) hd1 hs1) hd1) rfl
  have g2 := rd_marks exMk (hU1.heap_ (ty_ne (by decide) hd2 hs1) hd2) rfl
  have hE9 : Ext w w9 := hU1.below (hU0.below hE7 hp0) (by have := hE0.size; omega)
  have G1 := Lib.hid g1
  have G2 := Lib.hid g2
  clear g1 g2
  go_wp2_with fail
  exact bodyPost_ret (v := .tuple #[.agg #[.slice (some ⟨y1, 0, none⟩) 6 6, .slice (some ⟨y2, 0, none⟩) 2 2], .agg #[.slice A2 6 cA2, .slice B2 2 cB2]]) (by simp [results, Try.results28, go_sem, z0, z1, v0, v1]) rfl ⟨_, _, _, _, _, _, _, _, _, _, rfl, G1.out, G2.out, hE9⟩
end Go.Proofs.Ytloenmikkkklhaa

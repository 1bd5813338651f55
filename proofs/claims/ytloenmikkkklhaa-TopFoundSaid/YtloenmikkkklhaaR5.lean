/-
  The reference's copy of a run.
-/
import Derived.Test.YtloenmikkkklhaaK4
namespace Go.Proofs.Ytloenmikkkklhaa
open Go.RowKit

theorem info_mach_at : ∃ i z, Try.prog.info? 44 = some i ∧ i.zero = some z ∧ z.cells.size = 2 ∧ i.size = 2 ∧ i.bytes = 32 := by
  have h : (Try.prog.info? 44).map (fun i => (i.zero, i.size, i.bytes)) = some (some (.agg #[.slice none 0 0, .int .i64 0]), 2, 32) := by kernel_rfl
  cases hi : Try.prog.info? 44 with
  | none => rw [hi] at h; cases h
  | some i =>
    rw [hi] at h
    simp only [Option.map_some, Option.some.injEq, Prod.mk.injEq] at h
    exact ⟨i, _, rfl, h.1, rfl, h.2.1, h.2.2⟩
theorem info_found_at : ∃ i z, Try.prog.info? 50 = some i ∧ i.zero = some z ∧ z.cells.size = 3 ∧ i.size = 3 ∧ i.bytes = 56 := by
  have h : (Try.prog.info? 50).map (fun i => (i.zero, i.size, i.bytes)) = some (some (.agg #[.int .i64 0, .slice none 0 0, .slice none 0 0]), 3, 56) := by kernel_rfl
  cases hi : Try.prog.info? 50 with
  | none => rw [hi] at h; cases h
  | some i =>
    rw [hi] at h
    simp only [Option.map_some, Option.some.injEq, Prod.mk.injEq] at h
    exact ⟨i, _, rfl, h.1, rfl, h.2.1, h.2.2⟩
theorem info_span_at : ∃ i z, Try.prog.info? 48 = some i ∧ i.zero = some z ∧ z.cells.size = 2 ∧ i.size = 2 ∧ i.bytes = 16 := by
  have h : (Try.prog.info? 48).map (fun i => (i.zero, i.size, i.bytes)) = some (some (.agg #[.int .i64 0, .int .i64 0]), 2, 16) := by kernel_rfl
  cases hi : Try.prog.info? 48 with
  | none => rw [hi] at h; cases h
  | some i =>
    rw [hi] at h
    simp only [Option.map_some, Option.some.injEq, Prod.mk.injEq] at h
    exact ⟨i, _, rfl, h.1, rfl, h.2.1, h.2.2⟩
theorem info_int_at : ∃ i z, Try.prog.info? 3 = some i ∧ i.zero = some z ∧ z.cells.size = 1 ∧ i.size = 1 ∧ i.bytes = 8 := by
  have h := info_int
  cases hi : Try.prog.info? 3 with
  | none => rw [hi] at h; cases h
  | some i =>
    rw [hi] at h
    simp only [Option.map_some, Option.some.injEq, Prod.mk.injEq] at h
    exact ⟨i, _, rfl, h.1, rfl, h.2.1, h.2.2⟩

theorem own_lt {α : Type} {R : World → α → List Value → Prop} {e sz base : Nat} {w : World} {v : Value} {xs : List α} (h : OwnR R e sz w base v xs) : ∀ q, v.ownBlock = some q → q < w.heap.size := fun q hq => by
  obtain ⟨cells, ⟨_, h2⟩, _⟩ := h
  rcases h2 with ⟨rfl, _⟩ | ⟨g, cap, cur, rfl, _, hh, _⟩
  · cases hq
  · cases hq; exact blk_lt hh
set_option maxRecDepth 100000 in
set_option maxHeartbeats 40000000 in
theorem copyR (pl last : Int) (A B : Option Addr) (ms : List Machine) (fs : List Found) (cm ck : Nat) (w : World) (hv : OkRun pl last ms fs) (hA : RdMach w A ms) (hB : RdFound w B fs) :
    Calls Try.prog 17 #[.agg #[.int .i64 pl, .int .i64 last, .slice A ms.length cm, .slice B fs.length ck]] w
      fun e w' => ∃ A' B' cm' ck', e = .returned (.agg #[.int .i64 pl, .int .i64 last, .slice A' ms.length cm', .slice B' fs.length ck']) ∧ RdMach w' A' ms ∧ RdL (RFoundN w.heap.size) 3 w' B' fs ∧ TyAt 50 w' B' ∧ Ext w w' := by
  obtain ⟨hpl, hlast, hms, hfs, hmach, hfound⟩ := hv
  obtain ⟨im, zm, him, hzm, hzsm, hsm, hbm⟩ := info_mach_at
  obtain ⟨ifd, zf, hif, hzf, hzsf, hsf, hbf⟩ := info_found_at
  obtain ⟨ip, zp, hip, hzp, hzsp, hsp, hbp⟩ := info_span_at
  obtain ⟨ii, zi, hii, hzi, hzsi, hsi, hbi⟩ := info_int_at
  have hm : (ms.length : Int) ≤ 9223372036854775807 := by omega
  have hm2 : (fs.length : Int) ≤ 9223372036854775807 := by omega
  have HA := Lib.hid hA
  have HB := Lib.hid hB
  have HM := Lib.hid hmach
  have HF := Lib.hid hfound
  clear hA hB hmach hfound
  go_enter Try.func17, Try.ntmps17
  go_upto_region 1 with fail
  obtain ⟨w1, p0, e1, e2, hE0, hrun⟩ := new_run w pl last A B ms.length cm fs.length ck
  have e3 : w.heap.size + 1 = w1.heap.size := by rw [← e1]; simp
  have hp0 : p0 < w1.heap.size := by omega
  rw [e3, e1, e2]
  clear e1 e2 e3
  obtain ⟨w2, rb, e1, e2, hE1, rblk⟩ := new_block w1 #[.int .i64 0, .int .i64 0, .slice none 0 0, .slice none 0 0] 41
  rw [e1, e2]
  have hrb : rb < w2.heap.size := blk_lt rblk
  have hrb0 : w1.heap.size ≤ rb := by omega
  clear e1 e2
  have hrun2 := hrun.ext hE1
  obtain ⟨r0, r1, r2, r3⟩ := hrun2.2
  go_upto_region 2 with fail
  obtain ⟨w3, ob, e1, e2, hE2, oblk⟩ := new_block w2 #[.int .i64 pl, .int .i64 last, .slice none 0 0, .slice none 0 0] 41
  rw [e1, e2]
  have hob : ob < w3.heap.size := blk_lt oblk
  have hob0 : w2.heap.size ≤ ob := by omega
  clear e1 e2 r0 r1 r2 r3 hrun2
  have hEw : Ext w w3 := hE0.trans (hE1.trans hE2)
  have HRUN := Lib.hid (hrun.ext (hE1.trans hE2))
  have HRB := Lib.hid (hE2.heap rblk)
  have HOB := Lib.hid oblk
  have hw3 := hEw.size
  clear hrun rblk oblk
  go_upto_region 3 with fail
  go_loopg [4] ms.length (fun g i wr => ∃ k : Nat, k + g = ms.length ∧ i = .int .i64 k ∧ Turned ob w3 wr ∧ ∃ v, wr.heap[ob]? = some (.cells #[.int .i64 pl, .int .i64 last, v, .slice none 0 0] 41 (0, 0)) ∧ OwnR RMachT 44 2 wr w3.heap.size v (ms.take k))
  case atStart => exact ⟨0, by omega, rfl, Turned.refl _ _, _, HOB.out, OwnR.none_ _ _ _ _ _⟩
  case round =>
    obtain ⟨k, hk, rfl, hT, v, hbl, hO⟩ := hrel
    have HK := Lib.hid hk
    have HBL := Lib.hid hbl
    have HO := Lib.hid hO
    have hE : Ext w wr := hT.below hEw (by have := hE0.size; have := hE1.size; omega)
    have hpo : p0 ≠ ob := by omega
    by_cases hlt : k < ms.length
    · clear hk hO
      have hki : (k : Int) < ms.length := by omega
      have hx : ms[k]? = some ms[k] := List.getElem?_eq_getElem hlt
      have hmem := HM.out _ (List.getElem_mem hlt)
      have htake : ms.take (k + 1) = ms.take k ++ [ms[k]] := by rw [List.take_add_one, hx]; rfl
      generalize ms[k] = y at hx hmem htake
      obtain ⟨bb, oo, hAe⟩ := HA.out.base (by omega)
      subst hAe
      obtain ⟨C, c, f0w, f1w, hcc, hSw⟩ := HA.out.at hx
      have F0 := Lib.hid f0w
      have F1 := Lib.hid f1w
      have f0 := hE.cell f0w
      have f1 := hE.cell f1w
      have hS := hSw.ext hE
      clear f0w f1w hSw
      have HS := Lib.hid hS
      have HTK := Lib.hid htake
      have hlen : (y.changes.length : Int) = pl := hmem.1
      have hl1 : 0 < y.changes.length := by omega
      have hl3 : y.changes.length ≤ 3 := by omega
      have r2 := hT.cell_ hpo HRUN.out.2.2.2.1
      clear hx hmem hS htake
      go_upto_region 5 with fail
      obtain ⟨cb, co, hCe⟩ := HS.out.base hl1
      subst hCe
      have HSX : Hid (∀ a b : World, (Ext w a ∧ a.cell? ⟨p0, 2, none⟩ = some (.slice (some ⟨bb, oo, none⟩) ms.length cm) ∧ a.cell? ⟨bb, oo + k * 2, none⟩ = some (.slice (some ⟨cb, co, none⟩) y.changes.length c) ∧ a.cell? ⟨bb, oo + k * 2 + 1, none⟩ = some (.int .i64 y.rate) ∧ a.cell? ⟨ob, 2, none⟩ = some v ∧ w3.heap.size ≤ a.heap.size) → Ext a b → (Ext w b ∧ b.cell? ⟨p0, 2, none⟩ = some (.slice (some ⟨bb, oo, none⟩) ms.length cm) ∧ b.cell? ⟨bb, oo + k * 2, none⟩ = some (.slice (some ⟨cb, co, none⟩) y.changes.length c) ∧ b.cell? ⟨bb, oo + k * 2 + 1, none⟩ = some (.int .i64 y.rate) ∧ b.cell? ⟨ob, 2, none⟩ = some v ∧ w3.heap.size ≤ b.heap.size)) := Lib.hid fun a b h he => ⟨h.1.trans he, he.cell h.2.1, he.cell h.2.2.1, he.cell h.2.2.2.1, he.cell h.2.2.2.2.1, Nat.le_trans h.2.2.2.2.2 he.size⟩
      refine wp_region_noPanic ?_
      refine wp_region_last 20 (S := fun w' => (Ext w w' ∧ w'.cell? ⟨p0, 2, none⟩ = some (.slice (some ⟨bb, oo, none⟩) ms.length cm) ∧ w'.cell? ⟨bb, oo + k * 2, none⟩ = some (.slice (some ⟨cb, co, none⟩) y.changes.length c) ∧ w'.cell? ⟨bb, oo + k * 2 + 1, none⟩ = some (.int .i64 y.rate) ∧ w'.cell? ⟨ob, 2, none⟩ = some v ∧ w3.heap.size ≤ w'.heap.size)) (by kernel_rfl) ⟨hE.trans (Ext.drew _), r2, f0, f1, blk_at hbl 2 rfl, hT.size⟩ (fun hHeld => ?_)
      refine LastH.take (i := 0) (oi := _) (v := ?_) (by rfl) (by kernel_rfl) (by kernel_rfl) (by kernel_rfl) (by kernel_rfl) (fun _ _ _ h => h) (Or.inl ⟨by rfl, ?_⟩) (by assumption) ?_
      rotate_left
      · (intro w hSw; (try dsimp only at hSw); (try obtain ⟨_, _, _, _⟩ := hSw); go_simp; try with_reducible rfl)
      try simp only [Act.put, List.getElem_toArray, List.getElem_cons_succ, List.getElem_cons_zero, List.setIfInBounds_toArray, List.set_cons_zero, List.set_cons_succ]
      refine LastH.take (i := 1) (oi := _) (v := ?_) (by rfl) (by kernel_rfl) (by kernel_rfl) (by kernel_rfl) (by kernel_rfl) (fun _ _ _ h => h) (Or.inl ⟨by rfl, ?_⟩) (by assumption) ?_
      rotate_left
      · (intro w hSw; (try dsimp only at hSw); (try obtain ⟨_, _, _, _⟩ := hSw); go_simp; try with_reducible rfl)
      try simp only [Act.put, List.getElem_toArray, List.getElem_cons_succ, List.getElem_cons_zero, List.setIfInBounds_toArray, List.set_cons_zero, List.set_cons_succ]
      refine LastH.take (i := 3) (oi := _) (v := ?_) (by rfl) (by kernel_rfl) (by kernel_rfl) (by kernel_rfl) (by kernel_rfl) (fun _ _ _ h => h) (Or.inl ⟨by rfl, ?_⟩) (by assumption) ?_
      rotate_left
      · (intro w hSw; (try dsimp only at hSw); (try obtain ⟨_, _, _, _⟩ := hSw); go_simp; try with_reducible rfl)
      try simp only [Act.put, List.getElem_toArray, List.getElem_cons_succ, List.getElem_cons_zero, List.setIfInBounds_toArray, List.set_cons_zero, List.set_cons_succ]
      refine LastH.take (i := 4) (oi := _) (v := ?_) (by rfl) (by kernel_rfl) (by kernel_rfl) (by kernel_rfl) (by kernel_rfl) (fun _ _ _ h => h) (Or.inl ⟨by rfl, ?_⟩) (by assumption) ?_
      rotate_left
      · (intro w hSw; (try dsimp only at hSw); (try obtain ⟨_, _, _, _⟩ := hSw); go_simp; try with_reducible rfl)
      try simp only [Act.put, List.getElem_toArray, List.getElem_cons_succ, List.getElem_cons_zero, List.setIfInBounds_toArray, List.set_cons_zero, List.set_cons_succ]
      refine LastH.take (i := 5) (oi := _) (v := ?_) (by rfl) (by kernel_rfl) (by kernel_rfl) (by kernel_rfl) (by kernel_rfl) (fun _ _ _ h => h) (Or.inl ⟨by rfl, ?_⟩) (by assumption) ?_
      rotate_left
      · (intro w hSw; (try dsimp only at hSw); (try obtain ⟨_, _, _, _⟩ := hSw); go_simp; try with_reducible rfl)
      try simp only [Act.put, List.getElem_toArray, List.getElem_cons_succ, List.getElem_cons_zero, List.setIfInBounds_toArray, List.set_cons_zero, List.set_cons_succ]
      refine LastH.take (i := 6) (oi := _) (v := ?_) (by rfl) (by kernel_rfl) (by kernel_rfl) (by kernel_rfl) (by kernel_rfl) (fun _ _ _ h => h) (Or.inl ⟨by rfl, ?_⟩) (by assumption) ?_
      rotate_left
      · (intro w hSw; (try dsimp only at hSw); (try obtain ⟨_, _, _, _⟩ := hSw); go_simp; try with_reducible rfl)
      try simp only [Act.put, List.getElem_toArray, List.getElem_cons_succ, List.getElem_cons_zero, List.setIfInBounds_toArray, List.set_cons_zero, List.set_cons_succ]
      refine LastH.take (i := 7) (oi := _) (v := ?_) (by rfl) (by kernel_rfl) (by kernel_rfl) (by kernel_rfl) (by kernel_rfl) (fun _ _ _ h => h) (Or.inl ⟨by rfl, ?_⟩) (by assumption) ?_
      rotate_left
      · (intro w hSw; (try dsimp only at hSw); (try obtain ⟨_, _, _, _⟩ := hSw); go_simp; try with_reducible rfl)
      try simp only [Act.put, List.getElem_toArray, List.getElem_cons_succ, List.getElem_cons_zero, List.setIfInBounds_toArray, List.set_cons_zero, List.set_cons_succ]
      refine LastH.take (i := 8) (oi := _) (v := ?_) (by rfl) (by kernel_rfl) (by kernel_rfl) (by kernel_rfl) (by kernel_rfl) (fun _ _ _ h => h) (Or.inl ⟨by rfl, ?_⟩) (by assumption) ?_
      rotate_left
      · (intro w hSw; (try dsimp only at hSw); (try obtain ⟨_, _, _, _⟩ := hSw); go_simp; try with_reducible rfl)
      try simp only [Act.put, List.getElem_toArray, List.getElem_cons_succ, List.getElem_cons_zero, List.setIfInBounds_toArray, List.set_cons_zero, List.set_cons_succ]
      refine LastH.take (i := 10) (oi := _) (v := ?_) (by rfl) (by kernel_rfl) (by kernel_rfl) (by kernel_rfl) (by kernel_rfl) (fun _ _ _ h => h) (Or.inl ⟨by rfl, ?_⟩) (by assumption) ?_
      rotate_left
      · (intro w hSw; (try dsimp only at hSw); (try obtain ⟨_, _, _, _⟩ := hSw); go_simp; try with_reducible rfl)
      try simp only [Act.put, List.getElem_toArray, List.getElem_cons_succ, List.getElem_cons_zero, List.setIfInBounds_toArray, List.set_cons_zero, List.set_cons_succ]
      refine LastH.take (i := 11) (oi := _) (v := ?_) (by rfl) (by kernel_rfl) (by kernel_rfl) (by kernel_rfl) (by kernel_rfl) (fun _ _ _ h => h) (Or.inl ⟨by rfl, ?_⟩) (by assumption) ?_
      rotate_left
      · (intro w hSw; (try dsimp only at hSw); (try obtain ⟨_, _, _, _⟩ := hSw); go_simp; try with_reducible rfl)
      try simp only [Act.put, List.getElem_toArray, List.getElem_cons_succ, List.getElem_cons_zero, List.setIfInBounds_toArray, List.set_cons_zero, List.set_cons_succ]
      refine LastH.take (i := 12) (oi := _) (v := ?_) (by rfl) (by kernel_rfl) (by kernel_rfl) (by kernel_rfl) (by kernel_rfl) (fun _ _ _ h => h) (Or.inl ⟨by rfl, ?_⟩) (by assumption) ?_
      rotate_left
      · (intro w hSw; (try dsimp only at hSw); (try obtain ⟨_, _, _, _⟩ := hSw); go_simp; try with_reducible rfl)
      try simp only [Act.put, List.getElem_toArray, List.getElem_cons_succ, List.getElem_cons_zero, List.setIfInBounds_toArray, List.set_cons_zero, List.set_cons_succ]
      refine LastH.take (i := 13) (oi := _) (v := ?_) (by rfl) (by kernel_rfl) (by kernel_rfl) (by kernel_rfl) (by kernel_rfl) (fun _ _ _ h => h) (Or.inl ⟨by rfl, ?_⟩) (by assumption) ?_
      rotate_left
      · (intro w hSw; (try dsimp only at hSw); (try obtain ⟨_, _, _, _⟩ := hSw); go_simp; try with_reducible rfl)
      try simp only [Act.put, List.getElem_toArray, List.getElem_cons_succ, List.getElem_cons_zero, List.setIfInBounds_toArray, List.set_cons_zero, List.set_cons_succ]
      refine LastH.take (i := 14) (oi := _) (v := ?_) (by rfl) (by kernel_rfl) (by kernel_rfl) (by kernel_rfl) (by kernel_rfl) (fun _ _ _ h => h) (Or.inl ⟨by rfl, ?_⟩) (by assumption) ?_
      rotate_left
      · (intro w hSw; (try dsimp only at hSw); (try obtain ⟨_, _, _, _⟩ := hSw); go_simp; try with_reducible rfl)
      try simp only [Act.put, List.getElem_toArray, List.getElem_cons_succ, List.getElem_cons_zero, List.setIfInBounds_toArray, List.set_cons_zero, List.set_cons_succ]
      refine LastH.take (i := 15) (oi := _) (v := ?_) (by rfl) (by kernel_rfl) (by kernel_rfl) (by kernel_rfl) (by kernel_rfl) (fun _ _ _ h => h) (Or.inl ⟨by rfl, ?_⟩) (by assumption) ?_
      rotate_left
      · (intro w hSw; (try dsimp only at hSw); (try obtain ⟨_, _, _, _⟩ := hSw); go_simp; try with_reducible rfl)
      try simp only [Act.put, List.getElem_toArray, List.getElem_cons_succ, List.getElem_cons_zero, List.setIfInBounds_toArray, List.set_cons_zero, List.set_cons_succ]
      refine LastH.ready (rs := [2]) (by kernel_rfl) (by simp) ?_
      refine AllLast.cons (o := _) rfl (by decide) (fun K hK => ?_) AllLast.nil
      rw [if_pos (by rfl)]
      go_simp
      have hEa : Ext wr.drew (wr.alloc (.cells #[] 48)).drew := Ext.alloc wr.drew _
      generalize (wr.alloc (.cells #[] 48)).drew = wa at hEa ⊢
      have HS1 := Lib.hid (HSX.out _ _ hHeld hEa)
      refine hK.out _ _ HS1.out (fun hHeld => ?_)
      clear hK K
      try simp only [Act.put, List.getElem_toArray, List.getElem_cons_succ, List.getElem_cons_zero, List.setIfInBounds_toArray, List.set_cons_zero, List.set_cons_succ]
      refine LastH.ready (rs := [9]) (by kernel_rfl) (by simp) ?_
      refine AllLast.cons (o := _) rfl (by decide) (fun K hK => ?_) AllLast.nil
      refine step_append_grows rfl (.tmp 21) (.tmp 27) 42 rfl 48 ip zp 2 16 Try.underlying42 hip hzp hsp hbp hzsp (by decide) (some ⟨wr.heap.size, 0, none⟩) 0 0 [] rfl (fun h => nomatch h) rfl (fun _ _ _ _ h => nomatch h) ⟨cb, co, none⟩ y.changes.length c (y.changes.flatMap encS) rfl ((reps_plain (enc := encS) (sz := 2) (fun _ => rfl) wa y.changes).1) (spans_cells (HS.out.ext ((Ext.drew wr).trans hEa))) (spans_one _) (by omega) (by unfold maxLen; omega) (by omega) ?_
      intro vb wb hob hgb
      obtain ⟨gb, cpb, rfl, hcb, hRb, hTb, _⟩ := own_fresh (enc := encS) hob (reps_plain (enc := encS) (sz := 2) (fun _ => rfl) wb y.changes) hl1
      have hEb := grown_none hgb
      have HS2 := Lib.hid (HSX.out _ _ HS1.out hEb)
      clear hob hgb
      refine hK.out _ _ HS2.out (fun hHeld => ?_)
      clear hK K
      try simp only [Act.put, List.getElem_toArray, List.getElem_cons_succ, List.getElem_cons_zero, List.setIfInBounds_toArray, List.set_cons_zero, List.set_cons_succ]
      refine LastH.take (i := 16) (oi := _) (v := ?_) (by rfl) (by kernel_rfl) (by kernel_rfl) (by kernel_rfl) (by kernel_rfl) (fun _ _ _ h => h) (Or.inl ⟨by rfl, ?_⟩) (by assumption) ?_
      rotate_left
      · (intro w hSw; (try dsimp only at hSw); (try obtain ⟨_, _, _, _⟩ := hSw); go_simp; try with_reducible rfl)
      try simp only [Act.put, List.getElem_toArray, List.getElem_cons_succ, List.getElem_cons_zero, List.setIfInBounds_toArray, List.set_cons_zero, List.set_cons_succ]
      refine LastH.ready (rs := [17]) (by kernel_rfl) (by simp) ?_
      refine AllLast.cons (o := _) rfl (by decide) (fun K hK => ?_) AllLast.nil
      rw [if_pos (by rfl)]
      go_simp
      have hEc : Ext wb (wb.alloc (.cells #[.slice (some ⟨gb, 0, none⟩) y.changes.length cpb, .int .i64 y.rate] 44)) := Ext.alloc _ _
      have hbc := heap_alloc_new wb (.cells #[.slice (some ⟨gb, 0, none⟩) y.changes.length cpb, .int .i64 y.rate] 44)
      generalize hwc : wb.alloc (.cells #[.slice (some ⟨gb, 0, none⟩) y.changes.length cpb, .int .i64 y.rate] 44) = wc at hEc hbc ⊢
      have HS3 := Lib.hid (HSX.out _ _ HS2.out hEc)
      refine hK.out _ _ HS3.out (fun hHeld => ?_)
      clear hK K
      try simp only [Act.put, List.getElem_toArray, List.getElem_cons_succ, List.getElem_cons_zero, List.setIfInBounds_toArray, List.set_cons_zero, List.set_cons_succ]
      refine LastH.ready (rs := [18]) (by kernel_rfl) (by simp) ?_
      refine AllLast.cons (o := _) rfl (by decide) (fun K hK => ?_) AllLast.nil
      rw [if_pos (by rfl)]
      have hErc : Ext wr wc := (Ext.drew wr).trans (hEa.trans (hEb.trans hEc))
      obtain ⟨cells, hown, hreps⟩ := OwnR.later (RMachT.ext hErc) HO.out hErc
      have hob9 := own_base hown
      have htl : (ms.take k).length ≤ 3 := by rw [List.length_take]; omega
      refine wp_append_at (.tmp 20) (.tmp 36) 38 rfl w3.heap.size 44 im zm 2 32 Try.underlying38 him hzm hsm hbm hzsm (by omega) v _ cells rfl hown ⟨wb.heap.size, 0, none⟩ 1 1 [.slice (some ⟨gb, 0, none⟩) y.changes.length cpb, .int .i64 y.rate] rfl rfl (blk_cells hbc) (by simp [Value.oneCell']) (by unfold maxLen; omega) (by omega) (HS3.out.2.2.2.2.2) ?_
      intro vd wd hownd hgd hobd
      have hEd : Ext w wd := grown_ext (hE.trans hErc) hgd (fun q hq => Nat.le_trans hw3 (hob9 q hq))
      have hbd : wd.heap[ob]? = some (.cells #[.int .i64 pl, .int .i64 last, v, .slice none 0 0] 41 (0, 0)) := grown_heap hgd hob9 hob (hErc.heap HBL.out)
      refine hK.out _ _ ⟨hEd, grown_cell hgd hob9 (show p0 < w3.heap.size by omega) HS3.out.2.1, hEd.cell F0.out, hEd.cell F1.out, blk_at hbd 2 rfl, Nat.le_trans HS3.out.2.2.2.2.2 hgd.size⟩ (fun hHeld => ?_)
      clear hK K
      try simp only [Act.put, List.getElem_toArray, List.getElem_cons_succ, List.getElem_cons_zero, List.setIfInBounds_toArray, List.set_cons_zero, List.set_cons_succ]
      refine LastH.take (i := 19) (oi := _) (v := ?_) (by rfl) (by kernel_rfl) (by kernel_rfl) (by kernel_rfl) (by kernel_rfl) (fun _ _ _ h => h) (Or.inl ⟨by rfl, ?_⟩) (by assumption) ?_
      rotate_left
      · (intro w hSw; (try dsimp only at hSw); (try obtain ⟨_, _, _, _⟩ := hSw); go_simp; try with_reducible rfl)
      try simp only [Act.put, List.getElem_toArray, List.getElem_cons_succ, List.getElem_cons_zero, List.setIfInBounds_toArray, List.set_cons_zero, List.set_cons_succ]
      refine LastH.ready (rs := [20]) (by kernel_rfl) (by simp) ?_
      refine AllLast.last (o := _) rfl (fun K hK => ?_)
      rw [if_pos (by rfl)]
      have hOd := OwnR.snoc (RMachT.grown hown hgd) hreps (RMachT.grown hown hgd y _ ⟨_, cpb, rfl, hcb, RdS.ext hRb hEc, hTb.ext hEc⟩) rfl hownd
      have HOD := Lib.hid hOd
      obtain ⟨Ad, cad, hvd, _⟩ := OwnR.reads hOd
      generalize (ms.take k ++ [y]).length = Ln at hvd
      subst hvd
      clear hOd
      have c2 := blk_at hbd 2 rfl
      have f2 := blk_free hbd 2
      go_simp
      refine hK.out _ _ ?_
      clear hK K c2 f2
      try simp only [Act.put, List.getElem_toArray, List.getElem_cons_succ, List.getElem_cons_zero, List.setIfInBounds_toArray, List.set_cons_zero, List.set_cons_succ]
      refine LastH.done (by kernel_rfl) (NoPanic.normal ?_) _
      try simp only [Act.put, List.getElem_toArray, List.getElem_cons_succ, List.getElem_cons_zero, List.setIfInBounds_toArray, List.set_cons_zero, List.set_cons_succ]
      have hTz : Turned ob wd (wd.setCell ⟨ob, 2, none⟩ (.slice Ad Ln cad)) := (Turned.refl ob wd).set_ _ _
      have hOz := Lib.hid (OwnR.turned (RMachT.turned hbd hTz) HOD.out hTz hob)
      have hbz := Lib.hid (blk_put hbd 2 (.slice Ad Ln cad))
      have hTT := Lib.hid (((hT.trans (Turned.of_ext hErc)).grown hgd hob9).trans hTz)
      generalize wd.setCell ⟨ob, 2, none⟩ (.slice Ad Ln cad) = wz at hOz hbz hTT ⊢
      clear hTz hbd hownd hgd hobd hown hreps hbc hRb hTb
      go_wp2_with fail
      go_roundg (gk - 1)
      case measure => have := HK.out; omega
      case rel => exact ⟨k + 1, by have := HK.out; omega, by go_num, hTT.out, _, hbz.out, by rw [HTK.out]; exact hOz.out⟩
    · obtain rfl : k = ms.length := by omega
      rw [List.take_length] at hO
      obtain ⟨Am, cam, rfl, hcam, hRm⟩ := OwnR.reads hO
      have hTm : TyAt 44 wr Am := by
        obtain ⟨cells, ⟨_, h2⟩, _⟩ := hO
        rcases h2 with ⟨h, _⟩ | ⟨g, cap, cur, h, _, hh, _⟩
        · exact .inl (Value.slice.inj h).1
        · exact .inr ⟨g, 0, cur, (0, 0), (Value.slice.inj h).1, hh⟩
      have HRM := Lib.hid hRm
      have HTM := Lib.hid hTm
      clear hk hlt hO HO hRm hTm
      obtain ⟨w4, rfl⟩ : ∃ z : World, z = wr := ⟨_, rfl⟩
      have HT4 := Lib.hid hT
      have HB4 := Lib.hid HBL.out
      have HE4 := Lib.hid hE
      have hob4 : ob < w4.heap.size := blk_lt HBL.out
      have hw4 := hE.size
      have r2 := hT.cell_ hpo HRUN.out.2.2.2.1
      clear hT
      go_upto_region 7 with fail
      clear r2
      go_loopg [5] fs.length (fun g i wr => ∃ k : Nat, k + g = fs.length ∧ i = .int .i64 k ∧ Turned ob w4 wr ∧ ∃ v, wr.heap[ob]? = some (.cells #[.int .i64 pl, .int .i64 last, .slice Am ms.length cam, v] 41 (0, 0)) ∧ OwnR (RFoundN w.heap.size) 50 3 wr w4.heap.size v (fs.take k))
      case atStart => exact ⟨0, by omega, rfl, Turned.refl _ _, _, HBL.out, OwnR.none_ _ _ _ _ _⟩
      case round =>
        clear hE
        obtain ⟨k, hk, rfl, hT, v, hbl, hO⟩ := hrel
        have HK := Lib.hid hk
        have HBL := Lib.hid hbl
        have HO := Lib.hid hO
        have hE : Ext w wr := hT.below HE4.out (by have := hE0.size; have := hE1.size; omega)
        have r3 := (HT4.out.trans hT).cell_ hpo HRUN.out.2.2.2.2
        by_cases hlt : k < fs.length
        · clear hk hO
          have hki : (k : Int) < fs.length := by omega
          have hx : fs[k]? = some fs[k] := List.getElem?_eq_getElem hlt
          have hmem := HF.out _ (List.getElem_mem hlt)
          have htake : fs.take (k + 1) = fs.take k ++ [fs[k]] := by rw [List.take_add_one, hx]; rfl
          generalize fs[k] = y at hx hmem htake
          obtain ⟨bb, oo, hBe⟩ := HB.out.base (by omega)
          subst hBe
          obtain ⟨C, c, F, f, f0w, f1w, f2w, hcc, hff, hCw, hFw⟩ := HB.out.at hx
          have HC := Lib.hid hCw
          have HFR := Lib.hid hFw
          have f0 := hE.cell f0w
          have f1 := hE.cell f1w
          have f2 := hE.cell f2w
          have HTK := Lib.hid htake
          have hlen : (y.new.length : Int) = pl := hmem.2.1
          have hl1 : 0 < y.new.length := by omega
          have hl3 : y.new.length ≤ 3 := by omega
          have hfl1 : 0 < y.from_.length := by have := hmem.2.2.1.1; omega
          have hfl3 : y.from_.length ≤ 3 := hmem.2.2.1.2
          clear hx hmem htake f0w f1w f2w hCw hFw
          go_upto_region 10 with fail
          have hlbn : wr.heap.size ≤ wr.heap.size := Nat.le_refl _
          obtain ⟨wl, lb, e1, e2, hEl, lblk⟩ := new_block wr #[.int .i64 y.minute, .slice C y.new.length c, .slice F y.from_.length f] 50
          have LBN := Lib.hid (show wr.heap.size ≤ lb by omega)
          rw [e1, e2]
          clear e1 e2 f0 f1 f2 r3 hlbn
          have hlbo : v.ownBlock ≠ some lb := fun hq => by
            have h1 := own_lt HO.out lb hq
            have h2 := LBN.out
            omega
          have HLBO := Lib.hid hlbo
          clear hlbo
          obtain ⟨cb, co, hCe⟩ := HC.out.base hl1
          subst hCe
          obtain ⟨fb, fo, hFe⟩ := HFR.out.base hfl1
          subst hFe
          have l0 : wl.cell? ⟨lb, 0, none⟩ = some (.int .i64 y.minute) := blk_at lblk 0 rfl
          have l1 : wl.cell? ⟨lb, 1, none⟩ = some (.slice (some ⟨cb, co, none⟩) y.new.length c) := blk_at lblk 1 rfl
          have l2 : wl.cell? ⟨lb, 2, none⟩ = some (.slice (some ⟨fb, fo, none⟩) y.from_.length f) := blk_at lblk 2 rfl
          have lv : wl.cell? ⟨ob, 3, none⟩ = some v := hEl.cell (blk_at hbl 3 rfl)
          have hEwl : Ext w wl := hE.trans hEl
          have hsl : w4.heap.size ≤ wl.heap.size := Nat.le_trans hT.size hEl.size
          have HSX : Hid (∀ a b : World, (Ext w a ∧ a.cell? ⟨lb, 0, none⟩ = some (.int .i64 y.minute) ∧ a.cell? ⟨lb, 1, none⟩ = some (.slice (some ⟨cb, co, none⟩) y.new.length c) ∧ a.cell? ⟨lb, 2, none⟩ = some (.slice (some ⟨fb, fo, none⟩) y.from_.length f) ∧ a.cell? ⟨ob, 3, none⟩ = some v ∧ w4.heap.size ≤ a.heap.size) → Ext a b → (Ext w b ∧ b.cell? ⟨lb, 0, none⟩ = some (.int .i64 y.minute) ∧ b.cell? ⟨lb, 1, none⟩ = some (.slice (some ⟨cb, co, none⟩) y.new.length c) ∧ b.cell? ⟨lb, 2, none⟩ = some (.slice (some ⟨fb, fo, none⟩) y.from_.length f) ∧ b.cell? ⟨ob, 3, none⟩ = some v ∧ w4.heap.size ≤ b.heap.size)) := Lib.hid fun a b h he => ⟨h.1.trans he, he.cell h.2.1, he.cell h.2.2.1, he.cell h.2.2.2.1, he.cell h.2.2.2.2.1, Nat.le_trans h.2.2.2.2.2 he.size⟩
          refine wp_region_noPanic ?_
          refine wp_region_last 16 (S := fun w' => (Ext w w' ∧ w'.cell? ⟨lb, 0, none⟩ = some (.int .i64 y.minute) ∧ w'.cell? ⟨lb, 1, none⟩ = some (.slice (some ⟨cb, co, none⟩) y.new.length c) ∧ w'.cell? ⟨lb, 2, none⟩ = some (.slice (some ⟨fb, fo, none⟩) y.from_.length f) ∧ w'.cell? ⟨ob, 3, none⟩ = some v ∧ w4.heap.size ≤ w'.heap.size)) (by kernel_rfl) ⟨hEwl.trans (Ext.drew _), l0, l1, l2, lv, hsl⟩ (fun hHeld => ?_)
          have hE5 : Ext wl wl.drew := Ext.drew _
          generalize wl.drew = w5 at hHeld hE5 ⊢
          have HSw5 := Lib.hid hHeld
          clear lblk l0 l1 l2 lv
          refine LastH.take (i := 0) (oi := _) (v := ?_) (by rfl) (by kernel_rfl) (by kernel_rfl) (by kernel_rfl) (by kernel_rfl) (fun _ _ _ h => h) (Or.inl ⟨by rfl, ?_⟩) (by assumption) ?_
          rotate_left
          · (intro w hSw; (try dsimp only at hSw); (try obtain ⟨_, _, _, _⟩ := hSw); go_simp; try with_reducible rfl)
          try simp only [Act.put, List.getElem_toArray, List.getElem_cons_succ, List.getElem_cons_zero, List.setIfInBounds_toArray, List.set_cons_zero, List.set_cons_succ]
          refine LastH.take (i := 1) (oi := _) (v := ?_) (by rfl) (by kernel_rfl) (by kernel_rfl) (by kernel_rfl) (by kernel_rfl) (fun _ _ _ h => h) (Or.inl ⟨by rfl, ?_⟩) (by assumption) ?_
          rotate_left
          · (intro w hSw; (try dsimp only at hSw); (try obtain ⟨_, _, _, _⟩ := hSw); go_simp; try with_reducible rfl)
          try simp only [Act.put, List.getElem_toArray, List.getElem_cons_succ, List.getElem_cons_zero, List.setIfInBounds_toArray, List.set_cons_zero, List.set_cons_succ]
          refine LastH.take (i := 2) (oi := _) (v := ?_) (by rfl) (by kernel_rfl) (by kernel_rfl) (by kernel_rfl) (by kernel_rfl) (fun _ _ _ h => h) (Or.inl ⟨by rfl, ?_⟩) (by assumption) ?_
          rotate_left
          · (intro w hSw; (try dsimp only at hSw); (try obtain ⟨_, _, _, _⟩ := hSw); go_simp; try with_reducible rfl)
          try simp only [Act.put, List.getElem_toArray, List.getElem_cons_succ, List.getElem_cons_zero, List.setIfInBounds_toArray, List.set_cons_zero, List.set_cons_succ]
          refine LastH.take (i := 3) (oi := _) (v := ?_) (by rfl) (by kernel_rfl) (by kernel_rfl) (by kernel_rfl) (by kernel_rfl) (fun _ _ _ h => h) (Or.inl ⟨by rfl, ?_⟩) (by assumption) ?_
          rotate_left
          · (intro w hSw; (try dsimp only at hSw); (try obtain ⟨_, _, _, _⟩ := hSw); go_simp; try with_reducible rfl)
          try simp only [Act.put, List.getElem_toArray, List.getElem_cons_succ, List.getElem_cons_zero, List.setIfInBounds_toArray, List.set_cons_zero, List.set_cons_succ]
          refine LastH.take (i := 5) (oi := _) (v := ?_) (by rfl) (by kernel_rfl) (by kernel_rfl) (by kernel_rfl) (by kernel_rfl) (fun _ _ _ h => h) (Or.inl ⟨by rfl, ?_⟩) (by assumption) ?_
          rotate_left
          · (intro w hSw; (try dsimp only at hSw); (try obtain ⟨_, _, _, _⟩ := hSw); go_simp; try with_reducible rfl)
          try simp only [Act.put, List.getElem_toArray, List.getElem_cons_succ, List.getElem_cons_zero, List.setIfInBounds_toArray, List.set_cons_zero, List.set_cons_succ]
          refine LastH.take (i := 6) (oi := _) (v := ?_) (by rfl) (by kernel_rfl) (by kernel_rfl) (by kernel_rfl) (by kernel_rfl) (fun _ _ _ h => h) (Or.inl ⟨by rfl, ?_⟩) (by assumption) ?_
          rotate_left
          · (intro w hSw; (try dsimp only at hSw); (try obtain ⟨_, _, _, _⟩ := hSw); go_simp; try with_reducible rfl)
          try simp only [Act.put, List.getElem_toArray, List.getElem_cons_succ, List.getElem_cons_zero, List.setIfInBounds_toArray, List.set_cons_zero, List.set_cons_succ]
          refine LastH.take (i := 9) (oi := _) (v := ?_) (by rfl) (by kernel_rfl) (by kernel_rfl) (by kernel_rfl) (by kernel_rfl) (fun _ _ _ h => h) (Or.inl ⟨by rfl, ?_⟩) (by assumption) ?_
          rotate_left
          · (intro w hSw; (try dsimp only at hSw); (try obtain ⟨_, _, _, _⟩ := hSw); go_simp; try with_reducible rfl)
          try simp only [Act.put, List.getElem_toArray, List.getElem_cons_succ, List.getElem_cons_zero, List.setIfInBounds_toArray, List.set_cons_zero, List.set_cons_succ]
          refine LastH.take (i := 10) (oi := _) (v := ?_) (by rfl) (by kernel_rfl) (by kernel_rfl) (by kernel_rfl) (by kernel_rfl) (fun _ _ _ h => h) (Or.inl ⟨by rfl, ?_⟩) (by assumption) ?_
          rotate_left
          · (intro w hSw; (try dsimp only at hSw); (try obtain ⟨_, _, _, _⟩ := hSw); go_simp; try with_reducible rfl)
          try simp only [Act.put, List.getElem_toArray, List.getElem_cons_succ, List.getElem_cons_zero, List.setIfInBounds_toArray, List.set_cons_zero, List.set_cons_succ]
          refine LastH.ready (rs := [4, 8]) (by kernel_rfl) (by simp) ?_
          refine AllLast.cons (o := _) rfl (by decide) (fun K hK => ?_) (AllLast.cons (o := _) rfl (by decide) (fun K hK => ?_) AllLast.nil)
          · rw [if_pos (by rfl)]
            go_simp
            have he1 : Ext w5 (w5.alloc (.cells #[] 3)) := Ext.alloc _ _
            generalize hx1 : w5.alloc (.cells #[] 3) = x1 at he1 ⊢
            clear hx1
            have HSx1 := Lib.hid (HSX.out _ _ HSw5.out he1)
            refine hK.out _ _ HSx1.out (fun hHeld => ?_)
            clear hK K
            try simp only [Act.put, List.getElem_toArray, List.getElem_cons_succ, List.getElem_cons_zero, List.setIfInBounds_toArray, List.set_cons_zero, List.set_cons_succ]
            refine LastH.ready (rs := [7, 8]) (by kernel_rfl) (by simp) ?_
            refine AllLast.cons (o := _) rfl (by decide) (fun K hK => ?_) (AllLast.cons (o := _) rfl (by decide) (fun K hK => ?_) AllLast.nil)
            · refine step_append_grows rfl (.tmp 55) (.tmp 57) 26 rfl 3 ii zi 1 8 Try.underlying26 hii hzi hsi hbi hzsi (by decide) (some ⟨w5.heap.size, 0, none⟩) 0 0 [] rfl (fun h => nomatch h) rfl (fun _ _ _ _ h => nomatch h) ⟨cb, co, none⟩ y.new.length c (y.new.map (Value.int .i64)) rfl (by simp) (rdI_cells (HC.out.ext HSx1.out.1) _ rfl) (by simp [Value.oneCell']) (by omega) (by unfold maxLen; omega) (by omega) ?_
              intro v2 x2 hob2 hgb2
              obtain ⟨gN, cN, rfl, hcN, hRN, hTN, hFN⟩ := own_fresh (enc := encI) hob2 (reps_ints x2 y.new) hl1
              have he2 := grown_none hgb2
              have HSx2 := Lib.hid (HSX.out _ _ HSx1.out he2)
              clear hob2 hgb2
              refine hK.out _ _ HSx2.out (fun hHeld => ?_)
              clear hK K
              try simp only [Act.put, List.getElem_toArray, List.getElem_cons_succ, List.getElem_cons_zero, List.setIfInBounds_toArray, List.set_cons_zero, List.set_cons_succ]
              refine LastH.ready (rs := [8]) (by kernel_rfl) (by simp) ?_
              refine AllLast.cons (o := _) rfl (by decide) (fun K hK => ?_) AllLast.nil
              rw [if_pos (by rfl)]
              go_simp
              have he3 : Ext x2 (x2.alloc (.cells #[] 3)) := Ext.alloc _ _
              generalize hx3 : x2.alloc (.cells #[] 3) = x3 at he3 ⊢
              clear hx3
              have HSx3 := Lib.hid (HSX.out _ _ HSx2.out he3)
              refine hK.out _ _ HSx3.out (fun hHeld => ?_)
              clear hK K
              try simp only [Act.put, List.getElem_toArray, List.getElem_cons_succ, List.getElem_cons_zero, List.setIfInBounds_toArray, List.set_cons_zero, List.set_cons_succ]
              refine LastH.ready (rs := [11]) (by kernel_rfl) (by simp) ?_
              refine AllLast.cons (o := _) rfl (by decide) (fun K hK => ?_) AllLast.nil
              refine step_append_grows rfl (.tmp 59) (.tmp 61) 26 rfl 3 ii zi 1 8 Try.underlying26 hii hzi hsi hbi hzsi (by decide) (some ⟨x2.heap.size, 0, none⟩) 0 0 [] rfl (fun h => nomatch h) rfl (fun _ _ _ _ h => nomatch h) ⟨fb, fo, none⟩ y.from_.length f (y.from_.map (Value.int .i64)) rfl (by simp) (rdI_cells (HFR.out.ext HSx3.out.1) _ rfl) (by simp [Value.oneCell']) (by omega) (by unfold maxLen; omega) (by omega) ?_
              intro v4 x4 hob4 hgb4
              obtain ⟨gF, cF, rfl, hcF, hRF, hTF, hFF⟩ := own_fresh (enc := encI) hob4 (reps_ints x4 y.from_) hfl1
              have he4 := grown_none hgb4
              have HSx4 := Lib.hid (HSX.out _ _ HSx3.out he4)
              clear hob4 hgb4
              refine hK.out _ _ HSx4.out (fun hHeld => ?_)
              clear hK K
              try simp only [Act.put, List.getElem_toArray, List.getElem_cons_succ, List.getElem_cons_zero, List.setIfInBounds_toArray, List.set_cons_zero, List.set_cons_succ]
              refine LastH.take (i := 12) (oi := _) (v := ?_) (by rfl) (by kernel_rfl) (by kernel_rfl) (by kernel_rfl) (by kernel_rfl) (fun _ _ _ h => h) (Or.inl ⟨by rfl, ?_⟩) (by assumption) ?_
              rotate_left
              · (intro w hSw; (try dsimp only at hSw); (try obtain ⟨_, _, _, _⟩ := hSw); go_simp; try with_reducible rfl)
              try simp only [Act.put, List.getElem_toArray, List.getElem_cons_succ, List.getElem_cons_zero, List.setIfInBounds_toArray, List.set_cons_zero, List.set_cons_succ]
              refine LastH.ready (rs := [13]) (by kernel_rfl) (by simp) ?_
              refine AllLast.cons (o := _) rfl (by decide) (fun K hK => ?_) AllLast.nil
              rw [if_pos (by rfl)]
              go_simp
              have hEc : Ext x4 (x4.alloc (.cells #[.int .i64 y.minute, .slice (some ⟨gN, 0, none⟩) y.new.length cN, .slice (some ⟨gF, 0, none⟩) y.from_.length cF] 50)) := Ext.alloc _ _
              have hbc := heap_alloc_new x4 (.cells #[.int .i64 y.minute, .slice (some ⟨gN, 0, none⟩) y.new.length cN, .slice (some ⟨gF, 0, none⟩) y.from_.length cF] 50)
              generalize hwc : x4.alloc (.cells #[.int .i64 y.minute, .slice (some ⟨gN, 0, none⟩) y.new.length cN, .slice (some ⟨gF, 0, none⟩) y.from_.length cF] 50) = wc at hEc hbc ⊢
              have HSwc := Lib.hid (HSX.out _ _ HSx4.out hEc)
              refine hK.out _ _ HSwc.out (fun hHeld => ?_)
              clear hK K
              try simp only [Act.put, List.getElem_toArray, List.getElem_cons_succ, List.getElem_cons_zero, List.setIfInBounds_toArray, List.set_cons_zero, List.set_cons_succ]
              refine LastH.ready (rs := [14]) (by kernel_rfl) (by simp) ?_
              refine AllLast.cons (o := _) rfl (by decide) (fun K hK => ?_) AllLast.nil
              rw [if_pos (by rfl)]
              have hErc : Ext wr wc := hEl.trans (hE5.trans (((((he1).trans he2).trans he3).trans he4).trans hEc))
              have hRN2 := RdI.ext (RdI.ext hRN ((he3).trans he4)) hEc
              have hFN2 := ((hFN.lower (Below.size HSx1.out.1)).ext ((he3).trans he4)).ext hEc
              have hTN2 := (hTN.ext ((he3).trans he4)).ext hEc
              have hRF2 := RdI.ext hRF hEc
              have hTF2 := hTF.ext hEc
              have hblX := hErc.heap HBL.out
              obtain ⟨cells, hown, hreps⟩ := OwnR.later (RFoundN.ext hErc) HO.out hErc
              have hob9 := own_base hown
              have htl : (fs.take k).length ≤ 6 := by rw [List.length_take]; omega
              refine wp_append_at (.tmp 52) (.tmp 64) 39 rfl w4.heap.size 50 ifd zf 3 56 Try.underlying39 hif hzf hsf hbf hzsf (by omega) v _ cells rfl hown ⟨_, 0, none⟩ 1 1 [.int .i64 y.minute, .slice (some ⟨gN, 0, none⟩) y.new.length cN, .slice (some ⟨gF, 0, none⟩) y.from_.length cF] rfl rfl (blk_cells hbc) (by simp [Value.oneCell']) (by unfold maxLen; omega) (by omega) (HSwc.out.2.2.2.2.2) ?_
              intro vd wd hownd hgd hobd
              have hEd : Ext w wd := grown_ext (hE.trans hErc) hgd (fun q hq => Nat.le_trans hw4 (hob9 q hq))
              have hbd : wd.heap[ob]? = some (.cells #[.int .i64 pl, .int .i64 last, .slice Am ms.length cam, v] 41 (0, 0)) := grown_heap hgd hob9 hob4 hblX
              have hlbo : v.ownBlock ≠ some lb := HLBO.out
              have hlk : ∀ i u, wc.cell? ⟨lb, i, none⟩ = some u → wd.cell? ⟨lb, i, none⟩ = some u := fun i u hu =>
                (World.cell?_of_block (hgd.block lb (World.block_lt_of_cell? wc _ hu) (fun e => hlbo e.symm))).trans hu
              refine hK.out _ _ ⟨hEd, hlk _ _ HSwc.out.2.1, hlk _ _ HSwc.out.2.2.1, hlk _ _ HSwc.out.2.2.2.1, blk_at hbd 3 rfl, Nat.le_trans HSwc.out.2.2.2.2.2 hgd.size⟩ (fun hHeld => ?_)
              clear hK K
              try simp only [Act.put, List.getElem_toArray, List.getElem_cons_succ, List.getElem_cons_zero, List.setIfInBounds_toArray, List.set_cons_zero, List.set_cons_succ]
              refine LastH.take (i := 15) (oi := _) (v := ?_) (by rfl) (by kernel_rfl) (by kernel_rfl) (by kernel_rfl) (by kernel_rfl) (fun _ _ _ h => h) (Or.inl ⟨by rfl, ?_⟩) (by assumption) ?_
              rotate_left
              · (intro w hSw; (try dsimp only at hSw); (try obtain ⟨_, _, _, _⟩ := hSw); go_simp; try with_reducible rfl)
              try simp only [Act.put, List.getElem_toArray, List.getElem_cons_succ, List.getElem_cons_zero, List.setIfInBounds_toArray, List.set_cons_zero, List.set_cons_succ]
              refine LastH.ready (rs := [16]) (by kernel_rfl) (by simp) ?_
              refine AllLast.last (o := _) rfl (fun K hK => ?_)
              rw [if_pos (by rfl)]
              have hOd := OwnR.snoc (RFoundN.grown hown hgd) hreps (RFoundN.grown hown hgd y _ ⟨⟨_, cN, _, cF, rfl, hcN, hcF, hRN2, hRF2, hTN2, hTF2⟩, _, cN, _, rfl, hFN2⟩) rfl hownd
              have HOD := Lib.hid hOd
              obtain ⟨Ad, cad, hvd, _⟩ := OwnR.reads hOd
              generalize (fs.take k ++ [y]).length = Ln at hvd
              subst hvd
              clear hOd
              have c2 := blk_at hbd 3 rfl
              have f2 := blk_free hbd 3
              go_simp
              refine hK.out _ _ ?_
              clear hK K c2 f2
              try simp only [Act.put, List.getElem_toArray, List.getElem_cons_succ, List.getElem_cons_zero, List.setIfInBounds_toArray, List.set_cons_zero, List.set_cons_succ]
              refine LastH.done (by kernel_rfl) (NoPanic.normal ?_) _
              try simp only [Act.put, List.getElem_toArray, List.getElem_cons_succ, List.getElem_cons_zero, List.setIfInBounds_toArray, List.set_cons_zero, List.set_cons_succ]
              have hTz : Turned ob wd (wd.setCell ⟨ob, 3, none⟩ (.slice Ad Ln cad)) := (Turned.refl ob wd).set_ _ _
              have hOz := Lib.hid (OwnR.turned (RFoundN.turned hbd hTz) HOD.out hTz hob4)
              have hbz := Lib.hid (blk_put hbd 3 (.slice Ad Ln cad))
              have hTT := Lib.hid (((hT.trans (Turned.of_ext hErc)).grown hgd hob9).trans hTz)
              generalize wd.setCell ⟨ob, 3, none⟩ (.slice Ad Ln cad) = wz at hOz hbz hTT ⊢
              clear hTz hbd hownd hgd hobd hown hreps hbc hRN hRF hTN hTF hRN2 hRF2 hTN2 hTF2
              go_wp2_with fail
              go_roundg (gk - 1)
              case measure => have := HK.out; omega
              case rel => exact ⟨k + 1, by have := HK.out; omega, by go_num, hTT.out, _, hbz.out, by rw [HTK.out]; exact hOz.out⟩
            · rw [if_pos (by rfl)]
              go_simp
              have he5 : Ext x1 (x1.alloc (.cells #[] 3)) := Ext.alloc _ _
              generalize hx5 : x1.alloc (.cells #[] 3) = x5 at he5 ⊢
              clear hx5
              have HSx5 := Lib.hid (HSX.out _ _ HSx1.out he5)
              refine hK.out _ _ HSx5.out (fun hHeld => ?_)
              clear hK K
              try simp only [Act.put, List.getElem_toArray, List.getElem_cons_succ, List.getElem_cons_zero, List.setIfInBounds_toArray, List.set_cons_zero, List.set_cons_succ]
              refine LastH.ready (rs := [7]) (by kernel_rfl) (by simp) ?_
              refine AllLast.cons (o := _) rfl (by decide) (fun K hK => ?_) AllLast.nil
              refine step_append_grows rfl (.tmp 55) (.tmp 57) 26 rfl 3 ii zi 1 8 Try.underlying26 hii hzi hsi hbi hzsi (by decide) (some ⟨w5.heap.size, 0, none⟩) 0 0 [] rfl (fun h => nomatch h) rfl (fun _ _ _ _ h => nomatch h) ⟨cb, co, none⟩ y.new.length c (y.new.map (Value.int .i64)) rfl (by simp) (rdI_cells (HC.out.ext HSx5.out.1) _ rfl) (by simp [Value.oneCell']) (by omega) (by unfold maxLen; omega) (by omega) ?_
              intro v6 x6 hob6 hgb6
              obtain ⟨gN, cN, rfl, hcN, hRN, hTN, hFN⟩ := own_fresh (enc := encI) hob6 (reps_ints x6 y.new) hl1
              have he6 := grown_none hgb6
              have HSx6 := Lib.hid (HSX.out _ _ HSx5.out he6)
              clear hob6 hgb6
              refine hK.out _ _ HSx6.out (fun hHeld => ?_)
              clear hK K
              try simp only [Act.put, List.getElem_toArray, List.getElem_cons_succ, List.getElem_cons_zero, List.setIfInBounds_toArray, List.set_cons_zero, List.set_cons_succ]
              refine LastH.ready (rs := [11]) (by kernel_rfl) (by simp) ?_
              refine AllLast.cons (o := _) rfl (by decide) (fun K hK => ?_) AllLast.nil
              refine step_append_grows rfl (.tmp 59) (.tmp 61) 26 rfl 3 ii zi 1 8 Try.underlying26 hii hzi hsi hbi hzsi (by decide) (some ⟨x1.heap.size, 0, none⟩) 0 0 [] rfl (fun h => nomatch h) rfl (fun _ _ _ _ h => nomatch h) ⟨fb, fo, none⟩ y.from_.length f (y.from_.map (Value.int .i64)) rfl (by simp) (rdI_cells (HFR.out.ext HSx6.out.1) _ rfl) (by simp [Value.oneCell']) (by omega) (by unfold maxLen; omega) (by omega) ?_
              intro v7 x7 hob7 hgb7
              obtain ⟨gF, cF, rfl, hcF, hRF, hTF, hFF⟩ := own_fresh (enc := encI) hob7 (reps_ints x7 y.from_) hfl1
              have he7 := grown_none hgb7
              have HSx7 := Lib.hid (HSX.out _ _ HSx6.out he7)
              clear hob7 hgb7
              refine hK.out _ _ HSx7.out (fun hHeld => ?_)
              clear hK K
              try simp only [Act.put, List.getElem_toArray, List.getElem_cons_succ, List.getElem_cons_zero, List.setIfInBounds_toArray, List.set_cons_zero, List.set_cons_succ]
              refine LastH.take (i := 12) (oi := _) (v := ?_) (by rfl) (by kernel_rfl) (by kernel_rfl) (by kernel_rfl) (by kernel_rfl) (fun _ _ _ h => h) (Or.inl ⟨by rfl, ?_⟩) (by assumption) ?_
              rotate_left
              · (intro w hSw; (try dsimp only at hSw); (try obtain ⟨_, _, _, _⟩ := hSw); go_simp; try with_reducible rfl)
              try simp only [Act.put, List.getElem_toArray, List.getElem_cons_succ, List.getElem_cons_zero, List.setIfInBounds_toArray, List.set_cons_zero, List.set_cons_succ]
              refine LastH.ready (rs := [13]) (by kernel_rfl) (by simp) ?_
              refine AllLast.cons (o := _) rfl (by decide) (fun K hK => ?_) AllLast.nil
              rw [if_pos (by rfl)]
              go_simp
              have hEc : Ext x7 (x7.alloc (.cells #[.int .i64 y.minute, .slice (some ⟨gN, 0, none⟩) y.new.length cN, .slice (some ⟨gF, 0, none⟩) y.from_.length cF] 50)) := Ext.alloc _ _
              have hbc := heap_alloc_new x7 (.cells #[.int .i64 y.minute, .slice (some ⟨gN, 0, none⟩) y.new.length cN, .slice (some ⟨gF, 0, none⟩) y.from_.length cF] 50)
              generalize hwc : x7.alloc (.cells #[.int .i64 y.minute, .slice (some ⟨gN, 0, none⟩) y.new.length cN, .slice (some ⟨gF, 0, none⟩) y.from_.length cF] 50) = wc at hEc hbc ⊢
              have HSwc := Lib.hid (HSX.out _ _ HSx7.out hEc)
              refine hK.out _ _ HSwc.out (fun hHeld => ?_)
              clear hK K
              try simp only [Act.put, List.getElem_toArray, List.getElem_cons_succ, List.getElem_cons_zero, List.setIfInBounds_toArray, List.set_cons_zero, List.set_cons_succ]
              refine LastH.ready (rs := [14]) (by kernel_rfl) (by simp) ?_
              refine AllLast.cons (o := _) rfl (by decide) (fun K hK => ?_) AllLast.nil
              rw [if_pos (by rfl)]
              have hErc : Ext wr wc := hEl.trans (hE5.trans (((((he1).trans he5).trans he6).trans he7).trans hEc))
              have hRN2 := RdI.ext (RdI.ext hRN (he7)) hEc
              have hFN2 := ((hFN.lower (Below.size HSx5.out.1)).ext (he7)).ext hEc
              have hTN2 := (hTN.ext (he7)).ext hEc
              have hRF2 := RdI.ext hRF hEc
              have hTF2 := hTF.ext hEc
              have hblX := hErc.heap HBL.out
              obtain ⟨cells, hown, hreps⟩ := OwnR.later (RFoundN.ext hErc) HO.out hErc
              have hob9 := own_base hown
              have htl : (fs.take k).length ≤ 6 := by rw [List.length_take]; omega
              refine wp_append_at (.tmp 52) (.tmp 64) 39 rfl w4.heap.size 50 ifd zf 3 56 Try.underlying39 hif hzf hsf hbf hzsf (by omega) v _ cells rfl hown ⟨_, 0, none⟩ 1 1 [.int .i64 y.minute, .slice (some ⟨gN, 0, none⟩) y.new.length cN, .slice (some ⟨gF, 0, none⟩) y.from_.length cF] rfl rfl (blk_cells hbc) (by simp [Value.oneCell']) (by unfold maxLen; omega) (by omega) (HSwc.out.2.2.2.2.2) ?_
              intro vd wd hownd hgd hobd
              have hEd : Ext w wd := grown_ext (hE.trans hErc) hgd (fun q hq => Nat.le_trans hw4 (hob9 q hq))
              have hbd : wd.heap[ob]? = some (.cells #[.int .i64 pl, .int .i64 last, .slice Am ms.length cam, v] 41 (0, 0)) := grown_heap hgd hob9 hob4 hblX
              have hlbo : v.ownBlock ≠ some lb := HLBO.out
              have hlk : ∀ i u, wc.cell? ⟨lb, i, none⟩ = some u → wd.cell? ⟨lb, i, none⟩ = some u := fun i u hu =>
                (World.cell?_of_block (hgd.block lb (World.block_lt_of_cell? wc _ hu) (fun e => hlbo e.symm))).trans hu
              refine hK.out _ _ ⟨hEd, hlk _ _ HSwc.out.2.1, hlk _ _ HSwc.out.2.2.1, hlk _ _ HSwc.out.2.2.2.1, blk_at hbd 3 rfl, Nat.le_trans HSwc.out.2.2.2.2.2 hgd.size⟩ (fun hHeld => ?_)
              clear hK K
              try simp only [Act.put, List.getElem_toArray, List.getElem_cons_succ, List.getElem_cons_zero, List.setIfInBounds_toArray, List.set_cons_zero, List.set_cons_succ]
              refine LastH.take (i := 15) (oi := _) (v := ?_) (by rfl) (by kernel_rfl) (by kernel_rfl) (by kernel_rfl) (by kernel_rfl) (fun _ _ _ h => h) (Or.inl ⟨by rfl, ?_⟩) (by assumption) ?_
              rotate_left
              · (intro w hSw; (try dsimp only at hSw); (try obtain ⟨_, _, _, _⟩ := hSw); go_simp; try with_reducible rfl)
              try simp only [Act.put, List.getElem_toArray, List.getElem_cons_succ, List.getElem_cons_zero, List.setIfInBounds_toArray, List.set_cons_zero, List.set_cons_succ]
              refine LastH.ready (rs := [16]) (by kernel_rfl) (by simp) ?_
              refine AllLast.last (o := _) rfl (fun K hK => ?_)
              rw [if_pos (by rfl)]
              have hOd := OwnR.snoc (RFoundN.grown hown hgd) hreps (RFoundN.grown hown hgd y _ ⟨⟨_, cN, _, cF, rfl, hcN, hcF, hRN2, hRF2, hTN2, hTF2⟩, _, cN, _, rfl, hFN2⟩) rfl hownd
              have HOD := Lib.hid hOd
              obtain ⟨Ad, cad, hvd, _⟩ := OwnR.reads hOd
              generalize (fs.take k ++ [y]).length = Ln at hvd
              subst hvd
              clear hOd
              have c2 := blk_at hbd 3 rfl
              have f2 := blk_free hbd 3
              go_simp
              refine hK.out _ _ ?_
              clear hK K c2 f2
              try simp only [Act.put, List.getElem_toArray, List.getElem_cons_succ, List.getElem_cons_zero, List.setIfInBounds_toArray, List.set_cons_zero, List.set_cons_succ]
              refine LastH.done (by kernel_rfl) (NoPanic.normal ?_) _
              try simp only [Act.put, List.getElem_toArray, List.getElem_cons_succ, List.getElem_cons_zero, List.setIfInBounds_toArray, List.set_cons_zero, List.set_cons_succ]
              have hTz : Turned ob wd (wd.setCell ⟨ob, 3, none⟩ (.slice Ad Ln cad)) := (Turned.refl ob wd).set_ _ _
              have hOz := Lib.hid (OwnR.turned (RFoundN.turned hbd hTz) HOD.out hTz hob4)
              have hbz := Lib.hid (blk_put hbd 3 (.slice Ad Ln cad))
              have hTT := Lib.hid (((hT.trans (Turned.of_ext hErc)).grown hgd hob9).trans hTz)
              generalize wd.setCell ⟨ob, 3, none⟩ (.slice Ad Ln cad) = wz at hOz hbz hTT ⊢
              clear hTz hbd hownd hgd hobd hown hreps hbc hRN hRF hTN hTF hRN2 hRF2 hTN2 hTF2
              go_wp2_with fail
              go_roundg (gk - 1)
              case measure => have := HK.out; omega
              case rel => exact ⟨k + 1, by have := HK.out; omega, by go_num, hTT.out, _, hbz.out, by rw [HTK.out]; exact hOz.out⟩
          · rw [if_pos (by rfl)]
            go_simp
            have he8 : Ext w5 (w5.alloc (.cells #[] 3)) := Ext.alloc _ _
            generalize hx8 : w5.alloc (.cells #[] 3) = x8 at he8 ⊢
            clear hx8
            have HSx8 := Lib.hid (HSX.out _ _ HSw5.out he8)
            refine hK.out _ _ HSx8.out (fun hHeld => ?_)
            clear hK K
            try simp only [Act.put, List.getElem_toArray, List.getElem_cons_succ, List.getElem_cons_zero, List.setIfInBounds_toArray, List.set_cons_zero, List.set_cons_succ]
            refine LastH.ready (rs := [4]) (by kernel_rfl) (by simp) ?_
            refine AllLast.cons (o := _) rfl (by decide) (fun K hK => ?_) AllLast.nil
            rw [if_pos (by rfl)]
            go_simp
            have he9 : Ext x8 (x8.alloc (.cells #[] 3)) := Ext.alloc _ _
            generalize hx9 : x8.alloc (.cells #[] 3) = x9 at he9 ⊢
            clear hx9
            have HSx9 := Lib.hid (HSX.out _ _ HSx8.out he9)
            refine hK.out _ _ HSx9.out (fun hHeld => ?_)
            clear hK K
            try simp only [Act.put, List.getElem_toArray, List.getElem_cons_succ, List.getElem_cons_zero, List.setIfInBounds_toArray, List.set_cons_zero, List.set_cons_succ]
            refine LastH.ready (rs := [7]) (by kernel_rfl) (by simp) ?_
            refine AllLast.cons (o := _) rfl (by decide) (fun K hK => ?_) AllLast.nil
            refine step_append_grows rfl (.tmp 55) (.tmp 57) 26 rfl 3 ii zi 1 8 Try.underlying26 hii hzi hsi hbi hzsi (by decide) (some ⟨x8.heap.size, 0, none⟩) 0 0 [] rfl (fun h => nomatch h) rfl (fun _ _ _ _ h => nomatch h) ⟨cb, co, none⟩ y.new.length c (y.new.map (Value.int .i64)) rfl (by simp) (rdI_cells (HC.out.ext HSx9.out.1) _ rfl) (by simp [Value.oneCell']) (by omega) (by unfold maxLen; omega) (by omega) ?_
            intro v10 x10 hob10 hgb10
            obtain ⟨gN, cN, rfl, hcN, hRN, hTN, hFN⟩ := own_fresh (enc := encI) hob10 (reps_ints x10 y.new) hl1
            have he10 := grown_none hgb10
            have HSx10 := Lib.hid (HSX.out _ _ HSx9.out he10)
            clear hob10 hgb10
            refine hK.out _ _ HSx10.out (fun hHeld => ?_)
            clear hK K
            try simp only [Act.put, List.getElem_toArray, List.getElem_cons_succ, List.getElem_cons_zero, List.setIfInBounds_toArray, List.set_cons_zero, List.set_cons_succ]
            refine LastH.ready (rs := [11]) (by kernel_rfl) (by simp) ?_
            refine AllLast.cons (o := _) rfl (by decide) (fun K hK => ?_) AllLast.nil
            refine step_append_grows rfl (.tmp 59) (.tmp 61) 26 rfl 3 ii zi 1 8 Try.underlying26 hii hzi hsi hbi hzsi (by decide) (some ⟨w5.heap.size, 0, none⟩) 0 0 [] rfl (fun h => nomatch h) rfl (fun _ _ _ _ h => nomatch h) ⟨fb, fo, none⟩ y.from_.length f (y.from_.map (Value.int .i64)) rfl (by simp) (rdI_cells (HFR.out.ext HSx10.out.1) _ rfl) (by simp [Value.oneCell']) (by omega) (by unfold maxLen; omega) (by omega) ?_
            intro v11 x11 hob11 hgb11
            obtain ⟨gF, cF, rfl, hcF, hRF, hTF, hFF⟩ := own_fresh (enc := encI) hob11 (reps_ints x11 y.from_) hfl1
            have he11 := grown_none hgb11
            have HSx11 := Lib.hid (HSX.out _ _ HSx10.out he11)
            clear hob11 hgb11
            refine hK.out _ _ HSx11.out (fun hHeld => ?_)
            clear hK K
            try simp only [Act.put, List.getElem_toArray, List.getElem_cons_succ, List.getElem_cons_zero, List.setIfInBounds_toArray, List.set_cons_zero, List.set_cons_succ]
            refine LastH.take (i := 12) (oi := _) (v := ?_) (by rfl) (by kernel_rfl) (by kernel_rfl) (by kernel_rfl) (by kernel_rfl) (fun _ _ _ h => h) (Or.inl ⟨by rfl, ?_⟩) (by assumption) ?_
            rotate_left
            · (intro w hSw; (try dsimp only at hSw); (try obtain ⟨_, _, _, _⟩ := hSw); go_simp; try with_reducible rfl)
            try simp only [Act.put, List.getElem_toArray, List.getElem_cons_succ, List.getElem_cons_zero, List.setIfInBounds_toArray, List.set_cons_zero, List.set_cons_succ]
            refine LastH.ready (rs := [13]) (by kernel_rfl) (by simp) ?_
            refine AllLast.cons (o := _) rfl (by decide) (fun K hK => ?_) AllLast.nil
            rw [if_pos (by rfl)]
            go_simp
            have hEc : Ext x11 (x11.alloc (.cells #[.int .i64 y.minute, .slice (some ⟨gN, 0, none⟩) y.new.length cN, .slice (some ⟨gF, 0, none⟩) y.from_.length cF] 50)) := Ext.alloc _ _
            have hbc := heap_alloc_new x11 (.cells #[.int .i64 y.minute, .slice (some ⟨gN, 0, none⟩) y.new.length cN, .slice (some ⟨gF, 0, none⟩) y.from_.length cF] 50)
            generalize hwc : x11.alloc (.cells #[.int .i64 y.minute, .slice (some ⟨gN, 0, none⟩) y.new.length cN, .slice (some ⟨gF, 0, none⟩) y.from_.length cF] 50) = wc at hEc hbc ⊢
            have HSwc := Lib.hid (HSX.out _ _ HSx11.out hEc)
            refine hK.out _ _ HSwc.out (fun hHeld => ?_)
            clear hK K
            try simp only [Act.put, List.getElem_toArray, List.getElem_cons_succ, List.getElem_cons_zero, List.setIfInBounds_toArray, List.set_cons_zero, List.set_cons_succ]
            refine LastH.ready (rs := [14]) (by kernel_rfl) (by simp) ?_
            refine AllLast.cons (o := _) rfl (by decide) (fun K hK => ?_) AllLast.nil
            rw [if_pos (by rfl)]
            have hErc : Ext wr wc := hEl.trans (hE5.trans (((((he8).trans he9).trans he10).trans he11).trans hEc))
            have hRN2 := RdI.ext (RdI.ext hRN (he11)) hEc
            have hFN2 := ((hFN.lower (Below.size HSx9.out.1)).ext (he11)).ext hEc
            have hTN2 := (hTN.ext (he11)).ext hEc
            have hRF2 := RdI.ext hRF hEc
            have hTF2 := hTF.ext hEc
            have hblX := hErc.heap HBL.out
            obtain ⟨cells, hown, hreps⟩ := OwnR.later (RFoundN.ext hErc) HO.out hErc
            have hob9 := own_base hown
            have htl : (fs.take k).length ≤ 6 := by rw [List.length_take]; omega
            refine wp_append_at (.tmp 52) (.tmp 64) 39 rfl w4.heap.size 50 ifd zf 3 56 Try.underlying39 hif hzf hsf hbf hzsf (by omega) v _ cells rfl hown ⟨_, 0, none⟩ 1 1 [.int .i64 y.minute, .slice (some ⟨gN, 0, none⟩) y.new.length cN, .slice (some ⟨gF, 0, none⟩) y.from_.length cF] rfl rfl (blk_cells hbc) (by simp [Value.oneCell']) (by unfold maxLen; omega) (by omega) (HSwc.out.2.2.2.2.2) ?_
            intro vd wd hownd hgd hobd
            have hEd : Ext w wd := grown_ext (hE.trans hErc) hgd (fun q hq => Nat.le_trans hw4 (hob9 q hq))
            have hbd : wd.heap[ob]? = some (.cells #[.int .i64 pl, .int .i64 last, .slice Am ms.length cam, v] 41 (0, 0)) := grown_heap hgd hob9 hob4 hblX
            have hlbo : v.ownBlock ≠ some lb := HLBO.out
            have hlk : ∀ i u, wc.cell? ⟨lb, i, none⟩ = some u → wd.cell? ⟨lb, i, none⟩ = some u := fun i u hu =>
              (World.cell?_of_block (hgd.block lb (World.block_lt_of_cell? wc _ hu) (fun e => hlbo e.symm))).trans hu
            refine hK.out _ _ ⟨hEd, hlk _ _ HSwc.out.2.1, hlk _ _ HSwc.out.2.2.1, hlk _ _ HSwc.out.2.2.2.1, blk_at hbd 3 rfl, Nat.le_trans HSwc.out.2.2.2.2.2 hgd.size⟩ (fun hHeld => ?_)
            clear hK K
            try simp only [Act.put, List.getElem_toArray, List.getElem_cons_succ, List.getElem_cons_zero, List.setIfInBounds_toArray, List.set_cons_zero, List.set_cons_succ]
            refine LastH.take (i := 15) (oi := _) (v := ?_) (by rfl) (by kernel_rfl) (by kernel_rfl) (by kernel_rfl) (by kernel_rfl) (fun _ _ _ h => h) (Or.inl ⟨by rfl, ?_⟩) (by assumption) ?_
            rotate_left
            · (intro w hSw; (try dsimp only at hSw); (try obtain ⟨_, _, _, _⟩ := hSw); go_simp; try with_reducible rfl)
            try simp only [Act.put, List.getElem_toArray, List.getElem_cons_succ, List.getElem_cons_zero, List.setIfInBounds_toArray, List.set_cons_zero, List.set_cons_succ]
            refine LastH.ready (rs := [16]) (by kernel_rfl) (by simp) ?_
            refine AllLast.last (o := _) rfl (fun K hK => ?_)
            rw [if_pos (by rfl)]
            have hOd := OwnR.snoc (RFoundN.grown hown hgd) hreps (RFoundN.grown hown hgd y _ ⟨⟨_, cN, _, cF, rfl, hcN, hcF, hRN2, hRF2, hTN2, hTF2⟩, _, cN, _, rfl, hFN2⟩) rfl hownd
            have HOD := Lib.hid hOd
            obtain ⟨Ad, cad, hvd, _⟩ := OwnR.reads hOd
            generalize (fs.take k ++ [y]).length = Ln at hvd
            subst hvd
            clear hOd
            have c2 := blk_at hbd 3 rfl
            have f2 := blk_free hbd 3
            go_simp
            refine hK.out _ _ ?_
            clear hK K c2 f2
            try simp only [Act.put, List.getElem_toArray, List.getElem_cons_succ, List.getElem_cons_zero, List.setIfInBounds_toArray, List.set_cons_zero, List.set_cons_succ]
            refine LastH.done (by kernel_rfl) (NoPanic.normal ?_) _
            try simp only [Act.put, List.getElem_toArray, List.getElem_cons_succ, List.getElem_cons_zero, List.setIfInBounds_toArray, List.set_cons_zero, List.set_cons_succ]
            have hTz : Turned ob wd (wd.setCell ⟨ob, 3, none⟩ (.slice Ad Ln cad)) := (Turned.refl ob wd).set_ _ _
            have hOz := Lib.hid (OwnR.turned (RFoundN.turned hbd hTz) HOD.out hTz hob4)
            have hbz := Lib.hid (blk_put hbd 3 (.slice Ad Ln cad))
            have hTT := Lib.hid (((hT.trans (Turned.of_ext hErc)).grown hgd hob9).trans hTz)
            generalize wd.setCell ⟨ob, 3, none⟩ (.slice Ad Ln cad) = wz at hOz hbz hTT ⊢
            clear hTz hbd hownd hgd hobd hown hreps hbc hRN hRF hTN hTF hRN2 hRF2 hTN2 hTF2
            go_wp2_with fail
            go_roundg (gk - 1)
            case measure => have := HK.out; omega
            case rel => exact ⟨k + 1, by have := HK.out; omega, by go_num, hTT.out, _, hbz.out, by rw [HTK.out]; exact hOz.out⟩
        · obtain rfl : k = fs.length := by omega
          rw [List.take_length] at hO
          obtain ⟨Af, caf, rfl, hcaf, hRf⟩ := OwnR.reads hO
          have HTF := Lib.hid (OwnR.ty hO)
          clear hk hlt hO HO
          have c0 := blk_at HBL.out 0 rfl
          have c1 := blk_at HBL.out 1 rfl
          have c2 := blk_at HBL.out 2 rfl
          have c3 := blk_at HBL.out 3 rfl
          have hrbo : rb ≠ ob := by omega
          have hrw : wr.heap[rb]? = some (.cells #[.int .i64 0, .int .i64 0, .slice none 0 0, .slice none 0 0] 41 (0, 0)) := (HT4.out.trans hT).heap_ hrbo HRB.out
          have d0 := blk_at hrw 0 rfl
          have d1 := blk_at hrw 1 rfl
          have d2 := blk_at hrw 2 rfl
          have d3 := blk_at hrw 3 rfl
          have e0 := blk_free hrw 0
          have e1 := blk_free hrw 1
          have e2 := blk_free hrw 2
          have e3 := blk_free hrw 3
          have HRW := Lib.hid hrw
          have HRF := Lib.hid hRf
          clear hRf hrw
          go_wp2_with fail
          have hz := blk_put (blk_put (blk_put (blk_put HRW.out 0 (.int .i64 pl)) 1 (.int .i64 last)) 2 (.slice Am ms.length cam)) 3 (.slice Af fs.length caf)
          have hTz : Turned rb wr ((((wr.setCell ⟨rb, 0, none⟩ (.int .i64 pl)).setCell ⟨rb, 1, none⟩ (.int .i64 last)).setCell ⟨rb, 2, none⟩ (.slice Am ms.length cam)).setCell ⟨rb, 3, none⟩ (.slice Af fs.length caf)) := ((((Turned.refl rb wr).set_ _ _).set_ _ _).set_ _ _).set_ _ _
          generalize (((wr.setCell ⟨rb, 0, none⟩ (.int .i64 pl)).setCell ⟨rb, 1, none⟩ (.int .i64 last)).setCell ⟨rb, 2, none⟩ (.slice Am ms.length cam)).setCell ⟨rb, 3, none⟩ (.slice Af fs.length caf) = wz at hz hTz ⊢
          have z0 := blk_at hz 0 rfl
          have z1 := blk_at hz 1 rfl
          have z2 := blk_at hz 2 rfl
          have z3 := blk_at hz 3 rfl
          have hRM5 := RdL.turnedR (R := RMachT) (by decide) (RMachT.turned HB4.out hT) HB4.out hT HTM.out HRM.out
          have hTM5 := TyAt.turned (by decide) HB4.out hT HTM.out
          have hRMz := RdL.imp RMachT.plain (RdL.turnedR (R := RMachT) (by decide) (RMachT.turned HRW.out hTz) HRW.out hTz hTM5 hRM5)
          have hRFz := (RdL.turnedR (R := RFoundN w.heap.size) (by decide) (RFoundN.turned HRW.out hTz) HRW.out hTz HTF.out HRF.out)
          exact bodyPost_ret (v := .agg #[.int .i64 pl, .int .i64 last, .slice Am ms.length cam, .slice Af fs.length caf]) (by simp [results, Try.results17, go_sem, z0, z1, z2, z3]) rfl ⟨Am, Af, cam, caf, rfl, hRMz, hRFz, HTF.out.turned (by decide) HRW.out hTz, hTz.below hE (by have := hE0.size; omega)⟩
end Go.Proofs.Ytloenmikkkklhaa

/-
  The layer 'copies': ways.
-/
import Derived.Test.YtloenmikkkklhaaP4c
import Derived.Deep.RegionHeld3
import Derived.Deep.RegionLawGrows
namespace Go.Proofs.Ytloenmikkkklhaa
open Go.RowKit

theorem Turned.setRow_ {g : Nat} {a b : World} (h : Turned g a b) (cs : Array Value) : Turned g a (b.setRow g cs) :=
  h.trans ⟨rfl, rfl, rfl, by simp [World.setRow], fun k _ hk => setRow_other b g k cs (by omega)⟩
theorem way_splice (v : Value) (wh : List Int) (i : Nat) (l : List Span) (h : i + l.length * 2 ≤ wh.length) :
    ((wayCells v wh).toList.take (1 + i) ++ l.flatMap encS ++ (wayCells v wh).toList.drop (1 + i + (l.flatMap encS).length)).toArray = wayCells v (copySpans wh i l) := by
  rw [copySpans_splice l wh i h]
  have hl : (l.flatMap encS).length = l.length * 2 := by
    clear h
    induction l with
    | nil => rfl
    | cons s r ih => rw [List.flatMap_cons, List.length_append, ih]; simp [encS]; omega
  have hm : l.flatMap encS = (l.flatMap fun s => [s.lo, s.hi]).map (Value.int .i64) := by
    clear h hl
    induction l with
    | nil => rfl
    | cons s r ih => rw [List.flatMap_cons, List.flatMap_cons, ih]; simp [encS]
  rw [hl, hm]
  simp only [wayCells]
  rw [show 1 + i = i + 1 by omega, show i + 1 + l.length * 2 = (i + l.length * 2) + 1 by omega, List.take_succ_cons, List.drop_succ_cons]
  simp
theorem spans_cells {w : World} {b o : Nat} {l : List Span} (h : RdS w (some ⟨b, o, none⟩) l) : ∀ j v, (l.flatMap encS)[j]? = some v → w.cell? ((⟨b, o, none⟩ : Addr).add j) = some v := by
  intro j v hv
  have key : ∀ (l : List Span) (j : Nat), (l.flatMap encS)[j]? = (l[j / 2]?).bind fun s => (encS s)[j % 2]? := by
    intro l
    induction l with
    | nil => intro j; simp
    | cons s r ih =>
      intro j
      rw [List.flatMap_cons]
      by_cases hj : j < 2
      · rw [List.getElem?_append_left (by simpa [encS] using hj), show j / 2 = 0 by omega, show j % 2 = j by omega]; simp
      · rw [List.getElem?_append_right (by simp [encS]; omega), ih]
        have : (encS s).length = 2 := rfl
        rw [this, show j / 2 = (j - 2) / 2 + 1 by omega, List.getElem?_cons_succ, show (j - 2) % 2 = j % 2 by omega]
  rw [key] at hv
  cases hs : l[j / 2]? with
  | none => rw [hs] at hv; cases hv
  | some s =>
    rw [hs] at hv
    obtain ⟨cs, rfl, _, hc⟩ := RdL.at h hs
    have := hc (j % 2) v hv
    rw [add_plain]
    rwa [show o + j / 2 * 2 + j % 2 = o + j by omega] at this
theorem spans_one (l : List Span) : ∀ v ∈ l.flatMap encS, v.oneCell' = true := by
  intro v hv
  obtain ⟨s, _, h⟩ := List.mem_flatMap.1 hv
  simp [encS] at h
  rcases h with rfl | rfl <;> rfl
theorem info_span : (Try.prog.info? 48).map (·.size) = some 2 := by kernel_rfl
theorem info_way : (Try.prog.info? 94).map (fun i => (i.zero, i.size, i.bytes)) = some (some (.agg #[.slice none 0 0, .int .i64 0, .int .i64 0, .int .i64 0, .int .i64 0, .int .i64 0, .int .i64 0, .int .i64 0, .int .i64 0, .int .i64 0, .int .i64 0, .int .i64 0, .int .i64 0, .int .i64 0, .int .i64 0, .int .i64 0, .int .i64 0, .int .i64 0, .int .i64 0]), 19, 168) := by kernel_rfl

theorem way_size {v : Value} {wh : List Int} (h : wh.length = 18) : (wayCells v wh).size = 19 := by simp [wayCells, h]
theorem info_way_size : (Try.prog.info? 94).map (·.size) = some 19 := by kernel_rfl
theorem info_way_at : ∃ i z, Try.prog.info? 94 = some i ∧ i.zero = some z ∧ z.cells.size = 19 ∧ i.size = 19 ∧ i.bytes = 168 := by
  have h := info_way
  cases hi : Try.prog.info? 94 with
  | none => rw [hi] at h; cases h
  | some i =>
    rw [hi] at h
    simp only [Option.map_some, Option.some.injEq, Prod.mk.injEq] at h
    exact ⟨i, _, rfl, h.1, rfl, h.2.1, h.2.2⟩
theorem info_changes : (Try.prog.info? 92).map (·.size) = some 18 := by kernel_rfl
theorem first_reads {w : World} {g : Nat} {wh : List Int} (h : w.heap[g]? = some (.cells (wayCells (.slice none 0 0) wh) 94 (0, 0))) (hl : wh.length = 18) : RdWay w (some ⟨g, 0, none⟩) [⟨[], wh⟩] := by
  refine .inr ⟨g, 0, rfl, fun i x hx => ?_⟩
  have hi : i = 0 := by
    have := (List.getElem?_eq_some_iff.1 hx).1
    simpa using this
  subst hi
  cases hx
  refine ⟨_, ⟨none, 0, rfl, hl, Nat.le_refl _, .inl rfl, .inl ⟨rfl, rfl, rfl⟩⟩, by simp [hl], fun j v hv => ?_⟩
  have := blk_at h j (v := v) (by simpa [wayCells] using hv)
  simpa using this
theorem waysUpto_ok (ms : List Machine) (fs : List Found) : ∀ k, ∀ x ∈ waysUpto ms fs k, x.when_.length = 18 ∧ x.from_.length = k
  | 0, x, h => by
    simp only [waysUpto, List.mem_singleton] at h
    subst h
    exact ⟨firstUpto_length _ _, rfl⟩
  | k + 1, x, h => by
    rw [waysUpto, stepC, List.mem_flatMap] at h
    obtain ⟨y, hy, h⟩ := h
    rw [stepW, List.mem_flatMap] at h
    obtain ⟨m, _, h⟩ := h
    obtain ⟨h1, h2⟩ := waysUpto_ok ms fs k y hy
    obtain ⟨h3, h4⟩ := stepM_ok h h1
    exact ⟨h3, by rw [h4, h2]⟩

theorem own_empty {w : World} {base : Nat} {v : Value} {xs : List Int} {m : Int} (hx : xs = []) (h : w.ownsRow base 3 1 v (0 + 1) ([] ++ [.int .i64 m])) : w.ownsRow base 3 1 v (xs.length + 1) (xs.map (Value.int .i64) ++ [.int .i64 m]) := by subst hx; exact h
def Old (w : World) (v : Value) : Prop := ∀ q, v.ownBlock = some q → q < w.heap.size
theorem Old.fresh {w : World} {v : Value} (h : Old w v) : v.ownBlock ≠ some w.heap.size := fun e => Nat.lt_irrefl _ (h _ e)
theorem OwnWay.lt {w : World} {base : Nat} {v : Value} {xs : List Way} (h : OwnWay w base v xs) : Old w v := fun q hq => by
  obtain ⟨cells, ⟨_, h2⟩, _⟩ := h
  rcases h2 with ⟨rfl, _⟩ | ⟨g, cap, cur, rfl, _, hh, _⟩
  · cases hq
  · cases hq; exact blk_lt hh

theorem sw_drew {wr w : World} {a : Addr} {u : Value} {pb o : Nat} {cs : List Value} (h : Ext wr w ∧ w.cell? a = some u ∧ w.rangeAt pb o cs) : Ext wr w.drew ∧ w.drew.cell? a = some u ∧ w.drew.rangeAt pb o cs := ⟨h.1.trans (Ext.drew _), h.2.1, h.2.2⟩
theorem sw_ext {wr w w' : World} {a : Addr} {u : Value} {pb o : Nat} {cs : List Value} (h : Ext wr w ∧ w.cell? a = some u ∧ w.rangeAt pb o cs) (he : Ext w w') : Ext wr w' ∧ w'.cell? a = some u ∧ w'.rangeAt pb o cs :=
  ⟨h.1.trans he, he.cell h.2.1, fun j v hv => he.cell (h.2.2 j v hv)⟩
theorem grown_none {w w' : World} (h : w.grownBy w' none) : Ext w w' := ⟨h.os, h.tape, h.output, h.size, fun k hk => h.block k hk (by simp)⟩

set_option maxRecDepth 100000 in
set_option maxHeartbeats 4000000 in
theorem ways6 (pl last : Int) (A B : Option Addr) (ms : List Machine) (fs : List Found) (cm ck : Nat) (w : World) (hv : OkRun pl last ms fs) (hA : RdMach w A ms) (hB : RdFound w B fs) :
    Calls Try.prog 67 #[.agg #[.int .i64 pl, .int .i64 last, .slice A ms.length cm, .slice B fs.length ck]] w
      fun e w' => ∃ D cd, e = .returned (.slice D (waysOf ms fs).length cd) ∧ (waysOf ms fs).length ≤ cd ∧ RdWay w' D (waysOf ms fs) ∧ Ext w w' := by
  obtain ⟨hpl, hlast, hms, hfs, hmach, hfound⟩ := hv
  obtain ⟨iw, zw, hiw, hzw, hzsw, hsw, hbw⟩ := info_way_at
  have hm : (ms.length : Int) ≤ 9223372036854775807 := by omega
  have hm2 : (fs.length : Int) ≤ 9223372036854775807 := by omega
  have HA := Lib.hid hA
  have HB := Lib.hid hB
  have HM := Lib.hid hmach
  have HF := Lib.hid hfound
  clear hA hB hmach hfound
  go_enter Try.func67, Try.ntmps67
  go_upto_region 1 with fail
  obtain ⟨w1, p0, e1, e2, hE0, pblk⟩ := new_block w #[.int .i64 pl, .int .i64 last, .slice A ms.length cm, .slice B fs.length ck] 41
  rw [e1, e2]
  clear e1 e2
  have r2 : w1.cell? ⟨p0, 2, none⟩ = some (.slice A ms.length cm) := blk_at pblk 2 rfl
  have r3 : w1.cell? ⟨p0, 3, none⟩ = some (.slice B fs.length ck) := blk_at pblk 3 rfl
  clear pblk
  refine wp_region_lit ?_
  refine wpList_plain rfl (fun K hK => ?_)
  go_simp
  refine hK _ _ ?_
  clear hK K
  refine wpList_plain rfl (fun K hK => ?_)
  go_simp
  refine hK _ _ ?_
  clear hK K
  refine wpList_store_blk rfl 94 (.tmp 3) (.tmp 15) rfl w1.heap.size 94 _ _ rfl rfl (heap_alloc_new w1 _) (by kernel_rfl) rfl (by simp [Value.oneCell']) ?_
  intro w2 hT2 hblk2
  simp only [Act.put]
  have hfb : w1.heap.size ≤ w1.heap.size := Nat.le_refl _
  generalize hfbe : w1.heap.size = fb at hblk2 hfb hT2 ⊢
  have hE2 : Ext w1 w2 := hT2.below (Ext.alloc _ _) (by omega)
  have hw0 : wayCells (.slice none 0 0) (firstUpto ms 0) = #[.slice none 0 0, .int .i64 0, .int .i64 0, .int .i64 0, .int .i64 0, .int .i64 0, .int .i64 0, .int .i64 0, .int .i64 0, .int .i64 0, .int .i64 0, .int .i64 0, .int .i64 0, .int .i64 0, .int .i64 0, .int .i64 0, .int .i64 0, .int .i64 0, .int .i64 0] := by simp [wayCells, firstUpto]
  rw [← hw0] at hblk2
  have HBL := Lib.hid hblk2
  have HFB := Lib.hid hfbe
  clear hblk2 hfbe hT2 hw0 hfb
  have s2 := hE2.cell r2
  go_wp2_with fail
  clear s2
  go_loopg [19] ms.length (fun g i wr => ∃ k : Nat, k + g = ms.length ∧ i = .int .i64 k ∧ Ext w1 wr ∧ wr.heap[fb]? = some (.cells (wayCells (.slice none 0 0) (firstUpto ms k)) 94 (0, 0)))
  case atStart => exact ⟨0, by omega, rfl, hE2, HBL.out⟩
  case round =>
    obtain ⟨k, hk, rfl, hE, hbl⟩ := hrel
    have HK := Lib.hid hk
    have HB1 := Lib.hid hbl
    by_cases hlt : k < ms.length
    · clear hk hbl
      have hx : ms[k]? = some ms[k] := List.getElem?_eq_getElem hlt
      have hmem : ms[k] ∈ ms := List.getElem_mem hlt
      have hnext : firstUpto ms (k + 1) = copySpans (firstUpto ms k) (k * 6) ms[k].changes := by rw [firstUpto, hx]; rfl
      generalize ms[k] = y at hx hmem hnext
      obtain ⟨bb, oo, hAe⟩ := HA.out.base (by omega)
      subst hAe
      obtain ⟨C, c, f0, f1, hcc, hS⟩ := (HA.out.ext (hE0.trans hE)).at hx
      obtain ⟨hl, _, _⟩ := HM.out y hmem
      have hl3 : y.changes.length ≤ 3 := by omega
      have hl1 : 0 < y.changes.length := by omega
      have HN := Lib.hid hnext
      have HS := Lib.hid hS
      clear hx hmem hnext hS hl
      have hk3 : (k : Int) < 3 := by omega
      go_upto_region 5 with fail
      obtain ⟨wl, lb, e1, e2, hEl, lblk⟩ := new_block wr #[.slice C y.changes.length c, .int .i64 y.rate] 44
      rw [e1, e2]
      clear e1 e2
      have l0 : wl.cell? ⟨lb, 0, none⟩ = some (.slice C y.changes.length c) := blk_at lblk 0 rfl
      have HB2 := Lib.hid (hEl.heap HB1.out)
      obtain ⟨cb, co, hCe⟩ := HS.out.base hl1
      subst hCe
      have hcp : ∀ ty, (Builtin.copy_ #[42, 42] ty #[.slice (some ⟨fb, 1 + k * 6, none⟩) 3 3, .slice (some ⟨cb, co, none⟩) y.changes.length c]).run Try.prog wl.drew =
          .ok (goInt (Nat.min y.changes.length 3)) (wl.drew.setRow fb (wayCells (.slice none 0 0) (firstUpto ms (k + 1)))) := fun ty => by
        have hlw := firstUpto_length ms k
        have h := run_copy_rows (P := Try.prog) wl.drew 42 42 ty 48 fb (1 + k * 6) 3 3 2 ⟨cb, co, none⟩ y.changes.length c (wayCells (.slice none 0 0) (firstUpto ms k)) 94 (y.changes.flatMap encS)
          Try.underlying42 info_span HB2.out (by
            have hl : ∀ l : List Span, (l.flatMap encS).length = l.length * 2 := fun l => by
              induction l with
              | nil => rfl
              | cons s r ih => rw [List.flatMap_cons, List.length_append, ih]; simp [encS]; omega
            rw [hl, show Nat.min y.changes.length 3 = y.changes.length from Nat.min_eq_left hl3]) (spans_cells (HS.out.ext (hEl.trans (Ext.drew _)))) (by
            have hl : ∀ l : List Span, (l.flatMap encS).length = l.length * 2 := fun l => by
              induction l with
              | nil => rfl
              | cons s r ih => rw [List.flatMap_cons, List.length_append, ih]; simp [encS]; omega
            rw [hl]
            simp [wayCells, hlw]
            omega) (spans_one _)
        rw [way_splice _ _ _ _ (by rw [hlw]; omega), ← HN.out] at h
        exact h
      have HCP := Lib.hid hcp
      clear hcp f0 f1 lblk
      go_region_law ((refine step_copy_run rfl _ _ _ _ rfl _ _ rfl rfl (HCP.out _) ?_))
      go_wp2_with fail
      go_roundg (gk - 1)
      case measure => have := HK.out; omega
      case rel => exact ⟨k + 1, by have := HK.out; omega, by go_num, (((Turned.refl fb wl).drew_).setRow_ _).below (hE.trans hEl) (by rw [HFB.out]; exact Nat.le_refl _), setRow_heap _ _ _ _ _ _ HB2.out⟩
    · obtain rfl : k = ms.length := by omega
      clear hk hbl
      have s3 := hE.cell r3
      go_upto_region 7 with fail
      refine wp_region_lit ?_
      refine wpList_load_row rfl 94 (.tmp 3) rfl fb rfl 94 _ (0, 0) _ HB1.out Try.underlying94 rfl (by rw [info_way_size]; simp [wayCells, firstUpto_length]) ?_
      simp only [Act.put]
      have hws : (wayCells (.slice none 0 0) (firstUpto ms ms.length)).size = 19 := way_size (firstUpto_length _ _)
      refine wpList_build1 rfl 85 94 (.tmp 32) rfl (wayCells (.slice none 0 0) (firstUpto ms ms.length)) 19 iw zw rfl hws (by omega) (by omega) Try.underlying85 hiw hzw hsw ?_
      intro w3 hE3 hblk3
      simp only [Act.put]
      have hA3 := first_reads hblk3 (firstUpto_length _ _)
      have hE13 : Ext w1 w3 := hE.trans hE3
      have s3 := hE13.cell r3
      generalize wr.heap.size = lb at hA3 ⊢
      have HA3 := Lib.hid hA3
      clear hblk3 hA3 hws hE hE3 hE2 HBL HFB HB1 HK HA HM
      go_upto_region 9 with fail
      clear s3
      go_loopg [6, 37] fs.length (fun g l i wr => ∃ k : Nat, k + g = fs.length ∧ i = .int .i64 k ∧ Ext w1 wr ∧ ∃ D cd, l = .slice D (waysUpto ms fs k).length cd ∧ (waysUpto ms fs k).length ≤ cd ∧ RdWay wr D (waysUpto ms fs k))
      case atStart => exact ⟨0, by omega, rfl, hE13, _, 1, rfl, Nat.le_refl _, HA3.out⟩
      case round =>
        obtain ⟨k, hk, rfl, hE, D, cd, rfl, hcd, hD⟩ := hrel
        have HK := Lib.hid hk
        have HD := Lib.hid hD
        by_cases hlt : k < fs.length
        · clear hk hD
          have hx : fs[k]? = some fs[k] := List.getElem?_eq_getElem hlt
          have hmem : fs[k] ∈ fs := List.getElem_mem hlt
          have hnext : waysUpto ms fs (k + 1) = stepC (waysUpto ms fs k) fs[k] := by rw [waysUpto, hx]; rfl
          have HOK := Lib.hid (waysUpto_ok ms fs k)
          have hln : (waysUpto ms fs k).length ≤ 3 ^ k := waysUpto_length ms fs (fun c hc => (HF.out c hc).2.2.1.2) k
          have hln2 : (waysUpto ms fs k).length ≤ 729 := Nat.le_trans hln (Nat.le_trans (Nat.pow_le_pow_right (by omega) (show k ≤ 6 by omega)) (by decide))
          generalize fs[k] = c at hx hmem hnext
          generalize waysUpto ms fs k = L at HD HOK hcd hln2 hnext ⊢
          obtain ⟨bb, oo, hBe⟩ := HB.out.base (by omega)
          subst hBe
          obtain ⟨C, cn, F, cf, f0, f1, f2, hcn, hcf, hC, hF⟩ := (HB.out.ext (hE0.trans hE)).at hx
          obtain ⟨hmin, hnew, hfrom, hns, hfr⟩ := HF.out c hmem
          have hl3 : c.from_.length ≤ 3 := hfrom.2
          have hl1 : 0 < c.from_.length := by omega
          have HN := Lib.hid hnext
          have HC := Lib.hid hC
          have HFR := Lib.hid hF
          have HFM := Lib.hid hfr
          have hnew3 : c.new.length ≤ 3 := by omega
          have hmin2 : 0 ≤ c.minute ∧ c.minute ≤ 30 := by omega
          have hnew1 : 0 < c.new.length := by omega
          have HNEW := Lib.hid hnew1
          have HMIN := Lib.hid hmin2
          have HNEW3 := Lib.hid hnew3
          clear hx hmem hnext hC hF hfr hnew hmin hns hnew1 hmin2 hnew3 hln
          go_upto_region 11 with fail
          obtain ⟨wc, pc, e1, e2, hEc, cblk⟩ := new_block wr #[.int .i64 c.minute, .slice C c.new.length cn, .slice F c.from_.length cf] 50
          rw [e1, e2]
          clear e1 e2 f0 f1 f2
          have c0 : wc.cell? ⟨pc, 0, none⟩ = some (.int .i64 c.minute) := blk_at cblk 0 rfl
          have c1 : wc.cell? ⟨pc, 1, none⟩ = some (.slice C c.new.length cn) := blk_at cblk 1 rfl
          have c2 : wc.cell? ⟨pc, 2, none⟩ = some (.slice F c.from_.length cf) := blk_at cblk 2 rfl
          have HC0 := Lib.hid c0
          have HC1 := Lib.hid c1
          have HC2 := Lib.hid c2
          clear c0 c1 c2 cblk
          go_upto_region 13 with fail
          obtain ⟨kk, rfl⟩ : ∃ x : Nat, x = k := ⟨_, rfl⟩
          obtain ⟨og, rfl⟩ : ∃ og : Nat, og = gk := ⟨_, rfl⟩
          obtain ⟨wo, rfl⟩ : ∃ wo : World, wo = wr := ⟨_, rfl⟩
          go_loopg [9, 43] L.length (fun g v i wr => ∃ k : Nat, k + g = L.length ∧ i = .int .i64 k ∧ Ext wc wr ∧ OwnWay wr wc.heap.size v (stepC (L.take k) c))
          case atStart => exact ⟨0, by omega, rfl, Ext.refl _, OwnR.none_ _ _ _ _ _⟩
          case round =>
            obtain ⟨k, hk, rfl, hE3, hO⟩ := hrel
            have HK3 := Lib.hid hk
            have HO := Lib.hid hO
            by_cases hlt3 : k < L.length
            · clear hk hO
              have hx : L[k]? = some L[k] := List.getElem?_eq_getElem hlt3
              have hmem : L[k] ∈ L := List.getElem_mem hlt3
              have hnext : stepC (L.take (k + 1)) c = stepC (L.take k) c ++ stepW c L[k] := by simp only [stepC]; rw [List.take_add_one, hx, List.flatMap_append]; simp
              generalize L[k] = x at hx hmem hnext
              obtain ⟨db, do_, hDe⟩ := HD.out.base (by omega)
              subst hDe
              obtain ⟨cs, ⟨A, ca, rfl, h18, hca, hxA, hIA⟩, hcl, hcell⟩ := (HD.out.ext hEc).at hx
              have HMN := Lib.hid (HOK.out x hmem).2
              have hk3 : (k : Int) < L.length := by omega
              have HX := Lib.hid hxA
              have HIA := Lib.hid hIA
              have HN3 := Lib.hid hnext
              have HRA : wr.rangeAt db (do_ + k * 19) (.slice A x.from_.length ca :: x.when_.map (Value.int .i64)) := fun j v hv => hE3.cell (hcell j v hv)
              have HR := Lib.hid HRA
              clear hx hmem hnext hxA hIA hcell HRA
              go_upto_region 14 with fail
              refine wp_region_lit ?_
              refine wpList_plain rfl (fun K hK => ?_)
              go_simp
              refine hK _ _ ?_
              clear hK K
              refine wpList_load_mid rfl 94 (.tmp 45) rfl db (do_ + k * 19) rfl _ _ HR.out Try.underlying94 rfl (by rw [info_way_size]; simp [h18]) ?_
              refine wpList_plain rfl (fun K hK => ?_)
              go_simp
              refine hK _ _ ?_
              clear hK K
              refine wpList_store_blk rfl 94 (.tmp 11) (.tmp 46) rfl wr.heap.size 94 _ _ rfl rfl (heap_alloc_new wr _) (by rw [info_way_size]; simp [h18]) (by simp [h18]) (by simp [Value.oneCell']) ?_
              intro wp hTp hblkp
              simp only [Act.put]
              have hEp : Ext wr wp := hTp.below (Ext.alloc _ _) (Nat.le_refl _)
              have hsz := hEp.size
              have hpl := blk_lt hblkp
              have hwc := hE3.size
              have HOp := OwnR.later (RWay.ext hEp) HO.out hEp
              have hOb := OwnWay.lt HO.out
              have hOn := hOb.fresh
              have hblkp2 : wp.heap[wr.heap.size]? = some (.cells (wayCells (.slice A x.from_.length ca) x.when_) 94 (0, 0)) := hblkp
              have hpb : wc.heap.size ≤ wr.heap.size := hwc
              have HOP := Lib.hid HOp
              have HON := Lib.hid hOn
              generalize wr.heap.size = pb at hblkp2 hpl hpb HON ⊢
              have HBP := Lib.hid hblkp2
              have hEcp : Ext wc wp := hE3.trans hEp
              clear hTp hblkp hblkp2 hEp hsz HOp hOb hOn hwc
              have c2 := hEcp.cell HC2.out
              go_upto_region 16 with fail
              clear c2
              obtain ⟨k3, rfl⟩ : ∃ x : Nat, x = k := ⟨_, rfl⟩
              obtain ⟨og3, rfl⟩ : ∃ og : Nat, og = gk := ⟨_, rfl⟩
              obtain ⟨wo3, rfl⟩ : ∃ wo : World, wo = wr := ⟨_, rfl⟩
              go_loopg [9, 50] c.from_.length (fun g v i wr => ∃ k : Nat, k + g = c.from_.length ∧ i = .int .i64 k ∧ Ext wc wr ∧ OwnWay wr wc.heap.size v (stepC (L.take k3) c ++ (c.from_.take k).flatMap (stepM c x)) ∧ v.ownBlock ≠ some pb ∧ wr.heap[pb]? = some (.cells (wayCells (.slice A x.from_.length ca) x.when_) 94 (0, 0)))
              case atStart => exact ⟨0, by omega, rfl, hEcp, by simpa using HOP.out, HON.out, HBP.out⟩
              case round =>
                obtain ⟨k, hk, rfl, hE4, hO, hno, hbp⟩ := hrel
                have HK4 := Lib.hid hk
                have HO4 := Lib.hid hO
                have HBP4 := Lib.hid hbp
                have HNO := Lib.hid hno
                by_cases hlt4 : k < c.from_.length
                · clear hk hO hbp hno
                  have hx : c.from_[k]? = some c.from_[k] := List.getElem?_eq_getElem hlt4
                  have hnext : (c.from_.take (k + 1)).flatMap (stepM c x) = (c.from_.take k).flatMap (stepM c x) ++ stepM c x c.from_[k] := by rw [List.take_add_one, hx, List.flatMap_append]; simp
                  generalize c.from_[k] = m at hx hnext
                  obtain ⟨hm1, _⟩ := HFM.out k m hx
                  obtain ⟨m, rfl⟩ : ∃ n : Nat, m = (n : Int) := ⟨m.toNat, by omega⟩
                  have hm3 : (m : Int) < 3 := by omega
                  obtain ⟨fb2, fo2, hFe⟩ := HFR.out.base (by omega)
                  subst hFe
                  have f0 := (HFR.out.ext (hEc.trans hE4)).at hx
                  have HN4 := Lib.hid hnext
                  clear hx hnext hm1
                  go_upto_region 18 with fail
                  clear f0
                  obtain ⟨wce, rfl⟩ : ∃ y : World, y = wc := ⟨_, rfl⟩
                  go_cut [14] (fun p wx => ∃ ob B cb, p = .pointer (some ⟨ob, 0, none⟩) ∧ Ext wr wx ∧ wr.heap.size ≤ ob ∧ wx.heap[ob]? = some (.cells (wayCells (.slice B (x.from_.length + 1) cb) x.when_) 94 (0, 0)) ∧ x.from_.length + 1 ≤ cb ∧ RdI wx B (x.from_ ++ [(m : Int)]) ∧ IntAt wx B (x.from_.length + 1) cb)
                  case first =>
                    have p0 := blk_at HBP4.out 0 (way_0 _ _)
                    have p1 : wr.rangeAt pb 1 (x.when_.map (Value.int .i64)) := fun j v hv => by
                      refine blk_at HBP4.out (1 + j) ?_
                      simp only [wayCells, List.getElem?_toArray]
                      rw [Nat.add_comm, List.getElem?_cons_succ]
                      exact hv
                    have hu92 := Try.underlying92
                    have hi92 : (Try.prog.info? 92).map (·.size) = some (x.when_.map (Value.int .i64)).length := by rw [info_changes]; simp [h18]
                    obtain ⟨i0, hii, hz0, hz1, hz2⟩ : ∃ i0, Try.prog.info? 3 = some i0 ∧ i0.zero = some (.int .i64 0) ∧ i0.size = 1 ∧ i0.bytes = 8 := by
                      have h := info_int
                      cases hi : Try.prog.info? 3 with
                      | none => rw [hi] at h; cases h
                      | some i =>
                        rw [hi] at h
                        simp only [Option.map_some, Option.some.injEq, Prod.mk.injEq] at h
                        exact ⟨i, rfl, h.1, h.2.1, h.2.2⟩
                    have hn6 : x.from_.length ≤ 6 := by have := HMN.out; omega
                    have hst : Ext wr wr ∧ wr.cell? ⟨pb, 0, none⟩ = some (.slice A x.from_.length ca) ∧ wr.rangeAt pb 1 (x.when_.map (Value.int .i64)) := ⟨Ext.refl _, p0, p1⟩
                    rcases HIA.out with ⟨rfl, hn0, rfl⟩ | ⟨b, o, ds, fr, rfl, hbi⟩
                    · refine wp_region_noPanic ?_
                      refine wp_region_held_drew (S := fun w' => Ext wr w' ∧ w'.cell? ⟨pb, 0, none⟩ = some (.slice none x.from_.length 0) ∧ w'.rangeAt pb 1 (x.when_.map (Value.int .i64))) (by kernel_rfl) (sw_drew hst) (fun hHeld => ?_)
                      refine wpAnyH_take (i := 0) (oi := _) (v := ?_) (by rfl) (by kernel_rfl) (by kernel_rfl) (by kernel_rfl) (fun _ _ _ h => h) (Or.inl ⟨by rfl, ?_⟩) (by assumption) ?_
                      rotate_left
                      · (intro w hSw; (try dsimp only at hSw); (try obtain ⟨_, _, _⟩ := hSw); go_simp; try with_reducible rfl)
                      simp only [Act.put, List.getElem_toArray, List.getElem_cons_succ, List.getElem_cons_zero, List.setIfInBounds_toArray, List.set_cons_zero, List.set_cons_succ]
                      refine wpAnyH_take (i := 1) (oi := _) (v := ?_) (by rfl) (by kernel_rfl) (by kernel_rfl) (by kernel_rfl) (fun _ _ _ h => h) (Or.inl ⟨by rfl, ?_⟩) (by assumption) ?_
                      rotate_left
                      · (intro w hSw; (try dsimp only at hSw); (try obtain ⟨_, _, _⟩ := hSw); go_simp; try with_reducible rfl)
                      simp only [Act.put, List.getElem_toArray, List.getElem_cons_succ, List.getElem_cons_zero, List.setIfInBounds_toArray, List.set_cons_zero, List.set_cons_succ]
                      refine wpAnyH_take (i := 2) (oi := _) (v := ?_) (by rfl) (by kernel_rfl) (by kernel_rfl) (by kernel_rfl) (fun _ _ _ h => h) (Or.inl ⟨by rfl, ?_⟩) (by assumption) ?_
                      rotate_left
                      · (intro w hSw; (try dsimp only at hSw); (try obtain ⟨_, _, _⟩ := hSw); go_simp; try with_reducible rfl)
                      simp only [Act.put, List.getElem_toArray, List.getElem_cons_succ, List.getElem_cons_zero, List.setIfInBounds_toArray, List.set_cons_zero, List.set_cons_succ]
                      refine wpAnyH_take (i := 3) (oi := _) (v := ?_) (by rfl) (by kernel_rfl) (by kernel_rfl) (by kernel_rfl) (fun _ _ _ h => h) (Or.inl ⟨by rfl, ?_⟩) (by assumption) ?_
                      rotate_left
                      · (intro w hSw; (try dsimp only at hSw); (try obtain ⟨_, _, _⟩ := hSw); go_simp; try with_reducible rfl)
                      simp only [Act.put, List.getElem_toArray, List.getElem_cons_succ, List.getElem_cons_zero, List.setIfInBounds_toArray, List.set_cons_zero, List.set_cons_succ]
                      refine wpAnyH_take (i := 4) (oi := _) (v := ?_) (by rfl) (by kernel_rfl) (by kernel_rfl) (by kernel_rfl) (fun _ _ _ h => h) (Or.inl ⟨by rfl, ?_⟩) (by assumption) ?_
                      rotate_left
                      · (intro w hSw; (try dsimp only at hSw); (try obtain ⟨_, _, _⟩ := hSw); go_simp; try with_reducible rfl)
                      simp only [Act.put, List.getElem_toArray, List.getElem_cons_succ, List.getElem_cons_zero, List.setIfInBounds_toArray, List.set_cons_zero, List.set_cons_succ]
                      refine wpAnyH_take (i := 5) (oi := _) (v := ?_) (by rfl) (by kernel_rfl) (by kernel_rfl) (by kernel_rfl) (fun _ _ _ h => h) (Or.inl ⟨by rfl, ?_⟩) (by assumption) ?_
                      rotate_left
                      · (intro w hSw; (try dsimp only at hSw); (try obtain ⟨_, _, _⟩ := hSw); go_simp; try with_reducible rfl)
                      simp only [Act.put, List.getElem_toArray, List.getElem_cons_succ, List.getElem_cons_zero, List.setIfInBounds_toArray, List.set_cons_zero, List.set_cons_succ]
                      refine wpAnyH_take (i := 6) (oi := _) (v := ?_) (by rfl) (by kernel_rfl) (by kernel_rfl) (by kernel_rfl) (fun _ _ _ h => h) (Or.inl ⟨by rfl, ?_⟩) (by assumption) ?_
                      rotate_left
                      · (intro w hSw; (try dsimp only at hSw); (try obtain ⟨_, _, _⟩ := hSw); go_simp; try with_reducible rfl)
                      simp only [Act.put, List.getElem_toArray, List.getElem_cons_succ, List.getElem_cons_zero, List.setIfInBounds_toArray, List.set_cons_zero, List.set_cons_succ]
                      refine wpAnyH_take (i := 7) (oi := _) (v := ?_) (by rfl) (by kernel_rfl) (by kernel_rfl) (by kernel_rfl) (fun _ _ _ h => h) (Or.inl ⟨by rfl, ?_⟩) (by assumption) ?_
                      rotate_left
                      · (intro w hSw; (try dsimp only at hSw); (try obtain ⟨_, _, _⟩ := hSw); go_simp; try with_reducible rfl)
                      simp only [Act.put, List.getElem_toArray, List.getElem_cons_succ, List.getElem_cons_zero, List.setIfInBounds_toArray, List.set_cons_zero, List.set_cons_succ]
                      refine wpAnyH_take (i := 8) (oi := _) (v := ?_) (by rfl) (by kernel_rfl) (by kernel_rfl) (by kernel_rfl) (fun _ _ _ h => h) (Or.inl ⟨by rfl, ?_⟩) (by assumption) ?_
                      rotate_left
                      · (intro w hSw; (try dsimp only at hSw); (try obtain ⟨_, _, _⟩ := hSw); go_simp; try with_reducible rfl)
                      simp only [Act.put, List.getElem_toArray, List.getElem_cons_succ, List.getElem_cons_zero, List.setIfInBounds_toArray, List.set_cons_zero, List.set_cons_succ]
                      refine wpAnyH_take (i := 9) (oi := _) (v := ?_) (by rfl) (by kernel_rfl) (by kernel_rfl) (by kernel_rfl) (fun _ _ _ h => h) (Or.inl ⟨by rfl, ?_⟩) (by assumption) ?_
                      rotate_left
                      · (intro w hSw; (try dsimp only at hSw); (try obtain ⟨_, _, _⟩ := hSw); go_simp; try with_reducible rfl)
                      simp only [Act.put, List.getElem_toArray, List.getElem_cons_succ, List.getElem_cons_zero, List.setIfInBounds_toArray, List.set_cons_zero, List.set_cons_succ]
                      refine wpAnyH_take (i := 12) (oi := _) (v := ?_) (by rfl) (by kernel_rfl) (by kernel_rfl) (by kernel_rfl) (fun _ _ _ h => h) (Or.inl ⟨by rfl, ?_⟩) (by assumption) ?_
                      rotate_left
                      · (intro w hSw; (try dsimp only at hSw); (try obtain ⟨_, _, _⟩ := hSw); go_simp; try with_reducible rfl)
                      simp only [Act.put, List.getElem_toArray, List.getElem_cons_succ, List.getElem_cons_zero, List.setIfInBounds_toArray, List.set_cons_zero, List.set_cons_succ]
                      refine wpAnyH_take (i := 13) (oi := _) (v := ?_) rfl (by kernel_rfl) (by kernel_rfl) (by kernel_rfl) (fun _ _ _ h => (h : False).elim) ?_ (by assumption) ?_
                      rotate_left
                      · have hS : ∀ w' : World, (Ext wr w' ∧ w'.cell? ⟨pb, 0, none⟩ = some (.slice none x.from_.length 0) ∧ w'.rangeAt pb 1 (x.when_.map (Value.int .i64))) → w'.rangeAt pb 1 (x.when_.map (Value.int .i64)) := fun w' h => h.2.2
                        refine yieldsIf_load_mid (cs := x.when_.map (Value.int .i64)) ?_ 92 (.tmp 66) ?_ pb 1 ?_ _ hS hu92 ?_ hi92
                        · kernel_rfl
                        · rfl
                        · kernel_rfl
                        · rfl
                      simp only [Act.put, List.getElem_toArray, List.getElem_cons_succ, List.getElem_cons_zero, List.setIfInBounds_toArray, List.set_cons_zero, List.set_cons_succ]
                      refine wpAnyH_ready (rs := [10, 15]) (by kernel_rfl) (by simp) ?_
                      refine AllReadyH.cons (o := _) rfl (fun K hK => ?_) (AllReadyH.cons (o := _) rfl (fun K hK => ?_) AllReadyH.nil)
                      ·
                        rw [if_pos (by rfl)]
                        refine wp_build_int (.tmp 63) rfl (m : Int) rfl ?_
                        intro wa hEa hba
                        refine hK.out _ _ (sw_ext (by assumption) hEa) (fun hHeld => ?_)
                        clear hK K
                        try simp only [Act.put, List.getElem_toArray, List.getElem_cons_succ, List.getElem_cons_zero, List.setIfInBounds_toArray, List.set_cons_zero, List.set_cons_succ]
                        refine wpAnyH_ready (rs := [11, 15]) (by kernel_rfl) (by simp) ?_
                        refine AllReadyH.cons (o := _) rfl (fun K hK => ?_) (AllReadyH.cons (o := _) rfl (fun K hK => ?_) AllReadyH.nil)
                        ·
                          have hxn : x.from_ = [] := List.length_eq_zero_iff.1 hn0
                          have hnw := one_cells hba
                          have hb1 : x.from_.length + 1 ≤ maxLen := by unfold maxLen; omega
                          refine step_append_grows rfl (.tmp 62) (.tmp 64) 26 rfl 3 i0 (.int .i64 0) 1 8 Try.underlying26 hii hz0 hz1 hz2 rfl (by decide) none 0 0 [] rfl (fun h => ⟨rfl, rfl⟩) rfl (fun _ h => nomatch h) ⟨_, 0, none⟩ 1 1 [.int .i64 (m : Int)] rfl rfl hnw (by simp [Value.oneCell']) (by omega) (by unfold maxLen; omega) (by omega) ?_
                          intro vb wb hob hgb
                          have hEb := grown_none hgb
                          have hob := own_empty hxn hob
                          obtain ⟨gb, cb, rfl, hcb, hgb0, hgb1, hRb, csb, hbb⟩ := own_new hob
                          clear hob hgb
                          refine hK.out _ _ (sw_ext (by assumption) hEb) (fun hHeld => ?_)
                          clear hK K hnw
                          try simp only [Act.put, List.getElem_toArray, List.getElem_cons_succ, List.getElem_cons_zero, List.setIfInBounds_toArray, List.set_cons_zero, List.set_cons_succ]
                          refine wpAnyH_take (i := 14) (oi := _) (v := ?_) rfl (by kernel_rfl) (by kernel_rfl) (by kernel_rfl) (fun _ _ _ h => (h : False).elim) ?_ (by assumption) ?_
                          rotate_left
                          · refine yieldsIf_build_way' ?_ (.tmp 65) (.tmp 67) ?_ (some ⟨gb, 0, none⟩) (x.from_.length + 1) cb x.when_ ?_ ?_ h18
                            · kernel_rfl
                            · rfl
                            · kernel_rfl
                            · kernel_rfl
                          try simp only [Act.put, List.getElem_toArray, List.getElem_cons_succ, List.getElem_cons_zero, List.setIfInBounds_toArray, List.set_cons_zero, List.set_cons_succ]
                          refine wpAnyH_ready (rs := [15]) (by kernel_rfl) (by simp) ?_
                          refine AllReadyH.cons (o := _) rfl (fun K hK => ?_) AllReadyH.nil
                          rw [if_pos (by rfl)]
                          refine wp_alloc_way rfl ?_
                          intro wq zs hEq hzs hbq
                          have hgq0 : wr.heap.size ≤ _ := hHeld.1.size
                          refine hK.out _ _ (sw_ext (by assumption) hEq) (fun hHeld => ?_)
                          clear hK K
                          try simp only [Act.put, List.getElem_toArray, List.getElem_cons_succ, List.getElem_cons_zero, List.setIfInBounds_toArray, List.set_cons_zero, List.set_cons_succ]
                          have hne : gb ≠ wb.heap.size := by omega
                          have hRb := hRb.ext hEq
                          have hbb := hEq.heap hbb
                          generalize wb.heap.size = gq at hbq hne hgq0 ⊢
                          refine wpAnyH_ready (rs := [16]) (by kernel_rfl) (by simp) ?_
                          refine AllReadyH.cons (o := _) rfl (fun K hK => ?_) AllReadyH.nil
                          rw [if_pos (by rfl)]
                          refine wp_store_blk 94 (.tmp 14) (.tmp 68) rfl gq 94 zs (wayCells (.slice (some ⟨gb, 0, none⟩) (x.from_.length + 1) cb) x.when_) (by kernel_rfl) (by kernel_rfl) hbq (by rw [info_way_size, way_size h18]) (by rw [hzs, way_size h18]) (by simp [wayCells, Value.oneCell']) ?_
                          intro wf hTf hbf
                          have hEf := hTf.below hHeld.1 hgq0
                          refine hK.out _ _ (sw_ext hst hEf) (fun _ => ?_)
                          clear hK K
                          refine wpAnyH_done (by kernel_rfl) (NoPanic.normal ?_) _
                          try simp only [Act.put, List.getElem_toArray, List.getElem_cons_succ, List.getElem_cons_zero, List.setIfInBounds_toArray, List.set_cons_zero, List.set_cons_succ]
                          go_wp2_with fail
                          go_meet
                          exact ⟨gq, _, cb, rfl, hEf, hgq0, hbf, hcb, hRb.turned (fun b' o' e => by cases e; exact hne) hTf, .inr ⟨gb, 0, csb, (0, 0), rfl, hTf.heap_ hne hbb⟩⟩
                        ·
                          rw [if_pos (by rfl)]
                          refine wp_alloc_way rfl ?_
                          intro wq zs hEq hzs hbq
                          have hgq0 : wr.heap.size ≤ _ := hHeld.1.size
                          refine hK.out _ _ (sw_ext (by assumption) hEq) (fun hHeld => ?_)
                          clear hK K
                          try simp only [Act.put, List.getElem_toArray, List.getElem_cons_succ, List.getElem_cons_zero, List.setIfInBounds_toArray, List.set_cons_zero, List.set_cons_succ]
                          have hba := hEq.heap hba
                          have hgq1 := blk_lt hbq
                          generalize wa.heap.size = gq at hbq hgq0 hgq1 ⊢
                          refine wpAnyH_ready (rs := [11]) (by kernel_rfl) (by simp) ?_
                          refine AllReadyH.cons (o := _) rfl (fun K hK => ?_) AllReadyH.nil
                          have hxn : x.from_ = [] := List.length_eq_zero_iff.1 hn0
                          have hnw := one_cells hba
                          have hb1 : x.from_.length + 1 ≤ maxLen := by unfold maxLen; omega
                          refine step_append_grows rfl (.tmp 62) (.tmp 64) 26 rfl 3 i0 (.int .i64 0) 1 8 Try.underlying26 hii hz0 hz1 hz2 rfl (by decide) none 0 0 [] rfl (fun h => ⟨rfl, rfl⟩) rfl (fun _ h => nomatch h) ⟨_, 0, none⟩ 1 1 [.int .i64 (m : Int)] rfl rfl hnw (by simp [Value.oneCell']) (by omega) (by unfold maxLen; omega) (by omega) ?_
                          intro vb wb hob hgb
                          have hEb := grown_none hgb
                          have hob := own_empty hxn hob
                          obtain ⟨gb, cb, rfl, hcb, hgb0, hgb1, hRb, csb, hbb⟩ := own_new hob
                          clear hob hgb
                          refine hK.out _ _ (sw_ext (by assumption) hEb) (fun hHeld => ?_)
                          clear hK K hnw
                          try simp only [Act.put, List.getElem_toArray, List.getElem_cons_succ, List.getElem_cons_zero, List.setIfInBounds_toArray, List.set_cons_zero, List.set_cons_succ]
                          refine wpAnyH_take (i := 14) (oi := _) (v := ?_) rfl (by kernel_rfl) (by kernel_rfl) (by kernel_rfl) (fun _ _ _ h => (h : False).elim) ?_ (by assumption) ?_
                          rotate_left
                          · refine yieldsIf_build_way' ?_ (.tmp 65) (.tmp 67) ?_ (some ⟨gb, 0, none⟩) (x.from_.length + 1) cb x.when_ ?_ ?_ h18
                            · kernel_rfl
                            · rfl
                            · kernel_rfl
                            · kernel_rfl
                          try simp only [Act.put, List.getElem_toArray, List.getElem_cons_succ, List.getElem_cons_zero, List.setIfInBounds_toArray, List.set_cons_zero, List.set_cons_succ]
                          have hne : gb ≠ gq := by omega
                          have hbq := hEb.heap hbq
                          refine wpAnyH_ready (rs := [16]) (by kernel_rfl) (by simp) ?_
                          refine AllReadyH.cons (o := _) rfl (fun K hK => ?_) AllReadyH.nil
                          rw [if_pos (by rfl)]
                          refine wp_store_blk 94 (.tmp 14) (.tmp 68) rfl gq 94 zs (wayCells (.slice (some ⟨gb, 0, none⟩) (x.from_.length + 1) cb) x.when_) (by kernel_rfl) (by kernel_rfl) hbq (by rw [info_way_size, way_size h18]) (by rw [hzs, way_size h18]) (by simp [wayCells, Value.oneCell']) ?_
                          intro wf hTf hbf
                          have hEf := hTf.below hHeld.1 hgq0
                          refine hK.out _ _ (sw_ext hst hEf) (fun _ => ?_)
                          clear hK K
                          refine wpAnyH_done (by kernel_rfl) (NoPanic.normal ?_) _
                          try simp only [Act.put, List.getElem_toArray, List.getElem_cons_succ, List.getElem_cons_zero, List.setIfInBounds_toArray, List.set_cons_zero, List.set_cons_succ]
                          go_wp2_with fail
                          go_meet
                          exact ⟨gq, _, cb, rfl, hEf, hgq0, hbf, hcb, hRb.turned (fun b' o' e => by cases e; exact hne) hTf, .inr ⟨gb, 0, csb, (0, 0), rfl, hTf.heap_ hne hbb⟩⟩
                      ·
                        rw [if_pos (by rfl)]
                        refine wp_alloc_way rfl ?_
                        intro wq zs hEq hzs hbq
                        have hgq0 : wr.heap.size ≤ _ := hHeld.1.size
                        refine hK.out _ _ (sw_ext (by assumption) hEq) (fun hHeld => ?_)
                        clear hK K
                        try simp only [Act.put, List.getElem_toArray, List.getElem_cons_succ, List.getElem_cons_zero, List.setIfInBounds_toArray, List.set_cons_zero, List.set_cons_succ]
                        have hgq1 := blk_lt hbq
                        generalize wr.drew.heap.size = gq at hbq hgq0 hgq1 ⊢
                        refine wpAnyH_ready (rs := [10]) (by kernel_rfl) (by simp) ?_
                        refine AllReadyH.cons (o := _) rfl (fun K hK => ?_) AllReadyH.nil
                        rw [if_pos (by rfl)]
                        refine wp_build_int (.tmp 63) rfl (m : Int) rfl ?_
                        intro wa hEa hba
                        refine hK.out _ _ (sw_ext (by assumption) hEa) (fun hHeld => ?_)
                        clear hK K
                        try simp only [Act.put, List.getElem_toArray, List.getElem_cons_succ, List.getElem_cons_zero, List.setIfInBounds_toArray, List.set_cons_zero, List.set_cons_succ]
                        have hgq2 := hEa.size
                        have hbq := hEa.heap hbq
                        refine wpAnyH_ready (rs := [11]) (by kernel_rfl) (by simp) ?_
                        refine AllReadyH.cons (o := _) rfl (fun K hK => ?_) AllReadyH.nil
                        have hxn : x.from_ = [] := List.length_eq_zero_iff.1 hn0
                        have hnw := one_cells hba
                        have hb1 : x.from_.length + 1 ≤ maxLen := by unfold maxLen; omega
                        refine step_append_grows rfl (.tmp 62) (.tmp 64) 26 rfl 3 i0 (.int .i64 0) 1 8 Try.underlying26 hii hz0 hz1 hz2 rfl (by decide) none 0 0 [] rfl (fun h => ⟨rfl, rfl⟩) rfl (fun _ h => nomatch h) ⟨_, 0, none⟩ 1 1 [.int .i64 (m : Int)] rfl rfl hnw (by simp [Value.oneCell']) (by omega) (by unfold maxLen; omega) (by omega) ?_
                        intro vb wb hob hgb
                        have hEb := grown_none hgb
                        have hob := own_empty hxn hob
                        obtain ⟨gb, cb, rfl, hcb, hgb0, hgb1, hRb, csb, hbb⟩ := own_new hob
                        clear hob hgb
                        refine hK.out _ _ (sw_ext (by assumption) hEb) (fun hHeld => ?_)
                        clear hK K hnw
                        try simp only [Act.put, List.getElem_toArray, List.getElem_cons_succ, List.getElem_cons_zero, List.setIfInBounds_toArray, List.set_cons_zero, List.set_cons_succ]
                        refine wpAnyH_take (i := 14) (oi := _) (v := ?_) rfl (by kernel_rfl) (by kernel_rfl) (by kernel_rfl) (fun _ _ _ h => (h : False).elim) ?_ (by assumption) ?_
                        rotate_left
                        · refine yieldsIf_build_way' ?_ (.tmp 65) (.tmp 67) ?_ (some ⟨gb, 0, none⟩) (x.from_.length + 1) cb x.when_ ?_ ?_ h18
                          · kernel_rfl
                          · rfl
                          · kernel_rfl
                          · kernel_rfl
                        try simp only [Act.put, List.getElem_toArray, List.getElem_cons_succ, List.getElem_cons_zero, List.setIfInBounds_toArray, List.set_cons_zero, List.set_cons_succ]
                        have hne : gb ≠ gq := by omega
                        have hbq := hEb.heap hbq
                        refine wpAnyH_ready (rs := [16]) (by kernel_rfl) (by simp) ?_
                        refine AllReadyH.cons (o := _) rfl (fun K hK => ?_) AllReadyH.nil
                        rw [if_pos (by rfl)]
                        refine wp_store_blk 94 (.tmp 14) (.tmp 68) rfl gq 94 zs (wayCells (.slice (some ⟨gb, 0, none⟩) (x.from_.length + 1) cb) x.when_) (by kernel_rfl) (by kernel_rfl) hbq (by rw [info_way_size, way_size h18]) (by rw [hzs, way_size h18]) (by simp [wayCells, Value.oneCell']) ?_
                        intro wf hTf hbf
                        have hEf := hTf.below hHeld.1 hgq0
                        refine hK.out _ _ (sw_ext hst hEf) (fun _ => ?_)
                        clear hK K
                        refine wpAnyH_done (by kernel_rfl) (NoPanic.normal ?_) _
                        try simp only [Act.put, List.getElem_toArray, List.getElem_cons_succ, List.getElem_cons_zero, List.setIfInBounds_toArray, List.set_cons_zero, List.set_cons_succ]
                        go_wp2_with fail
                        go_meet
                        exact ⟨gq, _, cb, rfl, hEf, hgq0, hbf, hcb, hRb.turned (fun b' o' e => by cases e; exact hne) hTf, .inr ⟨gb, 0, csb, (0, 0), rfl, hTf.heap_ hne hbb⟩⟩
                    · refine wp_region_noPanic ?_
                      refine wp_region_held_drew (S := fun w' => Ext wr w' ∧ w'.cell? ⟨pb, 0, none⟩ = some (.slice (some ⟨b, o, none⟩) x.from_.length ca) ∧ w'.rangeAt pb 1 (x.when_.map (Value.int .i64))) (by kernel_rfl) (sw_drew hst) (fun hHeld => ?_)
                      refine wpAnyH_take (i := 0) (oi := _) (v := ?_) (by rfl) (by kernel_rfl) (by kernel_rfl) (by kernel_rfl) (fun _ _ _ h => h) (Or.inl ⟨by rfl, ?_⟩) (by assumption) ?_
                      rotate_left
                      · (intro w hSw; (try dsimp only at hSw); (try obtain ⟨_, _, _⟩ := hSw); go_simp; try with_reducible rfl)
                      simp only [Act.put, List.getElem_toArray, List.getElem_cons_succ, List.getElem_cons_zero, List.setIfInBounds_toArray, List.set_cons_zero, List.set_cons_succ]
                      refine wpAnyH_take (i := 1) (oi := _) (v := ?_) (by rfl) (by kernel_rfl) (by kernel_rfl) (by kernel_rfl) (fun _ _ _ h => h) (Or.inl ⟨by rfl, ?_⟩) (by assumption) ?_
                      rotate_left
                      · (intro w hSw; (try dsimp only at hSw); (try obtain ⟨_, _, _⟩ := hSw); go_simp; try with_reducible rfl)
                      simp only [Act.put, List.getElem_toArray, List.getElem_cons_succ, List.getElem_cons_zero, List.setIfInBounds_toArray, List.set_cons_zero, List.set_cons_succ]
                      refine wpAnyH_take (i := 2) (oi := _) (v := ?_) (by rfl) (by kernel_rfl) (by kernel_rfl) (by kernel_rfl) (fun _ _ _ h => h) (Or.inl ⟨by rfl, ?_⟩) (by assumption) ?_
                      rotate_left
                      · (intro w hSw; (try dsimp only at hSw); (try obtain ⟨_, _, _⟩ := hSw); go_simp; try with_reducible rfl)
                      simp only [Act.put, List.getElem_toArray, List.getElem_cons_succ, List.getElem_cons_zero, List.setIfInBounds_toArray, List.set_cons_zero, List.set_cons_succ]
                      refine wpAnyH_take (i := 3) (oi := _) (v := ?_) (by rfl) (by kernel_rfl) (by kernel_rfl) (by kernel_rfl) (fun _ _ _ h => h) (Or.inl ⟨by rfl, ?_⟩) (by assumption) ?_
                      rotate_left
                      · (intro w hSw; (try dsimp only at hSw); (try obtain ⟨_, _, _⟩ := hSw); go_simp; try with_reducible rfl)
                      simp only [Act.put, List.getElem_toArray, List.getElem_cons_succ, List.getElem_cons_zero, List.setIfInBounds_toArray, List.set_cons_zero, List.set_cons_succ]
                      refine wpAnyH_take (i := 4) (oi := _) (v := ?_) (by rfl) (by kernel_rfl) (by kernel_rfl) (by kernel_rfl) (fun _ _ _ h => h) (Or.inl ⟨by rfl, ?_⟩) (by assumption) ?_
                      rotate_left
                      · (intro w hSw; (try dsimp only at hSw); (try obtain ⟨_, _, _⟩ := hSw); go_simp; try with_reducible rfl)
                      simp only [Act.put, List.getElem_toArray, List.getElem_cons_succ, List.getElem_cons_zero, List.setIfInBounds_toArray, List.set_cons_zero, List.set_cons_succ]
                      refine wpAnyH_take (i := 5) (oi := _) (v := ?_) (by rfl) (by kernel_rfl) (by kernel_rfl) (by kernel_rfl) (fun _ _ _ h => h) (Or.inl ⟨by rfl, ?_⟩) (by assumption) ?_
                      rotate_left
                      · (intro w hSw; (try dsimp only at hSw); (try obtain ⟨_, _, _⟩ := hSw); go_simp; try with_reducible rfl)
                      simp only [Act.put, List.getElem_toArray, List.getElem_cons_succ, List.getElem_cons_zero, List.setIfInBounds_toArray, List.set_cons_zero, List.set_cons_succ]
                      refine wpAnyH_take (i := 6) (oi := _) (v := ?_) (by rfl) (by kernel_rfl) (by kernel_rfl) (by kernel_rfl) (fun _ _ _ h => h) (Or.inl ⟨by rfl, ?_⟩) (by assumption) ?_
                      rotate_left
                      · (intro w hSw; (try dsimp only at hSw); (try obtain ⟨_, _, _⟩ := hSw); go_simp; try with_reducible rfl)
                      simp only [Act.put, List.getElem_toArray, List.getElem_cons_succ, List.getElem_cons_zero, List.setIfInBounds_toArray, List.set_cons_zero, List.set_cons_succ]
                      refine wpAnyH_take (i := 7) (oi := _) (v := ?_) (by rfl) (by kernel_rfl) (by kernel_rfl) (by kernel_rfl) (fun _ _ _ h => h) (Or.inl ⟨by rfl, ?_⟩) (by assumption) ?_
                      rotate_left
                      · (intro w hSw; (try dsimp only at hSw); (try obtain ⟨_, _, _⟩ := hSw); go_simp; try with_reducible rfl)
                      simp only [Act.put, List.getElem_toArray, List.getElem_cons_succ, List.getElem_cons_zero, List.setIfInBounds_toArray, List.set_cons_zero, List.set_cons_succ]
                      refine wpAnyH_take (i := 8) (oi := _) (v := ?_) (by rfl) (by kernel_rfl) (by kernel_rfl) (by kernel_rfl) (fun _ _ _ h => h) (Or.inl ⟨by rfl, ?_⟩) (by assumption) ?_
                      rotate_left
                      · (intro w hSw; (try dsimp only at hSw); (try obtain ⟨_, _, _⟩ := hSw); go_simp; try with_reducible rfl)
                      simp only [Act.put, List.getElem_toArray, List.getElem_cons_succ, List.getElem_cons_zero, List.setIfInBounds_toArray, List.set_cons_zero, List.set_cons_succ]
                      refine wpAnyH_take (i := 9) (oi := _) (v := ?_) (by rfl) (by kernel_rfl) (by kernel_rfl) (by kernel_rfl) (fun _ _ _ h => h) (Or.inl ⟨by rfl, ?_⟩) (by assumption) ?_
                      rotate_left
                      · (intro w hSw; (try dsimp only at hSw); (try obtain ⟨_, _, _⟩ := hSw); go_simp; try with_reducible rfl)
                      simp only [Act.put, List.getElem_toArray, List.getElem_cons_succ, List.getElem_cons_zero, List.setIfInBounds_toArray, List.set_cons_zero, List.set_cons_succ]
                      refine wpAnyH_take (i := 12) (oi := _) (v := ?_) (by rfl) (by kernel_rfl) (by kernel_rfl) (by kernel_rfl) (fun _ _ _ h => h) (Or.inl ⟨by rfl, ?_⟩) (by assumption) ?_
                      rotate_left
                      · (intro w hSw; (try dsimp only at hSw); (try obtain ⟨_, _, _⟩ := hSw); go_simp; try with_reducible rfl)
                      simp only [Act.put, List.getElem_toArray, List.getElem_cons_succ, List.getElem_cons_zero, List.setIfInBounds_toArray, List.set_cons_zero, List.set_cons_succ]
                      refine wpAnyH_take (i := 13) (oi := _) (v := ?_) rfl (by kernel_rfl) (by kernel_rfl) (by kernel_rfl) (fun _ _ _ h => (h : False).elim) ?_ (by assumption) ?_
                      rotate_left
                      · have hS : ∀ w' : World, (Ext wr w' ∧ w'.cell? ⟨pb, 0, none⟩ = some (.slice (some ⟨b, o, none⟩) x.from_.length ca) ∧ w'.rangeAt pb 1 (x.when_.map (Value.int .i64))) → w'.rangeAt pb 1 (x.when_.map (Value.int .i64)) := fun w' h => h.2.2
                        refine yieldsIf_load_mid (cs := x.when_.map (Value.int .i64)) ?_ 92 (.tmp 66) ?_ pb 1 ?_ _ hS hu92 ?_ hi92
                        · kernel_rfl
                        · rfl
                        · kernel_rfl
                        · rfl
                      simp only [Act.put, List.getElem_toArray, List.getElem_cons_succ, List.getElem_cons_zero, List.setIfInBounds_toArray, List.set_cons_zero, List.set_cons_succ]
                      refine wpAnyH_ready (rs := [10, 15]) (by kernel_rfl) (by simp) ?_
                      refine AllReadyH.cons (o := _) rfl (fun K hK => ?_) (AllReadyH.cons (o := _) rfl (fun K hK => ?_) AllReadyH.nil)
                      ·
                        rw [if_pos (by rfl)]
                        refine wp_build_int (.tmp 63) rfl (m : Int) rfl ?_
                        intro wa hEa hba
                        refine hK.out _ _ (sw_ext (by assumption) hEa) (fun hHeld => ?_)
                        clear hK K
                        try simp only [Act.put, List.getElem_toArray, List.getElem_cons_succ, List.getElem_cons_zero, List.setIfInBounds_toArray, List.set_cons_zero, List.set_cons_succ]
                        refine wpAnyH_ready (rs := [11, 15]) (by kernel_rfl) (by simp) ?_
                        refine AllReadyH.cons (o := _) rfl (fun K hK => ?_) (AllReadyH.cons (o := _) rfl (fun K hK => ?_) AllReadyH.nil)
                        ·
                          have hxw := rdI_cells (HX.out.ext (hE4.trans hHeld.1))
                          have hnw := one_cells hba
                          have hb1 : x.from_.length + 1 ≤ maxLen := by unfold maxLen; omega
                          refine step_append_grows rfl (.tmp 62) (.tmp 64) 26 rfl 3 i0 (.int .i64 0) 1 8 Try.underlying26 hii hz0 hz1 hz2 rfl (by decide) (some ⟨b, o, none⟩) x.from_.length x.from_.length (x.from_.map (Value.int .i64)) rfl (fun h => nomatch h) (by simp) hxw ⟨_, 0, none⟩ 1 1 [.int .i64 (m : Int)] rfl rfl hnw (by simp [Value.oneCell']) (by omega) hb1 (by omega) ?_
                          intro vb wb hob hgb
                          have hEb := grown_none hgb
                          obtain ⟨gb, cb, rfl, hcb, hgb0, hgb1, hRb, csb, hbb⟩ := own_new hob
                          clear hob hgb
                          refine hK.out _ _ (sw_ext (by assumption) hEb) (fun hHeld => ?_)
                          clear hK K hxw hnw
                          try simp only [Act.put, List.getElem_toArray, List.getElem_cons_succ, List.getElem_cons_zero, List.setIfInBounds_toArray, List.set_cons_zero, List.set_cons_succ]
                          refine wpAnyH_take (i := 14) (oi := _) (v := ?_) rfl (by kernel_rfl) (by kernel_rfl) (by kernel_rfl) (fun _ _ _ h => (h : False).elim) ?_ (by assumption) ?_
                          rotate_left
                          · refine yieldsIf_build_way' ?_ (.tmp 65) (.tmp 67) ?_ (some ⟨gb, 0, none⟩) (x.from_.length + 1) cb x.when_ ?_ ?_ h18
                            · kernel_rfl
                            · rfl
                            · kernel_rfl
                            · kernel_rfl
                          try simp only [Act.put, List.getElem_toArray, List.getElem_cons_succ, List.getElem_cons_zero, List.setIfInBounds_toArray, List.set_cons_zero, List.set_cons_succ]
                          refine wpAnyH_ready (rs := [15]) (by kernel_rfl) (by simp) ?_
                          refine AllReadyH.cons (o := _) rfl (fun K hK => ?_) AllReadyH.nil
                          rw [if_pos (by rfl)]
                          refine wp_alloc_way rfl ?_
                          intro wq zs hEq hzs hbq
                          have hgq0 : wr.heap.size ≤ _ := hHeld.1.size
                          refine hK.out _ _ (sw_ext (by assumption) hEq) (fun hHeld => ?_)
                          clear hK K
                          try simp only [Act.put, List.getElem_toArray, List.getElem_cons_succ, List.getElem_cons_zero, List.setIfInBounds_toArray, List.set_cons_zero, List.set_cons_succ]
                          have hne : gb ≠ wb.heap.size := by omega
                          have hRb := hRb.ext hEq
                          have hbb := hEq.heap hbb
                          generalize wb.heap.size = gq at hbq hne hgq0 ⊢
                          refine wpAnyH_ready (rs := [16]) (by kernel_rfl) (by simp) ?_
                          refine AllReadyH.cons (o := _) rfl (fun K hK => ?_) AllReadyH.nil
                          rw [if_pos (by rfl)]
                          refine wp_store_blk 94 (.tmp 14) (.tmp 68) rfl gq 94 zs (wayCells (.slice (some ⟨gb, 0, none⟩) (x.from_.length + 1) cb) x.when_) (by kernel_rfl) (by kernel_rfl) hbq (by rw [info_way_size, way_size h18]) (by rw [hzs, way_size h18]) (by simp [wayCells, Value.oneCell']) ?_
                          intro wf hTf hbf
                          have hEf := hTf.below hHeld.1 hgq0
                          refine hK.out _ _ (sw_ext hst hEf) (fun _ => ?_)
                          clear hK K
                          refine wpAnyH_done (by kernel_rfl) (NoPanic.normal ?_) _
                          try simp only [Act.put, List.getElem_toArray, List.getElem_cons_succ, List.getElem_cons_zero, List.setIfInBounds_toArray, List.set_cons_zero, List.set_cons_succ]
                          go_wp2_with fail
                          go_meet
                          exact ⟨gq, _, cb, rfl, hEf, hgq0, hbf, hcb, hRb.turned (fun b' o' e => by cases e; exact hne) hTf, .inr ⟨gb, 0, csb, (0, 0), rfl, hTf.heap_ hne hbb⟩⟩
                        ·
                          rw [if_pos (by rfl)]
                          refine wp_alloc_way rfl ?_
                          intro wq zs hEq hzs hbq
                          have hgq0 : wr.heap.size ≤ _ := hHeld.1.size
                          refine hK.out _ _ (sw_ext (by assumption) hEq) (fun hHeld => ?_)
                          clear hK K
                          try simp only [Act.put, List.getElem_toArray, List.getElem_cons_succ, List.getElem_cons_zero, List.setIfInBounds_toArray, List.set_cons_zero, List.set_cons_succ]
                          have hba := hEq.heap hba
                          have hgq1 := blk_lt hbq
                          generalize wa.heap.size = gq at hbq hgq0 hgq1 ⊢
                          refine wpAnyH_ready (rs := [11]) (by kernel_rfl) (by simp) ?_
                          refine AllReadyH.cons (o := _) rfl (fun K hK => ?_) AllReadyH.nil
                          have hxw := rdI_cells (HX.out.ext (hE4.trans hHeld.1))
                          have hnw := one_cells hba
                          have hb1 : x.from_.length + 1 ≤ maxLen := by unfold maxLen; omega
                          refine step_append_grows rfl (.tmp 62) (.tmp 64) 26 rfl 3 i0 (.int .i64 0) 1 8 Try.underlying26 hii hz0 hz1 hz2 rfl (by decide) (some ⟨b, o, none⟩) x.from_.length x.from_.length (x.from_.map (Value.int .i64)) rfl (fun h => nomatch h) (by simp) hxw ⟨_, 0, none⟩ 1 1 [.int .i64 (m : Int)] rfl rfl hnw (by simp [Value.oneCell']) (by omega) hb1 (by omega) ?_
                          intro vb wb hob hgb
                          have hEb := grown_none hgb
                          obtain ⟨gb, cb, rfl, hcb, hgb0, hgb1, hRb, csb, hbb⟩ := own_new hob
                          clear hob hgb
                          refine hK.out _ _ (sw_ext (by assumption) hEb) (fun hHeld => ?_)
                          clear hK K hxw hnw
                          try simp only [Act.put, List.getElem_toArray, List.getElem_cons_succ, List.getElem_cons_zero, List.setIfInBounds_toArray, List.set_cons_zero, List.set_cons_succ]
                          refine wpAnyH_take (i := 14) (oi := _) (v := ?_) rfl (by kernel_rfl) (by kernel_rfl) (by kernel_rfl) (fun _ _ _ h => (h : False).elim) ?_ (by assumption) ?_
                          rotate_left
                          · refine yieldsIf_build_way' ?_ (.tmp 65) (.tmp 67) ?_ (some ⟨gb, 0, none⟩) (x.from_.length + 1) cb x.when_ ?_ ?_ h18
                            · kernel_rfl
                            · rfl
                            · kernel_rfl
                            · kernel_rfl
                          try simp only [Act.put, List.getElem_toArray, List.getElem_cons_succ, List.getElem_cons_zero, List.setIfInBounds_toArray, List.set_cons_zero, List.set_cons_succ]
                          have hne : gb ≠ gq := by omega
                          have hbq := hEb.heap hbq
                          refine wpAnyH_ready (rs := [16]) (by kernel_rfl) (by simp) ?_
                          refine AllReadyH.cons (o := _) rfl (fun K hK => ?_) AllReadyH.nil
                          rw [if_pos (by rfl)]
                          refine wp_store_blk 94 (.tmp 14) (.tmp 68) rfl gq 94 zs (wayCells (.slice (some ⟨gb, 0, none⟩) (x.from_.length + 1) cb) x.when_) (by kernel_rfl) (by kernel_rfl) hbq (by rw [info_way_size, way_size h18]) (by rw [hzs, way_size h18]) (by simp [wayCells, Value.oneCell']) ?_
                          intro wf hTf hbf
                          have hEf := hTf.below hHeld.1 hgq0
                          refine hK.out _ _ (sw_ext hst hEf) (fun _ => ?_)
                          clear hK K
                          refine wpAnyH_done (by kernel_rfl) (NoPanic.normal ?_) _
                          try simp only [Act.put, List.getElem_toArray, List.getElem_cons_succ, List.getElem_cons_zero, List.setIfInBounds_toArray, List.set_cons_zero, List.set_cons_succ]
                          go_wp2_with fail
                          go_meet
                          exact ⟨gq, _, cb, rfl, hEf, hgq0, hbf, hcb, hRb.turned (fun b' o' e => by cases e; exact hne) hTf, .inr ⟨gb, 0, csb, (0, 0), rfl, hTf.heap_ hne hbb⟩⟩
                      ·
                        rw [if_pos (by rfl)]
                        refine wp_alloc_way rfl ?_
                        intro wq zs hEq hzs hbq
                        have hgq0 : wr.heap.size ≤ _ := hHeld.1.size
                        refine hK.out _ _ (sw_ext (by assumption) hEq) (fun hHeld => ?_)
                        clear hK K
                        try simp only [Act.put, List.getElem_toArray, List.getElem_cons_succ, List.getElem_cons_zero, List.setIfInBounds_toArray, List.set_cons_zero, List.set_cons_succ]
                        have hgq1 := blk_lt hbq
                        generalize wr.drew.heap.size = gq at hbq hgq0 hgq1 ⊢
                        refine wpAnyH_ready (rs := [10]) (by kernel_rfl) (by simp) ?_
                        refine AllReadyH.cons (o := _) rfl (fun K hK => ?_) AllReadyH.nil
                        rw [if_pos (by rfl)]
                        refine wp_build_int (.tmp 63) rfl (m : Int) rfl ?_
                        intro wa hEa hba
                        refine hK.out _ _ (sw_ext (by assumption) hEa) (fun hHeld => ?_)
                        clear hK K
                        try simp only [Act.put, List.getElem_toArray, List.getElem_cons_succ, List.getElem_cons_zero, List.setIfInBounds_toArray, List.set_cons_zero, List.set_cons_succ]
                        have hgq2 := hEa.size
                        have hbq := hEa.heap hbq
                        refine wpAnyH_ready (rs := [11]) (by kernel_rfl) (by simp) ?_
                        refine AllReadyH.cons (o := _) rfl (fun K hK => ?_) AllReadyH.nil
                        have hxw := rdI_cells (HX.out.ext (hE4.trans hHeld.1))
                        have hnw := one_cells hba
                        have hb1 : x.from_.length + 1 ≤ maxLen := by unfold maxLen; omega
                        refine step_append_grows rfl (.tmp 62) (.tmp 64) 26 rfl 3 i0 (.int .i64 0) 1 8 Try.underlying26 hii hz0 hz1 hz2 rfl (by decide) (some ⟨b, o, none⟩) x.from_.length x.from_.length (x.from_.map (Value.int .i64)) rfl (fun h => nomatch h) (by simp) hxw ⟨_, 0, none⟩ 1 1 [.int .i64 (m : Int)] rfl rfl hnw (by simp [Value.oneCell']) (by omega) hb1 (by omega) ?_
                        intro vb wb hob hgb
                        have hEb := grown_none hgb
                        obtain ⟨gb, cb, rfl, hcb, hgb0, hgb1, hRb, csb, hbb⟩ := own_new hob
                        clear hob hgb
                        refine hK.out _ _ (sw_ext (by assumption) hEb) (fun hHeld => ?_)
                        clear hK K hxw hnw
                        try simp only [Act.put, List.getElem_toArray, List.getElem_cons_succ, List.getElem_cons_zero, List.setIfInBounds_toArray, List.set_cons_zero, List.set_cons_succ]
                        refine wpAnyH_take (i := 14) (oi := _) (v := ?_) rfl (by kernel_rfl) (by kernel_rfl) (by kernel_rfl) (fun _ _ _ h => (h : False).elim) ?_ (by assumption) ?_
                        rotate_left
                        · refine yieldsIf_build_way' ?_ (.tmp 65) (.tmp 67) ?_ (some ⟨gb, 0, none⟩) (x.from_.length + 1) cb x.when_ ?_ ?_ h18
                          · kernel_rfl
                          · rfl
                          · kernel_rfl
                          · kernel_rfl
                        try simp only [Act.put, List.getElem_toArray, List.getElem_cons_succ, List.getElem_cons_zero, List.setIfInBounds_toArray, List.set_cons_zero, List.set_cons_succ]
                        have hne : gb ≠ gq := by omega
                        have hbq := hEb.heap hbq
                        refine wpAnyH_ready (rs := [16]) (by kernel_rfl) (by simp) ?_
                        refine AllReadyH.cons (o := _) rfl (fun K hK => ?_) AllReadyH.nil
                        rw [if_pos (by rfl)]
                        refine wp_store_blk 94 (.tmp 14) (.tmp 68) rfl gq 94 zs (wayCells (.slice (some ⟨gb, 0, none⟩) (x.from_.length + 1) cb) x.when_) (by kernel_rfl) (by kernel_rfl) hbq (by rw [info_way_size, way_size h18]) (by rw [hzs, way_size h18]) (by simp [wayCells, Value.oneCell']) ?_
                        intro wf hTf hbf
                        have hEf := hTf.below hHeld.1 hgq0
                        refine hK.out _ _ (sw_ext hst hEf) (fun _ => ?_)
                        clear hK K
                        refine wpAnyH_done (by kernel_rfl) (NoPanic.normal ?_) _
                        try simp only [Act.put, List.getElem_toArray, List.getElem_cons_succ, List.getElem_cons_zero, List.setIfInBounds_toArray, List.set_cons_zero, List.set_cons_succ]
                        go_wp2_with fail
                        go_meet
                        exact ⟨gq, _, cb, rfl, hEf, hgq0, hbf, hcb, hRb.turned (fun b' o' e => by cases e; exact hne) hTf, .inr ⟨gb, 0, csb, (0, 0), rfl, hTf.heap_ hne hbb⟩⟩
                  case rest =>
                    obtain ⟨ob, B2, cb2, rfl, hE5, hob, hbo, hcb2, hRI, hIAt⟩ := hcut
                    obtain ⟨wd, rfl⟩ : ∃ y : World, y = wc := ⟨_, rfl⟩
                    have hEcd : Ext wce wd := hE4.trans hE5
                    have d0 := hEcd.cell HC0.out
                    have d1 := hEcd.cell HC1.out
                    have d2 := hEcd.cell HC2.out
                    have hCne : ∀ b o, C = some ⟨b, o, none⟩ → b ≠ ob := fun b o e hb => by
                      subst e
                      subst hb
                      have h := (HC.out.ext (hEc.trans hE4)).at (List.getElem?_eq_getElem HNEW.out)
                      have := World.block_lt_of_cell? _ _ h
                      simp only at this
                      omega
                    have hBne : ∃ b o cs fr, B2 = some ⟨b, o, none⟩ ∧ wd.heap[b]? = some (.cells cs 3 fr) ∧ b ≠ ob := by
                      rcases hIAt with ⟨_, h, _⟩ | ⟨b, o, cs, fr, h1, h2⟩
                      · omega
                      · refine ⟨b, o, cs, fr, h1, h2, fun e => ?_⟩
                        subst e
                        rw [h2] at hbo
                        exact absurd (Obj.cells.inj (Option.some.inj hbo)).2.1 (by decide)
                    have HNE := Lib.hid hCne
                    have HBNE := Lib.hid hBne
                    have HBO := Lib.hid hbo
                    have HRI := Lib.hid hRI
                    have HHO := Lib.hid hob
                    have hm3n : m < 3 := by omega
                    clear hCne hBne hbo hRI hIAt hob
                    by_cases hsb : seeB x.when_ m c.minute c.new c.new.length = true
                    · have HSB := Lib.hid hsb
                      have hone : stepM c x (m : Int) = [⟨x.from_ ++ [(m : Int)], seeUpto x.when_ m c.minute c.new c.new.length⟩] := by unfold stepM; rw [Int.toNat_natCast, if_pos hsb]
                      have HONE := Lib.hid hone
                      clear hsb hone
                      go_upto_region 20 with (go_at_call 78; refine (see6 ob m (.slice B2 (x.from_.length + 1) cb2) x.when_ c.minute C (some ⟨fb2, fo2, none⟩) c.new c.from_ cn cf _ hm3n h18 HMIN.out HNEW3.out HBO.out (HC.out.ext (hEc.trans hEcd)) HNE.out).mono ?_; rintro e w' ⟨wh', rfl, hT, hbo2, hwh⟩; rw [HSB.out])
                      have hwh := hwh HSB.out
                      have HWH := Lib.hid hwh
                      have HBO2 := Lib.hid hbo2
                      have hwl : wh'.length = 18 := by rw [hwh, seeUpto_length]; exact h18
                      clear hwh hbo2 d0 d1 d2
                      have hE6 : Ext wr w' := hT.below hE5 HHO.out
                      refine wp_region_lit ?_
                      refine wpList_plain rfl (fun K hK => ?_)
                      go_simp
                      refine hK _ _ ?_
                      clear hK K
                      refine wpList_load_row rfl 94 (.tmp 14) rfl ob rfl 94 _ (0, 0) _ HBO2.out Try.underlying94 rfl (by rw [info_way_size, way_size hwl]) ?_
                      simp only [Act.put]
                      refine wpList_build1 rfl 85 94 (.tmp 74) rfl (wayCells (.slice B2 (x.from_.length + 1) cb2) wh') 19 iw zw rfl (way_size hwl) (by omega) (by omega) Try.underlying85 hiw hzw hsw ?_
                      intro w7 hE7 hblk7
                      simp only [Act.put]
                      have hEr7 : Ext wr w7 := hE6.trans hE7
                      obtain ⟨cells, hown, hreps⟩ := OwnR.later (RWay.ext hEr7) HO4.out hEr7
                      have hlen : (stepC (L.take k3) c ++ (c.from_.take k).flatMap (stepM c x)).length ≤ 2200 := by
                        have h1 := stepC_length (L.take k3) c hl3
                        have h2 := flatMap_length_le (stepM c x) 1 (c.from_.take k) (fun y _ => stepM_length c x y)
                        simp only [List.length_append, List.length_take] at h1 h2 ⊢
                        omega
                      have hwc7 := (hE4.trans hEr7).size
                      refine wpList_append_own_at _ rfl (.tmp 73) (.tmp 75) 85 rfl wce.heap.size 94 iw zw 19 168 Try.underlying85 hiw hzw hsw hbw hzsw (by omega) u9 _ cells rfl hown ⟨w'.heap.size, 0, none⟩ 1 1 (wayCells (.slice B2 (x.from_.length + 1) cb2) wh').toList rfl (by simp [way_size hwl]) (fun j u hu => by rw [add_plain]; exact blk_at hblk7 _ (by simpa using hu)) (fun u hu => by simp [wayCells] at hu; rcases hu with rfl | ⟨_, _, rfl⟩ <;> rfl) (by unfold maxLen; omega) (by omega) hwc7 ?_
                      intro v' w8 hown8 hg8 _ hob8
                      simp only [Act.put]
                      have hE8 : Ext wce w8 := own_ext0 (hE4.trans hEr7) hown hg8
                      obtain ⟨b2, o2, cs2, fr2, rfl, hb2, hb2ne⟩ := HBNE.out
                      have hRI6 := (HRI.out.turned (g := ob) (fun b o e => by cases e; exact hb2ne) hT).ext hE7
                      have hb27 := hE7.heap (hT.heap_ hb2ne hb2)
                      have hrw7 : RWay w7 ⟨x.from_ ++ [(m : Int)], wh'⟩ (wayCells (.slice (some ⟨b2, o2, none⟩) (x.from_.length + 1) cb2) wh').toList := ⟨some ⟨b2, o2, none⟩, cb2, by simp [wayCells], hwl, by simpa using hcb2, hRI6, .inr ⟨b2, o2, cs2, fr2, rfl, hb27⟩⟩
                      have hO8 := OwnR.snoc (RWay.grown hown hg8) hreps (RWay.grown hown hg8 _ _ hrw7) (by simp [way_size hwl]) hown8
                      have hpbl := blk_lt HBP4.out
                      have hno8 : v'.ownBlock ≠ some pb := by
                        rcases hob8 with h | h
                        · rw [h]; exact HNO.out
                        · rw [h]; intro e; cases e; exact absurd hEr7.size (by omega)
                      have hbp8 := (hg8.block pb (Nat.lt_of_lt_of_le hpbl hEr7.size) (fun e => HNO.out e.symm)).trans (hEr7.heap HBP4.out)
                      have HO8 := Lib.hid hO8
                      have HNO8 := Lib.hid hno8
                      have HBP8 := Lib.hid hbp8
                      clear hown hown8 hreps hg8 hob8 hblk7 hrw7 hO8 hno8 hbp8 hRI6 hb27 hb2
                      go_wp2_with fail
                      go_roundg (gk - 1)
                      case measure => have := HK4.out; omega
                      case rel => exact ⟨k + 1, by have := HK4.out; omega, by go_num, hE8, by rw [HN4.out, HONE.out, ← List.append_assoc, ← HWH.out]; exact HO8.out, HNO8.out, HBP8.out⟩
                    · have hsf : seeB x.when_ m c.minute c.new c.new.length = false := by simpa using hsb
                      have HSB := Lib.hid hsf
                      have hone : stepM c x (m : Int) = [] := by unfold stepM; rw [Int.toNat_natCast, if_neg hsb]
                      have HONE := Lib.hid hone
                      clear hsb hone hsf
                      go_wp2_with (go_at_call 78; refine (see6 ob m (.slice B2 (x.from_.length + 1) cb2) x.when_ c.minute C (some ⟨fb2, fo2, none⟩) c.new c.from_ cn cf _ hm3n h18 HMIN.out HNEW3.out HBO.out (HC.out.ext (hEc.trans hEcd)) HNE.out).mono ?_; rintro e w' ⟨wh', rfl, hT, hbo2, _⟩; rw [HSB.out])
                      have hE6 : Ext wr _ := hT.below hE5 HHO.out
                      go_roundg (gk - 1)
                      case measure => have := HK4.out; omega
                      case rel => exact ⟨k + 1, by have := HK4.out; omega, by go_num, hE4.trans hE6, by rw [HN4.out, HONE.out, List.append_nil]; exact OwnR.later (RWay.ext hE6) HO4.out hE6, HNO.out, hE6.heap HBP4.out⟩
                · obtain rfl : k = c.from_.length := by omega
                  have hlast4 : stepC (L.take (k3 + 1)) c = stepC (L.take k3) c ++ (c.from_.take c.from_.length).flatMap (stepM c x) := by rw [HN3.out, List.take_length]; rfl
                  have HL4 := Lib.hid hlast4
                  clear hk hO hbp hno hlast4
                  go_wp2_with fail
                  go_roundg (og3 - 1)
                  case measure => have := HK3.out; omega
                  case rel => exact ⟨k3 + 1, by have := HK3.out; omega, by go_num, hE4, by rw [HL4.out]; exact HO4.out⟩
            · obtain rfl : k = L.length := by omega
              obtain ⟨D2, cd2, rfl, hcd2, hD2⟩ := OwnR.reads hO
              rw [List.take_length, ← HN.out] at hD2 hcd2 ⊢
              have HD2 := Lib.hid hD2
              clear hk hO hD2 HO
              go_wp2_with fail
              go_roundg (og - 1)
              case measure => have := HK.out; omega
              case rel => exact ⟨kk + 1, by have := HK.out; omega, by go_num, hE.trans (hEc.trans hE3), D2, cd2, rfl, hcd2, HD2.out⟩
        · obtain rfl : k = fs.length := by omega
          clear hk hD
          go_wp2_with fail
          go_ret
          exact ⟨D, cd, rfl, hcd, HD.out, hE0.trans hE⟩
end Go.Proofs.Ytloenmikkkklhaa

/-
  The layer 'copies': hull, mixes, Mixes.
-/
import Derived.Test.YtloenmikkkklhaaP8
namespace Go.Proofs.Ytloenmikkkklhaa
open Go.RowKit

def hullLo (f : Way → Int) (L : List Way) : Nat → Int
  | 0 => (L[0]?.map f).getD 0
  | k + 1 => min (hullLo f L k) ((L[k]?.map f).getD 0)
def hullHi (f : Way → Int) (L : List Way) : Nat → Int
  | 0 => (L[0]?.map f).getD 0
  | k + 1 => max (hullHi f L k) ((L[k]?.map f).getD 0)
/-- A function value, called at a way of a list in a world that extends w, answers a span. -/
def SpanX (g : Nat) (lb : Array Value) (lo hi : Way → Int) (L : List Way) (w : World) : Prop :=
  ∀ (W : World) (x : Way), x ∈ L → ∀ (A : Option Addr) (c : Nat), Ext w W → Calls Try.prog g (#[.agg (wayCells (.slice A x.from_.length c) x.when_)] ++ lb) W fun e w' => e = .returned (.agg #[.int .i64 (lo x), .int .i64 (hi x)]) ∧ Ext W w'

set_option maxRecDepth 100000 in
set_option maxHeartbeats 4000000 in
theorem hull6 (g : Nat) (lb : Array Value) (lo hi : Way → Int) (D : Option Addr) (cd : Nat) (L : List Way) (w : World) (eg : Enters Try.prog g) (h1 : 0 < L.length) (h2 : L.length ≤ 729)
    (hD : RdWay w D L) (hC : SpanX g lb lo hi L w) :
    Calls Try.prog 42 #[.slice D L.length cd, .func (.func g) #[] lb] w
      fun e w' => e = .returned (.agg #[.int .i64 (hullLo lo L L.length), .int .i64 (hullHi hi L L.length)]) ∧ Ext w w' := by
  have HC := Lib.hid hC
  have HD := Lib.hid hD
  have hm : (L.length : Int) ≤ 9223372036854775807 := by omega
  have hm1 : (0 : Int) < L.length := by omega
  obtain ⟨db, do_, hDe⟩ := hD.base h1
  subst hDe
  clear hD hC
  unfold Enters at eg
  go_enter Try.func42, Try.ntmps42
  go_upto_region 1 with fail
  obtain ⟨w1, rb, e1, e2, hE1, rblk⟩ := new_block w #[.int .i64 0, .int .i64 0] 48
  have hrb : w.heap.size ≤ rb := by omega
  rw [e1, e2]
  clear e1 e2
  have HRB := Lib.hid rblk
  have HRBN := Lib.hid hrb
  clear rblk hrb
  have hx0 : L[0]? = some L[0] := List.getElem?_eq_getElem h1
  have hmem0 : L[0] ∈ L := List.getElem_mem h1
  have hn0 : hullLo lo L 0 = lo L[0] := by rw [hullLo, hx0]; rfl
  have hn1 : hullHi hi L 0 = hi L[0] := by rw [hullHi, hx0]; rfl
  generalize L[0] = y at hx0 hmem0 hn0 hn1
  obtain ⟨cs, ⟨A, ca, rfl, h18, hca, hxA, hIA⟩, hcl, hcell⟩ := (HD.out.ext hE1).at hx0
  have HN0 := Lib.hid hn0
  have HN1 := Lib.hid hn1
  have HR : w1.rangeAt db (do_ + 0 * 19) (.slice A y.from_.length ca :: y.when_.map (Value.int .i64)) := fun j v hv => hcell j v hv
  have HR := Lib.hid HR
  clear hx0 hn0 hn1 hxA hIA hcell hcl hca
  refine wp_region_lit ?_
  refine wpList_plain rfl (fun K hK => ?_)
  go_simp
  refine hK _ _ ?_
  clear hK K
  refine wpList_plain rfl (fun K hK => ?_)
  go_simp
  refine hK _ _ ?_
  clear hK K
  refine wpList_plain rfl (fun K hK => ?_)
  go_simp
  refine hK _ _ ?_
  clear hK K
  refine wpList_load_mid rfl 94 (.tmp 11) rfl db (do_ + 0 * 19) (by rw [Nat.zero_mul]; rfl) _ _ HR.out Try.underlying94 rfl (by rw [info_way_size]; simp [h18]) ?_
  simp only [Act.put]
  go_wp2_with fail
  refine (HC.out _ y hmem0 A ca hE1).mono ?_
  rintro e w3 ⟨rfl, hE3⟩
  go_upto_region 3 with fail
  obtain ⟨w4, ob, e1, e2, hE4, oblk⟩ := new_block w3 #[.int .i64 (lo y), .int .i64 (hi y)] 48
  have hob : w.heap.size ≤ ob := by have := hE1.size; have := hE3.size; omega
  have hor : rb ≠ ob := by have := blk_lt HRB.out; have := hE3.size; omega
  rw [e1, e2]
  clear e1 e2
  rw [← HN0.out, ← HN1.out] at oblk
  have hEw : Ext w w4 := hE1.trans (hE3.trans hE4)
  have HOB := Lib.hid oblk
  have HOBN := Lib.hid hob
  have HOR := Lib.hid hor
  have HRB4 := Lib.hid ((hE3.trans hE4).heap HRB.out)
  clear oblk hob hor hE1 hE3 hE4 HN0 HN1 hmem0 HR HRB
  generalize lo y = ly
  generalize hi y = hy
  go_loopg [16] L.length (fun g i wr => ∃ k : Nat, k + g = L.length ∧ i = .int .i64 k ∧ Turned ob w4 wr ∧ IsSpan wr ob (hullLo lo L k) (hullHi hi L k))
  case atStart => exact ⟨0, by omega, rfl, Turned.refl _ _, HOB.out⟩
  case round =>
    obtain ⟨k, hk, rfl, hT, hbl⟩ := hrel
    have HK := Lib.hid hk
    have HBL := Lib.hid hbl
    have hE : Ext w wr := hT.below hEw HOBN.out
    by_cases hlt : k < L.length
    · clear hk hbl
      have hx : L[k]? = some L[k] := List.getElem?_eq_getElem hlt
      have hmem : L[k] ∈ L := List.getElem_mem hlt
      have hn0 : hullLo lo L (k + 1) = min (hullLo lo L k) (lo L[k]) := by rw [hullLo, hx]; rfl
      have hn1 : hullHi hi L (k + 1) = max (hullHi hi L k) (hi L[k]) := by rw [hullHi, hx]; rfl
      generalize L[k] = x at hx hmem hn0 hn1
      obtain ⟨cs, ⟨A1, ca1, rfl, h18x, hca, hxA, hIA⟩, hcl, hcell⟩ := (HD.out.ext hE).at hx
      have HN0 := Lib.hid hn0
      have HN1 := Lib.hid hn1
      have HR : wr.rangeAt db (do_ + k * 19) (.slice A1 x.from_.length ca1 :: x.when_.map (Value.int .i64)) := fun j v hv => hcell j v hv
      have HR := Lib.hid HR
      have hk3 : (k : Int) < L.length := by omega
      clear hx hn0 hn1 hxA hIA hcell hcl hca
      go_upto_region 4 with fail
      refine wp_region_lit ?_
      refine wpList_plain rfl (fun K hK => ?_)
      go_simp
      refine hK _ _ ?_
      clear hK K
      refine wpList_load_mid rfl 94 (.tmp 18) rfl db (do_ + k * 19) rfl _ _ HR.out Try.underlying94 rfl (by rw [info_way_size]; simp [h18x]) ?_
      refine wpList_plain rfl (fun K hK => ?_)
      go_simp
      refine hK _ _ ?_
      clear hK K
      refine wpList_store_blk rfl 94 (.tmp 7) (.tmp 19) rfl wr.heap.size 94 _ _ rfl rfl (heap_alloc_new wr _) (by rw [info_way_size]; simp [h18x]) (by simp [h18x]) (by simp [Value.oneCell']) ?_
      intro wp hTp hblkp
      simp only [Act.put]
      have hEp : Ext wr wp := hTp.below (Ext.alloc _ _) (Nat.le_refl _)
      have hblkp2 : wp.heap[wr.heap.size]? = some (.cells (wayCells (.slice A1 x.from_.length ca1) x.when_) 94 (0, 0)) := hblkp
      generalize wr.heap.size = pb at hblkp2 ⊢
      have HBP := Lib.hid hblkp2
      clear hTp hblkp hblkp2
      go_upto_region 5 with fail
      refine wp_region_lit ?_
      refine wpList_plain rfl (fun K hK => ?_)
      go_simp
      refine hK _ _ ?_
      clear hK K
      refine wpList_load_row rfl 94 (.tmp 7) rfl pb rfl 94 _ (0, 0) _ HBP.out Try.underlying94 rfl (by rw [info_way_size, way_size h18x]) ?_
      simp only [Act.put]
      have hE5 := hE.trans hEp
      go_wp2_with fail
      refine (HC.out _ x hmem A1 ca1 hE5).mono ?_
      rintro e w5 ⟨rfl, hE6⟩
      go_upto_region 6 with fail
      have hEr5 := hEp.trans hE6
      obtain ⟨w6, tb, e1, e2, hE7, tblk⟩ := new_block w5 #[.int .i64 (lo x), .int .i64 (hi x)] 48
      have hto : tb ≠ ob := by have := blk_lt HBL.out; have := hEr5.size; omega
      rw [e1, e2]
      clear e1 e2
      have hEr6 := hEr5.trans hE7
      have t0 : w6.cell? ⟨tb, 0, none⟩ = some (.int .i64 (lo x)) := blk_at tblk 0 rfl
      have t1 : w6.cell? ⟨tb, 1, none⟩ = some (.int .i64 (hi x)) := blk_at tblk 1 rfl
      have HB2 := Lib.hid (hEr6.heap HBL.out)
      have g0 := IsSpan.c0 HB2.out
      have g1 := IsSpan.c1 HB2.out
      have g2 := IsSpan.f HB2.out 0
      have g3 := IsSpan.f HB2.out 1
      clear tblk hEp hE5 hE6 hEr5 hE7
      generalize lo x = lx at *
      generalize hi x = hx at *
      generalize hullLo lo L k = l0 at *
      generalize hullHi hi L k = h0 at *
      go_wp2_with fail
      all_goals
        go_roundg (gk - 1)
        case measure => have := HK.out; omega
        case rel =>
          refine ⟨k + 1, by have := HK.out; omega, by go_num, (hT.trans (Turned.of_ext hEr6)).trans (((Turned.refl ob w6).set_ _ _).set_ _ _), ?_⟩
          have hz := fun a b => (IsSpan.set0 HB2.out a).set1 b
          rw [HN0.out, HN1.out]
          first | rw [Int.min_eq_left (by omega)] | rw [Int.min_eq_right (by omega)]
          first | rw [Int.max_eq_left (by omega)] | rw [Int.max_eq_right (by omega)]
          exact hz _ _
    · obtain rfl : k = L.length := by omega
      clear hk hbl
      have g0 := HBL.out.c0
      have g1 := HBL.out.c1
      have HR5 : IsSpan wr rb 0 0 := hT.heap_ HOR.out HRB4.out
      have g2 := HR5.f 0
      have g3 := HR5.f 1
      have g4 := HR5.c0
      have g5 := HR5.c1
      go_wp2_with fail
      obtain ⟨wz, e, hEz, z0, z1⟩ := span_final hE HRBN.out HR5 (hullLo lo L L.length) (hullHi hi L L.length)
      rw [e]
      exact bodyPost_ret (v := .agg #[.int .i64 (hullLo lo L L.length), .int .i64 (hullHi hi L L.length)]) (by simp [results, Try.results42, go_sem, z0, z1]) rfl ⟨rfl, hEz⟩
end Go.Proofs.Ytloenmikkkklhaa

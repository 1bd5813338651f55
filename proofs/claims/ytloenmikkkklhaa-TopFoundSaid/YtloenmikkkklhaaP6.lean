/-
  The layer 'copies': open, of a valid run that has ways; how large what a way holds can be.
-/
import Derived.Test.YtloenmikkkklhaaP5
namespace Go.Proofs.Ytloenmikkkklhaa
open Go.RowKit

set_option maxRecDepth 100000 in
set_option maxHeartbeats 4000000 in
theorem open6 (pl last : Int) (A B : Option Addr) (ms : List Machine) (fs : List Found) (cm ck : Nat) (w : World) (hv : OkRun pl last ms fs) (hA : RdMach w A ms) (hB : RdFound w B fs) (hn : 0 < (waysOf ms fs).length) :
    Calls Try.prog 39 #[.agg #[.int .i64 pl, .int .i64 last, .slice A ms.length cm, .slice B fs.length ck], .bool true] w
      fun e w' => ∃ D cd, e = .returned (.tuple #[.slice D (waysOf ms fs).length cd, .int .i64 0]) ∧ (waysOf ms fs).length ≤ cd ∧ RdWay w' D (waysOf ms fs) ∧ Ext w w' := by
  have HA := Lib.hid hA
  have HB := Lib.hid hB
  have HV := Lib.hid hv
  have hln : (waysOf ms fs).length ≤ 729 := Nat.le_trans (waysUpto_length ms fs (fun c hc => (hv.found c hc).2.2.1.2) _) (Nat.le_trans (Nat.pow_le_pow_right (by omega) (show fs.length ≤ 6 from hv.hfs)) (by decide))
  clear hA hB hv
  go_enter Try.func39, Try.ntmps39
  go_upto_region 1 with fail
  obtain ⟨w1, p0, e1, e2, hE0, pblk⟩ := new_block w #[.int .i64 pl, .int .i64 last, .slice A ms.length cm, .slice B fs.length ck] 41
  rw [e1, e2]
  clear e1 e2
  have r0 : w1.cell? ⟨p0, 0, none⟩ = some (.int .i64 pl) := blk_at pblk 0 rfl
  have r1 : w1.cell? ⟨p0, 1, none⟩ = some (.int .i64 last) := blk_at pblk 1 rfl
  have r2 : w1.cell? ⟨p0, 2, none⟩ = some (.slice A ms.length cm) := blk_at pblk 2 rfl
  have r3 : w1.cell? ⟨p0, 3, none⟩ = some (.slice B fs.length ck) := blk_at pblk 3 rfl
  clear pblk
  go_upto_region 6 with (go_at_call 66; refine (check6 pl last A B ms fs cm ck _ HV.out (HA.out.ext hE0) (HB.out.ext hE0)).mono ?_; rintro e w' ⟨rfl, hE1⟩)
  have s0 := hE1.cell r0
  have s1 := hE1.cell r1
  have s2 := hE1.cell r2
  have s3 := hE1.cell r3
  clear r0 r1 r2 r3
  go_upto_region 7 with (go_at_call 67; refine (ways6 pl last A B ms fs cm ck _ HV.out (HA.out.ext (hE0.trans hE1)) (HB.out.ext (hE0.trans hE1))).mono ?_; rintro e w' ⟨D, cd, rfl, hcd, hD, hE2⟩)
  have HD := Lib.hid hD
  clear hD s0 s1 s2 s3
  have hz : ((waysOf ms fs).length == 0) = false := by simp; intro h; rw [h] at hn; simp at hn
  go_wp2_with fail
  go_ret2
  exact ⟨D, cd, rfl, hcd, HD.out, hE0.trans (hE1.trans hE2)⟩

/-- What a way holds is small. -/
def Small (wh : List Int) : Prop := ∀ n ∈ wh, 0 ≤ n ∧ n ≤ 31
theorem Small.set {wh : List Int} (h : Small wh) (i : Nat) {n : Int} (hn : 0 ≤ n ∧ n ≤ 31) : Small (wh.set i n) := fun x hx => by
  rcases List.mem_or_eq_of_mem_set hx with h1 | rfl
  · exact h _ h1
  · exact hn
theorem Small.getD {wh : List Int} (h : Small wh) (i : Nat) : 0 ≤ wh.getD i 0 ∧ wh.getD i 0 ≤ 31 := by
  rw [List.getD_eq_getElem?_getD]
  cases hx : wh[i]? with
  | none => simp
  | some n => simpa using h n (List.mem_of_getElem? hx)
theorem copySpans_small : ∀ (l : List Span) (wh : List Int) (i : Nat), Small wh → (∀ s ∈ l, (0 ≤ s.lo ∧ s.lo ≤ 31) ∧ (0 ≤ s.hi ∧ s.hi ≤ 31)) → Small (copySpans wh i l)
  | [], _, _, h, _ => h
  | s :: r, wh, i, h, hs => copySpans_small r _ _ ((h.set _ (hs s (by simp)).1).set _ (hs s (by simp)).2) (fun t ht => hs t (by simp [ht]))
theorem firstUpto_small (ms : List Machine) (hm : ∀ m ∈ ms, ∀ s ∈ m.changes, (0 ≤ s.lo ∧ s.lo ≤ 31) ∧ (0 ≤ s.hi ∧ s.hi ≤ 31)) : ∀ k, Small (firstUpto ms k)
  | 0 => fun n hn => by simp [firstUpto] at hn; omega
  | k + 1 => by
    rw [firstUpto]
    cases hx : ms[k]? with
    | none => exact copySpans_small [] _ _ (firstUpto_small ms hm k) (fun s hs => by simp at hs)
    | some m => exact copySpans_small _ _ _ (firstUpto_small ms hm k) (hm m (List.mem_of_getElem? hx))
theorem seeOne_small {wh : List Int} (i : Nat) {minute n : Int} (hm : 0 ≤ minute ∧ minute ≤ 30) (h : Small wh) : Small (seeOne wh i minute n) := by
  unfold seeOne
  split
  · have := h.getD i
    exact h.set _ (by omega)
  · split
    · have := h.getD (i + 1)
      exact h.set _ (by omega)
    · exact h
theorem seeUpto_small {wh : List Int} (m : Nat) {minute : Int} (new : List Int) (hm : 0 ≤ minute ∧ minute ≤ 30) (h : Small wh) : ∀ k, Small (seeUpto wh m minute new k)
  | 0 => h
  | k + 1 => seeOne_small _ hm (seeUpto_small m new hm h k)
theorem waysUpto_small {pl last : Int} {ms : List Machine} {fs : List Found} (hv : OkRun pl last ms fs) : ∀ k, ∀ x ∈ waysUpto ms fs k, Small x.when_
  | 0, x, h => by
    simp only [waysUpto, List.mem_singleton] at h
    subst h
    refine firstUpto_small ms (fun m hm s hs => ?_) _
    have := (hv.mach m hm).2.2 s hs
    have := hv.hlast
    omega
  | k + 1, x, h => by
    rw [waysUpto] at h
    cases hx : fs[k]? with
    | none =>
      rw [hx] at h
      simp [stepC, stepW] at h
    | some c =>
      rw [hx, Option.getD_some] at h
      rw [stepC, List.mem_flatMap] at h
      obtain ⟨y, hy, h⟩ := h
      rw [stepW, List.mem_flatMap] at h
      obtain ⟨m, _, h⟩ := h
      unfold stepM at h
      split at h
      · simp only [List.mem_singleton] at h
        subst h
        have h1 := (hv.found c (List.mem_of_getElem? hx)).1
        have := hv.hlast
        exact seeUpto_small _ _ (by omega) (waysUpto_small hv k y hy) _
      · simp at h
theorem waysOf_small {pl last : Int} {ms : List Machine} {fs : List Found} (hv : OkRun pl last ms fs) : ∀ x ∈ waysOf ms fs, Small x.when_ := waysUpto_small hv _
theorem waysOf_ok (ms : List Machine) (fs : List Found) : ∀ x ∈ waysOf ms fs, x.when_.length = 18 ∧ x.from_.length = fs.length := waysUpto_ok ms fs _
end Go.Proofs.Ytloenmikkkklhaa

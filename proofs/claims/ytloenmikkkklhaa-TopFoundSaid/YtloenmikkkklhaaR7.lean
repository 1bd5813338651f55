/-
  The examples of the chapters 6 and 7.
-/
import Derived.Test.YtloenmikkkklhaaR5
namespace Go.Proofs.Ytloenmikkkklhaa
open Go.RowKit

theorem alloc_new2 {w w' : World} {cs : Array Value} {t : TypeId} (h : Ext (w.alloc (.cells cs t)) w') : ∃ b, w.heap.size = b ∧ w'.heap[b]? = some (.cells cs t (0, 0)) := ⟨_, rfl, h.heap (heap_alloc_new w _)⟩
theorem rd_of_reps {α : Type} {R : World → α → List Value → Prop} {sz g : Nat} {w : World} {xs : List α} {cells : List Value} {cs : Array Value} {t : TypeId} {fr : Nat × Nat} (h : Reps R sz w xs cells) (hg : w.heap[g]? = some (.cells cs t fr)) (hc : cs = cells.toArray) : RdL R sz w (some ⟨g, 0, none⟩) xs := by
  subst hc
  refine .inr ⟨g, 0, rfl, fun i x hx => ?_⟩
  obtain ⟨ds, h1, h2, h3⟩ := h.2 i x hx
  refine ⟨ds, h1, h2, fun j v hv => ?_⟩
  rw [Nat.zero_add]
  exact blk_at hg _ (by simpa using h3 j v hv)
theorem rd_spans {g : Nat} {w : World} (xs : List Span) {cs : Array Value} {t : TypeId} {fr : Nat × Nat} (hg : w.heap[g]? = some (.cells cs t fr)) (hc : cs = (xs.flatMap encS).toArray) : RdS w (some ⟨g, 0, none⟩) xs :=
  rd_of_reps (reps_plain (enc := encS) (sz := 2) (fun _ => rfl) w xs) hg hc
theorem rd_ints {g : Nat} {w : World} (xs : List Int) {cs : Array Value} {t : TypeId} {fr : Nat × Nat} (hg : w.heap[g]? = some (.cells cs t fr)) (hc : cs = (xs.map (Value.int .i64)).toArray) : RdI w (some ⟨g, 0, none⟩) xs :=
  rd_of_reps (reps_ints w xs) hg hc
def exM1 : Machine := ⟨[⟨2, 5⟩, ⟨2, 8⟩], 3⟩
def exM2 : Machine := ⟨[⟨4, 9⟩, ⟨0, 9⟩], 5⟩
def exF1 : Found := ⟨4, [1, 0], [0, 1]⟩
def exF2 : Found := ⟨6, [-1, 1], [0, 1]⟩
def exF3 : Found := ⟨3, [0, -1], [0]⟩
def exMs : List Machine := [exM1, exM2]
def exFs : List Found := [exF1, exF2, exF3]

set_option maxRecDepth 100000 in
set_option maxHeartbeats 1000000 in
theorem spanR (a b : Int) (w : World) : Calls Try.prog 54 #[.int .i64 a, .int .i64 b] w fun e w' => e = .returned (.agg #[.int .i64 a, .int .i64 b]) ∧ Ext w w' := by
  go_enter Try.func54, Try.ntmps54
  go_upto_region 1 with fail
  obtain ⟨w2, rb, e1, e2, hE1, rblk⟩ := new_block w #[.int .i64 0, .int .i64 0] 48
  have hrb : w.heap.size ≤ rb := by omega
  rw [e1, e2]
  clear e1 e2
  have HRB := Lib.hid rblk
  have g0 := IsSpan.c0 HRB.out
  have g1 := IsSpan.c1 HRB.out
  have g2 := IsSpan.f HRB.out 0
  have g3 := IsSpan.f HRB.out 1
  clear rblk
  go_wp2_with fail
  obtain ⟨wz, e, hEz, z0, z1⟩ := span_final hE1 hrb HRB.out a b
  rw [e]
  exact bodyPost_ret (v := .agg #[.int .i64 a, .int .i64 b]) (by simp [results, Try.results54, go_sem, z0, z1]) rfl ⟨rfl, hEz⟩

/-- Where the example's run lies. -/
structure ExH (w : World) (b1 y1 y2 y3 y4 y5 y6 y7 y8 y9 : Nat) : Prop where
  f0 : w.heap[b1]? = some (.cells #[.int .i64 2, .int .i64 5, .int .i64 2, .int .i64 8] 48 (0, 0))
  f1 : w.heap[y1]? = some (.cells #[.int .i64 4, .int .i64 9, .int .i64 0, .int .i64 9] 48 (0, 0))
  f2 : w.heap[y2]? = some (.cells #[.slice (some ⟨b1, 0, none⟩) 2 2, .int .i64 3, .slice (some ⟨y1, 0, none⟩) 2 2, .int .i64 5] 44 (0, 0))
  f3 : w.heap[y3]? = some (.cells #[.int .i64 1, .int .i64 0] 3 (0, 0))
  f4 : w.heap[y4]? = some (.cells #[.int .i64 0, .int .i64 1] 3 (0, 0))
  f5 : w.heap[y5]? = some (.cells #[.int .i64 (-1), .int .i64 1] 3 (0, 0))
  f6 : w.heap[y6]? = some (.cells #[.int .i64 0, .int .i64 1] 3 (0, 0))
  f7 : w.heap[y7]? = some (.cells #[.int .i64 0, .int .i64 (-1)] 3 (0, 0))
  f8 : w.heap[y8]? = some (.cells #[.int .i64 0] 3 (0, 0))
  f9 : w.heap[y9]? = some (.cells #[.int .i64 4, .slice (some ⟨y3, 0, none⟩) 2 2, .slice (some ⟨y4, 0, none⟩) 2 2, .int .i64 6, .slice (some ⟨y5, 0, none⟩) 2 2, .slice (some ⟨y6, 0, none⟩) 2 2, .int .i64 3, .slice (some ⟨y7, 0, none⟩) 2 2, .slice (some ⟨y8, 0, none⟩) 1 1] 50 (0, 0))
theorem ExH.ext {w w' : World} {b1 y1 y2 y3 y4 y5 y6 y7 y8 y9 : Nat} (h : ExH w b1 y1 y2 y3 y4 y5 y6 y7 y8 y9) (he : Ext w w') : ExH w' b1 y1 y2 y3 y4 y5 y6 y7 y8 y9 := ⟨he.heap h.f0, he.heap h.f1, he.heap h.f2, he.heap h.f3, he.heap h.f4, he.heap h.f5, he.heap h.f6, he.heap h.f7, he.heap h.f8, he.heap h.f9⟩
theorem ExH.turnedR {w w' : World} {b1 y1 y2 y3 y4 y5 y6 y7 y8 y9 : Nat} (h : ExH w b1 y1 y2 y3 y4 y5 y6 y7 y8 y9) {g : Nat} {ds : Array Value} {gr : Nat × Nat} (hg : w.heap[g]? = some (.cells ds 41 gr)) (ht : Turned g w w') : ExH w' b1 y1 y2 y3 y4 y5 y6 y7 y8 y9 := ⟨ht.heap_ (ty_ne (by decide) h.f0 hg) h.f0, ht.heap_ (ty_ne (by decide) h.f1 hg) h.f1, ht.heap_ (ty_ne (by decide) h.f2 hg) h.f2, ht.heap_ (ty_ne (by decide) h.f3 hg) h.f3, ht.heap_ (ty_ne (by decide) h.f4 hg) h.f4, ht.heap_ (ty_ne (by decide) h.f5 hg) h.f5, ht.heap_ (ty_ne (by decide) h.f6 hg) h.f6, ht.heap_ (ty_ne (by decide) h.f7 hg) h.f7, ht.heap_ (ty_ne (by decide) h.f8 hg) h.f8, ht.heap_ (ty_ne (by decide) h.f9 hg) h.f9⟩
theorem ExH.turnedN {w0 w w' : World} {b1 y1 y2 y3 y4 y5 y6 y7 y8 y9 : Nat} (h0 : ExH w0 b1 y1 y2 y3 y4 y5 y6 y7 y8 y9) (h : ExH w b1 y1 y2 y3 y4 y5 y6 y7 y8 y9) {g : Nat} (hg : w0.heap.size ≤ g) (ht : Turned g w w') : ExH w' b1 y1 y2 y3 y4 y5 y6 y7 y8 y9 := ⟨ht.heap_ (by have := blk_lt h0.f0; omega) h.f0, ht.heap_ (by have := blk_lt h0.f1; omega) h.f1, ht.heap_ (by have := blk_lt h0.f2; omega) h.f2, ht.heap_ (by have := blk_lt h0.f3; omega) h.f3, ht.heap_ (by have := blk_lt h0.f4; omega) h.f4, ht.heap_ (by have := blk_lt h0.f5; omega) h.f5, ht.heap_ (by have := blk_lt h0.f6; omega) h.f6, ht.heap_ (by have := blk_lt h0.f7; omega) h.f7, ht.heap_ (by have := blk_lt h0.f8; omega) h.f8, ht.heap_ (by have := blk_lt h0.f9; omega) h.f9⟩
theorem ExH.mach {w : World} {b1 y1 y2 y3 y4 y5 y6 y7 y8 y9 : Nat} (h : ExH w b1 y1 y2 y3 y4 y5 y6 y7 y8 y9) : RdMach w (some ⟨y2, 0, none⟩) exMs := rd_of_reps (((Reps.none RMach 2 w).snoc (x := exM1) ⟨some ⟨b1, 0, none⟩, 2, rfl, Nat.le_refl _, rd_spans [⟨2, 5⟩, ⟨2, 8⟩] h.f0 rfl⟩ rfl).snoc (x := exM2) ⟨some ⟨y1, 0, none⟩, 2, rfl, Nat.le_refl _, rd_spans [⟨4, 9⟩, ⟨0, 9⟩] h.f1 rfl⟩ rfl) h.f2 rfl
theorem ExH.found {w : World} {b1 y1 y2 y3 y4 y5 y6 y7 y8 y9 : Nat} (h : ExH w b1 y1 y2 y3 y4 y5 y6 y7 y8 y9) : RdFound w (some ⟨y9, 0, none⟩) exFs := rd_of_reps ((((Reps.none RFound 3 w).snoc (x := exF1) ⟨some ⟨y3, 0, none⟩, 2, some ⟨y4, 0, none⟩, 2, rfl, Nat.le_refl _, Nat.le_refl _, rd_ints [1, 0] h.f3 rfl, rd_ints [0, 1] h.f4 rfl⟩ rfl).snoc (x := exF2) ⟨some ⟨y5, 0, none⟩, 2, some ⟨y6, 0, none⟩, 2, rfl, Nat.le_refl _, Nat.le_refl _, rd_ints [-1, 1] h.f5 rfl, rd_ints [0, 1] h.f6 rfl⟩ rfl).snoc (x := exF3) ⟨some ⟨y7, 0, none⟩, 2, some ⟨y8, 0, none⟩, 1, rfl, Nat.le_refl _, Nat.le_refl _, rd_ints [0, -1] h.f7 rfl, rd_ints [0] h.f8 rfl⟩ rfl) h.f9 rfl

theorem exRun : OkRun 2 10 exMs exFs where
  hpl := by omega
  hlast := by omega
  hms := by decide
  hfs := by decide
  mach := by
    intro m hm
    simp only [exMs, List.mem_cons, List.not_mem_nil, or_false] at hm
    rcases hm with rfl | rfl
    · exact ⟨rfl, by decide, by decide⟩
    · exact ⟨rfl, by decide, by decide⟩
  found := by
    intro c hc
    simp only [exFs, List.mem_cons, List.not_mem_nil, or_false] at hc
    rcases hc with rfl | rfl | rfl
    · refine ⟨by decide, rfl, by decide, by decide, fun i m h => ?_⟩
      rcases i with _ | _ | i <;> simp [exF1, exF2, exF3] at h
      · subst h; decide
      · subst h; decide
    · refine ⟨by decide, rfl, by decide, by decide, fun i m h => ?_⟩
      rcases i with _ | _ | i <;> simp [exF1, exF2, exF3] at h
      · subst h; decide
      · subst h; decide
    · refine ⟨by decide, rfl, by decide, by decide, fun i m h => ?_⟩
      rcases i with _ | i <;> simp [exF1, exF2, exF3] at h
      subst h; decide

set_option maxRecDepth 100000 in
set_option maxHeartbeats 8000000 in
theorem example6 (w : World) :
    Calls Try.prog 27 #[] w fun e w' => ∃ A B c d q0 q1 C D e' f n m, e = .returned (.tuple #[.agg #[.int .i64 2, .int .i64 10, .slice A 2 c, .slice B 3 d], .agg #[.int .i64 q0, .int .i64 q1, .slice C n e', .slice D m f]]) ∧
      RdMach w' A exMs ∧ RdFound w' B exFs ∧ Ext w w' := by
  go_enter Try.func27, Try.ntmps27
  go_upto_region 1 with fail
  obtain ⟨w1, p0, e1, e2, hE0, pblk⟩ := new_block w #[.int .i64 0, .int .i64 0, .slice none 0 0, .slice none 0 0] 41
  have e3 : w.heap.size + 1 = w1.heap.size := by rw [← e1]; simp
  rw [e3, e1, e2]
  have hp0 : w.heap.size ≤ p0 := by omega
  clear e1 e2 e3
  obtain ⟨w2, p1, e1, e2, hE1, pblk1⟩ := new_block w1 #[.int .i64 0, .int .i64 0, .slice none 0 0, .slice none 0 0] 41
  have hp1 : w1.heap.size ≤ p1 := by omega
  have hp01 : p1 ≠ p0 := by have := blk_lt pblk; omega
  rw [e1, e2]
  clear e1 e2
  have HP0 := Lib.hid (hE1.heap pblk)
  have HP1 := Lib.hid pblk1
  clear pblk pblk1
  have HPc := Lib.hid HP0.out
  have HEc := Lib.hid (Ext.refl w2)
  go_upto_region 2 with (first | (go_at_call 54; refine (spanR _ _ _).mono ?_; rintro e w' ⟨rfl, hE⟩; (first | (replace HB1 := Lib.hid (hE.heap HB1.out)) | (obtain ⟨b1, hb1, hB1⟩ := alloc_new2 hE; rw [hb1]; have HB1 := Lib.hid hB1; clear hb1 hB1) | skip); replace HPc := Lib.hid (hE.heap (by first | exact HPc.out | exact (Ext.alloc _ _).heap HPc.out)); replace HEc := Lib.hid ((show Ext w2 _ by first | exact HEc.out | exact HEc.out.trans (Ext.alloc _ _)).trans hE)) | (refine wpList_store_blk rfl 41 (.tmp 0) (.tmp 21) rfl p0 41 #[.int .i64 0, .int .i64 0, .slice none 0 0, .slice none 0 0] _ rfl rfl (by repeat (first | exact HPc.out | refine (Ext.alloc _ _).heap ?_)) (by kernel_rfl) rfl (by simp [Value.oneCell']) ?_; intro wz hTz hbz))
  obtain ⟨x1, y1, e1, e2, hx1, k1⟩ := new_block w' #[.int .i64 4, .int .i64 9, .int .i64 0, .int .i64 9] 48
  have e3 : w'.heap.size + 1 = x1.heap.size := by rw [← e1]; simp
  (try simp only [e3] at hTz hbz ⊢)
  (try rw [e2] at hTz)
  (try rw [e2] at hbz)
  (try rw [e2])
  rw [e1] at hTz
  clear e1 e2 e3
  obtain ⟨x2, y2, e1, e2, hx2, k2⟩ := new_block x1 #[.slice (some ⟨b1, 0, none⟩) 2 2, .int .i64 3, .slice (some ⟨y1, 0, none⟩) 2 2, .int .i64 5] 44
  have e3 : x1.heap.size + 1 = x2.heap.size := by rw [← e1]; simp
  (try simp only [e3] at hTz hbz ⊢)
  (try rw [e2] at hTz)
  (try rw [e2] at hbz)
  (try rw [e2])
  rw [e1] at hTz
  clear e1 e2 e3
  obtain ⟨x3, y3, e1, e2, hx3, k3⟩ := new_block x2 #[.int .i64 1, .int .i64 0] 3
  have e3 : x2.heap.size + 1 = x3.heap.size := by rw [← e1]; simp
  (try simp only [e3] at hTz hbz ⊢)
  (try rw [e2] at hTz)
  (try rw [e2] at hbz)
  (try rw [e2])
  rw [e1] at hTz
  clear e1 e2 e3
  obtain ⟨x4, y4, e1, e2, hx4, k4⟩ := new_block x3 #[.int .i64 0, .int .i64 1] 3
  have e3 : x3.heap.size + 1 = x4.heap.size := by rw [← e1]; simp
  (try simp only [e3] at hTz hbz ⊢)
  (try rw [e2] at hTz)
  (try rw [e2] at hbz)
  (try rw [e2])
  rw [e1] at hTz
  clear e1 e2 e3
  obtain ⟨x5, y5, e1, e2, hx5, k5⟩ := new_block x4 #[.int .i64 (-1), .int .i64 1] 3
  have e3 : x4.heap.size + 1 = x5.heap.size := by rw [← e1]; simp
  (try simp only [e3] at hTz hbz ⊢)
  (try rw [e2] at hTz)
  (try rw [e2] at hbz)
  (try rw [e2])
  rw [e1] at hTz
  clear e1 e2 e3
  obtain ⟨x6, y6, e1, e2, hx6, k6⟩ := new_block x5 #[.int .i64 0, .int .i64 1] 3
  have e3 : x5.heap.size + 1 = x6.heap.size := by rw [← e1]; simp
  (try simp only [e3] at hTz hbz ⊢)
  (try rw [e2] at hTz)
  (try rw [e2] at hbz)
  (try rw [e2])
  rw [e1] at hTz
  clear e1 e2 e3
  obtain ⟨x7, y7, e1, e2, hx7, k7⟩ := new_block x6 #[.int .i64 0, .int .i64 (-1)] 3
  have e3 : x6.heap.size + 1 = x7.heap.size := by rw [← e1]; simp
  (try simp only [e3] at hTz hbz ⊢)
  (try rw [e2] at hTz)
  (try rw [e2] at hbz)
  (try rw [e2])
  rw [e1] at hTz
  clear e1 e2 e3
  obtain ⟨x8, y8, e1, e2, hx8, k8⟩ := new_block x7 #[.int .i64 0] 3
  have e3 : x7.heap.size + 1 = x8.heap.size := by rw [← e1]; simp
  (try simp only [e3] at hTz hbz ⊢)
  (try rw [e2] at hTz)
  (try rw [e2] at hbz)
  (try rw [e2])
  rw [e1] at hTz
  clear e1 e2 e3
  obtain ⟨x9, y9, e1, e2, hx9, k9⟩ := new_block x8 #[.int .i64 4, .slice (some ⟨y3, 0, none⟩) 2 2, .slice (some ⟨y4, 0, none⟩) 2 2, .int .i64 6, .slice (some ⟨y5, 0, none⟩) 2 2, .slice (some ⟨y6, 0, none⟩) 2 2, .int .i64 3, .slice (some ⟨y7, 0, none⟩) 2 2, .slice (some ⟨y8, 0, none⟩) 1 1] 50
  have e3 : x8.heap.size + 1 = x9.heap.size := by rw [← e1]; simp
  (try simp only [e3] at hTz hbz ⊢)
  (try rw [e2] at hTz)
  (try rw [e2] at hbz)
  (try rw [e2])
  rw [e1] at hTz
  clear e1 e2 e3
  have B1 := (((((((((hx1).trans hx2).trans hx3).trans hx4).trans hx5).trans hx6).trans hx7).trans hx8).trans hx9).heap HB1.out
  have BY1 := ((((((((hx2).trans hx3).trans hx4).trans hx5).trans hx6).trans hx7).trans hx8).trans hx9).heap k1
  have BY2 := (((((((hx3).trans hx4).trans hx5).trans hx6).trans hx7).trans hx8).trans hx9).heap k2
  have BY3 := ((((((hx4).trans hx5).trans hx6).trans hx7).trans hx8).trans hx9).heap k3
  have BY4 := (((((hx5).trans hx6).trans hx7).trans hx8).trans hx9).heap k4
  have BY5 := ((((hx6).trans hx7).trans hx8).trans hx9).heap k5
  have BY6 := (((hx7).trans hx8).trans hx9).heap k6
  have BY7 := ((hx8).trans hx9).heap k7
  have BY8 := (hx9).heap k8
  have BY9 := k9
  have hEx := HEc.out.trans (((((((((hx1).trans hx2).trans hx3).trans hx4).trans hx5).trans hx6).trans hx7).trans hx8).trans hx9)
  have HPx := (((((((((hx1).trans hx2).trans hx3).trans hx4).trans hx5).trans hx6).trans hx7).trans hx8).trans hx9).heap HPc.out
  have C1 := hTz.heap_ (ty_ne (by decide) B1 HPx) B1
  have D1 := hTz.heap_ (ty_ne (by decide) BY1 HPx) BY1
  have D2 := hTz.heap_ (ty_ne (by decide) BY2 HPx) BY2
  have D3 := hTz.heap_ (ty_ne (by decide) BY3 HPx) BY3
  have D4 := hTz.heap_ (ty_ne (by decide) BY4 HPx) BY4
  have D5 := hTz.heap_ (ty_ne (by decide) BY5 HPx) BY5
  have D6 := hTz.heap_ (ty_ne (by decide) BY6 HPx) BY6
  have D7 := hTz.heap_ (ty_ne (by decide) BY7 HPx) BY7
  have D8 := hTz.heap_ (ty_ne (by decide) BY8 HPx) BY8
  have D9 := hTz.heap_ (ty_ne (by decide) BY9 HPx) BY9
  have hXH : ExH wz b1 y1 y2 y3 y4 y5 y6 y7 y8 y9 := ⟨C1, D1, D2, D3, D4, D5, D6, D7, D8, D9⟩
  have hEz : Ext w wz := hTz.below (hE0.trans (hE1.trans hEx)) hp0
  have hP1 : wz.heap[p1]? = some (.cells #[.int .i64 0, .int .i64 0, .slice none 0 0, .slice none 0 0] 41 (0, 0)) := hTz.heap_ hp01 (hEx.heap HP1.out)
  have HXH := Lib.hid hXH
  have HEZ := Lib.hid hEz
  have HBZ := Lib.hid hbz
  have HPZ1 := Lib.hid hP1
  clear C1 D1 D2 D3 D4 D5 D6 D7 D8 D9 B1 BY1 BY2 BY3 BY4 BY5 BY6 BY7 BY8 BY9 HPx hXH hP1 hbz hTz hx1 hx2 hx3 hx4 hx5 hx6 hx7 hx8 hx9 k1 k2 k3 k4 k5 k6 k7 k8 k9
  simp only [Act.put]
  have c0 := blk_at HBZ.out 0 rfl
  have c1 := blk_at HBZ.out 1 rfl
  have c2 := blk_at HBZ.out 2 rfl
  have c3 := blk_at HBZ.out 3 rfl
  go_upto_region 3 with (first | (go_at_call 17; refine (copyR 2 10 (some ⟨y2, 0, none⟩) (some ⟨y9, 0, none⟩) exMs exFs 2 3 _ exRun HXH.out.mach HXH.out.found).mono ?_; rintro e w5 ⟨A', B', cm', ck', rfl, hM', hF', hTB', hE5⟩; have hp5 := hE5.heap HPZ1.out; have d0 := blk_at hp5 0 rfl; have d1 := blk_at hp5 1 rfl; have d2 := blk_at hp5 2 rfl; have d3 := blk_at hp5 3 rfl; have f0 := blk_free hp5 0; have f1 := blk_free hp5 1; have f2 := blk_free hp5 2; have f3 := blk_free hp5 3))
  have h2 : exMs.length = 2 := rfl
  have h3 : exFs.length = 3 := rfl
  simp only [h2, h3]
  have hq := blk_put (blk_put (blk_put (blk_put hp5 0 (.int .i64 2)) 1 (.int .i64 10)) 2 (.slice A' 2 cm')) 3 (.slice B' 3 ck')
  have hT1 : Turned p1 w5 ((((w5.setCell ⟨p1, 0, none⟩ (.int .i64 2)).setCell ⟨p1, 1, none⟩ (.int .i64 10)).setCell ⟨p1, 2, none⟩ (.slice A' 2 cm')).setCell ⟨p1, 3, none⟩ (.slice B' 3 ck')) := ((((Turned.refl p1 w5).set_ _ _).set_ _ _).set_ _ _).set_ _ _
  generalize (((w5.setCell ⟨p1, 0, none⟩ (.int .i64 2)).setCell ⟨p1, 1, none⟩ (.int .i64 10)).setCell ⟨p1, 2, none⟩ (.slice A' 2 cm')).setCell ⟨p1, 3, none⟩ (.slice B' 3 ck') = w6 at hq hT1 ⊢
  have hX6 := (HXH.out.ext hE5).turnedR hp5 hT1
  obtain ⟨fb2, fo2, hBe⟩ := hF'.base (by decide)
  subst hBe
  obtain ⟨cs, ⟨hR1, A1, c1', r1, rfl, nb, no, ncs, hA1, hnb, hnh⟩, hcl, hcell⟩ := hF'.at (i := 1) (x := exF2) rfl
  subst hA1
  obtain ⟨A2, c2', B2, d2', hcs, _, _, hN, _⟩ := hR1
  simp only [List.cons.injEq, Value.slice.injEq] at hcs
  obtain ⟨_, ⟨hA2, _, _⟩, _⟩ := hcs
  subst hA2
  have hn0 : w5.cell? ⟨nb, no, none⟩ = some (.int .i64 (-1)) := hN.at (i := 0) rfl
  have hfne : fb2 ≠ p1 := by
    rcases hTB' with h | ⟨b, o, cs, fr, h, hh⟩
    · cases h
    · cases h
      exact ty_ne (by decide) hh hp5
  have hp1z : p1 < wz.heap.size := blk_lt HPZ1.out
  have hp0z : p0 < wz.heap.size := blk_lt HBZ.out
  have hnbp : nb ≠ p1 := by omega
  have g0 : w6.cell? ⟨fb2, fo2 + 3 + 1, none⟩ = some (.slice (some ⟨nb, no, none⟩) 2 c1') := hT1.cell_ hfne (hcell 1 _ rfl)
  have g1 : w6.cell? ⟨nb, no, none⟩ = some (.int .i64 (-1)) := hT1.cell_ hnbp hn0
  have g2 : w6.frozen? ⟨nb, no, none⟩ = false := blk_free (hT1.heap_ hnbp hnh) no
  have g3 : w6.cell? ⟨p1, 3, none⟩ = some (.slice (some ⟨fb2, fo2, none⟩) 3 ck') := blk_at hq 3 rfl
  have HQ := Lib.hid hq
  have HT1 := Lib.hid hT1
  have HE5 := Lib.hid hE5
  clear hq hT1 hF' hM' hcell hcl hN hn0 hnh hp5 d0 d1 d2 d3 f0 f1 f2 f3 c0 c1 c2 c3 hTB' hE5
  go_upto_region 4 with fail
  have hT2 : Turned nb w6 (w6.setCell ⟨nb, no, none⟩ (.int .i64 0)) := (Turned.refl nb w6).set_ _ _
  generalize w6.setCell ⟨nb, no, none⟩ (.int .i64 0) = w7 at hT2 ⊢
  have hX7 := ExH.turnedN HXH.out hX6 hnb hT2
  have hP0 := hT2.heap_ (show p0 ≠ nb by omega) (HT1.out.heap_ hp01.symm (HE5.out.heap HBZ.out))
  have hP1 := hT2.heap_ hnbp.symm HQ.out
  have hE7 : Ext w w7 := hT2.below (HT1.out.below (HEZ.out.trans HE5.out) (by have := hE0.size; omega)) (by have := HEZ.out.size; omega)
  have HX7 := Lib.hid hX7
  have HP07 := Lib.hid hP0
  have HP17 := Lib.hid hP1
  have HE7 := Lib.hid hE7
  have a0 := blk_at hP0 0 rfl
  have a1 := blk_at hP0 1 rfl
  have a2 := blk_at hP0 2 rfl
  have a3 := blk_at hP0 3 rfl
  have e0 := blk_free hP0 0
  have e1 := blk_free hP0 1
  have e2 := blk_free hP0 2
  have e3 := blk_free hP0 3
  have b0 := blk_at hP1 0 rfl
  have b1' := blk_at hP1 1 rfl
  have b2 := blk_at hP1 2 rfl
  have b3 := blk_at hP1 3 rfl
  have f0 := blk_free hP1 0
  have f1 := blk_free hP1 1
  have f2 := blk_free hP1 2
  have f3 := blk_free hP1 3
  have hne1 : p0 ≠ p1 := hp01.symm
  clear hX7 hP0 hP1 hE7 hX6 hT2 g0 g1 g2 g3
  go_region
  all_goals go_wp2_with fail
  have hq0 := blk_put (blk_put (blk_put (blk_put HP07.out 0 (.int .i64 2)) 1 (.int .i64 10)) 2 (.slice (some ⟨y2, 0, none⟩) 2 2)) 3 (.slice (some ⟨y9, 0, none⟩) 3 3)
  have hU0 : Turned p0 w7 ((((w7.setCell ⟨p0, 0, none⟩ (.int .i64 2)).setCell ⟨p0, 1, none⟩ (.int .i64 10)).setCell ⟨p0, 2, none⟩ (.slice (some ⟨y2, 0, none⟩) 2 2)).setCell ⟨p0, 3, none⟩ (.slice (some ⟨y9, 0, none⟩) 3 3)) := ((((Turned.refl p0 w7).set_ _ _).set_ _ _).set_ _ _).set_ _ _
  generalize (((w7.setCell ⟨p0, 0, none⟩ (.int .i64 2)).setCell ⟨p0, 1, none⟩ (.int .i64 10)).setCell ⟨p0, 2, none⟩ (.slice (some ⟨y2, 0, none⟩) 2 2)).setCell ⟨p0, 3, none⟩ (.slice (some ⟨y9, 0, none⟩) 3 3) = w8 at hq0 hU0 ⊢
  have hP18 := hU0.heap_ hp01 HP17.out
  have hq1 := blk_put (blk_put (blk_put (blk_put hP18 0 (.int .i64 2)) 1 (.int .i64 10)) 2 (.slice A' 2 cm')) 3 (.slice (some ⟨fb2, fo2, none⟩) 3 ck')
  have hU1 : Turned p1 w8 ((((w8.setCell ⟨p1, 0, none⟩ (.int .i64 2)).setCell ⟨p1, 1, none⟩ (.int .i64 10)).setCell ⟨p1, 2, none⟩ (.slice A' 2 cm')).setCell ⟨p1, 3, none⟩ (.slice (some ⟨fb2, fo2, none⟩) 3 ck')) := ((((Turned.refl p1 w8).set_ _ _).set_ _ _).set_ _ _).set_ _ _
  generalize (((w8.setCell ⟨p1, 0, none⟩ (.int .i64 2)).setCell ⟨p1, 1, none⟩ (.int .i64 10)).setCell ⟨p1, 2, none⟩ (.slice A' 2 cm')).setCell ⟨p1, 3, none⟩ (.slice (some ⟨fb2, fo2, none⟩) 3 ck') = w9 at hq1 hU1 ⊢
  have hX9 := ((HX7.out.turnedR HP07.out hU0).turnedR hP18 hU1).ext (Ext.drew w9)
  have hP09 := hU1.heap_ hne1 hq0
  have hE9 : Ext w w9.drew := (hU1.below (hU0.below HE7.out hp0) (by have := hE0.size; omega)).trans (Ext.drew w9)
  have z0 := (Ext.drew w9).cell (blk_at hP09 0 rfl)
  have z1 := (Ext.drew w9).cell (blk_at hP09 1 rfl)
  have z2 := (Ext.drew w9).cell (blk_at hP09 2 rfl)
  have z3 := (Ext.drew w9).cell (blk_at hP09 3 rfl)
  have v0 := (Ext.drew w9).cell (blk_at hq1 0 rfl)
  have v1 := (Ext.drew w9).cell (blk_at hq1 1 rfl)
  have v2 := (Ext.drew w9).cell (blk_at hq1 2 rfl)
  have v3 := (Ext.drew w9).cell (blk_at hq1 3 rfl)
  generalize w9.drew = wf at hX9 hE9 z0 z1 z2 z3 v0 v1 v2 v3 ⊢
  exact bodyPost_ret (v := .tuple #[.agg #[.int .i64 2, .int .i64 10, .slice (some ⟨y2, 0, none⟩) 2 2, .slice (some ⟨y9, 0, none⟩) 3 3], .agg #[.int .i64 2, .int .i64 10, .slice A' 2 cm', .slice (some ⟨fb2, fo2, none⟩) 3 ck']])
    (by simp [results, Try.results27, go_sem, z0, z1, z2, z3, v0, v1, v2, v3]) rfl ⟨_, _, _, _, _, _, _, _, _, _, _, _, rfl, hX9.mach, hX9.found, hE9⟩
end Go.Proofs.Ytloenmikkkklhaa

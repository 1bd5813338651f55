/-
  The layer 'copies': Old, When.
-/
import Derived.Test.YtloenmikkkklhaaP11
namespace Go.Proofs.Ytloenmikkkklhaa
open Go.RowKit

/-- The run's box and what else a region reads, in worlds that extend w0. -/
def Runs (w0 : World) (p0 : Nat) (pl last : Int) (A B : Option Addr) (n cm k ck : Nat) (w : World) : Prop :=
  Ext w0 w ∧ w.cell? ⟨p0, 0, none⟩ = some (.int .i64 pl) ∧ w.cell? ⟨p0, 1, none⟩ = some (.int .i64 last) ∧ w.cell? ⟨p0, 2, none⟩ = some (.slice A n cm) ∧ w.cell? ⟨p0, 3, none⟩ = some (.slice B k ck)
theorem Runs.ext {w0 : World} {p0 : Nat} {pl last : Int} {A B : Option Addr} {n cm k ck : Nat} {w w' : World} (h : Runs w0 p0 pl last A B n cm k ck w) (he : Ext w w') : Runs w0 p0 pl last A B n cm k ck w' :=
  ⟨h.1.trans he, he.cell h.2.1, he.cell h.2.2.1, he.cell h.2.2.2.1, he.cell h.2.2.2.2⟩
theorem new_run (w : World) (pl last : Int) (A B : Option Addr) (n cm k ck : Nat) : ∃ w1 p0, w.alloc (.cells #[.int .i64 pl, .int .i64 last, .slice A n cm, .slice B k ck] 41) = w1 ∧ w.heap.size = p0 ∧ Ext w w1 ∧ Runs w1 p0 pl last A B n cm k ck w1 := by
  have h := heap_alloc_new w (.cells #[.int .i64 pl, .int .i64 last, .slice A n cm, .slice B k ck] 41)
  exact ⟨_, _, rfl, rfl, Ext.alloc _ _, Ext.refl _, blk_at h 0 rfl, blk_at h 1 rfl, blk_at h 2 rfl, blk_at h 3 rfl⟩

set_option maxRecDepth 100000 in
set_option maxHeartbeats 4000000 in
theorem Old6 (pl : Nat) (last : Int) (A B : Option Addr) (ms : List Machine) (fs : List Found) (cm ck p : Nat) (w : World) (hv : OkRun pl last ms fs) (hA : RdMach w A ms) (hB : RdFound w B fs)
    (h1 : 0 < (waysOf ms fs).length) (hp : p < pl) :
    Calls Try.prog 18 #[.agg #[.int .i64 pl, .int .i64 last, .slice A ms.length cm, .slice B fs.length ck], .int .i64 p] w
      fun e w' => e = .returned (.tuple #[.agg #[.int .i64 (hullLo (fun x => oldLo ms x.when_ p) (waysOf ms fs) (waysOf ms fs).length), .int .i64 (hullHi (fun x => oldHi ms x.when_ p) (waysOf ms fs) (waysOf ms fs).length)], .int .i64 0]) ∧ Ext w w' := by
  have hln : (waysOf ms fs).length ≤ 729 := Nat.le_trans (waysUpto_length ms fs (fun c hc => (hv.found c hc).2.2.1.2) _) (Nat.le_trans (Nat.pow_le_pow_right (by omega) (show fs.length ≤ 6 from hv.hfs)) (by decide))
  have HV := Lib.hid hv
  have HA := Lib.hid hA
  have HB := Lib.hid hB
  have ip : inB (p : Int) 0 ((pl : Int) - 1) = true := inB_iff.2 ⟨by omega, by omega⟩
  have hpl3 : pl ≤ 3 := by have := hv.hpl; omega
  have hpl1 : (1 : Int) ≤ pl := by omega
  have hpl2 : (pl : Int) ≤ 3 := by omega
  have IP : Hid (∀ W, Calls Try.prog 41 #[.agg #[.int .i64 pl, .int .i64 last, .slice A ms.length cm, .slice B fs.length ck], .int .i64 p] W fun e w' => e = .returned (.bool true) ∧ Ext W w') := Lib.hid fun W => by
    have h := isPlate6 pl last A B ms.length cm fs.length ck p W hpl1 hpl2
    rwa [ip] at h
  have OP : Hid (∀ W, Ext w W → Calls Try.prog 39 #[.agg #[.int .i64 pl, .int .i64 last, .slice A ms.length cm, .slice B fs.length ck], .bool true] W
      fun e w' => ∃ D cd, e = .returned (.tuple #[.slice D (waysOf ms fs).length cd, .int .i64 0]) ∧ (waysOf ms fs).length ≤ cd ∧ RdWay w' D (waysOf ms fs) ∧ Ext W w') := Lib.hid fun W hW => open6 pl last A B ms fs cm ck W HV.out (HA.out.ext hW) (HB.out.ext hW) h1
  clear hv hA hB ip
  go_enter Try.func18, Try.ntmps18
  go_upto_region 1 with fail
  obtain ⟨w1, p0, e1, e2, hE0, hrun⟩ := new_run w pl last A B ms.length cm fs.length ck
  have e3 : w.heap.size + 1 = w1.heap.size := by rw [← e1]; simp
  rw [e3, e1, e2]
  clear e1 e2 e3
  obtain ⟨w2, qb, e1, e2, hE1, qblk⟩ := new_block w1 #[.int .i64 p] 3
  have e3 : w1.heap.size + 1 = w2.heap.size := by rw [← e1]; simp
  rw [e3, e1, e2]
  clear e1 e2 e3
  obtain ⟨w3, rb, e1, e2, hE2, rblk⟩ := new_block w2 #[.int .i64 0, .int .i64 0] 48
  have hrb : w.heap.size ≤ rb := by rw [← e2]; exact (hE0.trans hE1).size
  rw [e1, e2]
  clear e1 e2
  have hEw := hE0.trans (hE1.trans hE2)
  have hS0 : ((Ext w3 w3.drew ∧ w3.drew.cell? ⟨p0, 0, none⟩ = some (.int .i64 pl) ∧ w3.drew.cell? ⟨p0, 1, none⟩ = some (.int .i64 last) ∧ w3.drew.cell? ⟨p0, 2, none⟩ = some (.slice A ms.length cm) ∧ w3.drew.cell? ⟨p0, 3, none⟩ = some (.slice B fs.length ck)) ∧ w3.drew.cell? ⟨qb, 0, none⟩ = some (.int .i64 p)) :=
    ⟨⟨Ext.drew _, ((hrun.ext (hE1.trans hE2)).ext (Ext.drew _)).2⟩, ((hE2.trans (Ext.drew _))).cell (blk_at qblk 0 rfl)⟩
  have HSX : Hid (∀ a b : World, ((Ext w3 a ∧ a.cell? ⟨p0, 0, none⟩ = some (.int .i64 pl) ∧ a.cell? ⟨p0, 1, none⟩ = some (.int .i64 last) ∧ a.cell? ⟨p0, 2, none⟩ = some (.slice A ms.length cm) ∧ a.cell? ⟨p0, 3, none⟩ = some (.slice B fs.length ck)) ∧ a.cell? ⟨qb, 0, none⟩ = some (.int .i64 p)) → Ext a b → ((Ext w3 b ∧ b.cell? ⟨p0, 0, none⟩ = some (.int .i64 pl) ∧ b.cell? ⟨p0, 1, none⟩ = some (.int .i64 last) ∧ b.cell? ⟨p0, 2, none⟩ = some (.slice A ms.length cm) ∧ b.cell? ⟨p0, 3, none⟩ = some (.slice B fs.length ck)) ∧ b.cell? ⟨qb, 0, none⟩ = some (.int .i64 p))) := Lib.hid fun a b h he => ⟨⟨h.1.1.trans he, he.cell h.1.2.1, he.cell h.1.2.2.1, he.cell h.1.2.2.2.1, he.cell h.1.2.2.2.2⟩, he.cell h.2⟩
  have HS0 := Lib.hid hS0
  have HRB := Lib.hid rblk
  have HRBN := Lib.hid hrb
  clear hrun qblk rblk hrb hS0
  go_region_held3 (fun w' => ((Ext w3 w' ∧ w'.cell? ⟨p0, 0, none⟩ = some (.int .i64 pl) ∧ w'.cell? ⟨p0, 1, none⟩ = some (.int .i64 last) ∧ w'.cell? ⟨p0, 2, none⟩ = some (.slice A ms.length cm) ∧ w'.cell? ⟨p0, 3, none⟩ = some (.slice B fs.length ck)) ∧ w'.cell? ⟨qb, 0, none⟩ = some (.int .i64 p)))
    (first | exact HS0.out | exact HS1.out | exact HSX.out _ _ HS1.out hE4)
    (first | (go_at_call 41; refine (IP.out _).mono ?_; rintro e wx ⟨rfl, hE3⟩; have HS1 := Lib.hid (HSX.out _ _ HS0.out hE3)) | (go_at_call 39; refine (OP.out _ (hEw.trans HS1.out.1.1)).mono ?_; rintro e wy ⟨D, cd, rfl, hcd, hD, hE4⟩))
  have HS2 := Lib.hid (HSX.out _ _ HS1.out hE4)
  have HD := Lib.hid hD
  have hsp : SpanX 44 #[.pointer (some ⟨p0, 0, none⟩), .pointer (some ⟨qb, 0, none⟩)] (fun x => oldLo ms x.when_ p) (fun x => oldHi ms x.when_ p) (waysOf ms fs) wy := fun W x hx A1 c hW =>
    old1_6 p0 qb p A cm ms (.slice A1 x.from_.length c) rfl x.when_ W (waysOf_ok ms fs x hx).1 (waysOf_small HV.out x hx) (by omega) HV.out.hms.2 (fun k => rate_small HV.out k) (hW.cell HS2.out.2) (hW.cell HS2.out.1.2.2.2.1) (HA.out.ext (hEw.trans (HS2.out.1.1.trans hW)))
  have HSP := Lib.hid (hull6 44 #[.pointer (some ⟨p0, 0, none⟩), .pointer (some ⟨qb, 0, none⟩)] _ _ D cd (waysOf ms fs) wy enters_old1 h1 hln HD.out hsp)
  have HRB3 := Lib.hid ((HS2.out.1.1).heap HRB.out)
  have hE5 := hEw.trans HS2.out.1.1
  have g0 := IsSpan.c0 HRB3.out
  have g1 := IsSpan.c1 HRB3.out
  have g2 := IsSpan.f HRB3.out 0
  have g3 := IsSpan.f HRB3.out 1
  clear hsp hD hcd HS2
  go_wp2_with (go_at_call 42; refine HSP.out.mono ?_; rintro e w' ⟨rfl, hE6⟩; have g4 := IsSpan.c0 (hE6.heap HRB3.out); have g5 := IsSpan.c1 (hE6.heap HRB3.out); have g6 := IsSpan.f (hE6.heap HRB3.out) 0; have g7 := IsSpan.f (hE6.heap HRB3.out) 1)
  obtain ⟨wz, e, hEz, z0, z1⟩ := span_final (hE5.trans hE6) HRBN.out (hE6.heap HRB3.out) (hullLo (fun x => oldLo ms x.when_ p) (waysOf ms fs) (waysOf ms fs).length) (hullHi (fun x => oldHi ms x.when_ p) (waysOf ms fs) (waysOf ms fs).length)
  rw [e]
  exact bodyPost_ret (v := .tuple #[.agg #[.int .i64 (hullLo (fun x => oldLo ms x.when_ p) (waysOf ms fs) (waysOf ms fs).length), .int .i64 (hullHi (fun x => oldHi ms x.when_ p) (waysOf ms fs) (waysOf ms fs).length)], .int .i64 0]) (by simp [results, Try.results18, go_sem, z0, z1]) rfl ⟨rfl, hEz⟩

set_option maxRecDepth 100000 in
set_option maxHeartbeats 4000000 in
theorem When6 (pl : Nat) (last : Int) (A B : Option Addr) (ms : List Machine) (fs : List Found) (cm ck m p : Nat) (w : World) (hv : OkRun pl last ms fs) (hA : RdMach w A ms) (hB : RdFound w B fs)
    (h1 : 0 < (waysOf ms fs).length) (hp : p < pl) (hm : m < ms.length) :
    Calls Try.prog 16 #[.agg #[.int .i64 pl, .int .i64 last, .slice A ms.length cm, .slice B fs.length ck], .int .i64 m, .int .i64 p] w
      fun e w' => e = .returned (.tuple #[.agg #[.int .i64 (hullLo (fun x => lo6 x.when_ m p) (waysOf ms fs) (waysOf ms fs).length), .int .i64 (hullHi (fun x => hi6 x.when_ m p) (waysOf ms fs) (waysOf ms fs).length)], .int .i64 0]) ∧ Ext w w' := by
  have hln : (waysOf ms fs).length ≤ 729 := Nat.le_trans (waysUpto_length ms fs (fun c hc => (hv.found c hc).2.2.1.2) _) (Nat.le_trans (Nat.pow_le_pow_right (by omega) (show fs.length ≤ 6 from hv.hfs)) (by decide))
  have HV := Lib.hid hv
  have HA := Lib.hid hA
  have HB := Lib.hid hB
  have ip : inB (p : Int) 0 ((pl : Int) - 1) = true := inB_iff.2 ⟨by omega, by omega⟩
  have hpl3 : pl ≤ 3 := by have := hv.hpl; omega
  have hpl1 : (1 : Int) ≤ pl := by omega
  have hpl2 : (pl : Int) ≤ 3 := by omega
  have im : inB (m : Int) 0 ((ms.length : Int) - 1) = true := inB_iff.2 ⟨by omega, by omega⟩
  have hms3 : ms.length ≤ 3 := hv.hms.2
  have hmI : (ms.length : Int) ≤ 9223372036854775807 := by omega
  have IM : Hid (∀ W, Calls Try.prog 40 #[.agg #[.int .i64 pl, .int .i64 last, .slice A ms.length cm, .slice B fs.length ck], .int .i64 m] W fun e w' => e = .returned (.bool true) ∧ Ext W w') := Lib.hid fun W => by
    have h := isMachine6 pl last A B ms.length cm fs.length ck m W hmI
    rwa [im] at h
  have IP : Hid (∀ W, Calls Try.prog 41 #[.agg #[.int .i64 pl, .int .i64 last, .slice A ms.length cm, .slice B fs.length ck], .int .i64 p] W fun e w' => e = .returned (.bool true) ∧ Ext W w') := Lib.hid fun W => by
    have h := isPlate6 pl last A B ms.length cm fs.length ck p W hpl1 hpl2
    rwa [ip] at h
  have OP : Hid (∀ W, Ext w W → Calls Try.prog 39 #[.agg #[.int .i64 pl, .int .i64 last, .slice A ms.length cm, .slice B fs.length ck], .bool true] W
      fun e w' => ∃ D cd, e = .returned (.tuple #[.slice D (waysOf ms fs).length cd, .int .i64 0]) ∧ (waysOf ms fs).length ≤ cd ∧ RdWay w' D (waysOf ms fs) ∧ Ext W w') := Lib.hid fun W hW => open6 pl last A B ms fs cm ck W HV.out (HA.out.ext hW) (HB.out.ext hW) h1
  clear hv hA hB ip im
  go_enter Try.func16, Try.ntmps16
  go_upto_region 1 with fail
  obtain ⟨w1, p0, e1, e2, hE0, hrun⟩ := new_run w pl last A B ms.length cm fs.length ck
  have e3 : w.heap.size + 1 = w1.heap.size := by rw [← e1]; simp
  rw [e3, e1, e2]
  clear e1 e2 e3
  obtain ⟨wm, mb, e1, e2, hE1m, mblk⟩ := new_block w1 #[.int .i64 m] 3
  have e3 : w1.heap.size + 1 = wm.heap.size := by rw [← e1]; simp
  rw [e3, e1, e2]
  clear e1 e2 e3
  obtain ⟨w2, qb, e1, e2, hE1p, qblk⟩ := new_block wm #[.int .i64 p] 3
  have e3 : wm.heap.size + 1 = w2.heap.size := by rw [← e1]; simp
  rw [e3, e1, e2]
  clear e1 e2 e3
  have hE1 := hE1m.trans hE1p
  obtain ⟨w3, rb, e1, e2, hE2, rblk⟩ := new_block w2 #[.int .i64 0, .int .i64 0] 48
  have hrb : w.heap.size ≤ rb := by rw [← e2]; exact (hE0.trans hE1).size
  rw [e1, e2]
  clear e1 e2
  have hEw := hE0.trans (hE1.trans hE2)
  have hS0 : ((Ext w3 w3.drew ∧ w3.drew.cell? ⟨p0, 0, none⟩ = some (.int .i64 pl) ∧ w3.drew.cell? ⟨p0, 1, none⟩ = some (.int .i64 last) ∧ w3.drew.cell? ⟨p0, 2, none⟩ = some (.slice A ms.length cm) ∧ w3.drew.cell? ⟨p0, 3, none⟩ = some (.slice B fs.length ck)) ∧ w3.drew.cell? ⟨qb, 0, none⟩ = some (.int .i64 p) ∧ w3.drew.cell? ⟨mb, 0, none⟩ = some (.int .i64 m)) :=
    ⟨⟨Ext.drew _, ((hrun.ext (hE1.trans hE2)).ext (Ext.drew _)).2⟩, ((hE2.trans (Ext.drew _))).cell (blk_at qblk 0 rfl), ((hE1p.trans (hE2.trans (Ext.drew _)))).cell (blk_at mblk 0 rfl)⟩
  have HSX : Hid (∀ a b : World, ((Ext w3 a ∧ a.cell? ⟨p0, 0, none⟩ = some (.int .i64 pl) ∧ a.cell? ⟨p0, 1, none⟩ = some (.int .i64 last) ∧ a.cell? ⟨p0, 2, none⟩ = some (.slice A ms.length cm) ∧ a.cell? ⟨p0, 3, none⟩ = some (.slice B fs.length ck)) ∧ a.cell? ⟨qb, 0, none⟩ = some (.int .i64 p) ∧ a.cell? ⟨mb, 0, none⟩ = some (.int .i64 m)) → Ext a b → ((Ext w3 b ∧ b.cell? ⟨p0, 0, none⟩ = some (.int .i64 pl) ∧ b.cell? ⟨p0, 1, none⟩ = some (.int .i64 last) ∧ b.cell? ⟨p0, 2, none⟩ = some (.slice A ms.length cm) ∧ b.cell? ⟨p0, 3, none⟩ = some (.slice B fs.length ck)) ∧ b.cell? ⟨qb, 0, none⟩ = some (.int .i64 p) ∧ b.cell? ⟨mb, 0, none⟩ = some (.int .i64 m))) := Lib.hid fun a b h he => ⟨⟨h.1.1.trans he, he.cell h.1.2.1, he.cell h.1.2.2.1, he.cell h.1.2.2.2.1, he.cell h.1.2.2.2.2⟩, he.cell h.2.1, he.cell h.2.2⟩
  have HS0 := Lib.hid hS0
  have HRB := Lib.hid rblk
  have HRBN := Lib.hid hrb
  clear hrun qblk mblk rblk hrb hS0
  go_region_held3 (fun w' => ((Ext w3 w' ∧ w'.cell? ⟨p0, 0, none⟩ = some (.int .i64 pl) ∧ w'.cell? ⟨p0, 1, none⟩ = some (.int .i64 last) ∧ w'.cell? ⟨p0, 2, none⟩ = some (.slice A ms.length cm) ∧ w'.cell? ⟨p0, 3, none⟩ = some (.slice B fs.length ck)) ∧ w'.cell? ⟨qb, 0, none⟩ = some (.int .i64 p) ∧ w'.cell? ⟨mb, 0, none⟩ = some (.int .i64 m)))
    (first | exact HS0.out | exact HS1.out | exact HS2.out | exact HS3.out)
    (first | (go_at_call 40; refine (IM.out _).mono ?_; rintro e wv ⟨rfl, hE2m⟩; have HS3 := Lib.hid (HSX.out _ _ HS0.out hE2m)) | (go_at_call 41; refine (IP.out _).mono ?_; rintro e wx ⟨rfl, hE3⟩; have HS1 := Lib.hid (HSX.out _ _ HS3.out hE3)) | (go_at_call 39; refine (OP.out _ (hEw.trans HS1.out.1.1)).mono ?_; rintro e wy ⟨D, cd, rfl, hcd, hD, hE4⟩; have HS2 := Lib.hid (HSX.out _ _ HS1.out hE4)))
  have HD := Lib.hid hD
  have hsp : SpanX 43 #[.pointer (some ⟨mb, 0, none⟩), .pointer (some ⟨qb, 0, none⟩)] (fun x => lo6 x.when_ m p) (fun x => hi6 x.when_ m p) (waysOf ms fs) wy := fun W x hx A1 c hW =>
    when1_6 mb qb m p (.slice A1 x.from_.length c) rfl x.when_ W (waysOf_ok ms fs x hx).1 (by omega) (by omega) (hW.cell HS2.out.2.2) (hW.cell HS2.out.2.1)
  have HSP := Lib.hid (hull6 43 #[.pointer (some ⟨mb, 0, none⟩), .pointer (some ⟨qb, 0, none⟩)] _ _ D cd (waysOf ms fs) wy enters_when1 h1 hln HD.out hsp)
  have HRB3 := Lib.hid ((HS2.out.1.1).heap HRB.out)
  have hE5 := hEw.trans HS2.out.1.1
  have g0 := IsSpan.c0 HRB3.out
  have g1 := IsSpan.c1 HRB3.out
  have g2 := IsSpan.f HRB3.out 0
  have g3 := IsSpan.f HRB3.out 1
  clear hsp hD hcd HS2
  go_wp2_with (go_at_call 42; refine HSP.out.mono ?_; rintro e w' ⟨rfl, hE6⟩; have g4 := IsSpan.c0 (hE6.heap HRB3.out); have g5 := IsSpan.c1 (hE6.heap HRB3.out); have g6 := IsSpan.f (hE6.heap HRB3.out) 0; have g7 := IsSpan.f (hE6.heap HRB3.out) 1)
  obtain ⟨wz, e, hEz, z0, z1⟩ := span_final (hE5.trans hE6) HRBN.out (hE6.heap HRB3.out) (hullLo (fun x => lo6 x.when_ m p) (waysOf ms fs) (waysOf ms fs).length) (hullHi (fun x => hi6 x.when_ m p) (waysOf ms fs) (waysOf ms fs).length)
  rw [e]
  exact bodyPost_ret (v := .tuple #[.agg #[.int .i64 (hullLo (fun x => lo6 x.when_ m p) (waysOf ms fs) (waysOf ms fs).length), .int .i64 (hullHi (fun x => hi6 x.when_ m p) (waysOf ms fs) (waysOf ms fs).length)], .int .i64 0]) (by simp [results, Try.results16, go_sem, z0, z1]) rfl ⟨rfl, hEz⟩
end Go.Proofs.Ytloenmikkkklhaa

/-
  A copy that was found, showing what changes.Has says.
-/
import Derived.Test.YtloenmikkkklhaaC9
import Derived.Test.YtloenmikkkklhaaK4
namespace Go.Proofs.Ytloenmikkkklhaa
open Go.RowKit

/-- What a copy of minute m of the house shows of a plate. -/
def newOf (th : List Thing) (mk : List Mark) (change m : Int) (p : Int) : Int := if sinceOf th mk change p.toNat ≤ m then 1 else 0
def newsOf (th : List Thing) (mk : List Mark) (change m : Int) (plates : List Int) : List Int := plates.map (newOf th mk change m)

theorem owns_turned {w w' : World} {base e sz n g : Nat} {v : Value} {xs : List Value} (h : w.ownsRow base e sz v n xs) (ht : Turned g w w') (hg : g < base) : w'.ownsRow base e sz v n xs := by
  obtain ⟨h1, h2⟩ := h
  refine ⟨h1, ?_⟩
  rcases h2 with h2 | ⟨q, cap, cur, hv, hb, hh, r⟩
  · exact .inl h2
  · exact .inr ⟨q, cap, cur, hv, hb, ht.heap_ (by omega) hh, r⟩
theorem rdI_one {w : World} {g : Nat} {t : TypeId} {fr : Nat × Nat} {n : Int} (h : w.heap[g]? = some (.cells #[.int .i64 n] t fr)) : RdI w (some ⟨g, 0, none⟩) [n] := .inr ⟨g, 0, rfl, fun i x hx => by
  have hi : i = 0 := by
    have := (List.getElem?_eq_some_iff.1 hx).1
    simpa using this
  subst hi
  cases hx
  refine ⟨_, rfl, rfl, fun j v hv => ?_⟩
  have hj : j = 0 := by
    rcases j with _ | j
    · rfl
    · simp [encI] at hv
  subst hj
  cases hv
  exact blk_at h 0 rfl⟩
def NewAt (base : Nat) (w : World) (A : Option Addr) : Prop := ∀ b o, A = some ⟨b, o, none⟩ → base ≤ b ∧ b < w.heap.size
theorem OwnI.new {w : World} {base : Nat} {A : Option Addr} {n c : Nat} {xs : List Int} (h : OwnI w base (.slice A n c) xs) : NewAt base w A := fun b o e => by
  obtain ⟨_, h2⟩ := h
  rcases h2 with ⟨h, _⟩ | ⟨g, cap, cur, h, hb, hh, _⟩
  · rw [(Value.slice.inj h).1] at e; cases e
  · rw [(Value.slice.inj h).1] at e
    cases e
    exact ⟨hb, blk_lt hh⟩
theorem OwnI.full {w : World} {base : Nat} {v : Value} {xs : List Int} (h : OwnI w base v xs) : ∃ A c, v = .slice A xs.length c ∧ xs.length ≤ c ∧ RdI w A xs ∧ TyAt 3 w A := by
  obtain ⟨A, c, e, hc, hr⟩ := OwnR.reads (R := Plain encI) ⟨_, h, reps_ints w xs⟩
  refine ⟨A, c, e, hc, hr, ?_⟩
  subst e
  exact OwnR.ty (R := Plain encI) ⟨_, h, reps_ints w xs⟩

set_option maxRecDepth 100000 in
set_option maxHeartbeats 8000000 in
theorem copiedR (A B C : Option Addr) (th : List Thing) (mk : List Mark) (cm ck cp : Nat) (plates : List Int) (change first minute : Int) (w : World) (hm2 : (mk.length : Int) ≤ 9223372036854775807) (hn : plates.length ≤ 3)
    (hA : RdT w A th) (hB : RdM w B mk) (hC : RdI w C plates) (hc : chkHouse th mk = true) (hch : inB change 0 2 = true) (h1 : 0 ≤ first ∧ first ≤ 99) (h2 : 0 ≤ minute ∧ minute ≤ 99) (h3 : first + minute ≤ 99)
    (hp : ∀ p ∈ plates, ∃ j : Nat, p = (j : Int) ∧ j < th.length) :
    Calls Try.prog 12 #[.agg #[.slice A th.length cm, .slice B mk.length ck], .slice C plates.length cp, .int .i64 change, .int .i64 first, .int .i64 minute] w
      fun e w' => ∃ N cN F cF, e = .returned (.tuple #[.agg #[.int .i64 minute, .slice N plates.length cN, .slice F 1 cF], .bool true]) ∧ plates.length ≤ cN ∧ 1 ≤ cF ∧
        RdI w' N (newsOf th mk change (first + minute) plates) ∧ RdI w' F [0] ∧ TyAt 3 w' N ∧ TyAt 3 w' F ∧ NewAt w.heap.size w' N ∧ NewAt w.heap.size w' F ∧ Ext w w' := by
  obtain ⟨h1a, h1b⟩ := h1
  obtain ⟨h2a, h2b⟩ := h2
  have hmi : inB (first + minute) 0 99 = true := inB_iff.2 ⟨by omega, h3⟩
  have HHAS : Hid (∀ (j : Nat) (W : World), j < th.length → Ext w W → Calls Try.prog 34 #[.agg #[.slice A th.length cm, .slice B mk.length ck], .int .i64 j, .int .i64 change, .int .i64 (first + minute)] W
      fun e w' => e = .returned (.tuple #[.bool (decide (sinceOf th mk change j ≤ first + minute)), .int .i64 0]) ∧ Ext W w') := Lib.hid fun j W hj hW => Has7 A B th mk cm ck j change (first + minute) W hm2 (hA.ext hW) (hB.ext hW) hc hj hch hmi
  have HC := Lib.hid hC
  have HP := Lib.hid hp
  have hm3 : (plates.length : Int) ≤ 9223372036854775807 := by omega
  obtain ⟨i0, hi, hz0, hz1, hz2⟩ : ∃ i0, Try.prog.info? 3 = some i0 ∧ i0.zero = some (.int .i64 0) ∧ i0.size = 1 ∧ i0.bytes = 8 := by
    have h := info_int
    cases hi : Try.prog.info? 3 with
    | none => rw [hi] at h; cases h
    | some i =>
      rw [hi] at h
      simp only [Option.map_some, Option.some.injEq, Prod.mk.injEq] at h
      exact ⟨i, rfl, h.1, h.2.1, h.2.2⟩
  clear hA hB hC hc hch hp hmi
  go_enter Try.func12, Try.ntmps12
  go_upto_region 1 with fail
  obtain ⟨w1, p0, e1, e2, hE0, pblk⟩ := new_block w #[.slice A th.length cm, .slice B mk.length ck] 25
  have e3 : w.heap.size + 1 = w1.heap.size := by rw [← e1]; simp
  rw [e3, e1, e2]
  clear e1 e2 e3
  obtain ⟨w2, rb, e1, e2, hE1, rblk⟩ := new_block w1 #[.int .i64 0, .slice none 0 0, .slice none 0 0] 50
  rw [e1, e2]
  clear e1
  have hrb : w.heap.size ≤ rb := by have := hE0.size; omega
  clear e2
  go_upto_region 2 with fail
  obtain ⟨w3, fb, e1, e2, hE2, fblk⟩ := new_block w2 #[.int .i64 0] 3
  have e3 : w2.heap.size + 1 = w3.heap.size := by rw [← e1]; simp
  have hfb2 : w2.heap.size ≤ fb := by omega
  rw [e3, e1, e2]
  clear e1 e2 e3
  obtain ⟨w4, cb, e1, e2, hE3, cblk⟩ := new_block w3 #[.int .i64 minute, .slice none 0 0, .slice (some ⟨fb, 0, none⟩) 1 1] 50
  have hcb3 : w3.heap.size ≤ cb := by omega
  rw [e1, e2]
  clear e1 e2
  have hp0 : p0 ≠ cb := by have := blk_lt pblk; have := hE1.size; have := hE2.size; omega
  have hrc : rb ≠ cb := by have := blk_lt rblk; have := hE2.size; omega
  have hfc : fb ≠ cb := by have := blk_lt fblk; omega
  have hwf : w.heap.size ≤ fb := by have := hE0.size; have := hE1.size; omega
  have hcb4 : cb < w4.heap.size := blk_lt cblk
  have hE24 := hE2.trans hE3
  have hE14 := hE1.trans hE24
  have hEw := hE0.trans hE14
  have hcbw : w.heap.size ≤ cb := by have := hE0.size; have := hE1.size; have := hE2.size; omega
  have q0 : w4.cell? ⟨p0, 0, none⟩ = some (.slice A th.length cm) := hE14.cell (blk_at pblk 0 rfl)
  have q1 : w4.cell? ⟨p0, 1, none⟩ = some (.slice B mk.length ck) := hE14.cell (blk_at pblk 1 rfl)
  have Q0 := Lib.hid q0
  have Q1 := Lib.hid q1
  have HRB := Lib.hid (hE24.heap rblk)
  have HFB := Lib.hid (hE3.heap fblk)
  have HCB := Lib.hid cblk
  clear pblk rblk fblk cblk q0 q1
  go_upto_region 3 with fail
  go_loopg [13] plates.length (fun g i wr => ∃ k : Nat, k + g = plates.length ∧ i = .int .i64 k ∧ Turned cb w4 wr ∧ ∃ v, wr.heap[cb]? = some (.cells #[.int .i64 minute, v, .slice (some ⟨fb, 0, none⟩) 1 1] 50 (0, 0)) ∧ OwnI wr w4.heap.size v ((newsOf th mk change (first + minute) plates).take k))
  case atStart => exact ⟨0, by omega, rfl, Turned.refl _ _, _, HCB.out, own_none _ _ _ _⟩
  case round =>
    obtain ⟨k, hk, rfl, hT, v, hbl, hO⟩ := hrel
    have HK := Lib.hid hk
    have HBL := Lib.hid hbl
    have HO := Lib.hid hO
    have hE : Ext w wr := hT.below hEw hcbw
    by_cases hlt : k < plates.length
    · clear hk hbl hO
      have hki : (k : Int) < plates.length := by omega
      have hx : plates[k]? = some plates[k] := List.getElem?_eq_getElem hlt
      obtain ⟨j, hj, hjl⟩ := HP.out _ (List.getElem_mem hlt)
      rw [hj] at hx
      have htake : (newsOf th mk change (first + minute) plates).take (k + 1) = (newsOf th mk change (first + minute) plates).take k ++ [newOf th mk change (first + minute) (j : Int)] := by
        rw [List.take_add_one]
        simp [newsOf, hx]
      have hnew : newOf th mk change (first + minute) (j : Int) = if sinceOf th mk change j ≤ first + minute then 1 else 0 := by simp [newOf]
      rw [hnew] at htake
      have hln : ((newsOf th mk change (first + minute) plates).take k).length = k := by rw [List.length_take]; simp [newsOf]; omega
      generalize hys : (newsOf th mk change (first + minute) plates).take k = ys at HO htake hln
      obtain ⟨cb2, co, hCe⟩ := HC.out.base (by omega)
      subst hCe
      have f0 := (HC.out.ext hE).at hx
      have g0 := hT.cell_ hp0 Q0.out
      have g1 := hT.cell_ hp0 Q1.out
      have HHJ := Lib.hid (fun (W : World) (hW : Ext wr W) => HHAS.out j W hjl (hE.trans hW))
      clear hx hj hnew hys
      have HTK := Lib.hid htake
      have hsz := hT.size
      clear htake
      cases hd : decide (sinceOf th mk change j ≤ first + minute)
      · have hif : (if sinceOf th mk change j ≤ first + minute then (1 : Int) else 0) = 0 := if_neg (by simpa using hd)
        rw [hd] at HHJ
        have HIF := Lib.hid hif
        clear hd hif
        go_upto_region 5 with fail
        refine wp_region_ext (by kernel_rfl) (by kernel_rfl) ?_
        repeat (go_big_quiet_step ((go_at_call 34; refine Calls.inX _ (HHJ.out _ (ExtW.ext _)))))
        refine wpQuiet_nil ?_
        rintro _ ⟨x, rfl⟩
        have hEx := x.ext
        generalize x.out = wx at hEx ⊢
        clear x f0 g0 g1
        have HBX := Lib.hid (hEx.heap HBL.out)
        have HOX := Lib.hid (own_later HO.out hEx)
        have c1 := blk_at HBX.out 1 rfl
        have b1 : ys.length + 1 ≤ maxLen := by unfold maxLen; omega
        have b2 : (ys.length + 1) * 8 ≤ 140737488355328 := by omega
        have hszx := hEx.size
        go_wp2_with (at_builtin; refine wpList_append_own _ rfl _ _ 26 rfl w4.heap.size 3 i0 (.int .i64 0) 1 8 Try.underlying26 hi hz0 hz1 hz2 rfl (by decide) _ _ _ rfl (HOX.out.alloc _) ⟨wx.heap.size, 0, none⟩ 1 1 [.int .i64 0] rfl rfl (cell_one_new _ _ _) (by simp [Value.oneCell']) b1 b2 (by rw [World.size_alloc]; omega) ?_; intro v2 w6 hown2 hgrow _; have HB6 := Lib.hid (grown_heap hgrow (own_base HOX.out) hcb4 ((Ext.alloc wx _).heap HBX.out)); have HT6 := Lib.hid (((hT.trans (Turned.of_ext hEx)).trans (Turned.of_ext (Ext.alloc wx _))).grown hgrow (own_base HOX.out)); have HOW := Lib.hid (OwnI.snoc hown2); clear hown2 hgrow; obtain ⟨Ad, cad, hvd, _⟩ := OwnI.reads HOW.out; generalize (ys ++ [0]).length = Ln at hvd; subst hvd; clear c1; have c1 := blk_at HB6.out 1 rfl; have f1 := blk_free HB6.out 1)
        have hTz : Turned cb w6 (w6.setCell ⟨cb, 1, none⟩ (.slice Ad Ln cad)) := (Turned.refl cb w6).set_ _ _
        have hbz := blk_put HB6.out 1 (.slice Ad Ln cad)
        have hOz := owns_turned HOW.out hTz hcb4
        have hTT := HT6.out.trans hTz
        generalize w6.setCell ⟨cb, 1, none⟩ (.slice Ad Ln cad) = wz at hTz hbz hOz hTT ⊢
        go_roundg (gk - 1)
        case measure => have := HK.out; omega
        case rel => exact ⟨k + 1, by have := HK.out; omega, by go_num, hTT, _, hbz, by rw [HTK.out, HIF.out]; exact hOz⟩
      · have hif : (if sinceOf th mk change j ≤ first + minute then (1 : Int) else 0) = 1 := if_pos (by simpa using hd)
        rw [hd] at HHJ
        have HIF := Lib.hid hif
        clear hd hif
        go_upto_region 5 with fail
        refine wp_region_ext (by kernel_rfl) (by kernel_rfl) ?_
        repeat (go_big_quiet_step ((go_at_call 34; refine Calls.inX _ (HHJ.out _ (ExtW.ext _)))))
        refine wpQuiet_nil ?_
        rintro _ ⟨x, rfl⟩
        have hEx := x.ext
        generalize x.out = wx at hEx ⊢
        clear x f0 g0 g1
        have HBX := Lib.hid (hEx.heap HBL.out)
        have HOX := Lib.hid (own_later HO.out hEx)
        have c1 := blk_at HBX.out 1 rfl
        have b1 : ys.length + 1 ≤ maxLen := by unfold maxLen; omega
        have b2 : (ys.length + 1) * 8 ≤ 140737488355328 := by omega
        have hszx := hEx.size
        go_wp2_with (at_builtin; refine wpList_append_own _ rfl _ _ 26 rfl w4.heap.size 3 i0 (.int .i64 0) 1 8 Try.underlying26 hi hz0 hz1 hz2 rfl (by decide) _ _ _ rfl (HOX.out.alloc _) ⟨wx.heap.size, 0, none⟩ 1 1 [.int .i64 1] rfl rfl (cell_one_new _ _ _) (by simp [Value.oneCell']) b1 b2 (by rw [World.size_alloc]; omega) ?_; intro v2 w6 hown2 hgrow _; have HB6 := Lib.hid (grown_heap hgrow (own_base HOX.out) hcb4 ((Ext.alloc wx _).heap HBX.out)); have HT6 := Lib.hid (((hT.trans (Turned.of_ext hEx)).trans (Turned.of_ext (Ext.alloc wx _))).grown hgrow (own_base HOX.out)); have HOW := Lib.hid (OwnI.snoc hown2); clear hown2 hgrow; obtain ⟨Ad, cad, hvd, _⟩ := OwnI.reads HOW.out; generalize (ys ++ [1]).length = Ln at hvd; subst hvd; clear c1; have c1 := blk_at HB6.out 1 rfl; have f1 := blk_free HB6.out 1)
        have hTz : Turned cb w6 (w6.setCell ⟨cb, 1, none⟩ (.slice Ad Ln cad)) := (Turned.refl cb w6).set_ _ _
        have hbz := blk_put HB6.out 1 (.slice Ad Ln cad)
        have hOz := owns_turned HOW.out hTz hcb4
        have hTT := HT6.out.trans hTz
        generalize w6.setCell ⟨cb, 1, none⟩ (.slice Ad Ln cad) = wz at hTz hbz hOz hTT ⊢
        go_roundg (gk - 1)
        case measure => have := HK.out; omega
        case rel => exact ⟨k + 1, by have := HK.out; omega, by go_num, hTT, _, hbz, by rw [HTK.out, HIF.out]; exact hOz⟩
    · obtain rfl : k = plates.length := by omega
      have hln : (newsOf th mk change (first + minute) plates).length = plates.length := by simp [newsOf]
      rw [← hln, List.take_length] at hO
      obtain ⟨N, cN, rfl, hcN, hRN, hTN⟩ := OwnI.full hO
      have HNN := Lib.hid (OwnI.new hO)
      have hszw := hEw.size
      have hw2f : w.heap.size ≤ fb := hwf
      rw [hln] at hcN hbl
      have hFw := hT.heap_ hfc HFB.out
      have hRF := rdI_one hFw
      have hRw : wr.heap[rb]? = some (.cells #[.int .i64 0, .slice none 0 0, .slice none 0 0] 50 (0, 0)) := hT.heap_ hrc HRB.out
      have c0 := blk_at hbl 0 rfl
      have c1 := blk_at hbl 1 rfl
      have c2 := blk_at hbl 2 rfl
      have d0 := blk_at hRw 0 rfl
      have d1 := blk_at hRw 1 rfl
      have d2 := blk_at hRw 2 rfl
      have e0 := blk_free hRw 0
      have e1 := blk_free hRw 1
      have e2 := blk_free hRw 2
      have HRN := Lib.hid hRN
      have HTN := Lib.hid hTN
      have HRF := Lib.hid hRF
      have HRW := Lib.hid hRw
      have HFW := Lib.hid hFw
      clear hk hlt hO HO hRN hTN hRF hRw hFw hbl
      go_wp2_with fail
      have hz := blk_put (blk_put (blk_put HRW.out 0 (.int .i64 minute)) 1 (.slice N plates.length cN)) 2 (.slice (some ⟨fb, 0, none⟩) 1 1)
      have hTz : Turned rb wr (((wr.setCell ⟨rb, 0, none⟩ (.int .i64 minute)).setCell ⟨rb, 1, none⟩ (.slice N plates.length cN)).setCell ⟨rb, 2, none⟩ (.slice (some ⟨fb, 0, none⟩) 1 1)) := (((Turned.refl rb wr).set_ _ _).set_ _ _).set_ _ _
      generalize ((wr.setCell ⟨rb, 0, none⟩ (.int .i64 minute)).setCell ⟨rb, 1, none⟩ (.slice N plates.length cN)).setCell ⟨rb, 2, none⟩ (.slice (some ⟨fb, 0, none⟩) 1 1) = wz at hz hTz ⊢
      have z0 := blk_at hz 0 rfl
      have z1 := blk_at hz 1 rfl
      have z2 := blk_at hz 2 rfl
      have hTF : TyAt 3 wr (some ⟨fb, 0, none⟩) := .inr ⟨fb, 0, _, _, rfl, HFW.out⟩
      have hEz : Ext w wz := hTz.below hE hrb
      exact bodyPost_ret (v := .tuple #[.agg #[.int .i64 minute, .slice N plates.length cN, .slice (some ⟨fb, 0, none⟩) 1 1], .bool true]) (by simp [results, Try.results12, go_sem, z0, z1, z2]) rfl
        ⟨N, cN, _, 1, rfl, hcN, Nat.le_refl _, RdL.turnedT (by decide) HRW.out hTz HTN.out HRN.out, RdL.turnedT (by decide) HRW.out hTz hTF HRF.out, HTN.out.turned (by decide) HRW.out hTz, hTF.turned (by decide) HRW.out hTz, fun b o e => ⟨Nat.le_trans hszw (HNN.out b o e).1, Nat.lt_of_lt_of_le (HNN.out b o e).2 hTz.size⟩, fun b o e => by cases e; exact ⟨hw2f, Nat.lt_of_lt_of_le (blk_lt HFW.out) hTz.size⟩, hEz⟩
end Go.Proofs.Ytloenmikkkklhaa

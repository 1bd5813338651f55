/-
  The layer 'changes': the small functions, Check and open: what each call returns.
-/
import Derived.Test.YtloenmikkkklhaaProg
import Derived.Test.YtloenmikkkklhaaK
namespace Go.Proofs.Ytloenmikkkklhaa
open Go.RowKit

structure Thing where
  of : Int
  at_ : Int
  cost : Int
  prints : Int
structure Mark where
  change : Int
  thing : Int
  at_ : Int
instance : Inhabited Thing := ⟨⟨0, 0, 0, 0⟩⟩
instance : Inhabited Mark := ⟨⟨0, 0, 0⟩⟩
def encT (t : Thing) : List Value := [.int .i64 t.of, .int .i64 t.at_, .int .i64 t.cost, .int .i64 t.prints]
def encM (m : Mark) : List Value := [.int .i64 m.change, .int .i64 m.thing, .int .i64 m.at_]
abbrev RdT (w : World) (A : Option Addr) (xs : List Thing) : Prop := RdL (Plain encT) 4 w A xs
abbrev RdM (w : World) (A : Option Addr) (xs : List Mark) : Prop := RdL (Plain encM) 3 w A xs
theorem RdT.ext {w w' : World} {A : Option Addr} {xs : List Thing} (h : RdT w A xs) (he : Ext w w') : RdT w' A xs := RdL.ext (R := Plain encT) Plain.ext h he
theorem RdM.ext {w w' : World} {A : Option Addr} {xs : List Mark} (h : RdM w A xs) (he : Ext w w') : RdM w' A xs := RdL.ext (R := Plain encM) Plain.ext h he
theorem RdT.get {w : World} {A : Option Addr} {xs : List Thing} (h : RdT w A xs) {i : Nat} {t : Thing} (hx : xs[i]? = some t) :
    ∃ b o, A = some ⟨b, o, none⟩ ∧ w.cell? ⟨b, o + i * 4, none⟩ = some (.int .i64 t.of) ∧ w.cell? ⟨b, o + i * 4 + 1, none⟩ = some (.int .i64 t.at_) ∧ w.cell? ⟨b, o + i * 4 + 2, none⟩ = some (.int .i64 t.cost) ∧ w.cell? ⟨b, o + i * 4 + 3, none⟩ = some (.int .i64 t.prints) := by
  obtain ⟨b, o, cs, hA, rfl, _, hc⟩ := RdL.get h hx
  exact ⟨b, o, hA, hc 0 _ rfl, hc 1 _ rfl, hc 2 _ rfl, hc 3 _ rfl⟩
theorem RdM.get {w : World} {A : Option Addr} {xs : List Mark} (h : RdM w A xs) {i : Nat} {t : Mark} (hx : xs[i]? = some t) :
    ∃ b o, A = some ⟨b, o, none⟩ ∧ w.cell? ⟨b, o + i * 3, none⟩ = some (.int .i64 t.change) ∧ w.cell? ⟨b, o + i * 3 + 1, none⟩ = some (.int .i64 t.thing) ∧ w.cell? ⟨b, o + i * 3 + 2, none⟩ = some (.int .i64 t.at_) := by
  obtain ⟨b, o, cs, hA, rfl, _, hc⟩ := RdL.get h hx
  exact ⟨b, o, hA, hc 0 _ rfl, hc 1 _ rfl, hc 2 _ rfl⟩

theorem RdT.at {w : World} {b o : Nat} {xs : List Thing} (h : RdT w (some ⟨b, o, none⟩) xs) {i : Nat} {t : Thing} (hx : xs[i]? = some t) :
    w.cell? ⟨b, o + i * 4, none⟩ = some (.int .i64 t.of) ∧ w.cell? ⟨b, o + i * 4 + 1, none⟩ = some (.int .i64 t.at_) ∧ w.cell? ⟨b, o + i * 4 + 2, none⟩ = some (.int .i64 t.cost) ∧ w.cell? ⟨b, o + i * 4 + 3, none⟩ = some (.int .i64 t.prints) := by
  obtain ⟨cs, rfl, _, hc⟩ := RdL.at h hx
  exact ⟨hc 0 _ rfl, hc 1 _ rfl, hc 2 _ rfl, hc 3 _ rfl⟩
theorem RdM.at {w : World} {b o : Nat} {xs : List Mark} (h : RdM w (some ⟨b, o, none⟩) xs) {i : Nat} {t : Mark} (hx : xs[i]? = some t) :
    w.cell? ⟨b, o + i * 3, none⟩ = some (.int .i64 t.change) ∧ w.cell? ⟨b, o + i * 3 + 1, none⟩ = some (.int .i64 t.thing) ∧ w.cell? ⟨b, o + i * 3 + 2, none⟩ = some (.int .i64 t.at_) := by
  obtain ⟨cs, rfl, _, hc⟩ := RdL.at h hx
  exact ⟨hc 0 _ rfl, hc 1 _ rfl, hc 2 _ rfl⟩

/-! ### The plain functions -/
def thAt (th : List Thing) (i : Int) : Int := (th[i.toNat]?.getD default).at_
def okOf (i : Nat) (t : Thing) : Bool := inB t.of 0 ((i : Int) - 1) || t.of == -1
def fromAt (th : List Thing) (i : Nat) (t : Thing) : Int := if inB t.of 0 ((i : Int) - 1) then thAt th t.of else 0
def okThing (th : List Thing) (i : Nat) (t : Thing) : Bool := okOf i t && inB t.at_ (fromAt th i t) 99 && inB t.cost 0 99 && inB t.prints 0 1
def okMark (th : List Thing) (m : Mark) : Bool := inB m.change 0 2 && inB m.thing 0 ((th.length : Int) - 1) && inB m.at_ (thAt th m.thing) 99
def okThings (th : List Thing) : Nat → Bool
  | 0 => true
  | n + 1 => okThings th n && (match th[n]? with | some t => okThing th n t | none => false)
theorem okThings_lt {th : List Thing} : ∀ {n k : Nat} {y : Thing}, okThings th n = true → k < n → th[k]? = some y → okThing th k y = true
  | 0, _, _, _, h, _ => by omega
  | n + 1, k, y, h, hk, hy => by
    simp only [okThings, Bool.and_eq_true] at h
    by_cases e : k = n
    · subst e; rw [hy] at h; exact h.2
    · exact okThings_lt h.1 (by omega) hy
def chkHouse (th : List Thing) (mk : List Mark) : Bool := decide (th.length ≤ 8) && decide (mk.length ≤ 6) && okThings th th.length && mk.all (okMark th)

/-! ### The walks -/
set_option maxHeartbeats 400000 in
theorem within7 (n a b : Int) (w : World) :
    Calls Try.prog 60 #[.int .i64 n, .int .i64 a, .int .i64 b] w fun e w' => e = .returned (.bool (inB n a b)) ∧ w = w' := by
  go_enter Try.func60, Try.ntmps60
  go_wp2
  all_goals go_ret
  · exact ⟨ret_bool (by simp [inB, *]), rfl⟩
  · exact ⟨ret_bool (by simp [inB]; omega), rfl⟩

set_option maxHeartbeats 400000 in
theorem isChange7 (n : Int) (w : World) :
    Calls Try.prog 32 #[.int .i64 n] w fun e w' => e = .returned (.bool (inB n 0 2)) ∧ w = w' := by
  go_enter Try.func32, Try.ntmps32
  go_wp2_with (go_at_call 60; refine (within7 _ _ _ _).mono ?_; rintro e w' ⟨rfl, rfl⟩)
  go_ret
  exact ⟨rfl, rfl⟩

set_option maxHeartbeats 400000 in
theorem isMinute7 (n : Int) (w : World) :
    Calls Try.prog 37 #[.int .i64 n] w fun e w' => e = .returned (.bool (inB n 0 99)) ∧ w = w' := by
  go_enter Try.func37, Try.ntmps37
  go_wp2_with (go_at_call 60; refine (within7 _ _ _ _).mono ?_; rintro e w' ⟨rfl, rfl⟩)
  go_ret
  exact ⟨rfl, rfl⟩

set_option maxHeartbeats 400000 in
theorem isThing7 (A B : Option Addr) (m cm k ck : Nat) (n : Int) (w : World) (hm : (m : Int) ≤ 9223372036854775807) :
    Calls Try.prog 31 #[.agg #[.slice A m cm, .slice B k ck], .int .i64 n] w fun e w' => e = .returned (.bool (inB n 0 (m - 1))) ∧ Ext w w' := by
  go_enter Try.func31, Try.ntmps31
  go_wp2_with (go_at_call 60; refine (within7 _ _ _ _).mono ?_; rintro e w' ⟨rfl, rfl⟩)
  go_ret
  exact ⟨rfl, Ext.alloc _ _⟩

set_option maxHeartbeats 1000000 in
theorem check7_mark (hb ho : Nat) (A B : Option Addr) (th : List Thing) (mk : List Mark) (cm ck : Nat) (x : Mark) (w : World) (hm : (th.length : Int) ≤ 9223372036854775807)
    (h0 : w.cell? ⟨hb, ho, none⟩ = some (.slice A th.length cm)) (h1 : w.cell? ⟨hb, ho + 1, none⟩ = some (.slice B mk.length ck)) (hA : RdT w A th) :
    Calls Try.prog 75 #[.agg #[.int .i64 x.change, .int .i64 x.thing, .int .i64 x.at_], .pointer (some ⟨hb, ho, none⟩)] w fun e w' => e = .returned (.bool (!okMark th x)) ∧ Ext w w' := by
  obtain ⟨c, t, at_⟩ := x
  unfold okMark
  cases hc : inB c 0 2
  · clear hA
    go_enter Try.func75, Try.ntmps75
    go_wp2_with fail
    refine wp_region_ext (by kernel_rfl) (by kernel_rfl) ?_
    repeat (go_big_quiet_step ((first | (go_at_call 32; exact Calls.inXsame _ (isChange7 _ _)) | (go_at_call 31; exact Calls.inX _ (isThing7 _ _ _ _ _ _ _ _ hm)) | (go_at_call 60; exact Calls.inXsame _ (within7 _ _ _ _)))))
    refine wpQuiet_nil ?_
    rintro _ ⟨x, rfl⟩
    go_wp2
    go_ret
    exact ⟨rfl, (Ext.alloc _ _).trans x.ext⟩
  cases ht : inB t 0 ((th.length : Int) - 1)
  · clear hA
    go_enter Try.func75, Try.ntmps75
    go_wp2_with fail
    refine wp_region_ext (by kernel_rfl) (by kernel_rfl) ?_
    repeat (go_big_quiet_step ((first | (go_at_call 32; exact Calls.inXsame _ (isChange7 _ _)) | (go_at_call 31; exact Calls.inX _ (isThing7 _ _ _ _ _ _ _ _ hm)) | (go_at_call 60; exact Calls.inXsame _ (within7 _ _ _ _)))))
    refine wpQuiet_nil ?_
    rintro _ ⟨x, rfl⟩
    go_wp2
    go_ret
    exact ⟨rfl, (Ext.alloc _ _).trans x.ext⟩
  · obtain ⟨hn, hn1⟩ := inB_iff.1 ht
    obtain ⟨k, rfl⟩ := Int.eq_ofNat_of_zero_le hn
    have hk : k < th.length := by omega
    have hx : th[k]? = some th[k] := List.getElem?_eq_getElem hk
    have hat : thAt th (k : Int) = th[k].at_ := by simp [thAt, hx]
    obtain ⟨b, o, rfl, _, f1, _, _⟩ := hA.get hx
    rw [← hat] at f1
    clear hA hat hx
    have hn2 : (k : Int) < th.length := by omega
    go_enter Try.func75, Try.ntmps75
    go_wp2_with fail
    refine wp_region_ext (by kernel_rfl) (by kernel_rfl) ?_
    repeat (go_big_quiet_step ((first | (go_at_call 32; exact Calls.inXsame _ (isChange7 _ _)) | (go_at_call 31; exact Calls.inX _ (isThing7 _ _ _ _ _ _ _ _ hm)) | (go_at_call 60; exact Calls.inXsame _ (within7 _ _ _ _)))))
    refine wpQuiet_nil ?_
    rintro _ ⟨x, rfl⟩
    go_wp2
    go_ret
    exact ⟨rfl, (Ext.alloc _ _).trans x.ext⟩

end Go.Proofs.Ytloenmikkkklhaa

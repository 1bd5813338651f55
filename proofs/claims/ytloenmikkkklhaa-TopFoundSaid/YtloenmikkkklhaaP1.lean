/-
  The layer 'copies': runs as they lie in memory; the small functions; Check of a valid run.
-/
import Derived.Test.YtloenmikkkklhaaB
import Derived.Test.YtloenmikkkklhaaK2
import Derived.Test.YtloenmikkkklhaaF1
namespace Go.Proofs.Ytloenmikkkklhaa
open Go.RowKit

structure Span where
  lo : Int
  hi : Int
deriving DecidableEq
instance : Inhabited Span := ⟨⟨0, 0⟩⟩
structure Machine where
  changes : List Span
  rate : Int
structure Found where
  minute : Int
  new : List Int
  from_ : List Int
def encS (s : Span) : List Value := [.int .i64 s.lo, .int .i64 s.hi]
abbrev RdS (w : World) (A : Option Addr) (xs : List Span) : Prop := RdL (Plain encS) 2 w A xs
theorem RdS.ext {w w' : World} {A : Option Addr} {xs : List Span} (h : RdS w A xs) (he : Ext w w') : RdS w' A xs := RdL.ext (R := Plain encS) Plain.ext h he
theorem RdS.at {w : World} {b o : Nat} {xs : List Span} (h : RdS w (some ⟨b, o, none⟩) xs) {i : Nat} {t : Span} (hx : xs[i]? = some t) :
    w.cell? ⟨b, o + i * 2, none⟩ = some (.int .i64 t.lo) ∧ w.cell? ⟨b, o + i * 2 + 1, none⟩ = some (.int .i64 t.hi) := by
  obtain ⟨cs, rfl, _, hc⟩ := RdL.at h hx
  exact ⟨hc 0 _ rfl, hc 1 _ rfl⟩
def RMach (w : World) (x : Machine) (cs : List Value) : Prop := ∃ A c, cs = [.slice A x.changes.length c, .int .i64 x.rate] ∧ x.changes.length ≤ c ∧ RdS w A x.changes
def RFound (w : World) (x : Found) (cs : List Value) : Prop := ∃ A c B d, cs = [.int .i64 x.minute, .slice A x.new.length c, .slice B x.from_.length d] ∧ x.new.length ≤ c ∧ x.from_.length ≤ d ∧ RdI w A x.new ∧ RdI w B x.from_
theorem RMach.ext {w w' : World} (he : Ext w w') (x : Machine) (cs : List Value) (h : RMach w x cs) : RMach w' x cs := by
  obtain ⟨A, c, h1, h2, h3⟩ := h
  exact ⟨A, c, h1, h2, h3.ext he⟩
theorem RFound.ext {w w' : World} (he : Ext w w') (x : Found) (cs : List Value) (h : RFound w x cs) : RFound w' x cs := by
  obtain ⟨A, c, B, d, h1, h2, h3, h4, h5⟩ := h
  exact ⟨A, c, B, d, h1, h2, h3, h4.ext he, h5.ext he⟩
abbrev RdMach (w : World) (A : Option Addr) (xs : List Machine) : Prop := RdL RMach 2 w A xs
abbrev RdFound (w : World) (A : Option Addr) (xs : List Found) : Prop := RdL RFound 3 w A xs
theorem RdMach.ext {w w' : World} {A : Option Addr} {xs : List Machine} (h : RdMach w A xs) (he : Ext w w') : RdMach w' A xs := RdL.ext (R := RMach) (RMach.ext he) h he
theorem RdFound.ext {w w' : World} {A : Option Addr} {xs : List Found} (h : RdFound w A xs) (he : Ext w w') : RdFound w' A xs := RdL.ext (R := RFound) (RFound.ext he) h he
theorem RdMach.at {w : World} {b o : Nat} {xs : List Machine} (h : RdMach w (some ⟨b, o, none⟩) xs) {i : Nat} {x : Machine} (hx : xs[i]? = some x) :
    ∃ A c, w.cell? ⟨b, o + i * 2, none⟩ = some (.slice A x.changes.length c) ∧ w.cell? ⟨b, o + i * 2 + 1, none⟩ = some (.int .i64 x.rate) ∧ x.changes.length ≤ c ∧ RdS w A x.changes := by
  obtain ⟨cs, ⟨A, c, rfl, h2, h3⟩, _, hc⟩ := RdL.at h hx
  exact ⟨A, c, hc 0 _ rfl, hc 1 _ rfl, h2, h3⟩
theorem RdFound.at {w : World} {b o : Nat} {xs : List Found} (h : RdFound w (some ⟨b, o, none⟩) xs) {i : Nat} {x : Found} (hx : xs[i]? = some x) :
    ∃ A c B d, w.cell? ⟨b, o + i * 3, none⟩ = some (.int .i64 x.minute) ∧ w.cell? ⟨b, o + i * 3 + 1, none⟩ = some (.slice A x.new.length c) ∧ w.cell? ⟨b, o + i * 3 + 2, none⟩ = some (.slice B x.from_.length d) ∧ x.new.length ≤ c ∧ x.from_.length ≤ d ∧ RdI w A x.new ∧ RdI w B x.from_ := by
  obtain ⟨cs, ⟨A, c, B, d, rfl, h2, h3, h4, h5⟩, _, hc⟩ := RdL.at h hx
  exact ⟨A, c, B, d, hc 0 _ rfl, hc 1 _ rfl, hc 2 _ rfl, h2, h3, h4, h5⟩

/-- A valid run. -/
structure OkRun (pl last : Int) (ms : List Machine) (fs : List Found) : Prop where
  hpl : 1 ≤ pl ∧ pl ≤ 3
  hlast : 1 ≤ last ∧ last ≤ 30
  hms : 1 ≤ ms.length ∧ ms.length ≤ 3
  hfs : fs.length ≤ 6
  mach : ∀ m ∈ ms, (m.changes.length : Int) = pl ∧ (0 ≤ m.rate ∧ m.rate ≤ 9) ∧ ∀ s ∈ m.changes, (0 ≤ s.lo ∧ s.lo ≤ s.hi) ∧ s.hi ≤ last
  found : ∀ c ∈ fs, (0 ≤ c.minute ∧ c.minute ≤ last - 1) ∧ (c.new.length : Int) = pl ∧ (c.from_.length ≠ 0 ∧ c.from_.length ≤ 3) ∧ (∀ n ∈ c.new, -1 ≤ n ∧ n ≤ 1) ∧
    (∀ i m, c.from_[i]? = some m → (0 ≤ m ∧ m ≤ (ms.length : Int) - 1) ∧ (i = 0 ∨ c.from_.getD (i - 1) 0 < m))

def runVal (pl last : Int) (A B : Option Addr) (n cm k ck : Nat) : Value := .agg #[.int .i64 pl, .int .i64 last, .slice A n cm, .slice B k ck]

set_option maxHeartbeats 400000 in
theorem within6 (n a b : Int) (w : World) :
    Calls Try.prog 68 #[.int .i64 n, .int .i64 a, .int .i64 b] w fun e w' => e = .returned (.bool (inB n a b)) ∧ w = w' := by
  go_enter Try.func68, Try.ntmps68
  go_wp2
  all_goals go_ret
  · exact ⟨ret_bool (by simp [inB, *]), rfl⟩
  · exact ⟨ret_bool (by simp [inB]; omega), rfl⟩

set_option maxHeartbeats 400000 in
theorem isMachine6 (pl last : Int) (A B : Option Addr) (m cm k ck : Nat) (n : Int) (w : World) (hm : (m : Int) ≤ 9223372036854775807) :
    Calls Try.prog 40 #[.agg #[.int .i64 pl, .int .i64 last, .slice A m cm, .slice B k ck], .int .i64 n] w fun e w' => e = .returned (.bool (inB n 0 (m - 1))) ∧ Ext w w' := by
  go_enter Try.func40, Try.ntmps40
  go_wp2_with (go_at_call 68; refine (within6 _ _ _ _).mono ?_; rintro e w' ⟨rfl, rfl⟩)
  go_ret
  exact ⟨rfl, Ext.alloc _ _⟩

set_option maxHeartbeats 400000 in
theorem isPlate6 (pl last : Int) (A B : Option Addr) (m cm k ck : Nat) (n : Int) (w : World) (hm : 1 ≤ pl) (hm2 : pl ≤ 3) :
    Calls Try.prog 41 #[.agg #[.int .i64 pl, .int .i64 last, .slice A m cm, .slice B k ck], .int .i64 n] w fun e w' => e = .returned (.bool (inB n 0 (pl - 1))) ∧ Ext w w' := by
  go_enter Try.func41, Try.ntmps41
  go_wp2_with (go_at_call 68; refine (within6 _ _ _ _).mono ?_; rintro e w' ⟨rfl, rfl⟩)
  go_ret
  exact ⟨rfl, Ext.alloc _ _⟩

set_option maxHeartbeats 400000 in
theorem isFound6 (pl last : Int) (A B : Option Addr) (m cm k ck : Nat) (n : Int) (w : World) (hm : (k : Int) ≤ 9223372036854775807) :
    Calls Try.prog 45 #[.agg #[.int .i64 pl, .int .i64 last, .slice A m cm, .slice B k ck], .int .i64 n] w fun e w' => e = .returned (.bool (inB n 0 (k - 1))) ∧ Ext w w' := by
  go_enter Try.func45, Try.ntmps45
  go_wp2_with (go_at_call 68; refine (within6 _ _ _ _).mono ?_; rintro e w' ⟨rfl, rfl⟩)
  go_ret
  exact ⟨rfl, Ext.alloc _ _⟩

def knownOf (so not all : Int) : Int := if so = all then 1 else if not = all then 2 else 3
set_option maxHeartbeats 400000 in
theorem known6 (so not all : Int) (w : World) :
    Calls Try.prog 46 #[.int .i64 so, .int .i64 not, .int .i64 all] w fun e w' => e = .returned (.int .i64 (knownOf so not all)) ∧ w = w' := by
  by_cases h1 : so = all
  · have hk : knownOf so not all = 1 := by rw [knownOf, if_pos h1]
    have HK := Lib.hid hk
    have e1 : (all == so) = true := by simp [h1]
    clear hk h1
    go_enter Try.func46, Try.ntmps46
    go_wp2_with fail
    go_ret
    exact ⟨ret_int HK.out.symm, rfl⟩
  · have e1 : (all == so) = false := by simp [Ne.symm h1]
    by_cases h2 : not = all
    · have hk : knownOf so not all = 2 := by rw [knownOf, if_neg h1, if_pos h2]
      have HK := Lib.hid hk
      have e2 : (all == not) = true := by simp [h2]
      clear hk h1 h2
      go_enter Try.func46, Try.ntmps46
      go_wp2_with fail
      go_ret
      exact ⟨ret_int HK.out.symm, rfl⟩
    · have hk : knownOf so not all = 3 := by rw [knownOf, if_neg h1, if_neg h2]
      have HK := Lib.hid hk
      have e2 : (all == not) = false := by simp [Ne.symm h2]
      clear hk h1 h2
      go_enter Try.func46, Try.ntmps46
      go_wp2_with fail
      go_ret
      exact ⟨ret_int HK.out.symm, rfl⟩

theorem enters_check6 : Enters Try.prog 77 := enters_of Try.func77 (by kernel_rfl) rfl
set_option maxHeartbeats 400000 in
theorem check6_new (n : Int) (w : World) :
    Calls Try.prog 77 #[.int .i64 n] w fun e w' => e = .returned (.bool (!inB n (-1) 1)) ∧ w = w' := by
  go_enter Try.func77, Try.ntmps77
  go_wp2_with (go_at_call 68; refine (within6 _ _ _ _).mono ?_; rintro e w' ⟨rfl, rfl⟩)
  go_ret
  exact ⟨rfl, rfl⟩
end Go.Proofs.Ytloenmikkkklhaa

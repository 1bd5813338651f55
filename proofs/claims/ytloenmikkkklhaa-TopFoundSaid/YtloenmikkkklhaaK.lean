/-
  Small words of the walks: worlds that extend a world, regions in such worlds, rows that are read.
-/
import Derived.WalkKit
import Derived.WalkSpells
import Derived.WalkLawsBesides
import Derived.Deep.QuietTactic
import Derived.BigQuiet
import Derived.Deep.DeepCutAuto
import Derived.Deep.CutBlock
import Derived.Deep.LoopGhost
import Derived.Lib.Hide
namespace Go.Proofs.Ytloenmikkkklhaa
open Go.RowKit

/-- w' is w with more: nothing that was there has turned. -/
abbrev Ext (w w' : World) : Prop := Below w.heap.size w w'

theorem Ext.refl (w : World) : Ext w w := Below.refl _ _
theorem Ext.drew (w : World) : Ext w w.drew := ⟨rfl, rfl, rfl, Nat.le_refl _, fun _ _ => rfl⟩
theorem Ext.trans {a b c : World} (h : Ext a b) (k : Ext b c) : Ext a c := Below.trans h (k.mono h.size)
theorem Ext.alloc (w : World) (o : Obj) : Ext w (w.alloc o) := (Below.refl _ _).alloc (Nat.le_refl _) o

/-- A world that extends w. -/
structure ExtW (w : World) where
  out : World
  ext : Ext w out
instance (w : World) : Nonempty (ExtW w) := ⟨⟨w, Ext.refl w⟩⟩

theorem Ext.cell {w w' : World} (h : Ext w w') {a : Addr} {v : Value} (hc : w.cell? a = some v) : w'.cell? a = some v := (Below.cell h (World.block_lt_of_cell? w a hc)).trans hc
theorem Ext.heap {w w' : World} (h : Ext w w') {b : Nat} {o : Obj} (hc : w.heap[b]? = some o) : w'.heap[b]? = some o := (h.block b (Array.getElem?_eq_some_iff.1 hc).1).trans hc
/-- A cell that is there is as it was, in every world that extends w: a rule of the walk. -/
@[go_sem] theorem ExtW.cell_eq {w : World} (x : ExtW w) (a : Addr) (h : (w.cell? a).isSome = true) : x.out.cell? a = w.cell? a := by
  obtain ⟨u, hu⟩ := Option.isSome_iff_exists.1 h
  exact (x.ext.cell hu).trans hu.symm

/-- A cell that is there is as it was behind a new block: a rule of the walk. -/
@[go_sem] theorem alloc_cell_eq (w : World) (a : Addr) (o : Obj) (h : (w.cell? a).isSome = true) : (w.alloc o).cell? a = w.cell? a := by
  obtain ⟨u, hu⟩ := Option.isSome_iff_exists.1 h
  exact ((Ext.alloc w o).cell hu).trans hu.symm

/-- A callee that extends the world, in a region. -/
theorem Calls.inX {P : Program} {f : FuncId} {args : Array Value} {w : World} (x : ExtW w) {v : Value} (h : Calls P f args x.out fun e w' => e = .returned v ∧ Ext x.out w') :
    Calls P f args x.out fun e w'' => e = .returned v ∧ ∃ y : ExtW w, w'' = y.out :=
  h.mono fun _ w'' ⟨he, hm⟩ => ⟨he, ⟨w'', x.ext.trans hm⟩, rfl⟩
theorem Calls.inXsame {P : Program} {f : FuncId} {args : Array Value} {w : World} (x : ExtW w) {v : Value} (h : Calls P f args x.out fun e w' => e = .returned v ∧ x.out = w') :
    Calls P f args x.out fun e w'' => e = .returned v ∧ ∃ y : ExtW w, w'' = y.out :=
  h.mono fun _ _ ⟨he, hm⟩ => ⟨he, x, hm.symm⟩

/-- A region that draws its order: one walk of the text's order, in whatever world that extends the one at hand. -/
theorem wp_region_ext {P : Program} {id : Nat} {Q : Exit → Act → World → Prop} {a : Act} {w : World} {l : List Oper} (hm : P.follows .mixedOrders = true) (hB : Region.lexB .any l.toArray = true)
    (h : wpQuiet P l.toArray (fun w' => ∃ x : ExtW w, w' = x.out) (fun a' => ∀ w', (∃ x : ExtW w, w' = x.out) → Q .normal a' w') l a) : (Code.region id l.toArray true).wp P Q a w :=
  wp_region_quiet (C := fun w' => ∃ x : ExtW w, w' = x.out) hm hB ⟨⟨w.drew, Ext.drew w⟩, rfl⟩ (by simpa using h)

theorem blk_at {w : World} {g : Nat} {t : TypeId} {cs : Array Value} {fr : Nat × Nat} (h : w.heap[g]? = some (.cells cs t fr)) (i : Nat) {v : Value} (hv : cs[i]? = some v) : w.cell? ⟨g, i, none⟩ = some v := (cell_of_row w g i cs t fr h).trans hv
theorem blk_free {w : World} {g : Nat} {t : TypeId} {cs : Array Value} (h : w.heap[g]? = some (.cells cs t (0, 0))) (i : Nat) : w.frozen? ⟨g, i, none⟩ = false := by simp [World.frozen?, h]
/-- A new block, with names of its own. -/
theorem new_block (w : World) (cs : Array Value) (t : TypeId) : ∃ w1 hb, w.alloc (.cells cs t) = w1 ∧ w.heap.size = hb ∧ Ext w w1 ∧ w1.heap[hb]? = some (.cells cs t (0, 0)) :=
  ⟨_, _, rfl, rfl, Ext.alloc _ _, heap_alloc_new w _⟩

/-- OK (0), or an error's number. -/
def errOf (ok : Bool) (n : Int) : Int := if ok = true then 0 else n
theorem errOf_true (n : Int) : errOf true n = 0 := rfl
theorem errOf_false (n : Int) : errOf false n = n := rfl

def inB (n a b : Int) : Bool := decide (a ≤ n) && decide (n ≤ b)
theorem inB_iff {n a b : Int} : inB n a b = true ↔ a ≤ n ∧ n ≤ b := by simp [inB]
theorem ret_bool {a b : Bool} (h : a = b) : Ending.returned (.bool a) = .returned (.bool b) := by rw [h]
theorem ret_int {k : IntKind} {a b : Int} (h : a = b) : Ending.returned (.int k a) = .returned (.int k b) := by rw [h]

@[go_sem] theorem add_plain (b o n : Nat) : (⟨b, o, none⟩ : Addr).add n = ⟨b, o + n, none⟩ := by unfold Addr.add; split <;> simp_all

/-- A row of elements of sz cells each, read at A: what each element's cells are is told by R. -/
def RdL {α : Type} (R : World → α → List Value → Prop) (sz : Nat) (w : World) (A : Option Addr) (xs : List α) : Prop :=
  xs = [] ∨ ∃ b o, A = some ⟨b, o, none⟩ ∧ ∀ i x, xs[i]? = some x → ∃ cs, R w x cs ∧ cs.length = sz ∧ ∀ j v, cs[j]? = some v → w.cell? ⟨b, o + i * sz + j, none⟩ = some v

theorem RdL.ext {α : Type} {R : World → α → List Value → Prop} {sz : Nat} {w w' : World} {A : Option Addr} {xs : List α} (hR : ∀ x cs, R w x cs → R w' x cs) (h : RdL R sz w A xs) (he : Ext w w') : RdL R sz w' A xs := by
  rcases h with h | ⟨b, o, hA, h⟩
  · exact .inl h
  · refine .inr ⟨b, o, hA, fun i x hx => ?_⟩
    obtain ⟨cs, h1, h2, h3⟩ := h i x hx
    exact ⟨cs, hR _ _ h1, h2, fun j v hv => he.cell (h3 j v hv)⟩
theorem RdL.get {α : Type} {R : World → α → List Value → Prop} {sz : Nat} {w : World} {A : Option Addr} {xs : List α} (h : RdL R sz w A xs) {i : Nat} {x : α} (hx : xs[i]? = some x) :
    ∃ b o cs, A = some ⟨b, o, none⟩ ∧ R w x cs ∧ cs.length = sz ∧ ∀ j v, cs[j]? = some v → w.cell? ⟨b, o + i * sz + j, none⟩ = some v := by
  rcases h with h | ⟨b, o, hA, h⟩
  · rw [h] at hx; simp at hx
  · obtain ⟨cs, h1, h2, h3⟩ := h i x hx
    exact ⟨b, o, cs, hA, h1, h2, h3⟩

theorem RdL.at {α : Type} {R : World → α → List Value → Prop} {sz : Nat} {w : World} {b o : Nat} {xs : List α} (h : RdL R sz w (some ⟨b, o, none⟩) xs) {i : Nat} {x : α} (hx : xs[i]? = some x) :
    ∃ cs, R w x cs ∧ cs.length = sz ∧ ∀ j v, cs[j]? = some v → w.cell? ⟨b, o + i * sz + j, none⟩ = some v := by
  obtain ⟨b', o', cs, hA, h1, h2, h3⟩ := h.get hx
  cases hA
  exact ⟨cs, h1, h2, h3⟩
theorem RdL.base {α : Type} {R : World → α → List Value → Prop} {sz : Nat} {w : World} {A : Option Addr} {xs : List α} (h : RdL R sz w A xs) (hx : 0 < xs.length) : ∃ b o, A = some ⟨b, o, none⟩ := by
  rcases h with h | ⟨b, o, hA, _⟩
  · rw [h] at hx; simp at hx
  · exact ⟨b, o, hA⟩

/-- Elements that are plain cells. -/
def Plain {α : Type} (enc : α → List Value) (_ : World) (x : α) (cs : List Value) : Prop := cs = enc x
theorem Plain.ext {α : Type} {enc : α → List Value} {w w' : World} (x : α) (cs : List Value) (h : Plain enc w x cs) : Plain enc w' x cs := h

def encI (n : Int) : List Value := [.int .i64 n]
abbrev RdI (w : World) (A : Option Addr) (xs : List Int) : Prop := RdL (Plain encI) 1 w A xs
theorem RdI.get {w : World} {A : Option Addr} {xs : List Int} (h : RdI w A xs) {i : Nat} {n : Int} (hx : xs[i]? = some n) : ∃ b o, A = some ⟨b, o, none⟩ ∧ w.cell? ⟨b, o + i, none⟩ = some (.int .i64 n) := by
  obtain ⟨b, o, cs, hA, rfl, _, hc⟩ := RdL.get h hx
  exact ⟨b, o, hA, by simpa using hc 0 _ rfl⟩
theorem RdI.at {w : World} {b o : Nat} {xs : List Int} (h : RdI w (some ⟨b, o, none⟩) xs) {i : Nat} {n : Int} (hx : xs[i]? = some n) : w.cell? ⟨b, o + i, none⟩ = some (.int .i64 n) := by
  obtain ⟨cs, rfl, _, hc⟩ := RdL.at h hx
  simpa using hc 0 _ rfl
theorem RdI.ext {w w' : World} {A : Option Addr} {xs : List Int} (h : RdI w A xs) (he : Ext w w') : RdI w' A xs := RdL.ext (R := Plain encI) Plain.ext h he

/-! ### One block of the call's own is written -/
/-- w' is w but for block g, and with more. -/
structure Turned (g : Nat) (w w' : World) : Prop where
  os : w'.os = w.os
  tape : w'.tape = w.tape
  output : w'.output = w.output
  size : w.heap.size ≤ w'.heap.size
  block : ∀ k, k < w.heap.size → k ≠ g → w'.heap[k]? = w.heap[k]?
theorem Turned.refl (g : Nat) (w : World) : Turned g w w := ⟨rfl, rfl, rfl, Nat.le_refl _, fun _ _ _ => rfl⟩
theorem Turned.of_ext {g : Nat} {w w' : World} (h : Ext w w') : Turned g w w' := ⟨h.os, h.tape, h.output, h.size, fun k hk _ => h.block k hk⟩
theorem Turned.trans {g : Nat} {a b c : World} (h : Turned g a b) (k : Turned g b c) : Turned g a c :=
  ⟨k.os.trans h.os, k.tape.trans h.tape, k.output.trans h.output, Nat.le_trans h.size k.size, fun i hi hn => (k.block i (Nat.lt_of_lt_of_le hi h.size) hn).trans (h.block i hi hn)⟩
theorem Turned.set_ {g : Nat} {a b : World} (h : Turned g a b) (i : Nat) (v : Value) : Turned g a (b.setCell ⟨g, i, none⟩ v) :=
  h.trans ⟨rfl, rfl, rfl, by simp [World.setCell], fun k _ hk => Below.heap_setCell _ _ _ _ hk⟩
theorem Turned.drew_ {g : Nat} {a b : World} (h : Turned g a b) : Turned g a b.drew := ⟨h.os, h.tape, h.output, h.size, h.block⟩
theorem Turned.drewN_ {g : Nat} {a b : World} (h : Turned g a b) (n : Nat) : Turned g a (b.drewN n) := ⟨h.os, h.tape, h.output, h.size, h.block⟩
theorem Turned.below {g : Nat} {w a b : World} (h : Turned g a b) (he : Ext w a) (hg : w.heap.size ≤ g) : Ext w b :=
  ⟨h.os.trans he.os, h.tape.trans he.tape, h.output.trans he.output, Nat.le_trans he.size h.size, fun k hk => (h.block k (Nat.lt_of_lt_of_le hk he.size) (by omega)).trans (he.block k hk)⟩
theorem Turned.heap_ {g : Nat} {a b : World} (h : Turned g a b) {k : Nat} {o : Obj} (hk : k ≠ g) (ho : a.heap[k]? = some o) : b.heap[k]? = some o := (h.block k (Array.getElem?_eq_some_iff.1 ho).1 hk).trans ho
theorem Turned.cell_ {g : Nat} {a b : World} (h : Turned g a b) {p : Addr} {v : Value} (hk : p.block ≠ g) (hc : a.cell? p = some v) : b.cell? p = some v :=
  (World.cell?_of_block (w := a) (h.block p.block (World.block_lt_of_cell? a p hc) hk)).trans hc
theorem blk_put {w : World} {g : Nat} {t : TypeId} {cs : Array Value} (h : w.heap[g]? = some (.cells cs t (0, 0))) (i : Nat) (v : Value) : (w.setCell ⟨g, i, none⟩ v).heap[g]? = some (.cells (cs.setIfInBounds i v) t (0, 0)) := by
  simp [World.setCell, Array.getElem?_modify, h]
theorem blk_lt {w : World} {g : Nat} {o : Obj} (h : w.heap[g]? = some o) : g < w.heap.size := (Array.getElem?_eq_some_iff.1 h).1

/-! ### A row of whole numbers that the call makes -/
theorem own_none (W : World) (base : Nat) (e : TypeId) (size : Nat) : W.ownsRow base e size (.slice none 0 0) 0 [] := ⟨by simp, .inl ⟨rfl, rfl⟩⟩
theorem own_base {w : World} {base : Nat} {e : TypeId} {size n : Nat} {v : Value} {xs : List Value} (h : w.ownsRow base e size v n xs) (k : Nat) (hk : v.ownBlock = some k) : base ≤ k := by
  obtain ⟨_, h2⟩ := h
  rcases h2 with ⟨rfl, _⟩ | ⟨g, cap, cur, rfl, hb, _⟩
  · cases hk
  · cases hk; exact hb
/-- Behind an append (of what lies in a new block) to a row of the call's own. -/
theorem own_ext {w0 w w1 : World} {e : TypeId} {size n : Nat} {v : Value} {xs : List Value} (h : Ext w0 w) (ho : w.ownsRow w0.heap.size e size v n xs) (o : Obj) (hg : (w.alloc o).grownBy w1 v.ownBlock) : Ext w0 w1 :=
  Below.grown (h.trans (Ext.alloc w o)) hg (by have := h.size; simp; omega) (fun k hk => own_base ho k hk)
theorem own_ext0 {w0 w w1 : World} {e : TypeId} {size n : Nat} {v : Value} {xs : List Value} (h : Ext w0 w) (ho : w.ownsRow w0.heap.size e size v n xs) (hg : w.grownBy w1 v.ownBlock) : Ext w0 w1 :=
  Below.grown h hg h.size (fun k hk => own_base ho k hk)
theorem own_later {w w' : World} {base : Nat} {e : TypeId} {size n : Nat} {v : Value} {xs : List Value} (h : w.ownsRow base e size v n xs) (he : Ext w w') : w'.ownsRow base e size v n xs := by
  obtain ⟨h1, h2⟩ := h
  refine ⟨h1, ?_⟩
  rcases h2 with h2 | ⟨g, cap, cur, hv, hb, hh, r⟩
  · exact .inl h2
  · exact .inr ⟨g, cap, cur, hv, hb, he.heap hh, r⟩
theorem own_lower {w : World} {base base' : Nat} {e : TypeId} {size n : Nat} {v : Value} {xs : List Value} (h : w.ownsRow base e size v n xs) (hb : base' ≤ base) : w.ownsRow base' e size v n xs := by
  obtain ⟨h1, h2⟩ := h
  refine ⟨h1, ?_⟩
  rcases h2 with h2 | ⟨g, cap, cur, hv, hbb, r⟩
  · exact .inl h2
  · exact .inr ⟨g, cap, cur, hv, Nat.le_trans hb hbb, r⟩
/-- A row of whole numbers: its cells. -/
abbrev OwnI (w : World) (base : Nat) (v : Value) (xs : List Int) : Prop := w.ownsRow base 3 1 v xs.length (xs.map (Value.int .i64))
theorem OwnI.reads {w : World} {base : Nat} {v : Value} {xs : List Int} (h : OwnI w base v xs) : ∃ A c, v = .slice A xs.length c ∧ RdI w A xs := by
  obtain ⟨h1, h2⟩ := h
  rcases h2 with ⟨rfl, hn⟩ | ⟨g, cap, cur, rfl, hb, hh, hc, hcm, hsz, ht⟩
  · have : xs = [] := List.length_eq_zero_iff.1 hn
    subst this
    exact ⟨none, 0, rfl, .inl rfl⟩
  · refine ⟨_, _, rfl, .inr ⟨g, 0, rfl, fun i x hx => ⟨_, rfl, rfl, fun j u hu => ?_⟩⟩⟩
    have hi : i < xs.length := (List.getElem?_eq_some_iff.1 hx).1
    have hj : j = 0 := by
      rcases j with _ | j
      · rfl
      · simp [encI] at hu
    subst hj
    cases hu
    rw [Nat.mul_one] at ht
    have h3 : cur[i]? = some (Value.int .i64 x) := by
      have h4 : (cur.toList.take xs.length)[i]? = some (Value.int .i64 x) := by rw [ht]; simp [hx]
      rw [List.getElem?_take_of_lt hi] at h4
      simpa using h4
    simpa using blk_at hh i h3
theorem OwnI.snoc {w : World} {base : Nat} {v : Value} {xs : List Int} {x : Int} (h : w.ownsRow base 3 1 v (xs.length + 1) (xs.map (Value.int .i64) ++ [.int .i64 x])) : OwnI w base v (xs ++ [x]) := by
  unfold OwnI
  rw [List.length_append, List.map_append]
  exact h
end Go.Proofs.Ytloenmikkkklhaa

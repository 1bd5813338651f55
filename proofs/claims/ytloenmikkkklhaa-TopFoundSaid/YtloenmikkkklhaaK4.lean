/-
  Rows made by an append to an empty list; worlds behind an append to an own row.
-/
import Derived.Test.YtloenmikkkklhaaK3
namespace Go.Proofs.Ytloenmikkkklhaa
open Go.RowKit

theorem reps_plain {α : Type} {enc : α → List Value} {sz : Nat} (hsz : ∀ x, (enc x).length = sz) (w : World) : ∀ xs : List α, Reps (Plain enc) sz w xs (xs.flatMap enc)
  | [] => Reps.none _ _ _
  | x :: r => by
    obtain ⟨h1, h2⟩ := reps_plain hsz w r
    refine ⟨by rw [List.flatMap_cons, List.length_append, h1, hsz, List.length_cons, Nat.add_mul]; omega, fun i y hy => ?_⟩
    rw [List.flatMap_cons]
    cases i with
    | zero =>
      simp only [List.getElem?_cons_zero, Option.some.injEq] at hy
      subst hy
      exact ⟨enc x, rfl, hsz x, fun j v hv => by
        rw [Nat.zero_mul, Nat.zero_add, List.getElem?_append_left (List.getElem?_eq_some_iff.1 hv).1]
        exact hv⟩
    | succ i =>
      simp only [List.getElem?_cons_succ] at hy
      obtain ⟨cs, g1, g2, g3⟩ := h2 i y hy
      refine ⟨cs, g1, g2, fun j v hv => ?_⟩
      rw [List.getElem?_append_right (by rw [hsz, Nat.add_mul]; omega), hsz, show (i + 1) * sz + j - sz = i * sz + j by rw [Nat.add_mul]; omega]
      exact g3 j v hv
theorem reps_ints (w : World) (xs : List Int) : Reps (Plain encI) 1 w xs (xs.map (Value.int .i64)) := by
  have h := reps_plain (enc := encI) (sz := 1) (fun _ => rfl) w xs
  have e : xs.flatMap encI = xs.map (Value.int .i64) := by
    clear h
    induction xs with
    | nil => rfl
    | cons x r ih => rw [List.flatMap_cons, List.map_cons, ih]; rfl
  rwa [e] at h
/-- Where a list lies: in a block of its own type, not older than base. -/
def FreshAt (e : TypeId) (base : Nat) (w : World) (A : Option Addr) : Prop := ∃ b o cs, A = some ⟨b, o, none⟩ ∧ base ≤ b ∧ w.heap[b]? = some (.cells cs e (0, 0))
theorem FreshAt.ext {e : TypeId} {base : Nat} {w w' : World} {A : Option Addr} (h : FreshAt e base w A) (he : Ext w w') : FreshAt e base w' A := by
  obtain ⟨b, o, cs, h1, h2, h3⟩ := h
  exact ⟨b, o, cs, h1, h2, he.heap h3⟩
theorem FreshAt.lower {e : TypeId} {base base' : Nat} {w : World} {A : Option Addr} (h : FreshAt e base w A) (hb : base' ≤ base) : FreshAt e base' w A := by
  obtain ⟨b, o, cs, h1, h2, h3⟩ := h
  exact ⟨b, o, cs, h1, Nat.le_trans hb h2, h3⟩
theorem FreshAt.grown {e f : TypeId} (hef : e ≠ f) {k : Nat} {w w1 : World} {A : Option Addr} {base size n : Nat} {v : Value} {xs : List Value} (h : FreshAt e k w A) (ho : w.ownsRow base f size v n xs) (hg : w.grownBy w1 v.ownBlock) : FreshAt e k w1 A := by
  obtain ⟨b, o, cs, h1, h2, h3⟩ := h
  rcases TyAt.keep hef (.inr ⟨b, o, cs, (0, 0), h1, h3⟩) ho hg with h | ⟨b', o', cs', fr, g1, g2, g3⟩
  · rw [h] at h1; cases h1
  · rw [g1] at h1
    cases h1
    exact ⟨b, o, cs, g1, h2, g3.trans h3⟩

/-- A row of the call's own, of some elements: where it lies. -/
theorem own_fresh {α : Type} {enc : α → List Value} {sz e base : Nat} {w : World} {v : Value} {xs : List α} {cells : List Value} (h : w.ownsRow base e sz v (0 + xs.length) ([] ++ cells)) (hr : Reps (Plain enc) sz w xs cells) (hn : 0 < xs.length) :
    ∃ g c, v = .slice (some ⟨g, 0, none⟩) xs.length c ∧ xs.length ≤ c ∧ RdL (Plain enc) sz w (some ⟨g, 0, none⟩) xs ∧ TyAt e w (some ⟨g, 0, none⟩) ∧ FreshAt e base w (some ⟨g, 0, none⟩) := by
  rw [Nat.zero_add, List.nil_append] at h
  obtain ⟨A, c, e1, hc, hR⟩ := OwnR.reads (R := Plain enc) ⟨cells, h, hr⟩
  obtain ⟨_, h2⟩ := h
  rcases h2 with ⟨_, h0⟩ | ⟨g, cap, cur, e2, hb, hh, _⟩
  · omega
  · rw [e1] at e2
    obtain ⟨rfl, _, rfl⟩ := Value.slice.inj e2
    exact ⟨g, c, e1, hc, hR, .inr ⟨g, 0, cur, (0, 0), rfl, hh⟩, g, 0, cur, rfl, hb, hh⟩
theorem Turned.grown {g : Nat} {a b c : World} (h : Turned g a b) {own : Option Nat} (hg : b.grownBy c own) (ho : ∀ k, own = some k → a.heap.size ≤ k) : Turned g a c :=
  ⟨hg.os.trans h.os, hg.tape.trans h.tape, hg.output.trans h.output, Nat.le_trans h.size hg.size, fun k hk hne => (hg.block k (Nat.lt_of_lt_of_le hk h.size) (fun e => by have := ho k e.symm; omega)).trans (h.block k hk hne)⟩
theorem grown_heap {b c : World} {own : Option Nat} (hg : b.grownBy c own) {n k : Nat} {o : Obj} (ho : ∀ k, own = some k → n ≤ k) (hk : k < n) (hb : b.heap[k]? = some o) : c.heap[k]? = some o :=
  (hg.block k (Array.getElem?_eq_some_iff.1 hb).1 (fun e => by have := ho k e.symm; omega)).trans hb
theorem grown_cell {b c : World} {own : Option Nat} (hg : b.grownBy c own) {n : Nat} {p : Addr} {v : Value} (ho : ∀ k, own = some k → n ≤ k) (hk : p.block < n) (hb : b.cell? p = some v) : c.cell? p = some v :=
  (World.cell?_of_block (hg.block p.block (World.block_lt_of_cell? b p hb) (fun e => by have := ho p.block e.symm; omega))).trans hb
theorem grown_ext {w b c : World} {own : Option Nat} (h : Ext w b) (hg : b.grownBy c own) (ho : ∀ k, own = some k → w.heap.size ≤ k) : Ext w c := Below.grown h hg h.size ho
theorem blk_cells {w : World} {g : Nat} {cs : Array Value} {t : TypeId} {fr : Nat × Nat} (h : w.heap[g]? = some (.cells cs t fr)) : ∀ j u, cs.toList[j]? = some u → w.cell? ((⟨g, 0, none⟩ : Addr).add j) = some u := fun j u hu => by
  rw [add_plain, Nat.zero_add]
  exact blk_at h j (by simpa using hu)
theorem ty_ne {e f : TypeId} (hef : e ≠ f) {w : World} {b ob : Nat} {cs ds : Array Value} {fr gr : Nat × Nat} (h : w.heap[b]? = some (.cells cs e fr)) (hb : w.heap[ob]? = some (.cells ds f gr)) : b ≠ ob := fun q => by
  subst q
  rw [h] at hb
  exact hef (Obj.cells.inj (Option.some.inj hb)).2.1
theorem TyAt.turned {e f : TypeId} (hef : e ≠ f) {w w' : World} {A : Option Addr} {ob : Nat} {ds : Array Value} {gr : Nat × Nat} (hb : w.heap[ob]? = some (.cells ds f gr)) (ht : Turned ob w w') (h : TyAt e w A) : TyAt e w' A := by
  rcases h with h | ⟨b, o, cs, fr, h1, h2⟩
  · exact .inl h
  · exact .inr ⟨b, o, cs, fr, h1, ht.heap_ (ty_ne hef h2 hb) h2⟩
theorem RdL.turnedT {α : Type} {enc : α → List Value} {sz : Nat} {e f : TypeId} (hef : e ≠ f) {w w' : World} {A : Option Addr} {ob : Nat} {ds : Array Value} {gr : Nat × Nat} {ys : List α} (hb : w.heap[ob]? = some (.cells ds f gr)) (ht : Turned ob w w') (h : TyAt e w A) (hr : RdL (Plain enc) sz w A ys) : RdL (Plain enc) sz w' A ys := by
  rcases hr with hr | ⟨b, o, hA, hr⟩
  · exact .inl hr
  · rcases h with h | ⟨b', o', cs, fr, h1, h2⟩
    · rw [h] at hA; cases hA
    · subst hA
      cases h1
      refine .inr ⟨b, o, rfl, fun i x hx => ?_⟩
      obtain ⟨ds, q1, q2, q3⟩ := hr i x hx
      exact ⟨ds, q1, q2, fun j u hu => ht.cell_ (ty_ne hef h2 hb) (q3 j u hu)⟩
theorem FreshAt.turned {e f : TypeId} (hef : e ≠ f) {k : Nat} {w w' : World} {A : Option Addr} {ob : Nat} {ds : Array Value} {gr : Nat × Nat} (hb : w.heap[ob]? = some (.cells ds f gr)) (ht : Turned ob w w') (h : FreshAt e k w A) : FreshAt e k w' A := by
  obtain ⟨b, o, cs, h1, h2, h3⟩ := h
  exact ⟨b, o, cs, h1, h2, ht.heap_ (ty_ne hef h3 hb) h3⟩
theorem RMachT.turned {w w' : World} {ob : Nat} {ds : Array Value} {gr : Nat × Nat} (hb : w.heap[ob]? = some (.cells ds 41 gr)) (ht : Turned ob w w') (x : Machine) (cs : List Value) (h : RMachT w x cs) : RMachT w' x cs := by
  obtain ⟨A, c, h1, h2, h3, h4⟩ := h
  exact ⟨A, c, h1, h2, RdL.turnedT (by decide) hb ht h4 h3, h4.turned (by decide) hb ht⟩
theorem RFoundT.turned {w w' : World} {ob : Nat} {ds : Array Value} {gr : Nat × Nat} (hb : w.heap[ob]? = some (.cells ds 41 gr)) (ht : Turned ob w w') (x : Found) (cs : List Value) (h : RFoundT w x cs) : RFoundT w' x cs := by
  obtain ⟨A, c, B, d, h1, h2, h3, h4, h5, h6, h7⟩ := h
  exact ⟨A, c, B, d, h1, h2, h3, RdL.turnedT (by decide) hb ht h6 h4, RdL.turnedT (by decide) hb ht h7 h5, h6.turned (by decide) hb ht, h7.turned (by decide) hb ht⟩
theorem OwnR.turned {α : Type} {R : World → α → List Value → Prop} {e sz g base : Nat} {w w' : World} {v : Value} {xs : List α} (hR : ∀ x cs, R w x cs → R w' x cs) (h : OwnR R e sz w base v xs) (ht : Turned g w w') (hg : g < base) : OwnR R e sz w' base v xs := by
  obtain ⟨cells, ⟨h1, h2⟩, h3⟩ := h
  refine ⟨cells, ⟨h1, ?_⟩, h3.ext hR⟩
  rcases h2 with h2 | ⟨q, cap, cur, hv, hb, hh, r⟩
  · exact .inl h2
  · exact .inr ⟨q, cap, cur, hv, hb, ht.heap_ (by omega) hh, r⟩
theorem RdL.turnedR {α : Type} {R : World → α → List Value → Prop} {sz : Nat} {e f : TypeId} (hef : e ≠ f) {w w' : World} {A : Option Addr} {ob : Nat} {ds : Array Value} {gr : Nat × Nat} {ys : List α} (hR : ∀ x cs, R w x cs → R w' x cs) (hb : w.heap[ob]? = some (.cells ds f gr)) (ht : Turned ob w w') (h : TyAt e w A) (hr : RdL R sz w A ys) : RdL R sz w' A ys := by
  rcases hr with hr | ⟨b, o, hA, hr⟩
  · exact .inl hr
  · rcases h with h | ⟨b', o', cs, fr, h1, h2⟩
    · rw [h] at hA; cases hA
    · subst hA
      cases h1
      refine .inr ⟨b, o, rfl, fun i x hx => ?_⟩
      obtain ⟨ds, q1, q2, q3⟩ := hr i x hx
      exact ⟨ds, hR _ _ q1, q2, fun j u hu => ht.cell_ (ty_ne hef h2 hb) (q3 j u hu)⟩
theorem RdL.imp {α : Type} {R R' : World → α → List Value → Prop} {sz : Nat} {w : World} {A : Option Addr} {ys : List α} (hR : ∀ x cs, R w x cs → R' w x cs) (hr : RdL R sz w A ys) : RdL R' sz w A ys := by
  rcases hr with hr | ⟨b, o, hA, hr⟩
  · exact .inl hr
  · refine .inr ⟨b, o, hA, fun i x hx => ?_⟩
    obtain ⟨ds, q1, q2, q3⟩ := hr i x hx
    exact ⟨ds, hR _ _ q1, q2, q3⟩
theorem OwnR.ty {α : Type} {R : World → α → List Value → Prop} {e sz base : Nat} {w : World} {A : Option Addr} {n c : Nat} {xs : List α} (h : OwnR R e sz w base (.slice A n c) xs) : TyAt e w A := by
  obtain ⟨cells, ⟨_, h2⟩, _⟩ := h
  rcases h2 with ⟨h, _⟩ | ⟨g, cap, cur, h, _, hh, _⟩
  · exact .inl (Value.slice.inj h).1
  · exact .inr ⟨g, 0, cur, (0, 0), (Value.slice.inj h).1, hh⟩
/-- Elements whose lists lie in blocks of their own type, while an own row of another type grows. -/
theorem RMachT.grownF {w w1 : World} {base n : Nat} {v : Value} {xs : List Value} (ho : w.ownsRow base 50 3 v n xs) (hg : w.grownBy w1 v.ownBlock) (x : Machine) (cs : List Value) (h : RMachT w x cs) : RMachT w1 x cs := by
  obtain ⟨A, c, h1, h2, h3, h4⟩ := h
  exact ⟨A, c, h1, h2, RdL.grown (by decide) h3 h4 ho hg, h4.grown (by decide) ho hg⟩
/-- A copy that was found, whose New lies in a block not older than base. -/
def RFoundN (base : Nat) (w : World) (x : Found) (cs : List Value) : Prop := RFoundT w x cs ∧ ∃ A c r, cs = [.int .i64 x.minute, .slice A x.new.length c, r] ∧ FreshAt 3 base w A
theorem RFoundN.ext {base : Nat} {w w' : World} (he : Ext w w') (x : Found) (cs : List Value) (h : RFoundN base w x cs) : RFoundN base w' x cs := by
  obtain ⟨h, A, c, r, h1, h2⟩ := h
  exact ⟨RFoundT.ext he x cs h, A, c, r, h1, h2.ext he⟩
theorem RFoundN.grown {b0 : Nat} {w w1 : World} {base n : Nat} {v : Value} {xs : List Value} (ho : w.ownsRow base 50 3 v n xs) (hg : w.grownBy w1 v.ownBlock) (x : Found) (cs : List Value) (h : RFoundN b0 w x cs) : RFoundN b0 w1 x cs := by
  obtain ⟨h, A, c, r, h1, h2⟩ := h
  exact ⟨RFoundT.grown ho hg x cs h, A, c, r, h1, h2.grown (by decide) ho hg⟩
theorem RFoundN.turned {b0 : Nat} {w w' : World} {ob : Nat} {ds : Array Value} {gr : Nat × Nat} (hb : w.heap[ob]? = some (.cells ds 41 gr)) (ht : Turned ob w w') (x : Found) (cs : List Value) (h : RFoundN b0 w x cs) : RFoundN b0 w' x cs := by
  obtain ⟨h, A, c, r, h1, h2⟩ := h
  exact ⟨RFoundT.turned hb ht x cs h, A, c, r, h1, h2.turned (by decide) hb ht⟩
theorem RFoundN.plain {b0 : Nat} {w : World} (x : Found) (cs : List Value) (h : RFoundN b0 w x cs) : RFound w x cs := RFoundT.plain x cs h.1
end Go.Proofs.Ytloenmikkkklhaa

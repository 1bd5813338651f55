/-
  Copies that were found, whose lists lie off an own row of whole numbers that grows besides.
-/
import Derived.Test.YtloenmikkkklhaaK5
namespace Go.Proofs.Ytloenmikkkklhaa
open Go.RowKit

/-- A list lies off a row u. -/
def Off (u : Value) (w : World) (A : Option Addr) : Prop := ∀ b o, A = some ⟨b, o, none⟩ → b < w.heap.size ∧ u.ownBlock ≠ some b
def RFoundO (u : Value) (w : World) (x : Found) (cs : List Value) : Prop := ∃ A c B d, cs = [.int .i64 x.minute, .slice A x.new.length c, .slice B x.from_.length d] ∧ x.new.length ≤ c ∧ x.from_.length ≤ d ∧ RdI w A x.new ∧ RdI w B x.from_ ∧ TyAt 3 w A ∧ TyAt 3 w B ∧ Off u w A ∧ Off u w B
theorem Off.size {u : Value} {w w' : World} {A : Option Addr} (h : Off u w A) (hs : w.heap.size ≤ w'.heap.size) : Off u w' A := fun b o e => ⟨Nat.lt_of_lt_of_le (h b o e).1 hs, (h b o e).2⟩
theorem RFoundO.ext {u : Value} {w w' : World} (he : Ext w w') (x : Found) (cs : List Value) (h : RFoundO u w x cs) : RFoundO u w' x cs := by
  obtain ⟨A, c, B, d, h1, h2, h3, h4, h5, h6, h7, h8, h9⟩ := h
  exact ⟨A, c, B, d, h1, h2, h3, RdI.ext h4 he, RdI.ext h5 he, h6.ext he, h7.ext he, h8.size he.size, h9.size he.size⟩
theorem RFoundO.grownF {u : Value} {w w1 : World} {f size base n : Nat} {v : Value} {xs : List Value} (hf : 3 ≠ f) (ho : w.ownsRow base f size v n xs) (hg : w.grownBy w1 v.ownBlock) (x : Found) (cs : List Value) (h : RFoundO u w x cs) : RFoundO u w1 x cs := by
  obtain ⟨A, c, B, d, h1, h2, h3, h4, h5, h6, h7, h8, h9⟩ := h
  exact ⟨A, c, B, d, h1, h2, h3, RdL.grown hf h4 h6 ho hg, RdL.grown hf h5 h7 ho hg, h6.grown hf ho hg, h7.grown hf ho hg, h8.size hg.size, h9.size hg.size⟩
theorem RFoundO.turnedF {u : Value} {w w' : World} {f ob : Nat} {ds : Array Value} {gr : Nat × Nat} (hf : 3 ≠ f) (hb : w.heap[ob]? = some (.cells ds f gr)) (ht : Turned ob w w') (x : Found) (cs : List Value) (h : RFoundO u w x cs) : RFoundO u w' x cs := by
  obtain ⟨A, c, B, d, h1, h2, h3, h4, h5, h6, h7, h8, h9⟩ := h
  exact ⟨A, c, B, d, h1, h2, h3, RdL.turnedT hf hb ht h6 h4, RdL.turnedT hf hb ht h7 h5, h6.turned hf hb ht, h7.turned hf hb ht, h8.size ht.size, h9.size ht.size⟩
theorem off_grown {u : Value} {w w1 : World} {A : Option Addr} {ys : List Int} (hr : RdI w A ys) (ht : TyAt 3 w A) (ho : Off u w A) (hg : w.grownBy w1 u.ownBlock) : RdI w1 A ys ∧ TyAt 3 w1 A := by
  have keep : ∀ b o, A = some ⟨b, o, none⟩ → w1.heap[b]? = w.heap[b]? := fun b o e => hg.block b (ho b o e).1 (fun q => (ho b o e).2 q.symm)
  constructor
  · rcases hr with hr | ⟨b, o, hA, hr⟩
    · exact .inl hr
    · refine .inr ⟨b, o, hA, fun i x hx => ?_⟩
      obtain ⟨ds, q1, q2, q3⟩ := hr i x hx
      exact ⟨ds, q1, q2, fun j v hv => (World.cell?_of_block (keep b o hA)).trans (q3 j v hv)⟩
  · rcases ht with ht | ⟨b, o, cs, fr, h1, h2⟩
    · exact .inl ht
    · exact .inr ⟨b, o, cs, fr, h1, (keep b o h1).trans h2⟩
theorem off_new {u u' : Value} {w w1 : World} {A : Option Addr} (ho : Off u w A) (hg : w.heap.size ≤ w1.heap.size) (hu : u'.ownBlock = u.ownBlock ∨ u'.ownBlock = some w.heap.size) : Off u' w1 A := fun b o e => by
  obtain ⟨h1, h2⟩ := ho b o e
  refine ⟨Nat.lt_of_lt_of_le h1 hg, ?_⟩
  rcases hu with hu | hu
  · rw [hu]; exact h2
  · rw [hu]; intro q; cases q; omega
/-- The row u of whole numbers grows. -/
theorem RFoundO.ints {u u' : Value} {w w1 : World} (hg : w.grownBy w1 u.ownBlock) (hu : u'.ownBlock = u.ownBlock ∨ u'.ownBlock = some w.heap.size) (x : Found) (cs : List Value) (h : RFoundO u w x cs) : RFoundO u' w1 x cs := by
  obtain ⟨A, c, B, d, h1, h2, h3, h4, h5, h6, h7, h8, h9⟩ := h
  obtain ⟨a1, a2⟩ := off_grown h4 h6 h8 hg
  obtain ⟨b1, b2⟩ := off_grown h5 h7 h9 hg
  exact ⟨A, c, B, d, h1, h2, h3, a1, b1, a2, b2, off_new h8 hg.size hu, off_new h9 hg.size hu⟩
theorem RFoundO.plain {u : Value} {w : World} (x : Found) (cs : List Value) (h : RFoundO u w x cs) : RFound w x cs := by
  obtain ⟨A, c, B, d, h1, h2, h3, h4, h5, _⟩ := h
  exact ⟨A, c, B, d, h1, h2, h3, h4, h5⟩
/-- A list that is not older than a world lies off an own row of that world. -/
theorem off_fresh {u : Value} {w w' : World} {A : Option Addr} (hu : ∀ q, u.ownBlock = some q → q < w.heap.size) (hf : ∀ b o, A = some ⟨b, o, none⟩ → w.heap.size ≤ b ∧ b < w'.heap.size) : Off u w' A := fun b o e => ⟨(hf b o e).2, fun q => by have := hu b q; have := (hf b o e).1; omega⟩
/-- A row of another type stays while a row of whole numbers grows; the other way. -/
theorem OwnR.ints {α : Type} {R : World → α → List Value → Prop} {e sz base b2 n : Nat} {w w1 : World} {v u : Value} {xs : List α} {ys : List Value} (hef : e ≠ 3) (hR : ∀ x cs, R w x cs → R w1 x cs) (h : OwnR R e sz w base v xs) (ho : w.ownsRow b2 3 1 u n ys) (hg : w.grownBy w1 u.ownBlock) : OwnR R e sz w1 base v xs :=
  OwnR.grownT hef hR h ho hg
theorem owns_grown {e f sz size base b2 n m : Nat} {w w1 : World} {v u : Value} {xs ys : List Value} (hef : e ≠ f) (h : w.ownsRow base e sz v n xs) (ho : w.ownsRow b2 f size u m ys) (hg : w.grownBy w1 u.ownBlock) : w1.ownsRow base e sz v n xs := by
  obtain ⟨h1, h2⟩ := h
  refine ⟨h1, ?_⟩
  rcases h2 with h2 | ⟨q, cap, cur, hv, hb, hh, r⟩
  · exact .inl h2
  · refine .inr ⟨q, cap, cur, hv, hb, ?_, r⟩
    refine (hg.block q (blk_lt hh) ?_).trans hh
    obtain ⟨_, h6⟩ := ho
    rcases h6 with ⟨rfl, _⟩ | ⟨g, c, cr, rfl, _, hh2, _⟩
    · intro e; cases e
    · intro e
      cases e
      exact ty_ne hef hh hh2 rfl
end Go.Proofs.Ytloenmikkkklhaa

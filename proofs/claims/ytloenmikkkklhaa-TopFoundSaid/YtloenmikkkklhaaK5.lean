/-
  Two blocks of the call's own are written.
-/
import Derived.Test.YtloenmikkkklhaaL3
import Derived.Test.YtloenmikkkklhaaR11
import Derived.Test.YtloenmikkkklhaaR2
import Derived.Test.YtloenmikkkklhaaR4
namespace Go.Proofs.Ytloenmikkkklhaa
open Go.RowKit

/-- w' is w but for the blocks g and h, and with more. -/
structure Turned2 (g h : Nat) (w w' : World) : Prop where
  os : w'.os = w.os
  tape : w'.tape = w.tape
  output : w'.output = w.output
  size : w.heap.size ≤ w'.heap.size
  block : ∀ k, k < w.heap.size → k ≠ g → k ≠ h → w'.heap[k]? = w.heap[k]?
theorem Turned2.refl (g h : Nat) (w : World) : Turned2 g h w w := ⟨rfl, rfl, rfl, Nat.le_refl _, fun _ _ _ _ => rfl⟩
theorem Turned2.ext {g h : Nat} {a b c : World} (t : Turned2 g h a b) (e : Ext b c) : Turned2 g h a c :=
  ⟨e.os.trans t.os, e.tape.trans t.tape, e.output.trans t.output, Nat.le_trans t.size e.size, fun k hk h1 h2 => (e.block k (Nat.lt_of_lt_of_le hk t.size)).trans (t.block k hk h1 h2)⟩
theorem Turned2.left {g h : Nat} {a b c : World} (t : Turned2 g h a b) (e : Turned g b c) : Turned2 g h a c :=
  ⟨e.os.trans t.os, e.tape.trans t.tape, e.output.trans t.output, Nat.le_trans t.size e.size, fun k hk h1 h2 => (e.block k (Nat.lt_of_lt_of_le hk t.size) h1).trans (t.block k hk h1 h2)⟩
theorem Turned2.right {g h : Nat} {a b c : World} (t : Turned2 g h a b) (e : Turned h b c) : Turned2 g h a c :=
  ⟨e.os.trans t.os, e.tape.trans t.tape, e.output.trans t.output, Nat.le_trans t.size e.size, fun k hk h1 h2 => (e.block k (Nat.lt_of_lt_of_le hk t.size) h2).trans (t.block k hk h1 h2)⟩
theorem Turned2.grown {g h : Nat} {a b c : World} (t : Turned2 g h a b) {own : Option Nat} (hg : b.grownBy c own) (ho : ∀ k, own = some k → a.heap.size ≤ k) : Turned2 g h a c :=
  ⟨hg.os.trans t.os, hg.tape.trans t.tape, hg.output.trans t.output, Nat.le_trans t.size hg.size, fun k hk h1 h2 => (hg.block k (Nat.lt_of_lt_of_le hk t.size) (fun e => by have := ho k e.symm; omega)).trans (t.block k hk h1 h2)⟩
theorem Turned2.heap_ {g h : Nat} {a b : World} (t : Turned2 g h a b) {k : Nat} {o : Obj} (h1 : k ≠ g) (h2 : k ≠ h) (ho : a.heap[k]? = some o) : b.heap[k]? = some o := (t.block k (Array.getElem?_eq_some_iff.1 ho).1 h1 h2).trans ho
theorem Turned2.cell_ {g h : Nat} {a b : World} (t : Turned2 g h a b) {p : Addr} {v : Value} (h1 : p.block ≠ g) (h2 : p.block ≠ h) (hc : a.cell? p = some v) : b.cell? p = some v :=
  (World.cell?_of_block (w := a) (t.block p.block (World.block_lt_of_cell? a p hc) h1 h2)).trans hc
theorem Turned2.below {g h : Nat} {w a b : World} (t : Turned2 g h a b) (he : Ext w a) (hg : w.heap.size ≤ g) (hh : w.heap.size ≤ h) : Ext w b :=
  ⟨t.os.trans he.os, t.tape.trans he.tape, t.output.trans he.output, Nat.le_trans he.size t.size, fun k hk => (t.block k (Nat.lt_of_lt_of_le hk he.size) (by omega) (by omega)).trans (he.block k hk)⟩
/-- An own row of another type grows: this row stays. -/
theorem OwnR.grownT {α : Type} {R : World → α → List Value → Prop} {e f sz size base b2 n : Nat} {w w1 : World} {v u : Value} {xs : List α} {ys : List Value} (hef : e ≠ f) (hR : ∀ x cs, R w x cs → R w1 x cs) (h : OwnR R e sz w base v xs) (ho : w.ownsRow b2 f size u n ys) (hg : w.grownBy w1 u.ownBlock) : OwnR R e sz w1 base v xs := by
  obtain ⟨cells, ⟨h1, h2⟩, h3⟩ := h
  refine ⟨cells, ⟨h1, ?_⟩, h3.ext hR⟩
  rcases h2 with h2 | ⟨q, cap, cur, hv, hb, hh, r⟩
  · exact .inl h2
  · refine .inr ⟨q, cap, cur, hv, hb, ?_, r⟩
    refine (hg.block q (blk_lt hh) ?_).trans hh
    obtain ⟨_, h6⟩ := ho
    rcases h6 with ⟨rfl, _⟩ | ⟨g, c, cr, rfl, _, hh2, _⟩
    · intro e; cases e
    · intro e
      cases e
      exact ty_ne hef hh hh2 rfl
theorem RFoundT.grownF {w w1 : World} {f size base n : Nat} {v : Value} {xs : List Value} (hf : 3 ≠ f) (ho : w.ownsRow base f size v n xs) (hg : w.grownBy w1 v.ownBlock) (x : Found) (cs : List Value) (h : RFoundT w x cs) : RFoundT w1 x cs := by
  obtain ⟨A, c, B, d, h1, h2, h3, h4, h5, h6, h7⟩ := h
  exact ⟨A, c, B, d, h1, h2, h3, RdL.grown hf h4 h6 ho hg, RdL.grown hf h5 h7 ho hg, h6.grown hf ho hg, h7.grown hf ho hg⟩
theorem RFoundT.turnedF {w w' : World} {f ob : Nat} {ds : Array Value} {gr : Nat × Nat} (hf : 3 ≠ f) (hb : w.heap[ob]? = some (.cells ds f gr)) (ht : Turned ob w w') (x : Found) (cs : List Value) (h : RFoundT w x cs) : RFoundT w' x cs := by
  obtain ⟨A, c, B, d, h1, h2, h3, h4, h5, h6, h7⟩ := h
  exact ⟨A, c, B, d, h1, h2, h3, RdL.turnedT hf hb ht h6 h4, RdL.turnedT hf hb ht h7 h5, h6.turned hf hb ht, h7.turned hf hb ht⟩
end Go.Proofs.Ytloenmikkkklhaa

/-
  Rows of elements of whatever kind that the call makes.
-/
import Derived.Test.YtloenmikkkklhaaK
namespace Go.Proofs.Ytloenmikkkklhaa
open Go.RowKit

/-- The cells of some elements, one behind the other. -/
def Reps {α : Type} (R : World → α → List Value → Prop) (sz : Nat) (w : World) (xs : List α) (cells : List Value) : Prop :=
  cells.length = xs.length * sz ∧ ∀ i x, xs[i]? = some x → ∃ cs, R w x cs ∧ cs.length = sz ∧ ∀ j v, cs[j]? = some v → cells[i * sz + j]? = some v
theorem Reps.none {α : Type} (R : World → α → List Value → Prop) (sz : Nat) (w : World) : Reps R sz w [] [] := ⟨by simp, fun i x h => by simp at h⟩
theorem Reps.ext {α : Type} {R : World → α → List Value → Prop} {sz : Nat} {w w' : World} {xs : List α} {cells : List Value} (hR : ∀ x cs, R w x cs → R w' x cs) (h : Reps R sz w xs cells) : Reps R sz w' xs cells :=
  ⟨h.1, fun i x hx => by
    obtain ⟨cs, h1, h2, h3⟩ := h.2 i x hx
    exact ⟨cs, hR _ _ h1, h2, h3⟩⟩
theorem Reps.snoc {α : Type} {R : World → α → List Value → Prop} {sz : Nat} {w : World} {xs : List α} {cells cs : List Value} {x : α} (h : Reps R sz w xs cells) (hx : R w x cs) (hl : cs.length = sz) : Reps R sz w (xs ++ [x]) (cells ++ cs) := by
  obtain ⟨h1, h2⟩ := h
  refine ⟨by simp [h1, hl, Nat.add_mul], fun i y hy => ?_⟩
  by_cases hi : i < xs.length
  · rw [List.getElem?_append_left hi] at hy
    obtain ⟨c1, q1, q2, q3⟩ := h2 i y hy
    refine ⟨c1, q1, q2, fun j v hv => ?_⟩
    have := q3 j v hv
    rw [List.getElem?_append_left (List.getElem?_eq_some_iff.1 this).1]
    exact this
  · rw [List.getElem?_append_right (by omega)] at hy
    have hi2 : i = xs.length := by
      have := (List.getElem?_eq_some_iff.1 hy).1
      simp at this
      omega
    subst hi2
    simp at hy
    subst hy
    refine ⟨cs, hx, hl, fun j v hv => ?_⟩
    rw [List.getElem?_append_right (by omega), h1]
    simpa using hv

/-- A row of elements that the call made. -/
def OwnR {α : Type} (R : World → α → List Value → Prop) (e sz : Nat) (w : World) (base : Nat) (v : Value) (xs : List α) : Prop :=
  ∃ cells, w.ownsRow base e sz v xs.length cells ∧ Reps R sz w xs cells
theorem OwnR.none_ {α : Type} (R : World → α → List Value → Prop) (e sz : Nat) (w : World) (base : Nat) : OwnR R e sz w base (.slice none 0 0) [] := ⟨[], own_none _ _ _ _, Reps.none _ _ _⟩
theorem OwnR.later {α : Type} {R : World → α → List Value → Prop} {e sz : Nat} {w w' : World} {base : Nat} {v : Value} {xs : List α} (hR : ∀ x cs, R w x cs → R w' x cs) (h : OwnR R e sz w base v xs) (he : Ext w w') : OwnR R e sz w' base v xs := by
  obtain ⟨cells, h1, h2⟩ := h
  exact ⟨cells, own_later h1 he, h2.ext hR⟩
theorem OwnR.snoc {α : Type} {R : World → α → List Value → Prop} {e sz : Nat} {w w' : World} {base : Nat} {v : Value} {xs : List α} {x : α} {cells cs : List Value} (hR : ∀ x cs, R w x cs → R w' x cs) (h2 : Reps R sz w xs cells) (hx : R w' x cs) (hl : cs.length = sz)
    (h : w'.ownsRow base e sz v (xs.length + 1) (cells ++ cs)) : OwnR R e sz w' base v (xs ++ [x]) :=
  ⟨cells ++ cs, by rw [List.length_append]; exact h, (h2.ext hR).snoc hx hl⟩
theorem OwnR.reads {α : Type} {R : World → α → List Value → Prop} {e sz : Nat} {w : World} {base : Nat} {v : Value} {xs : List α} (h : OwnR R e sz w base v xs) : ∃ A c, v = .slice A xs.length c ∧ xs.length ≤ c ∧ RdL R sz w A xs := by
  obtain ⟨cells, ⟨h1, h2⟩, h3, h4⟩ := h
  rcases h2 with ⟨rfl, hn⟩ | ⟨g, cap, cur, rfl, hb, hh, hc, hcm, hsz, ht⟩
  · have : xs = [] := List.length_eq_zero_iff.1 hn
    subst this
    exact ⟨none, 0, rfl, Nat.le_refl _, .inl rfl⟩
  · refine ⟨_, _, rfl, hc, .inr ⟨g, 0, rfl, fun i x hx => ?_⟩⟩
    obtain ⟨cs, q1, q2, q3⟩ := h4 i x hx
    refine ⟨cs, q1, q2, fun j v hv => ?_⟩
    have h5 := q3 j v hv
    rw [← ht] at h5
    have h6 : i * sz + j < xs.length * sz := by
      have := (List.getElem?_eq_some_iff.1 h5).1
      rw [List.length_take] at this
      omega
    rw [List.getElem?_take_of_lt h6] at h5
    have h7 : cur[i * sz + j]? = some v := by simpa using h5
    simpa [Nat.add_assoc] using blk_at hh (i * sz + j) h7
theorem OwnR.len {α : Type} {R : World → α → List Value → Prop} {e sz : Nat} {w : World} {base : Nat} {v : Value} {xs : List α} (h : OwnR R e sz w base v xs) : xs.length ≤ 9223372036854775807 := by
  obtain ⟨cells, ⟨h1, h2⟩, h3, h4⟩ := h
  rcases h2 with ⟨rfl, hn⟩ | ⟨g, cap, cur, rfl, hb, hh, hc, hcm, hsz, ht⟩
  · omega
  · unfold maxLen at hcm; omega
theorem OwnR.lower {α : Type} {R : World → α → List Value → Prop} {e sz : Nat} {w : World} {base base' : Nat} {v : Value} {xs : List α} (h : OwnR R e sz w base v xs) (hb : base' ≤ base) : OwnR R e sz w base' v xs := by
  obtain ⟨cells, h1, h2⟩ := h
  exact ⟨cells, own_lower h1 hb, h2⟩
end Go.Proofs.Ytloenmikkkklhaa

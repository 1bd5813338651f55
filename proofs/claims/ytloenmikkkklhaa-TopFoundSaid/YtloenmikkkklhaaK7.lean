/-
  min and max of two whole numbers, without parting the ways.
-/
import Derived.Test.YtloenmikkkklhaaK6
namespace Go.Proofs.Ytloenmikkkklhaa
open Go.RowKit

theorem wpList_min {ops : Array Oper} {rest : List Oper} {o : Oper} {a : Act} {w : World} {Q : Exit → Act → World → Prop} (hg : o.guard = none) (x y : Operand) (ho : o.op = .call { callee := .builtin .min, args := #[x, y], argTypes := #[3, 3] })
    (m n : Int) (hx : a.eval x = .int .i64 m) (hy : a.eval y = .int .i64 n) (h : wpList Try.prog ops Q rest (a.put o.dst (.int .i64 (min m n))) w) : wpList Try.prog ops Q (o :: rest) a w := by
  refine wpList_plain hg fun K hK => ?_
  have h2 := hK _ _ h
  clear h hK
  have HK2 := Lib.hid h2
  clear h2
  unfold Oper.wp execOp
  simp only [ho, resolve, List.map_toArray, List.map_cons, List.map_nil, hx, hy]
  go_simp
  have e : (if n < m then n else m) = min m n := min_if m n
  first
  | (rw [e]; exact HK2.out)
  | (split
     · rw [Int.min_eq_right (by omega)] at HK2; exact HK2.out
     · rw [Int.min_eq_left (by omega)] at HK2; exact HK2.out)
theorem wpList_max {ops : Array Oper} {rest : List Oper} {o : Oper} {a : Act} {w : World} {Q : Exit → Act → World → Prop} (hg : o.guard = none) (x y : Operand) (ho : o.op = .call { callee := .builtin .max, args := #[x, y], argTypes := #[3, 3] })
    (m n : Int) (hx : a.eval x = .int .i64 m) (hy : a.eval y = .int .i64 n) (h : wpList Try.prog ops Q rest (a.put o.dst (.int .i64 (max m n))) w) : wpList Try.prog ops Q (o :: rest) a w := by
  refine wpList_plain hg fun K hK => ?_
  have h2 := hK _ _ h
  clear h hK
  have HK2 := Lib.hid h2
  clear h2
  unfold Oper.wp execOp
  simp only [ho, resolve, List.map_toArray, List.map_cons, List.map_nil, hx, hy]
  go_simp
  have e : (if m < n then n else m) = max m n := max_if m n
  first
  | (rw [e]; exact HK2.out)
  | (split
     · rw [Int.max_eq_right (by omega)] at HK2; exact HK2.out
     · rw [Int.max_eq_left (by omega)] at HK2; exact HK2.out)
theorem OwnR.grownR {α : Type} {R R' : World → α → List Value → Prop} {e f sz size base b2 n : Nat} {w w1 : World} {v u : Value} {xs : List α} {ys : List Value} (hef : e ≠ f) (hR : ∀ x cs, R w x cs → R' w1 x cs) (h : OwnR R e sz w base v xs) (ho : w.ownsRow b2 f size u n ys) (hg : w.grownBy w1 u.ownBlock) : OwnR R' e sz w1 base v xs := by
  obtain ⟨cells, h1, h3⟩ := h
  refine ⟨cells, owns_grown hef h1 ho hg, h3.1, fun i x hx => ?_⟩
  obtain ⟨cs, q1, q2, q3⟩ := h3.2 i x hx
  exact ⟨cs, hR _ _ q1, q2, q3⟩
theorem ks_at {last n : Int} (hn : 0 ≤ n ∧ n ≤ last) (hl : 1 ≤ last) {i : Nat} (hi : i < (ks last n).length) : (ks last n)[i]? = some (max 0 (n - 1) + i) ∧ max 0 (n - 1) + i ≤ n ∧ max 0 (n - 1) + i < last := by
  unfold ks at hi ⊢
  by_cases h0 : n = 0
  · rw [if_pos h0] at hi ⊢
    simp only [List.length_singleton] at hi
    obtain rfl : i = 0 := by omega
    refine ⟨?_, by omega, by omega⟩
    simp; omega
  · rw [if_neg h0] at hi ⊢
    by_cases h1 : n < last
    · rw [if_pos h1] at hi ⊢
      simp only [List.length_cons, List.length_nil] at hi
      obtain rfl | rfl : i = 0 ∨ i = 1 := by omega
      · refine ⟨?_, by omega, by omega⟩
        simp; omega
      · refine ⟨?_, by omega, by omega⟩
        simp; omega
    · rw [if_neg h1] at hi ⊢
      simp only [List.length_singleton] at hi
      obtain rfl : i = 0 := by omega
      refine ⟨?_, by omega, by omega⟩
      simp; omega
theorem ks_end {last n : Int} (hn : 0 ≤ n ∧ n ≤ last) (hl : 1 ≤ last) : ¬ (max 0 (n - 1) + ((ks last n).length : Int) ≤ n ∧ max 0 (n - 1) + ((ks last n).length : Int) < last) := by
  unfold ks
  split
  · simp; omega
  · split
    · simp; omega
    · simp; omega
theorem owns_lt {e sz base n : Nat} {w : World} {v : Value} {xs : List Value} (h : w.ownsRow base e sz v n xs) : ∀ q, v.ownBlock = some q → q < w.heap.size := fun q hq => by
  obtain ⟨_, h2⟩ := h
  rcases h2 with ⟨rfl, _⟩ | ⟨g, cap, cur, rfl, _, hh, _⟩
  · cases hq
  · cases hq; exact blk_lt hh
theorem OwnR.rd {α : Type} {R : World → α → List Value → Prop} {e sz base n c : Nat} {w : World} {A : Option Addr} {xs : List α} (h : OwnR R e sz w base (.slice A n c) xs) : RdL R sz w A xs := by
  obtain ⟨A', c', e, _, h2⟩ := OwnR.reads h
  cases e
  exact h2
theorem fsOf_snoc (last : Int) (ats : List Int) (a : Int) : ∀ l, fsOf last ats (l ++ [a]) = fsOf last ats l ++ (ks last a).map (foundOf ats)
  | [] => by simp [fsOf]
  | b :: r => by rw [List.cons_append, fsOf, fsOf, fsOf_snoc last ats a r, List.append_assoc]
end Go.Proofs.Ytloenmikkkklhaa

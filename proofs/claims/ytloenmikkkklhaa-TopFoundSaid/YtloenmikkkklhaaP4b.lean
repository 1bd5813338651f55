/-
  Values of a way: building, storing.
-/
import Derived.Test.YtloenmikkkklhaaP4
import Derived.Laws.CopyOwn
import Derived.Great.BuildSlice
namespace Go.Proofs.Ytloenmikkkklhaa
open Go.RowKit

theorem fold_get (off : Nat) : ∀ (l : List Value) (k : Nat) (old : Array Value) (i : Nat),
    ((l.zipIdx k).foldl (fun cs (x : Value × Nat) => cs.setIfInBounds (off + x.2) x.1) old)[i]? = if off + k ≤ i ∧ i < off + k + l.length ∧ i < old.size then l[i - (off + k)]? else old[i]?
  | [], k, old, i => by
    rw [if_neg (by simp; omega)]
    rfl
  | a :: l, k, old, i => by
    rw [List.zipIdx_cons, List.foldl_cons, fold_get off l (k + 1)]
    simp only [Array.size_setIfInBounds, List.length_cons]
    by_cases h : i = off + k
    · subst h
      rw [if_neg (by omega)]
      by_cases hs : off + k < old.size
      · rw [if_pos (by omega), Array.getElem?_setIfInBounds_self_of_lt hs]; simp
      · rw [if_neg (by omega), Array.getElem?_eq_none (by simp; omega), Array.getElem?_eq_none (by omega)]
    · rw [Array.getElem?_setIfInBounds_ne (by omega)]
      by_cases h2 : off + (k + 1) ≤ i ∧ i < off + (k + 1) + l.length ∧ i < old.size
      · rw [if_pos h2, if_pos (by omega), show i - (off + k) = (i - (off + (k + 1))) + 1 by omega, List.getElem?_cons_succ]
      · rw [if_neg h2, if_neg (by omega)]
theorem fold_row (off : Nat) (news old : Array Value) (i : Nat) :
    (news.zipIdx.foldl (fun cs (x : Value × Nat) => cs.setIfInBounds (off + x.2) x.1) old)[i]? = if off ≤ i ∧ i < off + news.size ∧ i < old.size then news[i - off]? else old[i]? := by
  rw [← Array.foldl_toList, Array.toList_zipIdx, fold_get]
  simp
theorem fold_whole (news old : Array Value) (h : old.size = news.size) : news.zipIdx.foldl (fun cs (x : Value × Nat) => cs.setIfInBounds (0 + x.2) x.1) old = news := by
  apply Array.ext_getElem?
  intro i
  rw [fold_row]
  by_cases hi : i < news.size
  · rw [if_pos (by omega)]; simp
  · rw [if_neg (by omega), Array.getElem?_eq_none (by omega), Array.getElem?_eq_none (by omega)]

/-- A slice of one value. -/
theorem wpList_build1 {P : Program} {ops : Array Oper} {rest : List Oper} {o : Oper} {a : Act} {w : World} {Q : Exit → Act → World → Prop} (hg : o.guard = none) (t e : TypeId) (x : Operand) (ho : o.op = .buildSlice t 1 #[(0, x)])
    (cells : Array Value) (n : Nat) (ie : TypeInfo) (z : Value) (hx : a.eval x = .agg cells) (hs : cells.size = n) (hn : 0 < n) (hn2 : n ≤ 2 ^ 24)
    (hu : P.underlying t = some (.slice e)) (hie : P.info? e = some ie) (hz : ie.zero = some z) (hsz : ie.size = n)
    (h : ∀ w', Ext w w' → w'.heap[w.heap.size]? = some (.cells cells e (0, 0)) → wpList P ops Q rest (a.put o.dst (.slice (some ⟨w.heap.size, 0, none⟩) 1 1)) w') : wpList P ops Q (o :: rest) a w := by
  refine wpList_buildSlice hg t e 1 #[(0, x)] ho cells ie z hu hie hz (by omega) (by omega) ?_ (h _ (Ext.alloc _ _) (heap_alloc_new w _))
  have hc : Value.cells (.agg cells) = cells := rfl
  have hp : (Array.map (fun (x : Nat × Operand) => (x.1, a.eval x.2)) #[(0, x)]).toList = [(0, .agg cells)] := by simp [hx]
  have this := fold_whole cells (Array.map (fun x => z.cells[x % z.cells.size]!) (Array.range (1 * ie.size))) (by simp [hs, hsz])
  show Instr.fill _ _ (Array.map (fun (x : Nat × Operand) => (x.1, a.eval x.2)) #[(0, x)]).toList = _
  rw [hp]
  generalize hb : Array.map (fun x => z.cells[x % z.cells.size]!) (Array.range (1 * ie.size)) = base at this
  have hbs : base.size = n := by rw [← hb]; simp [hsz]
  simp only [Instr.fill, hc, hsz, hs, hbs, Nat.zero_mul]
  rw [if_neg (by simp), this]
end Go.Proofs.Ytloenmikkkklhaa

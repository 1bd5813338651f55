/-
  Building and storing a way, where the order is drawn.
-/
import Derived.Test.YtloenmikkkklhaaP4b
import Derived.OrdersHeld
namespace Go.Proofs.Ytloenmikkkklhaa
open Go.RowKit
theorem fold_front (v u : Value) (rest cs : Array Value) (h : rest.size = cs.size) : cs.zipIdx.foldl (fun cs (x : Value × Nat) => cs.setIfInBounds (1 + x.2) x.1) ((#[u] ++ rest).setIfInBounds 0 v) = #[v] ++ cs := by
  apply Array.ext_getElem?
  intro i
  rw [fold_row]
  by_cases hi : i = 0
  · subst hi
    rw [if_neg (by omega), Array.getElem?_setIfInBounds_self_of_lt (by simp; omega), Array.getElem?_append_left (by simp)]
    rfl
  · by_cases h2 : i < 1 + cs.size
    · rw [if_pos (by simp; omega), Array.getElem?_append_right (by simp; omega)]
      simp
    · rw [if_neg (by omega), Array.getElem?_eq_none (by simp; omega), Array.getElem?_eq_none (by simp; omega)]
set_option maxRecDepth 100000 in
theorem run_build_way (A : Option Addr) (n c : Nat) (cs : Array Value) (w : World) (hc : cs.size = 18) :
    (Instr.build 94 #[(0, .slice A n c), (1, .agg cs)]).run Try.prog w = .ok (.agg (#[.slice A n c] ++ cs)) w := by
  have hf := fold_front (.slice A n c) (.slice none 0 0) #[.int .i64 0, .int .i64 0, .int .i64 0, .int .i64 0, .int .i64 0, .int .i64 0, .int .i64 0, .int .i64 0, .int .i64 0, .int .i64 0, .int .i64 0, .int .i64 0, .int .i64 0, .int .i64 0, .int .i64 0, .int .i64 0, .int .i64 0, .int .i64 0] cs hc.symm
  have HF := Lib.hid hf
  clear hf
  unfold Instr.build
  go_simp
  have hs : cs.zipIdx.size = 18 := by simp [hc]
  have hf : Array.foldl (fun cs x => cs.setIfInBounds (1 + x.snd) x.fst) #[Value.slice A n c, Value.int IntKind.i64 0, Value.int IntKind.i64 0, Value.int IntKind.i64 0, Value.int IntKind.i64 0, Value.int IntKind.i64 0, Value.int IntKind.i64 0, Value.int IntKind.i64 0, Value.int IntKind.i64 0, Value.int IntKind.i64 0, Value.int IntKind.i64 0, Value.int IntKind.i64 0, Value.int IntKind.i64 0, Value.int IntKind.i64 0, Value.int IntKind.i64 0, Value.int IntKind.i64 0, Value.int IntKind.i64 0, Value.int IntKind.i64 0, Value.int IntKind.i64 0] cs.zipIdx 0 cs.zipIdx.size = #[.slice A n c] ++ cs := HF.out
  rw [hs] at hf
  exact hf

theorem yieldsIf_build_way {ops : Array Oper} {S : World → Prop} {op : Oper} {a : Act} (hw : Region.wanted op (yielded ops a.tmps) = true) (x y : Operand) (ho : op.op = .build 94 #[(0, x), (1, y)])
    (A : Option Addr) (n c : Nat) (cs : Array Value) (hx : a.eval x = .slice A n c) (hy : a.eval y = .agg cs) (hc : cs.size = 18) : YieldsIf Try.prog ops S op (.agg (#[.slice A n c] ++ cs)) a :=
  .inl ⟨hw, fun w _ => by
    unfold execOp
    simp only [ho, List.map_toArray, List.map_cons, List.map_nil, hx, hy, Sem.run_bind, run_build_way A n c cs w hc, Result.andThen_ok, Sem.run_pure]⟩

/-- A whole value is stored into a block of as many cells: in a region that draws its order. -/
theorem wp_store_blk {P : Program} {o : Oper} {a : Act} {w : World} {K : Act → World → Prop} {Q : Exit → Act → World → Prop} (ty : TypeId) (x y : Operand) (ho : o.op = .store ty x y)
    (g : Nat) (t : TypeId) (old cells : Array Value) (hx : a.eval x = .pointer (some ⟨g, 0, none⟩)) (hy : a.eval y = .agg cells) (hg : w.heap[g]? = some (.cells old t (0, 0)))
    (hi : (P.info? ty).map (·.size) = some cells.size) (hs : old.size = cells.size) (h1 : cells.all (·.oneCell') = true)
    (h : ∀ w', Turned g w w' → w'.heap[g]? = some (.cells cells t (0, 0)) → K (a.put o.dst undef) w') : o.wp P a w K Q := by
  unfold Oper.wp execOp
  simp only [ho, hx, hy, Instr.storeAt, Instr.sureAddr, Sem.run_bind, Sem.run_pure, Result.andThen_ok, run_storeVar_row w g t ty old cells hg hi hs h1]
  exact h _ ⟨rfl, rfl, rfl, by simp [World.setRow], fun k _ hk => setRow_other w g k cells (by omega)⟩ (setRow_heap w g old cells t _ hg)

/-- A slice of one number, in a region that draws its order. -/
theorem wp_build_int {o : Oper} {a : Act} {w : World} {K : Act → World → Prop} {Q : Exit → Act → World → Prop} (x : Operand) (ho : o.op = .buildSlice 26 1 #[(0, x)]) (n : Int) (hx : a.eval x = .int .i64 n)
    (h : ∀ w', Ext w w' → w'.heap[w.heap.size]? = some (.cells #[.int .i64 n] 3 (0, 0)) → K (a.put o.dst (.slice (some ⟨w.heap.size, 0, none⟩) 1 1)) w') : o.wp Try.prog a w K Q := by
  have h1 := h _ (Ext.alloc w _) (heap_alloc_new w _)
  unfold Oper.wp execOp
  simp only [ho, List.map_toArray, List.map_cons, List.map_nil, hx]
  go_simp
  exact h1

/-- A new way, in a region that draws its order. -/
theorem wp_alloc_way {o : Oper} {a : Act} {w : World} {K : Act → World → Prop} {Q : Exit → Act → World → Prop} (ho : o.op = .alloc 94)
    (h : ∀ w' cs, Ext w w' → cs.size = 19 → w'.heap[w.heap.size]? = some (.cells cs 94 (0, 0)) → K (a.put o.dst (.pointer (some ⟨w.heap.size, 0, none⟩))) w') : o.wp Try.prog a w K Q := by
  have h1 := fun cs hs => h _ cs (Ext.alloc w (.cells cs 94)) hs (heap_alloc_new w _)
  have H1 := Lib.hid h1
  clear h h1
  unfold Oper.wp execOp
  simp only [ho]
  go_simp
  exact H1.out _ rfl

theorem rdI_cells {w : World} {b o : Nat} {xs : List Int} (h : RdI w (some ⟨b, o, none⟩) xs) : ∀ a, some (⟨b, o, none⟩ : Addr) = some a → ∀ j u, (xs.map (Value.int .i64))[j]? = some u → w.cell? (a.add j) = some u := fun a ha j u hu => by
  cases ha
  rw [List.getElem?_map] at hu
  cases hx : xs[j]? with
  | none => rw [hx] at hu; cases hu
  | some n =>
    rw [hx] at hu
    cases hu
    rw [add_plain]
    exact h.at hx
theorem one_cells {w : World} {g : Nat} {v : Value} {t : TypeId} {fr : Nat × Nat} (h : w.heap[g]? = some (.cells #[v] t fr)) : ∀ j u, [v][j]? = some u → w.cell? ((⟨g, 0, none⟩ : Addr).add j) = some u := fun j u hu => by
  have hj : j = 0 := by
    rcases j with _ | j
    · rfl
    · simp at hu
  subst hj
  cases hu
  rw [add_plain]
  exact blk_at h 0 rfl

theorem yieldsIf_build_way' {ops : Array Oper} {S : World → Prop} {op : Oper} {a : Act} (hw : Region.wanted op (yielded ops a.tmps) = true) (x y : Operand) (ho : op.op = .build 94 #[(0, x), (1, y)])
    (A : Option Addr) (n c : Nat) (wh : List Int) (hx : a.eval x = .slice A n c) (hy : a.eval y = .agg (wh.map (Value.int .i64)).toArray) (hc : wh.length = 18) : YieldsIf Try.prog ops S op (.agg (wayCells (.slice A n c) wh)) a := by
  have h := yieldsIf_build_way (S := S) hw x y ho A n c _ hx hy (by simp [hc])
  have e : #[Value.slice A n c] ++ (wh.map (Value.int .i64)).toArray = wayCells (.slice A n c) wh := by simp [wayCells]
  rwa [e] at h
/-- A new list of machines. -/
theorem own_new {w : World} {base : Nat} {v : Value} {xs : List Int} {m : Int} (h : w.ownsRow base 3 1 v (xs.length + 1) (xs.map (Value.int .i64) ++ [.int .i64 m])) :
    ∃ g c, v = .slice (some ⟨g, 0, none⟩) (xs.length + 1) c ∧ xs.length + 1 ≤ c ∧ base ≤ g ∧ g < w.heap.size ∧ RdI w (some ⟨g, 0, none⟩) (xs ++ [m]) ∧ ∃ cs, w.heap[g]? = some (.cells cs 3 (0, 0)) := by
  obtain ⟨A, c, e, hr⟩ := OwnI.reads (OwnI.snoc h)
  obtain ⟨_, h2⟩ := h
  rcases h2 with ⟨_, hn⟩ | ⟨g, cap, cur, rfl, hb, hh, hc, _⟩
  · omega
  · have hA := (Value.slice.inj e).1
    subst hA
    exact ⟨g, cap, rfl, hc, hb, blk_lt hh, hr, cur, hh⟩
end Go.Proofs.Ytloenmikkkklhaa

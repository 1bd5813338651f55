/-
  The layer 'copies': the ways in which copies can be from machines: the plain functions, and laws that the walk wants.
-/
import Derived.Test.YtloenmikkkklhaaP3
import Derived.Deep.RegionLawGrows
import Derived.Deep.RegionHeld3
namespace Go.Proofs.Ytloenmikkkklhaa
open Go.RowKit

structure Way where
  from_ : List Int
  when_ : List Int
/-- Where a list of machines lies: nowhere, or in a block of whole numbers. -/
def IntAt (w : World) (A : Option Addr) (n c : Nat) : Prop := (A = none ∧ n = 0 ∧ c = 0) ∨ ∃ b o cs fr, A = some ⟨b, o, none⟩ ∧ w.heap[b]? = some (.cells cs 3 fr)
theorem IntAt.ext {w w' : World} (he : Ext w w') {A : Option Addr} {n c : Nat} (h : IntAt w A n c) : IntAt w' A n c := by
  rcases h with h | ⟨b, o, cs, fr, h1, h2⟩
  · exact .inl h
  · exact .inr ⟨b, o, cs, fr, h1, he.heap h2⟩
def RWay (w : World) (x : Way) (cs : List Value) : Prop := ∃ A c, cs = .slice A x.from_.length c :: x.when_.map (Value.int .i64) ∧ x.when_.length = 18 ∧ x.from_.length ≤ c ∧ RdI w A x.from_ ∧ IntAt w A x.from_.length c
theorem RWay.ext {w w' : World} (he : Ext w w') (x : Way) (cs : List Value) (h : RWay w x cs) : RWay w' x cs := by
  obtain ⟨A, c, h1, h2, h3, h4, h5⟩ := h
  exact ⟨A, c, h1, h2, h3, h4.ext he, h5.ext he⟩
/-- A list of ways grows: the lists of machines lie elsewhere. -/
theorem RWay.grown {w w1 : World} {base n : Nat} {v : Value} {xs : List Value} (ho : w.ownsRow base 94 19 v n xs) (hg : w.grownBy w1 v.ownBlock) (x : Way) (cs : List Value) (h : RWay w x cs) : RWay w1 x cs := by
  obtain ⟨A, c, h1, h2, h3, h4, h5⟩ := h
  have key : ∀ (b : Nat) (cs : Array Value) (fr : Nat × Nat), w.heap[b]? = some (.cells cs 3 fr) → w1.heap[b]? = w.heap[b]? := fun b cs fr hb => by
    refine hg.block b (Array.getElem?_eq_some_iff.1 hb).1 ?_
    obtain ⟨_, h6⟩ := ho
    rcases h6 with ⟨rfl, _⟩ | ⟨g, cap, cur, rfl, _, hh, _⟩
    · intro e; cases e
    · intro e
      cases e
      rw [hb] at hh
      have := (Obj.cells.inj (Option.some.inj hh)).2.1
      exact absurd this (by decide)
  rcases h5 with ⟨hA, hn, hc⟩ | ⟨b, o, cs', fr, hA, hb⟩
  · exact ⟨A, c, h1, h2, h3, .inl (List.length_eq_zero_iff.1 hn), .inl ⟨hA, hn, hc⟩⟩
  · refine ⟨A, c, h1, h2, h3, ?_, .inr ⟨b, o, cs', fr, hA, (key b cs' fr hb).trans hb⟩⟩
    subst hA
    rcases h4 with h4 | ⟨b', o', hA, h4⟩
    · exact .inl h4
    · cases hA
      refine .inr ⟨b, o, rfl, fun i y hy => ?_⟩
      obtain ⟨ds, q1, q2, q3⟩ := h4 i y hy
      exact ⟨ds, q1, q2, fun j u hu => (World.cell?_of_block (key b cs' fr hb)).trans (q3 j u hu)⟩
abbrev RdWay (w : World) (A : Option Addr) (xs : List Way) : Prop := RdL RWay 19 w A xs
theorem RdWay.ext {w w' : World} {A : Option Addr} {xs : List Way} (h : RdWay w A xs) (he : Ext w w') : RdWay w' A xs := RdL.ext (R := RWay) (RWay.ext he) h he
abbrev OwnWay (w : World) (base : Nat) (v : Value) (xs : List Way) : Prop := OwnR RWay 94 19 w base v xs

theorem RdI.turned {g : Nat} {w w' : World} {A : Option Addr} {xs : List Int} (h : RdI w A xs) (hne : ∀ b o, A = some ⟨b, o, none⟩ → b ≠ g) (ht : Turned g w w') : RdI w' A xs := by
  rcases h with h | ⟨b, o, hA, h⟩
  · exact .inl h
  · refine .inr ⟨b, o, hA, fun i x hx => ?_⟩
    obtain ⟨cs, h1, h2, h3⟩ := h i x hx
    exact ⟨cs, h1, h2, fun j v hv => ht.cell_ (hne b o hA) (h3 j v hv)⟩

/-- The spans of a list, put into numbers from place i on. -/
def copySpans (wh : List Int) (i : Nat) : List Span → List Int
  | [] => wh
  | s :: r => copySpans ((wh.set i s.lo).set (i + 1) s.hi) (i + 2) r
def firstUpto (ms : List Machine) : Nat → List Int
  | 0 => List.replicate 18 0
  | k + 1 => copySpans (firstUpto ms k) (k * 6) ((ms[k]?.map Machine.changes).getD [])
theorem copySpans_length : ∀ (l : List Span) (wh : List Int) (i : Nat), (copySpans wh i l).length = wh.length
  | [], _, _ => rfl
  | s :: r, wh, i => by rw [copySpans, copySpans_length r]; simp
theorem firstUpto_length (ms : List Machine) : ∀ k, (firstUpto ms k).length = 18
  | 0 => by simp [firstUpto]
  | k + 1 => by rw [firstUpto, copySpans_length, firstUpto_length ms k]

def stepM (c : Found) (x : Way) (m : Int) : List Way := if seeB x.when_ m.toNat c.minute c.new c.new.length = true then [⟨x.from_ ++ [m], seeUpto x.when_ m.toNat c.minute c.new c.new.length⟩] else []
def stepW (c : Found) (x : Way) : List Way := c.from_.flatMap (stepM c x)
def stepC (l : List Way) (c : Found) : List Way := l.flatMap (stepW c)
def waysUpto (ms : List Machine) (fs : List Found) : Nat → List Way
  | 0 => [⟨[], firstUpto ms ms.length⟩]
  | k + 1 => stepC (waysUpto ms fs k) (fs[k]?.getD ⟨0, [], []⟩)
def waysOf (ms : List Machine) (fs : List Found) : List Way := waysUpto ms fs fs.length

theorem stepM_length (c : Found) (x : Way) (m : Int) : (stepM c x m).length ≤ 1 := by unfold stepM; split <;> simp
theorem flatMap_length_le {α β : Type} (f : α → List β) (n : Nat) : ∀ (l : List α), (∀ x ∈ l, (f x).length ≤ n) → (l.flatMap f).length ≤ l.length * n
  | [], _ => by simp
  | a :: l, h => by
    have h1 := h a (by simp)
    have h2 := flatMap_length_le f n l (fun x hx => h x (by simp [hx]))
    rw [List.flatMap_cons, List.length_append, List.length_cons, Nat.add_mul]
    omega
theorem stepW_length (c : Found) (x : Way) (h : c.from_.length ≤ 3) : (stepW c x).length ≤ 3 := by
  have := flatMap_length_le (stepM c x) 1 c.from_ (fun m _ => stepM_length c x m)
  unfold stepW; omega
theorem stepC_length (l : List Way) (c : Found) (h : c.from_.length ≤ 3) : (stepC l c).length ≤ l.length * 3 := flatMap_length_le _ 3 l (fun x _ => stepW_length c x h)
theorem waysUpto_length (ms : List Machine) (fs : List Found) (h : ∀ c ∈ fs, c.from_.length ≤ 3) : ∀ k, (waysUpto ms fs k).length ≤ 3 ^ k
  | 0 => by simp [waysUpto]
  | k + 1 => by
    have h1 := waysUpto_length ms fs h k
    have h2 := stepC_length (waysUpto ms fs k) (fs[k]?.getD ⟨0, [], []⟩) (by
      cases hx : fs[k]? with
      | none => simp
      | some c => exact h c (List.mem_of_getElem? hx))
    rw [waysUpto, Nat.pow_succ]
    omega
theorem stepM_ok {c : Found} {x y : Way} {m : Int} (h : y ∈ stepM c x m) (hx : x.when_.length = 18) : y.when_.length = 18 ∧ y.from_.length = x.from_.length + 1 := by
  unfold stepM at h
  split at h
  · simp only [List.mem_singleton] at h
    subst h
    exact ⟨by rw [seeUpto_length]; exact hx, by simp⟩
  · cases h

/-- copy of rows whose elements have sz cells. -/
theorem run_copy_rows {P : Program} (w : World) (dT sT ty elem : TypeId) (g o dLen dCap sz : Nat) (a : Addr) (sLen sCap : Nat) (cur : Array Value) (t : TypeId) (cs : List Value)
    (hu : P.underlying dT = some (.slice elem)) (hs : (P.info? elem).map (·.size) = some sz)
    (hg : w.heap[g]? = some (.cells cur t (0, 0))) (hn : cs.length = Nat.min sLen dLen * sz)
    (hsrc : ∀ j v, cs[j]? = some v → w.cell? (a.add j) = some v) (hfit : o + cs.length ≤ cur.size) (h1 : ∀ v ∈ cs, v.oneCell' = true) :
    (Builtin.copy_ #[dT, sT] ty #[.slice (some ⟨g, o, none⟩) dLen dCap, .slice (some a) sLen sCap]).run P w =
      .ok (goInt (Nat.min sLen dLen)) (w.setRow g (cur.toList.take o ++ cs ++ cur.toList.drop (o + cs.length)).toArray) := by
  have hl := run_loadCells_list (P := P) w a cs hsrc
  have hst := run_storeCells_at P g o t cs 0 cur w hg (by simpa using hfit) h1
  cases hq : P.info? elem with
  | none => simp [hq] at hs
  | some i =>
    have hi : i.size = sz := by simpa [hq] using hs
    simp [Builtin.copy_, run_underlying hu, Builtin.lenOf, Builtin.firstCells, sizeOf, typeInfo, hq, hi, ← hn, hl, hst]
theorem step_copy_run {P : Program} {ops : Array Oper} {o : Oper} {a : Act} {w : World} {K : Act → World → Prop} {Q : Exit → Act → World → Prop} {E : Prop}
    (hg : o.guard = none) (d x : Operand) (dT sT : TypeId) (hop : o.op = Op.call { callee := Callee.builtin Builtin.copy, args := #[d, x], argTypes := #[dT, sT] })
    (v u : Value) (hd : a.eval d = v) (hx : a.eval x = u) {v' : Value} {w' : World} (hr : (Builtin.copy_ #[dT, sT] o.type #[v, u]).run P w = .ok v' w') (hK : K (a.put o.dst v') w') :
    if Region.wanted o (yielded ops a.tmps) = true then Oper.wp P o a w K Q else E := by
  have hw : Region.wanted o (yielded ops a.tmps) = true := by simp [Region.wanted, hg]
  rw [if_pos hw]
  unfold Oper.wp
  simp [execOp, hop, resolve, invoke, builtin, hd, hx, hr, Result.andThen]
  exact hK

/-- A whole value is stored into a block of as many cells. -/
theorem wpList_store_blk {P : Program} {ops : Array Oper} {rest : List Oper} {o : Oper} {a : Act} {w : World} {Q : Exit → Act → World → Prop} (hgd : o.guard = none) (ty : TypeId) (x y : Operand) (ho : o.op = .store ty x y)
    (g : Nat) (t : TypeId) (old cells : Array Value) (hx : a.eval x = .pointer (some ⟨g, 0, none⟩)) (hy : a.eval y = .agg cells) (hg : w.heap[g]? = some (.cells old t (0, 0)))
    (hi : (P.info? ty).map (·.size) = some cells.size) (hs : old.size = cells.size) (h1 : cells.all (·.oneCell') = true)
    (h : ∀ w', Turned g w w' → w'.heap[g]? = some (.cells cells t (0, 0)) → wpList P ops Q rest (a.put o.dst undef) w') : wpList P ops Q (o :: rest) a w := by
  refine wpList_plain hgd fun K hK => ?_
  unfold Oper.wp execOp
  simp only [ho, hx, hy, Instr.storeAt, Instr.sureAddr, Sem.run_bind, Sem.run_pure, Result.andThen_ok, run_storeVar_row w g t ty old cells hg hi hs h1]
  exact hK _ _ (h _ ⟨rfl, rfl, rfl, by simp [World.setRow], fun k _ hk => setRow_other w g k cells (by omega)⟩ (setRow_heap w g old cells t _ hg))

theorem copySpans_splice : ∀ (l : List Span) (wh : List Int) (i : Nat), i + l.length * 2 ≤ wh.length → copySpans wh i l = wh.take i ++ l.flatMap (fun s => [s.lo, s.hi]) ++ wh.drop (i + l.length * 2)
  | [], wh, i, _ => by simp [copySpans]
  | s :: r, wh, i, h => by
    simp only [List.length_cons] at h
    rw [copySpans, copySpans_splice r _ _ (by simp; omega)]
    have e1 : ((wh.set i s.lo).set (i + 1) s.hi).take (i + 2) = wh.take i ++ [s.lo, s.hi] := by
      apply List.ext_getElem?
      intro j
      rw [List.getElem?_take]
      by_cases hj : j < i
      · rw [if_pos (by omega), List.getElem?_set_ne (by omega), List.getElem?_set_ne (by omega), List.getElem?_append_left (by simp; omega), List.getElem?_take, if_pos hj]
      · by_cases hj2 : j < i + 2
        · rw [if_pos hj2, List.getElem?_append_right (by simp; omega)]
          have hl : (wh.take i).length = i := by simp; omega
          rw [hl]
          obtain rfl | rfl : j = i ∨ j = i + 1 := by omega
          · rw [List.getElem?_set_ne (by omega), List.getElem?_set_self (by omega)]; simp
          · rw [List.getElem?_set_self (by simp; omega)]; simp
        · rw [if_neg hj2, List.getElem?_eq_none (by simp; omega)]
    have e2 : ((wh.set i s.lo).set (i + 1) s.hi).drop (i + 2 + r.length * 2) = wh.drop (i + (s :: r).length * 2) := by
      rw [List.drop_set_of_lt (by omega), List.drop_set_of_lt (by omega)]
      congr 1
      simp only [List.length_cons]
      omega
    rw [e1, e2]
    simp
end Go.Proofs.Ytloenmikkkklhaa

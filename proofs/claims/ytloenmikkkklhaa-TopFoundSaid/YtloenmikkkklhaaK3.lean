/-
  Regions that draw their order, whose last operation (a store) waits for all others: S need not hold behind it. Rows whose lists lie in blocks of a type of their own. An append to an own row, at the operation.
-/
import Derived.Test.YtloenmikkkklhaaP16
namespace Go.Proofs.Ytloenmikkkklhaa
open Go.RowKit

section
variable {P : Program} {ops : Array Oper} {Q : Exit → Act → World → Prop} {md : Region.Mode} {S : World → Prop} {m : Nat}

/-- Whatever order is picked, and S holds behind every operation but the last, number m. -/
def LastH (P : Program) (md : Region.Mode) (ops : Array Oper) (Q : Exit → Act → World → Prop) (S : World → Prop) (m : Nat) : Nat → Array Bool → Act → World → Prop
  | 0, listed, a, w => Region.ready md ops listed = [] ∧ Q .normal a w
  | fuel + 1, listed, a, w => (Region.ready md ops listed = [] → Q .normal a w) ∧
      ∀ i ∈ Region.ready md ops listed, wpOp P ops Q i (fun a' w' => (i ≠ m → S w') ∧ LastH P md ops Q S m fuel (listed.setIfInBounds i true) a' w') a w
theorem LastH.any : ∀ (fuel : Nat) (listed : Array Bool) (a : Act) (w : World), LastH P md ops Q S m fuel listed a w → wpAny P md ops Q fuel listed a w
  | 0, _, _, _, h => h
  | fuel + 1, _, _, _, h => ⟨h.1, fun i hi => wpOp_mono (fun a' w' k => LastH.any fuel _ a' w' k.2) (h.2 i hi)⟩
/-- Number m waits for number i. -/
def waitsFor (md : Region.Mode) (ops : Array Oper) (m i : Nat) : Bool := match ops[m]? with
  | some om => om.after.any fun e => Region.binds md e && e.on == i
  | none => true
theorem not_ready_before {i : Nat} {listed : Array Bool} (hw : waitsFor md ops m i = true) (hi : i ∈ Region.ready md ops listed) : m ∉ Region.ready md ops listed := fun hm => by
  obtain ⟨_, om, ho, hall⟩ := mem_ready.1 hm
  have hi0 := (mem_ready.1 hi).1
  simp only [waitsFor, ho, Array.any_eq_true', Bool.and_eq_true, beq_iff_eq] at hw
  obtain ⟨e, he, hb, rfl⟩ := hw
  have h1 := hall e he hb
  rcases Nat.lt_or_ge e.on listed.size with h' | h'
  · simp [h'] at hi0 h1; rw [hi0] at h1; cases h1
  · simp [Array.getElem?_eq_none h'] at h1

theorem LastH.first {i : Nat} {oi : Oper} {v : Value} (hi : ops[i]? = some oi) (hsel : ∀ (j : Nat) (o : Oper) cs b, ops[j]? = some o → o.op ≠ .select cs b)
    (hQ : ∀ c a w, Q (.panic c) (a.put oi.dst v) w → Q (.panic c) a w) (hw : waitsFor md ops m i = true) :
    ∀ (fuel : Nat) (listed : Array Bool) (a : Act) (w : World),
      (∀ j oj, ops[j]? = some oj → j ≠ i → listed.getD j true = false → (∀ e ∈ oj.after, Region.binds md e = true → e.on ≠ i) → oi.apart ops oj = true) →
      i ∈ Region.ready md ops listed → YieldsIf P ops S oi v a → S w →
      LastH P md ops Q S m fuel (listed.setIfInBounds i true) (a.put oi.dst v) w → LastH P md ops Q S m (fuel + 1) listed a w
  | 0, listed, a, w, _, hr, hy, hS, H => by
    refine ⟨fun h => (by rw [h] at hr; cases hr), fun j hj => ?_⟩
    by_cases hji : j = i
    · subst hji
      exact hy.wpOp hi hS ⟨fun _ => hS, H⟩
    · have := ready_mono hj hji
      rw [H.1] at this
      cases this
  | fuel + 1, listed, a, w, hfree, hr, hy, hS, H => by
    refine ⟨fun h => (by rw [h] at hr; cases hr), fun j hj => ?_⟩
    by_cases hji : j = i
    · subst hji
      exact hy.wpOp hi hS ⟨fun _ => hS, H⟩
    · have hjm : j ≠ m := fun e => not_ready_before hw hr (e ▸ hj)
      have h1 := H.2 j (ready_mono hj hji)
      obtain ⟨hjun, oj, hoj, hall⟩ := mem_ready.1 hj
      have hnot : ∀ e ∈ oj.after, Region.binds md e = true → e.on ≠ i := fun e he hb heq => by
        have g1 := hall e he hb
        have g0 := (mem_ready.1 hr).1
        rw [heq] at g1
        rcases Nat.lt_or_ge i listed.size with h' | h'
        · simp [h'] at g0 g1; rw [g0] at g1; cases g1
        · simp [Array.getElem?_eq_none h'] at g1
      have h2 := wpOp_putIf hoj (hfree j oj hoj hji hjun hnot) (fun cs b => hsel i oi cs b hi) (fun cs b => hsel j oj cs b hoj) hQ hy h1
      have hfree' : ∀ k ok, ops[k]? = some ok → k ≠ i → (listed.setIfInBounds j true).getD k true = false →
          (∀ e ∈ ok.after, Region.binds md e = true → e.on ≠ i) → oi.apart ops ok = true := fun k ok hk hki hun hno => by
        refine hfree k ok hk hki ?_ hno
        by_cases hjk : j = k
        · subst hjk; exact hjun
        · rw [getD_set_ne true hjk] at hun; exact hun
      refine wpOp_mono (fun a' w' h3 => ⟨fun _ => h3.2.1 hjm, LastH.first hi hsel hQ hw fuel (listed.setIfInBounds j true) a' w' hfree' (ready_mono hr (Ne.symm hji)) h3.1 (h3.2.1 hjm) ?_⟩) h2
      rw [Array.setIfInBounds_comm _ _ hji]
      exact h3.2.2

theorem LastH.take {i : Nat} {oi : Oper} {v : Value} {fuel : Nat} {listed : Array Bool} {a : Act} {w : World} (hi : ops[i]? = some oi)
    (hs : Region.noSelect ops = true) (hf : Region.free md ops listed i = true) (hr : (Region.ready md ops listed).contains i = true) (hw : waitsFor md ops m i = true)
    (hQ : ∀ c a w, Q (.panic c) (a.put oi.dst v) w → Q (.panic c) a w) (hy : YieldsIf P ops S oi v a) (hS : S w)
    (h : LastH P md ops Q S m fuel (listed.setIfInBounds i true) (a.put oi.dst v) w) : LastH P md ops Q S m (fuel + 1) listed a w :=
  LastH.first hi (Region.noSelect_spec hs) hQ hw fuel listed a w (Region.free_spec hi hf) (by simpa using hr) hy hS h

def AllLast (P : Program) (md : Region.Mode) (ops : Array Oper) (Q : Exit → Act → World → Prop) (S : World → Prop) (m : Nat) (fuel : Nat) (listed : Array Bool) (a : Act) (w : World) (rs : List Nat) : Prop :=
  ∀ i ∈ rs, wpOp P ops Q i (fun a' w' => (i ≠ m → S w') ∧ LastH P md ops Q S m fuel (listed.setIfInBounds i true) a' w') a w
theorem AllLast.nil {fuel : Nat} {listed : Array Bool} {a : Act} {w : World} : AllLast P md ops Q S m fuel listed a w [] := fun _ h => by cases h
theorem AllLast.cons {fuel : Nat} {listed : Array Bool} {a : Act} {w : World} {i : Nat} {o : Oper} {rs : List Nat} (ho : ops[i]? = some o) (him : i ≠ m)
    (h : ∀ K' : Act → World → Prop, Shut (∀ a w, S w → (S w → LastH P md ops Q S m fuel (listed.setIfInBounds i true) a w) → K' a w) → if Region.wanted o (yielded ops a.tmps) = true then Oper.wp P o a w K' Q else K' (a.put o.dst undef) w)
    (hs : AllLast P md ops Q S m fuel listed a w rs) : AllLast P md ops Q S m fuel listed a w (i :: rs) := fun j hj => by
  rcases List.mem_cons.1 hj with rfl | hj
  · exact wpOp_step ho (fun K' hK => h K' (fun a w hS hW => hK a w ⟨fun _ => hS, hW hS⟩))
  · exact hs j hj
theorem AllLast.last {fuel : Nat} {listed : Array Bool} {a : Act} {w : World} {o : Oper} (ho : ops[m]? = some o)
    (h : ∀ K' : Act → World → Prop, Shut (∀ a w, LastH P md ops Q S m fuel (listed.setIfInBounds m true) a w → K' a w) → if Region.wanted o (yielded ops a.tmps) = true then Oper.wp P o a w K' Q else K' (a.put o.dst undef) w) :
    AllLast P md ops Q S m fuel listed a w [m] := fun j hj => by
  obtain rfl : j = m := by simpa using hj
  exact wpOp_step ho (fun K' hK => h K' (fun a w hW => hK a w ⟨fun e => absurd rfl e, hW⟩))
theorem LastH.ready {rs : List Nat} {fuel : Nat} {listed : Array Bool} {a : Act} {w : World} (hr : Region.ready md ops listed = rs) (hne : rs ≠ [])
    (h : AllLast P md ops Q S m fuel listed a w rs) : LastH P md ops Q S m (fuel + 1) listed a w := ⟨fun h0 => absurd (hr ▸ h0) hne, hr ▸ h⟩
theorem LastH.done {listed : Array Bool} {a : Act} {w : World} (hr : Region.ready md ops listed = []) (h : Q .normal a w) : ∀ fuel, LastH P md ops Q S m fuel listed a w
  | 0 => ⟨hr, h⟩
  | _ + 1 => ⟨fun _ => h, by rw [hr]; simp⟩
/-- The beginning. -/
theorem wp_region_last {id : Nat} {a : Act} {w : World} (m : Nat) (hm : P.follows .mixedOrders = true) (hS : S w.drew)
    (h : S w.drew → LastH P .any ops Q S m ops.size (Array.replicate ops.size false) a w.drew) : (Code.region id ops true).wp P Q a w :=
  wp_region_any hm (LastH.any _ _ _ _ (h hS))
end

/-- An append to an own row, at the operation. -/
theorem wp_append_at {P : Program} {w : World} {o : Oper} {a : Act} {K : Act → World → Prop} {Q : Exit → Act → World → Prop} (s x : Operand) (t : TypeId)
    (ho : o.op = .call { callee := .builtin .append, args := #[s, x], argTypes := #[t, t] })
    (base : Nat) (e : TypeId) (i : TypeInfo) (z : Value) (size bytes : Nat) (ht : P.underlying t = some (.slice e)) (hi : P.info? e = some i) (hz : i.zero = some z)
    (hsize : i.size = size) (hby : i.bytes = bytes) (hzs : z.cells.size = size) (hsz : 0 < size)
    (v : Value) (n : Nat) (xs : List Value) (hs : a.eval s = v) (hown : w.ownsRow base e size v n xs)
    (ad : Addr) (m c : Nat) (news : List Value) (hx : a.eval x = .slice (some ad) m c) (hl : news.length = m * size) (hnews : ∀ j u, news[j]? = some u → w.cell? (ad.add j) = some u) (h1 : ∀ u ∈ news, u.oneCell' = true)
    (h63 : n + m ≤ maxLen) (hbytes : (n + m) * bytes ≤ 140737488355328) (hbase : base ≤ w.heap.size)
    (h : ∀ v' w', w'.ownsRow base e size v' (n + m) (xs ++ news) → w.grownBy w' v.ownBlock → (v'.ownBlock = v.ownBlock ∨ v'.ownBlock = some w.heap.size) → K (a.put o.dst v') w') :
    o.wp P a w K Q := by
  obtain ⟨v', w', hr, h2, h3, _, h5⟩ := run_append_own_at (P := P) w base t o.type e i z size bytes ht hi hz hsize hby hzs hsz v n xs hown ad m c news hl hnews h1 h63 hbytes hbase
  unfold Oper.wp execOp
  simp only [ho, resolve, invoke, builtin, Sem.run_bind, Sem.run_pure, Result.andThen_ok, List.map_toArray, List.map_cons, List.map_nil, hs, hx, hr]
  exact h v' w' h2 h3 h5

/-- Where a list lies: nowhere, or in a block of cells of a type. -/
def TyAt (e : TypeId) (w : World) (A : Option Addr) : Prop := A = none ∨ ∃ b o cs fr, A = some ⟨b, o, none⟩ ∧ w.heap[b]? = some (.cells cs e fr)
theorem TyAt.ext {e : TypeId} {w w' : World} {A : Option Addr} (h : TyAt e w A) (he : Ext w w') : TyAt e w' A := by
  rcases h with h | ⟨b, o, cs, fr, h1, h2⟩
  · exact .inl h
  · exact .inr ⟨b, o, cs, fr, h1, he.heap h2⟩
/-- An own row of another type grows: the block stays. -/
theorem TyAt.keep {e f : TypeId} (hef : e ≠ f) {w w1 : World} {A : Option Addr} {base size n : Nat} {v : Value} {xs : List Value} (h : TyAt e w A) (ho : w.ownsRow base f size v n xs) (hg : w.grownBy w1 v.ownBlock) :
    A = none ∨ ∃ b o cs fr, A = some ⟨b, o, none⟩ ∧ w.heap[b]? = some (.cells cs e fr) ∧ w1.heap[b]? = w.heap[b]? := by
  rcases h with h | ⟨b, o, cs, fr, h1, h2⟩
  · exact .inl h
  · refine .inr ⟨b, o, cs, fr, h1, h2, hg.block b (Array.getElem?_eq_some_iff.1 h2).1 ?_⟩
    obtain ⟨_, h6⟩ := ho
    rcases h6 with ⟨rfl, _⟩ | ⟨g, cap, cur, rfl, _, hh, _⟩
    · intro e; cases e
    · intro e
      cases e
      rw [h2] at hh
      exact hef (Obj.cells.inj (Option.some.inj hh)).2.1
theorem TyAt.grown {e f : TypeId} (hef : e ≠ f) {w w1 : World} {A : Option Addr} {base size n : Nat} {v : Value} {xs : List Value} (h : TyAt e w A) (ho : w.ownsRow base f size v n xs) (hg : w.grownBy w1 v.ownBlock) : TyAt e w1 A := by
  rcases h.keep hef ho hg with h | ⟨b, o, cs, fr, h1, h2, h3⟩
  · exact .inl h
  · exact .inr ⟨b, o, cs, fr, h1, h3.trans h2⟩
theorem RdL.grown {α : Type} {enc : α → List Value} {sz : Nat} {e f : TypeId} (hef : e ≠ f) {w w1 : World} {A : Option Addr} {ys : List α} {base size n : Nat} {v : Value} {xs : List Value} (hr : RdL (Plain enc) sz w A ys) (h : TyAt e w A) (ho : w.ownsRow base f size v n xs) (hg : w.grownBy w1 v.ownBlock) :
    RdL (Plain enc) sz w1 A ys := by
  rcases hr with hr | ⟨b, o, hA, hr⟩
  · exact .inl hr
  · rcases h.keep hef ho hg with h | ⟨b', o', cs, fr, h1, h2, h3⟩
    · rw [h] at hA; cases hA
    · subst hA
      cases h1
      refine .inr ⟨b, o, rfl, fun i x hx => ?_⟩
      obtain ⟨ds, q1, q2, q3⟩ := hr i x hx
      exact ⟨ds, q1, q2, fun j u hu => (World.cell?_of_block h3).trans (q3 j u hu)⟩

/-- A machine, a copy that was found, whose lists lie in blocks of their own types. -/
def RMachT (w : World) (x : Machine) (cs : List Value) : Prop := ∃ A c, cs = [.slice A x.changes.length c, .int .i64 x.rate] ∧ x.changes.length ≤ c ∧ RdS w A x.changes ∧ TyAt 48 w A
def RFoundT (w : World) (x : Found) (cs : List Value) : Prop := ∃ A c B d, cs = [.int .i64 x.minute, .slice A x.new.length c, .slice B x.from_.length d] ∧ x.new.length ≤ c ∧ x.from_.length ≤ d ∧ RdI w A x.new ∧ RdI w B x.from_ ∧ TyAt 3 w A ∧ TyAt 3 w B
theorem RMachT.ext {w w' : World} (he : Ext w w') (x : Machine) (cs : List Value) (h : RMachT w x cs) : RMachT w' x cs := by
  obtain ⟨A, c, h1, h2, h3, h4⟩ := h
  exact ⟨A, c, h1, h2, h3.ext he, h4.ext he⟩
theorem RFoundT.ext {w w' : World} (he : Ext w w') (x : Found) (cs : List Value) (h : RFoundT w x cs) : RFoundT w' x cs := by
  obtain ⟨A, c, B, d, h1, h2, h3, h4, h5, h6, h7⟩ := h
  exact ⟨A, c, B, d, h1, h2, h3, h4.ext he, h5.ext he, h6.ext he, h7.ext he⟩
theorem RMachT.grown {w w1 : World} {base n : Nat} {v : Value} {xs : List Value} (ho : w.ownsRow base 44 2 v n xs) (hg : w.grownBy w1 v.ownBlock) (x : Machine) (cs : List Value) (h : RMachT w x cs) : RMachT w1 x cs := by
  obtain ⟨A, c, h1, h2, h3, h4⟩ := h
  exact ⟨A, c, h1, h2, RdL.grown (by decide) h3 h4 ho hg, h4.grown (by decide) ho hg⟩
theorem RFoundT.grown {w w1 : World} {base n : Nat} {v : Value} {xs : List Value} (ho : w.ownsRow base 50 3 v n xs) (hg : w.grownBy w1 v.ownBlock) (x : Found) (cs : List Value) (h : RFoundT w x cs) : RFoundT w1 x cs := by
  obtain ⟨A, c, B, d, h1, h2, h3, h4, h5, h6, h7⟩ := h
  exact ⟨A, c, B, d, h1, h2, h3, RdL.grown (by decide) h4 h6 ho hg, RdL.grown (by decide) h5 h7 ho hg, h6.grown (by decide) ho hg, h7.grown (by decide) ho hg⟩
/-- The growing of a row of machines leaves the copies that were found as they were, and the other way. -/
theorem RMachT.plain {w : World} (x : Machine) (cs : List Value) (h : RMachT w x cs) : RMach w x cs := by
  obtain ⟨A, c, h1, h2, h3, _⟩ := h
  exact ⟨A, c, h1, h2, h3⟩
theorem RFoundT.plain {w : World} (x : Found) (cs : List Value) (h : RFoundT w x cs) : RFound w x cs := by
  obtain ⟨A, c, B, d, h1, h2, h3, h4, h5, _⟩ := h
  exact ⟨A, c, B, d, h1, h2, h3, h4, h5⟩
end Go.Proofs.Ytloenmikkkklhaa

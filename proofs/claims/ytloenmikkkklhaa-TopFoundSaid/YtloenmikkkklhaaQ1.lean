/-
  TopFound answers true for every house, every list of plates, every change and every rate, and each argument reads behind the call as it read before.
  No condition: neither on the sizes nor on the values.
-/
import Derived.Test.YtloenmikkkklhaaRows
import Derived.Test.YtloenmikkkklhaaW1
import Derived.ProofKit
import Derived.Carry
import Derived.Lib.SmallJoins
import Derived.Deep.Slices
import Derived.Deep.Fields
namespace Go.Proofs.Ytloenmikkkklhaa
open Go.ChangeShapes Go.WideShapes Go.ChangeAt Go.RowKit Go.Joins Go.Deep

theorem Try.own : ownKnob Try.prog.godebug = none := by kernel_rfl
theorem Try.laidOut : laidOutB Try.prog = true := by kernel_rfl
theorem Try.cellsHouse : Try.prog.cellsOf 25 = 2 := by kernel_rfl
theorem Try.cellsShown : Try.prog.cellsOf 28 = 2 := by kernel_rfl
theorem Try.cellsThing : Try.prog.cellsOf 37 = 4 := by kernel_rfl
theorem Try.cellsMark : Try.prog.cellsOf 68 = 3 := by kernel_rfl
theorem Try.cellsInt : Try.prog.cellsOf 3 = 1 := by kernel_rfl

section
variable {H : Type} {enc : TypeId × Value → H} {P : Program} {w : World} {base : Nat} {spare : Nat → Bool} {held : Bool}
/-- A slice of structs whose fields are all ints: every field of every element is a cell that holds a number. -/
theorem open_int_structs {t e : TypeId} {fs : Array Field} {fuel : Nat} {cs : List Value} {x : DataW H × List MemPlace} (ht : P.underlying t = some (.slice e)) (he : P.underlying e = some (.struct fs))
    (hone : oneCellFields P fs = true) (hC : P.cellsOf e = fs.size) (hint : ∀ (j : Nat) (f : Field), fs[j]? = some f → P.underlying f.type = some (.int .i64)) (h : DataW.trod enc P w base spare held fuel t cs = some x) :
    cs = [.slice none 0 0] ∨
    ∃ (a : Addr) (len cap : Nat) (F : Nat → Nat → Int), cs = [.slice (some a) len cap] ∧ len ≤ maxLen ∧ ∀ i, i < len → ∀ j, j < fs.size → w.cell? (a.add (i * fs.size + j)) = some (.int .i64 (F i j)) := by
  rcases open_slice ht h with ⟨hcs, _⟩ | ⟨a, len, cap, m, n, D, Pl, hcs, _, hl, hm, hmm, _, hi⟩
  · exact .inl hcs
  · have hlm : len ≤ m := by rw [hmm]; split <;> omega
    have key : ∀ i j, i < len → j < fs.size → ∃ z : Int, w.cell? (a.add (i * fs.size + j)) = some (.int .i64 z) := fun i j hil hj => by
      obtain ⟨cs', hc, ht'⟩ := hi i (by omega)
      rw [hC] at hc
      obtain ⟨xs, n', _, _, _, hxl, hf⟩ := DataW.trod_struct he ht'
      obtain ⟨_, hcl, hat⟩ := World.cells?_some hc
      have hfj : fs[j]? = some fs[j] := Array.getElem?_eq_getElem hj
      obtain ⟨ho, hk⟩ := hone_of hone j _ hfj
      have h1 := hf j _ hfj
      rw [ho, hk, List.getElem?_eq_getElem (show j < xs.length by omega)] at h1
      have h2 : (cs'.drop j).take 1 = [cs'[j]'(by omega)] := by
        rw [List.drop_eq_getElem_cons (by omega)]
        rfl
      rw [h2] at h1
      obtain ⟨z, hz, _⟩ := DataW.trod_int (hint j _ hfj) h1
      have hcell := hat j hj
      rw [List.getElem?_eq_getElem (show j < cs'.length by omega)] at hcell
      simp only [List.cons.injEq, and_true] at hz
      exact ⟨z, by rw [← Go.Deep.add_add, hcell, hz]⟩
    classical
    refine .inr ⟨a, len, cap, fun i j => if hh : i < len ∧ j < fs.size then Classical.choose (key i j hh.1 hh.2) else 0, hcs, by omega, fun i hil j hj => ?_⟩
    simp only [dif_pos (And.intro hil hj)]
    exact Classical.choose_spec (key i j hil hj)
end

theorem maxLen_int {n : Nat} (h : n ≤ maxLen) : (n : Int) ≤ 9223372036854775807 := by unfold maxLen at h; omega

theorem addr_at (b off i sz j : Nat) : (⟨b, off + i * sz + j, none⟩ : Addr) = (⟨b, off, none⟩ : Addr).add (i * sz + j) := by
  rw [Nat.add_assoc]
  generalize i * sz + j = k
  by_cases h : k = 0
  · subst h; simp [Addr.add]
  · simp [Addr.add, h]
/-- From cells to a reading: a row of records of sz numbers. -/
theorem rd_of_cells {α : Type} {w : World} {a : Addr} {len sz : Nat} (hsz : 0 < sz) (F : Nat → Nat → Int) (mk : (Nat → Int) → α) (enc : α → List Value)
    (henc : ∀ g, (enc (mk g)).length = sz ∧ ∀ (j : Nat) (v : Value), (enc (mk g))[j]? = some v → v = .int .i64 (g j))
    (h : ∀ i, i < len → ∀ j, j < sz → w.cell? (a.add (i * sz + j)) = some (.int .i64 (F i j))) :
    RdL (Plain enc) sz w (some a) ((List.range len).map fun i => mk (F i)) := by
  by_cases h0 : len = 0
  · subst h0; exact .inl rfl
  · obtain ⟨b, off, spot⟩ := a
    have hs : spot = none := by simpa [Addr.add] using World.cell?_spot (h 0 (by omega) 0 hsz)
    subst hs
    refine .inr ⟨b, off, rfl, fun i x hx => ?_⟩
    have hil : i < len := by
      have := (List.getElem?_eq_some_iff.1 hx).1
      simpa using this
    have hxe : x = mk (F i) := by
      rw [List.getElem?_map, List.getElem?_range hil] at hx
      simpa using hx.symm
    subst hxe
    obtain ⟨e1, e2⟩ := henc (F i)
    refine ⟨enc (mk (F i)), rfl, e1, fun j v hv => ?_⟩
    have hj : j < sz := by
      have := (List.getElem?_eq_some_iff.1 hv).1
      omega
    have := h i hil j hj
    rw [e2 j v hv, ← this]
    exact congrArg w.cell? (addr_at b off i sz j)

theorem thing_enc (g : Nat → Int) : (encT ⟨g 0, g 1, g 2, g 3⟩).length = 4 ∧ ∀ (j : Nat) (v : Value), (encT ⟨g 0, g 1, g 2, g 3⟩)[j]? = some v → v = .int .i64 (g j) := by
  refine ⟨rfl, fun j v hv => ?_⟩
  match j, hv with
  | 0, hv => simpa [encT] using hv.symm
  | 1, hv => simpa [encT] using hv.symm
  | 2, hv => simpa [encT] using hv.symm
  | 3, hv => simpa [encT] using hv.symm
  | j + 4, hv => simp [encT] at hv
theorem mark_enc (g : Nat → Int) : (encM ⟨g 0, g 1, g 2⟩).length = 3 ∧ ∀ (j : Nat) (v : Value), (encM ⟨g 0, g 1, g 2⟩)[j]? = some v → v = .int .i64 (g j) := by
  refine ⟨rfl, fun j v hv => ?_⟩
  match j, hv with
  | 0, hv => simpa [encM] using hv.symm
  | 1, hv => simpa [encM] using hv.symm
  | 2, hv => simpa [encM] using hv.symm
  | j + 3, hv => simp [encM] at hv

section
variable {H : Type} {enc : TypeId × Value → H} {w : World} {base : Nat} {spare : Nat → Bool} {held : Bool}
theorem open_things {fuel : Nat} {v : Value} {x : DataW H × List MemPlace} (h : DataW.trod enc Try.prog w base spare held fuel 22 [v] = some x) :
    ∃ (A : Option Addr) (th : List Thing) (c : Nat), v = .slice A th.length c ∧ (th.length : Int) ≤ 9223372036854775807 ∧ RdT w A th := by
  rcases open_int_structs Try.underlying22 Try.underlying37 (by kernel_rfl) Try.cellsThing (fun j f hf => by
      match j, hf with
      | 0, hf => simp at hf; subst hf; exact Try.underlying3
      | 1, hf => simp at hf; subst hf; exact Try.underlying3
      | 2, hf => simp at hf; subst hf; exact Try.underlying3
      | 3, hf => simp at hf; subst hf; exact Try.underlying3
      | j + 4, hf => simp at hf) h with hcs | ⟨a, len, cap, F, hcs, hm, hc⟩
  · simp only [List.cons.injEq, and_true] at hcs
    exact ⟨none, [], 0, hcs, by simp, .inl rfl⟩
  · simp only [List.cons.injEq, and_true] at hcs
    refine ⟨some a, (List.range len).map fun i => ⟨F i 0, F i 1, F i 2, F i 3⟩, cap, by rw [hcs]; simp, by simpa using maxLen_int hm, ?_⟩
    exact rd_of_cells (by omega) F (fun g => (⟨g 0, g 1, g 2, g 3⟩ : Thing)) encT thing_enc hc
theorem open_marks {fuel : Nat} {v : Value} {x : DataW H × List MemPlace} (h : DataW.trod enc Try.prog w base spare held fuel 23 [v] = some x) :
    ∃ (A : Option Addr) (mk : List Mark) (c : Nat), v = .slice A mk.length c ∧ (mk.length : Int) ≤ 9223372036854775807 ∧ RdM w A mk := by
  rcases open_int_structs Try.underlying23 Try.underlying68 (by kernel_rfl) Try.cellsMark (fun j f hf => by
      match j, hf with
      | 0, hf => simp at hf; subst hf; exact Try.underlying3
      | 1, hf => simp at hf; subst hf; exact Try.underlying3
      | 2, hf => simp at hf; subst hf; exact Try.underlying3
      | j + 3, hf => simp at hf) h with hcs | ⟨a, len, cap, F, hcs, hm, hc⟩
  · simp only [List.cons.injEq, and_true] at hcs
    exact ⟨none, [], 0, hcs, by simp, .inl rfl⟩
  · simp only [List.cons.injEq, and_true] at hcs
    refine ⟨some a, (List.range len).map fun i => ⟨F i 0, F i 1, F i 2⟩, cap, by rw [hcs]; simp, by simpa using maxLen_int hm, ?_⟩
    exact rd_of_cells (by omega) F (fun g => (⟨g 0, g 1, g 2⟩ : Mark)) encM mark_enc hc
theorem open_plates {fuel : Nat} {v : Value} {x : DataW H × List MemPlace} (h : DataW.trod enc Try.prog w base spare held fuel 26 [v] = some x) :
    ∃ (A : Option Addr) (xs : List Int) (c : Nat), v = .slice A xs.length c ∧ (xs.length : Int) ≤ 9223372036854775807 ∧ RdI w A xs := by
  rcases open_ints Try.underlying26 Try.underlying3 Try.cellsInt h with ⟨hcs, _⟩ | ⟨a, len, cap, zs, hcs, _, hl, hm, hz, _, hc, _⟩
  · simp only [List.cons.injEq, and_true] at hcs
    exact ⟨none, [], 0, hcs, by simp, .inl rfl⟩
  · simp only [List.cons.injEq, and_true] at hcs
    have hlz : len ≤ zs.length := by rw [hz]; split <;> omega
    refine ⟨some a, (List.range len).map fun i => zs.getD i 0, cap, by rw [hcs]; simp, by simpa using maxLen_int (show len ≤ maxLen by omega), ?_⟩
    refine rd_of_cells (sz := 1) (by omega) (fun i _ => zs.getD i 0) (fun g => g 0) encI (fun g => ⟨rfl, fun j v hv => ?_⟩) (fun i hi j hj => ?_)
    · match j, hv with
      | 0, hv => simpa [encI] using hv.symm
      | j + 1, hv => simp [encI] at hv
    · obtain rfl : j = 0 := by omega
      have := hc i (by omega)
      simpa using this
end

set_option maxRecDepth 100000 in
set_option maxHeartbeats 4000000 in
theorem topFound_lifted (os : Os) (started : os.Started) (H : Type) (enc : TypeId × Value → H) :
    ReturnsInHanded {} Try.checked os 3 .any (Rows.topFoundSpec.pre6 enc Try.prog Try.f3 Rows.topFoundRow.domain false) (Rows.topFoundSpec.post enc Try.prog Try.f3 false true false false) := by
  refine returnsInHanded_of_change (C := Try.checked) Try.own started (by kernel_rfl) Try.func3
    (ChangeSpec.witness6 (enc := enc) (C := Try.checked) false ⟨#[], #[.agg #[.slice none 0 0, .slice none 0 0], .slice none 0 0, .agg #[.int .i64 0, .int .i64 0]], []⟩ 8 (by kernel_rfl) (by kernel_rfl) (by kernel_rfl) (by kernel_rfl)) ?_
  intro W base args ds gs before hval0 hW hcnd _
  have hval : ∀ (j : Nat) t v, Try.f3.params[j]? = some t → args[j]? = some v → Value.okWide Try.prog W .any base t v := hval0
  have hW' := hW
  obtain ⟨p, q, hA0, hV, rfl, hfz, hnd⟩ := hW
  have hA : DataW.TrodAll enc Try.prog W 0 (fun _ => true) true Try.f3.params.toList args.toList ds p := hA0
  rw [Try.params3] at hA hval
  obtain ⟨v0, v1, v2, d0, d1, d2, p0, p1, p2, rfl, rfl, rfl, h0, h1, h2⟩ := trodAll_three hA
  obtain ⟨rfl, rfl⟩ := trodVars_none hV
  have h0k := h0
  have h1k := h1
  have h2k := h2
  clear hA0 hval0
  simp only [List.append_nil] at hW'
  have hl0 : ∀ x ∈ p0, x.block < W.heap.size := fun x hx => hW'.lt x (by simp [hx])
  have hl1 : ∀ x ∈ p1, x.block < W.heap.size := fun x hx => hW'.lt x (by simp [hx])
  have hl2 : ∀ x ∈ p2, x.block < W.heap.size := fun x hx => hW'.lt x (by simp [hx])
  obtain ⟨c0, c1, y0, y1, m, rfl, rfl, rfl, hy0, hy1⟩ := open_agg2 Try.underlying25 (by kernel_rfl) Try.cellsHouse (hval 0 25 v0 rfl rfl) h0
  obtain ⟨A, th, cm, rfl, hm, hRT⟩ := open_things hy0
  obtain ⟨B, mk, ck, rfl, hm2, hRM⟩ := open_marks hy1
  obtain ⟨a0, len, cap, rfl⟩ := okWide_slice Try.underlying26 (hval 1 26 v1 rfl rfl)
  obtain ⟨fuel, hf⟩ := h1
  obtain ⟨C, plates, cp, hv1, hm3, hRI⟩ := open_plates hf
  obtain ⟨e0, e1, z0, z1, m', rfl, rfl, rfl, hz0, hz1⟩ := open_agg2 Try.underlying28 (by kernel_rfl) Try.cellsShown (hval 2 28 v2 rfl rfl) h2
  obtain ⟨change, f0, _, _⟩ := DataW.trod_int Try.underlying3 hz0
  obtain ⟨rate, f1, _, _⟩ := DataW.trod_int Try.underlying3 hz1
  simp only [List.cons.injEq, and_true] at f0 f1
  subst f0
  subst f1
  simp only [Value.slice.injEq] at hv1
  obtain ⟨rfl, rfl, rfl⟩ := hv1
  refine (topFoundR A B a0 th mk plates cm ck cap change rate W hm hm2 hm3 hRT hRM hRI).mono fun e W' ⟨he, hw⟩ => ?_
  subst he
  exact ⟨_, rfl, ⟨_, _, _, [], _, [], hW', trodAll_mk1 (shut_bool Try.underlying4 true), trodAll_mk3 (Below.trod Try.laidOut (by kernel_rfl) (of_decide_eq_true (by kernel_rfl)) h0k hw hl0) (Below.trod Try.laidOut (by kernel_rfl) (of_decide_eq_true (by kernel_rfl)) h1k hw hl1) (Below.trod Try.laidOut (by kernel_rfl) (of_decide_eq_true (by kernel_rfl)) h2k hw hl2), rfl, hw.frame _, fun h => by cases h⟩⟩

/-- The theorem of the copies that tell all: the given statement. -/
theorem topFound_holds : Rows.TopFoundSaid :=
  OpenClaim.holds_of_wide 3 Try.f3 rfl rfl rfl rfl rfl rfl rfl ⟨rfl, rfl, rfl, rfl, rfl⟩ rfl rfl rfl rfl rfl (by kernel_rfl) Try.func3 (by kernel_rfl)
    (of_decide_eq_true (by kernel_rfl)) (by unfold Func.isWrapper; rw [if_neg (of_decide_eq_false (by kernel_rfl))]; exact ⟨rfl, rfl⟩)
    (fun os started H enc _ => topFound_lifted os started H enc)

end Go.Proofs.Ytloenmikkkklhaa

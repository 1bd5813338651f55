/-
  TopFound's fourth loop: of each minute of the run the house is asked whether the plates mix.
-/
import Derived.Test.YtloenmikkkklhaaL3
import Derived.Test.YtloenmikkkklhaaR1
import Derived.Test.YtloenmikkkklhaaC7
import Derived.Test.YtloenmikkkklhaaK7
import Derived.Deep.RegionHeld3
namespace Go.Proofs.Ytloenmikkkklhaa
open Go.RowKit

/-- The loops of a code, in the order of the text. -/
def loopsOf : Code → List Code
  | .loop c => .loop c :: loopsOf c
  | .seq a b => loopsOf a ++ loopsOf b
  | .block _ c => loopsOf c
  | .scope c => loopsOf c
  | .cond _ a b => loopsOf a ++ loopsOf b
  | _ => []
/-- The loop of a number. -/
noncomputable def loopNo (n : Nat) : Code := (loopsOf ((Try.f3).body.getD .skip)).getD n .skip

/-- Behind the minute at which all plates are there. -/
theorem platesAt {th : List Thing} {mk : List Mark} {plates : List Int} {first m : Int} (hc : chkHouse th mk = true) (hf : firstOf th plates plates.length = first) (hp : platesUpto th plates 99 plates.length) (hm : first ≤ m) : platesUpto th plates m plates.length := by
  have key : ∀ n, n ≤ plates.length → platesUpto th plates m n := by
    intro n
    induction n with
    | zero => intro _; trivial
    | succ n ih =>
      intro hn
      obtain ⟨j, hx, ⟨t, ht, h1, _⟩, h3⟩ := platesUpto_lt hp (show n < plates.length by omega)
      refine ⟨ih (by omega), j, hx, ⟨t, ht, h1, ?_⟩, h3⟩
      have hmono : ∀ a b, a ≤ b → firstOf th plates a ≤ firstOf th plates b := by
        intro a b hab
        induction b with
        | zero => have : a = 0 := by omega
                  subst this; exact Int.le_refl _
        | succ b ihb =>
          by_cases e : a = b + 1
          · subst e; exact Int.le_refl _
          · have := ihb (by omega)
            simp only [firstOf]
            omega
      have h4 := hmono (n + 1) plates.length hn
      have h5 : plates.getD n 0 = (j : Int) := by rw [List.getD_eq_getElem?_getD, hx]; rfl
      have h6 : thAt th (plates.getD n 0) = t.at_ := by rw [h5]; simp [thAt, ht]
      simp only [firstOf] at h4
      omega
  exact key _ (Nat.le_refl _)

theorem minutesUpto_in (ats : List Int) : ∀ k : Nat, 0 ≤ minutesUpto ats k ∧ minutesUpto ats k ≤ k
  | 0 => by simp [minutesUpto]
  | k + 1 => by
    have := minutesUpto_in ats k
    simp only [minutesUpto]
    split <;> omega
theorem mixedList_le (th : List Thing) (mk : List Mark) (plates : List Int) (m : Int) : ((mixedList th mk plates m 3).length : Int) ≤ 3 := by
  have := mixedList_length th mk plates m 3
  omega

attribute [local irreducible] inB in
set_option maxRecDepth 1000000 in
set_option maxHeartbeats 40000000 in
theorem loop4R {Q : Exit → Act → World → Prop} {z0 z2 z4 z6 z8 z10 z11 z12 z13 z14 z15 z16 z17 z18 z21 z22 z23 z24 z25 z26 z27 z28 z29 z30 z31 z32 z33 z34 z35 z36 z37 z38 z39 z40 z41 z42 z43 z44 z45 z46 z47 z48 z49 z50 z51 z52 z53 z54 z55 z56 z57 z58 z59 z60 z61 z62 z63 z64 z65 z66 z67 z68 z69 z70 z71 z72 z73 z74 z75 z76 z77 z78 z79 z80 z81 z82 z83 z84 z85 z86 z87 z88 z89 z90 z91 z92 z93 z94 z95 z96 z97 z98 z99 z100 z101 z102 z103 z104 z105 z106 z107 z108 z109 z110 z111 z112 z113 z114 z115 z116 z117 z118 z119 z120 z121 z122 z123 z124 z125 z126 z127 z128 z129 z130 z131 z132 z133 z134 z135 z136 z137 z138 z139 z140 z141 z142 z143 z144 z145 z146 z147 z148 z149 z150 z151 z152 z153 z154 z155 z156 z157 z158 z159 z160 z161 z162 z163 z164 z165 z166 z167 z168 z169 z170 z171 z172 z173 z174 z175 z176 z177 z178 z179 z180 z181 z182 z183 z184 z185 z186 z187 z188 z189 z190 z191 z192 z193 z194 z195 z196 z197 z198 z199 z200 z201 z202 z203 z204 z205 z206 z207 z208 z209 z210 z211 z212 z213 z214 z215 z216 z217 z218 z219 z220 z221 z222 z223 z224 z225 z226 z227 z228 z229 z230 z231 z232 z233 z234 z235 z236 z237 z238 z239 z240 z241 z242 z243 z244 z245 z246 z247 z248 z249 z250 z251 z252 z253 z254 z255 z256 z257 z258 z259 z260 z261 z262 z263 z264 z265 z266 z267 z268 z269 z270 z271 z272 z273 z274 z275 z276 z277 z278 z279 z280 z281 z282 z283 z284 z285 z286 z287 z288 z289 z290 z291 z292 z293 z294 z295 z296 z297 z298 z299 z300 z301 z302 z303 z304 z305 z306 z307 z308 z309 z310 z311 z312 z313 z314 z315 z316 z317 z318 z319 z320 z321 z322 z323 z324 z325 z326 z327 z328 z329 z330 z331 z332 z333 z334 z335 z336 z337 z338 z339 z340 z341 z342 z343 z344 z345 z346 z347 z348 z349 z350 z351 z352 z353 z354 z355 z356 z357 z358 z359 z360 z361 z362 z363 z364 z365 z366 z367 z368 z369 z370 z371 z372 z373 z374 : Value}
    (A B C : Option Addr) (th : List Thing) (mk : List Mark) (plates ats : List Int) (cm ck cp : Nat) (change first last : Int) (p0 px ob : Nat) (w : World)
    (hm2 : (mk.length : Int) ≤ 9223372036854775807) (hm3 : (plates.length : Int) ≤ 9223372036854775807) (hA : RdT w A th) (hB : RdM w B mk) (hC : RdI w C plates)
    (hch : chkHouse th mk = true) (hfi : firstOf th plates plates.length = first) (hpu : platesUpto th plates 99 plates.length) (hats : atsOf th mk change first last plates = ats)
    (hn : 1 ≤ plates.length ∧ plates.length ≤ 3) (hf : 0 ≤ first ∧ first ≤ 99) (hl : 1 ≤ last ∧ last ≤ 30 ∧ last ≤ 100 - first) (hc1 : inB change 0 2 = true)
    (r0 : w.cell? ⟨p0, 0, none⟩ = some (.slice A th.length cm)) (r1 : w.cell? ⟨p0, 1, none⟩ = some (.slice B mk.length ck)) (s0 : w.cell? ⟨px, 0, none⟩ = some (.int .i64 change)) (o1 : w.cell? ⟨ob, 1, none⟩ = some (.int .i64 last))
    (hexit : ∀ (w' : World) (k : Nat) (n6 n21 n22 n190 n191 n192 n193 n194 n195 n196 n197 n198 n199 n200 n201 n202 n203 n204 n205 n206 n207 n208 n209 n210 n211 n212 n213 n214 n215 n216 n217 n218 n219 : Value), (k : Int) = last → Ext w w' → Q (.exit 6) ⟨(z0 :: .slice C plates.length cp :: z2 :: .pointer (some ⟨p0, 0, none⟩) :: z4 :: .pointer (some ⟨px, 0, none⟩) :: n6 :: .int .i64 first :: z8 :: .pointer (some ⟨ob, 0, none⟩) :: z10 :: z11 :: z12 :: z13 :: z14 :: z15 :: z16 :: z17 :: z18 :: .int .i64 (minutesUpto ats k) :: .int .i64 k :: n21 :: n22 :: z23 :: z24 :: z25 :: z26 :: z27 :: z28 :: z29 :: z30 :: z31 :: z32 :: z33 :: z34 :: z35 :: z36 :: z37 :: z38 :: z39 :: z40 :: z41 :: z42 :: z43 :: z44 :: z45 :: z46 :: z47 :: z48 :: z49 :: z50 :: z51 :: z52 :: z53 :: z54 :: z55 :: z56 :: z57 :: z58 :: z59 :: z60 :: z61 :: z62 :: z63 :: z64 :: z65 :: z66 :: z67 :: z68 :: z69 :: z70 :: z71 :: z72 :: z73 :: z74 :: z75 :: z76 :: z77 :: z78 :: z79 :: z80 :: z81 :: z82 :: z83 :: z84 :: z85 :: z86 :: z87 :: z88 :: z89 :: z90 :: z91 :: z92 :: z93 :: z94 :: z95 :: z96 :: z97 :: z98 :: z99 :: z100 :: z101 :: z102 :: z103 :: z104 :: z105 :: z106 :: z107 :: z108 :: z109 :: z110 :: z111 :: z112 :: z113 :: z114 :: z115 :: z116 :: z117 :: z118 :: z119 :: z120 :: z121 :: z122 :: z123 :: z124 :: z125 :: z126 :: z127 :: z128 :: z129 :: z130 :: z131 :: z132 :: z133 :: z134 :: z135 :: z136 :: z137 :: z138 :: z139 :: z140 :: z141 :: z142 :: z143 :: z144 :: z145 :: z146 :: z147 :: z148 :: z149 :: z150 :: z151 :: z152 :: z153 :: z154 :: z155 :: z156 :: z157 :: z158 :: z159 :: z160 :: z161 :: z162 :: z163 :: z164 :: z165 :: z166 :: z167 :: z168 :: z169 :: z170 :: z171 :: z172 :: z173 :: z174 :: z175 :: z176 :: z177 :: z178 :: z179 :: z180 :: z181 :: z182 :: z183 :: z184 :: z185 :: z186 :: z187 :: z188 :: z189 :: n190 :: n191 :: n192 :: n193 :: n194 :: n195 :: n196 :: n197 :: n198 :: n199 :: n200 :: n201 :: n202 :: n203 :: n204 :: n205 :: n206 :: n207 :: n208 :: n209 :: n210 :: n211 :: n212 :: n213 :: n214 :: n215 :: n216 :: n217 :: n218 :: n219 :: z220 :: z221 :: z222 :: z223 :: z224 :: z225 :: z226 :: z227 :: z228 :: z229 :: z230 :: z231 :: z232 :: z233 :: z234 :: z235 :: z236 :: z237 :: z238 :: z239 :: z240 :: z241 :: z242 :: z243 :: z244 :: z245 :: z246 :: z247 :: z248 :: z249 :: z250 :: z251 :: z252 :: z253 :: z254 :: z255 :: z256 :: z257 :: z258 :: z259 :: z260 :: z261 :: z262 :: z263 :: z264 :: z265 :: z266 :: z267 :: z268 :: z269 :: z270 :: z271 :: z272 :: z273 :: z274 :: z275 :: z276 :: z277 :: z278 :: z279 :: z280 :: z281 :: z282 :: z283 :: z284 :: z285 :: z286 :: z287 :: z288 :: z289 :: z290 :: z291 :: z292 :: z293 :: z294 :: z295 :: z296 :: z297 :: z298 :: z299 :: z300 :: z301 :: z302 :: z303 :: z304 :: z305 :: z306 :: z307 :: z308 :: z309 :: z310 :: z311 :: z312 :: z313 :: z314 :: z315 :: z316 :: z317 :: z318 :: z319 :: z320 :: z321 :: z322 :: z323 :: z324 :: z325 :: z326 :: z327 :: z328 :: z329 :: z330 :: z331 :: z332 :: z333 :: z334 :: z335 :: z336 :: z337 :: z338 :: z339 :: z340 :: z341 :: z342 :: z343 :: z344 :: z345 :: z346 :: z347 :: z348 :: z349 :: z350 :: z351 :: z352 :: z353 :: z354 :: z355 :: z356 :: z357 :: z358 :: z359 :: z360 :: z361 :: z362 :: z363 :: z364 :: z365 :: z366 :: z367 :: z368 :: z369 :: z370 :: z371 :: z372 :: z373 :: z374 :: List.nil).toArray, []⟩ w') :
    Code.wp Try.prog (loopNo 3) Q ⟨(z0 :: .slice C plates.length cp :: z2 :: .pointer (some ⟨p0, 0, none⟩) :: z4 :: .pointer (some ⟨px, 0, none⟩) :: z6 :: .int .i64 first :: z8 :: .pointer (some ⟨ob, 0, none⟩) :: z10 :: z11 :: z12 :: z13 :: z14 :: z15 :: z16 :: z17 :: z18 :: .int .i64 0 :: .int .i64 0 :: z21 :: z22 :: z23 :: z24 :: z25 :: z26 :: z27 :: z28 :: z29 :: z30 :: z31 :: z32 :: z33 :: z34 :: z35 :: z36 :: z37 :: z38 :: z39 :: z40 :: z41 :: z42 :: z43 :: z44 :: z45 :: z46 :: z47 :: z48 :: z49 :: z50 :: z51 :: z52 :: z53 :: z54 :: z55 :: z56 :: z57 :: z58 :: z59 :: z60 :: z61 :: z62 :: z63 :: z64 :: z65 :: z66 :: z67 :: z68 :: z69 :: z70 :: z71 :: z72 :: z73 :: z74 :: z75 :: z76 :: z77 :: z78 :: z79 :: z80 :: z81 :: z82 :: z83 :: z84 :: z85 :: z86 :: z87 :: z88 :: z89 :: z90 :: z91 :: z92 :: z93 :: z94 :: z95 :: z96 :: z97 :: z98 :: z99 :: z100 :: z101 :: z102 :: z103 :: z104 :: z105 :: z106 :: z107 :: z108 :: z109 :: z110 :: z111 :: z112 :: z113 :: z114 :: z115 :: z116 :: z117 :: z118 :: z119 :: z120 :: z121 :: z122 :: z123 :: z124 :: z125 :: z126 :: z127 :: z128 :: z129 :: z130 :: z131 :: z132 :: z133 :: z134 :: z135 :: z136 :: z137 :: z138 :: z139 :: z140 :: z141 :: z142 :: z143 :: z144 :: z145 :: z146 :: z147 :: z148 :: z149 :: z150 :: z151 :: z152 :: z153 :: z154 :: z155 :: z156 :: z157 :: z158 :: z159 :: z160 :: z161 :: z162 :: z163 :: z164 :: z165 :: z166 :: z167 :: z168 :: z169 :: z170 :: z171 :: z172 :: z173 :: z174 :: z175 :: z176 :: z177 :: z178 :: z179 :: z180 :: z181 :: z182 :: z183 :: z184 :: z185 :: z186 :: z187 :: z188 :: z189 :: z190 :: z191 :: z192 :: z193 :: z194 :: z195 :: z196 :: z197 :: z198 :: z199 :: z200 :: z201 :: z202 :: z203 :: z204 :: z205 :: z206 :: z207 :: z208 :: z209 :: z210 :: z211 :: z212 :: z213 :: z214 :: z215 :: z216 :: z217 :: z218 :: z219 :: z220 :: z221 :: z222 :: z223 :: z224 :: z225 :: z226 :: z227 :: z228 :: z229 :: z230 :: z231 :: z232 :: z233 :: z234 :: z235 :: z236 :: z237 :: z238 :: z239 :: z240 :: z241 :: z242 :: z243 :: z244 :: z245 :: z246 :: z247 :: z248 :: z249 :: z250 :: z251 :: z252 :: z253 :: z254 :: z255 :: z256 :: z257 :: z258 :: z259 :: z260 :: z261 :: z262 :: z263 :: z264 :: z265 :: z266 :: z267 :: z268 :: z269 :: z270 :: z271 :: z272 :: z273 :: z274 :: z275 :: z276 :: z277 :: z278 :: z279 :: z280 :: z281 :: z282 :: z283 :: z284 :: z285 :: z286 :: z287 :: z288 :: z289 :: z290 :: z291 :: z292 :: z293 :: z294 :: z295 :: z296 :: z297 :: z298 :: z299 :: z300 :: z301 :: z302 :: z303 :: z304 :: z305 :: z306 :: z307 :: z308 :: z309 :: z310 :: z311 :: z312 :: z313 :: z314 :: z315 :: z316 :: z317 :: z318 :: z319 :: z320 :: z321 :: z322 :: z323 :: z324 :: z325 :: z326 :: z327 :: z328 :: z329 :: z330 :: z331 :: z332 :: z333 :: z334 :: z335 :: z336 :: z337 :: z338 :: z339 :: z340 :: z341 :: z342 :: z343 :: z344 :: z345 :: z346 :: z347 :: z348 :: z349 :: z350 :: z351 :: z352 :: z353 :: z354 :: z355 :: z356 :: z357 :: z358 :: z359 :: z360 :: z361 :: z362 :: z363 :: z364 :: z365 :: z366 :: z367 :: z368 :: z369 :: z370 :: z371 :: z372 :: z373 :: z374 :: List.nil).toArray, []⟩ w := by
  have HEX := Lib.hid hexit
  have HA := Lib.hid hA
  have HB := Lib.hid hB
  have HC := Lib.hid hC
  have HCH := Lib.hid hch
  have HFI := Lib.hid hfi
  have HPU := Lib.hid hpu
  have HATS := Lib.hid hats
  have HC1 := Lib.hid hc1
  have R0 := Lib.hid r0
  have R1 := Lib.hid r1
  have S0 := Lib.hid s0
  have O1 := Lib.hid o1
  obtain ⟨ii, zi, hii, hzi, hzsi, hsi, hbi⟩ := info_int_at
  clear hA hB hC hch hfi hpu hats hc1 r0 r1 s0 o1 hexit
  conv => arg 2; whnf
  obtain ⟨ln, hln⟩ : ∃ ln : Nat, (ln : Int) = last := ⟨last.toNat, by omega⟩
  go_loopg [19, 20] ln (fun g a i wr => ∃ k : Nat, k + g = ln ∧ i = .int .i64 k ∧ a = .int .i64 (minutesUpto ats k) ∧ Ext w wr)
  case atStart => exact ⟨0, by omega, rfl, rfl, Ext.refl _⟩
  case round =>
    obtain ⟨k, hk, rfl, rfl, hE4⟩ := hrel
    have HK4 := Lib.hid hk
    have o1 := hE4.cell O1.out
    by_cases hlt : k < ln
    · clear hk
      have hki : (k : Int) < last := by omega
      have g0 := hE4.cell R0.out
      have g1 := hE4.cell R1.out
      obtain ⟨cb, co, hCe⟩ := HC.out.base (by omega)
      subst hCe
      have HSX : Hid (∀ a b : World, (Ext w a ∧ a.cell? ⟨p0, 0, none⟩ = some (.slice A th.length cm) ∧ a.cell? ⟨p0, 1, none⟩ = some (.slice B mk.length ck)) → Ext a b → (Ext w b ∧ b.cell? ⟨p0, 0, none⟩ = some (.slice A th.length cm) ∧ b.cell? ⟨p0, 1, none⟩ = some (.slice B mk.length ck))) := Lib.hid fun a b h he => ⟨h.1.trans he, he.cell h.2.1, he.cell h.2.2⟩
      go_upto_region 36 with fail
      refine wp_region_noPanic ?_
      refine wp_region_held_drew (S := fun w' => (Ext w w' ∧ w'.cell? ⟨p0, 0, none⟩ = some (.slice A th.length cm) ∧ w'.cell? ⟨p0, 1, none⟩ = some (.slice B mk.length ck))) (by kernel_rfl) ⟨hE4.trans (Ext.drew _), g0, g1⟩ (fun hHeld => ?_)
      have hE5 : Ext wr wr.drew := Ext.drew wr
      generalize wr.drew = w5 at hHeld hE5 ⊢
      have HS5 := Lib.hid hHeld
      clear g0 g1
      refine wpAnyH_take (i := 0) (oi := _) (v := ?_) (by rfl) (by kernel_rfl) (by kernel_rfl) (by kernel_rfl) (fun _ _ _ h => h) (Or.inl ⟨by rfl, ?_⟩) (by assumption) ?_
      rotate_left
      · (intro w hSw; (try dsimp only at hSw); (try obtain ⟨_, _, _⟩ := hSw); go_simp; try with_reducible rfl)
      try simp only [Act.put, List.getElem_toArray, List.getElem_cons_succ, List.getElem_cons_zero, List.setIfInBounds_toArray, List.set_cons_zero, List.set_cons_succ]
      refine wpAnyH_take (i := 2) (oi := _) (v := ?_) (by rfl) (by kernel_rfl) (by kernel_rfl) (by kernel_rfl) (fun _ _ _ h => h) (Or.inl ⟨by rfl, ?_⟩) (by assumption) ?_
      rotate_left
      · (intro w hSw; (try dsimp only at hSw); (try obtain ⟨_, _, _⟩ := hSw); go_simp; try with_reducible rfl)
      try simp only [Act.put, List.getElem_toArray, List.getElem_cons_succ, List.getElem_cons_zero, List.setIfInBounds_toArray, List.set_cons_zero, List.set_cons_succ]
      refine wpAnyH_take (i := 4) (oi := _) (v := ?_) (by rfl) (by kernel_rfl) (by kernel_rfl) (by kernel_rfl) (fun _ _ _ h => h) (Or.inl ⟨by rfl, ?_⟩) (by assumption) ?_
      rotate_left
      · (intro w hSw; (try dsimp only at hSw); (try obtain ⟨_, _, _⟩ := hSw); go_simp; try with_reducible rfl)
      try simp only [Act.put, List.getElem_toArray, List.getElem_cons_succ, List.getElem_cons_zero, List.setIfInBounds_toArray, List.set_cons_zero, List.set_cons_succ]
      refine wpAnyH_take (i := 5) (oi := _) (v := ?_) (by rfl) (by kernel_rfl) (by kernel_rfl) (by kernel_rfl) (fun _ _ _ h => h) (Or.inl ⟨by rfl, ?_⟩) (by assumption) ?_
      rotate_left
      · (intro w hSw; (try dsimp only at hSw); (try obtain ⟨_, _, _⟩ := hSw); go_simp; try with_reducible rfl)
      try simp only [Act.put, List.getElem_toArray, List.getElem_cons_succ, List.getElem_cons_zero, List.setIfInBounds_toArray, List.set_cons_zero, List.set_cons_succ]
      refine wpAnyH_take (i := 6) (oi := _) (v := ?_) (by rfl) (by kernel_rfl) (by kernel_rfl) (by kernel_rfl) (fun _ _ _ h => h) (Or.inl ⟨by rfl, ?_⟩) (by assumption) ?_
      rotate_left
      · (intro w hSw; (try dsimp only at hSw); (try obtain ⟨_, _, _⟩ := hSw); go_simp; try with_reducible rfl)
      try simp only [Act.put, List.getElem_toArray, List.getElem_cons_succ, List.getElem_cons_zero, List.setIfInBounds_toArray, List.set_cons_zero, List.set_cons_succ]
      refine wpAnyH_ready (rs := [1]) (by kernel_rfl) (by simp) ?_
      refine AllReadyH.cons (o := _) rfl (fun K hK => ?_) AllReadyH.nil
      rw [if_pos (by rfl)]
      go_simp
      have he1 : Ext w5 (w5.alloc (.cells #[] 3)) := Ext.alloc _ _
      generalize hx1 : w5.alloc (.cells #[] 3) = x1 at he1 ⊢
      clear hx1
      have HSx1 := Lib.hid (HSX.out _ _ HS5.out he1)
      refine hK.out _ _ HSx1.out (fun hHeld => ?_)
      clear hK K
      try simp only [Act.put, List.getElem_toArray, List.getElem_cons_succ, List.getElem_cons_zero, List.setIfInBounds_toArray, List.set_cons_zero, List.set_cons_succ]
      refine wpAnyH_ready (rs := [3]) (by kernel_rfl) (by simp) ?_
      refine AllReadyH.cons (o := _) rfl (fun K hK => ?_) AllReadyH.nil
      refine step_append_grows rfl (.tmp 198) (.tmp 199) 26 rfl 3 ii zi 1 8 Try.underlying26 hii hzi hsi hbi hzsi (by decide) (some ⟨w5.heap.size, 0, none⟩) 0 0 [] rfl (fun h => nomatch h) rfl (fun _ _ _ _ h => nomatch h) ⟨cb, co, none⟩ plates.length cp (plates.map (Value.int .i64)) rfl (by simp) (rdI_cells (HC.out.ext HSx1.out.1) _ rfl) (by simp [Value.oneCell']) (by omega) (by unfold maxLen; omega) (by omega) ?_
      intro vb x2 hob9 hgb
      obtain ⟨gN, cN, rfl, hcN, hRN, _, _⟩ := own_fresh (enc := encI) hob9 (reps_ints x2 plates) (by omega)
      have he2 := grown_none hgb
      have HSx2 := Lib.hid (HSX.out _ _ HSx1.out he2)
      clear hob9 hgb
      refine hK.out _ _ HSx2.out (fun hHeld => ?_)
      clear hK K
      try simp only [Act.put, List.getElem_toArray, List.getElem_cons_succ, List.getElem_cons_zero, List.setIfInBounds_toArray, List.set_cons_zero, List.set_cons_succ]
      refine wpAnyH_ready (rs := [7]) (by kernel_rfl) (by simp) ?_
      refine AllReadyH.cons (o := _) rfl (fun K hK => ?_) AllReadyH.nil
      rw [if_pos (by rfl)]
      go_simp
      have hEx2 := HSx2.out.1
      have hwr : IntKind.i64.wrap (first + k) = first + k := IntWalk.i64_in _ ⟨by omega, by omega⟩
      rw [hwr]
      refine (Mixed7 A B (some ⟨gN, 0, none⟩) th mk plates cm ck cN (first + k) _ hm2 hm3 (HA.out.ext hEx2) (HB.out.ext hEx2) hRN HCH.out (inB_iff.2 ⟨by omega, by omega⟩) (platesAt HCH.out HFI.out HPU.out (by omega))).mono ?_
      rintro e x3 ⟨D, cd, rfl, hRD, he3⟩
      have HSx3 := Lib.hid (HSX.out _ _ HSx2.out he3)
      refine hK.out _ _ HSx3.out (fun hHeld => ?_)
      clear hK K
      try simp only [Act.put, List.getElem_toArray, List.getElem_cons_succ, List.getElem_cons_zero, List.setIfInBounds_toArray, List.set_cons_zero, List.set_cons_succ]
      refine wpAnyH_take (i := 8) (oi := _) (v := ?_) (by rfl) (by kernel_rfl) (by kernel_rfl) (by kernel_rfl) (fun _ _ _ h => h) (Or.inl ⟨by rfl, ?_⟩) (by assumption) ?_
      rotate_left
      · (intro w hSw; (try dsimp only at hSw); (try obtain ⟨_, _, _⟩ := hSw); go_simp; try with_reducible rfl)
      try simp only [Act.put, List.getElem_toArray, List.getElem_cons_succ, List.getElem_cons_zero, List.setIfInBounds_toArray, List.set_cons_zero, List.set_cons_succ]
      refine wpAnyH_take (i := 9) (oi := _) (v := ?_) (by rfl) (by kernel_rfl) (by kernel_rfl) (by kernel_rfl) (fun _ _ _ h => h) (Or.inl ⟨by rfl, ?_⟩) (by assumption) ?_
      rotate_left
      · (intro w hSw; (try dsimp only at hSw); (try obtain ⟨_, _, _⟩ := hSw); go_simp; try with_reducible rfl)
      try simp only [Act.put, List.getElem_toArray, List.getElem_cons_succ, List.getElem_cons_zero, List.setIfInBounds_toArray, List.set_cons_zero, List.set_cons_succ]
      refine wpAnyH_take (i := 10) (oi := _) (v := ?_) (by rfl) (by kernel_rfl) (by kernel_rfl) (by kernel_rfl) (fun _ _ _ h => h) (Or.inl ⟨by rfl, ?_⟩) (by assumption) ?_
      rotate_left
      · (intro w hSw; (try dsimp only at hSw); (try obtain ⟨_, _, _⟩ := hSw); go_simp; try with_reducible rfl)
      try simp only [Act.put, List.getElem_toArray, List.getElem_cons_succ, List.getElem_cons_zero, List.setIfInBounds_toArray, List.set_cons_zero, List.set_cons_succ]
      refine wpAnyH_take (i := 11) (oi := _) (v := ?_) (by rfl) (by kernel_rfl) (by kernel_rfl) (by kernel_rfl) (fun _ _ _ h => h) (Or.inl ⟨by rfl, ?_⟩) (by assumption) ?_
      rotate_left
      · (intro w hSw; (try dsimp only at hSw); (try obtain ⟨_, _, _⟩ := hSw); go_simp; try with_reducible rfl)
      try simp only [Act.put, List.getElem_toArray, List.getElem_cons_succ, List.getElem_cons_zero, List.setIfInBounds_toArray, List.set_cons_zero, List.set_cons_succ]
      refine wpAnyH_take (i := 12) (oi := _) (v := ?_) (by rfl) (by kernel_rfl) (by kernel_rfl) (by kernel_rfl) (fun _ _ _ h => h) (Or.inl ⟨by rfl, ?_⟩) (by assumption) ?_
      rotate_left
      · (intro w hSw; (try dsimp only at hSw); (try obtain ⟨_, _, _⟩ := hSw); go_simp; try with_reducible rfl)
      try simp only [Act.put, List.getElem_toArray, List.getElem_cons_succ, List.getElem_cons_zero, List.setIfInBounds_toArray, List.set_cons_zero, List.set_cons_succ]
      refine wpAnyH_done (by kernel_rfl) (NoPanic.normal ?_) _
      have hEx3 := HSx3.out.1
      have s0 := hEx3.cell S0.out
      have o1 := hEx3.cell O1.out
      have hml := mixedList_le th mk plates (first + k)
      obtain ⟨c, hcc⟩ : ∃ c : Nat, (c : Int) = change := ⟨change.toNat, by have := inB_iff.1 HC1.out; omega⟩
      have hc3 : c < 3 := by have := inB_iff.1 HC1.out; omega
      have hin : (mixedList th mk plates (first + k) 3).any (· == change) = decide (mn ats ≤ (k : Int) ∧ (k : Int) < mx ats) := by
        rw [← hcc, mixed_in hc3, mixed_iff hn ⟨hl.1, hl.2.1⟩ ⟨by omega, hki⟩, hcc, HATS.out]
      generalize mixedList th mk plates (first + k) 3 = ml at hml hin hRD
      have HIN := Lib.hid hin
      have HRD := Lib.hid hRD
      clear hin hRD hHeld
      have HSTEP := Lib.hid (show minutesUpto ats (k + 1) = minutesUpto ats k + (if mn ats ≤ (k : Int) ∧ (k : Int) < mx ats then 1 else 0) from rfl)
      have HM := Lib.hid (minutesUpto_in ats k)
      by_cases hmm : mn ats ≤ (k : Int) ∧ (k : Int) < mx ats
      · have hst := HSTEP.out
        rw [if_pos hmm] at hst
        have HST := Lib.hid hst
        have hi2 := HIN.out
        rw [decide_eq_true hmm] at hi2
        have HI2 := Lib.hid hi2
        clear hi2 hst hmm HSTEP
        have hm0 := HM.out
        generalize minutesUpto ats k = mu at HST hm0 ⊢
        go_wp2_with (go_at_call 15; refine (inR D cd ml change _ HRD.out (by omega)).mono ?_; rw [HI2.out]; rintro e wq ⟨rfl, rfl⟩)
        go_roundg (gk - 1)
        case measure => have := HK4.out; omega
        case rel => exact ⟨k + 1, by have := HK4.out; omega, by go_num, by rw [HST.out], hEx3⟩
      · have hst := HSTEP.out
        rw [if_neg hmm, Int.add_zero] at hst
        have HST := Lib.hid hst
        have hi2 := HIN.out
        rw [decide_eq_false hmm] at hi2
        have HI2 := Lib.hid hi2
        clear hi2 hst hmm HSTEP
        have hm0 := HM.out
        generalize minutesUpto ats k = mu at HST hm0 ⊢
        go_wp2_with (go_at_call 15; refine (inR D cd ml change _ HRD.out (by omega)).mono ?_; rw [HI2.out]; rintro e wq ⟨rfl, rfl⟩)
        go_roundg (gk - 1)
        case measure => have := HK4.out; omega
        case rel => exact ⟨k + 1, by have := HK4.out; omega, by go_num, by rw [HST.out], hEx3⟩
    · have hkk : k = ln := by omega
      have HKK := Lib.hid hkk
      have HLN := Lib.hid hln
      have hki : (k : Int) = last := by omega
      have HKI := Lib.hid hki
      clear hk hkk
      go_wp2_with fail
      exact HEX.out _ k _ _ _ _ _ _ _ _ _ _ _ _ _ _ _ _ _ _ _ _ _ _ _ _ _ _ _ _ _ _ _ _ _ HKI.out hE4

end Go.Proofs.Ytloenmikkkklhaa

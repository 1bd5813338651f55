/-
  TopFound's fifth loop: of each plate it is known to the minute when it was changed, and how many copies show it old.
-/
import Derived.Test.YtloenmikkkklhaaW6
import Derived.Test.YtloenmikkkklhaaP12
import Derived.Test.YtloenmikkkklhaaK7
namespace Go.Proofs.Ytloenmikkkklhaa
open Go.RowKit

theorem hullLo_one (f : Way → Int) (x : Way) : hullLo f [x] [x].length = f x := by simp [hullLo]
theorem hullHi_one (f : Way → Int) (x : Way) : hullHi f [x] [x].length = f x := by simp [hullHi]
theorem mul_in {r a : Int} (hr : 0 ≤ r ∧ r ≤ 9) (ha : 0 ≤ a ∧ a ≤ 30) : -9223372036854775808 ≤ r * a ∧ r * a ≤ 9223372036854775807 := by
  have h1 : 0 ≤ r * a := Int.mul_nonneg hr.1 ha.1
  have h2 : r * a ≤ 9 * a := Int.mul_le_mul_of_nonneg_right hr.2 ha.1
  omega

attribute [local irreducible] inB in
set_option maxRecDepth 1000000 in
set_option maxHeartbeats 40000000 in
theorem loop5R {Q : Exit → Act → World → Prop} {z0 z1 z2 z3 z4 z6 z7 z8 z10 z12 z13 z14 z15 z16 z17 z18 z19 z20 z21 z22 z24 z25 z26 z27 z28 z29 z30 z31 z32 z33 z34 z35 z36 z37 z38 z39 z40 z41 z42 z43 z44 z45 z46 z47 z48 z49 z50 z51 z52 z53 z54 z55 z56 z57 z58 z59 z60 z61 z62 z63 z64 z65 z66 z67 z68 z69 z70 z71 z72 z73 z74 z75 z76 z77 z78 z79 z80 z81 z82 z83 z84 z85 z86 z87 z88 z89 z90 z91 z92 z93 z94 z95 z96 z97 z98 z99 z100 z101 z102 z103 z104 z105 z106 z107 z108 z109 z110 z111 z112 z113 z114 z115 z116 z117 z118 z119 z120 z121 z122 z123 z124 z125 z126 z127 z128 z129 z130 z131 z132 z133 z134 z135 z136 z137 z138 z139 z140 z141 z142 z143 z144 z145 z146 z147 z148 z149 z150 z151 z152 z153 z154 z155 z156 z157 z158 z159 z160 z161 z162 z163 z164 z165 z166 z167 z168 z169 z170 z171 z172 z173 z174 z175 z176 z177 z178 z179 z180 z181 z182 z183 z184 z185 z186 z187 z188 z189 z190 z191 z192 z193 z194 z195 z196 z197 z198 z199 z200 z201 z202 z203 z204 z205 z206 z207 z208 z209 z210 z211 z212 z213 z214 z215 z216 z217 z218 z219 z220 z221 z222 z223 z224 z225 z226 z227 z228 z229 z230 z231 z232 z233 z234 z235 z236 z237 z238 z239 z240 z241 z242 z243 z244 z245 z246 z247 z248 z249 z250 z251 z252 z253 z254 z255 z256 z257 z258 z259 z260 z261 z262 z263 z264 z265 z266 z267 z268 z269 z270 z271 z272 z273 z274 z275 z276 z277 z278 z279 z280 z281 z282 z283 z284 z285 z286 z287 z288 z289 z290 z291 z292 z293 z294 z295 z296 z297 z298 z299 z300 z301 z302 z303 z304 z305 z306 z307 z308 z309 z310 z311 z312 z313 z314 z315 z316 z317 z318 z319 z320 z321 z322 z323 z324 z325 z326 z327 z328 z329 z330 z331 z332 z333 z334 z335 z336 z337 z338 z339 z340 z341 z342 z343 z344 z345 z346 z347 z348 z349 z350 z351 z352 z353 z354 z355 z356 z357 z358 z359 z360 z361 z362 z363 z364 z365 z366 z367 z368 z369 z370 z371 z372 z373 z374 : Value}
    (ms : List Machine) (fs : List Found) (y : Way) (ats : List Int) (last rate : Int) (n ob px kb caf c11 : Nat) (Af A11 : Option Addr) (w : World)
    (hv : OkRun n last ms fs) (hml : ms.length = 1) (hw : waysOf ms fs = [y]) (hxf : y.from_ = List.replicate fs.length 0)
    (hlo : ∀ p, p < n → lo6 y.when_ 0 p = ats.getD p 0 ∧ hi6 y.when_ 0 p = ats.getD p 0) (hol : ∀ p, p < n → oldLo ms y.when_ p = rate * ats.getD p 0 ∧ oldHi ms y.when_ p = rate * ats.getD p 0)
    (hnw : ∀ p, p < n → ∀ (k : Nat) (c : Found), fs[k]? = some c → c.new[p]? = some (if ats.getD p 0 ≤ c.minute then 1 else 0))
    (hat : ats.length = n) (hab : ∀ a ∈ ats, 0 ≤ a ∧ a ≤ 30) (hrt : 0 ≤ rate ∧ rate ≤ 9)
    (hA : RdMach w (some ⟨kb, 0, none⟩) ms) (hB : RdFound w Af fs) (hI : RdI w A11 ats) (s1 : w.cell? ⟨px, 1, none⟩ = some (.int .i64 rate))
    (b0 : w.cell? ⟨ob, 0, none⟩ = some (.int .i64 n)) (b1 : w.cell? ⟨ob, 1, none⟩ = some (.int .i64 last)) (b2 : w.cell? ⟨ob, 2, none⟩ = some (.slice (some ⟨kb, 0, none⟩) ms.length 1)) (b3 : w.cell? ⟨ob, 3, none⟩ = some (.slice Af fs.length caf))
    (hexit : ∀ (w' : World) (v23 : Value) (n6 n24 n25 n26 n27 n28 n29 n30 n31 n220 n221 n222 n223 n224 n225 n226 n227 n228 n229 n230 n231 n232 n233 n234 n235 n236 n237 n238 n239 n240 n241 n242 n243 n244 n245 n246 n247 n248 n249 n250 n251 n252 n253 n254 n255 n256 n257 n258 n259 n260 n261 n262 n263 n264 n265 n266 n267 n268 n269 n270 n271 n272 n273 n274 n275 n276 n277 n278 n279 n280 n281 n282 n283 n284 n285 n286 n287 n288 n289 n290 n291 n292 n293 n294 n295 n296 n297 n298 n299 n300 n301 n302 n303 n304 n305 n306 n307 n308 n309 : Value), Ext w w' → Q (.exit 8) ⟨(z0 :: z1 :: z2 :: z3 :: z4 :: .pointer (some ⟨px, 0, none⟩) :: n6 :: z7 :: z8 :: .pointer (some ⟨ob, 0, none⟩) :: z10 :: .slice A11 n c11 :: z12 :: z13 :: z14 :: z15 :: z16 :: z17 :: z18 :: z19 :: z20 :: z21 :: z22 :: v23 :: n24 :: n25 :: n26 :: n27 :: n28 :: n29 :: n30 :: n31 :: z32 :: z33 :: z34 :: z35 :: z36 :: z37 :: z38 :: z39 :: z40 :: z41 :: z42 :: z43 :: z44 :: z45 :: z46 :: z47 :: z48 :: z49 :: z50 :: z51 :: z52 :: z53 :: z54 :: z55 :: z56 :: z57 :: z58 :: z59 :: z60 :: z61 :: z62 :: z63 :: z64 :: z65 :: z66 :: z67 :: z68 :: z69 :: z70 :: z71 :: z72 :: z73 :: z74 :: z75 :: z76 :: z77 :: z78 :: z79 :: z80 :: z81 :: z82 :: z83 :: z84 :: z85 :: z86 :: z87 :: z88 :: z89 :: z90 :: z91 :: z92 :: z93 :: z94 :: z95 :: z96 :: z97 :: z98 :: z99 :: z100 :: z101 :: z102 :: z103 :: z104 :: z105 :: z106 :: z107 :: z108 :: z109 :: z110 :: z111 :: z112 :: z113 :: z114 :: z115 :: z116 :: z117 :: z118 :: z119 :: z120 :: z121 :: z122 :: z123 :: z124 :: z125 :: z126 :: z127 :: z128 :: z129 :: z130 :: z131 :: z132 :: z133 :: z134 :: z135 :: z136 :: z137 :: z138 :: z139 :: z140 :: z141 :: z142 :: z143 :: z144 :: z145 :: z146 :: z147 :: z148 :: z149 :: z150 :: z151 :: z152 :: z153 :: z154 :: z155 :: z156 :: z157 :: z158 :: z159 :: z160 :: z161 :: z162 :: z163 :: z164 :: z165 :: z166 :: z167 :: z168 :: z169 :: z170 :: z171 :: z172 :: z173 :: z174 :: z175 :: z176 :: z177 :: z178 :: z179 :: z180 :: z181 :: z182 :: z183 :: z184 :: z185 :: z186 :: z187 :: z188 :: z189 :: z190 :: z191 :: z192 :: z193 :: z194 :: z195 :: z196 :: z197 :: z198 :: z199 :: z200 :: z201 :: z202 :: z203 :: z204 :: z205 :: z206 :: z207 :: z208 :: z209 :: z210 :: z211 :: z212 :: z213 :: z214 :: z215 :: z216 :: z217 :: z218 :: z219 :: n220 :: n221 :: n222 :: n223 :: n224 :: n225 :: n226 :: n227 :: n228 :: n229 :: n230 :: n231 :: n232 :: n233 :: n234 :: n235 :: n236 :: n237 :: n238 :: n239 :: n240 :: n241 :: n242 :: n243 :: n244 :: n245 :: n246 :: n247 :: n248 :: n249 :: n250 :: n251 :: n252 :: n253 :: n254 :: n255 :: n256 :: n257 :: n258 :: n259 :: n260 :: n261 :: n262 :: n263 :: n264 :: n265 :: n266 :: n267 :: n268 :: n269 :: n270 :: n271 :: n272 :: n273 :: n274 :: n275 :: n276 :: n277 :: n278 :: n279 :: n280 :: n281 :: n282 :: n283 :: n284 :: n285 :: n286 :: n287 :: n288 :: n289 :: n290 :: n291 :: n292 :: n293 :: n294 :: n295 :: n296 :: n297 :: n298 :: n299 :: n300 :: n301 :: n302 :: n303 :: n304 :: n305 :: n306 :: n307 :: n308 :: n309 :: z310 :: z311 :: z312 :: z313 :: z314 :: z315 :: z316 :: z317 :: z318 :: z319 :: z320 :: z321 :: z322 :: z323 :: z324 :: z325 :: z326 :: z327 :: z328 :: z329 :: z330 :: z331 :: z332 :: z333 :: z334 :: z335 :: z336 :: z337 :: z338 :: z339 :: z340 :: z341 :: z342 :: z343 :: z344 :: z345 :: z346 :: z347 :: z348 :: z349 :: z350 :: z351 :: z352 :: z353 :: z354 :: z355 :: z356 :: z357 :: z358 :: z359 :: z360 :: z361 :: z362 :: z363 :: z364 :: z365 :: z366 :: z367 :: z368 :: z369 :: z370 :: z371 :: z372 :: z373 :: z374 :: List.nil).toArray, []⟩ w') :
    Code.wp Try.prog (loopNo 4) Q ⟨(z0 :: z1 :: z2 :: z3 :: z4 :: .pointer (some ⟨px, 0, none⟩) :: z6 :: z7 :: z8 :: .pointer (some ⟨ob, 0, none⟩) :: z10 :: .slice A11 n c11 :: z12 :: z13 :: z14 :: z15 :: z16 :: z17 :: z18 :: z19 :: z20 :: z21 :: z22 :: .int .i64 0 :: z24 :: z25 :: z26 :: z27 :: z28 :: z29 :: z30 :: z31 :: z32 :: z33 :: z34 :: z35 :: z36 :: z37 :: z38 :: z39 :: z40 :: z41 :: z42 :: z43 :: z44 :: z45 :: z46 :: z47 :: z48 :: z49 :: z50 :: z51 :: z52 :: z53 :: z54 :: z55 :: z56 :: z57 :: z58 :: z59 :: z60 :: z61 :: z62 :: z63 :: z64 :: z65 :: z66 :: z67 :: z68 :: z69 :: z70 :: z71 :: z72 :: z73 :: z74 :: z75 :: z76 :: z77 :: z78 :: z79 :: z80 :: z81 :: z82 :: z83 :: z84 :: z85 :: z86 :: z87 :: z88 :: z89 :: z90 :: z91 :: z92 :: z93 :: z94 :: z95 :: z96 :: z97 :: z98 :: z99 :: z100 :: z101 :: z102 :: z103 :: z104 :: z105 :: z106 :: z107 :: z108 :: z109 :: z110 :: z111 :: z112 :: z113 :: z114 :: z115 :: z116 :: z117 :: z118 :: z119 :: z120 :: z121 :: z122 :: z123 :: z124 :: z125 :: z126 :: z127 :: z128 :: z129 :: z130 :: z131 :: z132 :: z133 :: z134 :: z135 :: z136 :: z137 :: z138 :: z139 :: z140 :: z141 :: z142 :: z143 :: z144 :: z145 :: z146 :: z147 :: z148 :: z149 :: z150 :: z151 :: z152 :: z153 :: z154 :: z155 :: z156 :: z157 :: z158 :: z159 :: z160 :: z161 :: z162 :: z163 :: z164 :: z165 :: z166 :: z167 :: z168 :: z169 :: z170 :: z171 :: z172 :: z173 :: z174 :: z175 :: z176 :: z177 :: z178 :: z179 :: z180 :: z181 :: z182 :: z183 :: z184 :: z185 :: z186 :: z187 :: z188 :: z189 :: z190 :: z191 :: z192 :: z193 :: z194 :: z195 :: z196 :: z197 :: z198 :: z199 :: z200 :: z201 :: z202 :: z203 :: z204 :: z205 :: z206 :: z207 :: z208 :: z209 :: z210 :: z211 :: z212 :: z213 :: z214 :: z215 :: z216 :: z217 :: z218 :: z219 :: z220 :: z221 :: z222 :: z223 :: z224 :: z225 :: z226 :: z227 :: z228 :: z229 :: z230 :: z231 :: z232 :: z233 :: z234 :: z235 :: z236 :: z237 :: z238 :: z239 :: z240 :: z241 :: z242 :: z243 :: z244 :: z245 :: z246 :: z247 :: z248 :: z249 :: z250 :: z251 :: z252 :: z253 :: z254 :: z255 :: z256 :: z257 :: z258 :: z259 :: z260 :: z261 :: z262 :: z263 :: z264 :: z265 :: z266 :: z267 :: z268 :: z269 :: z270 :: z271 :: z272 :: z273 :: z274 :: z275 :: z276 :: z277 :: z278 :: z279 :: z280 :: z281 :: z282 :: z283 :: z284 :: z285 :: z286 :: z287 :: z288 :: z289 :: z290 :: z291 :: z292 :: z293 :: z294 :: z295 :: z296 :: z297 :: z298 :: z299 :: z300 :: z301 :: z302 :: z303 :: z304 :: z305 :: z306 :: z307 :: z308 :: z309 :: z310 :: z311 :: z312 :: z313 :: z314 :: z315 :: z316 :: z317 :: z318 :: z319 :: z320 :: z321 :: z322 :: z323 :: z324 :: z325 :: z326 :: z327 :: z328 :: z329 :: z330 :: z331 :: z332 :: z333 :: z334 :: z335 :: z336 :: z337 :: z338 :: z339 :: z340 :: z341 :: z342 :: z343 :: z344 :: z345 :: z346 :: z347 :: z348 :: z349 :: z350 :: z351 :: z352 :: z353 :: z354 :: z355 :: z356 :: z357 :: z358 :: z359 :: z360 :: z361 :: z362 :: z363 :: z364 :: z365 :: z366 :: z367 :: z368 :: z369 :: z370 :: z371 :: z372 :: z373 :: z374 :: List.nil).toArray, []⟩ w := by
  have HEX := Lib.hid hexit
  have HV := Lib.hid hv
  have HML := Lib.hid hml
  have HW := Lib.hid hw
  have HXF := Lib.hid hxf
  have HLO := Lib.hid hlo
  have HOL := Lib.hid hol
  have HNW := Lib.hid hnw
  have HAT := Lib.hid hat
  have HAB := Lib.hid hab
  have HA := Lib.hid hA
  have HB := Lib.hid hB
  have HI := Lib.hid hI
  have S1 := Lib.hid s1
  have B0 := Lib.hid b0
  have B1 := Lib.hid b1
  have B2 := Lib.hid b2
  have B3 := Lib.hid b3
  have hn3 := hv.hpl
  clear hexit hv hml hw hxf hlo hol hnw hat hab hA hB hI s1 b0 b1 b2 b3
  conv => arg 2; whnf
  go_loopg [23] n (fun g i wr => ∃ k : Nat, k + g = n ∧ i = .int .i64 k ∧ Ext w wr)
  case atStart => exact ⟨0, by omega, rfl, Ext.refl _⟩
  case round =>
    obtain ⟨k, hk, rfl, hE4⟩ := hrel
    have HK4 := Lib.hid hk
    by_cases hlt : k < n
    · clear hk
      have hkn : (k : Int) < n := by omega
      have b0 := hE4.cell B0.out
      have b1 := hE4.cell B1.out
      have b2 := hE4.cell B2.out
      have b3 := hE4.cell B3.out
      have hx : ats[k]? = some (ats.getD k 0) := by rw [List.getD_eq_getElem?_getD, List.getElem?_eq_getElem (by rw [HAT.out]; exact hlt)]; rfl
      have ha := HAB.out _ (List.mem_of_getElem? hx)
      obtain ⟨q1, q2⟩ := HLO.out k hlt
      obtain ⟨q3, q4⟩ := HOL.out k hlt
      have q5 := HNW.out k hlt
      have H1 := Lib.hid (show 0 < (waysOf ms fs).length by rw [HW.out]; exact Nat.zero_lt_one)
      have p1 : hullLo (fun x => lo6 x.when_ 0 k) (waysOf ms fs) (waysOf ms fs).length = ats.getD k 0 := by rw [HW.out]; simp only [hullLo_one]; exact q1
      have p2 : hullHi (fun x => hi6 x.when_ 0 k) (waysOf ms fs) (waysOf ms fs).length = ats.getD k 0 := by rw [HW.out]; simp only [hullHi_one]; exact q2
      have p3 : hullLo (fun x => oldLo ms x.when_ k) (waysOf ms fs) (waysOf ms fs).length = rate * ats.getD k 0 := by rw [HW.out]; simp only [hullLo_one]; exact q3
      have p4 : hullHi (fun x => oldHi ms x.when_ k) (waysOf ms fs) (waysOf ms fs).length = rate * ats.getD k 0 := by rw [HW.out]; simp only [hullHi_one]; exact q4
      generalize ats.getD k 0 = a at hx ha q1 q2 q5 p1 p2 p3 p4
      have HX := Lib.hid hx
      obtain ⟨ra, hra⟩ : ∃ ra, rate * a = ra := ⟨_, rfl⟩
      have hwr : IntKind.i64.wrap (rate * a) = ra := (IntWalk.i64_in _ (mul_in hrt ha)).trans hra
      rw [hra] at p3 p4
      clear hra
      have HWR := Lib.hid hwr
      have Q1 := Lib.hid q1
      have Q2 := Lib.hid q2
      have Q5 := Lib.hid q5
      have P1 := Lib.hid p1
      have P2 := Lib.hid p2
      have P3 := Lib.hid p3
      have P4 := Lib.hid p4
      clear hx hwr q1 q2 q3 q4 q5 p1 p2 p3 p4 ha
      go_upto_region 45 with (first | (go_at_call 17; refine (copyR n last (some ⟨kb, 0, none⟩) Af ms fs 1 caf _ HV.out (HA.out.ext hE4) (HB.out.ext hE4)).mono ?_; rintro e w5 ⟨A', B', cm', ck', rfl, hM', hF', hTB', hE5⟩) | (go_at_call 16; refine (When6 n last A' B' ms fs cm' ck' 0 k _ HV.out hM' (RdL.imp RFoundN.plain hF') H1.out hlt (by rw [HML.out]; decide)).mono ?_; rw [P1.out, P2.out]; rintro e w6 ⟨rfl, hE6⟩))
      obtain ⟨wa, sa, e1, e2, hEa, ablk⟩ := new_block w6 #[.int .i64 a, .int .i64 a] 48
      rw [e1, e2]
      clear e1 e2 b0 b1 b2 b3
      have hE46 := hE4.trans (hE5.trans (hE6.trans hEa))
      have b0 := hE46.cell B0.out
      have b1 := hE46.cell B1.out
      have b2 := hE46.cell B2.out
      have b3 := hE46.cell B3.out
      have ABLK := Lib.hid ablk
      clear ablk hM' hF' hTB'
      go_upto_region 46 with (first | (go_at_call 17; refine (copyR n last (some ⟨kb, 0, none⟩) Af ms fs 1 caf _ HV.out (HA.out.ext hE46) (HB.out.ext hE46)).mono ?_; rintro e w7 ⟨A', B', cm', ck', rfl, hM', hF', hTB', hE7⟩) | (go_at_call 18; refine (Old6 n last A' B' ms fs cm' ck' k _ HV.out hM' (RdL.imp RFoundN.plain hF') H1.out hlt).mono ?_; rw [P3.out, P4.out]; rintro e w8 ⟨rfl, hE8⟩))
      obtain ⟨wb, sb, e1, e2, hEb, bblk⟩ := new_block w8 #[.int .i64 ra, .int .i64 ra] 48
      rw [e1, e2]
      clear e1 e2 b0 b1 b2 b3 hM' hF' hTB'
      have hEab := hE7.trans (hE8.trans hEb)
      have hE4b := hE46.trans hEab
      obtain ⟨ib, io, hIe⟩ := HI.out.base (by rw [HAT.out]; omega)
      subst hIe
      have b3 := hE4b.cell B3.out
      have s1 := hE4b.cell S1.out
      have t0 := (HI.out.ext hE4b).at HX.out
      have ab := hEab.heap ABLK.out
      have a0 := blk_at ab 0 rfl
      have a1 := blk_at ab 1 rfl
      have c0 := blk_at bblk 0 rfl
      have c1 := blk_at bblk 1 rfl
      have hwr := HWR.out
      clear ab bblk b3
      refine wp_region_ext (by kernel_rfl) (by kernel_rfl) ?_
      repeat (go_big_quiet_step ((fail)))
      refine wpQuiet_nil ?_
      rintro _ ⟨x, rfl⟩
      have hEx := hE4b.trans x.ext
      have b0 := hEx.cell B0.out
      have b1 := hEx.cell B1.out
      have b2 := hEx.cell B2.out
      have b3 := hEx.cell B3.out
      have hA6 := HA.out.ext hEx
      have hB6 := HB.out.ext hEx
      generalize x.out = wq at hEx b0 b1 b2 b3 hA6 hB6 ⊢
      have BX := Lib.hid (And.intro b0 (And.intro b1 (And.intro b2 b3)))
      have HAX := Lib.hid hA6
      have HBX := Lib.hid hB6
      clear b0 b1 b2 b3 hA6 hB6 a0 a1 c0 c1 t0 s1 hwr
      go_wp2_with fail
      refine loop6R ms fs y a last n k ob kb caf Af wq HV.out HML.out HW.out HXF.out Q1.out Q2.out Q5.out hlt HAX.out HBX.out BX.out.1 BX.out.2.1 BX.out.2.2.1 BX.out.2.2.2 ?_
      intro wz v28 n6 n29 n30 n31 n278 n279 n280 n281 n282 n283 n284 n285 n286 n287 n288 n289 n290 n291 n292 n293 n294 n295 n296 n297 n298 n299 n300 n301 n302 n303 n304 n305 n306 n307 n308 n309 hEz
      go_wp2_with fail
      go_roundg (gk - 1)
      case measure => have := HK4.out; omega
      case rel => exact ⟨k + 1, by have := HK4.out; omega, by go_num, hEx.trans hEz⟩
    · clear hk
      have hkk : (k : Int) = n := by have := HK4.out; omega
      clear hlt
      go_wp2_with fail
      exact HEX.out _ _ _ _ _ _ _ _ _ _ _ _ _ _ _ _ _ _ _ _ _ _ _ _ _ _ _ _ _ _ _ _ _ _ _ _ _ _ _ _ _ _ _ _ _ _ _ _ _ _ _ _ _ _ _ _ _ _ _ _ _ _ _ _ _ _ _ _ _ _ _ _ _ _ _ _ _ _ _ _ _ _ _ _ _ _ _ _ _ _ _ _ _ _ _ _ _ _ _ _ _ hE4
end Go.Proofs.Ytloenmikkkklhaa

/-
  TopFound's sixth loop: every copy that was found shows of a plate what it shows.
-/
import Derived.Test.YtloenmikkkklhaaW4
import Derived.Test.YtloenmikkkklhaaR5
import Derived.Test.YtloenmikkkklhaaP14
namespace Go.Proofs.Ytloenmikkkklhaa
open Go.RowKit

attribute [local irreducible] inB in
set_option maxRecDepth 1000000 in
set_option maxHeartbeats 40000000 in
theorem loop6R {Q : Exit → Act → World → Prop} {z0 z1 z2 z3 z4 z5 z6 z7 z8 z10 z11 z12 z13 z14 z15 z16 z17 z18 z19 z20 z21 z22 z24 z25 z26 z27 z29 z30 z31 z32 z33 z34 z35 z36 z37 z38 z39 z40 z41 z42 z43 z44 z45 z46 z47 z48 z49 z50 z51 z52 z53 z54 z55 z56 z57 z58 z59 z60 z61 z62 z63 z64 z65 z66 z67 z68 z69 z70 z71 z72 z73 z74 z75 z76 z77 z78 z79 z80 z81 z82 z83 z84 z85 z86 z87 z88 z89 z90 z91 z92 z93 z94 z95 z96 z97 z98 z99 z100 z101 z102 z103 z104 z105 z106 z107 z108 z109 z110 z111 z112 z113 z114 z115 z116 z117 z118 z119 z120 z121 z122 z123 z124 z125 z126 z127 z128 z129 z130 z131 z132 z133 z134 z135 z136 z137 z138 z139 z140 z141 z142 z143 z144 z145 z146 z147 z148 z149 z150 z151 z152 z153 z154 z155 z156 z157 z158 z159 z160 z161 z162 z163 z164 z165 z166 z167 z168 z169 z170 z171 z172 z173 z174 z175 z176 z177 z178 z179 z180 z181 z182 z183 z184 z185 z186 z187 z188 z189 z190 z191 z192 z193 z194 z195 z196 z197 z198 z199 z200 z201 z202 z203 z204 z205 z206 z207 z208 z209 z210 z211 z212 z213 z214 z215 z216 z217 z218 z219 z220 z221 z222 z223 z224 z225 z226 z227 z228 z229 z230 z231 z232 z233 z234 z235 z236 z237 z238 z239 z240 z241 z242 z243 z244 z245 z246 z247 z248 z249 z250 z251 z252 z253 z254 z255 z256 z257 z258 z259 z260 z261 z262 z263 z264 z265 z266 z267 z268 z269 z270 z271 z272 z273 z274 z275 z276 z277 z278 z279 z280 z281 z282 z283 z284 z285 z286 z287 z288 z289 z290 z291 z292 z293 z294 z295 z296 z297 z298 z299 z300 z301 z302 z303 z304 z305 z306 z307 z308 z309 z310 z311 z312 z313 z314 z315 z316 z317 z318 z319 z320 z321 z322 z323 z324 z325 z326 z327 z328 z329 z330 z331 z332 z333 z334 z335 z336 z337 z338 z339 z340 z341 z342 z343 z344 z345 z346 z347 z348 z349 z350 z351 z352 z353 z354 z355 z356 z357 z358 z359 z360 z361 z362 z363 z364 z365 z366 z367 z368 z369 z370 z371 z372 z373 z374 : Value}
    (ms : List Machine) (fs : List Found) (x : Way) (a last : Int) (n i ob kb caf : Nat) (Af : Option Addr) (w : World)
    (hv : OkRun n last ms fs) (hml : ms.length = 1) (hw : waysOf ms fs = [x]) (hxf : x.from_ = List.replicate fs.length 0) (hlo : lo6 x.when_ 0 i = a) (hhi : hi6 x.when_ 0 i = a)
    (hnw : ∀ (k : Nat) (c : Found), fs[k]? = some c → c.new[i]? = some (if a ≤ c.minute then 1 else 0)) (hi : i < n)
    (hA : RdMach w (some ⟨kb, 0, none⟩) ms) (hB : RdFound w Af fs)
    (b0 : w.cell? ⟨ob, 0, none⟩ = some (.int .i64 n)) (b1 : w.cell? ⟨ob, 1, none⟩ = some (.int .i64 last)) (b2 : w.cell? ⟨ob, 2, none⟩ = some (.slice (some ⟨kb, 0, none⟩) ms.length 1)) (b3 : w.cell? ⟨ob, 3, none⟩ = some (.slice Af fs.length caf))
    (hexit : ∀ (w' : World) (v28 : Value) (n6 n29 n30 n31 n278 n279 n280 n281 n282 n283 n284 n285 n286 n287 n288 n289 n290 n291 n292 n293 n294 n295 n296 n297 n298 n299 n300 n301 n302 n303 n304 n305 n306 n307 n308 n309 : Value), Ext w w' → Q (.exit 10) ⟨(z0 :: z1 :: z2 :: z3 :: z4 :: z5 :: n6 :: z7 :: z8 :: .pointer (some ⟨ob, 0, none⟩) :: z10 :: z11 :: z12 :: z13 :: z14 :: z15 :: z16 :: z17 :: z18 :: z19 :: z20 :: z21 :: z22 :: .int .i64 i :: z24 :: z25 :: z26 :: z27 :: v28 :: n29 :: n30 :: n31 :: z32 :: z33 :: z34 :: z35 :: z36 :: z37 :: z38 :: z39 :: z40 :: z41 :: z42 :: z43 :: z44 :: z45 :: z46 :: z47 :: z48 :: z49 :: z50 :: z51 :: z52 :: z53 :: z54 :: z55 :: z56 :: z57 :: z58 :: z59 :: z60 :: z61 :: z62 :: z63 :: z64 :: z65 :: z66 :: z67 :: z68 :: z69 :: z70 :: z71 :: z72 :: z73 :: z74 :: z75 :: z76 :: z77 :: z78 :: z79 :: z80 :: z81 :: z82 :: z83 :: z84 :: z85 :: z86 :: z87 :: z88 :: z89 :: z90 :: z91 :: z92 :: z93 :: z94 :: z95 :: z96 :: z97 :: z98 :: z99 :: z100 :: z101 :: z102 :: z103 :: z104 :: z105 :: z106 :: z107 :: z108 :: z109 :: z110 :: z111 :: z112 :: z113 :: z114 :: z115 :: z116 :: z117 :: z118 :: z119 :: z120 :: z121 :: z122 :: z123 :: z124 :: z125 :: z126 :: z127 :: z128 :: z129 :: z130 :: z131 :: z132 :: z133 :: z134 :: z135 :: z136 :: z137 :: z138 :: z139 :: z140 :: z141 :: z142 :: z143 :: z144 :: z145 :: z146 :: z147 :: z148 :: z149 :: z150 :: z151 :: z152 :: z153 :: z154 :: z155 :: z156 :: z157 :: z158 :: z159 :: z160 :: z161 :: z162 :: z163 :: z164 :: z165 :: z166 :: z167 :: z168 :: z169 :: z170 :: z171 :: z172 :: z173 :: z174 :: z175 :: z176 :: z177 :: z178 :: z179 :: z180 :: z181 :: z182 :: z183 :: z184 :: z185 :: z186 :: z187 :: z188 :: z189 :: z190 :: z191 :: z192 :: z193 :: z194 :: z195 :: z196 :: z197 :: z198 :: z199 :: z200 :: z201 :: z202 :: z203 :: z204 :: z205 :: z206 :: z207 :: z208 :: z209 :: z210 :: z211 :: z212 :: z213 :: z214 :: z215 :: z216 :: z217 :: z218 :: z219 :: z220 :: z221 :: z222 :: z223 :: z224 :: z225 :: z226 :: z227 :: z228 :: z229 :: z230 :: z231 :: z232 :: z233 :: z234 :: z235 :: z236 :: z237 :: z238 :: z239 :: z240 :: z241 :: z242 :: z243 :: z244 :: z245 :: z246 :: z247 :: z248 :: z249 :: z250 :: z251 :: z252 :: z253 :: z254 :: z255 :: z256 :: z257 :: z258 :: z259 :: z260 :: z261 :: z262 :: z263 :: z264 :: z265 :: z266 :: z267 :: z268 :: z269 :: z270 :: z271 :: z272 :: z273 :: z274 :: z275 :: z276 :: z277 :: n278 :: n279 :: n280 :: n281 :: n282 :: n283 :: n284 :: n285 :: n286 :: n287 :: n288 :: n289 :: n290 :: n291 :: n292 :: n293 :: n294 :: n295 :: n296 :: n297 :: n298 :: n299 :: n300 :: n301 :: n302 :: n303 :: n304 :: n305 :: n306 :: n307 :: n308 :: n309 :: z310 :: z311 :: z312 :: z313 :: z314 :: z315 :: z316 :: z317 :: z318 :: z319 :: z320 :: z321 :: z322 :: z323 :: z324 :: z325 :: z326 :: z327 :: z328 :: z329 :: z330 :: z331 :: z332 :: z333 :: z334 :: z335 :: z336 :: z337 :: z338 :: z339 :: z340 :: z341 :: z342 :: z343 :: z344 :: z345 :: z346 :: z347 :: z348 :: z349 :: z350 :: z351 :: z352 :: z353 :: z354 :: z355 :: z356 :: z357 :: z358 :: z359 :: z360 :: z361 :: z362 :: z363 :: z364 :: z365 :: z366 :: z367 :: z368 :: z369 :: z370 :: z371 :: z372 :: z373 :: z374 :: List.nil).toArray, []⟩ w') :
    Code.wp Try.prog (loopNo 5) Q ⟨(z0 :: z1 :: z2 :: z3 :: z4 :: z5 :: z6 :: z7 :: z8 :: .pointer (some ⟨ob, 0, none⟩) :: z10 :: z11 :: z12 :: z13 :: z14 :: z15 :: z16 :: z17 :: z18 :: z19 :: z20 :: z21 :: z22 :: .int .i64 i :: z24 :: z25 :: z26 :: z27 :: .int .i64 0 :: z29 :: z30 :: z31 :: z32 :: z33 :: z34 :: z35 :: z36 :: z37 :: z38 :: z39 :: z40 :: z41 :: z42 :: z43 :: z44 :: z45 :: z46 :: z47 :: z48 :: z49 :: z50 :: z51 :: z52 :: z53 :: z54 :: z55 :: z56 :: z57 :: z58 :: z59 :: z60 :: z61 :: z62 :: z63 :: z64 :: z65 :: z66 :: z67 :: z68 :: z69 :: z70 :: z71 :: z72 :: z73 :: z74 :: z75 :: z76 :: z77 :: z78 :: z79 :: z80 :: z81 :: z82 :: z83 :: z84 :: z85 :: z86 :: z87 :: z88 :: z89 :: z90 :: z91 :: z92 :: z93 :: z94 :: z95 :: z96 :: z97 :: z98 :: z99 :: z100 :: z101 :: z102 :: z103 :: z104 :: z105 :: z106 :: z107 :: z108 :: z109 :: z110 :: z111 :: z112 :: z113 :: z114 :: z115 :: z116 :: z117 :: z118 :: z119 :: z120 :: z121 :: z122 :: z123 :: z124 :: z125 :: z126 :: z127 :: z128 :: z129 :: z130 :: z131 :: z132 :: z133 :: z134 :: z135 :: z136 :: z137 :: z138 :: z139 :: z140 :: z141 :: z142 :: z143 :: z144 :: z145 :: z146 :: z147 :: z148 :: z149 :: z150 :: z151 :: z152 :: z153 :: z154 :: z155 :: z156 :: z157 :: z158 :: z159 :: z160 :: z161 :: z162 :: z163 :: z164 :: z165 :: z166 :: z167 :: z168 :: z169 :: z170 :: z171 :: z172 :: z173 :: z174 :: z175 :: z176 :: z177 :: z178 :: z179 :: z180 :: z181 :: z182 :: z183 :: z184 :: z185 :: z186 :: z187 :: z188 :: z189 :: z190 :: z191 :: z192 :: z193 :: z194 :: z195 :: z196 :: z197 :: z198 :: z199 :: z200 :: z201 :: z202 :: z203 :: z204 :: z205 :: z206 :: z207 :: z208 :: z209 :: z210 :: z211 :: z212 :: z213 :: z214 :: z215 :: z216 :: z217 :: z218 :: z219 :: z220 :: z221 :: z222 :: z223 :: z224 :: z225 :: z226 :: z227 :: z228 :: z229 :: z230 :: z231 :: z232 :: z233 :: z234 :: z235 :: z236 :: z237 :: z238 :: z239 :: z240 :: z241 :: z242 :: z243 :: z244 :: z245 :: z246 :: z247 :: z248 :: z249 :: z250 :: z251 :: z252 :: z253 :: z254 :: z255 :: z256 :: z257 :: z258 :: z259 :: z260 :: z261 :: z262 :: z263 :: z264 :: z265 :: z266 :: z267 :: z268 :: z269 :: z270 :: z271 :: z272 :: z273 :: z274 :: z275 :: z276 :: z277 :: z278 :: z279 :: z280 :: z281 :: z282 :: z283 :: z284 :: z285 :: z286 :: z287 :: z288 :: z289 :: z290 :: z291 :: z292 :: z293 :: z294 :: z295 :: z296 :: z297 :: z298 :: z299 :: z300 :: z301 :: z302 :: z303 :: z304 :: z305 :: z306 :: z307 :: z308 :: z309 :: z310 :: z311 :: z312 :: z313 :: z314 :: z315 :: z316 :: z317 :: z318 :: z319 :: z320 :: z321 :: z322 :: z323 :: z324 :: z325 :: z326 :: z327 :: z328 :: z329 :: z330 :: z331 :: z332 :: z333 :: z334 :: z335 :: z336 :: z337 :: z338 :: z339 :: z340 :: z341 :: z342 :: z343 :: z344 :: z345 :: z346 :: z347 :: z348 :: z349 :: z350 :: z351 :: z352 :: z353 :: z354 :: z355 :: z356 :: z357 :: z358 :: z359 :: z360 :: z361 :: z362 :: z363 :: z364 :: z365 :: z366 :: z367 :: z368 :: z369 :: z370 :: z371 :: z372 :: z373 :: z374 :: List.nil).toArray, []⟩ w := by
  have HEX := Lib.hid hexit
  have HV := Lib.hid hv
  have HW := Lib.hid hw
  have HML := Lib.hid hml
  have HXF := Lib.hid hxf
  have HLO := Lib.hid hlo
  have HHI := Lib.hid hhi
  have HNW := Lib.hid hnw
  have HA := Lib.hid hA
  have HB := Lib.hid hB
  have B0 := Lib.hid b0
  have B1 := Lib.hid b1
  have B2 := Lib.hid b2
  have B3 := Lib.hid b3
  clear hexit hw hml hxf hlo hhi hnw hA hB b0 b1 b2 b3
  have hn3 := hv.hpl
  have hf6 := hv.hfs
  clear hv
  conv => arg 2; whnf
  go_loopg [28] fs.length (fun g i wr => ∃ k : Nat, k + g = fs.length ∧ i = .int .i64 k ∧ Ext w wr)
  case atStart => exact ⟨0, by omega, rfl, Ext.refl _⟩
  case round =>
    obtain ⟨k, hk, rfl, hE4⟩ := hrel
    have HK4 := Lib.hid hk
    have b0 := hE4.cell B0.out
    have b1 := hE4.cell B1.out
    have b2 := hE4.cell B2.out
    have b3 := hE4.cell B3.out
    by_cases hlt : k < fs.length
    · clear hk
      have hkf : (k : Int) < fs.length := by omega
      have hx : fs[k]? = some fs[k] := List.getElem?_eq_getElem hlt
      have hmem := HV.out.found _ (List.getElem_mem hlt)
      generalize fs[k] = c at hx hmem
      have HX := Lib.hid hx
      have hn := HNW.out k c hx
      obtain ⟨fb, fo, hFe⟩ := HB.out.base (by omega)
      subst hFe
      obtain ⟨C, cc, F, f, f0, f1, f2, _, _, hC, hF⟩ := (HB.out.ext hE4).at hx
      have hic : (i : Int) < c.new.length := by omega
      obtain ⟨gb, go, hCe⟩ := hC.base (by omega)
      subst hCe
      have t0 := hC.at hn
      clear hmem hC hF f0 f2 hx hn
      by_cases hcm : a ≤ c.minute
      · rw [if_pos hcm] at t0
        have hro : readOf (lo6 x.when_ 0 i) (hi6 x.when_ 0 i) c.minute = 1 := by rw [HHI.out]; simp [readOf, hcm]
        have HRO := Lib.hid hro
        clear hro hcm
        go_wp2_with (first
          | (go_at_call 17; refine (copyR n last (some ⟨kb, 0, none⟩) (some ⟨fb, fo, none⟩) ms fs 1 caf _ HV.out (HA.out.ext hE4) (HB.out.ext hE4)).mono ?_; rintro e w5 ⟨A', B', cm', ck', rfl, hM', hF', hTB', hE5⟩)
          | (go_at_call 19; refine (Read6 n last A' B' ms fs cm' ck' 0 k i c x _ HV.out HW.out hM' (RdL.imp RFoundN.plain hF') (by omega) HX.out (by rw [HXF.out, List.getElem?_replicate, if_pos hlt]; rfl) hi).mono ?_; rw [HRO.out]; rintro e w6 ⟨rfl, hE6⟩))
        go_roundg (gk - 1)
        case measure => have := HK4.out; omega
        case rel => exact ⟨k + 1, by have := HK4.out; omega, by go_num, hE4.trans (hE5.trans hE6)⟩
      · rw [if_neg hcm] at t0
        have hro : readOf (lo6 x.when_ 0 i) (hi6 x.when_ 0 i) c.minute = 2 := by rw [HHI.out, HLO.out]; simp only [readOf]; rw [if_neg hcm, if_pos (by omega)]
        have HRO := Lib.hid hro
        clear hro hcm
        go_wp2_with (first
          | (go_at_call 17; refine (copyR n last (some ⟨kb, 0, none⟩) (some ⟨fb, fo, none⟩) ms fs 1 caf _ HV.out (HA.out.ext hE4) (HB.out.ext hE4)).mono ?_; rintro e w5 ⟨A', B', cm', ck', rfl, hM', hF', hTB', hE5⟩)
          | (go_at_call 19; refine (Read6 n last A' B' ms fs cm' ck' 0 k i c x _ HV.out HW.out hM' (RdL.imp RFoundN.plain hF') (by omega) HX.out (by rw [HXF.out, List.getElem?_replicate, if_pos hlt]; rfl) hi).mono ?_; rw [HRO.out]; rintro e w6 ⟨rfl, hE6⟩))
        go_roundg (gk - 1)
        case measure => have := HK4.out; omega
        case rel => exact ⟨k + 1, by have := HK4.out; omega, by go_num, hE4.trans (hE5.trans hE6)⟩
    · clear hk
      have hkk : (k : Int) = fs.length := by have := HK4.out; omega
      clear hlt
      go_wp2_with fail
      exact HEX.out _ _ _ _ _ _ _ _ _ _ _ _ _ _ _ _ _ _ _ _ _ _ _ _ _ _ _ _ _ _ _ _ _ _ _ _ _ _ hE4
end Go.Proofs.Ytloenmikkkklhaa

/- For ConcreteWithin: functions of the program, walked beside Lean functions that say what they compute. -/
import Derived.Test.YtcejopopgcglpaaGreatDoorProg
import Derived.Test.YtcejopopgcglpaaGreatDoorSC
import Derived.Outline
import Derived.WalkSpells
import Derived.WalkLawsBesides
import Derived.Lib.Hide
import Derived.BigQuiet
import Derived.Deep.QuietTactic
import Derived.Deep.Upon
import Derived.Test.YtcejopopgcglpaaGreatDoorSl
import Derived.Shelf.Strings.Builder1
import Derived.Shelf.Strconv.Itoa3
import Derived.Shelf.Strconv.AppendIntPublic10
import Derived.Ground.NamesProg
import Derived.Shelf.RegionOpenPlain
import Derived.Lib.Builder
import Derived.Lib.UnsafeStr
import Derived.Laws.Externs
import Derived.Lib.ItoaLen
import Derived.Laws.IdiomStrings
import Derived.Lib.BufferRead
set_option linter.unusedVariables false
set_option linter.unusedSimpArgs false
set_option linter.unusedSectionVars false
namespace Go.Proofs.YtcejopopgcglpaaGreatDoor
open Sv Tryz
set_option maxRecDepth 1000000
abbrev aT:T TypeInfo:=T.nil
abbrev aU (a:TypeInfo) (l r:T TypeInfo):T TypeInfo:=T.node (some a) l r
abbrev aY:T Func:=T.nil
abbrev aZ (a:Func) (l r:T Func):T Func:=T.node (some a) l r
noncomputable def FQ:T TypeInfo:=(aU t0 (aU t1 (aU t3 (aU t7 (aU t15 (aU t31 (aU t63 (aU t127 (aU t255 aT aT) (aU t383 aT aT)) (aU t191 (aU t319 aT aT) aT)) (aU t95 (aU t159 (aU t287 aT aT) aT) (aU t223 (aU t351 aT aT) aT))) (aU t47 (aU t79 (aU t143 (aU t271 aT aT) aT) (aU t207 (aU t335 aT aT) aT)) (aU t111 (aU t175 (aU t303 aT aT) aT) (aU t239 (aU t367 aT aT) aT)))) (aU t23 (aU t39 (aU t71 (aU t135 (aU t263 aT aT) aT) (aU t199 (aU t327 aT aT) aT)) (aU t103 (aU t167 (aU t295 aT aT) aT) (aU t231 (aU t359 aT aT) aT))) (aU t55 (aU t87 (aU t151 (aU t279 aT aT) aT) (aU t215 (aU t343 aT aT) aT)) (aU t119 (aU t183 (aU t311 aT aT) aT) (aU t247 (aU t375 aT aT) aT))))) (aU t11 (aU t19 (aU t35 (aU t67 (aU t131 (aU t259 aT aT) (aU t387 aT aT)) (aU t195 (aU t323 aT aT) aT)) (aU t99 (aU t163 (aU t291 aT aT) aT) (aU t227 (aU t355 aT aT) aT))) (aU t51 (aU t83 (aU t147 (aU t275 aT aT) aT) (aU t211 (aU t339 aT aT) aT)) (aU t115 (aU t179 (aU t307 aT aT) aT) (aU t243 (aU t371 aT aT) aT)))) (aU t27 (aU t43 (aU t75 (aU t139 (aU t267 aT aT) aT) (aU t203 (aU t331 aT aT) aT)) (aU t107 (aU t171 (aU t299 aT aT) aT) (aU t235 (aU t363 aT aT) aT))) (aU t59 (aU t91 (aU t155 (aU t283 aT aT) aT) (aU t219 (aU t347 aT aT) aT)) (aU t123 (aU t187 (aU t315 aT aT) aT) (aU t251 (aU t379 aT aT) aT)))))) (aU t5 (aU t9 (aU t17 (aU t33 (aU t65 (aU t129 (aU t257 aT aT) (aU t385 aT aT)) (aU t193 (aU t321 aT aT) aT)) (aU t97 (aU t161 (aU t289 aT aT) aT) (aU t225 (aU t353 aT aT) aT))) (aU t49 (aU t81 (aU t145 (aU t273 aT aT) aT) (aU t209 (aU t337 aT aT) aT)) (aU t113 (aU t177 (aU t305 aT aT) aT) (aU t241 (aU t369 aT aT) aT)))) (aU t25 (aU t41 (aU t73 (aU t137 (aU t265 aT aT) aT) (aU t201 (aU t329 aT aT) aT)) (aU t105 (aU t169 (aU t297 aT aT) aT) (aU t233 (aU t361 aT aT) aT))) (aU t57 (aU t89 (aU t153 (aU t281 aT aT) aT) (aU t217 (aU t345 aT aT) aT)) (aU t121 (aU t185 (aU t313 aT aT) aT) (aU t249 (aU t377 aT aT) aT))))) (aU t13 (aU t21 (aU t37 (aU t69 (aU t133 (aU t261 aT aT) (aU t389 aT aT)) (aU t197 (aU t325 aT aT) aT)) (aU t101 (aU t165 (aU t293 aT aT) aT) (aU t229 (aU t357 aT aT) aT))) (aU t53 (aU t85 (aU t149 (aU t277 aT aT) aT) (aU t213 (aU t341 aT aT) aT)) (aU t117 (aU t181 (aU t309 aT aT) aT) (aU t245 (aU t373 aT aT) aT)))) (aU t29 (aU t45 (aU t77 (aU t141 (aU t269 aT aT) aT) (aU t205 (aU t333 aT aT) aT)) (aU t109 (aU t173 (aU t301 aT aT) aT) (aU t237 (aU t365 aT aT) aT))) (aU t61 (aU t93 (aU t157 (aU t285 aT aT) aT) (aU t221 (aU t349 aT aT) aT)) (aU t125 (aU t189 (aU t317 aT aT) aT) (aU t253 (aU t381 aT aT) aT))))))) (aU t2 (aU t4 (aU t8 (aU t16 (aU t32 (aU t64 (aU t128 (aU t256 aT aT) (aU t384 aT aT)) (aU t192 (aU t320 aT aT) aT)) (aU t96 (aU t160 (aU t288 aT aT) aT) (aU t224 (aU t352 aT aT) aT))) (aU t48 (aU t80 (aU t144 (aU t272 aT aT) aT) (aU t208 (aU t336 aT aT) aT)) (aU t112 (aU t176 (aU t304 aT aT) aT) (aU t240 (aU t368 aT aT) aT)))) (aU t24 (aU t40 (aU t72 (aU t136 (aU t264 aT aT) aT) (aU t200 (aU t328 aT aT) aT)) (aU t104 (aU t168 (aU t296 aT aT) aT) (aU t232 (aU t360 aT aT) aT))) (aU t56 (aU t88 (aU t152 (aU t280 aT aT) aT) (aU t216 (aU t344 aT aT) aT)) (aU t120 (aU t184 (aU t312 aT aT) aT) (aU t248 (aU t376 aT aT) aT))))) (aU t12 (aU t20 (aU t36 (aU t68 (aU t132 (aU t260 aT aT) (aU t388 aT aT)) (aU t196 (aU t324 aT aT) aT)) (aU t100 (aU t164 (aU t292 aT aT) aT) (aU t228 (aU t356 aT aT) aT))) (aU t52 (aU t84 (aU t148 (aU t276 aT aT) aT) (aU t212 (aU t340 aT aT) aT)) (aU t116 (aU t180 (aU t308 aT aT) aT) (aU t244 (aU t372 aT aT) aT)))) (aU t28 (aU t44 (aU t76 (aU t140 (aU t268 aT aT) aT) (aU t204 (aU t332 aT aT) aT)) (aU t108 (aU t172 (aU t300 aT aT) aT) (aU t236 (aU t364 aT aT) aT))) (aU t60 (aU t92 (aU t156 (aU t284 aT aT) aT) (aU t220 (aU t348 aT aT) aT)) (aU t124 (aU t188 (aU t316 aT aT) aT) (aU t252 (aU t380 aT aT) aT)))))) (aU t6 (aU t10 (aU t18 (aU t34 (aU t66 (aU t130 (aU t258 aT aT) (aU t386 aT aT)) (aU t194 (aU t322 aT aT) aT)) (aU t98 (aU t162 (aU t290 aT aT) aT) (aU t226 (aU t354 aT aT) aT))) (aU t50 (aU t82 (aU t146 (aU t274 aT aT) aT) (aU t210 (aU t338 aT aT) aT)) (aU t114 (aU t178 (aU t306 aT aT) aT) (aU t242 (aU t370 aT aT) aT)))) (aU t26 (aU t42 (aU t74 (aU t138 (aU t266 aT aT) aT) (aU t202 (aU t330 aT aT) aT)) (aU t106 (aU t170 (aU t298 aT aT) aT) (aU t234 (aU t362 aT aT) aT))) (aU t58 (aU t90 (aU t154 (aU t282 aT aT) aT) (aU t218 (aU t346 aT aT) aT)) (aU t122 (aU t186 (aU t314 aT aT) aT) (aU t250 (aU t378 aT aT) aT))))) (aU t14 (aU t22 (aU t38 (aU t70 (aU t134 (aU t262 aT aT) aT) (aU t198 (aU t326 aT aT) aT)) (aU t102 (aU t166 (aU t294 aT aT) aT) (aU t230 (aU t358 aT aT) aT))) (aU t54 (aU t86 (aU t150 (aU t278 aT aT) aT) (aU t214 (aU t342 aT aT) aT)) (aU t118 (aU t182 (aU t310 aT aT) aT) (aU t246 (aU t374 aT aT) aT)))) (aU t30 (aU t46 (aU t78 (aU t142 (aU t270 aT aT) aT) (aU t206 (aU t334 aT aT) aT)) (aU t110 (aU t174 (aU t302 aT aT) aT) (aU t238 (aU t366 aT aT) aT))) (aU t62 (aU t94 (aU t158 (aU t286 aT aT) aT) (aU t222 (aU t350 aT aT) aT)) (aU t126 (aU t190 (aU t318 aT aT) aT) (aU t254 (aU t382 aT aT) aT))))))))
noncomputable def GA:T Func:=(aZ f0 (aZ f1 (aZ f3 (aZ f7 (aZ f15 (aZ f31 (aZ f63 (aZ f127 (aZ f255 aY aY) aY) (aZ f191 (aZ f319 aY aY) aY)) (aZ f95 (aZ f159 (aZ f287 aY aY) aY) (aZ f223 (aZ f351 aY aY) aY))) (aZ f47 (aZ f79 (aZ f143 (aZ f271 aY aY) aY) (aZ f207 (aZ f335 aY aY) aY)) (aZ f111 (aZ f175 (aZ f303 aY aY) aY) (aZ f239 aY aY)))) (aZ f23 (aZ f39 (aZ f71 (aZ f135 (aZ f263 aY aY) aY) (aZ f199 (aZ f327 aY aY) aY)) (aZ f103 (aZ f167 (aZ f295 aY aY) aY) (aZ f231 aY aY))) (aZ f55 (aZ f87 (aZ f151 (aZ f279 aY aY) aY) (aZ f215 (aZ f343 aY aY) aY)) (aZ f119 (aZ f183 (aZ f311 aY aY) aY) (aZ f247 aY aY))))) (aZ f11 (aZ f19 (aZ f35 (aZ f67 (aZ f131 (aZ f259 aY aY) aY) (aZ f195 (aZ f323 aY aY) aY)) (aZ f99 (aZ f163 (aZ f291 aY aY) aY) (aZ f227 (aZ f355 aY aY) aY))) (aZ f51 (aZ f83 (aZ f147 (aZ f275 aY aY) aY) (aZ f211 (aZ f339 aY aY) aY)) (aZ f115 (aZ f179 (aZ f307 aY aY) aY) (aZ f243 aY aY)))) (aZ f27 (aZ f43 (aZ f75 (aZ f139 (aZ f267 aY aY) aY) (aZ f203 (aZ f331 aY aY) aY)) (aZ f107 (aZ f171 (aZ f299 aY aY) aY) (aZ f235 aY aY))) (aZ f59 (aZ f91 (aZ f155 (aZ f283 aY aY) aY) (aZ f219 (aZ f347 aY aY) aY)) (aZ f123 (aZ f187 (aZ f315 aY aY) aY) (aZ f251 aY aY)))))) (aZ f5 (aZ f9 (aZ f17 (aZ f33 (aZ f65 (aZ f129 (aZ f257 aY aY) aY) (aZ f193 (aZ f321 aY aY) aY)) (aZ f97 (aZ f161 (aZ f289 aY aY) aY) (aZ f225 (aZ f353 aY aY) aY))) (aZ f49 (aZ f81 (aZ f145 (aZ f273 aY aY) aY) (aZ f209 (aZ f337 aY aY) aY)) (aZ f113 (aZ f177 (aZ f305 aY aY) aY) (aZ f241 aY aY)))) (aZ f25 (aZ f41 (aZ f73 (aZ f137 (aZ f265 aY aY) aY) (aZ f201 (aZ f329 aY aY) aY)) (aZ f105 (aZ f169 (aZ f297 aY aY) aY) (aZ f233 aY aY))) (aZ f57 (aZ f89 (aZ f153 (aZ f281 aY aY) aY) (aZ f217 (aZ f345 aY aY) aY)) (aZ f121 (aZ f185 (aZ f313 aY aY) aY) (aZ f249 aY aY))))) (aZ f13 (aZ f21 (aZ f37 (aZ f69 (aZ f133 (aZ f261 aY aY) aY) (aZ f197 (aZ f325 aY aY) aY)) (aZ f101 (aZ f165 (aZ f293 aY aY) aY) (aZ f229 aY aY))) (aZ f53 (aZ f85 (aZ f149 (aZ f277 aY aY) aY) (aZ f213 (aZ f341 aY aY) aY)) (aZ f117 (aZ f181 (aZ f309 aY aY) aY) (aZ f245 aY aY)))) (aZ f29 (aZ f45 (aZ f77 (aZ f141 (aZ f269 aY aY) aY) (aZ f205 (aZ f333 aY aY) aY)) (aZ f109 (aZ f173 (aZ f301 aY aY) aY) (aZ f237 aY aY))) (aZ f61 (aZ f93 (aZ f157 (aZ f285 aY aY) aY) (aZ f221 (aZ f349 aY aY) aY)) (aZ f125 (aZ f189 (aZ f317 aY aY) aY) (aZ f253 aY aY))))))) (aZ f2 (aZ f4 (aZ f8 (aZ f16 (aZ f32 (aZ f64 (aZ f128 (aZ f256 aY aY) aY) (aZ f192 (aZ f320 aY aY) aY)) (aZ f96 (aZ f160 (aZ f288 aY aY) aY) (aZ f224 (aZ f352 aY aY) aY))) (aZ f48 (aZ f80 (aZ f144 (aZ f272 aY aY) aY) (aZ f208 (aZ f336 aY aY) aY)) (aZ f112 (aZ f176 (aZ f304 aY aY) aY) (aZ f240 aY aY)))) (aZ f24 (aZ f40 (aZ f72 (aZ f136 (aZ f264 aY aY) aY) (aZ f200 (aZ f328 aY aY) aY)) (aZ f104 (aZ f168 (aZ f296 aY aY) aY) (aZ f232 aY aY))) (aZ f56 (aZ f88 (aZ f152 (aZ f280 aY aY) aY) (aZ f216 (aZ f344 aY aY) aY)) (aZ f120 (aZ f184 (aZ f312 aY aY) aY) (aZ f248 aY aY))))) (aZ f12 (aZ f20 (aZ f36 (aZ f68 (aZ f132 (aZ f260 aY aY) aY) (aZ f196 (aZ f324 aY aY) aY)) (aZ f100 (aZ f164 (aZ f292 aY aY) aY) (aZ f228 (aZ f356 aY aY) aY))) (aZ f52 (aZ f84 (aZ f148 (aZ f276 aY aY) aY) (aZ f212 (aZ f340 aY aY) aY)) (aZ f116 (aZ f180 (aZ f308 aY aY) aY) (aZ f244 aY aY)))) (aZ f28 (aZ f44 (aZ f76 (aZ f140 (aZ f268 aY aY) aY) (aZ f204 (aZ f332 aY aY) aY)) (aZ f108 (aZ f172 (aZ f300 aY aY) aY) (aZ f236 aY aY))) (aZ f60 (aZ f92 (aZ f156 (aZ f284 aY aY) aY) (aZ f220 (aZ f348 aY aY) aY)) (aZ f124 (aZ f188 (aZ f316 aY aY) aY) (aZ f252 aY aY)))))) (aZ f6 (aZ f10 (aZ f18 (aZ f34 (aZ f66 (aZ f130 (aZ f258 aY aY) aY) (aZ f194 (aZ f322 aY aY) aY)) (aZ f98 (aZ f162 (aZ f290 aY aY) aY) (aZ f226 (aZ f354 aY aY) aY))) (aZ f50 (aZ f82 (aZ f146 (aZ f274 aY aY) aY) (aZ f210 (aZ f338 aY aY) aY)) (aZ f114 (aZ f178 (aZ f306 aY aY) aY) (aZ f242 aY aY)))) (aZ f26 (aZ f42 (aZ f74 (aZ f138 (aZ f266 aY aY) aY) (aZ f202 (aZ f330 aY aY) aY)) (aZ f106 (aZ f170 (aZ f298 aY aY) aY) (aZ f234 aY aY))) (aZ f58 (aZ f90 (aZ f154 (aZ f282 aY aY) aY) (aZ f218 (aZ f346 aY aY) aY)) (aZ f122 (aZ f186 (aZ f314 aY aY) aY) (aZ f250 aY aY))))) (aZ f14 (aZ f22 (aZ f38 (aZ f70 (aZ f134 (aZ f262 aY aY) aY) (aZ f198 (aZ f326 aY aY) aY)) (aZ f102 (aZ f166 (aZ f294 aY aY) aY) (aZ f230 aY aY))) (aZ f54 (aZ f86 (aZ f150 (aZ f278 aY aY) aY) (aZ f214 (aZ f342 aY aY) aY)) (aZ f118 (aZ f182 (aZ f310 aY aY) aY) (aZ f246 aY aY)))) (aZ f30 (aZ f46 (aZ f78 (aZ f142 (aZ f270 aY aY) aY) (aZ f206 (aZ f334 aY aY) aY)) (aZ f110 (aZ f174 (aZ f302 aY aY) aY) (aZ f238 aY aY))) (aZ f62 (aZ f94 (aZ f158 (aZ f286 aY aY) aY) (aZ f222 (aZ f350 aY aY) aY)) (aZ f126 (aZ f190 (aZ f318 aY aY) aY) (aZ f254 aY aY))))))))
theorem JQ:T.lay T.nil 0 Tryz.prog.types.toList=some FQ:=by kernel_rfl
theorem KX:T.lay T.nil 0 Tryz.prog.funcs.toList=some GA:=by kernel_rfl
noncomputable def NF (fn:Func):Bool:= !(fn.name== "runtime.NumGoroutine")
theorem ND:Tryz.prog.funcs.toList.all NF=true:=by kernel_rfl
end Go.Proofs.YtcejopopgcglpaaGreatDoor
namespace Go.Proofs.YtcejopopgcglpaaGreatDoor
open Sv
set_option maxRecDepth 1000000
noncomputable def eqsT:List TypeId:=[7,8,23,24,26,27,28,29,32,33,34,35,40,41,48,49,60,61,63,64,65,66,69,70,72,73,86,87,88,89,96,97,109,110,137,138,156,157,159,160,161,162,181,182,187,258,259,277,278,290,293,294,368,374,375,376,377,380]
noncomputable def U6:Env:={types:=FQ,funcs:=GA,eqs:=eqsT}
noncomputable def eqOk (t:TypeId):Bool:= !(Tryz.prog.stoodInHeld t)&& !(Tryz.prog.eqGuardType Tryz.prog.depth t)
noncomputable instance:lW:=⟨(Tryz.prog.globalNamed "internal/strconv.uint64pow10").getD 0⟩
theorem U4:eqsT.all eqOk=true:=by kernel_rfl
theorem ae:bz Tryz.prog U6 where
 types:=fun t i h=>by
  have:=T.vE JQ t
  have h:FQ.get t=some i:=h
  rw[h] at this
  split at this
  ·rename_i hlt
   simp only[X2] at this
   have hlt2:t<Tryz.prog.types.size:=by simpa using hlt.2
   show Tables.info? _ t=some i
   unfold Tables.info?
   rw[HP hlt2,<-XX]
   exact this.symm
  ·cases this
 funcs:=fun f fn h=>by
  have:=T.vE KX f
  have h:GA.get f=some fn:=h
  rw[h] at this
  split at this
  ·simp only[X2] at this
   refine⟨by rw[<-XX];exact this.symm,?_⟩
   have hm:=XA.1 ND fn (V6 this.symm)
   unfold NF at hm
   simpa using hm
  ·cases this
 mixed:=by kernel_rfl
 eqs:=fun t ht=>by
  have:=XA.1 U4 t ht
  unfold eqOk at this
  simpa using this
end Go.Proofs.YtcejopopgcglpaaGreatDoor
namespace Go.Proofs.YtcejopopgcglpaaGreatDoor
open Go.RowKit
set_option maxRecDepth 100000
set_option maxHeartbeats 1000000
theorem mo {P:Program} {t e:TypeId} (hu:P.underlying t=some (.slice e)) (a:Option Addr) (n cap:Nat) (w:World):(binOp .eql t (.slice a n cap) (.slice none 0 0)).run P w= .ok (.bool a.isNone) w:=by
 rw[Sv.wW t (.slice a n cap) (.slice none 0 0) rfl]
 unfold Op.equal
 rw[show Op.maxDepth=9999+1 from rfl]
 generalize 9999=d
 cases a<;>simp[Op.equalIn,run_underlying hu]
theorem lq {f:FuncId} {fn:Func} {body:Code} (hf:Sv.T.get U6.funcs f=some fn) (hb:fn.body=some body)
  (h:∀(a:Option Addr) (cap:Nat) (w:World),Calls Tryz.prog f #[.slice a 0 cap] w fun e w'=>∃b,e= .returned (.slice b 0 0)/\Sv.dj w w'):Sv.Has Tryz.prog f [.aK false []] fun s=>s= .aK true []:=by
 refine⟨.aK true [],⟨⟨fn,body,(ae.funcs f fn hf).1,(ae.funcs f fn hf).2,hb⟩,rfl,rfl,fun{fz w vs} hfz hd=> ?_⟩,rfl⟩
 obtain⟨v,l,hv,hl,rfl⟩:=hd
 cases hl
 have e:∃a cap,v= .slice a 0 cap:=by
  rcases hv with⟨_,a,cap,h1,_⟩|⟨b,base,size,cap,h1,_⟩
  ·exact⟨a,cap,h1⟩
  ·exact⟨_,cap,h1⟩
 obtain⟨a,cap,rfl⟩:=e
 refine(h a cap w).mono fun e w' ⟨b,he,g⟩=>⟨_,he,fz,fun _ _ _ h=>h,fun _ _ _ h=> .inl h,fun b i v hv=> ?_,g,.inl ⟨rfl,b,0,rfl,fun _=>rfl⟩⟩
 obtain⟨arr,e,f,h1,h2⟩:=hfz b i v hv
 have hlt:b<w.heap.size:=by
  rw[Wl] at h1
  exact h1.1
 exact⟨arr,e,f,by rw[g.old b hlt];exact h1,h2⟩
theorem xY {f:FuncId} {fn:Func} {body:Code} (hf:Sv.T.get U6.funcs f=some fn) (hb:fn.body=some body)
  (h:∀(a:Option Addr) (cap:Nat) (w:World),Calls Tryz.prog f #[.slice a 0 cap] w fun e w'=>∃b,e= .returned (.slice b 0 0)/\Sv.dj w w'):Sv.Has Tryz.prog f [.aK false []] fun s=>s= .aK false []:=by
 refine⟨.aK false [],⟨⟨fn,body,(ae.funcs f fn hf).1,(ae.funcs f fn hf).2,hb⟩,rfl,rfl,fun{fz w vs} hfz hd=> ?_⟩,rfl⟩
 obtain⟨v,l,hv,hl,rfl⟩:=hd
 cases hl
 have e:∃a cap,v= .slice a 0 cap:=by
  rcases hv with⟨_,a,cap,h1,_⟩|⟨b,base,size,cap,h1,_⟩
  ·exact⟨a,cap,h1⟩
  ·exact⟨_,cap,h1⟩
 obtain⟨a,cap,rfl⟩:=e
 refine(h a cap w).mono fun e w' ⟨b,he,g⟩=>⟨_,he,fz,fun _ _ _ h=>h,fun _ _ _ h=> .inl h,fun b i v hv=> ?_,g,.inl ⟨rfl,b,0,rfl,fun h=>by cases h⟩⟩
 obtain⟨arr,e,f,h1,h2⟩:=hfz b i v hv
 have hlt:b<w.heap.size:=by
  rw[Wl] at h1
  exact h1.1
 exact⟨arr,e,f,by rw[g.old b hlt];exact h1,h2⟩
theorem oQ (a:Option Addr) (cap:Nat) (w:World):Calls Tryz.prog 113 #[.slice a 0 cap] w fun e w'=>∃b,e= .returned (.slice b 0 0)/\Sv.dj w w':=by
 have hq:=mo (P:=Tryz.prog) Tryz.underlying136 a 0 cap
 rcases a with _|p
 ·simp only[Yq] at hq
  go_enter Tryz.func113,Tryz.ntmps113
  go_wp2
  go_ret
  exact⟨_,rfl,Sv.dj.refl w⟩
 ·simp only[Yp] at hq
  go_enter Tryz.func113,Tryz.ntmps113
  go_wp2
  go_ret
  exact⟨_,rfl,Sv.dj.alloc w _⟩
theorem P2:Sv.Has Tryz.prog 113 [.aK false []] fun s=>s= .aK true []:=lq (fn:=Tryz.f113) rfl rfl oQ
theorem ye (a:Option Addr) (cap:Nat) (w:World):Calls Tryz.prog 84 #[.slice a 0 cap] w fun e w'=>∃b,e= .returned (.slice b 0 0)/\Sv.dj w w':=by
 have hq:=mo (P:=Tryz.prog) Tryz.underlying47 a 0 cap
 rcases a with _|p
 ·simp only[Yq] at hq
  go_enter Tryz.func84,Tryz.ntmps84
  go_wp2
  go_ret
  exact⟨_,rfl,Sv.dj.refl w⟩
 ·simp only[Yp] at hq
  go_enter Tryz.func84,Tryz.ntmps84
  go_wp2
  go_ret
  exact⟨_,rfl,Sv.dj.alloc w _⟩
theorem oP:Sv.Has Tryz.prog 84 [.aK false []] fun s=>s= .aK true []:=lq (fn:=Tryz.f84) rfl rfl ye
theorem yf (a:Option Addr) (cap:Nat) (w:World):Calls Tryz.prog 88 #[.slice a 0 cap] w fun e w'=>∃b,e= .returned (.slice b 0 0)/\Sv.dj w w':=by
 have hq:=mo (P:=Tryz.prog) Tryz.underlying38 a 0 cap
 rcases a with _|p
 ·simp only[Yq] at hq
  go_enter Tryz.func88,Tryz.ntmps88
  go_wp2
  go_ret
  exact⟨_,rfl,Sv.dj.refl w⟩
 ·simp only[Yp] at hq
  go_enter Tryz.func88,Tryz.ntmps88
  go_wp2
  go_ret
  exact⟨_,rfl,Sv.dj.alloc w _⟩
theorem yg:Sv.Has Tryz.prog 88 [.aK false []] fun s=>s= .aK true []:=lq (fn:=Tryz.f88) rfl rfl yf
end Go.Proofs.YtcejopopgcglpaaGreatDoor
namespace Go.Proofs.YtcejopopgcglpaaGreatDoor
open Go.Shelf Go.RowKit
set_option maxRecDepth 100000
theorem ql:(Tryz.prog.info? 294).map (fun i=>i.size)=some 2:=by kernel_rfl
set_option maxHeartbeats 1000000 in
set_option maxRecDepth 100000 in
theorem tg (b:Nat) (w:World) (h0:w.cell? ⟨b,0,none⟩=some (.pointer none)) (hsh:w.shape? b=some (294,2)) (hfz:w.frozen? ⟨b,0,none⟩=false):
  Calls Tryz.prog 281 #[.pointer (some ⟨b,0,none⟩)] w fun e w'=>e= .returned (.tuple #[])/\w'=w.setCell ⟨b,0,none⟩ (.pointer (some ⟨b,0,none⟩)):=by
 obtain⟨j,hj,hjs⟩:=XS.1 ql
 go_enter Tryz.func281,Tryz.ntmps281
 go_wp2
 rw[Lib.run_to_unsafe w ⟨b,0,none⟩ Tryz.underlying291 Tryz.underlying359 hj (by rw[hjs];decide) hsh (Nat.zero_lt_succ 1)]
 simp only[Result.andThen]
 rw[Oper.upon_value]
 go_wp2
 rw[run_callFunc_extern Tryz.func314 (by kernel_rfl) (by kernel_rfl) (by kernel_rfl) (e:=Extern.AbiNoEscape.same) (by kernel_rfl)]
 rw[Lib.run_noEscape]
 simp only[Result.andThen]
 rw[Oper.upon_value]
 go_wp2
 rw[Lib.run_from_unsafe w ⟨b,0,none⟩ Tryz.underlying359 Tryz.underlying291 hj hsh (by kernel_rfl)]
 simp only[Result.andThen]
 rw[Oper.upon_value]
 go_wp2
 go_end0
 exact⟨rfl,rfl⟩
theorem wh (b:Nat) (w:World) (h0:w.cell? ⟨b,0,none⟩=some (.pointer (some ⟨b,0,none⟩))):
  Calls Tryz.prog 281 #[.pointer (some ⟨b,0,none⟩)] w fun e w'=>e= .returned (.tuple #[])/\w'=w:=by
 obtain⟨j,hj,hjs⟩:=XS.1 ql
 go_enter Tryz.func281,Tryz.ntmps281
 go_wp2
 rw[Lib.run_neq_ptr_same w _ Tryz.underlying291 hj]
 go_wp2
 go_end0
 exact⟨rfl,rfl⟩
theorem Bn (B b:Nat) (bs:List Value) (w:World) (h:Lib.IsBuilder 294 5 B b bs w):
  Calls Tryz.prog 281 #[.pointer (some ⟨b,0,none⟩)] w fun e w'=>e= .returned (.tuple #[])/\(Lib.BuilderAt 294 5 B b (.pointer (some ⟨b,0,none⟩)) bs w'/\Below B w w'):=by
 rcases h with h|h
 ·refine(tg b w h.cell0 h.shape h.frozen0).mono ?_
  rintro e w' ⟨rfl,rfl⟩
  exact⟨rfl,h.used _,(Below.refl B w).setCell h.1 _⟩
 ·refine(wh b w h.cell0).mono ?_
  rintro e w' ⟨rfl,rfl⟩
  exact⟨rfl,h,Below.refl B _⟩
theorem vY:Builder.Extra Tryz.prog Tryz.lays169_ren where
 sizeBuilder:=by kernel_rfl
 liesBuilder:=by kernel_rfl
 t5:=Tryz.underlying5
 a5:=Tryz.isAgg5
 z5:=Tryz.sizeOf5
 v5:=Tryz.zeroValue5
 infoByte:=by kernel_rfl
 cellsByte:=by kernel_rfl
 sizeByte:=by kernel_rfl
 neB5:=by decide
set_option maxHeartbeats 2000000 in
theorem BY (B b:Nat) (bs:List Value) (s:ByteArray) (w:World) (h:Lib.IsBuilder 294 5 B b bs w) (hlen:bs.length+s.size<=140737488355328) (hBw:B<=w.heap.size):
  Calls Tryz.prog 227 #[.pointer (some ⟨b,0,none⟩),.string s] w fun e w'=>e= .returned (.tuple #[.int .i64 s.size,.nilIface])/\(Lib.BuilderAt 294 5 B b (.pointer (some ⟨b,0,none⟩)) (bs++Lib.strCells s) w'/\Below B w w'):=by
 obtain⟨i0,hi,hz0,hz1,hz2⟩:=info_parts vY.infoByte
 go_enter Tryz.func227,Tryz.ntmps227
 go_wp2_with (go_at_call 281;refine(Bn B b bs _ h).mono ?_)
 rintro e w1 ⟨rfl,h1,hb1⟩
 obtain⟨hB,v,hbk,hown,hne⟩:=h1
 have c0:w1.cell? ⟨b,0,none⟩=some (.pointer (some ⟨b,0,none⟩)):=by rw[Lib.cell_of_heap hbk];rfl
 have c1:w1.cell? ⟨b,1,none⟩=some v:=by rw[Lib.cell_of_heap hbk];rfl
 go_wp2_with (at_builtin;refine Lib.wpList_append_own_string _ rfl _ _ 292 9 rfl B 5 i0 Tryz.underlying292 Tryz.underlying9 hi hz0 hz1 hz2 _ _ _ rfl hown s rfl ?c3 ?c4 ?c5 ?_)
 case c3=>unfold maxLen;omega
 case c4=>omega
 case c5=>have:=hb1.size;omega
 intro v' w2 hown' hgrow _
 have hlt:b<w1.heap.size:=by
  rcases WI b w1.heap.size with h'|h'
  ·exact h'
  ·simp[Array.getElem?_eq_none h'] at hbk
 have hb2:w2.heap[b]? =some (.cells #[.pointer (some ⟨b,0,none⟩),v] 294 (0,0)):=by
  rw[hgrow.block b hlt (fun e=>hne e.symm)]
  exact hbk
 have d0:w2.cell? ⟨b,0,none⟩=some (.pointer (some ⟨b,0,none⟩)):=by rw[Lib.cell_of_heap hb2];rfl
 have d1:w2.cell? ⟨b,1,none⟩=some v:=by rw[Lib.cell_of_heap hb2];rfl
 have f1:w2.frozen? ⟨b,1,none⟩=false:=Lib.frozen_of_heap hb2 1
 obtain⟨ao,n',cap,rfl⟩:∃ao n' cap,v'= .slice ao n' cap:=by
  rcases hown'.2 with⟨hv,_⟩|⟨g,cap,cur,hv,_⟩
  ·exact⟨_,_,_,hv⟩
  ·exact⟨_,_,_,hv⟩
 go_wp2
 go_ret2
 refine⟨rfl,?_,?_⟩
 ·exact Lib.BuilderAt.put (T:=294) (e:=5) hB hb2 (bs':=bs++Lib.strCells s) (by simpa[Lib.strCells_length] using hown') (by decide)
 ·exact(hb1.grown hgrow (by have:=hb1.size;omega) (fun k hk=>(hown.lt k hk).1)).setCell (p:=⟨b,1,none⟩) hB _
theorem strOf (B b:Nat) (l:List UInt8) (w:World) (h:Lib.IsBuilder 294 5 B b (Lib.byteCells l) w) (hBw:B<=w.heap.size):
  Calls Tryz.prog 229 #[.pointer (some ⟨b,0,none⟩)] w fun e w'=>e= .returned (.string ⟨l.toArray⟩)/\Below B w w':=Any.Builder_String_any Tryz.lays169 vY B b l w h hBw
theorem Ty (n:Int) (h0: -9223372036854775808<=n) (h1:n<=9223372036854775807) (w:World) (htab:Lib.TabIs Tryz.prog w "internal/strconv.uint64pow10" .u64 Lib.pow10Tab):
  Calls Tryz.prog 228 #[.int .i64 n] w fun e w'=>e= .returned (.string ⟨(Lib.itoa n).toArray⟩)/\Below w.heap.size w w':=
 (Any.strconv_Itoa Tryz.lays171 n h0 h1 w htab).mono fun _ _ ⟨h,_,_,e⟩=>⟨h,e▸Lib.below_grow _ _ (V2 _) _ _⟩
theorem Vx (B n:Nat) (i:Int) (h0: -9223372036854775808<=i) (h1:i<=9223372036854775807) (sv:Value) (xs:List Value) (w:World) (hown:w.ownsRow B 5 1 sv n xs) (hBw:B<=w.heap.size) (hlim:n+21<=140737488355328)
  (htab:Lib.TabBelow Tryz.prog B w "internal/strconv.uint64pow10" .u64 Lib.pow10Tab):
  Calls Tryz.prog 283 #[sv,.int .i64 i,.int .i64 10] w fun e w'=>∃v',e= .returned v'/\w'.ownsRow B 5 1 v' (n+(Lib.itoa i).length) (xs++Lib.byteCells (Lib.itoa i))/\Below B w w'/\Lib.OthersKept 5 none w w':=Any.strconv_AppendInt_10 Tryz.lays176 B n i h0 h1 sv xs w hown hBw hlim htab
theorem uu:Tryz.prog.globalNamed "internal/strconv.uint64pow10"=some Sv.lW.g:=by kernel_rfl
end Go.Proofs.YtcejopopgcglpaaGreatDoor
namespace Go.Proofs.YtcejopopgcglpaaGreatDoor
open Sv
set_option maxRecDepth 100000
def Mb (n:Nat) (all:List Sv.Edge):List Sv.Edge->Int->Option (Ctl Bool Unit)
 |[],_=>some (.Fv ())
 |e::r,i=>
  if e.lo>e.hi then some (.ret false) else
  if e.to<0 then some (.ret false) else
  if e.to>=n then some (.ret false) else
  if i>0 then
   (cJ all (i-1)).bind fun p=>if p.hi>=e.lo then some (.ret false) else Mb n all r (i+1)
  else Mb n all r (i+1)
def Qc (n:Nat):List bj->Option Bool
 |[]=>some true
 |s::r=>(aR s.aI).bind fun _=>(Mb n s.aI s.aI 0).bind fun
  | .ret b=>some b
  | .Fv ()=>Qc n r
def FJ (l:List bj):Option Bool:=(aR l).bind fun _=>Qc l.length l
theorem oE {l:List bj} {r:Bool} (hm:FJ l=some r):Has Tryz.prog 112 [aE l] fun s=>s= .bool r:=by
 refine hs ae Tryz.f112 ?_
 unfold FJ at hm
 refine z ?_
 obtain⟨hg1,hm⟩:=ah hm
 refine lg (α:=Nat) ae (fun iw=>(Qc l.length (List.drop iw l)=some r,⟨56,[(9,.int .i64 iw),(8,.int .i64 ↑l.length),(7,aE l),(2,.bool false),(0,aE l)]⟩,⟨[],0,0,[],[]⟩,List.length l-iw)) ⟨(0),hm⟩ ?_
 intro i2 hq2
 dsimp only at hq2
 refine z ?_
 refine zd ?_ ?_<;>intro h3
 obtain⟨x3,ex3,ed3⟩:=av h3
 rw[ed3,Qc] at hq2
 refine z ?_
 obtain⟨hg4,hq2⟩:=ah hq2
 refine bx ex3 rfl (z ?_)
 obtain⟨v5,hv5,hq2⟩:=aa hq2
 refine lg (α:=Nat) ae (fun iw=>(Mb l.length x3.aI (List.drop iw x3.aI) (iw:Int)=some v5,⟨56,[(16,.int .i64 iw),(15,.int .i64 ↑x3.aI.length),(14,.aK false (List.map cR x3.aI)),(4,.ptr 0 0),(9,.int .i64 ↑i2),(8,.int .i64 ↑l.length),(7,aE l),(2,.bool false),(0,aE l)]⟩,⟨[(0,.cells [.bool x3.acc,.aK false (List.map cR x3.aI)])],1,0,[],[]⟩,List.length x3.aI-iw)) ⟨(0),hv5⟩ ?_
 intro i5 hq5
 dsimp only at hq5
 refine z ?_
 refine zd ?_ ?_<;>intro h6
 obtain⟨x6,ex6,ed6⟩:=av h6
 rw[ed6,Mb] at hq5
 refine z ?_
 refine bx ex6 rfl (z ?_)
 refine dg ae [0,1,0,4,15,31,63,127,255,511,1023,2047,4095,2047,10239,32767,65535,131071,262143,524287,1048575,2097151,4194303,2097151,10485759,33554431,67108863,134217727,2097151,270532607,1073741823,2147483647,4294967295] [] (z ?_)
 refine zd ?_ ?_<;>intro h7
 rw[HP h7] at hq5
 cases hq5
 dsimp only at hq2
 refine z ?_
 cases hq2
 exact fc
 rw[TP h7] at hq5
 refine zd ?_ ?_<;>intro h8
 rw[HP h8] at hq5
 cases hq5
 dsimp only at hq2
 refine z ?_
 cases hq2
 exact fc
 rw[TP h8] at hq5
 refine zd ?_ ?_<;>intro h9
 rw[HP h9] at hq5
 cases hq5
 dsimp only at hq2
 refine z ?_
 cases hq2
 exact fc
 rw[TP h9] at hq5
 refine zd ?_ ?_<;>intro h10
 rw[HP h10] at hq5
 obtain⟨j11,x11,en11,ex11,hq5⟩:=az hq5
 refine bD en11 ex11 rfl (z ?_)
 refine zd ?_ ?_<;>intro h12
 rw[HP h12] at hq5
 cases hq5
 dsimp only at hq2
 refine z ?_
 cases hq2
 exact fc
 rw[TP h12] at hq5
 exact bk ⟨i5+1,hq5⟩
 rw[TP h10] at hq5
 exact bk ⟨i5+1,hq5⟩
 rw[aA h6,Mb] at hq5
 cases hq5
 dsimp only at hq2
 refine z ?_
 exact bk ⟨i2+1,hq2⟩
 rw[aA h3,Qc] at hq2
 cases hq2
 exact fc
section
variable {α:Type}
def iQ (g:α->α->Option Bool) (b:List α):List α->Int->Option Bool
 |[],_=>some true
 |x::r,i=>(cJ b i).bind fun y=>(g x y).bind fun ok=>if ok then iQ g b r (i+1) else some false
def ju (g:α->α->Option Bool) (a b:List α):Option Bool:=
 if(a.length:Int)=b.length then(aR a).bind fun _=>iQ g b a 0 else some false
end
theorem GH {fn:FuncId} {cap:List SVal} (hc:aB cap=true) (hw:cH cap=cap) {g:bj->bj->Option Bool} (hg:∀{x y r},g x y=some r->Has Tryz.prog fn (.agg (gT x):: .agg (gT y)::cap) fun s=>s= .bool r) {a b:List bj} {r:Bool} (hm:ju g a b=some r):Has Tryz.prog 196 [aE a,aE b,.func (.func fn) [] cap] fun s=>s= .bool r:=by
 refine hs ae Tryz.f196 ?_
 unfold ju at hm
 refine z ?_
 refine zn ?_ ?_<;>intro h1
 rw[TP h1] at hm
 cases hm
 exact fc
 rw[HP h1] at hm
 obtain⟨hg2,hm⟩:=ah hm
 refine lg (α:=Nat) ae (fun iw=>(iQ g b (List.drop iw a) (iw:Int)=some r,⟨32,[(17,.int .i64 iw),(16,.int .i64 ↑a.length),(15,aE a),(6,.bool false),(1,aE b),(2,.func (.func fn) [] cap)]⟩,⟨[],0,0,[],[]⟩,List.length a-iw)) ⟨(0),hm⟩ ?_
 intro i3 hq3
 dsimp only at hq3
 refine z ?_
 refine zd ?_ ?_<;>intro h4
 obtain⟨x4,ex4,ed4⟩:=av h4
 rw[ed4,iQ] at hq3
 refine z ?_
 refine bx ex4 rfl (z ?_)
 obtain⟨j5,x5,en5,ex5,hq3⟩:=az hq3
 refine bD en5 ex5 rfl (z ?_)
 obtain⟨v6,e6,hq3⟩:=aa hq3
 refine kO (hg e6) (by(simp only[cH,kh,hw];try rfl)) (z ?_)
 refine zm ?_ ?_<;>intro h7
 rw[TP (nt h7)] at hq3
 cases hq3
 exact fc
 rw[HP h7] at hq3
 exact bk ⟨i3+1,hq3⟩
 rw[aA h4,iQ] at hq3
 cases hq3
 exact fc
abbrev Bj (x y:Sv.Edge):Bool:=decide (x.lo=y.lo)&&(decide (x.hi=y.hi)&&(decide (x.to=y.to)&&true))
def iR (b:List Sv.Edge):List Sv.Edge->Int->Option Bool
 |[],_=>some true
 |x::r,i=>(cJ b i).bind fun y=>
  if Bj x y then iR b r (i+1) else some false
def oa (a b:List Sv.Edge):Option Bool:=
 if(a.length:Int)=b.length then(aR a).bind fun _=>iR b a 0 else some false
theorem GI {a b:List Sv.Edge} {r:Bool} (hm:oa a b=some r):Has Tryz.prog 198 [.aK false (a.map cR),.aK false (b.map cR)] fun s=>s= .bool r:=by
 refine hs ae Tryz.f198 ?_
 unfold oa at hm
 refine z ?_
 refine zn ?_ ?_<;>intro h1
 rw[TP h1] at hm
 cases hm
 exact fc
 rw[HP h1] at hm
 obtain⟨hg2,hm⟩:=ah hm
 refine lg (α:=Nat) ae (fun iw=>(iR b (List.drop iw a) (iw:Int)=some r,⟨26,[(13,.int .i64 iw),(12,.int .i64 ↑a.length),(4,.bool false),(0,.aK false (List.map cR a)),(1,.aK false (List.map cR b))]⟩,⟨[],0,0,[],[]⟩,List.length a-iw)) ⟨(0),hm⟩ ?_
 intro i3 hq3
 dsimp only at hq3
 refine z ?_
 refine zd ?_ ?_<;>intro h4
 obtain⟨x4,ex4,ed4⟩:=av h4
 rw[ed4,iR] at hq3
 refine z ?_
 refine dg ae [0,0,3,7,0,0,48,112,255] [] (z ?_)
 refine bx ex4 rfl (z ?_)
 obtain⟨j5,x5,en5,ex5,hq3⟩:=az hq3
 refine bD en5 ex5 rfl (z ?_)
 refine zm ?_ ?_<;>intro h6
 rw[TP (nt h6)] at hq3
 cases hq3
 exact fc
 rw[HP h6] at hq3
 exact bk ⟨i3+1,hq3⟩
 rw[aA h4,iR] at hq3
 cases hq3
 exact fc
def sd (a b:bj):Option Bool:=if(a.acc==b.acc) then oa a.aI b.aI else some false
theorem MS {a b:bj} {r:Bool} (hm:sd a b=some r):Has Tryz.prog 197 [.agg (gT a),.agg (gT b)] fun s=>s= .bool r:=by
 refine hs ae Tryz.f197 ?_
 unfold sd at hm
 refine z ?_
 refine zr ?_ ?_<;>intro h1
 rw[HP h1] at hm
 replace hm:=aJ hm
 obtain⟨v2,e2,hm⟩:=aa hm
 refine ce (GI e2) (z ?_)
 cases hm
 exact fc
 rw[TP (nt h1)] at hm
 cases hm
 exact fc
def pV (a b:List bj):Option Bool:=ju sd a b
theorem AA {a b:List bj} {r:Bool} (hm:pV a b=some r):Has Tryz.prog 153 [.agg [aE a],.agg [aE b]] fun s=>s= .bool r:=by
 refine hs ae Tryz.f153 ?_
 unfold pV at hm
 refine z ?_
 replace hm:=aJ hm
 obtain⟨v1,e1,hm⟩:=aa hm
 refine ce (GH rfl rfl MS e1) (z ?_)
 cases hm
 exact fc
def iu (a:List bj) (s:Int):Option Bool:=
 if s>=0 then if s<a.length then(cJ a s).bind fun x=>some x.acc else some false else some false
theorem w9 {a:List bj} {s:Int} {r:Bool} (hm:iu a s=some r):Has Tryz.prog 117 [.agg [aE a],.int .i64 s] fun v=>v= .bool r:=by
 refine hs ae Tryz.f117 ?_
 unfold iu at hm
 refine z ?_
 refine zd ?_ ?_<;>intro h1
 rw[HP h1] at hm
 refine zd ?_ ?_<;>intro h2
 rw[HP h2] at hm
 obtain⟨j3,x3,en3,ex3,hm⟩:=az hm
 refine bD en3 ex3 rfl (z ?_)
 cases hm
 exact fc
 rw[TP h2] at hm
 cases hm
 exact fc
 rw[TP h1] at hm
 cases hm
 exact fc
def iH (b:Int):List Sv.Edge->Option Int
 |[]=>some (-1)
 |e::r=>if e.lo<=b then if b<=e.hi then some e.to else iH b r else iH b r
def jf (a:List bj) (s b:Int):Option Int:=
 if s<0 then some (-1) else if s>=a.length then some (-1) else(cJ a s).bind fun x=>(aR x.aI).bind fun _=>iH b x.aI
theorem dK {a:List bj} {s b:Int} {r:Int} (hm:jf a s b=some r):Has Tryz.prog 119 [.agg [aE a],.int .i64 s,.int .u8 b] fun v=>v= .int .i64 r:=by
 refine hs ae Tryz.f119 ?_
 unfold jf at hm
 refine z ?_
 refine zd ?_ ?_<;>intro h1
 rw[HP h1] at hm
 cases hm
 exact fc
 rw[TP h1] at hm
 refine zd ?_ ?_<;>intro h2
 rw[HP h2] at hm
 cases hm
 exact fc
 rw[TP h2] at hm
 obtain⟨j3,x3,en3,ex3,hm⟩:=az hm
 refine bD en3 ex3 rfl (z ?_)
 obtain⟨hg4,hm⟩:=ah hm
 refine lg (α:=Nat) ae (fun iw=>(iH b (List.drop iw x3.aI)=some r,⟨42,[(25,.int .i64 iw),(24,.int .i64 ↑x3.aI.length),(23,.aK false (List.map cR x3.aI)),(6,.int .i64 0),(2,.int .u8 b)]⟩,⟨[(0,.cells [aE a])],1,0,[],[]⟩,List.length x3.aI-iw)) ⟨(0),hm⟩ ?_
 intro i5 hq5
 dsimp only at hq5
 refine z ?_
 refine zd ?_ ?_<;>intro h6
 obtain⟨x6,ex6,ed6⟩:=av h6
 rw[ed6,iH] at hq5
 refine z ?_
 refine bx ex6 rfl (z ?_)
 refine zd ?_ ?_<;>intro h7
 rw[HP h7] at hq5
 refine zd ?_ ?_<;>intro h8
 rw[HP h8] at hq5
 cases hq5
 exact fc
 rw[TP h8] at hq5
 exact bk ⟨i5+1,hq5⟩
 rw[TP h7] at hq5
 exact bk ⟨i5+1,hq5⟩
 rw[aA h6,iH] at hq5
 cases hq5
 exact fc
abbrev lO (n:Int):Option Unit:=zf (0<=n/\n<256)
def GN:List Sv.Edge->List Bool->Option (List Bool)
 |[],a=>some a
 |e::r,a=>(s6 257 a e.lo true).bind fun a=>(lO e.hi).bind fun _=>(s6 257 a (e.hi+1) true).bind fun a=>GN r a
def GM:List bj->List Bool->Option (List Bool)
 |[],a=>some a
 |s::r,a=>(aR s.aI).bind fun _=>(GN s.aI a).bind fun a=>GM r a
def Es (a:List Bool):Nat->Int->List Int->Option (List Int)
 |0,_,out=>some out
 |n+1,b,out=>(Vw 257 a b).bind fun x=>if x then(push out b).bind fun out=>Es a n (b+1) out else Es a n (b+1) out
def at0:List Bool:=true::List.replicate 256 false
def OI (l:List bj):Option (List Int):=(aR l).bind fun _=>(GM l at0).bind fun a=>Es a 256 0 []
theorem U9 {l:List bj} {r:List Int} (hm:OI l=some r):Has Tryz.prog 199 [aE l] fun s=>s= .aK false (r.map bQ):=by
 refine hs ae Tryz.f199 ?_
 unfold OI at hm
 refine z ?_
 obtain⟨hg1,hm⟩:=ah hm
 refine cC (j:=0) rfl ii (z ?_)
 obtain⟨v2,hv2,hm⟩:=aa hm
 refine lg (α:=Nat×List Bool) ae (fun(iw,s1)=>(GM (List.drop iw l) s1=some v2,⟨46,[(13,.int .i64 iw),(12,.int .i64 ↑l.length),(11,aE l),(3,.ptr 0 0),(2,.aD)]⟩,⟨[(0,.cells (s1.map .bool))],1,0,[],[]⟩,List.length l-iw)) ⟨(0,_),hv2⟩ ?_
 rintro⟨i2,s1_2⟩ hq2
 dsimp only at hq2
 refine z ?_
 refine zd ?_ ?_<;>intro h3
 obtain⟨x3,ex3,ed3⟩:=av h3
 rw[ed3,GM] at hq2
 refine z ?_
 obtain⟨hg4,hq2⟩:=ah hq2
 refine bx ex3 rfl (z ?_)
 obtain⟨v5,hv5,hq2⟩:=aa hq2
 refine lg (α:=Nat×List Bool) ae (fun(iw,s1)=>(GN (List.drop iw x3.aI) s1=some v5,⟨46,[(20,.int .i64 iw),(19,.int .i64 ↑x3.aI.length),(18,.aK false (List.map cR x3.aI)),(13,.int .i64 ↑i2),(12,.int .i64 ↑l.length),(11,aE l),(3,.ptr 0 0),(2,.aD)]⟩,⟨[(1,.cells [.bool x3.acc,.aK false (List.map cR x3.aI)]),(0,.cells (s1.map .bool))],2,0,[],[]⟩,List.length x3.aI-iw)) ⟨(0,_),hv5⟩ ?_
 rintro⟨i5,s1_5⟩ hq5
 dsimp only at hq5
 refine z ?_
 refine zd ?_ ?_<;>intro h6
 obtain⟨x6,ex6,ed6⟩:=av h6
 rw[ed6,GN] at hq5
 refine z ?_
 refine bx ex6 rfl (z ?_)
 obtain⟨j7,x7,en7,ej7,ex7,hq5⟩:=dp hq5
 refine cC en7 ej7 (z ?_)
 rw[dS ex7 (by(show _+_*1=_;omega))]
 refine z ?_
 obtain⟨hg8,hq5⟩:=ah hq5
 refine z ?_
 obtain⟨j10,x10,en10,ej10,ex10,hq5⟩:=dp hq5
 refine cC en10 ej10 (z ?_)
 rw[dS ex10 (by(show _+_*1=_;omega))]
 refine z ?_
 exact bk ⟨(i5+1,_),hq5⟩
 rw[aA h6,GN] at hq5
 cases hq5
 refine z ?_
 exact bk ⟨(i2+1,_),hq2⟩
 rw[aA h3,GM] at hq2
 cases hq2
 refine z ?_
 refine bd rfl rfl ?_
 refine cr 8 1 rfl ?_
 refine lg (α:=Nat×List Int×Nat) ae (fun(iw,s1,ts1)=>(Es v2 (256-iw) (iw:Int) s1=some r,⟨46,[(8,.own 1 ts1),(34,.int .i64 iw),(3,.ptr 0 0),(2,.aD)]⟩,⟨[(1,.row 1 (s1.map bQ) ts1 false),(0,.cells (List.map .bool v2))],2,0,[],[]⟩,(256)-iw)) ⟨(0,_,(0)),hm⟩ ?_
 rintro⟨i11,s1_11,ts1_11⟩ hq11
 dsimp only at hq11
 refine z ?_
 refine zd ?_ ?_<;>intro h12
 have h12':(i11:Int)<(((256):Nat):Int):=by(try simp only[V4,Wc,Wb,V7] at h12);omega
 rw[df h12',Es] at hq11
 refine z ?_
 obtain⟨j13,x13,en13,ej13,ex13,hq11⟩:=gX hq11
 refine cC en13 ej13 (z ?_)
 rw[fa ex13 (by(show _+_*1=_;omega)) rfl]
 refine z ?_
 refine zr ?_ ?_<;>intro h14
 rw[HP h14] at hq11
 obtain⟨hg15,hq11⟩:=aC hq11
 refine z ?_
 refine aM (↑i11) rfl (z ?_)
 exact bk ⟨(i11+1,_,(ts1_11+1)),hq11⟩
 rw[TP (nt h14)] at hq11
 exact bk ⟨(i11+1,_,ts1_11),hq11⟩
 have h12':¬(i11:Int)<(((256):Nat):Int):=by(try simp only[V4,Wc,Wb,V7] at h12);omega
 rw[de h12',Es] at hq11
 refine z ?_
 cases hq11
 refine dH (z ?_)
 first|exact e2|exact rfl
abbrev dD (n:Int):Option Unit:=zf (-9223372036854775808<=n/\n<9223372036854775808)
def eE (n:Int):List UInt8:=Go.Lib.itoa n
def F4 (cls:List Int):List Int->List UInt8->Option (List UInt8)
 |[],b=>some b
 |to::r,b=>(cJ cls to).bind fun c=>(dD c).bind fun _=>(zf (b.length+1+(eE c).length<=1000000)).bind fun _=>F4 cls r (b++44::eE c)
def J0 (cls:List Int) (next:List (List Int)) (s:Int):Option (List UInt8):=
 (cJ cls s).bind fun c=>(dD c).bind fun _=>(cJ next s).bind fun row=>(aR row).bind fun _=>F4 cls row (eE c)
def By {α:Type} (l:List α):Option (List α):=(aR l).bind fun _=>some l
theorem wG:Has Tryz.prog 113 [.aK false []] fun s=>s= .aK false []:=xY (fn:=Tryz.f113) rfl rfl oQ
theorem Bz {l r:List Sv.Edge} (hm:By l=some r):Has Tryz.prog 113 [.aK false (l.map cR)] fun s=>s= .aK false (r.map cR):=by
 unfold By at hm
 rcases l with _|⟨e,l⟩
 cases(ah hm).2
 exact wG
 refine hs ae Tryz.f113 (z ?_)
 obtain⟨hg1,hm⟩:=ah hm
 refine z ?_
 refine wZ (z ?_)
 cases hm
 refine dH (z ?_)
 first|exact e2|exact rfl
end Go.Proofs.YtcejopopgcglpaaGreatDoor
namespace Go.Proofs.YtcejopopgcglpaaGreatDoor
open Go.RowKit
set_option maxRecDepth 100000
def lH (w:World) (v:Value) (l:List Int):Prop:=∃a cap,v= .slice a l.length cap/\l.length<=cap/\(l=[]\/∃b base,a=some ⟨b,base,none⟩/\∀j x,l[j]? =some x->w.cell? ⟨b,base+j,none⟩=some (.int .i64 x))
def tX (w:World) (v:Value) (l:List (List Int)):Prop:=∃a cap,v= .slice a l.length cap/\l.length<=cap/\(l=[]\/∃b base,a=some ⟨b,base,none⟩/\∀j x,l[j]? =some x->∃u,w.cell? ⟨b,base+j,none⟩=some u/\lH w u x)
theorem eN {w w':World} (h:Below w.heap.size w w') {p:Addr} {v:Value} (e:w.cell? p=some v):w'.cell? p=some v:=by
 rw[h.cell (p:=p) ?_,e]
 unfold World.cell? at e
 rcases WI p.block w.heap.size with h1|h1
 ·exact h1
 ·rw[Array.getElem?_eq_none h1] at e;cases e
theorem lH.at_ {w:World} {a:Option Addr} {n cap:Nat} {l:List Int} (h:lH w (.slice a n cap) l) {j:Nat} {x:Int} (e:l[j]? =some x):n=l.length/\j<l.length/\∃b base,a=some ⟨b,base,none⟩/\w.cell? ⟨b,base+j,none⟩=some (.int .i64 x):=by
 obtain⟨a',cap',h1,h2,h3⟩:=h
 cases h1
 have hj:=(VZ.1 e).1
 rcases h3 with rfl|⟨b,base,h4,h5⟩
 ·cases hj
 ·exact⟨rfl,hj,b,base,h4,h5 j x e⟩
theorem lH.all {w:World} {b base n cap:Nat} {l:List Int} (h:lH w (.slice (some ⟨b,base,none⟩) n cap) l) (j:Nat) (x:Int) (e:l[j]? =some x):w.cell? ⟨b,base+j,none⟩=some (.int .i64 x):=by
 obtain⟨_,_,b',base',h1,h2⟩:=h.at_ e
 cases h1
 exact h2
theorem tX.at_ {w:World} {a:Option Addr} {n cap:Nat} {l:List (List Int)} (h:tX w (.slice a n cap) l) {j:Nat} {x:List Int} (e:l[j]? =some x):n=l.length/\j<l.length/\∃b base u,a=some ⟨b,base,none⟩/\w.cell? ⟨b,base+j,none⟩=some u/\lH w u x:=by
 obtain⟨a',cap',h1,h2,h3⟩:=h
 cases h1
 have hj:=(VZ.1 e).1
 rcases h3 with rfl|⟨b,base,h4,h5⟩
 ·cases hj
 ·obtain⟨u,h6,h7⟩:=h5 j x e
  exact⟨rfl,hj,b,base,u,h4,h6,h7⟩
abbrev Hh (w:World):Prop:=Lib.TabIs Tryz.prog w "internal/strconv.uint64pow10" .u64 Lib.pow10Tab
theorem Hh.below {w w':World} (h:Hh w) (k:Below w.heap.size w w'):Hh w':=(Lib.tabBelow_of_tabIs h) w' k
abbrev IsB:=Lib.IsBuilder 294 5
theorem y8 {B b:Nat} {bs:List Value} {w w':World} (h:IsB B b bs w) (k:Below w.heap.size w w'):IsB B b bs w':=by
 have key:∀p,Lib.BuilderAt 294 5 B b p bs w->Lib.BuilderAt 294 5 B b p bs w':=fun p h=>by
  have hlt:=h.lt
  obtain⟨hB,v,hb,hown,hne⟩:=h
  refine⟨hB,v,by rw[k.block b hlt];exact hb,⟨hown.1,?_⟩,hne⟩
  rcases hown.2 with h1|⟨g,cap,cur,rfl,hg0,hg,rest⟩
  ·exact .inl h1
  ·exact .inr ⟨g,cap,cur,rfl,hg0,by rw[k.block g (Wl.1 hg).1];exact hg,rest⟩
 exact h.imp (key _) (key _)
theorem Lk (a b:List UInt8):Lib.byteCells a++Lib.strCells ⟨b.toArray⟩=Lib.byteCells (a++b):=by
 rw[Lib.strCells_toArray,Lib.byteCells_append]
theorem Lj (a:List UInt8):(Lib.byteCells a).length=a.length:=by unfold Lib.byteCells;simp
set_option maxHeartbeats 4000000 in
theorem QJ {w:World} {b:Nat} {nx cs:Value} {cls:List Int} {next:List (List Int)} {s:Int} {t:List UInt8} (hm:J0 cls next s=some t) (h1:w.cell? ⟨b,1,none⟩=some nx) (h3:w.cell? ⟨b,3,none⟩=some cs) (hn:tX w nx next) (hc:lH w cs cls) (ht:Hh w):
  Calls Tryz.prog 200 #[.pointer (some ⟨b,0,none⟩),.int .i64 s] w fun e w'=>e= .returned (.string ⟨t.toArray⟩)/\Below w.heap.size w w':=by
 unfold J0 at hm
 obtain⟨j,c,rfl,hcj,hm⟩:=Sv.az hm
 obtain⟨hci,hm⟩:=Sv.ah hm
 obtain⟨j',row,hjj,hrow,hm⟩:=Sv.az hm
 have hjj:j=j':=by omega
 subst hjj
 obtain⟨hrl,hm⟩:=Sv.ah hm
 obtain⟨a1,cap1,rfl,hcap1,_⟩:=id hn
 obtain⟨a3,cap3,rfl,hcap3,_⟩:=id hc
 obtain⟨_,hj1,bn,basen,u,rfl,hu,hui⟩:=hn.at_ hrow
 obtain⟨_,hj3,bc,basec,rfl,hcc⟩:=hc.at_ hcj
 obtain⟨a5,cap5,rfl,hcap5,_⟩:=id hui
 have F1:=Lib.hid (fun W' (h:Below w.heap.size w W')=>eN h h1)
 have F3:=Lib.hid (fun W' (h:Below w.heap.size w W')=>eN h h3)
 have Fu:=Lib.hid (fun W' (h:Below w.heap.size w W')=>eN h hu)
 have Fc:=Lib.hid (fun(W':World) (h:Below w.heap.size w W') (k:Nat) (x:Int) (e:cls[k]? =some x)=>eN h (hc.all k x e))
 have Ft:=Lib.hid (fun W' (h:Below w.heap.size w W')=>Hh.below ht h)
 have hB0:Below w.heap.size w (w.alloc (.cells #[.pointer none,.slice none 0 0] 294)):=(Below.refl _ w).alloc (V2 _) _
 have h1:=eN hB0 h1
 have h3:=eN hB0 h3
 have hcc:=eN hB0 hcc
 have ht:=ht.below hB0
 have Hbd:=Lib.hid (Lib.fresh_isBuilder 294 5 w)
 have Hrow:=Lib.hid hui
 have HB0:=Lib.hid hB0
 have HM:=Lib.hid hm
 clear hui hc hn hB0 hu hm
 go_enter Tryz.func200,Tryz.ntmps200
 go_wp2_with (go_at_call 228;refine(Ty _ hci.1 ii _ ht).mono ?_)
 rintro e w1 rfl hb1
 have hil:=Lib.itoa_length_le c hci.1 ii
 have hb1':Below (w.alloc (.cells #[.pointer none,.slice none 0 0] 294)).heap.size (w.alloc (.cells #[.pointer none,.slice none 0 0] 294)) w1:=by simpa using hb1
 have Hbd1:=Lib.hid (y8 Hbd.out hb1')
 have HB1:=Lib.hid (HB0.out.trans (hb1'.mono HB0.out.size))
 clear hb1 hb1' h1 h3 hcc ht Hbd HB0
 go_wp2_with (go_at_call 227;refine(BY w.heap.size w.heap.size _ _ w1 Hbd1.out (by simpa[ByteArray.size] using(by omega:(Lib.itoa c).length<=140737488355328)) HB1.out.size).mono ?_)
 rintro e w2 ⟨rfl,hbd2,hb2⟩
 have h1:=F1.out w2 (HB1.out.trans hb2)
 have hu:=Fu.out w2 (HB1.out.trans hb2)
 rw[Xg,Lib.strCells_toArray] at hbd2
 have HB2:=Lib.hid (HB1.out.trans hb2)
 have Hbd2:=Lib.hid (Or.inr hbd2:IsB w.heap.size w.heap.size (Lib.byteCells (eE c)) w2)
 clear hbd2 hb2 HB1 Hbd1
 go_wp2_with fail
 go_loopw [7,25] (fun _ i wr=>∃(k:Nat) (acc:List UInt8),k<=row.length/\i= .int .i64 k/\Hid (F4 cls (row.drop k) acc=some t)/\Hid (IsB w.heap.size w.heap.size (Lib.byteCells acc) wr)/\Hid (Below w.heap.size w wr)) (fun _ i _=>row.length-(intOf i).toNat)
 case atStart=>exact⟨0,_,Wd _,rfl,HM,Hbd2,HB2⟩
 case round=>
  obtain⟨k,acc,hk,rfl,Hs,Hb,HB⟩:=hrel
  by_cases hlt:k<row.length
  ·have hs:=Hs.out
   rw[Wo hlt] at hs
   have hx:row[k]? =some row[k]:=VV hlt
   generalize row[k]=x at*
   obtain⟨_,_,br,baser,rfl,hcx⟩:=Hrow.out.at_ hx
   unfold F4 at hs
   obtain⟨q,d,rfl,hq,hs⟩:=Sv.az hs
   obtain⟨hdi,hs⟩:=Sv.ah hs
   obtain⟨hgl,hs⟩:=Sv.ah hs
   have hq3:q<cls.length:=(VZ.1 hq).1
   have hb:=HB.out
   have h3:=F3.out wr hb
   have hd:=Fc.out wr hb q d hq
   have hcx:=eN hb hcx
   have ht:=Ft.out wr hb
   have Hs':=Lib.hid hs
   have Hgl:=Lib.hid hgl
   clear hs hgl hb
   go_wp2_with (go_at_call 228;refine(Ty _ hdi.1 ii _ ht).mono ?_)
   rintro e w3 rfl hb3
   have Hb3:=Lib.hid (y8 Hb.out hb3)
   have HB3:=Lib.hid (HB.out.trans (hb3.mono HB.out.size))
   clear hb3 h3 hd hcx ht
   have hil2:=Lib.itoa_length_le d hdi.1 ii
   have Hcat:Hid ((ByteArray.mk #[44]++ByteArray.mk (Lib.itoa d).toArray)=ByteArray.mk ((44:UInt8)::Lib.itoa d).toArray):=Lib.hid (ByteArray.ext (by simp))
   have hlen:(Lib.byteCells acc).length+(ByteArray.mk #[44]++ByteArray.mk (Lib.itoa d).toArray).size<=140737488355328:=by
    have:=Hgl.out
    rw[Hcat.out]
    simp only[Lj,ByteArray.size,Ya,V5,eE] at*
    omega
   have Hlen:=Lib.hid hlen
   clear hlen
   go_wp2_with (go_at_call 227;refine(BY w.heap.size w.heap.size _ _ w3 Hb3.out Hlen.out HB3.out.size).mono ?_)
   rintro e w4 ⟨rfl,hbd4,hb4⟩
   rw[Hcat.out,Lk] at hbd4
   have HB4:=Lib.hid (HB3.out.trans hb4)
   have Hb4:=Lib.hid (Or.inr hbd4:IsB w.heap.size w.heap.size _ w4)
   clear hbd4 hb4
   go_wp2
   go_roundw
   case rel=>exact⟨k+1,_,by omega,by go_num,Hs',Hb4,HB4⟩
   case measure=>simp[intOf];omega
  ·have hkl:k=row.length:=by omega
   subst hkl
   have hs:=Hs.out
   rw[List.drop_of_length_le (V2 _)] at hs
   unfold F4 at hs
   cases hs
   have Hb2:=Hb.out
   have HBs:=HB.out.size
   go_wp2_with (go_at_call 229;refine(strOf w.heap.size w.heap.size _ wr Hb2 HBs).mono ?_)
   rintro e w5 ⟨rfl,hb5⟩
   have HB5:=Lib.hid (HB.out.trans hb5)
   clear hb5
   go_wp2
   go_ret
   exact⟨rfl,HB5.out⟩
/-! In the logic. -/
theorem qE {c:Sv.Ctx} {k:IntKind}:∀{l:List Int} {vs:List Value},Sv.aQ c (l.map (Sv.SVal.int k)) vs->vs=l.map (Value.int k)
 |[],_,h=>h
 |x::l,_,⟨v,r,h1,h2,h3⟩=>by
  subst h3
  rw[qE h2]
  cases h1
  rfl
theorem Ki:Sv.Ih=Lib.pow10Tab:=by decide
theorem Mm {c:Sv.Ctx} {H:Sv.gy} {w:World} (hr:Sv.dM c H w) (h0:H 0=some Sv.ba):Hh w:=by
 obtain⟨l,_,ho⟩:=hr.dO 0 _ h0
 cases l with
 |box=>exact ho.elim
 |row ob st sz u=>
  obtain⟨rfl,_,arr,e,f,_,h1,h2⟩:=ho
  have h3:=qE h2
  show World.var? _ _ _=_
  unfold World.var?
  rw[uu]
  simp only[VU,h1]
  rw[<-Ki,<-h3]
theorem Bc {st:Sv.St} {x:Sv.SVal} {l:List Int} (h:Sv.dr st x (l.map Sv.bQ)) {c:Sv.Ctx} {w:World} (hr:Sv.dM c st.look w) {u:Value} (hx:Sv.Den c x u):lH w u l:=by
 obtain⟨a,cap,rfl,h1,news,h2,h3,_,h4⟩:=h.spec hr hx (sz:=1) (fun r hr=>by obtain⟨y,_,rfl⟩:=WQ.1 hr;rfl)
 rw[V4] at h1 h3⊢
 refine⟨a,cap,rfl,h1,?_⟩
 rcases h4 with h4|⟨b,base,rfl,h5⟩
 ·exact .inl (List.map_eq_nil_iff.1 h4)
 ·refine .inr ⟨b,base,rfl,fun j y hy=>h5 j _ ?_⟩
  have e:(l.map Sv.bQ).flatten=l.map (Sv.SVal.int .i64):=by
   clear h2 h3 h5 h1 hx h hy
   induction l with
   |nil=>rfl
   |cons a l ih=>rw[WM,Xo,ih];rfl
  rw[e] at h2
  rw[qE h2,Wt,hy]
  rfl
theorem N5 {st:Sv.St} {x:Sv.SVal} {l:List (List Int)} (h:Sv.dr st x (l.map Sv.gk)) {c:Sv.Ctx} {w:World} (hr:Sv.dM c st.look w) {u:Value} (hx:Sv.Den c x u):tX w u l:=by
 obtain⟨a,cap,rfl,h1,news,h2,h3,_,h4⟩:=h.spec hr hx (sz:=1) (fun r hr=>by obtain⟨y,_,rfl⟩:=WQ.1 hr;rfl)
 rw[V4] at h1 h3⊢
 refine⟨a,cap,rfl,h1,?_⟩
 rcases h4 with h4|⟨b,base,rfl,h5⟩
 ·exact .inl (List.map_eq_nil_iff.1 h4)
 ·refine .inr ⟨b,base,rfl,fun j y hy=> ?_⟩
  have e:(l.map Sv.gk).flatten=l.map fun y=>Sv.SVal.aK false (y.map Sv.bQ):=by
   clear h2 h3 h5 h1 hx h hy
   induction l with
   |nil=>rfl
   |cons a l ih=>rw[WM,Xo,ih];rfl
  rw[e] at h2
  obtain⟨v,h6,h7⟩:=h2.get (i:=j) (s:= .aK false (y.map Sv.bQ)) (by rw[Wt,hy];rfl)
  exact⟨v,h5 j v h6,Bc .aK hr h7⟩
theorem Pg {cls:List Int} {next:List (List Int)} {s:Int} {t:List UInt8} {st:Sv.St} {k:Nat} {K:Sv.SVal->Sv.St->Prop} {x y nv cv:Sv.SVal} (hm:J0 cls next s=some t) (hl:st.look k=some (.cells [x,nv,y,cv])) (hn:Sv.dr st nv (next.map Sv.gk)) (hc:Sv.dr st cv (cls.map Sv.bQ)) (h0:st.look 0=some Sv.ba) (hk:K (.str t) st):
  Sv.eU Tryz.prog 200 [.ptr k 0,.int .i64 s] st K:=by
 refine⟨.str t,st,fun o d fop first cap ss ev ho hcl hf hev ha=>Sv.km ho hcl hf hev ?_,hk⟩
 rw[ha]
 refine⟨⟨Tryz.f200,_,(ae.funcs 200 Tryz.f200 rfl).1,(ae.funcs 200 Tryz.f200 rfl).2,rfl⟩,Sv.eS.refl st,fun{c w} hr hwf hfree {vs} hd=> ?_⟩
 obtain⟨v1,l1,⟨b,hb,rfl⟩,⟨v2,l2,rfl,rfl,rfl⟩,rfl⟩:=hd
 obtain⟨l,hρ,ho⟩:=hr.dO k _ hl
 rw[hb] at hρ
 cases hρ
 obtain⟨arr,e,harr,hden,_⟩:=ho
 obtain⟨nx,g1,dn⟩:=hden.get (i:=1) rfl
 obtain⟨cs,g3,dc⟩:=hden.get (i:=3) rfl
 have h1:w.cell? ⟨b,1,none⟩=some nx:=by rw[Lib.cell_of_heap harr,<-g1];simp
 have h3:w.cell? ⟨b,3,none⟩=some cs:=by rw[Lib.cell_of_heap harr,<-g3];simp
 refine(QJ hm h1 h3 (N5 hn hr dn) (Bc hc hr dc) (Mm hr h0)).mono fun e w' ⟨he,hB⟩=> ?_
 have hg:Sv.dj w w':=⟨hB.os,hB.tape,hB.output,hB.size,fun r h=>hB.block r h⟩
 obtain⟨r1,s1⟩:=Sv.kD hr hg (fun _ _ _ h=>h) (fun _ _ _ h=> .inl h) (fun bb i v hv=>by
  obtain⟨arr,e,f,q1,q2⟩:=hr.fz bb i v hv
  exact⟨arr,e,f,by rw[hg.old bb (Wl.1 q1).1];exact q1,q2⟩)
 exact⟨_,he,⟨c.ρ,c.fz⟩,⟨rfl,r1,s1⟩⟩
def A8:List Int->List UInt8->Option (List UInt8)
 |[],out=>some out
 |n::r,out=>(dD n).bind fun _=>(Sv.zf (out.length+1+(eE n).length<=1000000)).bind fun _=>A8 r (out++44::eE n)
def rv (v:List Int):Option (List UInt8):=(Sv.aR v).bind fun _=>A8 v []
def rV (w:World) (base:Nat) (v:Value) (l:List UInt8):Prop:=w.ownsRow base 5 1 v l.length (Lib.byteCells l)
theorem rV.below {w w':World} {base:Nat} {v:Value} {l:List UInt8} (h:rV w base v l) (k:Below w.heap.size w w'):rV w' base v l:=by
 refine⟨h.1,?_⟩
 rcases h.2 with h1|⟨g,cap,cur,rfl,hb,hg,rest⟩
 ·exact .inl h1
 ·exact .inr ⟨g,cap,cur,rfl,hb,by rw[k.block g (Wl.1 hg).1];exact hg,rest⟩
theorem rV.form {w:World} {base:Nat} {v:Value} {l:List UInt8} (h:rV w base v l):∃A c,v= .slice A l.length c:=by
 rcases h.2 with⟨h1,h2⟩|⟨g,cap,cur,h1,_⟩
 ·exact⟨none,0,by rw[h1,h2]⟩
 ·exact⟨_,_,h1⟩
theorem app_b {ops:Array Oper} {rest:List Oper} {o:Oper} {a:Act} {Q:Exit->Act->World->Prop} {w:World} (hgd:o.guard=none) (s x:Operand)
  (ho:o.op= .call {callee:= .builtin .append,args:= #[s,x],argTypes:= #[292,292]})
  (base:Nat) (v:Value) (l:List UInt8) (g:Nat) (y:UInt8) (hs:a.eval s=v) (hown:rV w base v l) (hx:a.eval x= .slice (some ⟨g,0,none⟩) 1 1)
  (hc:w.heap[g]? =some (.cells #[.int .u8 y.toNat] 5 (0,0))) (hlen:l.length+1<=1000000000) (hbase:base<=w.heap.size)
  (h:∀v' w',rV w' base v' (l++[y])->Below base w w'->wpList Tryz.prog ops Q rest (a.put o.dst v') w'):wpList Tryz.prog ops Q (o::rest) a w:=by
 obtain⟨i0,hi0,hz0,hz1,hz2⟩:=info_parts vY.infoByte
 refine wpList_append_own w hgd s x 292 ho base 5 i0 _ 1 1 Tryz.underlying292 hi0 hz0 hz1 hz2 rfl (by decide) v l.length (Lib.byteCells l) hs hown
  ⟨g,0,none⟩ 1 1 [.int .u8 y.toNat] hx rfl ?_ ?_ (by unfold maxLen;omega) ii hbase ?_
 ·intro j u hu
  match j,hu with
  |0,hu=>simp at hu;subst hu;simp[World.cell?,Addr.add,hc]
 ·intro u hu
  cases V1.1 hu
  rfl
 ·intro v' w' hown' hg _
  refine h v' w' ?_ ((Below.refl base w).grown hg hbase fun k hk=>(hown.lt k hk).1)
  unfold rV
  rw[V7,Lib.byteCells_append]
  exact hown'
set_option maxHeartbeats 4000000 in
theorem RL {w:World} {v:Value} {l:List Int} {t:List UInt8} (hm:rv l=some t) (hv:lH w v l) (ht:Hh w):
  Calls Tryz.prog 230 #[v] w fun e w'=>e= .returned (.string ⟨t.toArray⟩)/\Below w.heap.size w w':=by
 unfold rv at hm
 obtain⟨hrl,hm⟩:=Sv.ah hm
 obtain⟨a1,cap1,rfl,hcap1,_⟩:=id hv
 have Ft:=Lib.hid (Lib.tabBelow_of_tabIs ht)
 have HM:=Lib.hid hm
 have HV:=Lib.hid hv
 clear ht hm hv
 go_enter Tryz.func230,Tryz.ntmps230
 go_wp2_with fail
 go_loopw [3,5,8] (fun v _ i wr=>∃(k:Nat) (acc:List UInt8),k<=l.length/\i= .int .i64 k/\Hid (A8 (l.drop k) acc=some t)/\Hid (rV wr w.heap.size v acc)/\Hid (Below w.heap.size w wr)) (fun _ _ i _=>l.length-(intOf i).toNat)
 case atStart=>exact⟨0,[],Wd _,rfl,HM,Lib.hid (World.ownsRow_nil _ _ _ _),Lib.hid (Below.refl _ _)⟩
 case round=>
  obtain⟨k,acc,hk,rfl,Hs,Hb,HB⟩:=hrel
  by_cases hlt:k<l.length
  ·have hs:=Hs.out
   rw[Wo hlt] at hs
   have hx:l[k]? =some l[k]:=VV hlt
   generalize l[k]=x at*
   obtain⟨_,_,br,baser,rfl,hcx⟩:=HV.out.at_ hx
   unfold A8 at hs
   obtain⟨hdi,hs⟩:=Sv.ah hs
   obtain⟨hgl,hs⟩:=Sv.ah hs
   have hcx:=eN HB.out hcx
   obtain⟨A,c,rfl⟩:=Hb.out.form
   have Hs':=Lib.hid hs
   have Hgl:=Lib.hid hgl
   clear hs hgl
   have hBs:=Lib.hid HB.out.size
   have hown:=(Hb.out:rV wr w.heap.size (.slice A acc.length c) acc)
   have hal:acc.length+1<=1000000000:=by have:=Hgl.out;omega
   go_wp2_with (at_builtin;refine app_b rfl _ _ rfl w.heap.size _ acc _ 44 rfl (World.ownsRow.alloc hown _) rfl (heap_alloc_new wr _) hal (by have:=hBs.out;simp;omega) ?_)
   intro v2 w2 hown2 hb2
   obtain⟨A2,c2,rfl⟩:=hown2.form
   have e1:(acc++[(44:UInt8)]).length=acc.length+1:=by simp
   rw[e1] at hown2⊢
   unfold rV at hown2
   rw[e1] at hown2
   have HB2:=Lib.hid ((HB.out.alloc HB.out.size _).trans hb2)
   have Hown2:=Lib.hid hown2
   clear hb2 hown2 hown hBs
   have hal2:acc.length+1+21<=140737488355328:=by omega
   have Hc:=Lib.hid (Vx w.heap.size _ x hdi.1 ii _ _ w2 Hown2.out HB2.out.size hal2 (Ft.out.on HB2.out))
   clear Hown2 hal2 hal Hb HB
   go_wp2_with (go_at_call 283;refine Hc.out.mono ?_)
   rintro e w3 ⟨v3,rfl,hown3,hb3,_⟩
   have Hb3:=Lib.hid (show rV w3 w.heap.size v3 (acc++44::eE x) by
    unfold rV
    have e2:acc++(44:UInt8)::eE x=(acc++[44])++eE x:=by simp
    rw[e2,Lib.byteCells_append,V7,e1]
    exact hown3)
   have HB3:=Lib.hid (HB2.out.trans hb3)
   clear hown3 hb3 Hc
   go_wp2
   go_roundw
   case rel=>exact⟨k+1,_,by omega,by go_num,Hs',Hb3,HB3⟩
   case measure=>simp[intOf];omega
  ·have hkl:k=l.length:=by omega
   subst hkl
   have hs:=Hs.out
   rw[List.drop_of_length_le (V2 _)] at hs
   unfold A8 at hs
   cases hs
   have hb:=Hb.out
   obtain⟨A,c,rfl⟩:=Hb.out.form
   have hcv:(convert 292 9 (.slice A t.length c)).run Tryz.prog wr= .ok (.string ⟨t.toArray⟩) wr:=by
    rcases hb.2 with⟨h1,h2⟩|⟨g,cap,cur,h1,_,hg,_,_,_,htk⟩
    ·injection h1 with ha hn hcc
     subst ha hcc
     have ht0:=Wn.1 h2
     subst ht0
     exact Lib.run_convert_nil_bytes wr _ _ 5 0 Tryz.underlying292 Tryz.underlying5 Tryz.underlying9
    ·cases h1
     rw[XH] at htk
     exact run_convert_bytes_back wr _ _ 5 _ _ t Tryz.underlying292 Tryz.underlying5 Tryz.underlying9 (Lib.bytes_of_row hg htk)
   have HBo:=Lib.hid HB.out
   clear hb
   go_wp2
   go_ret
   exact⟨rfl,HB.out⟩
theorem NX {v:List Int} {r:List UInt8} (hm:rv v=some r):Sv.bp Tryz.prog 230 [.aK false (v.map Sv.bQ)] fun s=>s= .str r:=by
 have hcl:Sv.aB [Sv.SVal.aK false (v.map Sv.bQ)]=true:=by simp only[Sv.aB,Sv.closed,Sv.eM,V3]
 refine⟨hcl,.str r,[Sv.ba],⟨⟨⟨Tryz.f230,_,(ae.funcs 230 Tryz.f230 rfl).1,(ae.funcs 230 Tryz.f230 rfl).2,rfl⟩,Sv.eS.refl _,fun{c w} hr hwf hfree {vs} hd=> ?_⟩,rfl,fun o ho=> ?_,fun o ho=> ?_,Sv.bq _ _ hcl,rfl⟩,rfl,rfl,rfl⟩
 ·obtain⟨v1,l1,d1,rfl,rfl⟩:=hd
  refine(RL hm (Bc .aK hr d1) (Mm hr rfl)).mono fun e w' ⟨he,hB⟩=> ?_
  have hg:Sv.dj w w':=⟨hB.os,hB.tape,hB.output,hB.size,fun r h=>hB.block r h⟩
  obtain⟨r1,s1⟩:=Sv.kD hr hg (fun _ _ _ h=>h) (fun _ _ _ h=> .inl h) (fun bb i v hv=>by
   obtain⟨arr,e,f,q1,q2⟩:=hr.fz bb i v hv
   exact⟨arr,e,f,by rw[hg.old bb (Wl.1 q1).1];exact q1,q2⟩)
  exact⟨_,he,⟨c.ρ,c.fz⟩,⟨rfl,r1,s1⟩⟩
 ·cases V1.1 ho
  exact Sv.jO
 ·cases V1.1 ho
  exact Sv.jO
end Go.Proofs.YtcejopopgcglpaaGreatDoor

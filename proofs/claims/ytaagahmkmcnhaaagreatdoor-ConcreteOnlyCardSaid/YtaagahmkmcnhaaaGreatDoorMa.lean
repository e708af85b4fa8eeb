/- For ConcreteOnly and ConcreteBack: functions of the program, walked beside Lean functions that say what they compute. -/
import Derived.Test.YtaagahmkmcnhaaaGreatDoorProg
import Derived.Test.YtaagahmkmcnhaaaGreatDoorSC
import Derived.Outline
import Derived.WalkSpells
import Derived.WalkLawsBesides
import Derived.Lib.Hide
import Derived.BigQuiet
import Derived.Deep.QuietTactic
import Derived.Deep.Upon
import Derived.Test.YtaagahmkmcnhaaaGreatDoorSl
import Derived.Shelf.Strings.Builder1
import Derived.Shelf.Strconv.Itoa3
import Derived.Shelf.Strconv.AppendIntPublic10
import Derived.Ground.NamesProg
import Derived.Shelf.RegionOpenPlain
import Derived.Lib.Builder
import Derived.Lib.UnsafeStr
import Derived.Laws.Externs
import Derived.Lib.ItoaLen
import Derived.Laws.IdiomStrings
import Derived.Lib.BufferRead
set_option linter.unusedVariables false
set_option linter.unusedSimpArgs false
set_option linter.unusedSectionVars false
namespace Go.Proofs.YtaagahmkmcnhaaaGreatDoor
open Sv Tryz
set_option maxRecDepth 1000000
abbrev aR:T TypeInfo:=T.nil
abbrev aS (a:TypeInfo) (l r:T TypeInfo):T TypeInfo:=T.node (some a) l r
abbrev aT:T Func:=T.nil
abbrev aU (a:Func) (l r:T Func):T Func:=T.node (some a) l r
noncomputable def DX:T TypeInfo:=(aS t0 (aS t1 (aS t3 (aS t7 (aS t15 (aS t31 (aS t63 (aS t127 (aS t255 aR aR) (aS t383 aR aR)) (aS t191 (aS t319 aR aR) aR)) (aS t95 (aS t159 (aS t287 aR aR) aR) (aS t223 (aS t351 aR aR) aR))) (aS t47 (aS t79 (aS t143 (aS t271 aR aR) aR) (aS t207 (aS t335 aR aR) aR)) (aS t111 (aS t175 (aS t303 aR aR) aR) (aS t239 (aS t367 aR aR) aR)))) (aS t23 (aS t39 (aS t71 (aS t135 (aS t263 aR aR) aR) (aS t199 (aS t327 aR aR) aR)) (aS t103 (aS t167 (aS t295 aR aR) aR) (aS t231 (aS t359 aR aR) aR))) (aS t55 (aS t87 (aS t151 (aS t279 aR aR) aR) (aS t215 (aS t343 aR aR) aR)) (aS t119 (aS t183 (aS t311 aR aR) aR) (aS t247 (aS t375 aR aR) aR))))) (aS t11 (aS t19 (aS t35 (aS t67 (aS t131 (aS t259 aR aR) (aS t387 aR aR)) (aS t195 (aS t323 aR aR) aR)) (aS t99 (aS t163 (aS t291 aR aR) aR) (aS t227 (aS t355 aR aR) aR))) (aS t51 (aS t83 (aS t147 (aS t275 aR aR) aR) (aS t211 (aS t339 aR aR) aR)) (aS t115 (aS t179 (aS t307 aR aR) aR) (aS t243 (aS t371 aR aR) aR)))) (aS t27 (aS t43 (aS t75 (aS t139 (aS t267 aR aR) aR) (aS t203 (aS t331 aR aR) aR)) (aS t107 (aS t171 (aS t299 aR aR) aR) (aS t235 (aS t363 aR aR) aR))) (aS t59 (aS t91 (aS t155 (aS t283 aR aR) aR) (aS t219 (aS t347 aR aR) aR)) (aS t123 (aS t187 (aS t315 aR aR) aR) (aS t251 (aS t379 aR aR) aR)))))) (aS t5 (aS t9 (aS t17 (aS t33 (aS t65 (aS t129 (aS t257 aR aR) (aS t385 aR aR)) (aS t193 (aS t321 aR aR) aR)) (aS t97 (aS t161 (aS t289 aR aR) aR) (aS t225 (aS t353 aR aR) aR))) (aS t49 (aS t81 (aS t145 (aS t273 aR aR) aR) (aS t209 (aS t337 aR aR) aR)) (aS t113 (aS t177 (aS t305 aR aR) aR) (aS t241 (aS t369 aR aR) aR)))) (aS t25 (aS t41 (aS t73 (aS t137 (aS t265 aR aR) aR) (aS t201 (aS t329 aR aR) aR)) (aS t105 (aS t169 (aS t297 aR aR) aR) (aS t233 (aS t361 aR aR) aR))) (aS t57 (aS t89 (aS t153 (aS t281 aR aR) aR) (aS t217 (aS t345 aR aR) aR)) (aS t121 (aS t185 (aS t313 aR aR) aR) (aS t249 (aS t377 aR aR) aR))))) (aS t13 (aS t21 (aS t37 (aS t69 (aS t133 (aS t261 aR aR) (aS t389 aR aR)) (aS t197 (aS t325 aR aR) aR)) (aS t101 (aS t165 (aS t293 aR aR) aR) (aS t229 (aS t357 aR aR) aR))) (aS t53 (aS t85 (aS t149 (aS t277 aR aR) aR) (aS t213 (aS t341 aR aR) aR)) (aS t117 (aS t181 (aS t309 aR aR) aR) (aS t245 (aS t373 aR aR) aR)))) (aS t29 (aS t45 (aS t77 (aS t141 (aS t269 aR aR) aR) (aS t205 (aS t333 aR aR) aR)) (aS t109 (aS t173 (aS t301 aR aR) aR) (aS t237 (aS t365 aR aR) aR))) (aS t61 (aS t93 (aS t157 (aS t285 aR aR) aR) (aS t221 (aS t349 aR aR) aR)) (aS t125 (aS t189 (aS t317 aR aR) aR) (aS t253 (aS t381 aR aR) aR))))))) (aS t2 (aS t4 (aS t8 (aS t16 (aS t32 (aS t64 (aS t128 (aS t256 aR aR) (aS t384 aR aR)) (aS t192 (aS t320 aR aR) aR)) (aS t96 (aS t160 (aS t288 aR aR) aR) (aS t224 (aS t352 aR aR) aR))) (aS t48 (aS t80 (aS t144 (aS t272 aR aR) aR) (aS t208 (aS t336 aR aR) aR)) (aS t112 (aS t176 (aS t304 aR aR) aR) (aS t240 (aS t368 aR aR) aR)))) (aS t24 (aS t40 (aS t72 (aS t136 (aS t264 aR aR) aR) (aS t200 (aS t328 aR aR) aR)) (aS t104 (aS t168 (aS t296 aR aR) aR) (aS t232 (aS t360 aR aR) aR))) (aS t56 (aS t88 (aS t152 (aS t280 aR aR) aR) (aS t216 (aS t344 aR aR) aR)) (aS t120 (aS t184 (aS t312 aR aR) aR) (aS t248 (aS t376 aR aR) aR))))) (aS t12 (aS t20 (aS t36 (aS t68 (aS t132 (aS t260 aR aR) (aS t388 aR aR)) (aS t196 (aS t324 aR aR) aR)) (aS t100 (aS t164 (aS t292 aR aR) aR) (aS t228 (aS t356 aR aR) aR))) (aS t52 (aS t84 (aS t148 (aS t276 aR aR) aR) (aS t212 (aS t340 aR aR) aR)) (aS t116 (aS t180 (aS t308 aR aR) aR) (aS t244 (aS t372 aR aR) aR)))) (aS t28 (aS t44 (aS t76 (aS t140 (aS t268 aR aR) aR) (aS t204 (aS t332 aR aR) aR)) (aS t108 (aS t172 (aS t300 aR aR) aR) (aS t236 (aS t364 aR aR) aR))) (aS t60 (aS t92 (aS t156 (aS t284 aR aR) aR) (aS t220 (aS t348 aR aR) aR)) (aS t124 (aS t188 (aS t316 aR aR) aR) (aS t252 (aS t380 aR aR) aR)))))) (aS t6 (aS t10 (aS t18 (aS t34 (aS t66 (aS t130 (aS t258 aR aR) (aS t386 aR aR)) (aS t194 (aS t322 aR aR) aR)) (aS t98 (aS t162 (aS t290 aR aR) aR) (aS t226 (aS t354 aR aR) aR))) (aS t50 (aS t82 (aS t146 (aS t274 aR aR) aR) (aS t210 (aS t338 aR aR) aR)) (aS t114 (aS t178 (aS t306 aR aR) aR) (aS t242 (aS t370 aR aR) aR)))) (aS t26 (aS t42 (aS t74 (aS t138 (aS t266 aR aR) aR) (aS t202 (aS t330 aR aR) aR)) (aS t106 (aS t170 (aS t298 aR aR) aR) (aS t234 (aS t362 aR aR) aR))) (aS t58 (aS t90 (aS t154 (aS t282 aR aR) aR) (aS t218 (aS t346 aR aR) aR)) (aS t122 (aS t186 (aS t314 aR aR) aR) (aS t250 (aS t378 aR aR) aR))))) (aS t14 (aS t22 (aS t38 (aS t70 (aS t134 (aS t262 aR aR) aR) (aS t198 (aS t326 aR aR) aR)) (aS t102 (aS t166 (aS t294 aR aR) aR) (aS t230 (aS t358 aR aR) aR))) (aS t54 (aS t86 (aS t150 (aS t278 aR aR) aR) (aS t214 (aS t342 aR aR) aR)) (aS t118 (aS t182 (aS t310 aR aR) aR) (aS t246 (aS t374 aR aR) aR)))) (aS t30 (aS t46 (aS t78 (aS t142 (aS t270 aR aR) aR) (aS t206 (aS t334 aR aR) aR)) (aS t110 (aS t174 (aS t302 aR aR) aR) (aS t238 (aS t366 aR aR) aR))) (aS t62 (aS t94 (aS t158 (aS t286 aR aR) aR) (aS t222 (aS t350 aR aR) aR)) (aS t126 (aS t190 (aS t318 aR aR) aR) (aS t254 (aS t382 aR aR) aR))))))))
noncomputable def EG:T Func:=(aU f0 (aU f1 (aU f3 (aU f7 (aU f15 (aU f31 (aU f63 (aU f127 (aU f255 aT aT) aT) (aU f191 (aU f319 aT aT) aT)) (aU f95 (aU f159 (aU f287 aT aT) aT) (aU f223 (aU f351 aT aT) aT))) (aU f47 (aU f79 (aU f143 (aU f271 aT aT) aT) (aU f207 (aU f335 aT aT) aT)) (aU f111 (aU f175 (aU f303 aT aT) aT) (aU f239 aT aT)))) (aU f23 (aU f39 (aU f71 (aU f135 (aU f263 aT aT) aT) (aU f199 (aU f327 aT aT) aT)) (aU f103 (aU f167 (aU f295 aT aT) aT) (aU f231 (aU f359 aT aT) aT))) (aU f55 (aU f87 (aU f151 (aU f279 aT aT) aT) (aU f215 (aU f343 aT aT) aT)) (aU f119 (aU f183 (aU f311 aT aT) aT) (aU f247 aT aT))))) (aU f11 (aU f19 (aU f35 (aU f67 (aU f131 (aU f259 aT aT) aT) (aU f195 (aU f323 aT aT) aT)) (aU f99 (aU f163 (aU f291 aT aT) aT) (aU f227 (aU f355 aT aT) aT))) (aU f51 (aU f83 (aU f147 (aU f275 aT aT) aT) (aU f211 (aU f339 aT aT) aT)) (aU f115 (aU f179 (aU f307 aT aT) aT) (aU f243 aT aT)))) (aU f27 (aU f43 (aU f75 (aU f139 (aU f267 aT aT) aT) (aU f203 (aU f331 aT aT) aT)) (aU f107 (aU f171 (aU f299 aT aT) aT) (aU f235 aT aT))) (aU f59 (aU f91 (aU f155 (aU f283 aT aT) aT) (aU f219 (aU f347 aT aT) aT)) (aU f123 (aU f187 (aU f315 aT aT) aT) (aU f251 aT aT)))))) (aU f5 (aU f9 (aU f17 (aU f33 (aU f65 (aU f129 (aU f257 aT aT) aT) (aU f193 (aU f321 aT aT) aT)) (aU f97 (aU f161 (aU f289 aT aT) aT) (aU f225 (aU f353 aT aT) aT))) (aU f49 (aU f81 (aU f145 (aU f273 aT aT) aT) (aU f209 (aU f337 aT aT) aT)) (aU f113 (aU f177 (aU f305 aT aT) aT) (aU f241 aT aT)))) (aU f25 (aU f41 (aU f73 (aU f137 (aU f265 aT aT) aT) (aU f201 (aU f329 aT aT) aT)) (aU f105 (aU f169 (aU f297 aT aT) aT) (aU f233 aT aT))) (aU f57 (aU f89 (aU f153 (aU f281 aT aT) aT) (aU f217 (aU f345 aT aT) aT)) (aU f121 (aU f185 (aU f313 aT aT) aT) (aU f249 aT aT))))) (aU f13 (aU f21 (aU f37 (aU f69 (aU f133 (aU f261 aT aT) aT) (aU f197 (aU f325 aT aT) aT)) (aU f101 (aU f165 (aU f293 aT aT) aT) (aU f229 (aU f357 aT aT) aT))) (aU f53 (aU f85 (aU f149 (aU f277 aT aT) aT) (aU f213 (aU f341 aT aT) aT)) (aU f117 (aU f181 (aU f309 aT aT) aT) (aU f245 aT aT)))) (aU f29 (aU f45 (aU f77 (aU f141 (aU f269 aT aT) aT) (aU f205 (aU f333 aT aT) aT)) (aU f109 (aU f173 (aU f301 aT aT) aT) (aU f237 aT aT))) (aU f61 (aU f93 (aU f157 (aU f285 aT aT) aT) (aU f221 (aU f349 aT aT) aT)) (aU f125 (aU f189 (aU f317 aT aT) aT) (aU f253 aT aT))))))) (aU f2 (aU f4 (aU f8 (aU f16 (aU f32 (aU f64 (aU f128 (aU f256 aT aT) aT) (aU f192 (aU f320 aT aT) aT)) (aU f96 (aU f160 (aU f288 aT aT) aT) (aU f224 (aU f352 aT aT) aT))) (aU f48 (aU f80 (aU f144 (aU f272 aT aT) aT) (aU f208 (aU f336 aT aT) aT)) (aU f112 (aU f176 (aU f304 aT aT) aT) (aU f240 aT aT)))) (aU f24 (aU f40 (aU f72 (aU f136 (aU f264 aT aT) aT) (aU f200 (aU f328 aT aT) aT)) (aU f104 (aU f168 (aU f296 aT aT) aT) (aU f232 aT aT))) (aU f56 (aU f88 (aU f152 (aU f280 aT aT) aT) (aU f216 (aU f344 aT aT) aT)) (aU f120 (aU f184 (aU f312 aT aT) aT) (aU f248 aT aT))))) (aU f12 (aU f20 (aU f36 (aU f68 (aU f132 (aU f260 aT aT) aT) (aU f196 (aU f324 aT aT) aT)) (aU f100 (aU f164 (aU f292 aT aT) aT) (aU f228 (aU f356 aT aT) aT))) (aU f52 (aU f84 (aU f148 (aU f276 aT aT) aT) (aU f212 (aU f340 aT aT) aT)) (aU f116 (aU f180 (aU f308 aT aT) aT) (aU f244 aT aT)))) (aU f28 (aU f44 (aU f76 (aU f140 (aU f268 aT aT) aT) (aU f204 (aU f332 aT aT) aT)) (aU f108 (aU f172 (aU f300 aT aT) aT) (aU f236 aT aT))) (aU f60 (aU f92 (aU f156 (aU f284 aT aT) aT) (aU f220 (aU f348 aT aT) aT)) (aU f124 (aU f188 (aU f316 aT aT) aT) (aU f252 aT aT)))))) (aU f6 (aU f10 (aU f18 (aU f34 (aU f66 (aU f130 (aU f258 aT aT) aT) (aU f194 (aU f322 aT aT) aT)) (aU f98 (aU f162 (aU f290 aT aT) aT) (aU f226 (aU f354 aT aT) aT))) (aU f50 (aU f82 (aU f146 (aU f274 aT aT) aT) (aU f210 (aU f338 aT aT) aT)) (aU f114 (aU f178 (aU f306 aT aT) aT) (aU f242 aT aT)))) (aU f26 (aU f42 (aU f74 (aU f138 (aU f266 aT aT) aT) (aU f202 (aU f330 aT aT) aT)) (aU f106 (aU f170 (aU f298 aT aT) aT) (aU f234 aT aT))) (aU f58 (aU f90 (aU f154 (aU f282 aT aT) aT) (aU f218 (aU f346 aT aT) aT)) (aU f122 (aU f186 (aU f314 aT aT) aT) (aU f250 aT aT))))) (aU f14 (aU f22 (aU f38 (aU f70 (aU f134 (aU f262 aT aT) aT) (aU f198 (aU f326 aT aT) aT)) (aU f102 (aU f166 (aU f294 aT aT) aT) (aU f230 (aU f358 aT aT) aT))) (aU f54 (aU f86 (aU f150 (aU f278 aT aT) aT) (aU f214 (aU f342 aT aT) aT)) (aU f118 (aU f182 (aU f310 aT aT) aT) (aU f246 aT aT)))) (aU f30 (aU f46 (aU f78 (aU f142 (aU f270 aT aT) aT) (aU f206 (aU f334 aT aT) aT)) (aU f110 (aU f174 (aU f302 aT aT) aT) (aU f238 aT aT))) (aU f62 (aU f94 (aU f158 (aU f286 aT aT) aT) (aU f222 (aU f350 aT aT) aT)) (aU f126 (aU f190 (aU f318 aT aT) aT) (aU f254 aT aT))))))))
theorem HI:T.lay T.nil 0 Tryz.prog.types.toList=some DX:=by kernel_rfl
theorem IM:T.lay T.nil 0 Tryz.prog.funcs.toList=some EG:=by kernel_rfl
noncomputable def K5 (fn:Func):Bool:= !(fn.name== "runtime.NumGoroutine")
theorem K4:Tryz.prog.funcs.toList.all K5=true:=by kernel_rfl
end Go.Proofs.YtaagahmkmcnhaaaGreatDoor
namespace Go.Proofs.YtaagahmkmcnhaaaGreatDoor
open Sv
set_option maxRecDepth 1000000
noncomputable def eqsT:List TypeId:=[7,8,24,25,31,32,34,35,36,37,40,41,42,43,59,60,62,63,64,65,68,69,73,74,76,77,91,92,93,94,100,101,119,120,151,152,154,155,158,159,160,161,177,178,183,250,251,274,275,284,287,288,368,374,375,376,377,380]
noncomputable def Sj:Env:={types:=DX,funcs:=EG,eqs:=eqsT}
noncomputable def eqOk (t:TypeId):Bool:= !(Tryz.prog.stoodInHeld t)&& !(Tryz.prog.eqGuardType Tryz.prog.depth t)
noncomputable instance:lV:=⟨(Tryz.prog.globalNamed "internal/strconv.uint64pow10").getD 0⟩
theorem Sh:eqsT.all eqOk=true:=by kernel_rfl
theorem ae:bt Tryz.prog Sj where
 types:=fun t i h=>by
  have:=T.uR HI t
  have h:DX.get t=some i:=h
  rw[h] at this
  split at this
  ·rename_i hlt
   simp only[Vi] at this
   have hlt2:t<Tryz.prog.types.size:=by simpa using hlt.2
   show Tables.info? _ t=some i
   unfold Tables.info?
   rw[Th hlt2,<-Ve]
   exact this.symm
  ·cases this
 funcs:=fun f fn h=>by
  have:=T.uR IM f
  have h:EG.get f=some fn:=h
  rw[h] at this
  split at this
  ·simp only[Vi] at this
   refine⟨by rw[<-Ve];exact this.symm,?_⟩
   have hm:=UP.1 K4 fn (Ts this.symm)
   unfold K5 at hm
   simpa using hm
  ·cases this
 mixed:=by kernel_rfl
 eqs:=fun t ht=>by
  have:=UP.1 Sh t ht
  unfold eqOk at this
  simpa using this
end Go.Proofs.YtaagahmkmcnhaaaGreatDoor
namespace Go.Proofs.YtaagahmkmcnhaaaGreatDoor
open Go.RowKit
set_option maxRecDepth 100000
set_option maxHeartbeats 1000000
theorem mc {P:Program} {t e:TypeId} (hu:P.underlying t=some (.slice e)) (a:Option Addr) (n cap:Nat) (w:World):(binOp .eql t (.slice a n cap) (.slice none 0 0)).run P w= .ok (.bool a.isNone) w:=by
 rw[Sv.vR t (.slice a n cap) (.slice none 0 0) rfl]
 unfold Op.equal
 rw[show Op.maxDepth=9999+1 from rfl]
 generalize 9999=d
 cases a<;>simp[Op.equalIn,run_underlying hu]
theorem qe {f:FuncId} {fn:Func} {body:Code} (hf:Sv.T.get Sj.funcs f=some fn) (hb:fn.body=some body)
  (h:∀(a:Option Addr) (cap:Nat) (w:World),Calls Tryz.prog f #[.slice a 0 cap] w fun e w'=>∃b,e= .returned (.slice b 0 0)/\Sv.df w w'):Sv.Has Tryz.prog f [.aE false []] fun s=>s= .aE true []:=by
 refine⟨.aE true [],⟨⟨fn,body,(ae.funcs f fn hf).1,(ae.funcs f fn hf).2,hb⟩,rfl,rfl,fun{fz w vs} hfz hd=> ?_⟩,rfl⟩
 obtain⟨v,l,hv,hl,rfl⟩:=hd
 cases hl
 have e:∃a cap,v= .slice a 0 cap:=by
  rcases hv with⟨_,a,cap,h1,_⟩|⟨b,base,size,cap,h1,_⟩
  ·exact⟨a,cap,h1⟩
  ·exact⟨_,cap,h1⟩
 obtain⟨a,cap,rfl⟩:=e
 refine(h a cap w).mono fun e w' ⟨b,he,g⟩=>⟨_,he,fz,fun _ _ _ h=>h,fun _ _ _ h=> .inl h,fun b i v hv=> ?_,g,.inl ⟨rfl,b,0,rfl,fun _=>rfl⟩⟩
 obtain⟨arr,e,f,h1,h2⟩:=hfz b i v hv
 have hlt:b<w.heap.size:=by
  rw[TI] at h1
  exact h1.1
 exact⟨arr,e,f,by rw[g.old b hlt];exact h1,h2⟩
theorem wU {f:FuncId} {fn:Func} {body:Code} (hf:Sv.T.get Sj.funcs f=some fn) (hb:fn.body=some body)
  (h:∀(a:Option Addr) (cap:Nat) (w:World),Calls Tryz.prog f #[.slice a 0 cap] w fun e w'=>∃b,e= .returned (.slice b 0 0)/\Sv.df w w'):Sv.Has Tryz.prog f [.aE false []] fun s=>s= .aE false []:=by
 refine⟨.aE false [],⟨⟨fn,body,(ae.funcs f fn hf).1,(ae.funcs f fn hf).2,hb⟩,rfl,rfl,fun{fz w vs} hfz hd=> ?_⟩,rfl⟩
 obtain⟨v,l,hv,hl,rfl⟩:=hd
 cases hl
 have e:∃a cap,v= .slice a 0 cap:=by
  rcases hv with⟨_,a,cap,h1,_⟩|⟨b,base,size,cap,h1,_⟩
  ·exact⟨a,cap,h1⟩
  ·exact⟨_,cap,h1⟩
 obtain⟨a,cap,rfl⟩:=e
 refine(h a cap w).mono fun e w' ⟨b,he,g⟩=>⟨_,he,fz,fun _ _ _ h=>h,fun _ _ _ h=> .inl h,fun b i v hv=> ?_,g,.inl ⟨rfl,b,0,rfl,fun h=>by cases h⟩⟩
 obtain⟨arr,e,f,h1,h2⟩:=hfz b i v hv
 have hlt:b<w.heap.size:=by
  rw[TI] at h1
  exact h1.1
 exact⟨arr,e,f,by rw[g.old b hlt];exact h1,h2⟩
theorem wZ (a:Option Addr) (cap:Nat) (w:World):Calls Tryz.prog 117 #[.slice a 0 cap] w fun e w'=>∃b,e= .returned (.slice b 0 0)/\Sv.df w w':=by
 have hq:=mc (P:=Tryz.prog) Tryz.underlying153 a 0 cap
 rcases a with _|p
 ·simp only[VC] at hq
  go_enter Tryz.func117,Tryz.ntmps117
  go_wp2
  go_ret
  exact⟨_,rfl,Sv.df.refl w⟩
 ·simp only[VB] at hq
  go_enter Tryz.func117,Tryz.ntmps117
  go_wp2
  go_ret
  exact⟨_,rfl,Sv.df.alloc w _⟩
theorem wY (a:Option Addr) (cap:Nat) (w:World):Calls Tryz.prog 102 #[.slice a 0 cap] w fun e w'=>∃b,e= .returned (.slice b 0 0)/\Sv.df w w':=by
 have hq:=mc (P:=Tryz.prog) Tryz.underlying72 a 0 cap
 rcases a with _|p
 ·simp only[VC] at hq
  go_enter Tryz.func102,Tryz.ntmps102
  go_wp2
  go_ret
  exact⟨_,rfl,Sv.df.refl w⟩
 ·simp only[VB] at hq
  go_enter Tryz.func102,Tryz.ntmps102
  go_wp2
  go_ret
  exact⟨_,rfl,Sv.df.alloc w _⟩
theorem oz:Sv.Has Tryz.prog 102 [.aE false []] fun s=>s= .aE true []:=qe (fn:=Tryz.f102) rfl rfl wY
theorem w6 (a:Option Addr) (cap:Nat) (w:World):Calls Tryz.prog 111 #[.slice a 0 cap] w fun e w'=>∃b,e= .returned (.slice b 0 0)/\Sv.df w w':=by
 have hq:=mc (P:=Tryz.prog) Tryz.underlying22 a 0 cap
 rcases a with _|p
 ·simp only[VC] at hq
  go_enter Tryz.func111,Tryz.ntmps111
  go_wp2
  go_ret
  exact⟨_,rfl,Sv.df.refl w⟩
 ·simp only[VB] at hq
  go_enter Tryz.func111,Tryz.ntmps111
  go_wp2
  go_ret
  exact⟨_,rfl,Sv.df.alloc w _⟩
theorem w7:Sv.Has Tryz.prog 111 [.aE false []] fun s=>s= .aE true []:=qe (fn:=Tryz.f111) rfl rfl w6
end Go.Proofs.YtaagahmkmcnhaaaGreatDoor
namespace Go.Proofs.YtaagahmkmcnhaaaGreatDoor
open Go.Shelf Go.RowKit
set_option maxRecDepth 100000
theorem qb:(Tryz.prog.info? 288).map (fun i=>i.size)=some 2:=by kernel_rfl
set_option maxHeartbeats 1000000 in
set_option maxRecDepth 100000 in
theorem sI (b:Nat) (w:World) (h0:w.cell? ⟨b,0,none⟩=some (.pointer none)) (hsh:w.shape? b=some (288,2)) (hfz:w.frozen? ⟨b,0,none⟩=false):
  Calls Tryz.prog 283 #[.pointer (some ⟨b,0,none⟩)] w fun e w'=>e= .returned (.tuple #[])/\w'=w.setCell ⟨b,0,none⟩ (.pointer (some ⟨b,0,none⟩)):=by
 obtain⟨j,hj,hjs⟩:=U7.1 qb
 go_enter Tryz.func283,Tryz.ntmps283
 go_wp2
 rw[Lib.run_to_unsafe w ⟨b,0,none⟩ Tryz.underlying285 Tryz.underlying359 hj (by rw[hjs];decide) hsh (Nat.zero_lt_succ 1)]
 simp only[Result.andThen]
 rw[Oper.upon_value]
 go_wp2
 rw[run_callFunc_extern Tryz.func317 (by kernel_rfl) (by kernel_rfl) (by kernel_rfl) (e:=Extern.AbiNoEscape.same) (by kernel_rfl)]
 rw[Lib.run_noEscape]
 simp only[Result.andThen]
 rw[Oper.upon_value]
 go_wp2
 rw[Lib.run_from_unsafe w ⟨b,0,none⟩ Tryz.underlying359 Tryz.underlying285 hj hsh (by kernel_rfl)]
 simp only[Result.andThen]
 rw[Oper.upon_value]
 go_wp2
 go_end0
 exact⟨rfl,rfl⟩
theorem vx (b:Nat) (w:World) (h0:w.cell? ⟨b,0,none⟩=some (.pointer (some ⟨b,0,none⟩))):
  Calls Tryz.prog 283 #[.pointer (some ⟨b,0,none⟩)] w fun e w'=>e= .returned (.tuple #[])/\w'=w:=by
 obtain⟨j,hj,hjs⟩:=U7.1 qb
 go_enter Tryz.func283,Tryz.ntmps283
 go_wp2
 rw[Lib.run_neq_ptr_same w _ Tryz.underlying285 hj]
 go_wp2
 go_end0
 exact⟨rfl,rfl⟩
theorem Ag (B b:Nat) (bs:List Value) (w:World) (h:Lib.IsBuilder 288 5 B b bs w):
  Calls Tryz.prog 283 #[.pointer (some ⟨b,0,none⟩)] w fun e w'=>e= .returned (.tuple #[])/\(Lib.BuilderAt 288 5 B b (.pointer (some ⟨b,0,none⟩)) bs w'/\Below B w w'):=by
 rcases h with h|h
 ·refine(sI b w h.cell0 h.shape h.frozen0).mono ?_
  rintro e w' ⟨rfl,rfl⟩
  exact⟨rfl,h.used _,(Below.refl B w).setCell h.1 _⟩
 ·refine(vx b w h.cell0).mono ?_
  rintro e w' ⟨rfl,rfl⟩
  exact⟨rfl,h,Below.refl B _⟩
theorem vf:Builder.Extra Tryz.prog Tryz.lays169_ren where
 sizeBuilder:=by kernel_rfl
 liesBuilder:=by kernel_rfl
 t5:=Tryz.underlying5
 a5:=Tryz.isAgg5
 z5:=Tryz.sizeOf5
 v5:=Tryz.zeroValue5
 infoByte:=by kernel_rfl
 cellsByte:=by kernel_rfl
 sizeByte:=by kernel_rfl
 neB5:=by decide
set_option maxHeartbeats 2000000 in
theorem AV (B b:Nat) (bs:List Value) (s:ByteArray) (w:World) (h:Lib.IsBuilder 288 5 B b bs w) (hlen:bs.length+s.size<=140737488355328) (hBw:B<=w.heap.size):
  Calls Tryz.prog 224 #[.pointer (some ⟨b,0,none⟩),.string s] w fun e w'=>e= .returned (.tuple #[.int .i64 s.size,.nilIface])/\(Lib.BuilderAt 288 5 B b (.pointer (some ⟨b,0,none⟩)) (bs++Lib.strCells s) w'/\Below B w w'):=by
 obtain⟨i0,hi,hz0,hz1,hz2⟩:=info_parts vf.infoByte
 go_enter Tryz.func224,Tryz.ntmps224
 go_wp2_with (go_at_call 283;refine(Ag B b bs _ h).mono ?_)
 rintro e w1 ⟨rfl,h1,hb1⟩
 obtain⟨hB,v,hbk,hown,hne⟩:=h1
 have c0:w1.cell? ⟨b,0,none⟩=some (.pointer (some ⟨b,0,none⟩)):=by rw[Lib.cell_of_heap hbk];rfl
 have c1:w1.cell? ⟨b,1,none⟩=some v:=by rw[Lib.cell_of_heap hbk];rfl
 go_wp2_with (at_builtin;refine Lib.wpList_append_own_string _ rfl _ _ 286 9 rfl B 5 i0 Tryz.underlying286 Tryz.underlying9 hi hz0 hz1 hz2 _ _ _ rfl hown s rfl ?c3 ?c4 ?c5 ?_)
 case c3=>unfold maxLen;omega
 case c4=>omega
 case c5=>have:=hb1.size;omega
 intro v' w2 hown' hgrow _
 have hlt:b<w1.heap.size:=by
  rcases TX b w1.heap.size with h'|h'
  ·exact h'
  ·simp[Array.getElem?_eq_none h'] at hbk
 have hb2:w2.heap[b]? =some (.cells #[.pointer (some ⟨b,0,none⟩),v] 288 (0,0)):=by
  rw[hgrow.block b hlt (fun e=>hne e.symm)]
  exact hbk
 have d0:w2.cell? ⟨b,0,none⟩=some (.pointer (some ⟨b,0,none⟩)):=by rw[Lib.cell_of_heap hb2];rfl
 have d1:w2.cell? ⟨b,1,none⟩=some v:=by rw[Lib.cell_of_heap hb2];rfl
 have f1:w2.frozen? ⟨b,1,none⟩=false:=Lib.frozen_of_heap hb2 1
 obtain⟨ao,n',cap,rfl⟩:∃ao n' cap,v'= .slice ao n' cap:=by
  rcases hown'.2 with⟨hv,_⟩|⟨g,cap,cur,hv,_⟩
  ·exact⟨_,_,_,hv⟩
  ·exact⟨_,_,_,hv⟩
 go_wp2
 go_ret2
 refine⟨rfl,?_,?_⟩
 ·exact Lib.BuilderAt.put (T:=288) (e:=5) hB hb2 (bs':=bs++Lib.strCells s) (by simpa[Lib.strCells_length] using hown') (by decide)
 ·exact(hb1.grown hgrow (by have:=hb1.size;omega) (fun k hk=>(hown.lt k hk).1)).setCell (p:=⟨b,1,none⟩) hB _
theorem strOf (B b:Nat) (l:List UInt8) (w:World) (h:Lib.IsBuilder 288 5 B b (Lib.byteCells l) w) (hBw:B<=w.heap.size):
  Calls Tryz.prog 226 #[.pointer (some ⟨b,0,none⟩)] w fun e w'=>e= .returned (.string ⟨l.toArray⟩)/\Below B w w':=Any.Builder_String_any Tryz.lays169 vf B b l w h hBw
theorem QD (n:Int) (h0: -9223372036854775808<=n) (h1:n<=9223372036854775807) (w:World) (htab:Lib.TabIs Tryz.prog w "internal/strconv.uint64pow10" .u64 Lib.pow10Tab):
  Calls Tryz.prog 225 #[.int .i64 n] w fun e w'=>e= .returned (.string ⟨(Lib.itoa n).toArray⟩)/\Below w.heap.size w w':=
 (Any.strconv_Itoa Tryz.lays171 n h0 h1 w htab).mono fun _ _ ⟨h,_,_,e⟩=>⟨h,e▸Lib.below_grow _ _ (Tp _) _ _⟩
theorem SW (B n:Nat) (i:Int) (h0: -9223372036854775808<=i) (h1:i<=9223372036854775807) (sv:Value) (xs:List Value) (w:World) (hown:w.ownsRow B 5 1 sv n xs) (hBw:B<=w.heap.size) (hlim:n+21<=140737488355328)
  (htab:Lib.TabBelow Tryz.prog B w "internal/strconv.uint64pow10" .u64 Lib.pow10Tab):
  Calls Tryz.prog 285 #[sv,.int .i64 i,.int .i64 10] w fun e w'=>∃v',e= .returned v'/\w'.ownsRow B 5 1 v' (n+(Lib.itoa i).length) (xs++Lib.byteCells (Lib.itoa i))/\Below B w w'/\Lib.OthersKept 5 none w w':=Any.strconv_AppendInt_10 Tryz.lays176 B n i h0 h1 sv xs w hown hBw hlim htab
theorem tE:Tryz.prog.globalNamed "internal/strconv.uint64pow10"=some Sv.lV.g:=by kernel_rfl
end Go.Proofs.YtaagahmkmcnhaaaGreatDoor
namespace Go.Proofs.YtaagahmkmcnhaaaGreatDoor
open Sv
set_option maxRecDepth 100000
def JO (n:Nat) (all:List Sv.Edge):List Sv.Edge->Int->Option (Ctl Bool Unit)
 |[],_=>some (.Nj ())
 |e::r,i=>
  if e.lo>e.hi then some (.ret false) else
  if e.to<0 then some (.ret false) else
  if e.to>=n then some (.ret false) else
  if i>0 then
   (cN all (i-1)).bind fun p=>if p.hi>=e.lo then some (.ret false) else JO n all r (i+1)
  else JO n all r (i+1)
def Nx (n:Nat):List ba->Option Bool
 |[]=>some true
 |s::r=>(aN s.aF).bind fun _=>(JO n s.aF s.aF 0).bind fun
  | .ret b=>some b
  | .Nj ()=>Nx n r
def DR (l:List ba):Option Bool:=(aN l).bind fun _=>Nx l.length l
theorem oe {l:List ba} {r:Bool} (hm:DR l=some r):Has Tryz.prog 146 [aA l] fun s=>s= .bool r:=by
 refine hs ae Tryz.f146 ?_
 unfold DR at hm
 refine z ?_
 obtain⟨hg1,hm⟩:=ah hm
 refine lg (α:=Nat) ae (fun iw=>(Nx l.length (List.drop iw l)=some r,⟨56,[(9,.int .i64 iw),(8,.int .i64 ↑l.length),(7,aA l),(2,.bool false),(0,aA l)]⟩,⟨[],0,0,[],[]⟩,List.length l-iw)) ⟨(0),hm⟩ ?_
 intro i2 hq2
 dsimp only at hq2
 refine z ?_
 refine zd ?_ ?_<;>intro h3
 obtain⟨x3,ex3,ed3⟩:=an h3
 rw[ed3,Nx] at hq2
 refine z ?_
 obtain⟨hg4,hq2⟩:=ah hq2
 refine bq ex3 rfl (z ?_)
 obtain⟨v5,hv5,hq2⟩:=aa hq2
 refine lg (α:=Nat) ae (fun iw=>(JO l.length x3.aF (List.drop iw x3.aF) (iw:Int)=some v5,⟨56,[(16,.int .i64 iw),(15,.int .i64 ↑x3.aF.length),(14,.aE false (List.map cS x3.aF)),(4,.ptr 0 0),(9,.int .i64 ↑i2),(8,.int .i64 ↑l.length),(7,aA l),(2,.bool false),(0,aA l)]⟩,⟨[(0,.cells [.bool x3.acc,.aE false (List.map cS x3.aF)])],1,0,[],[]⟩,List.length x3.aF-iw)) ⟨(0),hv5⟩ ?_
 intro i5 hq5
 dsimp only at hq5
 refine z ?_
 refine zd ?_ ?_<;>intro h6
 obtain⟨x6,ex6,ed6⟩:=an h6
 rw[ed6,JO] at hq5
 refine z ?_
 refine bq ex6 rfl (z ?_)
 refine dg ae [0,1,0,4,15,31,63,127,255,511,1023,2047,4095,2047,10239,32767,65535,131071,262143,524287,1048575,2097151,4194303,2097151,10485759,33554431,67108863,134217727,2097151,270532607,1073741823,2147483647,4294967295] [] (z ?_)
 refine zd ?_ ?_<;>intro h7
 rw[Th h7] at hq5
 cases hq5
 dsimp only at hq2
 refine z ?_
 cases hq2
 exact fc
 rw[Ti h7] at hq5
 refine zd ?_ ?_<;>intro h8
 rw[Th h8] at hq5
 cases hq5
 dsimp only at hq2
 refine z ?_
 cases hq2
 exact fc
 rw[Ti h8] at hq5
 refine zd ?_ ?_<;>intro h9
 rw[Th h9] at hq5
 cases hq5
 dsimp only at hq2
 refine z ?_
 cases hq2
 exact fc
 rw[Ti h9] at hq5
 refine zd ?_ ?_<;>intro h10
 rw[Th h10] at hq5
 obtain⟨j11,x11,en11,ex11,hq5⟩:=av hq5
 refine bF en11 ex11 rfl (z ?_)
 refine zd ?_ ?_<;>intro h12
 rw[Th h12] at hq5
 cases hq5
 dsimp only at hq2
 refine z ?_
 cases hq2
 exact fc
 rw[Ti h12] at hq5
 exact bk ⟨i5+1,hq5⟩
 rw[Ti h10] at hq5
 exact bk ⟨i5+1,hq5⟩
 rw[aq h6,JO] at hq5
 cases hq5
 dsimp only at hq2
 refine z ?_
 exact bk ⟨i2+1,hq2⟩
 rw[aq h3,Nx] at hq2
 cases hq2
 exact fc
section
variable {α:Type}
def jE (g:α->α->Option Bool) (b:List α):List α->Int->Option Bool
 |[],_=>some true
 |x::r,i=>(cN b i).bind fun y=>(g x y).bind fun ok=>if ok then jE g b r (i+1) else some false
def kH (g:α->α->Option Bool) (a b:List α):Option Bool:=
 if(a.length:Int)=b.length then(aN a).bind fun _=>jE g b a 0 else some false
end
theorem EL {fn:FuncId} {cap:List SVal} (hc:aw cap=true) (hw:cG cap=cap) {g:ba->ba->Option Bool} (hg:∀{x y r},g x y=some r->Has Tryz.prog fn (.agg (ic x):: .agg (ic y)::cap) fun s=>s= .bool r) {a b:List ba} {r:Bool} (hm:kH g a b=some r):Has Tryz.prog 192 [aA a,aA b,.func (.func fn) [] cap] fun s=>s= .bool r:=by
 refine hs ae Tryz.f192 ?_
 unfold kH at hm
 refine z ?_
 refine zn ?_ ?_<;>intro h1
 rw[Ti h1] at hm
 cases hm
 exact fc
 rw[Th h1] at hm
 obtain⟨hg2,hm⟩:=ah hm
 refine lg (α:=Nat) ae (fun iw=>(jE g b (List.drop iw a) (iw:Int)=some r,⟨32,[(17,.int .i64 iw),(16,.int .i64 ↑a.length),(15,aA a),(6,.bool false),(1,aA b),(2,.func (.func fn) [] cap)]⟩,⟨[],0,0,[],[]⟩,List.length a-iw)) ⟨(0),hm⟩ ?_
 intro i3 hq3
 dsimp only at hq3
 refine z ?_
 refine zd ?_ ?_<;>intro h4
 obtain⟨x4,ex4,ed4⟩:=an h4
 rw[ed4,jE] at hq3
 refine z ?_
 refine bq ex4 rfl (z ?_)
 obtain⟨j5,x5,en5,ex5,hq3⟩:=av hq3
 refine bF en5 ex5 rfl (z ?_)
 obtain⟨v6,e6,hq3⟩:=aa hq3
 refine kK (hg e6) (by(simp only[cG,kp,hw];try rfl)) (z ?_)
 refine zm ?_ ?_<;>intro h7
 rw[Ti (nt h7)] at hq3
 cases hq3
 exact fc
 rw[Th h7] at hq3
 exact bk ⟨i3+1,hq3⟩
 rw[aq h4,jE] at hq3
 cases hq3
 exact fc
abbrev Ad (x y:Sv.Edge):Bool:=decide (x.lo=y.lo)&&(decide (x.hi=y.hi)&&(decide (x.to=y.to)&&true))
def iV (b:List Sv.Edge):List Sv.Edge->Int->Option Bool
 |[],_=>some true
 |x::r,i=>(cN b i).bind fun y=>
  if Ad x y then iV b r (i+1) else some false
def qm (a b:List Sv.Edge):Option Bool:=
 if(a.length:Int)=b.length then(aN a).bind fun _=>iV b a 0 else some false
theorem EM {a b:List Sv.Edge} {r:Bool} (hm:qm a b=some r):Has Tryz.prog 194 [.aE false (a.map cS),.aE false (b.map cS)] fun s=>s= .bool r:=by
 refine hs ae Tryz.f194 ?_
 unfold qm at hm
 refine z ?_
 refine zn ?_ ?_<;>intro h1
 rw[Ti h1] at hm
 cases hm
 exact fc
 rw[Th h1] at hm
 obtain⟨hg2,hm⟩:=ah hm
 refine lg (α:=Nat) ae (fun iw=>(iV b (List.drop iw a) (iw:Int)=some r,⟨26,[(13,.int .i64 iw),(12,.int .i64 ↑a.length),(4,.bool false),(0,.aE false (List.map cS a)),(1,.aE false (List.map cS b))]⟩,⟨[],0,0,[],[]⟩,List.length a-iw)) ⟨(0),hm⟩ ?_
 intro i3 hq3
 dsimp only at hq3
 refine z ?_
 refine zd ?_ ?_<;>intro h4
 obtain⟨x4,ex4,ed4⟩:=an h4
 rw[ed4,iV] at hq3
 refine z ?_
 refine dg ae [0,0,3,7,0,0,48,112,255] [] (z ?_)
 refine bq ex4 rfl (z ?_)
 obtain⟨j5,x5,en5,ex5,hq3⟩:=av hq3
 refine bF en5 ex5 rfl (z ?_)
 refine zm ?_ ?_<;>intro h6
 rw[Ti (nt h6)] at hq3
 cases hq3
 exact fc
 rw[Th h6] at hq3
 exact bk ⟨i3+1,hq3⟩
 rw[aq h4,iV] at hq3
 cases hq3
 exact fc
def xv (a b:ba):Option Bool:=if(a.acc==b.acc) then qm a.aF b.aF else some false
theorem Ks {a b:ba} {r:Bool} (hm:xv a b=some r):Has Tryz.prog 193 [.agg (ic a),.agg (ic b)] fun s=>s= .bool r:=by
 refine hs ae Tryz.f193 ?_
 unfold xv at hm
 refine z ?_
 refine zr ?_ ?_<;>intro h1
 rw[Th h1] at hm
 replace hm:=aB hm
 obtain⟨v2,e2,hm⟩:=aa hm
 refine ce (EM e2) (z ?_)
 cases hm
 exact fc
 rw[Ti (nt h1)] at hm
 cases hm
 exact fc
def rO (a b:List ba):Option Bool:=kH xv a b
theorem zw {a b:List ba} {r:Bool} (hm:rO a b=some r):Has Tryz.prog 152 [.agg [aA a],.agg [aA b]] fun s=>s= .bool r:=by
 refine hs ae Tryz.f152 ?_
 unfold rO at hm
 refine z ?_
 replace hm:=aB hm
 obtain⟨v1,e1,hm⟩:=aa hm
 refine ce (EL rfl rfl Ks e1) (z ?_)
 cases hm
 exact fc
def ir (a:List ba) (s:Int):Option Bool:=
 if s>=0 then if s<a.length then(cN a s).bind fun x=>some x.acc else some false else some false
theorem vY {a:List ba} {s:Int} {r:Bool} (hm:ir a s=some r):Has Tryz.prog 121 [.agg [aA a],.int .i64 s] fun v=>v= .bool r:=by
 refine hs ae Tryz.f121 ?_
 unfold ir at hm
 refine z ?_
 refine zd ?_ ?_<;>intro h1
 rw[Th h1] at hm
 refine zd ?_ ?_<;>intro h2
 rw[Th h2] at hm
 obtain⟨j3,x3,en3,ex3,hm⟩:=av hm
 refine bF en3 ex3 rfl (z ?_)
 cases hm
 exact fc
 rw[Ti h2] at hm
 cases hm
 exact fc
 rw[Ti h1] at hm
 cases hm
 exact fc
def iI (b:Int):List Sv.Edge->Option Int
 |[]=>some (-1)
 |e::r=>if e.lo<=b then if b<=e.hi then some e.to else iI b r else iI b r
def jf (a:List ba) (s b:Int):Option Int:=
 if s<0 then some (-1) else if s>=a.length then some (-1) else(cN a s).bind fun x=>(aN x.aF).bind fun _=>iI b x.aF
theorem dB {a:List ba} {s b:Int} {r:Int} (hm:jf a s b=some r):Has Tryz.prog 123 [.agg [aA a],.int .i64 s,.int .u8 b] fun v=>v= .int .i64 r:=by
 refine hs ae Tryz.f123 ?_
 unfold jf at hm
 refine z ?_
 refine zd ?_ ?_<;>intro h1
 rw[Th h1] at hm
 cases hm
 exact fc
 rw[Ti h1] at hm
 refine zd ?_ ?_<;>intro h2
 rw[Th h2] at hm
 cases hm
 exact fc
 rw[Ti h2] at hm
 obtain⟨j3,x3,en3,ex3,hm⟩:=av hm
 refine bF en3 ex3 rfl (z ?_)
 obtain⟨hg4,hm⟩:=ah hm
 refine lg (α:=Nat) ae (fun iw=>(iI b (List.drop iw x3.aF)=some r,⟨42,[(25,.int .i64 iw),(24,.int .i64 ↑x3.aF.length),(23,.aE false (List.map cS x3.aF)),(6,.int .i64 0),(2,.int .u8 b)]⟩,⟨[(0,.cells [aA a])],1,0,[],[]⟩,List.length x3.aF-iw)) ⟨(0),hm⟩ ?_
 intro i5 hq5
 dsimp only at hq5
 refine z ?_
 refine zd ?_ ?_<;>intro h6
 obtain⟨x6,ex6,ed6⟩:=an h6
 rw[ed6,iI] at hq5
 refine z ?_
 refine bq ex6 rfl (z ?_)
 refine zd ?_ ?_<;>intro h7
 rw[Th h7] at hq5
 refine zd ?_ ?_<;>intro h8
 rw[Th h8] at hq5
 cases hq5
 exact fc
 rw[Ti h8] at hq5
 exact bk ⟨i5+1,hq5⟩
 rw[Ti h7] at hq5
 exact bk ⟨i5+1,hq5⟩
 rw[aq h6,iI] at hq5
 cases hq5
 exact fc
abbrev lI (n:Int):Option Unit:=yf (0<=n/\n<256)
def EP:List Sv.Edge->List Bool->Option (List Bool)
 |[],a=>some a
 |e::r,a=>(sD 257 a e.lo true).bind fun a=>(lI e.hi).bind fun _=>(sD 257 a (e.hi+1) true).bind fun a=>EP r a
def EO:List ba->List Bool->Option (List Bool)
 |[],a=>some a
 |s::r,a=>(aN s.aF).bind fun _=>(EP s.aF a).bind fun a=>EO r a
def CP (a:List Bool):Nat->Int->List Int->Option (List Int)
 |0,_,out=>some out
 |n+1,b,out=>(SV 257 a b).bind fun x=>if x then(push out b).bind fun out=>CP a n (b+1) out else CP a n (b+1) out
def at0:List Bool:=true::List.replicate 256 false
def Ma (l:List ba):Option (List Int):=(aN l).bind fun _=>(EO l at0).bind fun a=>CP a 256 0 []
theorem Sr {l:List ba} {r:List Int} (hm:Ma l=some r):Has Tryz.prog 195 [aA l] fun s=>s= .aE false (r.map bM):=by
 refine hs ae Tryz.f195 ?_
 unfold Ma at hm
 refine z ?_
 obtain⟨hg1,hm⟩:=ah hm
 refine cA (j:=0) rfl ii (z ?_)
 obtain⟨v2,hv2,hm⟩:=aa hm
 refine lg (α:=Nat×List Bool) ae (fun(iw,s1)=>(EO (List.drop iw l) s1=some v2,⟨46,[(13,.int .i64 iw),(12,.int .i64 ↑l.length),(11,aA l),(3,.ptr 0 0),(2,.ax)]⟩,⟨[(0,.cells (s1.map .bool))],1,0,[],[]⟩,List.length l-iw)) ⟨(0,_),hv2⟩ ?_
 rintro⟨i2,s1_2⟩ hq2
 dsimp only at hq2
 refine z ?_
 refine zd ?_ ?_<;>intro h3
 obtain⟨x3,ex3,ed3⟩:=an h3
 rw[ed3,EO] at hq2
 refine z ?_
 obtain⟨hg4,hq2⟩:=ah hq2
 refine bq ex3 rfl (z ?_)
 obtain⟨v5,hv5,hq2⟩:=aa hq2
 refine lg (α:=Nat×List Bool) ae (fun(iw,s1)=>(EP (List.drop iw x3.aF) s1=some v5,⟨46,[(20,.int .i64 iw),(19,.int .i64 ↑x3.aF.length),(18,.aE false (List.map cS x3.aF)),(13,.int .i64 ↑i2),(12,.int .i64 ↑l.length),(11,aA l),(3,.ptr 0 0),(2,.ax)]⟩,⟨[(1,.cells [.bool x3.acc,.aE false (List.map cS x3.aF)]),(0,.cells (s1.map .bool))],2,0,[],[]⟩,List.length x3.aF-iw)) ⟨(0,_),hv5⟩ ?_
 rintro⟨i5,s1_5⟩ hq5
 dsimp only at hq5
 refine z ?_
 refine zd ?_ ?_<;>intro h6
 obtain⟨x6,ex6,ed6⟩:=an h6
 rw[ed6,EP] at hq5
 refine z ?_
 refine bq ex6 rfl (z ?_)
 obtain⟨j7,x7,en7,ej7,ex7,hq5⟩:=dX hq5
 refine cA en7 ej7 (z ?_)
 rw[dJ ex7 (by(show _+_*1=_;omega))]
 refine z ?_
 obtain⟨hg8,hq5⟩:=ah hq5
 refine z ?_
 obtain⟨j10,x10,en10,ej10,ex10,hq5⟩:=dX hq5
 refine cA en10 ej10 (z ?_)
 rw[dJ ex10 (by(show _+_*1=_;omega))]
 refine z ?_
 exact bk ⟨(i5+1,_),hq5⟩
 rw[aq h6,EP] at hq5
 cases hq5
 refine z ?_
 exact bk ⟨(i2+1,_),hq2⟩
 rw[aq h3,EO] at hq2
 cases hq2
 refine z ?_
 refine aY rfl rfl ?_
 refine cy 8 1 rfl ?_
 refine lg (α:=Nat×List Int×Nat) ae (fun(iw,s1,ts1)=>(CP v2 (256-iw) (iw:Int) s1=some r,⟨46,[(8,.own 1 ts1),(34,.int .i64 iw),(3,.ptr 0 0),(2,.ax)]⟩,⟨[(1,.row 1 (s1.map bM) ts1 false),(0,.cells (List.map .bool v2))],2,0,[],[]⟩,(256)-iw)) ⟨(0,_,(0)),hm⟩ ?_
 rintro⟨i11,s1_11,ts1_11⟩ hq11
 dsimp only at hq11
 refine z ?_
 refine zd ?_ ?_<;>intro h12
 have h12':(i11:Int)<(((256):Nat):Int):=by(try simp only[Tr,Ty,Tx,Tt] at h12);omega
 rw[c9 h12',CP] at hq11
 refine z ?_
 obtain⟨j13,x13,en13,ej13,ex13,hq11⟩:=gS hq11
 refine cA en13 ej13 (z ?_)
 rw[eT ex13 (by(show _+_*1=_;omega)) rfl]
 refine z ?_
 refine zr ?_ ?_<;>intro h14
 rw[Th h14] at hq11
 obtain⟨hg15,hq11⟩:=ay hq11
 refine z ?_
 refine aH (↑i11) rfl (z ?_)
 exact bk ⟨(i11+1,_,(ts1_11+1)),hq11⟩
 rw[Ti (nt h14)] at hq11
 exact bk ⟨(i11+1,_,ts1_11),hq11⟩
 have h12':¬(i11:Int)<(((256):Nat):Int):=by(try simp only[Tr,Ty,Tx,Tt] at h12);omega
 rw[c8 h12',CP] at hq11
 refine z ?_
 cases hq11
 refine dy (z ?_)
 first|exact e2|exact rfl
abbrev dV (n:Int):Option Unit:=yf (-9223372036854775808<=n/\n<9223372036854775808)
def fW (n:Int):List UInt8:=Go.Lib.itoa n
def D7 (cls:List Int):List Int->List UInt8->Option (List UInt8)
 |[],b=>some b
 |to::r,b=>(cN cls to).bind fun c=>(dV c).bind fun _=>(yf (b.length+1+(fW c).length<=1000000)).bind fun _=>D7 cls r (b++44::fW c)
def HU (cls:List Int) (next:List (List Int)) (s:Int):Option (List UInt8):=
 (cN cls s).bind fun c=>(dV c).bind fun _=>(cN next s).bind fun row=>(aN row).bind fun _=>D7 cls row (fW c)
def Ap {α:Type} (l:List α):Option (List α):=(aN l).bind fun _=>some l
theorem vG:Has Tryz.prog 117 [.aE false []] fun s=>s= .aE false []:=wU (fn:=Tryz.f117) rfl rfl wZ
theorem Aq {l r:List Sv.Edge} (hm:Ap l=some r):Has Tryz.prog 117 [.aE false (l.map cS)] fun s=>s= .aE false (r.map cS):=by
 unfold Ap at hm
 rcases l with _|⟨e,l⟩
 cases(ah hm).2
 exact vG
 refine hs ae Tryz.f117 (z ?_)
 obtain⟨hg1,hm⟩:=ah hm
 refine z ?_
 refine Ay (z ?_)
 cases hm
 refine dy (z ?_)
 first|exact e2|exact rfl
end Go.Proofs.YtaagahmkmcnhaaaGreatDoor
namespace Go.Proofs.YtaagahmkmcnhaaaGreatDoor
open Go.RowKit
set_option maxRecDepth 100000
def lB (w:World) (v:Value) (l:List Int):Prop:=∃a cap,v= .slice a l.length cap/\l.length<=cap/\(l=[]\/∃b base,a=some ⟨b,base,none⟩/\∀j x,l[j]? =some x->w.cell? ⟨b,base+j,none⟩=some (.int .i64 x))
def tl (w:World) (v:Value) (l:List (List Int)):Prop:=∃a cap,v= .slice a l.length cap/\l.length<=cap/\(l=[]\/∃b base,a=some ⟨b,base,none⟩/\∀j x,l[j]? =some x->∃u,w.cell? ⟨b,base+j,none⟩=some u/\lB w u x)
theorem eD {w w':World} (h:Below w.heap.size w w') {p:Addr} {v:Value} (e:w.cell? p=some v):w'.cell? p=some v:=by
 rw[h.cell (p:=p) ?_,e]
 unfold World.cell? at e
 rcases TX p.block w.heap.size with h1|h1
 ·exact h1
 ·rw[Array.getElem?_eq_none h1] at e;cases e
theorem lB.at_ {w:World} {a:Option Addr} {n cap:Nat} {l:List Int} (h:lB w (.slice a n cap) l) {j:Nat} {x:Int} (e:l[j]? =some x):n=l.length/\j<l.length/\∃b base,a=some ⟨b,base,none⟩/\w.cell? ⟨b,base+j,none⟩=some (.int .i64 x):=by
 obtain⟨a',cap',h1,h2,h3⟩:=h
 cases h1
 have hj:=(Tk.1 e).1
 rcases h3 with rfl|⟨b,base,h4,h5⟩
 ·cases hj
 ·exact⟨rfl,hj,b,base,h4,h5 j x e⟩
theorem lB.all {w:World} {b base n cap:Nat} {l:List Int} (h:lB w (.slice (some ⟨b,base,none⟩) n cap) l) (j:Nat) (x:Int) (e:l[j]? =some x):w.cell? ⟨b,base+j,none⟩=some (.int .i64 x):=by
 obtain⟨_,_,b',base',h1,h2⟩:=h.at_ e
 cases h1
 exact h2
theorem tl.at_ {w:World} {a:Option Addr} {n cap:Nat} {l:List (List Int)} (h:tl w (.slice a n cap) l) {j:Nat} {x:List Int} (e:l[j]? =some x):n=l.length/\j<l.length/\∃b base u,a=some ⟨b,base,none⟩/\w.cell? ⟨b,base+j,none⟩=some u/\lB w u x:=by
 obtain⟨a',cap',h1,h2,h3⟩:=h
 cases h1
 have hj:=(Tk.1 e).1
 rcases h3 with rfl|⟨b,base,h4,h5⟩
 ·cases hj
 ·obtain⟨u,h6,h7⟩:=h5 j x e
  exact⟨rfl,hj,b,base,u,h4,h6,h7⟩
abbrev Fp (w:World):Prop:=Lib.TabIs Tryz.prog w "internal/strconv.uint64pow10" .u64 Lib.pow10Tab
theorem Fp.below {w w':World} (h:Fp w) (k:Below w.heap.size w w'):Fp w':=(Lib.tabBelow_of_tabIs h) w' k
abbrev IsB:=Lib.IsBuilder 288 5
theorem ya {B b:Nat} {bs:List Value} {w w':World} (h:IsB B b bs w) (k:Below w.heap.size w w'):IsB B b bs w':=by
 have key:∀p,Lib.BuilderAt 288 5 B b p bs w->Lib.BuilderAt 288 5 B b p bs w':=fun p h=>by
  have hlt:=h.lt
  obtain⟨hB,v,hb,hown,hne⟩:=h
  refine⟨hB,v,by rw[k.block b hlt];exact hb,⟨hown.1,?_⟩,hne⟩
  rcases hown.2 with h1|⟨g,cap,cur,rfl,hg0,hg,rest⟩
  ·exact .inl h1
  ·exact .inr ⟨g,cap,cur,rfl,hg0,by rw[k.block g (TI.1 hg).1];exact hg,rest⟩
 exact h.imp (key _) (key _)
theorem I8 (a b:List UInt8):Lib.byteCells a++Lib.strCells ⟨b.toArray⟩=Lib.byteCells (a++b):=by
 rw[Lib.strCells_toArray,Lib.byteCells_append]
theorem I6 (a:List UInt8):(Lib.byteCells a).length=a.length:=by unfold Lib.byteCells;simp
set_option maxHeartbeats 4000000 in
theorem N6 {w:World} {b:Nat} {nx cs:Value} {cls:List Int} {next:List (List Int)} {s:Int} {t:List UInt8} (hm:HU cls next s=some t) (h1:w.cell? ⟨b,1,none⟩=some nx) (h3:w.cell? ⟨b,3,none⟩=some cs) (hn:tl w nx next) (hc:lB w cs cls) (ht:Fp w):
  Calls Tryz.prog 196 #[.pointer (some ⟨b,0,none⟩),.int .i64 s] w fun e w'=>e= .returned (.string ⟨t.toArray⟩)/\Below w.heap.size w w':=by
 unfold HU at hm
 obtain⟨j,c,rfl,hcj,hm⟩:=Sv.av hm
 obtain⟨hci,hm⟩:=Sv.ah hm
 obtain⟨j',row,hjj,hrow,hm⟩:=Sv.av hm
 have hjj:j=j':=by omega
 subst hjj
 obtain⟨hrl,hm⟩:=Sv.ah hm
 obtain⟨a1,cap1,rfl,hcap1,_⟩:=id hn
 obtain⟨a3,cap3,rfl,hcap3,_⟩:=id hc
 obtain⟨_,hj1,bn,basen,u,rfl,hu,hui⟩:=hn.at_ hrow
 obtain⟨_,hj3,bc,basec,rfl,hcc⟩:=hc.at_ hcj
 obtain⟨a5,cap5,rfl,hcap5,_⟩:=id hui
 have F1:=Lib.hid (fun W' (h:Below w.heap.size w W')=>eD h h1)
 have F3:=Lib.hid (fun W' (h:Below w.heap.size w W')=>eD h h3)
 have Fu:=Lib.hid (fun W' (h:Below w.heap.size w W')=>eD h hu)
 have Fc:=Lib.hid (fun(W':World) (h:Below w.heap.size w W') (k:Nat) (x:Int) (e:cls[k]? =some x)=>eD h (hc.all k x e))
 have Ft:=Lib.hid (fun W' (h:Below w.heap.size w W')=>Fp.below ht h)
 have hB0:Below w.heap.size w (w.alloc (.cells #[.pointer none,.slice none 0 0] 288)):=(Below.refl _ w).alloc (Tp _) _
 have h1:=eD hB0 h1
 have h3:=eD hB0 h3
 have hcc:=eD hB0 hcc
 have ht:=ht.below hB0
 have Hbd:=Lib.hid (Lib.fresh_isBuilder 288 5 w)
 have Hrow:=Lib.hid hui
 have HB0:=Lib.hid hB0
 have HM:=Lib.hid hm
 clear hui hc hn hB0 hu hm
 go_enter Tryz.func196,Tryz.ntmps196
 go_wp2_with (go_at_call 225;refine(QD _ hci.1 ii _ ht).mono ?_)
 rintro e w1 rfl hb1
 have hil:=Lib.itoa_length_le c hci.1 ii
 have hb1':Below (w.alloc (.cells #[.pointer none,.slice none 0 0] 288)).heap.size (w.alloc (.cells #[.pointer none,.slice none 0 0] 288)) w1:=by simpa using hb1
 have Hbd1:=Lib.hid (ya Hbd.out hb1')
 have HB1:=Lib.hid (HB0.out.trans (hb1'.mono HB0.out.size))
 clear hb1 hb1' h1 h3 hcc ht Hbd HB0
 go_wp2_with (go_at_call 224;refine(AV w.heap.size w.heap.size _ _ w1 Hbd1.out (by simpa[ByteArray.size] using(by omega:(Lib.itoa c).length<=140737488355328)) HB1.out.size).mono ?_)
 rintro e w2 ⟨rfl,hbd2,hb2⟩
 have h1:=F1.out w2 (HB1.out.trans hb2)
 have hu:=Fu.out w2 (HB1.out.trans hb2)
 rw[UC,Lib.strCells_toArray] at hbd2
 have HB2:=Lib.hid (HB1.out.trans hb2)
 have Hbd2:=Lib.hid (Or.inr hbd2:IsB w.heap.size w.heap.size (Lib.byteCells (fW c)) w2)
 clear hbd2 hb2 HB1 Hbd1
 go_wp2_with fail
 go_loopw [7,25] (fun _ i wr=>∃(k:Nat) (acc:List UInt8),k<=row.length/\i= .int .i64 k/\Hid (D7 cls (row.drop k) acc=some t)/\Hid (IsB w.heap.size w.heap.size (Lib.byteCells acc) wr)/\Hid (Below w.heap.size w wr)) (fun _ i _=>row.length-(intOf i).toNat)
 case atStart=>exact⟨0,_,TC _,rfl,HM,Hbd2,HB2⟩
 case round=>
  obtain⟨k,acc,hk,rfl,Hs,Hb,HB⟩:=hrel
  by_cases hlt:k<row.length
  ·have hs:=Hs.out
   rw[TN hlt] at hs
   have hx:row[k]? =some row[k]:=Tj hlt
   generalize row[k]=x at*
   obtain⟨_,_,br,baser,rfl,hcx⟩:=Hrow.out.at_ hx
   unfold D7 at hs
   obtain⟨q,d,rfl,hq,hs⟩:=Sv.av hs
   obtain⟨hdi,hs⟩:=Sv.ah hs
   obtain⟨hgl,hs⟩:=Sv.ah hs
   have hq3:q<cls.length:=(Tk.1 hq).1
   have hb:=HB.out
   have h3:=F3.out wr hb
   have hd:=Fc.out wr hb q d hq
   have hcx:=eD hb hcx
   have ht:=Ft.out wr hb
   have Hs':=Lib.hid hs
   have Hgl:=Lib.hid hgl
   clear hs hgl hb
   go_wp2_with (go_at_call 225;refine(QD _ hdi.1 ii _ ht).mono ?_)
   rintro e w3 rfl hb3
   have Hb3:=Lib.hid (ya Hb.out hb3)
   have HB3:=Lib.hid (HB.out.trans (hb3.mono HB.out.size))
   clear hb3 h3 hd hcx ht
   have hil2:=Lib.itoa_length_le d hdi.1 ii
   have Hcat:Hid ((ByteArray.mk #[44]++ByteArray.mk (Lib.itoa d).toArray)=ByteArray.mk ((44:UInt8)::Lib.itoa d).toArray):=Lib.hid (ByteArray.ext (by simp))
   have hlen:(Lib.byteCells acc).length+(ByteArray.mk #[44]++ByteArray.mk (Lib.itoa d).toArray).size<=140737488355328:=by
    have:=Hgl.out
    rw[Hcat.out]
    simp only[I6,ByteArray.size,Vo,Tu,fW] at*
    omega
   have Hlen:=Lib.hid hlen
   clear hlen
   go_wp2_with (go_at_call 224;refine(AV w.heap.size w.heap.size _ _ w3 Hb3.out Hlen.out HB3.out.size).mono ?_)
   rintro e w4 ⟨rfl,hbd4,hb4⟩
   rw[Hcat.out,I8] at hbd4
   have HB4:=Lib.hid (HB3.out.trans hb4)
   have Hb4:=Lib.hid (Or.inr hbd4:IsB w.heap.size w.heap.size _ w4)
   clear hbd4 hb4
   go_wp2
   go_roundw
   case rel=>exact⟨k+1,_,by omega,by go_num,Hs',Hb4,HB4⟩
   case measure=>simp[intOf];omega
  ·have hkl:k=row.length:=by omega
   subst hkl
   have hs:=Hs.out
   rw[List.drop_of_length_le (Tp _)] at hs
   unfold D7 at hs
   cases hs
   have Hb2:=Hb.out
   have HBs:=HB.out.size
   go_wp2_with (go_at_call 226;refine(strOf w.heap.size w.heap.size _ wr Hb2 HBs).mono ?_)
   rintro e w5 ⟨rfl,hb5⟩
   have HB5:=Lib.hid (HB.out.trans hb5)
   clear hb5
   go_wp2
   go_ret
   exact⟨rfl,HB5.out⟩
/-! In the logic. -/
theorem qp {c:Sv.Ctx} {k:IntKind}:∀{l:List Int} {vs:List Value},Sv.aJ c (l.map (Sv.SVal.int k)) vs->vs=l.map (Value.int k)
 |[],_,h=>h
 |x::l,_,⟨v,r,h1,h2,h3⟩=>by
  subst h3
  rw[qp h2]
  cases h1
  rfl
theorem Ih:Sv.Ge=Lib.pow10Tab:=by decide
theorem JZ {c:Sv.Ctx} {H:Sv.gx} {w:World} (hr:Sv.dD c H w) (h0:H 0=some Sv.aX):Fp w:=by
 obtain⟨l,_,ho⟩:=hr.dF 0 _ h0
 cases l with
 |box=>exact ho.elim
 |row ob st sz u=>
  obtain⟨rfl,_,arr,e,f,_,h1,h2⟩:=ho
  have h3:=qp h2
  show World.var? _ _ _=_
  unfold World.var?
  rw[tE]
  simp only[HP,h1]
  rw[<-Ih,<-h3]
theorem z6 {st:Sv.St} {x:Sv.SVal} {l:List Int} (h:Sv.dm st x (l.map Sv.bM)) {c:Sv.Ctx} {w:World} (hr:Sv.dD c st.look w) {u:Value} (hx:Sv.Den c x u):lB w u l:=by
 obtain⟨a,cap,rfl,h1,news,h2,h3,_,h4⟩:=h.spec hr hx (sz:=1) (fun r hr=>by obtain⟨y,_,rfl⟩:=T4.1 hr;rfl)
 rw[Tr] at h1 h3⊢
 refine⟨a,cap,rfl,h1,?_⟩
 rcases h4 with h4|⟨b,base,rfl,h5⟩
 ·exact .inl (List.map_eq_nil_iff.1 h4)
 ·refine .inr ⟨b,base,rfl,fun j y hy=>h5 j _ ?_⟩
  have e:(l.map Sv.bM).flatten=l.map (Sv.SVal.int .i64):=by
   clear h2 h3 h5 h1 hx h hy
   induction l with
   |nil=>rfl
   |cons a l ih=>rw[Uo,UB,ih];rfl
  rw[e] at h2
  rw[qp h2,TO,hy]
  rfl
theorem Ls {st:Sv.St} {x:Sv.SVal} {l:List (List Int)} (h:Sv.dm st x (l.map Sv.gh)) {c:Sv.Ctx} {w:World} (hr:Sv.dD c st.look w) {u:Value} (hx:Sv.Den c x u):tl w u l:=by
 obtain⟨a,cap,rfl,h1,news,h2,h3,_,h4⟩:=h.spec hr hx (sz:=1) (fun r hr=>by obtain⟨y,_,rfl⟩:=T4.1 hr;rfl)
 rw[Tr] at h1 h3⊢
 refine⟨a,cap,rfl,h1,?_⟩
 rcases h4 with h4|⟨b,base,rfl,h5⟩
 ·exact .inl (List.map_eq_nil_iff.1 h4)
 ·refine .inr ⟨b,base,rfl,fun j y hy=> ?_⟩
  have e:(l.map Sv.gh).flatten=l.map fun y=>Sv.SVal.aE false (y.map Sv.bM):=by
   clear h2 h3 h5 h1 hx h hy
   induction l with
   |nil=>rfl
   |cons a l ih=>rw[Uo,UB,ih];rfl
  rw[e] at h2
  obtain⟨v,h6,h7⟩:=h2.get (i:=j) (s:= .aE false (y.map Sv.bM)) (by rw[TO,hy];rfl)
  exact⟨v,h5 j v h6,z6 .aE hr h7⟩
theorem MB {cls:List Int} {next:List (List Int)} {s:Int} {t:List UInt8} {st:Sv.St} {k:Nat} {K:Sv.SVal->Sv.St->Prop} {x y nv cv:Sv.SVal} (hm:HU cls next s=some t) (hl:st.look k=some (.cells [x,nv,y,cv])) (hn:Sv.dm st nv (next.map Sv.gh)) (hc:Sv.dm st cv (cls.map Sv.bM)) (h0:st.look 0=some Sv.aX) (hk:K (.str t) st):
  Sv.eL Tryz.prog 196 [.ptr k 0,.int .i64 s] st K:=by
 refine⟨.str t,st,fun o d fop first cap ss ev ho hcl hf hev ha=>Sv.kt ho hcl hf hev ?_,hk⟩
 rw[ha]
 refine⟨⟨Tryz.f196,_,(ae.funcs 196 Tryz.f196 rfl).1,(ae.funcs 196 Tryz.f196 rfl).2,rfl⟩,Sv.eJ.refl st,fun{c w} hr hwf hfree {vs} hd=> ?_⟩
 obtain⟨v1,l1,⟨b,hb,rfl⟩,⟨v2,l2,rfl,rfl,rfl⟩,rfl⟩:=hd
 obtain⟨l,hρ,ho⟩:=hr.dF k _ hl
 rw[hb] at hρ
 cases hρ
 obtain⟨arr,e,harr,hden,_⟩:=ho
 obtain⟨nx,g1,dn⟩:=hden.get (i:=1) rfl
 obtain⟨cs,g3,dc⟩:=hden.get (i:=3) rfl
 have h1:w.cell? ⟨b,1,none⟩=some nx:=by rw[Lib.cell_of_heap harr,<-g1];simp
 have h3:w.cell? ⟨b,3,none⟩=some cs:=by rw[Lib.cell_of_heap harr,<-g3];simp
 refine(N6 hm h1 h3 (Ls hn hr dn) (z6 hc hr dc) (JZ hr h0)).mono fun e w' ⟨he,hB⟩=> ?_
 have hg:Sv.df w w':=⟨hB.os,hB.tape,hB.output,hB.size,fun r h=>hB.block r h⟩
 obtain⟨r1,s1⟩:=Sv.kF hr hg (fun _ _ _ h=>h) (fun _ _ _ h=> .inl h) (fun bb i v hv=>by
  obtain⟨arr,e,f,q1,q2⟩:=hr.fz bb i v hv
  exact⟨arr,e,f,by rw[hg.old bb (TI.1 q1).1];exact q1,q2⟩)
 exact⟨_,he,⟨c.ρ,c.fz⟩,⟨rfl,r1,s1⟩⟩
def EC:List Int->List UInt8->Option (List UInt8)
 |[],out=>some out
 |n::r,out=>(dV n).bind fun _=>(Sv.yf (out.length+1+(fW n).length<=1000000)).bind fun _=>EC r (out++44::fW n)
def zX (v:List Int):Option (List UInt8):=(Sv.aN v).bind fun _=>EC v []
def xc (w:World) (base:Nat) (v:Value) (l:List UInt8):Prop:=w.ownsRow base 5 1 v l.length (Lib.byteCells l)
theorem xc.form {w:World} {base:Nat} {v:Value} {l:List UInt8} (h:xc w base v l):∃A c,v= .slice A l.length c:=by
 rcases h.2 with⟨h1,h2⟩|⟨g,cap,cur,h1,_⟩
 ·exact⟨none,0,by rw[h1,h2]⟩
 ·exact⟨_,_,h1⟩
theorem app_b {ops:Array Oper} {rest:List Oper} {o:Oper} {a:Act} {Q:Exit->Act->World->Prop} {w:World} (hgd:o.guard=none) (s x:Operand)
  (ho:o.op= .call {callee:= .builtin .append,args:= #[s,x],argTypes:= #[286,286]})
  (base:Nat) (v:Value) (l:List UInt8) (g:Nat) (y:UInt8) (hs:a.eval s=v) (hown:xc w base v l) (hx:a.eval x= .slice (some ⟨g,0,none⟩) 1 1)
  (hc:w.heap[g]? =some (.cells #[.int .u8 y.toNat] 5 (0,0))) (hlen:l.length+1<=1000000000) (hbase:base<=w.heap.size)
  (h:∀v' w',xc w' base v' (l++[y])->Below base w w'->wpList Tryz.prog ops Q rest (a.put o.dst v') w'):wpList Tryz.prog ops Q (o::rest) a w:=by
 obtain⟨i0,hi0,hz0,hz1,hz2⟩:=info_parts vf.infoByte
 refine wpList_append_own w hgd s x 286 ho base 5 i0 _ 1 1 Tryz.underlying286 hi0 hz0 hz1 hz2 rfl (by decide) v l.length (Lib.byteCells l) hs hown
  ⟨g,0,none⟩ 1 1 [.int .u8 y.toNat] hx rfl ?_ ?_ (by unfold maxLen;omega) ii hbase ?_
 ·intro j u hu
  match j,hu with
  |0,hu=>simp at hu;subst hu;simp[World.cell?,Addr.add,hc]
 ·intro u hu
  cases To.1 hu
  rfl
 ·intro v' w' hown' hg _
  refine h v' w' ?_ ((Below.refl base w).grown hg hbase fun k hk=>(hown.lt k hk).1)
  unfold xc
  rw[Tt,Lib.byteCells_append]
  exact hown'
set_option maxHeartbeats 4000000 in
theorem OT {w:World} {v:Value} {l:List Int} {t:List UInt8} (hm:zX l=some t) (hv:lB w v l) (ht:Fp w):
  Calls Tryz.prog 230 #[v] w fun e w'=>e= .returned (.string ⟨t.toArray⟩)/\Below w.heap.size w w':=by
 unfold zX at hm
 obtain⟨hrl,hm⟩:=Sv.ah hm
 obtain⟨a1,cap1,rfl,hcap1,_⟩:=id hv
 have Ft:=Lib.hid (Lib.tabBelow_of_tabIs ht)
 have HM:=Lib.hid hm
 have HV:=Lib.hid hv
 clear ht hm hv
 go_enter Tryz.func230,Tryz.ntmps230
 go_wp2_with fail
 go_loopw [3,5,8] (fun v _ i wr=>∃(k:Nat) (acc:List UInt8),k<=l.length/\i= .int .i64 k/\Hid (EC (l.drop k) acc=some t)/\Hid (xc wr w.heap.size v acc)/\Hid (Below w.heap.size w wr)) (fun _ _ i _=>l.length-(intOf i).toNat)
 case atStart=>exact⟨0,[],TC _,rfl,HM,Lib.hid (World.ownsRow_nil _ _ _ _),Lib.hid (Below.refl _ _)⟩
 case round=>
  obtain⟨k,acc,hk,rfl,Hs,Hb,HB⟩:=hrel
  by_cases hlt:k<l.length
  ·have hs:=Hs.out
   rw[TN hlt] at hs
   have hx:l[k]? =some l[k]:=Tj hlt
   generalize l[k]=x at*
   obtain⟨_,_,br,baser,rfl,hcx⟩:=HV.out.at_ hx
   unfold EC at hs
   obtain⟨hdi,hs⟩:=Sv.ah hs
   obtain⟨hgl,hs⟩:=Sv.ah hs
   have hcx:=eD HB.out hcx
   obtain⟨A,c,rfl⟩:=Hb.out.form
   have Hs':=Lib.hid hs
   have Hgl:=Lib.hid hgl
   clear hs hgl
   have hBs:=Lib.hid HB.out.size
   have hown:=(Hb.out:xc wr w.heap.size (.slice A acc.length c) acc)
   have hal:acc.length+1<=1000000000:=by have:=Hgl.out;omega
   go_wp2_with (at_builtin;refine app_b rfl _ _ rfl w.heap.size _ acc _ 44 rfl (World.ownsRow.alloc hown _) rfl (heap_alloc_new wr _) hal (by have:=hBs.out;simp;omega) ?_)
   intro v2 w2 hown2 hb2
   obtain⟨A2,c2,rfl⟩:=hown2.form
   have e1:(acc++[(44:UInt8)]).length=acc.length+1:=by simp
   rw[e1] at hown2⊢
   unfold xc at hown2
   rw[e1] at hown2
   have HB2:=Lib.hid ((HB.out.alloc HB.out.size _).trans hb2)
   have Hown2:=Lib.hid hown2
   clear hb2 hown2 hown hBs
   have hal2:acc.length+1+21<=140737488355328:=by omega
   have Hc:=Lib.hid (SW w.heap.size _ x hdi.1 ii _ _ w2 Hown2.out HB2.out.size hal2 (Ft.out.on HB2.out))
   clear Hown2 hal2 hal Hb HB
   go_wp2_with (go_at_call 285;refine Hc.out.mono ?_)
   rintro e w3 ⟨v3,rfl,hown3,hb3,_⟩
   have Hb3:=Lib.hid (show xc w3 w.heap.size v3 (acc++44::fW x) by
    unfold xc
    have e2:acc++(44:UInt8)::fW x=(acc++[44])++fW x:=by simp
    rw[e2,Lib.byteCells_append,Tt,e1]
    exact hown3)
   have HB3:=Lib.hid (HB2.out.trans hb3)
   clear hown3 hb3 Hc
   go_wp2
   go_roundw
   case rel=>exact⟨k+1,_,by omega,by go_num,Hs',Hb3,HB3⟩
   case measure=>simp[intOf];omega
  ·have hkl:k=l.length:=by omega
   subst hkl
   have hs:=Hs.out
   rw[List.drop_of_length_le (Tp _)] at hs
   unfold EC at hs
   cases hs
   have hb:=Hb.out
   obtain⟨A,c,rfl⟩:=Hb.out.form
   have hcv:(convert 286 9 (.slice A t.length c)).run Tryz.prog wr= .ok (.string ⟨t.toArray⟩) wr:=by
    rcases hb.2 with⟨h1,h2⟩|⟨g,cap,cur,h1,_,hg,_,_,_,htk⟩
    ·injection h1 with ha hn hcc
     subst ha hcc
     have ht0:=TH.1 h2
     subst ht0
     exact Lib.run_convert_nil_bytes wr _ _ 5 0 Tryz.underlying286 Tryz.underlying5 Tryz.underlying9
    ·cases h1
     rw[Nat.mul_one] at htk
     exact run_convert_bytes_back wr _ _ 5 _ _ t Tryz.underlying286 Tryz.underlying5 Tryz.underlying9 (Lib.bytes_of_row hg htk)
   have HBo:=Lib.hid HB.out
   clear hb
   go_wp2
   go_ret
   exact⟨rfl,HB.out⟩
theorem Lm {v:List Int} {r:List UInt8} (hm:zX v=some r):Sv.bj Tryz.prog 230 [.aE false (v.map Sv.bM)] fun s=>s= .str r:=by
 have hcl:Sv.aw [Sv.SVal.aE false (v.map Sv.bM)]=true:=by simp only[Sv.aw,Sv.closed,Sv.eC,Tq]
 refine⟨hcl,.str r,[Sv.aX],⟨⟨⟨Tryz.f230,_,(ae.funcs 230 Tryz.f230 rfl).1,(ae.funcs 230 Tryz.f230 rfl).2,rfl⟩,Sv.eJ.refl _,fun{c w} hr hwf hfree {vs} hd=> ?_⟩,rfl,fun o ho=> ?_,fun o ho=> ?_,Sv.bo _ _ hcl,rfl⟩,rfl,rfl,rfl⟩
 ·obtain⟨v1,l1,d1,rfl,rfl⟩:=hd
  refine(OT hm (z6 .aE hr d1) (JZ hr rfl)).mono fun e w' ⟨he,hB⟩=> ?_
  have hg:Sv.df w w':=⟨hB.os,hB.tape,hB.output,hB.size,fun r h=>hB.block r h⟩
  obtain⟨r1,s1⟩:=Sv.kF hr hg (fun _ _ _ h=>h) (fun _ _ _ h=> .inl h) (fun bb i v hv=>by
   obtain⟨arr,e,f,q1,q2⟩:=hr.fz bb i v hv
   exact⟨arr,e,f,by rw[hg.old bb (TI.1 q1).1];exact q1,q2⟩)
  exact⟨_,he,⟨c.ρ,c.fz⟩,⟨rfl,r1,s1⟩⟩
 ·cases To.1 ho
  exact Sv.jX
 ·cases To.1 ho
  exact Sv.jX
end Go.Proofs.YtaagahmkmcnhaaaGreatDoor

/- More of the program's functions. No condition. -/
import Derived.Test.YtiamncdkekcokaaGreatDoorC1
set_option linter.unusedVariables false
noncomputable section
namespace Go.Proofs.YtiamncdkekcokaaGreatDoor
open Go.DI
variable (E : Env)
def D294 := cm 294
def J294_0 (E : Env) (r2 : DV) (h : H) : Ans := n_box r2 h fun x1 h2 => n_alc 1 1 (.list [(.str [])]) h2 fun x3 h4 => n_alc 1 1 (.list [(ii 0)]) h4 fun x5 h6 => none
theorem I294_0 : iB3 E D294 (fun _ _ r2 h => J294_0 E r2 h) := Is.rf
def S294 : Fun := fA3 (fun _ _ r2 h => J294_0 E r2 h)
theorem S294_eq : SQ D294 S294 := eB3 I294_0
def D295 := cm 295
def C295_1 := cr (cr (cr D295.body))
def C295_2 := cr (cr C295_1)
def C295_4 := cr C295_2
def C295_3 := cl (cr (cl (cr C295_1)))
def J295_4 (E : Env) (r6 : DV) (h : H) : Ans := some (r6, h)
def J295_2 (r0 r1 r6 : DV) (h : H) : Ans := vK (v_gtr r1 (ii 0)) fun x1 => bK x1 (vK (v_sub r1 (ii 1)) fun x2 => vK (v_iaS 1 r6 x2) fun x3 => wK (dStF 1 x3 r0 h) fun x4 h5 => J295_4 E r6 h5) (J295_4 E r6 h)
def B295_3 (r1 r6 : DV) (i3 : DV → DV → H → Ans) (r0 r7 : DV) (h : H) : Ans := vK (v_sub r1 (ii 1)) fun x1 => vK (v_lss r7 x1) fun x2 => bK x2 (wK (callK E 319 [r0] h) fun x3 h4 => vK (v_ext 0 x3) fun x5 => vK (v_ext 1 x3) fun x6 => vK (v_slS r0 none (some x6)) fun x7 => vK (v_iaS 1 r6 r7) fun x8 => wK (dStF 1 x8 x7 h4) fun x9 h10 => vK (v_slS r0 (some x6) none) fun x11 => vK (v_add r7 (ii 1)) fun x12 => i3 x11 x12 h10) (J295_2 E r0 r1 r6 h)
def L295_3 (r1 r6 : DV) (n : Nat) : DV → DV → H → Ans := Nat.rec (motive := fun _ => DV → DV → H → Ans) (fun _ _ _ => none) (fun _ i => B295_3 E r1 r6 i) n
def J295_1 (r0 r1 : DV) (h : H) : Ans := n_mks 1 16 (.str []) r1 r1 h fun x1 h2 => L295_3 E r1 x1 FUEL r0 (ii 0) h2
def J295_0 (r0 r1 : DV) (h : H) : Ans := wK (callK E 318 [r0] h) fun x1 h2 => vK (v_lss r1 (ii 0)) fun x3 => gdK x3 false (fun kk => kk r1 h2) h2 fun x4 h5 => gdK x3 false (fun kk => kk x1 h5) h5 fun x6 h7 => gdK x3 false (fun kk => vK (v_gtr x4 x6) fun v => kk v h7) h7 fun x8 h9 => vK (v_pick x3 (.bool true) x8) fun x10 => bK x10 (J295_1 E r0 x1 h9) (J295_1 E r0 r1 h9)
theorem I295_4 : Is E C295_4 (retK3 D295.res) (fun σ h => J295_4 E (σ p6) h) := Is.rf
theorem I295_2 : Is E C295_2 (retK3 D295.res) (fun σ h => J295_2 E (σ p0) (σ p1) (σ p6) h) := Is.aq (Is.sq (I295_4 E) (Is.leaf _))
abbrev K295_5 : KT2 (DV × H) := (thenK3 (fun σ h => J295_2 E (σ p0) (σ p1) (σ p6) h) (retK3 D295.res))
theorem I295_3 : Is E C295_3 (blockK3 0 (K295_5 E)) (fun σ h => L295_3 E (σ p1) (σ p6) FUEL (σ p0) (σ p7) h) := Is.lp (fun n3 σ h => L295_3 E (σ p1) (σ p6) n3 (σ p0) (σ p7) h) fun n3 => Is.aq (Is.leaf _)
theorem I295_1 : Is E C295_1 (retK3 D295.res) (fun σ h => J295_1 E (σ p0) (σ p1) h) := Is.aq (Is.sq (Is.sq (I295_2 E) (Is.sq (Is.bk (I295_3 E)) (Is.leaf _))) (Is.leaf _))
theorem I295_0 : iB2 E D295 (J295_0 E) := Is.aq (Is.sq (Is.sq (Is.sq (I295_1 E) (Is.leaf _)) (Is.leaf _)) (Is.leaf _))
def S295 : Fun := fA2 (J295_0 E)
theorem S295_eq : SQ D295 S295 := eB2 I295_0
def D296 := cm 296
def C296_1 := cl (cr (cr (cr (cr D296.body))))
def B296_1 (r1 : DV) (i1 : DV → DV → H → Ans) (r0 r5 : DV) (h : H) : Ans := wK (callK E 297 [r0, r1] h) fun x1 h2 => vK (v_eql x1 (.int .i64 (.negSucc 0))) fun x3 => bK x3 (some (r5, h2)) (vK (v_add r5 (ii 1)) fun x4 => vK (v_lenS r1) fun x5 => vK (v_add x1 x5) fun x6 => vK (v_slS r0 (some x6) none) fun x7 => i1 x7 x4 h2)
def L296_1 (r1 : DV) (n : Nat) : DV → DV → H → Ans := Nat.rec (motive := fun _ => DV → DV → H → Ans) (fun _ _ _ => none) (fun _ i => B296_1 E r1 i) n
def J296_0 (r0 r1 : DV) (h : H) : Ans := vK (v_lenS r1) fun x1 => vK (v_eql x1 (ii 0)) fun x2 => bK x2 (wK (callK E 318 [r0] h) fun x3 h4 => vK (v_add x3 (ii 1)) fun x5 => some (x5, h4)) (vK (v_lenS r1) fun x6 => vK (v_eql x6 (ii 1)) fun x7 => bK x7 (vK (v_ixS r1 (ii 0)) fun x8 => vK (v_cntB r0 x8) fun x9 => some (x9, h)) (L296_1 E r1 FUEL r0 (ii 0) h))
theorem I296_1 : Is E C296_1 (blockK3 0 (retK3 D296.res)) (fun σ h => L296_1 E (σ p1) FUEL (σ p0) (σ p5) h) := Is.lp (fun n1 σ h => L296_1 E (σ p1) n1 (σ p0) (σ p5) h) fun n1 => Is.aq (Is.leaf _)
theorem I296_0 : iB2 E D296 (J296_0 E) := Is.aq (Is.sq (Is.sq (Is.sq (Is.sq (Is.bk (I296_1 E)) (Is.leaf _)) (Is.leaf _)) (Is.leaf _)) (Is.leaf _))
def S296 : Fun := fA2 (J296_0 E)
theorem S296_eq : SQ D296 S296 := eB2 I296_0
def D297 := cm 297
def J297_0 (r0 r1 : DV) (h : H) : Ans := wK (callK E 321 [r0, r1] h) fun x1 h2 => some (x1, h2)
theorem I297_0 : iB2 E D297 (J297_0 E) := Is.rf
def S297 : Fun := fA2 (J297_0 E)
theorem S297_eq : SQ D297 S297 := eB2 I297_0
def D299 := cm 299
def C299_1 := cl (cr D299.body)
def B299_1 (E : Env) (r0 : DV) (i1 : DV → DV → H → Ans) (r2 r3 : DV) (h : H) : Ans := vK (v_lss r2 r3) fun x1 => bK x1 (vK (v_iaS 2 r0 r3) fun x2 => vK (v_ldN 2 h.get x2) fun x3 => vK (v_iaS 2 r0 r2) fun x4 => vK (v_ldN 2 h.get x4) fun x5 => vK (v_iaS 2 r0 r2) fun x6 => wK (dStF 2 x6 x3 h) fun x7 h8 => vK (v_iaS 2 r0 r3) fun x9 => wK (dStF 2 x9 x5 h8) fun x10 h11 => vK (v_add r2 (ii 1)) fun x12 => vK (v_sub r3 (ii 1)) fun x13 => i1 x12 x13 h11) (some ((.tup []), h))
def L299_1 (r0 : DV) (n : Nat) : DV → DV → H → Ans := Nat.rec (motive := fun _ => DV → DV → H → Ans) (fun _ _ _ => none) (fun _ i => B299_1 E r0 i) n
def J299_0 (r0 : DV) (h : H) : Ans := vK (v_lenL r0) fun x1 => vK (v_sub x1 (ii 1)) fun x2 => L299_1 E r0 FUEL (ii 0) x2 h
theorem I299_1 : Is E C299_1 (blockK3 0 (retK3 D299.res)) (fun σ h => L299_1 E (σ p0) FUEL (σ p2) (σ p3) h) := Is.lp (fun n1 σ h => L299_1 E (σ p0) n1 (σ p2) (σ p3) h) fun n1 => Is.aq (Is.leaf _)
theorem I299_0 : iB1 E D299 (J299_0 E) := Is.aq (Is.sq (Is.bk (I299_1 E)) (Is.leaf _))
def S299 : Fun := fA1 (J299_0 E)
theorem S299_eq : SQ D299 S299 := eB1 I299_0
def D305 := cm 305
def J305_0 (r0 r1 : DV) (h : H) : Ans := vK (v_slL 3 r0 none (some r1)) fun x1 => wK (callK E 324 [x1] h) fun x2 h3 => vK (v_slL 3 r0 (some r1) none) fun x4 => wK (callK E 324 [x4] h3) fun x5 h6 => wK (callK E 324 [r0] h6) fun x7 h8 => some ((.tup []), h8)
theorem I305_0 : iB2 E D305 (J305_0 E) := Is.rf
def S305 : Fun := fA2 (J305_0 E)
theorem S305_eq : SQ D305 S305 := eB2 I305_0
def D306 := cm 306
def J306_0 (r0 : DV) (h : H) : Ans := n_box r0 h fun x1 h2 => vK (v_fa 2 x1) fun x3 => vK (v_ld h2.get x3) fun x4 => vK (v_geq x4 (ii 0)) fun x5 => gdK x5 true (fun kk => vK (v_fa 2 x1) fun v => kk v h2) h2 fun x6 h7 => gdK x5 true (fun kk => vK (v_ld h7.get x6) fun v => kk v h7) h7 fun x8 h9 => gdK x5 true (fun kk => vK (v_lss x8 (ii 16)) fun v => kk v h9) h9 fun x10 h11 => vK (v_pick x5 x10 (.bool false)) fun x12 => gdK x12 true (fun kk => vK (v_fa 3 x1) fun v => kk v h11) h11 fun x13 h14 => gdK x12 true (fun kk => vK (v_ld h14.get x13) fun v => kk v h14) h14 fun x15 h16 => gdK x12 true (fun kk => vK (v_geq x15 (ii 1)) fun v => kk v h16) h16 fun x17 h18 => vK (v_pick x12 x17 (.bool false)) fun x19 => gdK x19 true (fun kk => vK (v_fa 4 x1) fun v => kk v h18) h18 fun x20 h21 => gdK x19 true (fun kk => vK (v_ld h21.get x20) fun v => kk v h21) h21 fun x22 h23 => gdK x19 true (fun kk => vK (v_geq x22 (ii 0)) fun v => kk v h23) h23 fun x24 h25 => vK (v_pick x19 x24 (.bool false)) fun x26 => gdK x26 true (fun kk => vK (v_fa 4 x1) fun v => kk v h25) h25 fun x27 h28 => gdK x26 true (fun kk => vK (v_ld h28.get x27) fun v => kk v h28) h28 fun x29 h30 => gdK x26 true (fun kk => vK (v_leq x29 (ii 65536)) fun v => kk v h30) h30 fun x31 h32 => vK (v_pick x26 x31 (.bool false)) fun x33 => gdK x33 true (fun kk => vK (v_fa 5 x1) fun v => kk v h32) h32 fun x34 h35 => gdK x33 true (fun kk => vK (v_ld h35.get x34) fun v => kk v h35) h35 fun x36 h37 => gdK x33 true (fun kk => wK (callK E 325 [x36] h37) kk) h37 fun x38 h39 => vK (v_pick x33 x38 (.bool false)) fun x40 => some (x40, h39)
theorem I306_0 : iB1 E D306 (J306_0 E) := Is.rf
def S306 : Fun := fA1 (J306_0 E)
theorem S306_eq : SQ D306 S306 := eB1 I306_0
def D307 := cm 307
def J307_0 (r0 : DV) (h : H) : Ans := vK (v_bld [(ii 0)] []) fun x1 => wK (callK E 326 [r0, (.ifc 435 x1)] h) fun x2 h3 => vK (v_not x2) fun x4 => bK x4 (some ((ii 0), h3)) (vK (v_tas 435 (.agg [(ii 0)]) true r0) fun x5 => vK (v_ext 0 x5) fun x6 => vK (v_ext 1 x5) fun x7 => n_alc 1 1 (.list [(ii 0)]) h3 fun x8 h9 => wK (dStF 1 x8 x6 h9) fun x10 h11 => vK (v_fa 0 x8) fun x12 => vK (v_ld h11.get x12) fun x13 => some (x13, h11))
theorem I307_0 : iB1 E D307 (J307_0 E) := Is.rf
def S307 : Fun := fA1 (J307_0 E)
theorem S307_eq : SQ D307 S307 := eB1 I307_0
def D308 := cm 308
def J308_0 (r0 r1 : DV) (h : H) : Ans := n_box r1 h fun x1 h2 => vK (v_eqv .ptr false h2.get r0 .nilp) fun x3 => gdK x3 false (fun kk => vK (v_fa 0 x1) fun v => kk v h2) h2 fun x4 h5 => gdK x3 false (fun kk => vK (v_ld h5.get x4) fun v => kk v h5) h5 fun x6 h7 => gdK x3 false (fun kk => vK (v_lss x6 (ii 0)) fun v => kk v h7) h7 fun x8 h9 => vK (v_pick x3 (.bool true) x8) fun x10 => gdK x10 false (fun kk => vK (v_fa 0 x1) fun v => kk v h9) h9 fun x11 h12 => gdK x10 false (fun kk => vK (v_ld h12.get x11) fun v => kk v h12) h12 fun x13 h14 => gdK x10 false (fun kk => vK (v_geq x13 (ii 4096)) fun v => kk v h14) h14 fun x15 h16 => vK (v_pick x10 (.bool true) x15) fun x17 => gdK x17 false (fun kk => vK (v_ldN 4 h16.get x1) fun v => kk v h16) h16 fun x18 h19 => gdK x17 false (fun kk => wK (callK E 327 [x18] h19) kk) h19 fun x20 h21 => gdK x17 false (fun kk => vK (v_not x20) fun v => kk v h21) h21 fun x22 h23 => vK (v_pick x17 (.bool true) x22) fun x24 => bK x24 (vK (v_bld [(ii 0)] [(0, 1, (ii 1))]) fun x25 => some ((.ifc 435 x25), h23)) (vK (v_fa 0 x1) fun x26 => vK (v_ld h23.get x26) fun x27 => wK (callK E 309 [r0, x27] h23) fun x28 h29 => vK (v_ext 0 x28) fun x30 => vK (v_ext 1 x28) fun x31 => bK x31 (vK (v_bld [(ii 0)] [(0, 1, (ii 6))]) fun x32 => some ((.ifc 435 x32), h29)) (vK (v_nilchk r0) fun x33 => vK (v_fa 0 x33) fun x34 => vK (v_ld h29.get x34) fun x35 => vK (v_ldN 4 h29.get x1) fun x36 => n_bsl 1 4 [(ii 0), (ii 0), (ii 0), (ii 0)] [(0, 4, x36)] h29 fun x37 h38 => wK (callK E 328 [x35, x30, x37] h38) fun x39 h40 => vK (v_nilchk r0) fun x41 => vK (v_fa 0 x41) fun x42 => wK (dStF 1 x42 x39 h40) fun x43 h44 => some (.nili, h44)))
theorem I308_0 : iB2 E D308 (J308_0 E) := Is.rf
def S308 : Fun := fA2 (J308_0 E)
theorem S308_eq : SQ D308 S308 := eB2 I308_0
def D309 := cm 309
def J309_0 (r0 r1 : DV) (h : H) : Ans := vK (v_nilchk r0) fun x1 => vK (v_fa 0 x1) fun x2 => vK (v_ld h.get x2) fun x3 => wK (callK E 329 [x3, r1, (.fn (.func 330) [] [])] h) fun x4 h5 => vK (v_ext 0 x4) fun x6 => vK (v_ext 1 x4) fun x7 => some ((.tup [x6, x7]), h5)
theorem I309_0 : iB2 E D309 (J309_0 E) := Is.rf
def S309 : Fun := fA2 (J309_0 E)
theorem S309_eq : SQ D309 S309 := eB2 I309_0
def D310 := cm 310
def J310_0 (E : Env) (r0 r1 r2 : DV) (h : H) : Ans := vK (v_lenL r0) fun x1 => vK (v_slM 4 r0 (some r1) r2 x1) fun x2 => vK (v_eql r1 r2) fun x3 => bK x3 (some (r0, h)) (vK (v_lenL r0) fun x4 => vK (v_slL 4 r0 none (some r1)) fun x5 => vK (v_slL 4 r0 (some r2) none) fun x6 => wK (dAppendF 4 32 x5 x6 h) fun x7 h8 => vK (v_lenL x7) fun x9 => vK (v_slL 4 x7 (some x9) (some x4)) fun x10 => wK (dClear [(ii 0), (ii 0), (ii 0), (ii 0)] x10 h8) fun x11 h12 => some (x7, h12))
theorem I310_0 : iB3 E D310 (J310_0 E) := Is.rf
def S310 : Fun := fA3 (J310_0 E)
theorem S310_eq : SQ D310 S310 := eB3 I310_0
def D315 := cm 315
def J315_0 (r0 r1 : DV) (h : H) : Ans := wK (callK E 284 [r0, r1] h) fun x1 h2 => vK (v_geq x1 (ii 0)) fun x3 => some (x3, h2)
theorem I315_0 : iB2 E D315 (J315_0 E) := Is.rf
def S315 : Fun := fA2 (J315_0 E)
theorem S315_eq : SQ D315 S315 := eB2 I315_0
def D316 := cm 316
def J316_0 (E : Env) (h : H) : Ans := none
theorem I316_0 : iB2 E D316 (fun _ _ h => J316_0 E h) := Is.rf
def S316 : Fun := fA2 (fun _ _ h => J316_0 E h)
theorem S316_eq : SQ D316 S316 := eB2 I316_0
def D317 := cm 317
def J317_0 (r0 r1 : DV) (h : H) : Ans := n_box r1 h fun x1 h2 => vK (v_eqv .ptr false h2.get r0 .nilp) fun x3 => bK x3 (some ((.tup [(.str []), (ii 1)]), h2)) (vK (v_ldN 2 h2.get x1) fun x4 => wK (callK E 168 [r0, x4] h2) fun x5 h6 => vK (v_lss x5 (ii 0)) fun x7 => bK x7 (some ((.tup [(.str []), (ii 7)]), h6)) (vK (v_nilchk r0) fun x8 => vK (v_fa 2 x8) fun x9 => vK (v_ld h6.get x9) fun x10 => bK x10 (some ((.tup [(.str []), (ii 16)]), h6)) (vK (v_nilchk r0) fun x11 => vK (v_fa 0 x11) fun x12 => vK (v_ld h6.get x12) fun x13 => vK (v_mul x5 (ii 9)) fun x14 => vK (v_add x14 (ii 1)) fun x15 => wK (callK E 166 [x13, x15, (ii 8)] h6) fun x16 h17 => vK (v_ext 0 x16) fun x18 => vK (v_ext 1 x16) fun x19 => vK (v_neq x19 (ii 0)) fun x20 => bK x20 (some ((.tup [(.str []), x19]), h17)) (vK (v_nilchk r0) fun x21 => vK (v_fa 1 x21) fun x22 => vK (v_ld h17.get x22) fun x23 => vK (v_iaS 4 x23 x5) fun x24 => vK (v_fa 3 x24) fun x25 => vK (v_ld h17.get x25) fun x26 => vK (v_slS x18 none (some x26)) fun x27 => some ((.tup [x27, (ii 0)]), h17)))))
theorem I317_0 : iB2 E D317 (J317_0 E) := Is.rf
def S317 : Fun := fA2 (J317_0 E)
theorem S317_eq : SQ D317 S317 := eB2 I317_0
def D318 := cm 318
def C318_1 := cr (cr D318.body)
def C318_2 := cl (cr (cl (cr D318.body)))
def J318_1 (E : Env) (r2 : DV) (h : H) : Ans := some (r2, h)
def B318_2 (E : Env) (i2 : H → Ans) (h : H) : Ans := none
def L318_2 (n : Nat) : H → Ans := Nat.rec (motive := fun _ => H → Ans) (fun _ => none) (fun _ i => B318_2 E i) n
def J318_0 (E : Env) (h : H) : Ans := none
theorem I318_1 : Is E C318_1 (retK3 D318.res) (fun σ h => J318_1 E (σ p2) h) := Is.rf
abbrev K318_3 : KT2 (DV × H) := (thenK3 (fun σ h => J318_1 E (σ p2) h) (retK3 D318.res))
theorem I318_2 : Is E C318_2 (blockK3 0 (K318_3 E)) (fun σ h => L318_2 E FUEL h) := Is.lp (fun n2 σ h => L318_2 E n2 h) fun n2 => Is.aq (Is.leaf _)
theorem I318_0 : iB1 E D318 (fun _ h => J318_0 E h) := Is.aq (Is.sq (Is.sq (I318_1 E) (Is.sq (Is.bk (I318_2 E)) (Is.leaf _))) (Is.leaf _))
def S318 : Fun := fA1 (fun _ h => J318_0 E h)
theorem S318_eq : SQ D318 S318 := eB1 I318_0
def D319 := cm 319
def J319_0 (r0 : DV) (h : H) : Ans := vK (v_neq r0 (.str [])) fun x1 => gdK x1 true (fun kk => kk r0 h) h fun x2 h3 => gdK x1 true (fun kk => vK (v_ixS x2 (ii 0)) fun v => kk v h3) h3 fun x4 h5 => gdK x1 true (fun kk => vK (v_lss x4 (.int .u8 (.ofNat 128))) fun v => kk v h5) h5 fun x6 h7 => vK (v_pick x1 x6 (.bool false)) fun x8 => bK x8 (vK (v_ixS r0 (ii 0)) fun x9 => vK (v_conv .i32 x9) fun x10 => some ((.tup [x10, (ii 1)]), h7)) (wK (callK E 331 [r0] h7) fun x11 h12 => vK (v_ext 0 x11) fun x13 => vK (v_ext 1 x11) fun x14 => some ((.tup [x13, x14]), h12))
theorem I319_0 : iB1 E D319 (J319_0 E) := Is.rf
def S319 : Fun := fA1 (J319_0 E)
theorem S319_eq : SQ D319 S319 := eB1 I319_0
def D321 := cm 321
def C321_1 := cr (cr (cr (cr (cr (cr (cr (cr (cr D321.body))))))))
def C321_2 := cl (cl (cr (cr (cr (cr (cr (cr (cr (cr D321.body)))))))))
def C321_3 := cr (cl (cr (cl C321_2)))
def J321_1 (E : Env) (h : H) : Ans := some ((.int .i64 (.negSucc 0)), h)
def J321_3 (E : Env) (r0 r1 r5 r7 r8 r10 : DV) (h : H) : Ans := vK (v_add r8 (ii 1)) fun x1 => vK (v_ixS r0 x1) fun x2 => vK (v_eql x2 r7) fun x3 => gdK x3 true (fun kk => kk r0 h) h fun x4 h5 => gdK x3 true (fun kk => kk r8 h5) h5 fun x6 h7 => gdK x3 true (fun kk => kk r8 h7) h7 fun x8 h9 => gdK x3 true (fun kk => kk r5 h9) h9 fun x10 h11 => gdK x3 true (fun kk => vK (v_add x8 x10) fun v => kk v h11) h11 fun x12 h13 => gdK x3 true (fun kk => vK (v_slS x4 (some x6) (some x12)) fun v => kk v h13) h13 fun x14 h15 => gdK x3 true (fun kk => kk r1 h15) h15 fun x16 h17 => gdK x3 true (fun kk => vK (v_eql x14 x16) fun v => kk v h17) h17 fun x18 h19 => vK (v_pick x3 x18 (.bool false)) fun x20 => bK x20 (some (r8, h19)) (vK (v_add r8 (ii 1)) fun x21 => vK (v_add r10 (ii 1)) fun x22 => none)
def B321_2 (r0 r1 r5 r6 r7 r9 : DV) (i2 : DV → DV → H → Ans) (r8 r10 : DV) (h : H) : Ans := vK (v_lss r8 r9) fun x1 => bK x1 (vK (v_ixS r0 r8) fun x2 => vK (v_neq x2 r6) fun x3 => bK x3 (vK (v_add r8 (ii 1)) fun x4 => vK (v_slS r0 (some x4) (some r9)) fun x5 => wK (callK E 257 [x5, r6] h) fun x6 h7 => vK (v_lss x6 (ii 0)) fun x8 => bK x8 (some ((.int .i64 (.negSucc 0)), h7)) (vK (v_add x6 (ii 1)) fun x9 => vK (v_add r8 x9) fun x10 => J321_3 E r0 r1 r5 r7 x10 r10 h7)) (J321_3 E r0 r1 r5 r7 r8 r10 h)) (J321_1 E h)
def L321_2 (r0 r1 r5 r6 r7 r9 : DV) (n : Nat) : DV → DV → H → Ans := Nat.rec (motive := fun _ => DV → DV → H → Ans) (fun _ _ _ => none) (fun _ i => B321_2 E r0 r1 r5 r6 r7 r9 i) n
def J321_0 (r0 r1 : DV) (h : H) : Ans := vK (v_lenS r1) fun x1 => vK (v_eql x1 (ii 0)) fun x2 => gdK x2 false (fun kk => kk r1 h) h fun x3 h4 => gdK x2 false (fun kk => kk r0 h4) h4 fun x5 h6 => gdK x2 false (fun kk => vK (v_eql x3 x5) fun v => kk v h6) h6 fun x7 h8 => vK (v_pick x2 (.bool true) x7) fun x9 => bK x9 (some ((ii 0), h8)) (vK (v_eql x1 (ii 1)) fun x10 => bK x10 (vK (v_ixS r1 (ii 0)) fun x11 => wK (callK E 257 [r0, x11] h8) fun x12 h13 => some (x12, h13)) (vK (v_lenS r0) fun x14 => vK (v_geq x1 x14) fun x15 => bK x15 (some ((.int .i64 (.negSucc 0)), h8)) (none)))
theorem I321_1 : Is E C321_1 (retK3 D321.res) (fun σ h => J321_1 E h) := Is.rf
abbrev K321_4 : KT2 (DV × H) := (blockK3 1 (thenK3 (fun σ h => J321_1 E h) (retK3 D321.res)))
abbrev K321_5 (n2 : Nat) : KT2 (DV × H) := (thenK3 (fun σ h => (L321_2 E (σ p0) (σ p1) (σ p5) (σ p6) (σ p7) (σ p9) n2) (σ p8) (σ p10) h) (K321_4 E))
theorem I321_3 (n2 : Nat) : Is E C321_3 (blockK3 2 (K321_5 E n2)) (fun σ h => J321_3 E (σ p0) (σ p1) (σ p5) (σ p7) (σ p8) (σ p10) h) := Is.rf
theorem I321_2 : Is E C321_2 (K321_4 E) (fun σ h => L321_2 E (σ p0) (σ p1) (σ p5) (σ p6) (σ p7) (σ p9) FUEL (σ p8) (σ p10) h) := Is.lp (fun n2 σ h => L321_2 E (σ p0) (σ p1) (σ p5) (σ p6) (σ p7) (σ p9) n2 (σ p8) (σ p10) h) fun n2 => Is.aq (Is.sq (Is.bk (Is.sq (I321_3 E n2) (Is.leaf _))) (Is.leaf _))
theorem I321_0 : iB2 E D321 (J321_0 E) := Is.aq (Is.sq (Is.sq (Is.sq (Is.sq (Is.sq (Is.sq (Is.sq (Is.sq (Is.sq (I321_1 E) (Is.bk (I321_2 E))) (Is.leaf _)) (Is.leaf _)) (Is.leaf _)) (Is.leaf _)) (Is.leaf _)) (Is.leaf _)) (Is.leaf _)) (Is.leaf _))
def S321 : Fun := fA2 (J321_0 E)
theorem S321_eq : SQ D321 S321 := eB2 I321_0
def D324 := cm 324
def C324_1 := cl (cr D324.body)
def B324_1 (E : Env) (r0 : DV) (i1 : DV → DV → H → Ans) (r2 r3 : DV) (h : H) : Ans := vK (v_lss r2 r3) fun x1 => bK x1 (vK (v_iaS 3 r0 r3) fun x2 => vK (v_ldN 3 h.get x2) fun x3 => vK (v_iaS 3 r0 r2) fun x4 => vK (v_ldN 3 h.get x4) fun x5 => vK (v_iaS 3 r0 r2) fun x6 => wK (dStF 3 x6 x3 h) fun x7 h8 => vK (v_iaS 3 r0 r3) fun x9 => wK (dStF 3 x9 x5 h8) fun x10 h11 => vK (v_add r2 (ii 1)) fun x12 => vK (v_sub r3 (ii 1)) fun x13 => i1 x12 x13 h11) (some ((.tup []), h))
def L324_1 (r0 : DV) (n : Nat) : DV → DV → H → Ans := Nat.rec (motive := fun _ => DV → DV → H → Ans) (fun _ _ _ => none) (fun _ i => B324_1 E r0 i) n
def J324_0 (r0 : DV) (h : H) : Ans := vK (v_lenL r0) fun x1 => vK (v_sub x1 (ii 1)) fun x2 => L324_1 E r0 FUEL (ii 0) x2 h
theorem I324_1 : Is E C324_1 (blockK3 0 (retK3 D324.res)) (fun σ h => L324_1 E (σ p0) FUEL (σ p2) (σ p3) h) := Is.lp (fun n1 σ h => L324_1 E (σ p0) n1 (σ p2) (σ p3) h) fun n1 => Is.aq (Is.leaf _)
theorem I324_0 : iB1 E D324 (J324_0 E) := Is.aq (Is.sq (Is.bk (I324_1 E)) (Is.leaf _))
def S324 : Fun := fA1 (J324_0 E)
theorem S324_eq : SQ D324 S324 := eB1 I324_0
def D325 := cm 325
def C325_1 := cr (cr (cr D325.body))
def C325_2 := cl (cr (cl (cr (cr D325.body))))
def J325_1 (E : Env) (h : H) : Ans := some ((.bool true), h)
def B325_2 (r0 r13 r14 : DV) (i2 : DV → H → Ans) (r15 : DV) (h : H) : Ans := vK (v_lss r15 r14) fun x1 => bK x1 (vK (v_iaS 1 r13 r15) fun x2 => vK (v_ld h.get x2) fun x3 => vK (v_lss x3 (ii 0)) fun x4 => gdK x4 false (fun kk => kk x3 h) h fun x5 h6 => gdK x4 false (fun kk => vK (v_geq x5 (ii 64)) fun v => kk v h6) h6 fun x7 h8 => vK (v_pick x4 (.bool true) x7) fun x9 => gdK x9 false (fun kk => kk r0 h8) h8 fun x10 h11 => gdK x9 false (fun kk => kk r15 h11) h11 fun x12 h13 => gdK x9 false (fun kk => vK (v_slL 1 x10 none (some x12)) fun v => kk v h13) h13 fun x14 h15 => gdK x9 false (fun kk => kk x3 h15) h15 fun x16 h17 => gdK x9 false (fun kk => wK (callK E 315 [x14, x16] h17) kk) h17 fun x18 h19 => vK (v_pick x9 (.bool true) x18) fun x20 => bK x20 (some ((.bool false), h19)) (vK (v_add r15 (ii 1)) fun x21 => i2 x21 h19)) (J325_1 E h)
def L325_2 (r0 r13 r14 : DV) (n : Nat) : DV → H → Ans := Nat.rec (motive := fun _ => DV → H → Ans) (fun _ _ => none) (fun _ i => B325_2 E r0 r13 r14 i) n
def J325_0 (r0 : DV) (h : H) : Ans := vK (v_lenL r0) fun x1 => vK (v_lss x1 (ii 2)) fun x2 => gdK x2 false (fun kk => kk r0 h) h fun x3 h4 => gdK x2 false (fun kk => vK (v_lenL x3) fun v => kk v h4) h4 fun x5 h6 => gdK x2 false (fun kk => vK (v_gtr x5 (ii 8)) fun v => kk v h6) h6 fun x7 h8 => vK (v_pick x2 (.bool true) x7) fun x9 => bK x9 (some ((.bool false), h8)) (vK (v_lenL r0) fun x10 => L325_2 E r0 r0 x10 FUEL (ii 0) h8)
theorem I325_1 : Is E C325_1 (retK3 D325.res) (fun σ h => J325_1 E h) := Is.rf
abbrev K325_3 : KT2 (DV × H) := (blockK3 0 (thenK3 (fun σ h => J325_1 E h) (retK3 D325.res)))
theorem I325_2 : Is E C325_2 (K325_3 E) (fun σ h => L325_2 E (σ p0) (σ p13) (σ p14) FUEL (σ p15) h) := Is.lp (fun n2 σ h => L325_2 E (σ p0) (σ p13) (σ p14) n2 (σ p15) h) fun n2 => Is.aq (Is.leaf _)
theorem I325_0 : iB1 E D325 (J325_0 E) := Is.aq (Is.sq (Is.sq (Is.sq (I325_1 E) (Is.sq (Is.bk (I325_2 E)) (Is.leaf _))) (Is.leaf _)) (Is.leaf _))
def S325 : Fun := fA1 (J325_0 E)
theorem S325_eq : SQ D325 S325 := eB1 I325_0
def D326 := cm 326
def J326_0 (r0 r1 : DV) (h : H) : Ans := vK (v_eqv .nilI false h.get r0 .nili) fun x1 => gdK x1 false (fun kk => kk r1 h) h fun x2 h3 => gdK x1 false (fun kk => vK (v_eqv .nilI false h3.get x2 .nili) fun v => kk v h3) h3 fun x4 h5 => vK (v_pick x1 (.bool true) x4) fun x6 => bK x6 (vK (v_eqv .nilD false h5.get r0 r1) fun x7 => some (x7, h5)) (wK (callK E 335 [r1] h5) fun x8 h9 => wK (c_mth E [] x8 [] h9) fun x10 h11 => wK (callK E 336 [r0, r1, x10] h11) fun x12 h13 => some (x12, h13))
theorem I326_0 : iB2 E D326 (J326_0 E) := Is.rf
def S326 : Fun := fA2 (J326_0 E)
theorem S326_eq : SQ D326 S326 := eB2 I326_0
def D327 := cm 327
def J327_0 (E : Env) (r0 : DV) (h : H) : Ans := n_box r0 h fun x1 h2 => vK (v_fa 1 x1) fun x3 => vK (v_ld h2.get x3) fun x4 => vK (v_geq x4 (ii 1)) fun x5 => gdK x5 true (fun kk => vK (v_fa 1 x1) fun v => kk v h2) h2 fun x6 h7 => gdK x5 true (fun kk => vK (v_ld h7.get x6) fun v => kk v h7) h7 fun x8 h9 => gdK x5 true (fun kk => vK (v_leq x8 (ii 65536)) fun v => kk v h9) h9 fun x10 h11 => vK (v_pick x5 x10 (.bool false)) fun x12 => gdK x12 true (fun kk => vK (v_fa 2 x1) fun v => kk v h11) h11 fun x13 h14 => gdK x12 true (fun kk => vK (v_ld h14.get x13) fun v => kk v h14) h14 fun x15 h16 => gdK x12 true (fun kk => vK (v_geq x15 (ii 0)) fun v => kk v h16) h16 fun x17 h18 => vK (v_pick x12 x17 (.bool false)) fun x19 => gdK x19 true (fun kk => vK (v_fa 2 x1) fun v => kk v h18) h18 fun x20 h21 => gdK x19 true (fun kk => vK (v_ld h21.get x20) fun v => kk v h21) h21 fun x22 h23 => gdK x19 true (fun kk => vK (v_fa 1 x1) fun v => kk v h23) h23 fun x24 h25 => gdK x19 true (fun kk => vK (v_ld h25.get x24) fun v => kk v h25) h25 fun x26 h27 => gdK x19 true (fun kk => vK (v_leq x22 x26) fun v => kk v h27) h27 fun x28 h29 => vK (v_pick x19 x28 (.bool false)) fun x30 => gdK x30 true (fun kk => vK (v_fa 3 x1) fun v => kk v h29) h29 fun x31 h32 => gdK x30 true (fun kk => vK (v_ld h32.get x31) fun v => kk v h32) h32 fun x33 h34 => gdK x30 true (fun kk => vK (v_geq x33 (ii 0)) fun v => kk v h34) h34 fun x35 h36 => vK (v_pick x30 x35 (.bool false)) fun x37 => gdK x37 true (fun kk => vK (v_fa 3 x1) fun v => kk v h36) h36 fun x38 h39 => gdK x37 true (fun kk => vK (v_ld h39.get x38) fun v => kk v h39) h39 fun x40 h41 => gdK x37 true (fun kk => vK (v_leq x40 (ii 1099511627776)) fun v => kk v h41) h41 fun x42 h43 => vK (v_pick x37 x42 (.bool false)) fun x44 => some (x44, h43)
theorem I327_0 : iB1 E D327 (J327_0 E) := Is.rf
def S327 : Fun := fA1 (J327_0 E)
theorem S327_eq : SQ D327 S327 := eB1 I327_0
def D328 := cm 328
def J328_0 (r0 r1 r2 : DV) (h : H) : Ans := vK (v_slL 4 r0 (some r1) none) fun x1 => vK (v_lenL r2) fun x2 => vK (v_eql x2 (ii 0)) fun x3 => bK x3 (some (r0, h)) (vK (v_lenL r0) fun x4 => vK (v_eql r1 x4) fun x5 => bK x5 (wK (dAppendF 4 32 r0 r2 h) fun x6 h7 => some (x6, h7)) (vK (v_add x4 x2) fun x8 => vK (v_capL r0) fun x9 => vK (v_gtr x8 x9) fun x10 => bK x10 (vK (v_slL 4 r0 none (some r1)) fun x11 => vK (v_add x4 x2) fun x12 => vK (v_sub x12 r1) fun x13 => wK (dApz 4 32 [(ii 0), (ii 0), (ii 0), (ii 0)] x11 x13 h) fun x14 h15 => vK (v_slL 4 x14 (some r1) none) fun x16 => wK (dCopyF 4 x16 r2 h15) fun x17 h18 => vK (v_add r1 x2) fun x19 => vK (v_slL 4 x14 (some x19) none) fun x20 => vK (v_slL 4 r0 (some r1) none) fun x21 => wK (dCopyF 4 x20 x21 h18) fun x22 h23 => some (x14, h23)) (vK (v_add x4 x2) fun x24 => vK (v_slL 4 r0 none (some x24)) fun x25 => vK (v_add r1 x2) fun x26 => vK (v_slL 4 x25 (some x26) none) fun x27 => vK (v_ovl h.get r2 x27) fun x28 => vK (v_not x28) fun x29 => bK x29 (vK (v_add r1 x2) fun x30 => vK (v_slL 4 x25 (some x30) none) fun x31 => vK (v_slL 4 x25 (some r1) none) fun x32 => wK (dCopyF 4 x31 x32 h) fun x33 h34 => vK (v_slL 4 x25 (some r1) none) fun x35 => wK (dCopyF 4 x35 r2 h34) fun x36 h37 => some (x25, h37)) (vK (v_slL 4 x25 (some x4) none) fun x38 => wK (dCopyF 4 x38 r2 h) fun x39 h40 => vK (v_slL 4 x25 (some r1) none) fun x41 => wK (callK E 338 [x41, x2] h40) fun x42 h43 => some (x25, h43)))))
theorem I328_0 : iB3 E D328 (J328_0 E) := Is.rf
def S328 : Fun := fA3 (J328_0 E)
theorem S328_eq : SQ D328 S328 := eB3 I328_0
def D329 := cm 329
def C329_1 := cr (cr (cr (cr D329.body)))
def C329_2 := cl (cl (cr (cr (cr D329.body))))
def J329_1 (r0 r1 r2 r8 r9 : DV) (h : H) : Ans := vK (v_lss r9 r8) fun x1 => gdK x1 true (fun kk => kk r2 h) h fun x2 h3 => gdK x1 true (fun kk => kk r0 h3) h3 fun x4 h5 => gdK x1 true (fun kk => kk r9 h5) h5 fun x6 h7 => gdK x1 true (fun kk => vK (v_iaS 4 x4 x6) fun v => kk v h7) h7 fun x8 h9 => gdK x1 true (fun kk => vK (v_ldN 4 h9.get x8) fun v => kk v h9) h9 fun x10 h11 => gdK x1 true (fun kk => kk r1 h11) h11 fun x12 h13 => gdK x1 true (fun kk => wK (c_val E x2 [x10, x12] h13) kk) h13 fun x14 h15 => gdK x1 true (fun kk => vK (v_eql x14 (ii 0)) fun v => kk v h15) h15 fun x16 h17 => vK (v_pick x1 x16 (.bool false)) fun x18 => some ((.tup [r9, x18]), h17)
def B329_2 (r0 r1 r2 r8 : DV) (i2 : DV → DV → H → Ans) (r9 r10 : DV) (h : H) : Ans := vK (v_lss r9 r10) fun x1 => bK x1 (vK (v_add r9 r10) fun x2 => vK (v_conv .u64 x2) fun x3 => vK (v_shr x3 (.int .u64 (.ofNat 1))) fun x4 => vK (v_conv .i64 x4) fun x5 => vK (v_iaS 4 r0 x5) fun x6 => vK (v_ldN 4 h.get x6) fun x7 => wK (c_val E r2 [x7, r1] h) fun x8 h9 => vK (v_lss x8 (ii 0)) fun x10 => bK x10 (vK (v_add x5 (ii 1)) fun x11 => i2 x11 r10 h9) (i2 r9 x5 h9)) (J329_1 E r0 r1 r2 r8 r9 h)
def L329_2 (r0 r1 r2 r8 : DV) (n : Nat) : DV → DV → H → Ans := Nat.rec (motive := fun _ => DV → DV → H → Ans) (fun _ _ _ => none) (fun _ i => B329_2 E r0 r1 r2 r8 i) n
def J329_0 (r0 r1 r2 : DV) (h : H) : Ans := vK (v_lenL r0) fun x1 => L329_2 E r0 r1 r2 x1 FUEL (ii 0) x1 h
theorem I329_1 : Is E C329_1 (retK3 D329.res) (fun σ h => J329_1 E (σ p0) (σ p1) (σ p2) (σ p8) (σ p9) h) := Is.rf
abbrev K329_3 : KT2 (DV × H) := (thenK3 (fun σ h => J329_1 E (σ p0) (σ p1) (σ p2) (σ p8) (σ p9) h) (retK3 D329.res))
theorem I329_2 : Is E C329_2 (blockK3 0 (K329_3 E)) (fun σ h => L329_2 E (σ p0) (σ p1) (σ p2) (σ p8) FUEL (σ p9) (σ p10) h) := Is.lp (fun n2 σ h => L329_2 E (σ p0) (σ p1) (σ p2) (σ p8) n2 (σ p9) (σ p10) h) fun n2 => Is.aq (Is.leaf _)
theorem I329_0 : iB3 E D329 (J329_0 E) := Is.aq (Is.sq (Is.sq (Is.sq (Is.sq (I329_1 E) (Is.bk (I329_2 E))) (Is.leaf _)) (Is.leaf _)) (Is.leaf _))
def S329 : Fun := fA3 (J329_0 E)
theorem S329_eq : SQ D329 S329 := eB3 I329_0
def D330 := cm 330
def J330_0 (E : Env) (r0 r1 : DV) (h : H) : Ans := n_box r0 h fun x1 h2 => vK (v_fa 0 x1) fun x3 => vK (v_ld h2.get x3) fun x4 => vK (v_lss x4 r1) fun x5 => bK x5 (some ((.int .i64 (.negSucc 0)), h2)) (vK (v_fa 0 x1) fun x6 => vK (v_ld h2.get x6) fun x7 => vK (v_gtr x7 r1) fun x8 => bK x8 (some ((ii 1), h2)) (some ((ii 0), h2)))
theorem I330_0 : iB2 E D330 (J330_0 E) := Is.rf
def S330 : Fun := fA2 (J330_0 E)
theorem S330_eq : SQ D330 S330 := eB2 I330_0
def D331 := cm 331
def J331_0 (E : Env) (r0 : DV) (h : H) : Ans := vK (v_lenS r0) fun x1 => vK (v_lss x1 (ii 1)) fun x2 => bK x2 (some ((.tup [(.int .i32 (.ofNat 65533)), (ii 0)]), h)) (vK (v_ixS r0 (ii 0)) fun x3 => none)
theorem I331_0 : iB1 E D331 (J331_0 E) := Is.rf
def S331 : Fun := fA1 (J331_0 E)
theorem S331_eq : SQ D331 S331 := eB1 I331_0
def D333 := cm 333
def J333_0 (E : Env) (r0 : DV) (h : H) : Ans := vK (v_add r0 (ii 16)) fun x1 => vK (v_quo x1 (ii 8)) fun x2 => some (x2, h)
theorem I333_0 : iB1 E D333 (J333_0 E) := Is.rf
def S333 : Fun := fA1 (J333_0 E)
theorem S333_eq : SQ D333 S333 := eB1 I333_0
def D334 := cm 334
def C334_1 := cr (cr (cr (cr (cr D334.body))))
def C334_3 := cr (cr C334_1)
def C334_4 := cl (cr (cl (cr C334_1)))
def C334_2 := cl (cr (cl (cr (cr (cr (cr D334.body))))))
def J334_3 (E : Env) (h : H) : Ans := some ((.int .i64 (.negSucc 0)), h)
def B334_4 (r0 r1 r5 r6 r7 : DV) (i4 : DV → DV → H → Ans) (r8 r10 : DV) (h : H) : Ans := vK (v_lenS r0) fun x1 => vK (v_lss r10 x1) fun x2 => bK x2 (vK (v_mul r8 (.int .u32 (.ofNat 16777619))) fun x3 => vK (v_ixS r0 r10) fun x4 => vK (v_conv .u32 x4) fun x5 => vK (v_add x3 x5) fun x6 => vK (v_sub r10 r7) fun x7 => vK (v_ixS r0 x7) fun x8 => vK (v_conv .u32 x8) fun x9 => vK (v_mul r6 x9) fun x10 => vK (v_sub x6 x10) fun x11 => vK (v_add r10 (ii 1)) fun x12 => vK (v_eql x11 r5) fun x13 => gdK x13 true (fun kk => kk r0 h) h fun x14 h15 => gdK x13 true (fun kk => kk x12 h15) h15 fun x16 h17 => gdK x13 true (fun kk => kk r7 h17) h17 fun x18 h19 => gdK x13 true (fun kk => vK (v_sub x16 x18) fun v => kk v h19) h19 fun x20 h21 => gdK x13 true (fun kk => kk x12 h21) h21 fun x22 h23 => gdK x13 true (fun kk => vK (v_slS x14 (some x20) (some x22)) fun v => kk v h23) h23 fun x24 h25 => gdK x13 true (fun kk => kk r1 h25) h25 fun x26 h27 => gdK x13 true (fun kk => vK (v_eql x24 x26) fun v => kk v h27) h27 fun x28 h29 => vK (v_pick x13 x28 (.bool false)) fun x30 => bK x30 (vK (v_sub x12 r7) fun x31 => some (x31, h29)) (i4 x11 x12 h29)) (J334_3 E h)
def L334_4 (r0 r1 r5 r6 r7 : DV) (n : Nat) : DV → DV → H → Ans := Nat.rec (motive := fun _ => DV → DV → H → Ans) (fun _ _ _ => none) (fun _ i => B334_4 E r0 r1 r5 r6 r7 i) n
def J334_1 (r0 r1 r5 r6 r7 r8 : DV) (h : H) : Ans := vK (v_eql r8 r5) fun x1 => gdK x1 true (fun kk => kk r0 h) h fun x2 h3 => gdK x1 true (fun kk => kk r7 h3) h3 fun x4 h5 => gdK x1 true (fun kk => vK (v_slS x2 none (some x4)) fun v => kk v h5) h5 fun x6 h7 => gdK x1 true (fun kk => kk r1 h7) h7 fun x8 h9 => gdK x1 true (fun kk => vK (v_eql x6 x8) fun v => kk v h9) h9 fun x10 h11 => vK (v_pick x1 x10 (.bool false)) fun x12 => bK x12 (some ((ii 0), h11)) (L334_4 E r0 r1 r5 r6 r7 FUEL r8 r7 h11)
def B334_2 (r0 r1 r5 r6 r7 : DV) (i2 : DV → DV → H → Ans) (r8 r9 : DV) (h : H) : Ans := vK (v_lss r9 r7) fun x1 => bK x1 (vK (v_mul r8 (.int .u32 (.ofNat 16777619))) fun x2 => vK (v_ixS r0 r9) fun x3 => vK (v_conv .u32 x3) fun x4 => vK (v_add x2 x4) fun x5 => vK (v_add r9 (ii 1)) fun x6 => i2 x5 x6 h) (J334_1 E r0 r1 r5 r6 r7 r8 h)
def L334_2 (r0 r1 r5 r6 r7 : DV) (n : Nat) : DV → DV → H → Ans := Nat.rec (motive := fun _ => DV → DV → H → Ans) (fun _ _ _ => none) (fun _ i => B334_2 E r0 r1 r5 r6 r7 i) n
def J334_0 (r0 r1 : DV) (h : H) : Ans := wK (callK E 339 [r1] h) fun x1 h2 => vK (v_ext 0 x1) fun x3 => vK (v_ext 1 x1) fun x4 => vK (v_lenS r1) fun x5 => L334_2 E r0 r1 x3 x4 x5 FUEL (.int .u32 (.ofNat 0)) (ii 0) h2
theorem I334_3 : Is E C334_3 (retK3 D334.res) (fun σ h => J334_3 E h) := Is.rf
abbrev K334_5 : KT2 (DV × H) := (blockK3 2 (thenK3 (fun σ h => J334_3 E h) (retK3 D334.res)))
theorem I334_4 : Is E C334_4 (K334_5 E) (fun σ h => L334_4 E (σ p0) (σ p1) (σ p5) (σ p6) (σ p7) FUEL (σ p8) (σ p10) h) := Is.lp (fun n4 σ h => L334_4 E (σ p0) (σ p1) (σ p5) (σ p6) (σ p7) n4 (σ p8) (σ p10) h) fun n4 => Is.aq (Is.leaf _)
theorem I334_1 : Is E C334_1 (retK3 D334.res) (fun σ h => J334_1 E (σ p0) (σ p1) (σ p5) (σ p6) (σ p7) (σ p8) h) := Is.aq (Is.sq (Is.sq (I334_3 E) (Is.sq (Is.bk (I334_4 E)) (Is.leaf _))) (Is.leaf _))
abbrev K334_6 : KT2 (DV × H) := (thenK3 (fun σ h => J334_1 E (σ p0) (σ p1) (σ p5) (σ p6) (σ p7) (σ p8) h) (retK3 D334.res))
theorem I334_2 : Is E C334_2 (blockK3 0 (K334_6 E)) (fun σ h => L334_2 E (σ p0) (σ p1) (σ p5) (σ p6) (σ p7) FUEL (σ p8) (σ p9) h) := Is.lp (fun n2 σ h => L334_2 E (σ p0) (σ p1) (σ p5) (σ p6) (σ p7) n2 (σ p8) (σ p9) h) fun n2 => Is.aq (Is.leaf _)
theorem I334_0 : iB2 E D334 (J334_0 E) := Is.aq (Is.sq (Is.sq (Is.sq (Is.sq (Is.sq (I334_1 E) (Is.sq (Is.bk (I334_2 E)) (Is.leaf _))) (Is.leaf _)) (Is.leaf _)) (Is.leaf _)) (Is.leaf _))
def S334 : Fun := fA2 (J334_0 E)
theorem S334_eq : SQ D334 S334 := eB2 I334_0
def D336 := cm 336
def C336_1 := cl (cr D336.body)
def C336_2 := cr (cr (cl (cr (cr (cr (cl (cr (cr (cr (cl (cl C336_1)))))))))))
def C336_3 := cl (cr (cl (cr (cl (cr (cr (cr (cl (cr (cr (cr (cl (cl C336_1)))))))))))))
def J336_2 (E : Env) (h : H) : Ans := some ((.bool false), h)
def B336_3 (r1 r2 r43 r44 : DV) (i3 : DV → H → Ans) (r45 : DV) (h : H) : Ans := vK (v_lss r45 r44) fun x1 => bK x1 (vK (v_iaS 1 r43 r45) fun x2 => vK (v_ld h.get x2) fun x3 => wK (callK E 336 [x3, r1, r2] h) fun x4 h5 => bK x4 (some ((.bool true), h5)) (vK (v_add r45 (ii 1)) fun x6 => i3 x6 h5)) (J336_2 E h)
def L336_3 (r1 r2 r43 r44 : DV) (n : Nat) : DV → H → Ans := Nat.rec (motive := fun _ => DV → H → Ans) (fun _ _ => none) (fun _ i => B336_3 E r1 r2 r43 r44 i) n
def B336_1 (E : Env) (r1 r2 : DV) (i1 : DV → H → Ans) (r0 : DV) (h : H) : Ans := gdK r2 true (fun kk => kk r0 h) h fun x1 h2 => gdK r2 true (fun kk => kk r1 h2) h2 fun x3 h4 => gdK r2 true (fun kk => vK (v_eqv .nilD false h4.get x1 x3) fun v => kk v h4) h4 fun x5 h6 => vK (v_pick r2 x5 (.bool false)) fun x7 => bK x7 (some ((.bool true), h6)) (none)
def L336_1 (r1 r2 : DV) (n : Nat) : DV → H → Ans := Nat.rec (motive := fun _ => DV → H → Ans) (fun _ _ => none) (fun _ i => B336_1 E r1 r2 i) n
def J336_0 (r0 r1 r2 : DV) (h : H) : Ans := L336_1 E r1 r2 FUEL r0 h
abbrev K336_4 (n1 : Nat) : KT2 (DV × H) := (thenK3 (fun σ h => (L336_1 E (σ p1) (σ p2) n1) (σ p0) h) (blockK3 0 (retK3 D336.res)))
theorem I336_2 (n1 : Nat) : Is E C336_2 (blockK3 2 (blockK3 1 (K336_4 E n1))) (fun σ h => J336_2 E h) := Is.rf
abbrev K336_5 (n1 : Nat) : KT2 (DV × H) := (thenK3 (fun σ h => J336_2 E h) (blockK3 2 (blockK3 1 (K336_4 E n1))))
theorem I336_3 (n1 : Nat) : Is E C336_3 (blockK3 3 (K336_5 E n1)) (fun σ h => L336_3 E (σ p1) (σ p2) (σ p43) (σ p44) FUEL (σ p45) h) := Is.lp (fun n3 σ h => L336_3 E (σ p1) (σ p2) (σ p43) (σ p44) n3 (σ p45) h) fun n3 => Is.aq (Is.leaf _)
theorem I336_1 : Is E C336_1 (blockK3 0 (retK3 D336.res)) (fun σ h => L336_1 E (σ p1) (σ p2) FUEL (σ p0) h) := Is.lp (fun n1 σ h => L336_1 E (σ p1) (σ p2) n1 (σ p0) h) fun n1 => Is.aq (Is.bk (Is.sq (Is.sq (Is.sq (Is.bk (Is.sq (Is.cd (Is.leaf _) (Is.sq (Is.cd (Is.sq (Is.sq (I336_2 E n1) (Is.sq (Is.bk (I336_3 E n1)) (Is.leaf _))) (Is.leaf _)) (Is.leaf _)) (Is.leaf _))) (Is.leaf _))) (Is.leaf _)) (Is.leaf _)) (Is.leaf _)))
theorem I336_0 : iB3 E D336 (J336_0 E) := Is.aq (Is.sq (Is.bk (I336_1 E)) (Is.leaf _))
def S336 : Fun := fA3 (J336_0 E)
theorem S336_eq : SQ D336 S336 := eB3 I336_0
def D338 := cm 338
def J338_0 (r0 r1 : DV) (h : H) : Ans := vK (v_lenL r0) fun x1 => vK (v_sub x1 r1) fun x2 => wK (callK E 340 [r0, x2] h) fun x3 h4 => some ((.tup []), h4)
theorem I338_0 : iB2 E D338 (J338_0 E) := Is.rf
def S338 : Fun := fA2 (J338_0 E)
theorem S338_eq : SQ D338 S338 := eB2 I338_0
def D339 := cm 339
def C339_1 := cr (cr (cr D339.body))
def C339_3 := cr (cr C339_1)
def C339_4 := cl (cr (cl (cr C339_1)))
def C339_5 := cr (cr (cl C339_4))
def C339_6 := cr (cl (cl (cr (cl C339_4))))
def C339_2 := cl (cr (cl (cr (cr D339.body))))
def J339_3 (E : Env) (r4 r6 : DV) (h : H) : Ans := some ((.tup [r4, r6]), h)
def J339_5 (E : Env) (i4 : DV → DV → DV → H → Ans) (r6 r7 r8 : DV) (h : H) : Ans := vK (v_shr r8 (.int .u64 (.ofNat 1))) fun x1 => i4 r6 r7 x1 h
def J339_6 (i4 : DV → DV → DV → H → Ans) (r6 r7 r8 : DV) (h : H) : Ans := vK (v_mul r7 r7) fun x1 => J339_5 E i4 r6 x1 r8 h
def B339_4 (r4 : DV) (i4 : DV → DV → DV → H → Ans) (r6 r7 r8 : DV) (h : H) : Ans := vK (v_gtr r8 (ii 0)) fun x1 => bK x1 (vK (v_and r8 (ii 1)) fun x2 => vK (v_neq x2 (ii 0)) fun x3 => bK x3 (vK (v_mul r6 r7) fun x4 => J339_6 E i4 x4 r7 r8 h) (J339_6 E i4 r6 r7 r8 h)) (J339_3 E r4 r6 h)
def L339_4 (r4 : DV) (n : Nat) : DV → DV → DV → H → Ans := Nat.rec (motive := fun _ => DV → DV → DV → H → Ans) (fun _ _ _ _ => none) (fun _ i => B339_4 E r4 i) n
def J339_1 (r0 r4 : DV) (h : H) : Ans := vK (v_lenS r0) fun x1 => L339_4 E r4 FUEL (.int .u32 (.ofNat 1)) (.int .u32 (.ofNat 16777619)) x1 h
def B339_2 (r0 : DV) (i2 : DV → DV → H → Ans) (r4 r5 : DV) (h : H) : Ans := vK (v_lenS r0) fun x1 => vK (v_lss r5 x1) fun x2 => bK x2 (vK (v_mul r4 (.int .u32 (.ofNat 16777619))) fun x3 => vK (v_ixS r0 r5) fun x4 => vK (v_conv .u32 x4) fun x5 => vK (v_add x3 x5) fun x6 => vK (v_add r5 (ii 1)) fun x7 => i2 x6 x7 h) (J339_1 E r0 r4 h)
def L339_2 (r0 : DV) (n : Nat) : DV → DV → H → Ans := Nat.rec (motive := fun _ => DV → DV → H → Ans) (fun _ _ _ => none) (fun _ i => B339_2 E r0 i) n
def J339_0 (r0 : DV) (h : H) : Ans := L339_2 E r0 FUEL (.int .u32 (.ofNat 0)) (ii 0) h
theorem I339_3 : Is E C339_3 (retK3 D339.res) (fun σ h => J339_3 E (σ p4) (σ p6) h) := Is.rf
abbrev K339_7 : KT2 (DV × H) := (thenK3 (fun σ h => J339_3 E (σ p4) (σ p6) h) (retK3 D339.res))
abbrev K339_8 (n4 : Nat) : KT2 (DV × H) := (thenK3 (fun σ h => (L339_4 E (σ p4) n4) (σ p6) (σ p7) (σ p8) h) (blockK3 2 (K339_7 E)))
theorem I339_5 (n4 : Nat) : Is E C339_5 (K339_8 E n4) (fun σ h => J339_5 E (L339_4 E (σ p4) n4) (σ p6) (σ p7) (σ p8) h) := Is.rf
abbrev K339_9 (n4 : Nat) : KT2 (DV × H) := (thenK3 (fun σ h => J339_5 E (L339_4 E (σ p4) n4) (σ p6) (σ p7) (σ p8) h) (K339_8 E n4))
theorem I339_6 (n4 : Nat) : Is E C339_6 (blockK3 3 (K339_9 E n4)) (fun σ h => J339_6 E (L339_4 E (σ p4) n4) (σ p6) (σ p7) (σ p8) h) := Is.rf
theorem I339_4 : Is E C339_4 (blockK3 2 (K339_7 E)) (fun σ h => L339_4 E (σ p4) FUEL (σ p6) (σ p7) (σ p8) h) := Is.lp (fun n4 σ h => L339_4 E (σ p4) n4 (σ p6) (σ p7) (σ p8) h) fun n4 => Is.aq (Is.sq (Is.sq (I339_5 E n4) (Is.bk (Is.sq (I339_6 E n4) (Is.leaf _)))) (Is.leaf _))
theorem I339_1 : Is E C339_1 (retK3 D339.res) (fun σ h => J339_1 E (σ p0) (σ p4) h) := Is.aq (Is.sq (Is.sq (I339_3 E) (Is.sq (Is.bk (I339_4 E)) (Is.leaf _))) (Is.leaf _))
abbrev K339_10 : KT2 (DV × H) := (thenK3 (fun σ h => J339_1 E (σ p0) (σ p4) h) (retK3 D339.res))
theorem I339_2 : Is E C339_2 (blockK3 0 (K339_10 E)) (fun σ h => L339_2 E (σ p0) FUEL (σ p4) (σ p5) h) := Is.lp (fun n2 σ h => L339_2 E (σ p0) n2 (σ p4) (σ p5) h) fun n2 => Is.aq (Is.leaf _)
theorem I339_0 : iB1 E D339 (J339_0 E) := Is.aq (Is.sq (Is.sq (Is.sq (I339_1 E) (Is.sq (Is.bk (I339_2 E)) (Is.leaf _))) (Is.leaf _)) (Is.leaf _))
def S339 : Fun := fA1 (J339_0 E)
theorem S339_eq : SQ D339 S339 := eB1 I339_0
def D340 := cm 340
def J340_0 (r0 r1 : DV) (h : H) : Ans := vK (v_slL 4 r0 none (some r1)) fun x1 => wK (callK E 341 [x1] h) fun x2 h3 => vK (v_slL 4 r0 (some r1) none) fun x4 => wK (callK E 341 [x4] h3) fun x5 h6 => wK (callK E 341 [r0] h6) fun x7 h8 => some ((.tup []), h8)
theorem I340_0 : iB2 E D340 (J340_0 E) := Is.rf
def S340 : Fun := fA2 (J340_0 E)
theorem S340_eq : SQ D340 S340 := eB2 I340_0
def D341 := cm 341
def C341_1 := cl (cr D341.body)
def B341_1 (E : Env) (r0 : DV) (i1 : DV → DV → H → Ans) (r2 r3 : DV) (h : H) : Ans := vK (v_lss r2 r3) fun x1 => bK x1 (vK (v_iaS 4 r0 r3) fun x2 => vK (v_ldN 4 h.get x2) fun x3 => vK (v_iaS 4 r0 r2) fun x4 => vK (v_ldN 4 h.get x4) fun x5 => vK (v_iaS 4 r0 r2) fun x6 => wK (dStF 4 x6 x3 h) fun x7 h8 => vK (v_iaS 4 r0 r3) fun x9 => wK (dStF 4 x9 x5 h8) fun x10 h11 => vK (v_add r2 (ii 1)) fun x12 => vK (v_sub r3 (ii 1)) fun x13 => i1 x12 x13 h11) (some ((.tup []), h))
def L341_1 (r0 : DV) (n : Nat) : DV → DV → H → Ans := Nat.rec (motive := fun _ => DV → DV → H → Ans) (fun _ _ _ => none) (fun _ i => B341_1 E r0 i) n
def J341_0 (r0 : DV) (h : H) : Ans := vK (v_lenL r0) fun x1 => vK (v_sub x1 (ii 1)) fun x2 => L341_1 E r0 FUEL (ii 0) x2 h
theorem I341_1 : Is E C341_1 (blockK3 0 (retK3 D341.res)) (fun σ h => L341_1 E (σ p0) FUEL (σ p2) (σ p3) h) := Is.lp (fun n1 σ h => L341_1 E (σ p0) n1 (σ p2) (σ p3) h) fun n1 => Is.aq (Is.leaf _)
theorem I341_0 : iB1 E D341 (J341_0 E) := Is.aq (Is.sq (Is.bk (I341_1 E)) (Is.leaf _))
def S341 : Fun := fA1 (J341_0 E)
theorem S341_eq : SQ D341 S341 := eB1 I341_0
def D366 := cm 366
def J366_0 (E : Env) (r0 : DV) (h : H) : Ans := n_box r0 h fun x1 h2 => some ((ii 2), h2)
theorem I366_0 : iB1 E D366 (J366_0 E) := Is.rf
def S366 : Fun := fA1 (J366_0 E)
theorem S366_eq : SQ D366 S366 := eB1 I366_0
def D367 := cm 367
def J367_0 (r0 : DV) (h : H) : Ans := n_box r0 h fun x1 h2 => vK (v_fa 0 x1) fun x3 => vK (v_ld h2.get x3) fun x4 => wK (callK E 121 [x4] h2) fun x5 h6 => some (x5, h6)
theorem I367_0 : iB1 E D367 (J367_0 E) := Is.rf
def S367 : Fun := fA1 (J367_0 E)
theorem S367_eq : SQ D367 S367 := eB1 I367_0
def D368 := cm 368
def J368_0 (r0 : DV) (h : H) : Ans := n_box r0 h fun x1 h2 => vK (v_fa 0 x1) fun x3 => vK (v_ld h2.get x3) fun x4 => wK (callK E 369 [x4] h2) fun x5 h6 => some (x5, h6)
theorem I368_0 : iB1 E D368 (J368_0 E) := Is.rf
def S368 : Fun := fA1 (J368_0 E)
theorem S368_eq : SQ D368 S368 := eB1 I368_0
def D369 := cm 369
def C369_1 := cr (cr (cr (cr (cr D369.body))))
def C369_2 := cl (cr (cl (cr (cr (cr (cr D369.body))))))
def J369_1 (r3 : DV) (h : H) : Ans := wK (callK E 34 [r3] h) fun x1 h2 => vK (v_ext 0 x1) fun x3 => vK (v_ext 1 x1) fun x4 => some (x3, h2)
def B369_2 (r3 r21 r22 : DV) (i2 : DV → H → Ans) (r23 : DV) (h : H) : Ans := vK (v_lss r23 r22) fun x1 => bK x1 (vK (v_iaS 2 r21 r23) fun x2 => vK (v_ldN 2 h.get x2) fun x3 => n_alc 2 2 (.list [(.str []), (ii 0)]) h fun x4 h5 => wK (dStF 2 x4 x3 h5) fun x6 h7 => vK (v_fa 0 x4) fun x8 => vK (v_ld h7.get x8) fun x9 => wK (callK E 33 [r3, x9] h7) fun x10 h11 => vK (v_fa 1 x4) fun x12 => vK (v_ld h11.get x12) fun x13 => wK (callK E 32 [r3, x13] h11) fun x14 h15 => vK (v_add r23 (ii 1)) fun x16 => i2 x16 h15) (J369_1 E r3 h)
def L369_2 (r3 r21 r22 : DV) (n : Nat) : DV → H → Ans := Nat.rec (motive := fun _ => DV → H → Ans) (fun _ _ => none) (fun _ i => B369_2 E r3 r21 r22 i) n
def J369_0 (r0 : DV) (h : H) : Ans := vK (v_eqv .ptr false h.get r0 .nilp) fun x1 => bK x1 (some ((.str []), h)) (wK (callK E 30 [(ii 65536)] h) fun x2 h3 => vK (v_nilchk r0) fun x4 => vK (v_fa 0 x4) fun x5 => vK (v_ld h3.get x5) fun x6 => vK (v_lenL x6) fun x7 => wK (callK E 32 [x2, x7] h3) fun x8 h9 => vK (v_nilchk r0) fun x10 => vK (v_fa 0 x10) fun x11 => vK (v_ld h9.get x11) fun x12 => vK (v_lenL x12) fun x13 => L369_2 E x2 x12 x13 FUEL (ii 0) h9)
theorem I369_1 : Is E C369_1 (retK3 D369.res) (fun σ h => J369_1 E (σ p3) h) := Is.rf
abbrev K369_3 : KT2 (DV × H) := (thenK3 (fun σ h => J369_1 E (σ p3) h) (retK3 D369.res))
theorem I369_2 : Is E C369_2 (blockK3 0 (K369_3 E)) (fun σ h => L369_2 E (σ p3) (σ p21) (σ p22) FUEL (σ p23) h) := Is.lp (fun n2 σ h => L369_2 E (σ p3) (σ p21) (σ p22) n2 (σ p23) h) fun n2 => Is.aq (Is.leaf _)
theorem I369_0 : iB1 E D369 (J369_0 E) := Is.aq (Is.sq (Is.sq (Is.sq (Is.sq (Is.sq (I369_1 E) (Is.sq (Is.bk (I369_2 E)) (Is.leaf _))) (Is.leaf _)) (Is.leaf _)) (Is.leaf _)) (Is.leaf _))
def S369 : Fun := fA1 (J369_0 E)
theorem S369_eq : SQ D369 S369 := eB1 I369_0
def fs2 : List FD := [⟨294, D294, S294⟩, ⟨295, D295, S295⟩, ⟨296, D296, S296⟩, ⟨297, D297, S297⟩, ⟨299, D299, S299⟩, ⟨305, D305, S305⟩, ⟨306, D306, S306⟩, ⟨307, D307, S307⟩, ⟨308, D308, S308⟩, ⟨309, D309, S309⟩, ⟨310, D310, S310⟩, ⟨315, D315, S315⟩, ⟨316, D316, S316⟩, ⟨317, D317, S317⟩, ⟨318, D318, S318⟩, ⟨319, D319, S319⟩, ⟨321, D321, S321⟩, ⟨324, D324, S324⟩, ⟨325, D325, S325⟩, ⟨326, D326, S326⟩, ⟨327, D327, S327⟩, ⟨328, D328, S328⟩, ⟨329, D329, S329⟩, ⟨330, D330, S330⟩, ⟨331, D331, S331⟩, ⟨333, D333, S333⟩, ⟨334, D334, S334⟩, ⟨336, D336, S336⟩, ⟨338, D338, S338⟩, ⟨339, D339, S339⟩, ⟨340, D340, S340⟩, ⟨341, D341, S341⟩, ⟨366, D366, S366⟩, ⟨367, D367, S367⟩, ⟨368, D368, S368⟩, ⟨369, D369, S369⟩]
theorem fs2_eq : AllEq fs2 := ⟨S294_eq, ⟨S295_eq, ⟨S296_eq, ⟨S297_eq, ⟨S299_eq, ⟨S305_eq, ⟨S306_eq, ⟨S307_eq, ⟨S308_eq, ⟨S309_eq, ⟨S310_eq, ⟨S315_eq, ⟨S316_eq, ⟨S317_eq, ⟨S318_eq, ⟨S319_eq, ⟨S321_eq, ⟨S324_eq, ⟨S325_eq, ⟨S326_eq, ⟨S327_eq, ⟨S328_eq, ⟨S329_eq, ⟨S330_eq, ⟨S331_eq, ⟨S333_eq, ⟨S334_eq, ⟨S336_eq, ⟨S338_eq, ⟨S339_eq, ⟨S340_eq, ⟨S341_eq, ⟨S366_eq, ⟨S367_eq, ⟨S368_eq, ⟨S369_eq, trivial⟩⟩⟩⟩⟩⟩⟩⟩⟩⟩⟩⟩⟩⟩⟩⟩⟩⟩⟩⟩⟩⟩⟩⟩⟩⟩⟩⟩⟩⟩⟩⟩⟩⟩⟩⟩
end Go.Proofs.YtiamncdkekcokaaGreatDoor
end

/- More of the program's functions. No condition. -/
import Derived.Test.YtlofaapaahpjfaaGreatDoorC0
set_option linter.unusedVariables false
noncomputable section
namespace Go.Proofs.YtlofaapaahpjfaaGreatDoor
open Go.DI
variable (E : Env)
def D180 := cm 180
def C180_1 := cr (cr D180.body)
def C180_2 := cr C180_1
def C180_3 := cr C180_2
def J180_3 (E : Env) (r0 r2 : DV) (h : H) : Ans := vK (v_conv .u8 r0) fun x1 => vK (v_ixS (.str [0, 1, 2, 2, 3, 3, 3, 3, 4, 4, 4, 4, 4, 4, 4, 4, 5, 5, 5, 5, 5, 5, 5, 5, 5, 5, 5, 5, 5, 5, 5, 5, 6, 6, 6, 6, 6, 6, 6, 6, 6, 6, 6, 6, 6, 6, 6, 6, 6, 6, 6, 6, 6, 6, 6, 6, 6, 6, 6, 6, 6, 6, 6, 6, 7, 7, 7, 7, 7, 7, 7, 7, 7, 7, 7, 7, 7, 7, 7, 7, 7, 7, 7, 7, 7, 7, 7, 7, 7, 7, 7, 7, 7, 7, 7, 7, 7, 7, 7, 7, 7, 7, 7, 7, 7, 7, 7, 7, 7, 7, 7, 7, 7, 7, 7, 7, 7, 7, 7, 7, 7, 7, 7, 7, 7, 7, 7, 7, 8, 8, 8, 8, 8, 8, 8, 8, 8, 8, 8, 8, 8, 8, 8, 8, 8, 8, 8, 8, 8, 8, 8, 8, 8, 8, 8, 8, 8, 8, 8, 8, 8, 8, 8, 8, 8, 8, 8, 8, 8, 8, 8, 8, 8, 8, 8, 8, 8, 8, 8, 8, 8, 8, 8, 8, 8, 8, 8, 8, 8, 8, 8, 8, 8, 8, 8, 8, 8, 8, 8, 8, 8, 8, 8, 8, 8, 8, 8, 8, 8, 8, 8, 8, 8, 8, 8, 8, 8, 8, 8, 8, 8, 8, 8, 8, 8, 8, 8, 8, 8, 8, 8, 8, 8, 8, 8, 8, 8, 8, 8, 8, 8, 8, 8, 8, 8, 8, 8, 8, 8, 8, 8, 8, 8, 8, 8, 8]) x1) fun x2 => vK (v_conv .i64 x2) fun x3 => vK (v_add r2 x3) fun x4 => some (x4, h)
def J180_2 (r0 r2 : DV) (h : H) : Ans := vK (v_geq r0 (.int .u64 (.ofNat 256))) fun x1 => bK x1 (vK (v_shr r0 (.int .u64 (.ofNat 8))) fun x2 => vK (v_add r2 (ii 8)) fun x3 => J180_3 E x2 x3 h) (J180_3 E r0 r2 h)
def J180_1 (r0 r2 : DV) (h : H) : Ans := vK (v_geq r0 (.int .u64 (.ofNat 65536))) fun x1 => bK x1 (vK (v_shr r0 (.int .u64 (.ofNat 16))) fun x2 => vK (v_add r2 (ii 16)) fun x3 => J180_2 E x2 x3 h) (J180_2 E r0 r2 h)
def J180_0 (r0 : DV) (h : H) : Ans := vK (v_geq r0 (.int .u64 (.ofNat 4294967296))) fun x1 => bK x1 (vK (v_shr r0 (.int .u64 (.ofNat 32))) fun x2 => J180_1 E x2 (ii 32) h) (J180_1 E r0 (ii 0) h)
theorem I180_3 : Is E C180_3 (retK3 D180.res) (fun σ h => J180_3 E (σ p0) (σ p2) h) := Is.rf
theorem I180_2 : Is E C180_2 (retK3 D180.res) (fun σ h => J180_2 E (σ p0) (σ p2) h) := Is.aq (Is.sq (I180_3 E) (Is.leaf _))
theorem I180_1 : Is E C180_1 (retK3 D180.res) (fun σ h => J180_1 E (σ p0) (σ p2) h) := Is.aq (Is.sq (I180_2 E) (Is.leaf _))
theorem I180_0 : iB1 E D180 (J180_0 E) := Is.aq (Is.sq (Is.sq (I180_1 E) (Is.leaf _)) (Is.leaf _))
def S180 : Fun := fA1 (J180_0 E)
theorem S180_eq : SQ D180 S180 := eB1 I180_0
def D190 := cm 190
def J190_0 (E : Env) (r0 r1 r2 r3 : DV) (h : H) : Ans := vK (v_eqv .ptr false h.get r0 .nilp) fun x1 => gdK x1 false (fun kk => kk r1 h) h fun x2 h3 => gdK x1 false (fun kk => vK (v_lss x2 (ii 0)) fun v => kk v h3) h3 fun x4 h5 => vK (v_pick x1 (.bool true) x4) fun x6 => gdK x6 false (fun kk => kk r2 h5) h5 fun x7 h8 => gdK x6 false (fun kk => vK (v_lss x7 (ii 1)) fun v => kk v h8) h8 fun x9 h10 => vK (v_pick x6 (.bool true) x9) fun x11 => gdK x11 false (fun kk => kk r3 h10) h10 fun x12 h13 => gdK x11 false (fun kk => vK (v_not x12) fun v => kk v h13) h13 fun x14 h15 => vK (v_pick x11 (.bool true) x14) fun x16 => bK x16 (some ((ii 1), h15)) (vK (v_nilchk r0) fun x17 => vK (v_fa 0 x17) fun x18 => vK (v_ld h15.get x18) fun x19 => vK (v_lenL x19) fun x20 => vK (v_gtr r1 x20) fun x21 => gdK x21 false (fun kk => kk r2 h15) h15 fun x22 h23 => gdK x21 false (fun kk => kk r0 h23) h23 fun x24 h25 => gdK x21 false (fun kk => vK (v_nilchk x24) fun v => kk v h25) h25 fun x26 h27 => gdK x21 false (fun kk => vK (v_fa 0 x26) fun v => kk v h27) h27 fun x28 h29 => gdK x21 false (fun kk => vK (v_ld h29.get x28) fun v => kk v h29) h29 fun x30 h31 => gdK x21 false (fun kk => vK (v_lenL x30) fun v => kk v h31) h31 fun x32 h33 => gdK x21 false (fun kk => kk r1 h33) h33 fun x34 h35 => gdK x21 false (fun kk => vK (v_sub x32 x34) fun v => kk v h35) h35 fun x36 h37 => gdK x21 false (fun kk => vK (v_gtr x22 x36) fun v => kk v h37) h37 fun x38 h39 => vK (v_pick x21 (.bool true) x38) fun x40 => bK x40 (some ((ii 5), h39)) (vK (v_nilchk r0) fun x41 => vK (v_fa 2 x41) fun x42 => vK (v_ld h39.get x42) fun x43 => bK x43 (some ((ii 8), h39)) (some ((ii 0), h39))))
theorem I190_0 : iB4 E D190 (J190_0 E) := Is.rf
def S190 : Fun := fA4 (J190_0 E)
theorem S190_eq : SQ D190 S190 := eB4 I190_0
def D191 := cm 191
def J191_0 (E : Env) (r0 : DV) (h : H) : Ans := vK (v_ixS r0 (ii 0)) fun x1 => vK (v_conv .i64 x1) fun x2 => vK (v_ixS r0 (ii 1)) fun x3 => vK (v_conv .i64 x3) fun x4 => vK (v_shl x4 (.int .u64 (.ofNat 8))) fun x5 => vK (v_or x2 x5) fun x6 => vK (v_ixS r0 (ii 2)) fun x7 => vK (v_conv .i64 x7) fun x8 => vK (v_shl x8 (.int .u64 (.ofNat 16))) fun x9 => vK (v_or x6 x9) fun x10 => vK (v_ixS r0 (ii 3)) fun x11 => vK (v_conv .i64 x11) fun x12 => vK (v_shl x12 (.int .u64 (.ofNat 24))) fun x13 => vK (v_or x10 x13) fun x14 => some (x14, h)
theorem I191_0 : iB1 E D191 (J191_0 E) := Is.rf
def S191 : Fun := fA1 (J191_0 E)
theorem S191_eq : SQ D191 S191 := eB1 I191_0
def D192 := cm 192
def J192_0 (E : Env) (r0 : DV) (h : H) : Ans := n_box r0 h fun x1 h2 => vK (v_fa 0 x1) fun x3 => vK (v_ld h2.get x3) fun x4 => vK (v_geq x4 (ii 0)) fun x5 => gdK x5 true (fun kk => vK (v_fa 0 x1) fun v => kk v h2) h2 fun x6 h7 => gdK x5 true (fun kk => vK (v_ld h7.get x6) fun v => kk v h7) h7 fun x8 h9 => gdK x5 true (fun kk => vK (v_lss x8 (ii 2147483648)) fun v => kk v h9) h9 fun x10 h11 => vK (v_pick x5 x10 (.bool false)) fun x12 => gdK x12 true (fun kk => vK (v_fa 1 x1) fun v => kk v h11) h11 fun x13 h14 => gdK x12 true (fun kk => vK (v_ld h14.get x13) fun v => kk v h14) h14 fun x15 h16 => gdK x12 true (fun kk => vK (v_geq x15 (ii 0)) fun v => kk v h16) h16 fun x17 h18 => vK (v_pick x12 x17 (.bool false)) fun x19 => gdK x19 true (fun kk => vK (v_fa 1 x1) fun v => kk v h18) h18 fun x20 h21 => gdK x19 true (fun kk => vK (v_ld h21.get x20) fun v => kk v h21) h21 fun x22 h23 => gdK x19 true (fun kk => vK (v_lss x22 (ii 8)) fun v => kk v h23) h23 fun x24 h25 => vK (v_pick x19 x24 (.bool false)) fun x26 => some (x26, h25)
theorem I192_0 : iB1 E D192 (J192_0 E) := Is.rf
def S192 : Fun := fA1 (J192_0 E)
theorem S192_eq : SQ D192 S192 := eB1 I192_0
def D193 := cm 193
def J193_0 (r0 r1 : DV) (h : H) : Ans := n_box r0 h fun x1 h2 => vK (v_fa 0 x1) fun x3 => vK (v_ld h2.get x3) fun x4 => vK (v_conv .u32 x4) fun x5 => vK (v_fa 1 x1) fun x6 => vK (v_ld h2.get x6) fun x7 => vK (v_conv .u32 x7) fun x8 => vK (v_lenS r1) fun x9 => vK (v_conv .u32 x9) fun x10 => wK (callK E 235 [x5] h2) fun x11 h12 => rK (rcK (v_ld h12.get x6) x7) <| vK (v_add (.str [72, 70, 82, 71]) x11) fun x13 => wK (callK E 235 [x8] h12) fun x14 h15 => vK (v_add x13 x14) fun x16 => wK (callK E 235 [x10] h15) fun x17 h18 => vK (v_add x16 x17) fun x19 => wK (callK E 212 [r1] h18) fun x20 h21 => wK (callK E 235 [x20] h21) fun x22 h23 => vK (v_add x19 x22) fun x24 => wK (callK E 147 [x24, (ii 60)] h23) fun x25 h26 => vK (v_ext 0 x25) fun x27 => vK (v_ext 1 x25) fun x28 => wK (callK E 157 [x27] h26) fun x29 h30 => some (x29, h30)
theorem I193_0 : iB2 E D193 (J193_0 E) := Is.rf
def S193 : Fun := fA2 (J193_0 E)
theorem S193_eq : SQ D193 S193 := eB2 I193_0
def D196 := cm 196
def C196_1 := cr (cr (cr D196.body))
def C196_2 := cl (cr (cl (cr (cr D196.body))))
def C196_3 := cr (cr (cr (cl C196_2)))
def C196_4 := cl (cr (cr (cl (cl (cr (cr (cl C196_2)))))))
def J196_1 (E : Env) (h : H) : Ans := some ((.bool true), h)
def J196_3 (E : Env) (i2 : DV → H → Ans) (r10 : DV) (h : H) : Ans := vK (v_add r10 (ii 1)) fun x1 => i2 x1 h
def B196_4 (i2 : DV → H → Ans) (r3 r10 r14 r15 : DV) (i4 : DV → H → Ans) (r16 : DV) (h : H) : Ans := vK (v_lss r16 r15) fun x1 => bK x1 (vK (v_iaS 1 r14 r16) fun x2 => vK (v_ld h.get x2) fun x3 => vK (v_lss x3 (ii 0)) fun x4 => gdK x4 false (fun kk => kk x3 h) h fun x5 h6 => gdK x4 false (fun kk => vK (v_geq x5 (ii 64)) fun v => kk v h6) h6 fun x7 h8 => vK (v_pick x4 (.bool true) x7) fun x9 => gdK x9 false (fun kk => kk x3 h8) h8 fun x10 h11 => gdK x9 false (fun kk => vK (v_iaA 64 1 r3 x10) fun v => kk v h11) h11 fun x12 h13 => gdK x9 false (fun kk => vK (v_ld h13.get x12) fun v => kk v h13) h13 fun x14 h15 => vK (v_pick x9 (.bool true) x14) fun x16 => bK x16 (some ((.bool false), h15)) (vK (v_iaA 64 1 r3 x3) fun x17 => wK (dStF 1 x17 (.bool true) h15) fun x18 h19 => vK (v_add r16 (ii 1)) fun x20 => i4 x20 h19)) (J196_3 E i2 r10 h)
def L196_4 (i2 : DV → H → Ans) (r3 r10 r14 r15 : DV) (n : Nat) : DV → H → Ans := Nat.rec (motive := fun _ => DV → H → Ans) (fun _ _ => none) (fun _ i => B196_4 E i2 r3 r10 r14 r15 i) n
def B196_2 (r3 r8 r9 : DV) (i2 : DV → H → Ans) (r10 : DV) (h : H) : Ans := vK (v_lss r10 r9) fun x1 => bK x1 (vK (v_iaS 1 r8 r10) fun x2 => vK (v_ld h.get x2) fun x3 => vK (v_lenL x3) fun x4 => L196_4 E i2 r3 r10 x3 x4 FUEL (ii 0) h) (J196_1 E h)
def L196_2 (r3 r8 r9 : DV) (n : Nat) : DV → H → Ans := Nat.rec (motive := fun _ => DV → H → Ans) (fun _ _ => none) (fun _ i => B196_2 E r3 r8 r9 i) n
def J196_0 (r0 : DV) (h : H) : Ans := n_alc 64 64 (.full 64 (.bool false)) h fun x1 h2 => vK (v_lenL r0) fun x3 => L196_2 E x1 r0 x3 FUEL (ii 0) h2
theorem I196_1 : Is E C196_1 (retK3 D196.res) (fun σ h => J196_1 E h) := Is.rf
abbrev K196_5 : KT2 (DV × H) := (blockK3 0 (thenK3 (fun σ h => J196_1 E h) (retK3 D196.res)))
abbrev K196_6 (n2 : Nat) : KT2 (DV × H) := (thenK3 (fun σ h => (L196_2 E (σ p3) (σ p8) (σ p9) n2) (σ p10) h) (K196_5 E))
theorem I196_3 (n2 : Nat) : Is E C196_3 (K196_6 E n2) (fun σ h => J196_3 E (L196_2 E (σ p3) (σ p8) (σ p9) n2) (σ p10) h) := Is.rf
abbrev K196_7 (n2 : Nat) : KT2 (DV × H) := (thenK3 (fun σ h => J196_3 E (L196_2 E (σ p3) (σ p8) (σ p9) n2) (σ p10) h) (K196_6 E n2))
theorem I196_4 (n2 : Nat) : Is E C196_4 (blockK3 2 (blockK3 1 (K196_7 E n2))) (fun σ h => L196_4 E (L196_2 E (σ p3) (σ p8) (σ p9) n2) (σ p3) (σ p10) (σ p14) (σ p15) FUEL (σ p16) h) := Is.lp (fun n4 σ h => L196_4 E (L196_2 E (σ p3) (σ p8) (σ p9) n2) (σ p3) (σ p10) (σ p14) (σ p15) n4 (σ p16) h) fun n4 => Is.aq (Is.leaf _)
theorem I196_2 : Is E C196_2 (K196_5 E) (fun σ h => L196_2 E (σ p3) (σ p8) (σ p9) FUEL (σ p10) h) := Is.lp (fun n2 σ h => L196_2 E (σ p3) (σ p8) (σ p9) n2 (σ p10) h) fun n2 => Is.aq (Is.sq (Is.sq (Is.sq (I196_3 E n2) (Is.bk (Is.sq (Is.sq (Is.bk (I196_4 E n2)) (Is.leaf _)) (Is.leaf _)))) (Is.leaf _)) (Is.leaf _))
theorem I196_0 : iB1 E D196 (J196_0 E) := Is.aq (Is.sq (Is.sq (Is.sq (I196_1 E) (Is.sq (Is.bk (I196_2 E)) (Is.leaf _))) (Is.leaf _)) (Is.leaf _))
def S196 : Fun := fA1 (J196_0 E)
theorem S196_eq : SQ D196 S196 := eB1 I196_0
def D197 := cm 197
def C197_1 := cr (cr D197.body)
def C197_2 := cl (cr (cl (cr D197.body)))
def J197_1 (E : Env) (h : H) : Ans := some ((ii 0), h)
def B197_2 (r0 : DV) (i2 : DV → H → Ans) (r3 : DV) (h : H) : Ans := vK (v_lss r3 (ii 256)) fun x1 => bK x1 (vK (v_nilchk r0) fun x2 => vK (v_fa 0 x2) fun x3 => vK (v_iaA 256 2 x3 r3) fun x4 => vK (v_fa 1 x4) fun x5 => vK (v_ld h.get x5) fun x6 => vK (v_eqv .nilI false h.get x6 .nili) fun x7 => bK x7 (some (r3, h)) (vK (v_add r3 (ii 1)) fun x8 => i2 x8 h)) (J197_1 E h)
def L197_2 (r0 : DV) (n : Nat) : DV → H → Ans := Nat.rec (motive := fun _ => DV → H → Ans) (fun _ _ => none) (fun _ i => B197_2 E r0 i) n
def J197_0 (r0 : DV) (h : H) : Ans := L197_2 E r0 FUEL (ii 2) h
theorem I197_1 : Is E C197_1 (retK3 D197.res) (fun σ h => J197_1 E h) := Is.rf
abbrev K197_3 : KT2 (DV × H) := (blockK3 0 (thenK3 (fun σ h => J197_1 E h) (retK3 D197.res)))
theorem I197_2 : Is E C197_2 (K197_3 E) (fun σ h => L197_2 E (σ p0) FUEL (σ p3) h) := Is.lp (fun n2 σ h => L197_2 E (σ p0) n2 (σ p3) h) fun n2 => Is.aq (Is.leaf _)
theorem I197_0 : iB1 E D197 (J197_0 E) := Is.aq (Is.sq (Is.sq (I197_1 E) (Is.sq (Is.bk (I197_2 E)) (Is.leaf _))) (Is.leaf _))
def S197 : Fun := fA1 (J197_0 E)
theorem S197_eq : SQ D197 S197 := eB1 I197_0
def D198 := cm 198
def C198_1 := cr (cr (cr (cr (cl (cr D198.body)))))
def C198_2 := cl (cr (cl (cr (cr (cr (cl (cr D198.body)))))))
def C198_3 := cr (cr (cr (cl C198_2)))
def C198_4 := cr (cr (cl (cl (cr (cr (cl C198_2))))))
def C198_5 := cr (cl (cr (cl (cr (cl (cl (cr (cr (cl C198_2)))))))))
def J198_1 (E : Env) (r4 : DV) (h : H) : Ans := some ((.tup [r4, (ii 0)]), h)
def J198_3 (E : Env) (i2 : DV → DV → H → Ans) (r4 r23 : DV) (h : H) : Ans := vK (v_add r23 (ii 1)) fun x1 => i2 r4 x1 h
def J198_4 (i2 : DV → DV → H → Ans) (r4 r6 r23 : DV) (h : H) : Ans := wK (callK E 204 [r6] h) fun x1 h2 => vK (v_not x1) fun x3 => bK x3 (some ((.tup [.nils, (ii 15)]), h2)) (n_bsl 1 1 [(.str [])] [(0, 1, r6)] h2 fun x4 h5 => wK (dAppendF 1 16 r4 x4 h5) fun x6 h7 => J198_3 E i2 x6 r23 h7)
def J198_5 (i2 : DV → DV → H → Ans) (r4 r6 r23 r27 r28 : DV) (h : H) : Ans := bK r28 (J198_3 E i2 r4 r23 h) (vK (v_eql r27 (.str [46, 46])) fun x1 => bK x1 (vK (v_lenL r4) fun x2 => vK (v_sub x2 (ii 1)) fun x3 => vK (v_mx x3 (ii 0)) fun x4 => vK (v_slL 1 r4 none (some x4)) fun x5 => J198_3 E i2 x5 r23 h) (J198_4 E i2 r4 r6 r23 h))
def B198_2 (r21 r22 : DV) (i2 : DV → DV → H → Ans) (r4 r23 : DV) (h : H) : Ans := vK (v_lss r23 r22) fun x1 => bK x1 (vK (v_iaS 1 r21 r23) fun x2 => vK (v_ld h.get x2) fun x3 => vK (v_eql x3 (.str [])) fun x4 => bK x4 (J198_5 E i2 r4 x3 r23 x3 x4 h) (vK (v_eql x3 (.str [46])) fun x5 => J198_5 E i2 r4 x3 r23 x3 x5 h)) (J198_1 E r4 h)
def L198_2 (r21 r22 : DV) (n : Nat) : DV → DV → H → Ans := Nat.rec (motive := fun _ => DV → DV → H → Ans) (fun _ _ _ => none) (fun _ i => B198_2 E r21 r22 i) n
def J198_0 (r0 : DV) (h : H) : Ans := vK (v_eql r0 (.str [])) fun x1 => gdK x1 false (fun kk => kk r0 h) h fun x2 h3 => gdK x1 false (fun kk => vK (v_ixS x2 (ii 0)) fun v => kk v h3) h3 fun x4 h5 => gdK x1 false (fun kk => vK (v_neq x4 (.int .u8 (.ofNat 47))) fun v => kk v h5) h5 fun x6 h7 => vK (v_pick x1 (.bool true) x6) fun x8 => gdK x8 false (fun kk => kk r0 h7) h7 fun x9 h10 => gdK x8 false (fun kk => vK (v_lenS x9) fun v => kk v h10) h10 fun x11 h12 => gdK x8 false (fun kk => vK (v_gtr x11 (ii 255)) fun v => kk v h12) h12 fun x13 h14 => vK (v_pick x8 (.bool true) x13) fun x15 => bK x15 (some ((.tup [.nils, (ii 15)]), h14)) (vK (v_slS r0 (some (ii 1)) none) fun x16 => wK (callK E 236 [x16, (.str [47])] h14) fun x17 h18 => vK (v_lenL x17) fun x19 => L198_2 E x17 x19 FUEL .nils (ii 0) h18)
theorem I198_1 : Is E C198_1 (scopeK3 (retK3 D198.res)) (fun σ h => J198_1 E (σ p4) h) := Is.rf
abbrev K198_6 : KT2 (DV × H) := (thenK3 (fun σ h => J198_1 E (σ p4) h) (scopeK3 (retK3 D198.res)))
abbrev K198_7 (n2 : Nat) : KT2 (DV × H) := (thenK3 (fun σ h => (L198_2 E (σ p21) (σ p22) n2) (σ p4) (σ p23) h) (blockK3 0 (K198_6 E)))
theorem I198_3 (n2 : Nat) : Is E C198_3 (K198_7 E n2) (fun σ h => J198_3 E (L198_2 E (σ p21) (σ p22) n2) (σ p4) (σ p23) h) := Is.rf
abbrev K198_8 (n2 : Nat) : KT2 (DV × H) := (thenK3 (fun σ h => J198_3 E (L198_2 E (σ p21) (σ p22) n2) (σ p4) (σ p23) h) (K198_7 E n2))
theorem I198_4 (n2 : Nat) : Is E C198_4 (blockK3 1 (K198_8 E n2)) (fun σ h => J198_4 E (L198_2 E (σ p21) (σ p22) n2) (σ p4) (σ p6) (σ p23) h) := Is.rf
abbrev K198_9 (n2 : Nat) : KT2 (DV × H) := (thenK3 (fun σ h => J198_4 E (L198_2 E (σ p21) (σ p22) n2) (σ p4) (σ p6) (σ p23) h) (blockK3 1 (K198_8 E n2)))
theorem I198_5 (n2 : Nat) : Is E C198_5 (blockK3 2 (K198_9 E n2)) (fun σ h => J198_5 E (L198_2 E (σ p21) (σ p22) n2) (σ p4) (σ p6) (σ p23) (σ p27) (σ p28) h) := Is.rf
theorem I198_2 : Is E C198_2 (blockK3 0 (K198_6 E)) (fun σ h => L198_2 E (σ p21) (σ p22) FUEL (σ p4) (σ p23) h) := Is.lp (fun n2 σ h => L198_2 E (σ p21) (σ p22) n2 (σ p4) (σ p23) h) fun n2 => Is.aq (Is.sq (Is.sq (Is.sq (I198_3 E n2) (Is.bk (Is.sq (Is.sq (I198_4 E n2) (Is.sq (Is.bk (Is.sq (I198_5 E n2) (Is.leaf _))) (Is.leaf _))) (Is.leaf _)))) (Is.leaf _)) (Is.leaf _))
theorem I198_0 : iB1 E D198 (J198_0 E) := Is.aq (Is.sq (Is.sc (Is.sq (Is.sq (Is.sq (Is.sq (I198_1 E) (Is.sq (Is.bk (I198_2 E)) (Is.leaf _))) (Is.leaf _)) (Is.leaf _)) (Is.leaf _))) (Is.leaf _))
def S198 : Fun := fA1 (J198_0 E)
theorem S198_eq : SQ D198 S198 := eB1 I198_0
def D199 := cm 199
def C199_1 := cr (cr (cr D199.body))
def C199_2 := cl (cr (cl (cr (cr D199.body))))
def J199_1 (E : Env) (r6 : DV) (h : H) : Ans := some ((.tup [r6, (ii 0)]), h)
def B199_2 (r0 r12 r13 : DV) (i2 : DV → DV → H → Ans) (r6 r14 : DV) (h : H) : Ans := vK (v_lss r14 r13) fun x1 => bK x1 (vK (v_iaS 1 r12 r14) fun x2 => vK (v_ld h.get x2) fun x3 => wK (callK E 140 [r0, r6] h) fun x4 h5 => vK (v_eqv .ptr false h5.get x4 .nilp) fun x6 => bK x6 (some ((.tup [(ii 0), (ii 13)]), h5)) (wK (callK E 203 [x4, x3] h5) fun x7 h8 => vK (v_ext 0 x7) fun x9 => vK (v_ext 1 x7) fun x10 => vK (v_neq x10 (ii 0)) fun x11 => bK x11 (some ((.tup [(ii 0), x10]), h8)) (vK (v_add r14 (ii 1)) fun x12 => i2 x9 x12 h8))) (J199_1 E r6 h)
def L199_2 (r0 r12 r13 : DV) (n : Nat) : DV → DV → H → Ans := Nat.rec (motive := fun _ => DV → DV → H → Ans) (fun _ _ _ => none) (fun _ i => B199_2 E r0 r12 r13 i) n
def J199_0 (r0 r1 : DV) (h : H) : Ans := vK (v_lenL r1) fun x1 => L199_2 E r0 r1 x1 FUEL (ii 1) (ii 0) h
theorem I199_1 : Is E C199_1 (retK3 D199.res) (fun σ h => J199_1 E (σ p6) h) := Is.rf
abbrev K199_3 : KT2 (DV × H) := (thenK3 (fun σ h => J199_1 E (σ p6) h) (retK3 D199.res))
theorem I199_2 : Is E C199_2 (blockK3 0 (K199_3 E)) (fun σ h => L199_2 E (σ p0) (σ p12) (σ p13) FUEL (σ p6) (σ p14) h) := Is.lp (fun n2 σ h => L199_2 E (σ p0) (σ p12) (σ p13) n2 (σ p6) (σ p14) h) fun n2 => Is.aq (Is.leaf _)
theorem I199_0 : iB2 E D199 (J199_0 E) := Is.aq (Is.sq (Is.sq (Is.sq (I199_1 E) (Is.sq (Is.bk (I199_2 E)) (Is.leaf _))) (Is.leaf _)) (Is.leaf _))
def S199 : Fun := fA2 (J199_0 E)
theorem S199_eq : SQ D199 S199 := eB2 I199_0
def D200 := cm 200
def J200_0 (r0 r1 : DV) (h : H) : Ans := vK (v_eqv .ptr false h.get r0 .nilp) fun x1 => bK x1 (some ((.tup [(ii 0), (.bool false)]), h)) (vK (v_nilchk r0) fun x2 => vK (v_fa 0 x2) fun x3 => vK (v_ld h.get x3) fun x4 => wK (callK E 237 [x4, r1, (.fn (.func 238) [] [])] h) fun x5 h6 => vK (v_ext 0 x5) fun x7 => vK (v_ext 1 x5) fun x8 => some ((.tup [x7, x8]), h6))
theorem I200_0 : iB2 E D200 (J200_0 E) := Is.rf
def S200 : Fun := fA2 (J200_0 E)
theorem S200_eq : SQ D200 S200 := eB2 I200_0
def D203 := cm 203
def J203_0 (r0 r1 : DV) (h : H) : Ans := wK (callK E 200 [r0, r1] h) fun x1 h2 => vK (v_ext 0 x1) fun x3 => vK (v_ext 1 x1) fun x4 => vK (v_not x4) fun x5 => bK x5 (some ((.tup [(ii 0), (ii 7)]), h2)) (vK (v_nilchk r0) fun x6 => vK (v_fa 0 x6) fun x7 => vK (v_ld h2.get x7) fun x8 => vK (v_iaS 2 x8 x3) fun x9 => vK (v_fa 1 x9) fun x10 => vK (v_ld h2.get x10) fun x11 => some ((.tup [x11, (ii 0)]), h2))
theorem I203_0 : iB2 E D203 (J203_0 E) := Is.rf
def S203 : Fun := fA2 (J203_0 E)
theorem S203_eq : SQ D203 S203 := eB2 I203_0
def D204 := cm 204
def J204_0 (r0 : DV) (h : H) : Ans := vK (v_neq r0 (.str [])) fun x1 => gdK x1 true (fun kk => kk r0 h) h fun x2 h3 => gdK x1 true (fun kk => vK (v_lenS x2) fun v => kk v h3) h3 fun x4 h5 => gdK x1 true (fun kk => vK (v_leq x4 (ii 28)) fun v => kk v h5) h5 fun x6 h7 => vK (v_pick x1 x6 (.bool false)) fun x8 => gdK x8 true (fun kk => kk r0 h7) h7 fun x9 h10 => gdK x8 true (fun kk => vK (v_neq x9 (.str [46])) fun v => kk v h10) h10 fun x11 h12 => vK (v_pick x8 x11 (.bool false)) fun x13 => gdK x13 true (fun kk => kk r0 h12) h12 fun x14 h15 => gdK x13 true (fun kk => vK (v_neq x14 (.str [46, 46])) fun v => kk v h15) h15 fun x16 h17 => vK (v_pick x13 x16 (.bool false)) fun x18 => gdK x18 true (fun kk => kk r0 h17) h17 fun x19 h20 => gdK x18 true (fun kk => wK (callK E 239 [x19, (.int .u8 (.ofNat 47))] h20) kk) h20 fun x21 h22 => gdK x18 true (fun kk => vK (v_lss x21 (ii 0)) fun v => kk v h22) h22 fun x23 h24 => vK (v_pick x18 x23 (.bool false)) fun x25 => gdK x25 true (fun kk => kk r0 h24) h24 fun x26 h27 => gdK x25 true (fun kk => wK (callK E 239 [x26, (.int .u8 (.ofNat 0))] h27) kk) h27 fun x28 h29 => gdK x25 true (fun kk => vK (v_lss x28 (ii 0)) fun v => kk v h29) h29 fun x30 h31 => vK (v_pick x25 x30 (.bool false)) fun x32 => some (x32, h31)
theorem I204_0 : iB1 E D204 (J204_0 E) := Is.rf
def S204 : Fun := fA1 (J204_0 E)
theorem S204_eq : SQ D204 S204 := eB1 I204_0
def D205 := cm 205
def J205_0 (r0 r1 r2 : DV) (h : H) : Ans := vK (v_slL 2 r0 (some r1) none) fun x1 => vK (v_lenL r2) fun x2 => vK (v_eql x2 (ii 0)) fun x3 => bK x3 (some (r0, h)) (vK (v_lenL r0) fun x4 => vK (v_eql r1 x4) fun x5 => bK x5 (wK (dAppendF 2 24 r0 r2 h) fun x6 h7 => some (x6, h7)) (vK (v_add x4 x2) fun x8 => vK (v_capL r0) fun x9 => vK (v_gtr x8 x9) fun x10 => bK x10 (vK (v_slL 2 r0 none (some r1)) fun x11 => vK (v_add x4 x2) fun x12 => vK (v_sub x12 r1) fun x13 => wK (dApz 2 24 [(.str []), (ii 0)] x11 x13 h) fun x14 h15 => vK (v_slL 2 x14 (some r1) none) fun x16 => wK (dCopyF 2 x16 r2 h15) fun x17 h18 => vK (v_add r1 x2) fun x19 => vK (v_slL 2 x14 (some x19) none) fun x20 => vK (v_slL 2 r0 (some r1) none) fun x21 => wK (dCopyF 2 x20 x21 h18) fun x22 h23 => some (x14, h23)) (vK (v_add x4 x2) fun x24 => vK (v_slL 2 r0 none (some x24)) fun x25 => vK (v_add r1 x2) fun x26 => vK (v_slL 2 x25 (some x26) none) fun x27 => vK (v_ovl h.get r2 x27) fun x28 => vK (v_not x28) fun x29 => bK x29 (vK (v_add r1 x2) fun x30 => vK (v_slL 2 x25 (some x30) none) fun x31 => vK (v_slL 2 x25 (some r1) none) fun x32 => wK (dCopyF 2 x31 x32 h) fun x33 h34 => vK (v_slL 2 x25 (some r1) none) fun x35 => wK (dCopyF 2 x35 r2 h34) fun x36 h37 => some (x25, h37)) (vK (v_slL 2 x25 (some x4) none) fun x38 => wK (dCopyF 2 x38 r2 h) fun x39 h40 => vK (v_slL 2 x25 (some r1) none) fun x41 => wK (callK E 241 [x41, x2] h40) fun x42 h43 => some (x25, h43)))))
theorem I205_0 : iB3 E D205 (J205_0 E) := Is.rf
def S205 : Fun := fA3 (J205_0 E)
theorem S205_eq : SQ D205 S205 := eB3 I205_0
def D207 := cm 207
def J207_0 (r0 : DV) (h : H) : Ans := wK (callK E 242 [(.str [0]), r0] h) fun x1 h2 => some (x1, h2)
theorem I207_0 : iB1 E D207 (J207_0 E) := Is.rf
def S207 : Fun := fA1 (J207_0 E)
theorem S207_eq : SQ D207 S207 := eB1 I207_0
def D210 := cm 210
def J210_0 (E : Env) (r0 : DV) (h : H) : Ans := vK (v_lss r0 (ii 0)) fun x1 => bK x1 (some ((ii 0), h)) (vK (v_mn r0 (ii 100000)) fun x2 => vK (v_mul (ii 28) x2) fun x3 => vK (v_add (ii 9) x3) fun x4 => some (x4, h))
theorem I210_0 : iB1 E D210 (J210_0 E) := Is.rf
def S210 : Fun := fA1 (J210_0 E)
theorem S210_eq : SQ D210 S210 := eB1 I210_0
def D211 := cm 211
def J211_0 (E : Env) (r0 : DV) (h : H) : Ans := vK (v_conv .u8 r0) fun x1 => vK (v_shr r0 (.int .u64 (.ofNat 8))) fun x2 => vK (v_conv .u8 x2) fun x3 => vK (v_shr r0 (.int .u64 (.ofNat 16))) fun x4 => vK (v_conv .u8 x4) fun x5 => vK (v_shr r0 (.int .u64 (.ofNat 24))) fun x6 => vK (v_conv .u8 x6) fun x7 => n_bsl 4 1 [(.int .u8 (.ofNat 0))] [(0, 1, x1), (1, 1, x3), (2, 1, x5), (3, 1, x7)] h fun x8 h9 => vK (v_b2s h9.get x8) fun x10 => some (x10, h9)
theorem I211_0 : iB1 E D211 (J211_0 E) := Is.rf
def S211 : Fun := fA1 (J211_0 E)
theorem S211_eq : SQ D211 S211 := eB1 I211_0
def D212 := cm 212
def J212_0 (r0 : DV) (h : H) : Ans := wK (callK E 243 [(.int .u32 (.ofNat 0)), r0] h) fun x1 h2 => some (x1, h2)
theorem I212_0 : iB1 E D212 (J212_0 E) := Is.rf
def S212 : Fun := fA1 (J212_0 E)
theorem S212_eq : SQ D212 S212 := eB1 I212_0
def D220 := cm 220
def C220_1 := cl (cr D220.body)
def C220_2 := cr (cr (cr (cl (cl C220_1))))
def J220_2 (i1 : DV → H → Ans) (r0 r3 r4 r10 r11 : DV) (h : H) : Ans := vK (v_add r3 r10) fun x1 => vK (v_iaS 5 r0 x1) fun x2 => vK (v_ldN 5 h.get x2) fun x3 => vK (v_add r3 r11) fun x4 => vK (v_iaS 5 r0 x4) fun x5 => vK (v_ldN 5 h.get x5) fun x6 => wK (c_val E r4 [x3, x6] h) fun x7 h8 => vK (v_lss x7 (ii 0)) fun x9 => vK (v_not x9) fun x10 => bK x10 (some ((.tup []), h8)) (vK (v_add r3 r10) fun x11 => vK (v_add r3 r11) fun x12 => vK (v_add r3 r11) fun x13 => vK (v_iaS 5 r0 x13) fun x14 => vK (v_ldN 5 h8.get x14) fun x15 => vK (v_add r3 r10) fun x16 => vK (v_iaS 5 r0 x16) fun x17 => vK (v_ldN 5 h8.get x17) fun x18 => vK (v_iaS 5 r0 x11) fun x19 => wK (dStF 5 x19 x15 h8) fun x20 h21 => vK (v_iaS 5 r0 x12) fun x22 => wK (dStF 5 x22 x18 h21) fun x23 h24 => i1 r11 h24)
def B220_1 (r0 r2 r3 r4 : DV) (i1 : DV → H → Ans) (r10 : DV) (h : H) : Ans := vK (v_mul (ii 2) r10) fun x1 => vK (v_add x1 (ii 1)) fun x2 => vK (v_geq x2 r2) fun x3 => bK x3 (some ((.tup []), h)) (vK (v_add x2 (ii 1)) fun x4 => vK (v_lss x4 r2) fun x5 => gdK x5 true (fun kk => kk r4 h) h fun x6 h7 => gdK x5 true (fun kk => kk r0 h7) h7 fun x8 h9 => gdK x5 true (fun kk => kk r3 h9) h9 fun x10 h11 => gdK x5 true (fun kk => kk x2 h11) h11 fun x12 h13 => gdK x5 true (fun kk => vK (v_add x10 x12) fun v => kk v h13) h13 fun x14 h15 => gdK x5 true (fun kk => vK (v_iaS 5 x8 x14) fun v => kk v h15) h15 fun x16 h17 => gdK x5 true (fun kk => vK (v_ldN 5 h17.get x16) fun v => kk v h17) h17 fun x18 h19 => gdK x5 true (fun kk => kk r0 h19) h19 fun x20 h21 => gdK x5 true (fun kk => kk r3 h21) h21 fun x22 h23 => gdK x5 true (fun kk => kk x2 h23) h23 fun x24 h25 => gdK x5 true (fun kk => vK (v_add x22 x24) fun v => kk v h25) h25 fun x26 h27 => gdK x5 true (fun kk => vK (v_add x26 (ii 1)) fun v => kk v h27) h27 fun x28 h29 => gdK x5 true (fun kk => vK (v_iaS 5 x20 x28) fun v => kk v h29) h29 fun x30 h31 => gdK x5 true (fun kk => vK (v_ldN 5 h31.get x30) fun v => kk v h31) h31 fun x32 h33 => gdK x5 true (fun kk => wK (c_val E x6 [x18, x32] h33) kk) h33 fun x34 h35 => gdK x5 true (fun kk => vK (v_lss x34 (ii 0)) fun v => kk v h35) h35 fun x36 h37 => vK (v_pick x5 x36 (.bool false)) fun x38 => bK x38 (vK (v_add x2 (ii 1)) fun x39 => J220_2 E i1 r0 r3 r4 r10 x39 h37) (J220_2 E i1 r0 r3 r4 r10 x2 h37))
def L220_1 (r0 r2 r3 r4 : DV) (n : Nat) : DV → H → Ans := Nat.rec (motive := fun _ => DV → H → Ans) (fun _ _ => none) (fun _ i => B220_1 E r0 r2 r3 r4 i) n
def J220_0 (r0 r1 r2 r3 r4 : DV) (h : H) : Ans := L220_1 E r0 r2 r3 r4 FUEL r1 h
abbrev K220_3 (n1 : Nat) : KT2 (DV × H) := (thenK3 (fun σ h => (L220_1 E (σ p0) (σ p2) (σ p3) (σ p4) n1) (σ p10) h) (blockK3 0 (retK3 D220.res)))
theorem I220_2 (n1 : Nat) : Is E C220_2 (blockK3 1 (K220_3 E n1)) (fun σ h => J220_2 E (L220_1 E (σ p0) (σ p2) (σ p3) (σ p4) n1) (σ p0) (σ p3) (σ p4) (σ p10) (σ p11) h) := Is.rf
theorem I220_1 : Is E C220_1 (blockK3 0 (retK3 D220.res)) (fun σ h => L220_1 E (σ p0) (σ p2) (σ p3) (σ p4) FUEL (σ p10) h) := Is.lp (fun n1 σ h => L220_1 E (σ p0) (σ p2) (σ p3) (σ p4) n1 (σ p10) h) fun n1 => Is.aq (Is.bk (Is.sq (Is.sq (Is.sq (I220_2 E n1) (Is.leaf _)) (Is.leaf _)) (Is.leaf _)))
theorem I220_0 : iB5 E D220 (J220_0 E) := Is.aq (Is.sq (Is.bk (I220_1 E)) (Is.leaf _))
def S220 : Fun := fA5 (J220_0 E)
theorem S220_eq : SQ D220 S220 := eB5 I220_0
def D221 := cm 221
def J221_0 (r0 : DV) (h : H) : Ans := vK (v_conv .u64 r0) fun x1 => wK (callK E 123 [x1] h) fun x2 h3 => vK (v_shl (.int .u64 (.ofNat 1)) x2) fun x4 => some (x4, h3)
theorem I221_0 : iB1 E D221 (J221_0 E) := Is.rf
def S221 : Fun := fA1 (J221_0 E)
theorem S221_eq : SQ D221 S221 := eB1 I221_0
def D222 := cm 222
def J222_0 (E : Env) (r0 : DV) (h : H) : Ans := vK (v_nilchk r0) fun x1 => vK (v_ld h.get x1) fun x2 => vK (v_nilchk r0) fun x3 => vK (v_ld h.get x3) fun x4 => vK (v_shl x4 (.int .u64 (.ofNat 13))) fun x5 => vK (v_xor x2 x5) fun x6 => vK (v_nilchk r0) fun x7 => wK (dStF 1 x7 x6 h) fun x8 h9 => vK (v_nilchk r0) fun x10 => vK (v_ld h9.get x10) fun x11 => vK (v_nilchk r0) fun x12 => vK (v_ld h9.get x12) fun x13 => vK (v_shr x13 (.int .u64 (.ofNat 7))) fun x14 => vK (v_xor x11 x14) fun x15 => vK (v_nilchk r0) fun x16 => wK (dStF 1 x16 x15 h9) fun x17 h18 => vK (v_nilchk r0) fun x19 => vK (v_ld h18.get x19) fun x20 => vK (v_nilchk r0) fun x21 => vK (v_ld h18.get x21) fun x22 => vK (v_shl x22 (.int .u64 (.ofNat 17))) fun x23 => vK (v_xor x20 x23) fun x24 => vK (v_nilchk r0) fun x25 => wK (dStF 1 x25 x24 h18) fun x26 h27 => vK (v_nilchk r0) fun x28 => vK (v_ld h27.get x28) fun x29 => some (x29, h27)
theorem I222_0 : iB1 E D222 (J222_0 E) := Is.rf
def S222 : Fun := fA1 (J222_0 E)
theorem S222_eq : SQ D222 S222 := eB1 I222_0
def D223 := cm 223
def J223_0 (r0 r1 r2 r3 : DV) (h : H) : Ans := vK (v_sub r1 (ii 1)) fun x1 => vK (v_add r1 (ii 1)) fun x2 => wK (callK E 224 [r0, x1, r1, x2, r2, r3] h) fun x3 h4 => some (x3, h4)
theorem I223_0 : iB4 E D223 (J223_0 E) := Is.rf
def S223 : Fun := fA4 (J223_0 E)
theorem S223_eq : SQ D223 S223 := eB4 I223_0
def D224 := cm 224
def J224_0 (r0 r1 r2 r3 r4 r5 : DV) (h : H) : Ans := wK (callK E 250 [r0, r1, r2, r4, r5] h) fun x1 h2 => vK (v_ext 0 x1) fun x3 => vK (v_ext 1 x1) fun x4 => wK (callK E 250 [r0, x4, r3, r4, r5] h2) fun x5 h6 => vK (v_ext 0 x5) fun x7 => vK (v_ext 1 x5) fun x8 => wK (callK E 250 [r0, x3, x7, r4, r5] h6) fun x9 h10 => vK (v_ext 0 x9) fun x11 => vK (v_ext 1 x9) fun x12 => some (x12, h10)
theorem I224_0 : Is E D224.body (retK3 D224.res) (fun σ h => J224_0 E (σ p0) (σ p1) (σ p2) (σ p3) (σ p4) (σ p5) h) := Is.rf
def S224 : Fun := fun args h => aS args fun r0 args => aS args fun r1 args => aS args fun r2 args => aS args fun r3 args => aS args fun r4 args => aS args fun r5 args => a0 args (J224_0 E r0 r1 r2 r3 r4 r5 h)
theorem S224_eq (E : Env) (args : List DV) (h : H) : runFn E D224 args h = S224 E args h := Is.fn6 (d := D224) (I224_0 E) (by kernel_rfl) (fun r0 r1 r2 r3 r4 r5 h => J224_0 E r0 r1 r2 r3 r4 r5 h) (fun r0 r1 r2 r3 r4 r5 h => by kernel_rfl) args h
def D235 := cm 235
def J235_0 (E : Env) (r0 : DV) (h : H) : Ans := vK (v_conv .u8 r0) fun x1 => vK (v_shr r0 (.int .u64 (.ofNat 8))) fun x2 => vK (v_conv .u8 x2) fun x3 => vK (v_shr r0 (.int .u64 (.ofNat 16))) fun x4 => vK (v_conv .u8 x4) fun x5 => vK (v_shr r0 (.int .u64 (.ofNat 24))) fun x6 => vK (v_conv .u8 x6) fun x7 => n_bsl 4 1 [(.int .u8 (.ofNat 0))] [(0, 1, x1), (1, 1, x3), (2, 1, x5), (3, 1, x7)] h fun x8 h9 => vK (v_b2s h9.get x8) fun x10 => some (x10, h9)
theorem I235_0 : iB1 E D235 (J235_0 E) := Is.rf
def S235 : Fun := fA1 (J235_0 E)
theorem S235_eq : SQ D235 S235 := eB1 I235_0
def D236 := cm 236
def J236_0 (r0 r1 : DV) (h : H) : Ans := wK (callK E 267 [r0, r1, (ii 0), (.int .i64 (.negSucc 0))] h) fun x1 h2 => some (x1, h2)
theorem I236_0 : iB2 E D236 (J236_0 E) := Is.rf
def S236 : Fun := fA2 (J236_0 E)
theorem S236_eq : SQ D236 S236 := eB2 I236_0
def D237 := cm 237
def C237_1 := cr (cr (cr D237.body))
def C237_2 := cl (cl (cr (cr D237.body)))
def J237_1 (r0 r1 r2 r8 : DV) (h : H) : Ans := vK (v_lenL r0) fun x1 => vK (v_lss r8 x1) fun x2 => gdK x2 true (fun kk => kk r2 h) h fun x3 h4 => gdK x2 true (fun kk => kk r0 h4) h4 fun x5 h6 => gdK x2 true (fun kk => kk r8 h6) h6 fun x7 h8 => gdK x2 true (fun kk => vK (v_iaS 2 x5 x7) fun v => kk v h8) h8 fun x9 h10 => gdK x2 true (fun kk => vK (v_ldN 2 h10.get x9) fun v => kk v h10) h10 fun x11 h12 => gdK x2 true (fun kk => wK (c_val E x3 [x11] h12) kk) h12 fun x13 h14 => gdK x2 true (fun kk => kk r1 h14) h14 fun x15 h16 => gdK x2 true (fun kk => vK (v_eql x13 x15) fun v => kk v h16) h16 fun x17 h18 => vK (v_pick x2 x17 (.bool false)) fun x19 => some ((.tup [r8, x19]), h18)
def B237_2 (r0 r1 r2 : DV) (i2 : DV → DV → H → Ans) (r8 r9 : DV) (h : H) : Ans := vK (v_lss r8 r9) fun x1 => bK x1 (vK (v_add r8 r9) fun x2 => vK (v_quo x2 (ii 2)) fun x3 => vK (v_iaS 2 r0 x3) fun x4 => vK (v_ldN 2 h.get x4) fun x5 => wK (c_val E r2 [x5] h) fun x6 h7 => vK (v_lss x6 r1) fun x8 => bK x8 (vK (v_add x3 (ii 1)) fun x9 => i2 x9 r9 h7) (i2 r8 x3 h7)) (J237_1 E r0 r1 r2 r8 h)
def L237_2 (r0 r1 r2 : DV) (n : Nat) : DV → DV → H → Ans := Nat.rec (motive := fun _ => DV → DV → H → Ans) (fun _ _ _ => none) (fun _ i => B237_2 E r0 r1 r2 i) n
def J237_0 (r0 r1 r2 : DV) (h : H) : Ans := vK (v_lenL r0) fun x1 => L237_2 E r0 r1 r2 FUEL (ii 0) x1 h
theorem I237_1 : Is E C237_1 (retK3 D237.res) (fun σ h => J237_1 E (σ p0) (σ p1) (σ p2) (σ p8) h) := Is.rf
abbrev K237_3 : KT2 (DV × H) := (thenK3 (fun σ h => J237_1 E (σ p0) (σ p1) (σ p2) (σ p8) h) (retK3 D237.res))
theorem I237_2 : Is E C237_2 (blockK3 0 (K237_3 E)) (fun σ h => L237_2 E (σ p0) (σ p1) (σ p2) FUEL (σ p8) (σ p9) h) := Is.lp (fun n2 σ h => L237_2 E (σ p0) (σ p1) (σ p2) n2 (σ p8) (σ p9) h) fun n2 => Is.aq (Is.leaf _)
theorem I237_0 : iB3 E D237 (J237_0 E) := Is.aq (Is.sq (Is.sq (Is.sq (I237_1 E) (Is.bk (I237_2 E))) (Is.leaf _)) (Is.leaf _))
def S237 : Fun := fA3 (J237_0 E)
theorem S237_eq : SQ D237 S237 := eB3 I237_0
def D238 := cm 238
def J238_0 (E : Env) (r0 : DV) (h : H) : Ans := n_box r0 h fun x1 h2 => vK (v_fa 0 x1) fun x3 => vK (v_ld h2.get x3) fun x4 => some (x4, h2)
theorem I238_0 : iB1 E D238 (J238_0 E) := Is.rf
def S238 : Fun := fA1 (J238_0 E)
theorem S238_eq : SQ D238 S238 := eB1 I238_0
def D239 := cm 239
def J239_0 (r0 r1 : DV) (h : H) : Ans := wK (callK E 268 [r0, r1] h) fun x1 h2 => some (x1, h2)
theorem I239_0 : iB2 E D239 (J239_0 E) := Is.rf
def S239 : Fun := fA2 (J239_0 E)
theorem S239_eq : SQ D239 S239 := eB2 I239_0
def D241 := cm 241
def J241_0 (r0 r1 : DV) (h : H) : Ans := vK (v_lenL r0) fun x1 => vK (v_sub x1 r1) fun x2 => wK (callK E 269 [r0, x2] h) fun x3 h4 => some ((.tup []), h4)
theorem I241_0 : iB2 E D241 (J241_0 E) := Is.rf
def S241 : Fun := fA2 (J241_0 E)
theorem S241_eq : SQ D241 S241 := eB2 I241_0
def D243 := cm 243
def C243_1 := cr (cr (cr D243.body))
def C243_2 := cl (cr (cl (cr (cr D243.body))))
def J243_1 (E : Env) (r5 : DV) (h : H) : Ans := vK (v_xor (.int .u32 (.ofNat 4294967295)) r5) fun x1 => some (x1, h)
def B243_2 (r1 r10 : DV) (i2 : DV → DV → H → Ans) (r5 r11 : DV) (h : H) : Ans := vK (v_lss r11 r10) fun x1 => bK x1 (vK (v_ixS r1 r11) fun x2 => vK (v_conv .u32 x2) fun x3 => vK (v_xor r5 x3) fun x4 => wK (callK E 276 [x4] h) fun x5 h6 => vK (v_add r11 (ii 1)) fun x7 => i2 x5 x7 h6) (J243_1 E r5 h)
def L243_2 (r1 r10 : DV) (n : Nat) : DV → DV → H → Ans := Nat.rec (motive := fun _ => DV → DV → H → Ans) (fun _ _ _ => none) (fun _ i => B243_2 E r1 r10 i) n
def J243_0 (r0 r1 : DV) (h : H) : Ans := vK (v_xor (.int .u32 (.ofNat 4294967295)) r0) fun x1 => vK (v_lenS r1) fun x2 => L243_2 E r1 x2 FUEL x1 (ii 0) h
theorem I243_1 : Is E C243_1 (retK3 D243.res) (fun σ h => J243_1 E (σ p5) h) := Is.rf
abbrev K243_3 : KT2 (DV × H) := (thenK3 (fun σ h => J243_1 E (σ p5) h) (retK3 D243.res))
theorem I243_2 : Is E C243_2 (blockK3 0 (K243_3 E)) (fun σ h => L243_2 E (σ p1) (σ p10) FUEL (σ p5) (σ p11) h) := Is.lp (fun n2 σ h => L243_2 E (σ p1) (σ p10) n2 (σ p5) (σ p11) h) fun n2 => Is.aq (Is.leaf _)
theorem I243_0 : iB2 E D243 (J243_0 E) := Is.aq (Is.sq (Is.sq (Is.sq (I243_1 E) (Is.sq (Is.bk (I243_2 E)) (Is.leaf _))) (Is.leaf _)) (Is.leaf _))
def S243 : Fun := fA2 (J243_0 E)
theorem S243_eq : SQ D243 S243 := eB2 I243_0
def D250 := cm 250
def J250_0 (r0 r1 r2 r3 r4 : DV) (h : H) : Ans := vK (v_iaS 5 r0 r2) fun x1 => vK (v_ldN 5 h.get x1) fun x2 => vK (v_iaS 5 r0 r1) fun x3 => vK (v_ldN 5 h.get x3) fun x4 => wK (c_val E r4 [x2, x4] h) fun x5 h6 => vK (v_lss x5 (ii 0)) fun x7 => bK x7 (vK (v_nilchk r3) fun x8 => vK (v_ld h6.get x8) fun x9 => vK (v_add x9 (ii 1)) fun x10 => vK (v_nilchk r3) fun x11 => wK (dStF 1 x11 x10 h6) fun x12 h13 => some ((.tup [r2, r1]), h13)) (some ((.tup [r1, r2]), h6))
theorem I250_0 : iB5 E D250 (J250_0 E) := Is.rf
def S250 : Fun := fA5 (J250_0 E)
theorem S250_eq : SQ D250 S250 := eB5 I250_0
def D267 := cm 267
def C267_1 := cr (cr (cr (cr D267.body)))
def C267_2 := cr (cr (cr (cr (cr C267_1))))
def C267_3 := cl (cl (cr (cr (cr (cr C267_1)))))
def J267_2 (E : Env) (r0 r9 r10 : DV) (h : H) : Ans := vK (v_iaS 1 r9 r10) fun x1 => wK (dStF 1 x1 r0 h) fun x2 h3 => vK (v_add r10 (ii 1)) fun x4 => vK (v_slL 1 r9 none (some x4)) fun x5 => some (x5, h3)
def B267_3 (r1 r2 r3 r9 : DV) (i3 : DV → DV → H → Ans) (r0 r10 : DV) (h : H) : Ans := vK (v_lss r10 r3) fun x1 => bK x1 (wK (callK E 305 [r0, r1] h) fun x2 h3 => vK (v_lss x2 (ii 0)) fun x4 => bK x4 (J267_2 E r0 r9 r10 h3) (vK (v_add x2 r2) fun x5 => vK (v_slS r0 none (some x5)) fun x6 => vK (v_iaS 1 r9 r10) fun x7 => wK (dStF 1 x7 x6 h3) fun x8 h9 => vK (v_lenS r1) fun x10 => vK (v_add x2 x10) fun x11 => vK (v_slS r0 (some x11) none) fun x12 => vK (v_add r10 (ii 1)) fun x13 => i3 x12 x13 h9)) (J267_2 E r0 r9 r10 h)
def L267_3 (r1 r2 r3 r9 : DV) (n : Nat) : DV → DV → H → Ans := Nat.rec (motive := fun _ => DV → DV → H → Ans) (fun _ _ _ => none) (fun _ i => B267_3 E r1 r2 r3 r9 i) n
def J267_1 (r0 r1 r2 r3 : DV) (h : H) : Ans := vK (v_lenS r0) fun x1 => vK (v_add x1 (ii 1)) fun x2 => vK (v_mn r3 x2) fun x3 => n_mks 1 16 (.str []) x3 x3 h fun x4 h5 => vK (v_sub x3 (ii 1)) fun x6 => L267_3 E r1 r2 x6 x4 FUEL r0 (ii 0) h5
def J267_0 (r0 r1 r2 r3 : DV) (h : H) : Ans := vK (v_eql r3 (ii 0)) fun x1 => bK x1 (some (.nils, h)) (vK (v_eql r1 (.str [])) fun x2 => bK x2 (wK (callK E 303 [r0, r3] h) fun x3 h4 => some (x3, h4)) (vK (v_lss r3 (ii 0)) fun x5 => bK x5 (wK (callK E 304 [r0, r1] h) fun x6 h7 => vK (v_add x6 (ii 1)) fun x8 => J267_1 E r0 r1 r2 x8 h7) (J267_1 E r0 r1 r2 r3 h)))
theorem I267_2 : Is E C267_2 (retK3 D267.res) (fun σ h => J267_2 E (σ p0) (σ p9) (σ p10) h) := Is.rf
abbrev K267_4 : KT2 (DV × H) := (thenK3 (fun σ h => J267_2 E (σ p0) (σ p9) (σ p10) h) (retK3 D267.res))
theorem I267_3 : Is E C267_3 (blockK3 0 (K267_4 E)) (fun σ h => L267_3 E (σ p1) (σ p2) (σ p3) (σ p9) FUEL (σ p0) (σ p10) h) := Is.lp (fun n3 σ h => L267_3 E (σ p1) (σ p2) (σ p3) (σ p9) n3 (σ p0) (σ p10) h) fun n3 => Is.aq (Is.leaf _)
theorem I267_1 : Is E C267_1 (retK3 D267.res) (fun σ h => J267_1 E (σ p0) (σ p1) (σ p2) (σ p3) h) := Is.aq (Is.sq (Is.sq (Is.sq (Is.sq (Is.sq (I267_2 E) (Is.bk (I267_3 E))) (Is.leaf _)) (Is.leaf _)) (Is.leaf _)) (Is.leaf _))
theorem I267_0 : iB4 E D267 (J267_0 E) := Is.aq (Is.sq (Is.sq (Is.sq (Is.sq (I267_1 E) (Is.leaf _)) (Is.leaf _)) (Is.leaf _)) (Is.leaf _))
def S267 : Fun := fA4 (J267_0 E)
theorem S267_eq : SQ D267 S267 := eB4 I267_0
def D268 := cm 268
def J268_0 (E : Env) (r0 r1 : DV) (h : H) : Ans := vK (v_idxB r0 r1) fun x1 => some (x1, h)
theorem I268_0 : iB2 E D268 (J268_0 E) := Is.rf
def S268 : Fun := fA2 (J268_0 E)
theorem S268_eq : SQ D268 S268 := eB2 I268_0
def D269 := cm 269
def J269_0 (r0 r1 : DV) (h : H) : Ans := vK (v_slL 2 r0 none (some r1)) fun x1 => wK (callK E 307 [x1] h) fun x2 h3 => vK (v_slL 2 r0 (some r1) none) fun x4 => wK (callK E 307 [x4] h3) fun x5 h6 => wK (callK E 307 [r0] h6) fun x7 h8 => some ((.tup []), h8)
theorem I269_0 : iB2 E D269 (J269_0 E) := Is.rf
def S269 : Fun := fA2 (J269_0 E)
theorem S269_eq : SQ D269 S269 := eB2 I269_0
def D276 := cm 276
def C276_1 := cr D276.body
def B276_1 (E : Env) (i1 : DV → DV → H → Ans) (r0 r3 : DV) (h : H) : Ans := vK (v_shr r0 (.int .u64 (.ofNat 1))) fun x1 => vK (v_and r0 (.int .u32 (.ofNat 1))) fun x2 => vK (v_neg x2) fun x3 => vK (v_and (.int .u32 (.ofNat 3988292384)) x3) fun x4 => vK (v_xor x1 x4) fun x5 => vK (v_sub r3 (ii 1)) fun x6 => vK (v_gtr x6 (ii 0)) fun x7 => bK x7 (i1 x5 x6 h) (some (x5, h))
def L276_1 (n : Nat) : DV → DV → H → Ans := Nat.rec (motive := fun _ => DV → DV → H → Ans) (fun _ _ _ => none) (fun _ i => B276_1 E i) n
def J276_1 (r0 : DV) (h : H) : Ans := vK (v_shr r0 (.int .u64 (.ofNat 1))) fun x1 => vK (v_and r0 (.int .u32 (.ofNat 1))) fun x2 => vK (v_neg x2) fun x3 => vK (v_and (.int .u32 (.ofNat 3988292384)) x3) fun x4 => vK (v_xor x1 x4) fun x5 => vK (v_sub (ii 8) (ii 1)) fun x6 => vK (v_gtr x6 (ii 0)) fun x7 => bK x7 (L276_1 E FUEL x5 x6 h) (some (x5, h))
def J276_0 (r0 : DV) (h : H) : Ans := J276_1 E r0 h
theorem I276_1 : Is E C276_1 (retK3 D276.res) (fun σ h => J276_1 E (σ p0) h) := Is.aq (Is.jm (g := 4294967296) (fun n1 σ h => L276_1 E n1 (σ p0) (σ p3) h) (fun n1 => Is.aq (Is.leaf _)) (Is.leaf _))
theorem I276_0 : iB1 E D276 (J276_0 E) := Is.aq (Is.sq (I276_1 E) (Is.leaf _))
def S276 : Fun := fA1 (J276_0 E)
theorem S276_eq : SQ D276 S276 := eB1 I276_0
def D303 := cm 303
def C303_1 := cr (cr (cr D303.body))
def C303_2 := cr (cr C303_1)
def C303_4 := cr C303_2
def C303_3 := cl (cr (cl (cr C303_1)))
def J303_4 (E : Env) (r6 : DV) (h : H) : Ans := some (r6, h)
def J303_2 (r0 r1 r6 : DV) (h : H) : Ans := vK (v_gtr r1 (ii 0)) fun x1 => bK x1 (vK (v_sub r1 (ii 1)) fun x2 => vK (v_iaS 1 r6 x2) fun x3 => wK (dStF 1 x3 r0 h) fun x4 h5 => J303_4 E r6 h5) (J303_4 E r6 h)
def B303_3 (r1 r6 : DV) (i3 : DV → DV → H → Ans) (r0 r7 : DV) (h : H) : Ans := vK (v_sub r1 (ii 1)) fun x1 => vK (v_lss r7 x1) fun x2 => bK x2 (wK (callK E 327 [r0] h) fun x3 h4 => vK (v_ext 0 x3) fun x5 => vK (v_ext 1 x3) fun x6 => vK (v_slS r0 none (some x6)) fun x7 => vK (v_iaS 1 r6 r7) fun x8 => wK (dStF 1 x8 x7 h4) fun x9 h10 => vK (v_slS r0 (some x6) none) fun x11 => vK (v_add r7 (ii 1)) fun x12 => i3 x11 x12 h10) (J303_2 E r0 r1 r6 h)
def L303_3 (r1 r6 : DV) (n : Nat) : DV → DV → H → Ans := Nat.rec (motive := fun _ => DV → DV → H → Ans) (fun _ _ _ => none) (fun _ i => B303_3 E r1 r6 i) n
def J303_1 (r0 r1 : DV) (h : H) : Ans := n_mks 1 16 (.str []) r1 r1 h fun x1 h2 => L303_3 E r1 x1 FUEL r0 (ii 0) h2
def J303_0 (r0 r1 : DV) (h : H) : Ans := wK (callK E 326 [r0] h) fun x1 h2 => vK (v_lss r1 (ii 0)) fun x3 => gdK x3 false (fun kk => kk r1 h2) h2 fun x4 h5 => gdK x3 false (fun kk => kk x1 h5) h5 fun x6 h7 => gdK x3 false (fun kk => vK (v_gtr x4 x6) fun v => kk v h7) h7 fun x8 h9 => vK (v_pick x3 (.bool true) x8) fun x10 => bK x10 (J303_1 E r0 x1 h9) (J303_1 E r0 r1 h9)
theorem I303_4 : Is E C303_4 (retK3 D303.res) (fun σ h => J303_4 E (σ p6) h) := Is.rf
theorem I303_2 : Is E C303_2 (retK3 D303.res) (fun σ h => J303_2 E (σ p0) (σ p1) (σ p6) h) := Is.aq (Is.sq (I303_4 E) (Is.leaf _))
abbrev K303_5 : KT2 (DV × H) := (thenK3 (fun σ h => J303_2 E (σ p0) (σ p1) (σ p6) h) (retK3 D303.res))
theorem I303_3 : Is E C303_3 (blockK3 0 (K303_5 E)) (fun σ h => L303_3 E (σ p1) (σ p6) FUEL (σ p0) (σ p7) h) := Is.lp (fun n3 σ h => L303_3 E (σ p1) (σ p6) n3 (σ p0) (σ p7) h) fun n3 => Is.aq (Is.leaf _)
theorem I303_1 : Is E C303_1 (retK3 D303.res) (fun σ h => J303_1 E (σ p0) (σ p1) h) := Is.aq (Is.sq (Is.sq (I303_2 E) (Is.sq (Is.bk (I303_3 E)) (Is.leaf _))) (Is.leaf _))
theorem I303_0 : iB2 E D303 (J303_0 E) := Is.aq (Is.sq (Is.sq (Is.sq (I303_1 E) (Is.leaf _)) (Is.leaf _)) (Is.leaf _))
def S303 : Fun := fA2 (J303_0 E)
theorem S303_eq : SQ D303 S303 := eB2 I303_0
def D304 := cm 304
def C304_1 := cl (cr (cr (cr (cr D304.body))))
def B304_1 (r1 : DV) (i1 : DV → DV → H → Ans) (r0 r5 : DV) (h : H) : Ans := wK (callK E 305 [r0, r1] h) fun x1 h2 => vK (v_eql x1 (.int .i64 (.negSucc 0))) fun x3 => bK x3 (some (r5, h2)) (vK (v_add r5 (ii 1)) fun x4 => vK (v_lenS r1) fun x5 => vK (v_add x1 x5) fun x6 => vK (v_slS r0 (some x6) none) fun x7 => i1 x7 x4 h2)
def L304_1 (r1 : DV) (n : Nat) : DV → DV → H → Ans := Nat.rec (motive := fun _ => DV → DV → H → Ans) (fun _ _ _ => none) (fun _ i => B304_1 E r1 i) n
def J304_0 (r0 r1 : DV) (h : H) : Ans := vK (v_lenS r1) fun x1 => vK (v_eql x1 (ii 0)) fun x2 => bK x2 (wK (callK E 326 [r0] h) fun x3 h4 => vK (v_add x3 (ii 1)) fun x5 => some (x5, h4)) (vK (v_lenS r1) fun x6 => vK (v_eql x6 (ii 1)) fun x7 => bK x7 (vK (v_ixS r1 (ii 0)) fun x8 => vK (v_cntB r0 x8) fun x9 => some (x9, h)) (L304_1 E r1 FUEL r0 (ii 0) h))
theorem I304_1 : Is E C304_1 (blockK3 0 (retK3 D304.res)) (fun σ h => L304_1 E (σ p1) FUEL (σ p0) (σ p5) h) := Is.lp (fun n1 σ h => L304_1 E (σ p1) n1 (σ p0) (σ p5) h) fun n1 => Is.aq (Is.leaf _)
theorem I304_0 : iB2 E D304 (J304_0 E) := Is.aq (Is.sq (Is.sq (Is.sq (Is.sq (Is.bk (I304_1 E)) (Is.leaf _)) (Is.leaf _)) (Is.leaf _)) (Is.leaf _))
def S304 : Fun := fA2 (J304_0 E)
theorem S304_eq : SQ D304 S304 := eB2 I304_0
def D305 := cm 305
def J305_0 (r0 r1 : DV) (h : H) : Ans := wK (callK E 329 [r0, r1] h) fun x1 h2 => some (x1, h2)
theorem I305_0 : iB2 E D305 (J305_0 E) := Is.rf
def S305 : Fun := fA2 (J305_0 E)
theorem S305_eq : SQ D305 S305 := eB2 I305_0
def D307 := cm 307
def C307_1 := cl (cr D307.body)
def B307_1 (E : Env) (r0 : DV) (i1 : DV → DV → H → Ans) (r2 r3 : DV) (h : H) : Ans := vK (v_lss r2 r3) fun x1 => bK x1 (vK (v_iaS 2 r0 r3) fun x2 => vK (v_ldN 2 h.get x2) fun x3 => vK (v_iaS 2 r0 r2) fun x4 => vK (v_ldN 2 h.get x4) fun x5 => vK (v_iaS 2 r0 r2) fun x6 => wK (dStF 2 x6 x3 h) fun x7 h8 => vK (v_iaS 2 r0 r3) fun x9 => wK (dStF 2 x9 x5 h8) fun x10 h11 => vK (v_add r2 (ii 1)) fun x12 => vK (v_sub r3 (ii 1)) fun x13 => i1 x12 x13 h11) (some ((.tup []), h))
def L307_1 (r0 : DV) (n : Nat) : DV → DV → H → Ans := Nat.rec (motive := fun _ => DV → DV → H → Ans) (fun _ _ _ => none) (fun _ i => B307_1 E r0 i) n
def J307_0 (r0 : DV) (h : H) : Ans := vK (v_lenL r0) fun x1 => vK (v_sub x1 (ii 1)) fun x2 => L307_1 E r0 FUEL (ii 0) x2 h
theorem I307_1 : Is E C307_1 (blockK3 0 (retK3 D307.res)) (fun σ h => L307_1 E (σ p0) FUEL (σ p2) (σ p3) h) := Is.lp (fun n1 σ h => L307_1 E (σ p0) n1 (σ p2) (σ p3) h) fun n1 => Is.aq (Is.leaf _)
theorem I307_0 : iB1 E D307 (J307_0 E) := Is.aq (Is.sq (Is.bk (I307_1 E)) (Is.leaf _))
def S307 : Fun := fA1 (J307_0 E)
theorem S307_eq : SQ D307 S307 := eB1 I307_0
def D326 := cm 326
def C326_1 := cr (cr D326.body)
def C326_2 := cl (cr (cl (cr D326.body)))
def J326_1 (E : Env) (r2 : DV) (h : H) : Ans := some (r2, h)
def B326_2 (E : Env) (i2 : H → Ans) (h : H) : Ans := none
def L326_2 (n : Nat) : H → Ans := Nat.rec (motive := fun _ => H → Ans) (fun _ => none) (fun _ i => B326_2 E i) n
def J326_0 (E : Env) (h : H) : Ans := none
theorem I326_1 : Is E C326_1 (retK3 D326.res) (fun σ h => J326_1 E (σ p2) h) := Is.rf
abbrev K326_3 : KT2 (DV × H) := (thenK3 (fun σ h => J326_1 E (σ p2) h) (retK3 D326.res))
theorem I326_2 : Is E C326_2 (blockK3 0 (K326_3 E)) (fun σ h => L326_2 E FUEL h) := Is.lp (fun n2 σ h => L326_2 E n2 h) fun n2 => Is.aq (Is.leaf _)
theorem I326_0 : iB1 E D326 (fun _ h => J326_0 E h) := Is.aq (Is.sq (Is.sq (I326_1 E) (Is.sq (Is.bk (I326_2 E)) (Is.leaf _))) (Is.leaf _))
def S326 : Fun := fA1 (fun _ h => J326_0 E h)
theorem S326_eq : SQ D326 S326 := eB1 I326_0
def D327 := cm 327
def J327_0 (r0 : DV) (h : H) : Ans := vK (v_neq r0 (.str [])) fun x1 => gdK x1 true (fun kk => kk r0 h) h fun x2 h3 => gdK x1 true (fun kk => vK (v_ixS x2 (ii 0)) fun v => kk v h3) h3 fun x4 h5 => gdK x1 true (fun kk => vK (v_lss x4 (.int .u8 (.ofNat 128))) fun v => kk v h5) h5 fun x6 h7 => vK (v_pick x1 x6 (.bool false)) fun x8 => bK x8 (vK (v_ixS r0 (ii 0)) fun x9 => vK (v_conv .i32 x9) fun x10 => some ((.tup [x10, (ii 1)]), h7)) (wK (callK E 338 [r0] h7) fun x11 h12 => vK (v_ext 0 x11) fun x13 => vK (v_ext 1 x11) fun x14 => some ((.tup [x13, x14]), h12))
theorem I327_0 : iB1 E D327 (J327_0 E) := Is.rf
def S327 : Fun := fA1 (J327_0 E)
theorem S327_eq : SQ D327 S327 := eB1 I327_0
def D329 := cm 329
def C329_1 := cr (cr (cr (cr (cr (cr (cr (cr (cr D329.body))))))))
def C329_2 := cl (cl (cr (cr (cr (cr (cr (cr (cr (cr D329.body)))))))))
def C329_3 := cr (cl (cr (cl C329_2)))
def J329_1 (E : Env) (h : H) : Ans := some ((.int .i64 (.negSucc 0)), h)
def J329_3 (E : Env) (r0 r1 r5 r7 r8 r10 : DV) (h : H) : Ans := vK (v_add r8 (ii 1)) fun x1 => vK (v_ixS r0 x1) fun x2 => vK (v_eql x2 r7) fun x3 => gdK x3 true (fun kk => kk r0 h) h fun x4 h5 => gdK x3 true (fun kk => kk r8 h5) h5 fun x6 h7 => gdK x3 true (fun kk => kk r8 h7) h7 fun x8 h9 => gdK x3 true (fun kk => kk r5 h9) h9 fun x10 h11 => gdK x3 true (fun kk => vK (v_add x8 x10) fun v => kk v h11) h11 fun x12 h13 => gdK x3 true (fun kk => vK (v_slS x4 (some x6) (some x12)) fun v => kk v h13) h13 fun x14 h15 => gdK x3 true (fun kk => kk r1 h15) h15 fun x16 h17 => gdK x3 true (fun kk => vK (v_eql x14 x16) fun v => kk v h17) h17 fun x18 h19 => vK (v_pick x3 x18 (.bool false)) fun x20 => bK x20 (some (r8, h19)) (vK (v_add r8 (ii 1)) fun x21 => vK (v_add r10 (ii 1)) fun x22 => none)
def B329_2 (r0 r1 r5 r6 r7 r9 : DV) (i2 : DV → DV → H → Ans) (r8 r10 : DV) (h : H) : Ans := vK (v_lss r8 r9) fun x1 => bK x1 (vK (v_ixS r0 r8) fun x2 => vK (v_neq x2 r6) fun x3 => bK x3 (vK (v_add r8 (ii 1)) fun x4 => vK (v_slS r0 (some x4) (some r9)) fun x5 => wK (callK E 268 [x5, r6] h) fun x6 h7 => vK (v_lss x6 (ii 0)) fun x8 => bK x8 (some ((.int .i64 (.negSucc 0)), h7)) (vK (v_add x6 (ii 1)) fun x9 => vK (v_add r8 x9) fun x10 => J329_3 E r0 r1 r5 r7 x10 r10 h7)) (J329_3 E r0 r1 r5 r7 r8 r10 h)) (J329_1 E h)
def L329_2 (r0 r1 r5 r6 r7 r9 : DV) (n : Nat) : DV → DV → H → Ans := Nat.rec (motive := fun _ => DV → DV → H → Ans) (fun _ _ _ => none) (fun _ i => B329_2 E r0 r1 r5 r6 r7 r9 i) n
def J329_0 (r0 r1 : DV) (h : H) : Ans := vK (v_lenS r1) fun x1 => vK (v_eql x1 (ii 0)) fun x2 => gdK x2 false (fun kk => kk r1 h) h fun x3 h4 => gdK x2 false (fun kk => kk r0 h4) h4 fun x5 h6 => gdK x2 false (fun kk => vK (v_eql x3 x5) fun v => kk v h6) h6 fun x7 h8 => vK (v_pick x2 (.bool true) x7) fun x9 => bK x9 (some ((ii 0), h8)) (vK (v_eql x1 (ii 1)) fun x10 => bK x10 (vK (v_ixS r1 (ii 0)) fun x11 => wK (callK E 268 [r0, x11] h8) fun x12 h13 => some (x12, h13)) (vK (v_lenS r0) fun x14 => vK (v_geq x1 x14) fun x15 => bK x15 (some ((.int .i64 (.negSucc 0)), h8)) (none)))
theorem I329_1 : Is E C329_1 (retK3 D329.res) (fun σ h => J329_1 E h) := Is.rf
abbrev K329_4 : KT2 (DV × H) := (blockK3 1 (thenK3 (fun σ h => J329_1 E h) (retK3 D329.res)))
abbrev K329_5 (n2 : Nat) : KT2 (DV × H) := (thenK3 (fun σ h => (L329_2 E (σ p0) (σ p1) (σ p5) (σ p6) (σ p7) (σ p9) n2) (σ p8) (σ p10) h) (K329_4 E))
theorem I329_3 (n2 : Nat) : Is E C329_3 (blockK3 2 (K329_5 E n2)) (fun σ h => J329_3 E (σ p0) (σ p1) (σ p5) (σ p7) (σ p8) (σ p10) h) := Is.rf
theorem I329_2 : Is E C329_2 (K329_4 E) (fun σ h => L329_2 E (σ p0) (σ p1) (σ p5) (σ p6) (σ p7) (σ p9) FUEL (σ p8) (σ p10) h) := Is.lp (fun n2 σ h => L329_2 E (σ p0) (σ p1) (σ p5) (σ p6) (σ p7) (σ p9) n2 (σ p8) (σ p10) h) fun n2 => Is.aq (Is.sq (Is.bk (Is.sq (I329_3 E n2) (Is.leaf _))) (Is.leaf _))
theorem I329_0 : iB2 E D329 (J329_0 E) := Is.aq (Is.sq (Is.sq (Is.sq (Is.sq (Is.sq (Is.sq (Is.sq (Is.sq (Is.sq (I329_1 E) (Is.bk (I329_2 E))) (Is.leaf _)) (Is.leaf _)) (Is.leaf _)) (Is.leaf _)) (Is.leaf _)) (Is.leaf _)) (Is.leaf _)) (Is.leaf _))
def S329 : Fun := fA2 (J329_0 E)
theorem S329_eq : SQ D329 S329 := eB2 I329_0
def D338 := cm 338
def J338_0 (E : Env) (r0 : DV) (h : H) : Ans := vK (v_lenS r0) fun x1 => vK (v_lss x1 (ii 1)) fun x2 => bK x2 (some ((.tup [(.int .i32 (.ofNat 65533)), (ii 0)]), h)) (vK (v_ixS r0 (ii 0)) fun x3 => none)
theorem I338_0 : iB1 E D338 (J338_0 E) := Is.rf
def S338 : Fun := fA1 (J338_0 E)
theorem S338_eq : SQ D338 S338 := eB1 I338_0
def D340 := cm 340
def J340_0 (E : Env) (r0 : DV) (h : H) : Ans := vK (v_add r0 (ii 16)) fun x1 => vK (v_quo x1 (ii 8)) fun x2 => some (x2, h)
theorem I340_0 : iB1 E D340 (J340_0 E) := Is.rf
def S340 : Fun := fA1 (J340_0 E)
theorem S340_eq : SQ D340 S340 := eB1 I340_0
def D341 := cm 341
def C341_1 := cr (cr (cr (cr (cr D341.body))))
def C341_3 := cr (cr C341_1)
def C341_4 := cl (cr (cl (cr C341_1)))
def C341_2 := cl (cr (cl (cr (cr (cr (cr D341.body))))))
def J341_3 (E : Env) (h : H) : Ans := some ((.int .i64 (.negSucc 0)), h)
def B341_4 (r0 r1 r5 r6 r7 : DV) (i4 : DV → DV → H → Ans) (r8 r10 : DV) (h : H) : Ans := vK (v_lenS r0) fun x1 => vK (v_lss r10 x1) fun x2 => bK x2 (vK (v_mul r8 (.int .u32 (.ofNat 16777619))) fun x3 => vK (v_ixS r0 r10) fun x4 => vK (v_conv .u32 x4) fun x5 => vK (v_add x3 x5) fun x6 => vK (v_sub r10 r7) fun x7 => vK (v_ixS r0 x7) fun x8 => vK (v_conv .u32 x8) fun x9 => vK (v_mul r6 x9) fun x10 => vK (v_sub x6 x10) fun x11 => vK (v_add r10 (ii 1)) fun x12 => vK (v_eql x11 r5) fun x13 => gdK x13 true (fun kk => kk r0 h) h fun x14 h15 => gdK x13 true (fun kk => kk x12 h15) h15 fun x16 h17 => gdK x13 true (fun kk => kk r7 h17) h17 fun x18 h19 => gdK x13 true (fun kk => vK (v_sub x16 x18) fun v => kk v h19) h19 fun x20 h21 => gdK x13 true (fun kk => kk x12 h21) h21 fun x22 h23 => gdK x13 true (fun kk => vK (v_slS x14 (some x20) (some x22)) fun v => kk v h23) h23 fun x24 h25 => gdK x13 true (fun kk => kk r1 h25) h25 fun x26 h27 => gdK x13 true (fun kk => vK (v_eql x24 x26) fun v => kk v h27) h27 fun x28 h29 => vK (v_pick x13 x28 (.bool false)) fun x30 => bK x30 (vK (v_sub x12 r7) fun x31 => some (x31, h29)) (i4 x11 x12 h29)) (J341_3 E h)
def L341_4 (r0 r1 r5 r6 r7 : DV) (n : Nat) : DV → DV → H → Ans := Nat.rec (motive := fun _ => DV → DV → H → Ans) (fun _ _ _ => none) (fun _ i => B341_4 E r0 r1 r5 r6 r7 i) n
def J341_1 (r0 r1 r5 r6 r7 r8 : DV) (h : H) : Ans := vK (v_eql r8 r5) fun x1 => gdK x1 true (fun kk => kk r0 h) h fun x2 h3 => gdK x1 true (fun kk => kk r7 h3) h3 fun x4 h5 => gdK x1 true (fun kk => vK (v_slS x2 none (some x4)) fun v => kk v h5) h5 fun x6 h7 => gdK x1 true (fun kk => kk r1 h7) h7 fun x8 h9 => gdK x1 true (fun kk => vK (v_eql x6 x8) fun v => kk v h9) h9 fun x10 h11 => vK (v_pick x1 x10 (.bool false)) fun x12 => bK x12 (some ((ii 0), h11)) (L341_4 E r0 r1 r5 r6 r7 FUEL r8 r7 h11)
def B341_2 (r0 r1 r5 r6 r7 : DV) (i2 : DV → DV → H → Ans) (r8 r9 : DV) (h : H) : Ans := vK (v_lss r9 r7) fun x1 => bK x1 (vK (v_mul r8 (.int .u32 (.ofNat 16777619))) fun x2 => vK (v_ixS r0 r9) fun x3 => vK (v_conv .u32 x3) fun x4 => vK (v_add x2 x4) fun x5 => vK (v_add r9 (ii 1)) fun x6 => i2 x5 x6 h) (J341_1 E r0 r1 r5 r6 r7 r8 h)
def L341_2 (r0 r1 r5 r6 r7 : DV) (n : Nat) : DV → DV → H → Ans := Nat.rec (motive := fun _ => DV → DV → H → Ans) (fun _ _ _ => none) (fun _ i => B341_2 E r0 r1 r5 r6 r7 i) n
def J341_0 (r0 r1 : DV) (h : H) : Ans := wK (callK E 345 [r1] h) fun x1 h2 => vK (v_ext 0 x1) fun x3 => vK (v_ext 1 x1) fun x4 => vK (v_lenS r1) fun x5 => L341_2 E r0 r1 x3 x4 x5 FUEL (.int .u32 (.ofNat 0)) (ii 0) h2
theorem I341_3 : Is E C341_3 (retK3 D341.res) (fun σ h => J341_3 E h) := Is.rf
abbrev K341_5 : KT2 (DV × H) := (blockK3 2 (thenK3 (fun σ h => J341_3 E h) (retK3 D341.res)))
theorem I341_4 : Is E C341_4 (K341_5 E) (fun σ h => L341_4 E (σ p0) (σ p1) (σ p5) (σ p6) (σ p7) FUEL (σ p8) (σ p10) h) := Is.lp (fun n4 σ h => L341_4 E (σ p0) (σ p1) (σ p5) (σ p6) (σ p7) n4 (σ p8) (σ p10) h) fun n4 => Is.aq (Is.leaf _)
theorem I341_1 : Is E C341_1 (retK3 D341.res) (fun σ h => J341_1 E (σ p0) (σ p1) (σ p5) (σ p6) (σ p7) (σ p8) h) := Is.aq (Is.sq (Is.sq (I341_3 E) (Is.sq (Is.bk (I341_4 E)) (Is.leaf _))) (Is.leaf _))
abbrev K341_6 : KT2 (DV × H) := (thenK3 (fun σ h => J341_1 E (σ p0) (σ p1) (σ p5) (σ p6) (σ p7) (σ p8) h) (retK3 D341.res))
theorem I341_2 : Is E C341_2 (blockK3 0 (K341_6 E)) (fun σ h => L341_2 E (σ p0) (σ p1) (σ p5) (σ p6) (σ p7) FUEL (σ p8) (σ p9) h) := Is.lp (fun n2 σ h => L341_2 E (σ p0) (σ p1) (σ p5) (σ p6) (σ p7) n2 (σ p8) (σ p9) h) fun n2 => Is.aq (Is.leaf _)
theorem I341_0 : iB2 E D341 (J341_0 E) := Is.aq (Is.sq (Is.sq (Is.sq (Is.sq (Is.sq (I341_1 E) (Is.sq (Is.bk (I341_2 E)) (Is.leaf _))) (Is.leaf _)) (Is.leaf _)) (Is.leaf _)) (Is.leaf _))
def S341 : Fun := fA2 (J341_0 E)
theorem S341_eq : SQ D341 S341 := eB2 I341_0
def D345 := cm 345
def C345_1 := cr (cr (cr D345.body))
def C345_3 := cr (cr C345_1)
def C345_4 := cl (cr (cl (cr C345_1)))
def C345_5 := cr (cr (cl C345_4))
def C345_6 := cr (cl (cl (cr (cl C345_4))))
def C345_2 := cl (cr (cl (cr (cr D345.body))))
def J345_3 (E : Env) (r4 r6 : DV) (h : H) : Ans := some ((.tup [r4, r6]), h)
def J345_5 (E : Env) (i4 : DV → DV → DV → H → Ans) (r6 r7 r8 : DV) (h : H) : Ans := vK (v_shr r8 (.int .u64 (.ofNat 1))) fun x1 => i4 r6 r7 x1 h
def J345_6 (i4 : DV → DV → DV → H → Ans) (r6 r7 r8 : DV) (h : H) : Ans := vK (v_mul r7 r7) fun x1 => J345_5 E i4 r6 x1 r8 h
def B345_4 (r4 : DV) (i4 : DV → DV → DV → H → Ans) (r6 r7 r8 : DV) (h : H) : Ans := vK (v_gtr r8 (ii 0)) fun x1 => bK x1 (vK (v_and r8 (ii 1)) fun x2 => vK (v_neq x2 (ii 0)) fun x3 => bK x3 (vK (v_mul r6 r7) fun x4 => J345_6 E i4 x4 r7 r8 h) (J345_6 E i4 r6 r7 r8 h)) (J345_3 E r4 r6 h)
def L345_4 (r4 : DV) (n : Nat) : DV → DV → DV → H → Ans := Nat.rec (motive := fun _ => DV → DV → DV → H → Ans) (fun _ _ _ _ => none) (fun _ i => B345_4 E r4 i) n
def J345_1 (r0 r4 : DV) (h : H) : Ans := vK (v_lenS r0) fun x1 => L345_4 E r4 FUEL (.int .u32 (.ofNat 1)) (.int .u32 (.ofNat 16777619)) x1 h
def B345_2 (r0 : DV) (i2 : DV → DV → H → Ans) (r4 r5 : DV) (h : H) : Ans := vK (v_lenS r0) fun x1 => vK (v_lss r5 x1) fun x2 => bK x2 (vK (v_mul r4 (.int .u32 (.ofNat 16777619))) fun x3 => vK (v_ixS r0 r5) fun x4 => vK (v_conv .u32 x4) fun x5 => vK (v_add x3 x5) fun x6 => vK (v_add r5 (ii 1)) fun x7 => i2 x6 x7 h) (J345_1 E r0 r4 h)
def L345_2 (r0 : DV) (n : Nat) : DV → DV → H → Ans := Nat.rec (motive := fun _ => DV → DV → H → Ans) (fun _ _ _ => none) (fun _ i => B345_2 E r0 i) n
def J345_0 (r0 : DV) (h : H) : Ans := L345_2 E r0 FUEL (.int .u32 (.ofNat 0)) (ii 0) h
theorem I345_3 : Is E C345_3 (retK3 D345.res) (fun σ h => J345_3 E (σ p4) (σ p6) h) := Is.rf
abbrev K345_7 : KT2 (DV × H) := (thenK3 (fun σ h => J345_3 E (σ p4) (σ p6) h) (retK3 D345.res))
abbrev K345_8 (n4 : Nat) : KT2 (DV × H) := (thenK3 (fun σ h => (L345_4 E (σ p4) n4) (σ p6) (σ p7) (σ p8) h) (blockK3 2 (K345_7 E)))
theorem I345_5 (n4 : Nat) : Is E C345_5 (K345_8 E n4) (fun σ h => J345_5 E (L345_4 E (σ p4) n4) (σ p6) (σ p7) (σ p8) h) := Is.rf
abbrev K345_9 (n4 : Nat) : KT2 (DV × H) := (thenK3 (fun σ h => J345_5 E (L345_4 E (σ p4) n4) (σ p6) (σ p7) (σ p8) h) (K345_8 E n4))
theorem I345_6 (n4 : Nat) : Is E C345_6 (blockK3 3 (K345_9 E n4)) (fun σ h => J345_6 E (L345_4 E (σ p4) n4) (σ p6) (σ p7) (σ p8) h) := Is.rf
theorem I345_4 : Is E C345_4 (blockK3 2 (K345_7 E)) (fun σ h => L345_4 E (σ p4) FUEL (σ p6) (σ p7) (σ p8) h) := Is.lp (fun n4 σ h => L345_4 E (σ p4) n4 (σ p6) (σ p7) (σ p8) h) fun n4 => Is.aq (Is.sq (Is.sq (I345_5 E n4) (Is.bk (Is.sq (I345_6 E n4) (Is.leaf _)))) (Is.leaf _))
theorem I345_1 : Is E C345_1 (retK3 D345.res) (fun σ h => J345_1 E (σ p0) (σ p4) h) := Is.aq (Is.sq (Is.sq (I345_3 E) (Is.sq (Is.bk (I345_4 E)) (Is.leaf _))) (Is.leaf _))
abbrev K345_10 : KT2 (DV × H) := (thenK3 (fun σ h => J345_1 E (σ p0) (σ p4) h) (retK3 D345.res))
theorem I345_2 : Is E C345_2 (blockK3 0 (K345_10 E)) (fun σ h => L345_2 E (σ p0) FUEL (σ p4) (σ p5) h) := Is.lp (fun n2 σ h => L345_2 E (σ p0) n2 (σ p4) (σ p5) h) fun n2 => Is.aq (Is.leaf _)
theorem I345_0 : iB1 E D345 (J345_0 E) := Is.aq (Is.sq (Is.sq (Is.sq (I345_1 E) (Is.sq (Is.bk (I345_2 E)) (Is.leaf _))) (Is.leaf _)) (Is.leaf _))
def S345 : Fun := fA1 (J345_0 E)
theorem S345_eq : SQ D345 S345 := eB1 I345_0
def fs1 : List FD := [⟨180, D180, S180⟩, ⟨190, D190, S190⟩, ⟨191, D191, S191⟩, ⟨192, D192, S192⟩, ⟨193, D193, S193⟩, ⟨196, D196, S196⟩, ⟨197, D197, S197⟩, ⟨198, D198, S198⟩, ⟨199, D199, S199⟩, ⟨200, D200, S200⟩, ⟨203, D203, S203⟩, ⟨204, D204, S204⟩, ⟨205, D205, S205⟩, ⟨207, D207, S207⟩, ⟨210, D210, S210⟩, ⟨211, D211, S211⟩, ⟨212, D212, S212⟩, ⟨220, D220, S220⟩, ⟨221, D221, S221⟩, ⟨222, D222, S222⟩, ⟨223, D223, S223⟩, ⟨224, D224, S224⟩, ⟨235, D235, S235⟩, ⟨236, D236, S236⟩, ⟨237, D237, S237⟩, ⟨238, D238, S238⟩, ⟨239, D239, S239⟩, ⟨241, D241, S241⟩, ⟨243, D243, S243⟩, ⟨250, D250, S250⟩, ⟨267, D267, S267⟩, ⟨268, D268, S268⟩, ⟨269, D269, S269⟩, ⟨276, D276, S276⟩, ⟨303, D303, S303⟩, ⟨304, D304, S304⟩, ⟨305, D305, S305⟩, ⟨307, D307, S307⟩, ⟨326, D326, S326⟩, ⟨327, D327, S327⟩, ⟨329, D329, S329⟩, ⟨338, D338, S338⟩, ⟨340, D340, S340⟩, ⟨341, D341, S341⟩, ⟨345, D345, S345⟩]
theorem fs1_eq : AllEq fs1 := ⟨S180_eq, ⟨S190_eq, ⟨S191_eq, ⟨S192_eq, ⟨S193_eq, ⟨S196_eq, ⟨S197_eq, ⟨S198_eq, ⟨S199_eq, ⟨S200_eq, ⟨S203_eq, ⟨S204_eq, ⟨S205_eq, ⟨S207_eq, ⟨S210_eq, ⟨S211_eq, ⟨S212_eq, ⟨S220_eq, ⟨S221_eq, ⟨S222_eq, ⟨S223_eq, ⟨S224_eq, ⟨S235_eq, ⟨S236_eq, ⟨S237_eq, ⟨S238_eq, ⟨S239_eq, ⟨S241_eq, ⟨S243_eq, ⟨S250_eq, ⟨S267_eq, ⟨S268_eq, ⟨S269_eq, ⟨S276_eq, ⟨S303_eq, ⟨S304_eq, ⟨S305_eq, ⟨S307_eq, ⟨S326_eq, ⟨S327_eq, ⟨S329_eq, ⟨S338_eq, ⟨S340_eq, ⟨S341_eq, ⟨S345_eq, trivial⟩⟩⟩⟩⟩⟩⟩⟩⟩⟩⟩⟩⟩⟩⟩⟩⟩⟩⟩⟩⟩⟩⟩⟩⟩⟩⟩⟩⟩⟩⟩⟩⟩⟩⟩⟩⟩⟩⟩⟩⟩⟩⟩⟩⟩
end Go.Proofs.YtlofaapaahpjfaaGreatDoor
end

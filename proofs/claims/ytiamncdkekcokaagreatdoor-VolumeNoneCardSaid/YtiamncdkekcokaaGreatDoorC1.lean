/- More of the program's functions. No condition. -/
import Derived.Test.YtiamncdkekcokaaGreatDoorC0
set_option linter.unusedVariables false
noncomputable section
namespace Go.Proofs.YtiamncdkekcokaaGreatDoor
open Go.DI
variable (E : Env)
def D139 := cm 139
def C139_1 := cr (cr (cr D139.body))
def C139_2 := cl (cr (cl (cr (cr D139.body))))
def C139_3 := cr (cr (cr (cl C139_2)))
def J139_1 (E : Env) (r6 : DV) (h : H) : Ans := some ((.tup [r6, (.bool true)]), h)
def J139_3 (E : Env) (i2 : DV → DV → H → Ans) (r7 r14 : DV) (h : H) : Ans := vK (v_add r14 (ii 1)) fun x1 => i2 r7 x1 h
def B139_2 (r1 r6 r12 r13 : DV) (i2 : DV → DV → H → Ans) (r7 r14 : DV) (h : H) : Ans := vK (v_lss r14 r13) fun x1 => bK x1 (vK (v_iaS 1 r12 r14) fun x2 => vK (v_ld h.get x2) fun x3 => vK (v_eql r14 r1) fun x4 => bK x4 (J139_3 E i2 r7 r14 h) (wK (callK E 196 [r6, x3, r7] h) fun x5 h6 => vK (v_not x5) fun x7 => bK x7 (some ((.tup [.nilp, (.bool false)]), h6)) (J139_3 E i2 (.bool false) r14 h6))) (J139_1 E r6 h)
def L139_2 (r1 r6 r12 r13 : DV) (n : Nat) : DV → DV → H → Ans := Nat.rec (motive := fun _ => DV → DV → H → Ans) (fun _ _ _ => none) (fun _ i => B139_2 E r1 r6 r12 r13 i) n
def J139_0 (r0 r1 : DV) (h : H) : Ans := vK (v_bld (zR [(.int .u8 (.ofNat 0))] 512 ++ [(ii 0)]) []) fun x1 => n_box x1 h fun x2 h3 => vK (v_lenL r0) fun x4 => L139_2 E r1 x2 r0 x4 FUEL (.bool true) (ii 0) h3
theorem I139_1 : Is E C139_1 (retK3 D139.res) (fun σ h => J139_1 E (σ p6) h) := Is.rf
abbrev K139_4 : KT2 (DV × H) := (thenK3 (fun σ h => J139_1 E (σ p6) h) (retK3 D139.res))
abbrev K139_5 (n2 : Nat) : KT2 (DV × H) := (thenK3 (fun σ h => (L139_2 E (σ p1) (σ p6) (σ p12) (σ p13) n2) (σ p7) (σ p14) h) (blockK3 0 (K139_4 E)))
theorem I139_3 (n2 : Nat) : Is E C139_3 (K139_5 E n2) (fun σ h => J139_3 E (L139_2 E (σ p1) (σ p6) (σ p12) (σ p13) n2) (σ p7) (σ p14) h) := Is.rf
theorem I139_2 : Is E C139_2 (blockK3 0 (K139_4 E)) (fun σ h => L139_2 E (σ p1) (σ p6) (σ p12) (σ p13) FUEL (σ p7) (σ p14) h) := Is.lp (fun n2 σ h => L139_2 E (σ p1) (σ p6) (σ p12) (σ p13) n2 (σ p7) (σ p14) h) fun n2 => Is.aq (Is.sq (Is.sq (Is.sq (I139_3 E n2) (Is.leaf _)) (Is.leaf _)) (Is.leaf _))
theorem I139_0 : iB2 E D139 (J139_0 E) := Is.aq (Is.sq (Is.sq (Is.sq (I139_1 E) (Is.sq (Is.bk (I139_2 E)) (Is.leaf _))) (Is.leaf _)) (Is.leaf _))
def S139 : Fun := fA2 (J139_0 E)
theorem S139_eq : SQ D139 S139 := eB2 I139_0
def D140 := cm 140
def J140_0 (E : Env) (r0 : DV) (h : H) : Ans := vK (v_nilchk r0) fun x1 => vK (v_fa 0 x1) fun x2 => vK (v_nilchk r0) fun x3 => vK (v_fa 512 x3) fun x4 => vK (v_ld h.get x4) fun x5 => vK (v_slA 512 1 x2 none (some x5)) fun x6 => vK (v_b2s h.get x6) fun x7 => some (x7, h)
theorem I140_0 : iB1 E D140 (J140_0 E) := Is.rf
def S140 : Fun := fA1 (J140_0 E)
theorem S140_eq : SQ D140 S140 := eB1 I140_0
def D141 := cm 141
def J141_0 (r0 r1 r2 : DV) (h : H) : Ans := vK (v_nilchk r0) fun x1 => vK (v_fa 1 x1) fun x2 => vK (v_ld h.get x2) fun x3 => wK (callK E 149 [x3, r1] h) fun x4 h5 => vK (v_ext 0 x4) fun x6 => vK (v_ext 1 x4) fun x7 => n_alc 6 6 (.list [(ii 0), (ii 0), (ii 0), (ii 0), (ii 0), .nils]) h5 fun x8 h9 => wK (dStF 6 x8 x6 h9) fun x10 h11 => vK (v_not x7) fun x12 => bK x12 (some ((.tup [(ii 0), (.bool false)]), h11)) (vK (v_fa 5 x8) fun x13 => vK (v_ld h11.get x13) fun x14 => wK (callK E 197 [x14, r1, r2] h11) fun x15 h16 => vK (v_ext 0 x15) fun x17 => vK (v_ext 1 x15) fun x18 => vK (v_eql x18 (ii 0)) fun x19 => some ((.tup [x17, x19]), h16))
theorem I141_0 : iB3 E D141 (J141_0 E) := Is.rf
def S141 : Fun := fA3 (J141_0 E)
theorem S141_eq : SQ D141 S141 := eB3 I141_0
def D142 := cm 142
def J142_0 (E : Env) (r2 : DV) (h : H) : Ans := n_box r2 h fun x1 h2 => n_alc 1 1 (.list [(ii 0)]) h2 fun x3 h4 => none
theorem I142_0 : iB4 E D142 (fun _ _ r2 _ h => J142_0 E r2 h) := Is.rf
def S142 : Fun := fA4 (fun _ _ r2 _ h => J142_0 E r2 h)
theorem S142_eq : SQ D142 S142 := eB4 I142_0
def D143 := cm 143
def J143_0 (E : Env) (r2 : DV) (h : H) : Ans := n_box r2 h fun x1 h2 => n_alc 1 1 (.list [(ii 0)]) h2 fun x3 h4 => none
theorem I143_0 : iB3 E D143 (fun _ _ r2 h => J143_0 E r2 h) := Is.rf
def S143 : Fun := fA3 (fun _ _ r2 h => J143_0 E r2 h)
theorem S143_eq : SQ D143 S143 := eB3 I143_0
def D144 := cm 144
def J144_0 (E : Env) (r0 : DV) (h : H) : Ans := vK (v_lss r0 (ii 0)) fun x1 => bK x1 (some ((ii 0), h)) (vK (v_mn r0 (ii 100000)) fun x2 => vK (v_mul (ii 28) x2) fun x3 => vK (v_add (ii 9) x3) fun x4 => some (x4, h))
theorem I144_0 : iB1 E D144 (J144_0 E) := Is.rf
def S144 : Fun := fA1 (J144_0 E)
theorem S144_eq : SQ D144 S144 := eB1 I144_0
def D145 := cm 145
def J145_0 (E : Env) (r0 : DV) (h : H) : Ans := vK (v_conv .u8 r0) fun x1 => vK (v_shr r0 (.int .u64 (.ofNat 8))) fun x2 => vK (v_conv .u8 x2) fun x3 => vK (v_shr r0 (.int .u64 (.ofNat 16))) fun x4 => vK (v_conv .u8 x4) fun x5 => vK (v_shr r0 (.int .u64 (.ofNat 24))) fun x6 => vK (v_conv .u8 x6) fun x7 => n_bsl 4 1 [(.int .u8 (.ofNat 0))] [(0, 1, x1), (1, 1, x3), (2, 1, x5), (3, 1, x7)] h fun x8 h9 => vK (v_b2s h9.get x8) fun x10 => some (x10, h9)
theorem I145_0 : iB1 E D145 (J145_0 E) := Is.rf
def S145 : Fun := fA1 (J145_0 E)
theorem S145_eq : SQ D145 S145 := eB1 I145_0
def D146 := cm 146
def J146_0 (r0 : DV) (h : H) : Ans := wK (callK E 204 [(.int .u32 (.ofNat 0)), r0] h) fun x1 h2 => some (x1, h2)
theorem I146_0 : iB1 E D146 (J146_0 E) := Is.rf
def S146 : Fun := fA1 (J146_0 E)
theorem S146_eq : SQ D146 S146 := eB1 I146_0
def D147 := cm 147
def C147_1 := cr (cr (cr D147.body))
def C147_2 := cl (cr (cl (cr (cl (cr (cr D147.body))))))
def C147_3 := cr (cr (cr (cl C147_2)))
def J147_1 (E : Env) (r5 : DV) (h : H) : Ans := some (r5, h)
def J147_3 (E : Env) (i2 : DV → DV → H → Ans) (r5 r15 : DV) (h : H) : Ans := vK (v_add r15 (ii 1)) fun x1 => i2 r5 x1 h
def B147_2 (r1 r13 r14 : DV) (i2 : DV → DV → H → Ans) (r5 r15 : DV) (h : H) : Ans := vK (v_lss r15 r14) fun x1 => bK x1 (vK (v_iaS 6 r13 r15) fun x2 => vK (v_ldN 6 h.get x2) fun x3 => n_alc 6 6 (.list [(ii 0), (ii 0), (ii 0), (ii 0), (ii 0), .nils]) h fun x4 h5 => wK (dStF 6 x4 x3 h5) fun x6 h7 => vK (v_ldN 6 h7.get x4) fun x8 => wK (c_val E r1 [x8] h7) fun x9 h10 => bK x9 (vK (v_fa 0 x4) fun x11 => vK (v_ld h10.get x11) fun x12 => n_bsl 1 1 [(ii 0)] [(0, 1, x12)] h10 fun x13 h14 => wK (dAppendF 1 8 r5 x13 h14) fun x15 h16 => J147_3 E i2 x15 r15 h16) (J147_3 E i2 r5 r15 h10)) (J147_1 E r5 h)
def L147_2 (r1 r13 r14 : DV) (n : Nat) : DV → DV → H → Ans := Nat.rec (motive := fun _ => DV → DV → H → Ans) (fun _ _ _ => none) (fun _ i => B147_2 E r1 r13 r14 i) n
def J147_0 (r0 r1 : DV) (h : H) : Ans := vK (v_eqv .ptr true h.get r0 .nilp) fun x1 => bK x1 (vK (v_nilchk r0) fun x2 => vK (v_fa 0 x2) fun x3 => vK (v_ld h.get x3) fun x4 => vK (v_lenL x4) fun x5 => L147_2 E r1 x4 x5 FUEL .nils (ii 0) h) (J147_1 E .nils h)
theorem I147_1 : Is E C147_1 (retK3 D147.res) (fun σ h => J147_1 E (σ p5) h) := Is.rf
abbrev K147_4 : KT2 (DV × H) := (thenK3 (fun σ h => J147_1 E (σ p5) h) (retK3 D147.res))
abbrev K147_5 (n2 : Nat) : KT2 (DV × H) := (thenK3 (fun σ h => (L147_2 E (σ p1) (σ p13) (σ p14) n2) (σ p5) (σ p15) h) (blockK3 0 (K147_4 E)))
theorem I147_3 (n2 : Nat) : Is E C147_3 (K147_5 E n2) (fun σ h => J147_3 E (L147_2 E (σ p1) (σ p13) (σ p14) n2) (σ p5) (σ p15) h) := Is.rf
theorem I147_2 : Is E C147_2 (blockK3 0 (K147_4 E)) (fun σ h => L147_2 E (σ p1) (σ p13) (σ p14) FUEL (σ p5) (σ p15) h) := Is.lp (fun n2 σ h => L147_2 E (σ p1) (σ p13) (σ p14) n2 (σ p5) (σ p15) h) fun n2 => Is.aq (Is.sq (Is.sq (Is.sq (I147_3 E n2) (Is.leaf _)) (Is.leaf _)) (Is.leaf _))
theorem I147_0 : iB2 E D147 (J147_0 E) := Is.aq (Is.sq (Is.sq (Is.sq (I147_1 E) (Is.sq (Is.cd (Is.sq (Is.bk (I147_2 E)) (Is.leaf _)) (Is.leaf _)) (Is.leaf _))) (Is.leaf _)) (Is.leaf _))
def S147 : Fun := fA2 (J147_0 E)
theorem S147_eq : SQ D147 S147 := eB2 I147_0
def D148 := cm 148
def J148_0 (E : Env) (r0 r1 : DV) (h : H) : Ans := n_box r0 h fun x1 h2 => vK (v_fa 1 x1) fun x3 => vK (v_ld h2.get x3) fun x4 => vK (v_ld h2.get r1) fun x5 => vK (v_eql x4 x5) fun x6 => some (x6, h2)
theorem I148_0 : iB2 E D148 (J148_0 E) := Is.rf
def S148 : Fun := fA2 (J148_0 E)
theorem S148_eq : SQ D148 S148 := eB2 I148_0
def D149 := cm 149
def J149_0 (r0 r1 : DV) (h : H) : Ans := n_alc 6 6 (.list [(ii 0), (ii 0), (ii 0), (ii 0), (ii 0), .nils]) h fun x1 h2 => vK (v_eqv .ptr false h2.get r0 .nilp) fun x3 => bK x3 (vK (v_bld [(ii 0), (ii 0), (ii 0), (ii 0), (ii 0), .nils] []) fun x4 => wK (dStF 6 x1 x4 h2) fun x5 h6 => vK (v_ldN 6 h6.get x1) fun x7 => some ((.tup [x7, (.bool false)]), h6)) (vK (v_nilchk r0) fun x8 => vK (v_fa 1 x8) fun x9 => vK (v_ld h2.get x9) fun x10 => wK (callK E 205 [x10, r1] h2) fun x11 h12 => vK (v_ext 0 x11) fun x13 => vK (v_ext 1 x11) fun x14 => wK (dStF 6 x1 x13 h12) fun x15 h16 => vK (v_ldN 6 h16.get x1) fun x17 => some ((.tup [x17, x14]), h16))
theorem I149_0 : iB2 E D149 (J149_0 E) := Is.rf
def S149 : Fun := fA2 (J149_0 E)
theorem S149_eq : SQ D149 S149 := eB2 I149_0
def D150 := cm 150
def C150_1 := cr (cr (cr D150.body))
def C150_2 := cl (cr (cl (cr (cr D150.body))))
def C150_3 := cr (cr (cr (cl C150_2)))
def J150_1 (E : Env) (r3 : DV) (h : H) : Ans := some (r3, h)
def J150_3 (E : Env) (i2 : DV → DV → H → Ans) (r3 r10 : DV) (h : H) : Ans := vK (v_add r10 (ii 1)) fun x1 => i2 r3 x1 h
def B150_2 (r0 r9 : DV) (i2 : DV → DV → H → Ans) (r3 r10 : DV) (h : H) : Ans := vK (v_lss r10 r9) fun x1 => bK x1 (wK (callK E 206 [r0, r10] h) fun x2 h3 => vK (v_not x2) fun x4 => bK x4 (n_bsl 1 1 [(ii 0)] [(0, 1, r10)] h3 fun x5 h6 => wK (dAppendF 1 8 r3 x5 h6) fun x7 h8 => J150_3 E i2 x7 r10 h8) (J150_3 E i2 r3 r10 h3)) (J150_1 E r3 h)
def L150_2 (r0 r9 : DV) (n : Nat) : DV → DV → H → Ans := Nat.rec (motive := fun _ => DV → DV → H → Ans) (fun _ _ _ => none) (fun _ i => B150_2 E r0 r9 i) n
def J150_0 (r0 : DV) (h : H) : Ans := vK (v_nilchk r0) fun x1 => vK (v_fa 8 x1) fun x2 => vK (v_ld h.get x2) fun x3 => vK (v_lenL x3) fun x4 => L150_2 E r0 x4 FUEL .nils (ii 0) h
theorem I150_1 : Is E C150_1 (retK3 D150.res) (fun σ h => J150_1 E (σ p3) h) := Is.rf
abbrev K150_4 : KT2 (DV × H) := (thenK3 (fun σ h => J150_1 E (σ p3) h) (retK3 D150.res))
abbrev K150_5 (n2 : Nat) : KT2 (DV × H) := (thenK3 (fun σ h => (L150_2 E (σ p0) (σ p9) n2) (σ p3) (σ p10) h) (blockK3 0 (K150_4 E)))
theorem I150_3 (n2 : Nat) : Is E C150_3 (K150_5 E n2) (fun σ h => J150_3 E (L150_2 E (σ p0) (σ p9) n2) (σ p3) (σ p10) h) := Is.rf
theorem I150_2 : Is E C150_2 (blockK3 0 (K150_4 E)) (fun σ h => L150_2 E (σ p0) (σ p9) FUEL (σ p3) (σ p10) h) := Is.lp (fun n2 σ h => L150_2 E (σ p0) (σ p9) n2 (σ p3) (σ p10) h) fun n2 => Is.aq (Is.sq (Is.sq (Is.sq (I150_3 E n2) (Is.leaf _)) (Is.leaf _)) (Is.leaf _))
theorem I150_0 : iB1 E D150 (J150_0 E) := Is.aq (Is.sq (Is.sq (Is.sq (I150_1 E) (Is.sq (Is.bk (I150_2 E)) (Is.leaf _))) (Is.leaf _)) (Is.leaf _))
def S150 : Fun := fA1 (J150_0 E)
theorem S150_eq : SQ D150 S150 := eB1 I150_0
def D152 := cm 152
def C152_1 := cr (cr (cr (cr (cr (cr D152.body)))))
def C152_2 := cl (cr (cl (cr (cr (cr (cr (cr D152.body)))))))
def J152_1 (E : Env) (r1 r7 : DV) (h : H) : Ans := vK (v_slL 1 r7 none (some r1)) fun x1 => vK (v_b2s h.get x1) fun x2 => some ((.tup [x2, (ii 0)]), h)
def B152_2 (r1 r6 r33 r34 : DV) (i2 : DV → DV → H → Ans) (r7 r35 : DV) (h : H) : Ans := vK (v_lss r35 r34) fun x1 => bK x1 (vK (v_iaS 1 r33 r35) fun x2 => vK (v_ld h.get x2) fun x3 => vK (v_lenS x3) fun x4 => vK (v_neq x4 r6) fun x5 => bK x5 (some ((.tup [(.str []), (ii 2)]), h)) (wK (dAppendF 1 1 r7 x3 h) fun x6 h7 => vK (v_add r35 (ii 1)) fun x8 => i2 x6 x8 h7)) (J152_1 E r1 r7 h)
def L152_2 (r1 r6 r33 r34 : DV) (n : Nat) : DV → DV → H → Ans := Nat.rec (motive := fun _ => DV → DV → H → Ans) (fun _ _ _ => none) (fun _ i => B152_2 E r1 r6 r33 r34 i) n
def J152_0 (r0 r1 : DV) (h : H) : Ans := vK (v_lenL r0) fun x1 => wK (callK E 136 [x1] h) fun x2 h3 => vK (v_not x2) fun x4 => bK x4 (some ((.tup [(.str []), (ii 1)]), h3)) (vK (v_lenL r0) fun x5 => wK (callK E 137 [r1, x5] h3) fun x6 h7 => vK (v_lss r1 (ii 0)) fun x8 => gdK x8 false (fun kk => kk r1 h7) h7 fun x9 h10 => gdK x8 false (fun kk => vK (v_gtr x9 (ii 65536)) fun v => kk v h10) h10 fun x11 h12 => vK (v_pick x8 (.bool true) x11) fun x13 => gdK x13 false (fun kk => kk x6 h12) h12 fun x14 h15 => gdK x13 false (fun kk => vK (v_gtr x14 (ii 512)) fun v => kk v h15) h15 fun x16 h17 => vK (v_pick x13 (.bool true) x16) fun x18 => bK x18 (some ((.tup [(.str []), (ii 2)]), h17)) (vK (v_lenL r0) fun x19 => vK (v_mul x6 x19) fun x20 => n_mks 1 1 (.int .u8 (.ofNat 0)) (ii 0) x20 h17 fun x21 h22 => vK (v_lenL r0) fun x23 => L152_2 E r1 x6 r0 x23 FUEL x21 (ii 0) h22))
theorem I152_1 : Is E C152_1 (retK3 D152.res) (fun σ h => J152_1 E (σ p1) (σ p7) h) := Is.rf
abbrev K152_3 : KT2 (DV × H) := (thenK3 (fun σ h => J152_1 E (σ p1) (σ p7) h) (retK3 D152.res))
theorem I152_2 : Is E C152_2 (blockK3 0 (K152_3 E)) (fun σ h => L152_2 E (σ p1) (σ p6) (σ p33) (σ p34) FUEL (σ p7) (σ p35) h) := Is.lp (fun n2 σ h => L152_2 E (σ p1) (σ p6) (σ p33) (σ p34) n2 (σ p7) (σ p35) h) fun n2 => Is.aq (Is.leaf _)
theorem I152_0 : iB2 E D152 (J152_0 E) := Is.aq (Is.sq (Is.sq (Is.sq (Is.sq (Is.sq (Is.sq (I152_1 E) (Is.sq (Is.bk (I152_2 E)) (Is.leaf _))) (Is.leaf _)) (Is.leaf _)) (Is.leaf _)) (Is.leaf _)) (Is.leaf _))
def S152 : Fun := fA2 (J152_0 E)
theorem S152_eq : SQ D152 S152 := eB2 I152_0
def D153 := cm 153
def J153_0 (r0 : DV) (h : H) : Ans := vK (v_lenS r0) fun x1 => vK (v_sub x1 (ii 4)) fun x2 => vK (v_lss x2 (ii 0)) fun x3 => bK x3 (some ((.tup [(.str []), (ii 2)]), h)) (vK (v_slS r0 none (some x2)) fun x4 => vK (v_slS r0 (some x2) none) fun x5 => wK (callK E 146 [x4] h) fun x6 h7 => wK (callK E 145 [x6] h7) fun x8 h9 => vK (v_neq x8 x5) fun x10 => bK x10 (some ((.tup [(.str []), (ii 4)]), h9)) (vK (v_slS r0 none (some x2)) fun x11 => some ((.tup [x11, (ii 0)]), h9)))
theorem I153_0 : iB1 E D153 (J153_0 E) := Is.rf
def S153 : Fun := fA1 (J153_0 E)
theorem S153_eq : SQ D153 S153 := eB1 I153_0
def D154 := cm 154
def J154_0 (E : Env) (r0 : DV) (h : H) : Ans := vK (v_lenS r0) fun x1 => vK (v_sub x1 (ii 4)) fun x2 => vK (v_lss x2 (ii 0)) fun x3 => bK x3 (some ((.tup [(.str []), (.str []), (.bool false)]), h)) (vK (v_slS r0 (some x2) none) fun x4 => vK (v_ixS x4 (ii 0)) fun x5 => vK (v_conv .i64 x5) fun x6 => vK (v_ixS x4 (ii 1)) fun x7 => vK (v_conv .i64 x7) fun x8 => vK (v_shl x8 (.int .u64 (.ofNat 8))) fun x9 => vK (v_or x6 x9) fun x10 => vK (v_ixS x4 (ii 2)) fun x11 => vK (v_conv .i64 x11) fun x12 => vK (v_shl x12 (.int .u64 (.ofNat 16))) fun x13 => vK (v_or x10 x13) fun x14 => vK (v_ixS x4 (ii 3)) fun x15 => vK (v_conv .i64 x15) fun x16 => vK (v_shl x16 (.int .u64 (.ofNat 24))) fun x17 => vK (v_or x14 x17) fun x18 => vK (v_gtr x18 x2) fun x19 => bK x19 (some ((.tup [(.str []), (.str []), (.bool false)]), h)) (vK (v_sub x2 x18) fun x20 => vK (v_slS r0 none (some x20)) fun x21 => vK (v_sub x2 x18) fun x22 => vK (v_slS r0 (some x22) (some x2)) fun x23 => some ((.tup [x21, x23, (.bool true)]), h)))
theorem I154_0 : iB1 E D154 (J154_0 E) := Is.rf
def S154 : Fun := fA1 (J154_0 E)
theorem S154_eq : SQ D154 S154 := eB1 I154_0
def D155 := cm 155
def J155_0 (E : Env) (r0 : DV) (h : H) : Ans := vK (v_eqv .ptr false h.get r0 .nilp) fun x1 => bK x1 (some ((ii 0), h)) (vK (v_nilchk r0) fun x2 => vK (v_fa 0 x2) fun x3 => vK (v_ld h.get x3) fun x4 => vK (v_lenS x4) fun x5 => some (x5, h))
theorem I155_0 : iB1 E D155 (J155_0 E) := Is.rf
def S155 : Fun := fA1 (J155_0 E)
theorem S155_eq : SQ D155 S155 := eB1 I155_0
def D156 := cm 156
def C156_1 := cl (cr D156.body)
def C156_2 := cr (cr (cl C156_1))
def C156_3 := cl (cr (cl (cl (cr (cl C156_1)))))
def J156_2 (E : Env) (i1 : DV → H → Ans) (r8 : DV) (h : H) : Ans := vK (v_add r8 (ii 1)) fun x1 => i1 x1 h
def B156_3 (i1 : DV → H → Ans) (r0 r1 r3 r8 : DV) (i3 : DV → H → Ans) (r9 : DV) (h : H) : Ans := vK (v_gtr r9 r1) fun x1 => gdK x1 true (fun kk => kk r3 h) h fun x2 h3 => gdK x1 true (fun kk => kk r0 h3) h3 fun x4 h5 => gdK x1 true (fun kk => kk r9 h5) h5 fun x6 h7 => gdK x1 true (fun kk => vK (v_iaS 5 x4 x6) fun v => kk v h7) h7 fun x8 h9 => gdK x1 true (fun kk => vK (v_ldN 5 h9.get x8) fun v => kk v h9) h9 fun x10 h11 => gdK x1 true (fun kk => kk r0 h11) h11 fun x12 h13 => gdK x1 true (fun kk => kk r9 h13) h13 fun x14 h15 => gdK x1 true (fun kk => vK (v_sub x14 (ii 1)) fun v => kk v h15) h15 fun x16 h17 => gdK x1 true (fun kk => vK (v_iaS 5 x12 x16) fun v => kk v h17) h17 fun x18 h19 => gdK x1 true (fun kk => vK (v_ldN 5 h19.get x18) fun v => kk v h19) h19 fun x20 h21 => gdK x1 true (fun kk => wK (c_val E x2 [x10, x20] h21) kk) h21 fun x22 h23 => gdK x1 true (fun kk => vK (v_lss x22 (ii 0)) fun v => kk v h23) h23 fun x24 h25 => vK (v_pick x1 x24 (.bool false)) fun x26 => bK x26 (vK (v_sub r9 (ii 1)) fun x27 => vK (v_sub r9 (ii 1)) fun x28 => vK (v_iaS 5 r0 x28) fun x29 => vK (v_ldN 5 h25.get x29) fun x30 => vK (v_iaS 5 r0 r9) fun x31 => vK (v_ldN 5 h25.get x31) fun x32 => vK (v_iaS 5 r0 r9) fun x33 => wK (dStF 5 x33 x30 h25) fun x34 h35 => vK (v_iaS 5 r0 x27) fun x36 => wK (dStF 5 x36 x32 h35) fun x37 h38 => vK (v_sub r9 (ii 1)) fun x39 => i3 x39 h38) (J156_2 E i1 r8 h25)
def L156_3 (i1 : DV → H → Ans) (r0 r1 r3 r8 : DV) (n : Nat) : DV → H → Ans := Nat.rec (motive := fun _ => DV → H → Ans) (fun _ _ => none) (fun _ i => B156_3 E i1 r0 r1 r3 r8 i) n
def B156_1 (r0 r1 r2 r3 : DV) (i1 : DV → H → Ans) (r8 : DV) (h : H) : Ans := vK (v_lss r8 r2) fun x1 => bK x1 (L156_3 E i1 r0 r1 r3 r8 FUEL r8 h) (some ((.tup []), h))
def L156_1 (r0 r1 r2 r3 : DV) (n : Nat) : DV → H → Ans := Nat.rec (motive := fun _ => DV → H → Ans) (fun _ _ => none) (fun _ i => B156_1 E r0 r1 r2 r3 i) n
def J156_0 (r0 r1 r2 r3 : DV) (h : H) : Ans := vK (v_add r1 (ii 1)) fun x1 => L156_1 E r0 r1 r2 r3 FUEL x1 h
abbrev K156_4 (n1 : Nat) : KT2 (DV × H) := (thenK3 (fun σ h => (L156_1 E (σ p0) (σ p1) (σ p2) (σ p3) n1) (σ p8) h) (blockK3 0 (retK3 D156.res)))
theorem I156_2 (n1 : Nat) : Is E C156_2 (K156_4 E n1) (fun σ h => J156_2 E (L156_1 E (σ p0) (σ p1) (σ p2) (σ p3) n1) (σ p8) h) := Is.rf
abbrev K156_5 (n1 : Nat) : KT2 (DV × H) := (thenK3 (fun σ h => J156_2 E (L156_1 E (σ p0) (σ p1) (σ p2) (σ p3) n1) (σ p8) h) (K156_4 E n1))
theorem I156_3 (n1 : Nat) : Is E C156_3 (blockK3 2 (blockK3 1 (K156_5 E n1))) (fun σ h => L156_3 E (L156_1 E (σ p0) (σ p1) (σ p2) (σ p3) n1) (σ p0) (σ p1) (σ p3) (σ p8) FUEL (σ p9) h) := Is.lp (fun n3 σ h => L156_3 E (L156_1 E (σ p0) (σ p1) (σ p2) (σ p3) n1) (σ p0) (σ p1) (σ p3) (σ p8) n3 (σ p9) h) fun n3 => Is.aq (Is.leaf _)
theorem I156_1 : Is E C156_1 (blockK3 0 (retK3 D156.res)) (fun σ h => L156_1 E (σ p0) (σ p1) (σ p2) (σ p3) FUEL (σ p8) h) := Is.lp (fun n1 σ h => L156_1 E (σ p0) (σ p1) (σ p2) (σ p3) n1 (σ p8) h) fun n1 => Is.aq (Is.sq (Is.sq (I156_2 E n1) (Is.bk (Is.sq (Is.bk (I156_3 E n1)) (Is.leaf _)))) (Is.leaf _))
theorem I156_0 : iB4 E D156 (J156_0 E) := Is.aq (Is.sq (Is.bk (I156_1 E)) (Is.leaf _))
def S156 : Fun := fA4 (J156_0 E)
theorem S156_eq : SQ D156 S156 := eB4 I156_0
def D157 := cm 157
def C157_1 := cr (cr (cr (cr D157.body)))
def C157_3 := cl (cr C157_1)
def C157_2 := cl (cr (cl (cr (cr (cr D157.body)))))
def B157_3 (r0 r3 r8 r9 : DV) (i3 : DV → H → Ans) (r12 : DV) (h : H) : Ans := vK (v_geq r12 (ii 0)) fun x1 => bK x1 (vK (v_add r8 r12) fun x2 => vK (v_add r8 r12) fun x3 => vK (v_iaS 5 r0 x3) fun x4 => vK (v_ldN 5 h.get x4) fun x5 => vK (v_iaS 5 r0 r8) fun x6 => vK (v_ldN 5 h.get x6) fun x7 => vK (v_iaS 5 r0 r8) fun x8 => wK (dStF 5 x8 x5 h) fun x9 h10 => vK (v_iaS 5 r0 x2) fun x11 => wK (dStF 5 x11 x7 h10) fun x12 h13 => wK (callK E 207 [r0, r9, r12, r8, r3] h13) fun x14 h15 => vK (v_sub r12 (ii 1)) fun x16 => i3 x16 h15) (some ((.tup []), h))
def L157_3 (r0 r3 r8 r9 : DV) (n : Nat) : DV → H → Ans := Nat.rec (motive := fun _ => DV → H → Ans) (fun _ _ => none) (fun _ i => B157_3 E r0 r3 r8 r9 i) n
def J157_1 (r0 r3 r8 r9 r10 : DV) (h : H) : Ans := vK (v_sub r10 (ii 1)) fun x1 => L157_3 E r0 r3 r8 r9 FUEL x1 h
def B157_2 (r0 r3 r8 r9 r10 : DV) (i2 : DV → H → Ans) (r11 : DV) (h : H) : Ans := vK (v_geq r11 (ii 0)) fun x1 => bK x1 (wK (callK E 207 [r0, r11, r10, r8, r3] h) fun x2 h3 => vK (v_sub r11 (ii 1)) fun x4 => i2 x4 h3) (J157_1 E r0 r3 r8 r9 r10 h)
def L157_2 (r0 r3 r8 r9 r10 : DV) (n : Nat) : DV → H → Ans := Nat.rec (motive := fun _ => DV → H → Ans) (fun _ _ => none) (fun _ i => B157_2 E r0 r3 r8 r9 r10 i) n
def J157_0 (r0 r1 r2 r3 : DV) (h : H) : Ans := vK (v_sub r2 r1) fun x1 => vK (v_sub x1 (ii 1)) fun x2 => vK (v_quo x2 (ii 2)) fun x3 => L157_2 E r0 r3 r1 (ii 0) x1 FUEL x3 h
theorem I157_3 : Is E C157_3 (blockK3 2 (retK3 D157.res)) (fun σ h => L157_3 E (σ p0) (σ p3) (σ p8) (σ p9) FUEL (σ p12) h) := Is.lp (fun n3 σ h => L157_3 E (σ p0) (σ p3) (σ p8) (σ p9) n3 (σ p12) h) fun n3 => Is.aq (Is.leaf _)
theorem I157_1 : Is E C157_1 (retK3 D157.res) (fun σ h => J157_1 E (σ p0) (σ p3) (σ p8) (σ p9) (σ p10) h) := Is.aq (Is.sq (Is.bk (I157_3 E)) (Is.leaf _))
abbrev K157_4 : KT2 (DV × H) := (thenK3 (fun σ h => J157_1 E (σ p0) (σ p3) (σ p8) (σ p9) (σ p10) h) (retK3 D157.res))
theorem I157_2 : Is E C157_2 (blockK3 0 (K157_4 E)) (fun σ h => L157_2 E (σ p0) (σ p3) (σ p8) (σ p9) (σ p10) FUEL (σ p11) h) := Is.lp (fun n2 σ h => L157_2 E (σ p0) (σ p3) (σ p8) (σ p9) (σ p10) n2 (σ p11) h) fun n2 => Is.aq (Is.leaf _)
theorem I157_0 : iB4 E D157 (J157_0 E) := Is.aq (Is.sq (Is.sq (Is.sq (Is.sq (I157_1 E) (Is.sq (Is.bk (I157_2 E)) (Is.leaf _))) (Is.leaf _)) (Is.leaf _)) (Is.leaf _))
def S157 : Fun := fA4 (J157_0 E)
theorem S157_eq : SQ D157 S157 := eB4 I157_0
def D158 := cm 158
def C158_1 := cl (cr (cr (cr (cl (cr (cr D158.body))))))
def C158_2 := cr (cr (cl C158_1))
def C158_3 := cr (cr (cl (cl (cr (cl C158_1)))))
def J158_2 (E : Env) (i1 : DV → H → Ans) (r11 : DV) (h : H) : Ans := vK (v_add r11 (ii 1)) fun x1 => i1 x1 h
def J158_3 (i1 : DV → H → Ans) (r0 r1 r11 r12 : DV) (h : H) : Ans := vK (v_add r1 r12) fun x1 => vK (v_add r1 r12) fun x2 => vK (v_iaS 5 r0 x2) fun x3 => vK (v_ldN 5 h.get x3) fun x4 => vK (v_iaS 5 r0 r11) fun x5 => vK (v_ldN 5 h.get x5) fun x6 => vK (v_iaS 5 r0 r11) fun x7 => wK (dStF 5 x7 x4 h) fun x8 h9 => vK (v_iaS 5 r0 x1) fun x10 => wK (dStF 5 x10 x6 h9) fun x11 h12 => J158_2 E i1 r11 h12
def B158_1 (r0 r1 r8 r9 r10 : DV) (i1 : DV → H → Ans) (r11 : DV) (h : H) : Ans := vK (v_quo r8 (ii 4)) fun x1 => vK (v_mul x1 (ii 2)) fun x2 => vK (v_add r1 x2) fun x3 => vK (v_add x3 (ii 1)) fun x4 => vK (v_leq r11 x4) fun x5 => bK x5 (wK (callK E 209 [r9] h) fun x6 h7 => vK (v_sub r10 (.int .u64 (.ofNat 1))) fun x8 => vK (v_and x6 x8) fun x9 => vK (v_conv .i64 x9) fun x10 => vK (v_geq x10 r8) fun x11 => bK x11 (vK (v_sub x10 r8) fun x12 => J158_3 E i1 r0 r1 r11 x12 h7) (J158_3 E i1 r0 r1 r11 x10 h7)) (some ((.tup []), h))
def L158_1 (r0 r1 r8 r9 r10 : DV) (n : Nat) : DV → H → Ans := Nat.rec (motive := fun _ => DV → H → Ans) (fun _ _ => none) (fun _ i => B158_1 E r0 r1 r8 r9 r10 i) n
def J158_0 (r0 r1 r2 : DV) (h : H) : Ans := vK (v_sub r2 r1) fun x1 => vK (v_geq x1 (ii 8)) fun x2 => bK x2 (vK (v_conv .u64 x1) fun x3 => n_alc 1 1 (.list [(.int .u64 (.ofNat 0))]) h fun x4 h5 => wK (dStF 1 x4 x3 h5) fun x6 h7 => wK (callK E 208 [x1] h7) fun x8 h9 => vK (v_quo x1 (ii 4)) fun x10 => vK (v_mul x10 (ii 2)) fun x11 => vK (v_add r1 x11) fun x12 => vK (v_sub x12 (ii 1)) fun x13 => L158_1 E r0 r1 x1 x4 x8 FUEL x13 h9) (some ((.tup []), h))
abbrev K158_4 (n1 : Nat) : KT2 (DV × H) := (thenK3 (fun σ h => (L158_1 E (σ p0) (σ p1) (σ p8) (σ p9) (σ p10) n1) (σ p11) h) (blockK3 0 (retK3 D158.res)))
theorem I158_2 (n1 : Nat) : Is E C158_2 (K158_4 E n1) (fun σ h => J158_2 E (L158_1 E (σ p0) (σ p1) (σ p8) (σ p9) (σ p10) n1) (σ p11) h) := Is.rf
abbrev K158_5 (n1 : Nat) : KT2 (DV × H) := (thenK3 (fun σ h => J158_2 E (L158_1 E (σ p0) (σ p1) (σ p8) (σ p9) (σ p10) n1) (σ p11) h) (K158_4 E n1))
theorem I158_3 (n1 : Nat) : Is E C158_3 (blockK3 1 (K158_5 E n1)) (fun σ h => J158_3 E (L158_1 E (σ p0) (σ p1) (σ p8) (σ p9) (σ p10) n1) (σ p0) (σ p1) (σ p11) (σ p12) h) := Is.rf
theorem I158_1 : Is E C158_1 (blockK3 0 (retK3 D158.res)) (fun σ h => L158_1 E (σ p0) (σ p1) (σ p8) (σ p9) (σ p10) FUEL (σ p11) h) := Is.lp (fun n1 σ h => L158_1 E (σ p0) (σ p1) (σ p8) (σ p9) (σ p10) n1 (σ p11) h) fun n1 => Is.aq (Is.sq (Is.sq (I158_2 E n1) (Is.bk (Is.sq (Is.sq (I158_3 E n1) (Is.leaf _)) (Is.leaf _)))) (Is.leaf _))
theorem I158_0 : iB4 E D158 (fun r0 r1 r2 _ h => J158_0 E r0 r1 r2 h) := Is.aq (Is.sq (Is.sq (Is.cd (Is.sq (Is.sq (Is.sq (Is.bk (I158_1 E)) (Is.leaf _)) (Is.leaf _)) (Is.leaf _)) (Is.leaf _)) (Is.leaf _)) (Is.leaf _))
def S158 : Fun := fA4 (fun r0 r1 r2 _ h => J158_0 E r0 r1 r2 h)
theorem S158_eq : SQ D158 S158 := eB4 I158_0
def D159 := cm 159
def C159_1 := cr (cr (cr (cr (cr (cr (cr D159.body))))))
def C159_2 := cr (cl (cr (cl (cr (cr (cr (cr (cr (cr D159.body)))))))))
def J159_1 (E : Env) (r11 r13 : DV) (h : H) : Ans := vK (v_ld h.get r11) fun x1 => vK (v_eql x1 (ii 0)) fun x2 => bK x2 (some ((.tup [r13, (ii 1)]), h)) (vK (v_eql x1 (ii 12)) fun x3 => bK x3 (some ((.tup [r13, (ii 2)]), h)) (some ((.tup [r13, (ii 0)]), h)))
def J159_2 (r0 r3 r11 r12 r13 r14 : DV) (h : H) : Ans := wK (callK E 211 [r0, r12, r13, r14, r11, r3] h) fun x1 h2 => J159_1 E r11 x1 h2
def J159_0 (r0 r1 r2 r3 : DV) (h : H) : Ans := vK (v_sub r2 r1) fun x1 => n_alc 1 1 (.list [(ii 0)]) h fun x2 h3 => vK (v_quo x1 (ii 4)) fun x4 => vK (v_mul x4 (ii 1)) fun x5 => vK (v_add r1 x5) fun x6 => vK (v_quo x1 (ii 4)) fun x7 => vK (v_mul x7 (ii 2)) fun x8 => vK (v_add r1 x8) fun x9 => vK (v_quo x1 (ii 4)) fun x10 => vK (v_mul x10 (ii 3)) fun x11 => vK (v_add r1 x11) fun x12 => vK (v_geq x1 (ii 8)) fun x13 => bK x13 (vK (v_geq x1 (ii 50)) fun x14 => bK x14 (wK (callK E 210 [r0, x6, x2, r3] h3) fun x15 h16 => wK (callK E 210 [r0, x9, x2, r3] h16) fun x17 h18 => wK (callK E 210 [r0, x12, x2, r3] h18) fun x19 h20 => J159_2 E r0 r3 x2 x15 x17 x19 h20) (J159_2 E r0 r3 x2 x6 x9 x12 h3)) (J159_1 E x2 x9 h3)
theorem I159_1 : Is E C159_1 (retK3 D159.res) (fun σ h => J159_1 E (σ p11) (σ p13) h) := Is.rf
abbrev K159_3 : KT2 (DV × H) := (thenK3 (fun σ h => J159_1 E (σ p11) (σ p13) h) (retK3 D159.res))
theorem I159_2 : Is E C159_2 (K159_3 E) (fun σ h => J159_2 E (σ p0) (σ p3) (σ p11) (σ p12) (σ p13) (σ p14) h) := Is.rf
theorem I159_0 : iB4 E D159 (J159_0 E) := Is.aq (Is.sq (Is.sq (Is.sq (Is.sq (Is.sq (Is.sq (Is.sq (I159_1 E) (Is.sq (Is.cd (Is.sq (I159_2 E) (Is.leaf _)) (Is.leaf _)) (Is.leaf _))) (Is.leaf _)) (Is.leaf _)) (Is.leaf _)) (Is.leaf _)) (Is.leaf _)) (Is.leaf _))
def S159 : Fun := fA4 (J159_0 E)
theorem S159_eq : SQ D159 S159 := eB4 I159_0
def D160 := cm 160
def C160_1 := cl (cr (cr D160.body))
def B160_1 (E : Env) (r0 : DV) (i1 : DV → DV → H → Ans) (r8 r9 : DV) (h : H) : Ans := vK (v_lss r8 r9) fun x1 => bK x1 (vK (v_iaS 5 r0 r9) fun x2 => vK (v_ldN 5 h.get x2) fun x3 => vK (v_iaS 5 r0 r8) fun x4 => vK (v_ldN 5 h.get x4) fun x5 => vK (v_iaS 5 r0 r8) fun x6 => wK (dStF 5 x6 x3 h) fun x7 h8 => vK (v_iaS 5 r0 r9) fun x9 => wK (dStF 5 x9 x5 h8) fun x10 h11 => vK (v_add r8 (ii 1)) fun x12 => vK (v_sub r9 (ii 1)) fun x13 => i1 x12 x13 h11) (some ((.tup []), h))
def L160_1 (r0 : DV) (n : Nat) : DV → DV → H → Ans := Nat.rec (motive := fun _ => DV → DV → H → Ans) (fun _ _ _ => none) (fun _ i => B160_1 E r0 i) n
def J160_0 (r0 r1 r2 : DV) (h : H) : Ans := vK (v_sub r2 (ii 1)) fun x1 => L160_1 E r0 FUEL r1 x1 h
theorem I160_1 : Is E C160_1 (blockK3 0 (retK3 D160.res)) (fun σ h => L160_1 E (σ p0) FUEL (σ p8) (σ p9) h) := Is.lp (fun n1 σ h => L160_1 E (σ p0) n1 (σ p8) (σ p9) h) fun n1 => Is.aq (Is.leaf _)
theorem I160_0 : iB4 E D160 (fun r0 r1 r2 _ h => J160_0 E r0 r1 r2 h) := Is.aq (Is.sq (Is.sq (Is.bk (I160_1 E)) (Is.leaf _)) (Is.leaf _))
def S160 : Fun := fA4 (fun r0 r1 r2 _ h => J160_0 E r0 r1 r2 h)
theorem S160_eq : SQ D160 S160 := eB4 I160_0
def D161 := cm 161
def C161_1 := cr (cr (cr D161.body))
def C161_2 := cl (cr (cl (cr (cr D161.body))))
def C161_3 := cr (cr (cl C161_2))
def C161_4 := cr (cl (cl (cr (cl C161_2))))
def C161_6 := cr (cr (cr (cr C161_4)))
def C161_8 := cl (cr (cl (cr C161_6)))
def C161_7 := cl (cr (cl (cr (cl (cr (cr (cr C161_4)))))))
def C161_5 := cl (cl (cl (cl (cr (cl C161_2)))))
def J161_1 (E : Env) (h : H) : Ans := some ((.bool false), h)
def J161_3 (E : Env) (i2 : DV → DV → H → Ans) (r9 r10 : DV) (h : H) : Ans := vK (v_add r10 (ii 1)) fun x1 => i2 r9 x1 h
def B161_8 (i2 : DV → DV → H → Ans) (r0 r2 r3 r9 r10 : DV) (i8 : DV → H → Ans) (r12 : DV) (h : H) : Ans := vK (v_lss r12 r2) fun x1 => bK x1 (vK (v_iaS 5 r0 r12) fun x2 => vK (v_ldN 5 h.get x2) fun x3 => vK (v_sub r12 (ii 1)) fun x4 => vK (v_iaS 5 r0 x4) fun x5 => vK (v_ldN 5 h.get x5) fun x6 => wK (c_val E r3 [x3, x6] h) fun x7 h8 => vK (v_lss x7 (ii 0)) fun x9 => vK (v_not x9) fun x10 => bK x10 (J161_3 E i2 r9 r10 h8) (vK (v_sub r12 (ii 1)) fun x11 => vK (v_sub r12 (ii 1)) fun x12 => vK (v_iaS 5 r0 x12) fun x13 => vK (v_ldN 5 h8.get x13) fun x14 => vK (v_iaS 5 r0 r12) fun x15 => vK (v_ldN 5 h8.get x15) fun x16 => vK (v_iaS 5 r0 r12) fun x17 => wK (dStF 5 x17 x14 h8) fun x18 h19 => vK (v_iaS 5 r0 x11) fun x20 => wK (dStF 5 x20 x16 h19) fun x21 h22 => vK (v_add r12 (ii 1)) fun x23 => i8 x23 h22)) (J161_3 E i2 r9 r10 h)
def L161_8 (i2 : DV → DV → H → Ans) (r0 r2 r3 r9 r10 : DV) (n : Nat) : DV → H → Ans := Nat.rec (motive := fun _ => DV → H → Ans) (fun _ _ => none) (fun _ i => B161_8 E i2 r0 r2 r3 r9 r10 i) n
def J161_6 (i2 : DV → DV → H → Ans) (r0 r2 r3 r9 r10 : DV) (h : H) : Ans := vK (v_sub r2 r9) fun x1 => vK (v_geq x1 (ii 2)) fun x2 => bK x2 (vK (v_add r9 (ii 1)) fun x3 => L161_8 E i2 r0 r2 r3 r9 r10 FUEL x3 h) (J161_3 E i2 r9 r10 h)
def B161_7 (i2 : DV → DV → H → Ans) (r0 r2 r3 r9 r10 : DV) (i7 : DV → H → Ans) (r11 : DV) (h : H) : Ans := vK (v_geq r11 (ii 1)) fun x1 => bK x1 (vK (v_iaS 5 r0 r11) fun x2 => vK (v_ldN 5 h.get x2) fun x3 => vK (v_sub r11 (ii 1)) fun x4 => vK (v_iaS 5 r0 x4) fun x5 => vK (v_ldN 5 h.get x5) fun x6 => wK (c_val E r3 [x3, x6] h) fun x7 h8 => vK (v_lss x7 (ii 0)) fun x9 => vK (v_not x9) fun x10 => bK x10 (J161_6 E i2 r0 r2 r3 r9 r10 h8) (vK (v_sub r11 (ii 1)) fun x11 => vK (v_sub r11 (ii 1)) fun x12 => vK (v_iaS 5 r0 x12) fun x13 => vK (v_ldN 5 h8.get x13) fun x14 => vK (v_iaS 5 r0 r11) fun x15 => vK (v_ldN 5 h8.get x15) fun x16 => vK (v_iaS 5 r0 r11) fun x17 => wK (dStF 5 x17 x14 h8) fun x18 h19 => vK (v_iaS 5 r0 x11) fun x20 => wK (dStF 5 x20 x16 h19) fun x21 h22 => vK (v_sub r11 (ii 1)) fun x23 => i7 x23 h22)) (J161_6 E i2 r0 r2 r3 r9 r10 h)
def L161_7 (i2 : DV → DV → H → Ans) (r0 r2 r3 r9 r10 : DV) (n : Nat) : DV → H → Ans := Nat.rec (motive := fun _ => DV → H → Ans) (fun _ _ => none) (fun _ i => B161_7 E i2 r0 r2 r3 r9 r10 i) n
def J161_4 (i2 : DV → DV → H → Ans) (r0 r1 r2 r3 r9 r10 : DV) (h : H) : Ans := vK (v_eql r9 r2) fun x1 => bK x1 (some ((.bool true), h)) (vK (v_sub r2 r1) fun x2 => vK (v_lss x2 (ii 50)) fun x3 => bK x3 (some ((.bool false), h)) (vK (v_sub r9 (ii 1)) fun x4 => vK (v_sub r9 (ii 1)) fun x5 => vK (v_iaS 5 r0 x5) fun x6 => vK (v_ldN 5 h.get x6) fun x7 => vK (v_iaS 5 r0 r9) fun x8 => vK (v_ldN 5 h.get x8) fun x9 => vK (v_iaS 5 r0 r9) fun x10 => wK (dStF 5 x10 x7 h) fun x11 h12 => vK (v_iaS 5 r0 x4) fun x13 => wK (dStF 5 x13 x9 h12) fun x14 h15 => vK (v_sub r9 r1) fun x16 => vK (v_geq x16 (ii 2)) fun x17 => bK x17 (vK (v_sub r9 (ii 1)) fun x18 => L161_7 E i2 r0 r2 r3 r9 r10 FUEL x18 h15) (J161_6 E i2 r0 r2 r3 r9 r10 h15)))
def B161_5 (i2 : DV → DV → H → Ans) (r0 r1 r2 r3 r10 : DV) (i5 : DV → H → Ans) (r9 : DV) (h : H) : Ans := vK (v_lss r9 r2) fun x1 => gdK x1 true (fun kk => kk r3 h) h fun x2 h3 => gdK x1 true (fun kk => kk r0 h3) h3 fun x4 h5 => gdK x1 true (fun kk => kk r9 h5) h5 fun x6 h7 => gdK x1 true (fun kk => vK (v_iaS 5 x4 x6) fun v => kk v h7) h7 fun x8 h9 => gdK x1 true (fun kk => vK (v_ldN 5 h9.get x8) fun v => kk v h9) h9 fun x10 h11 => gdK x1 true (fun kk => kk r0 h11) h11 fun x12 h13 => gdK x1 true (fun kk => kk r9 h13) h13 fun x14 h15 => gdK x1 true (fun kk => vK (v_sub x14 (ii 1)) fun v => kk v h15) h15 fun x16 h17 => gdK x1 true (fun kk => vK (v_iaS 5 x12 x16) fun v => kk v h17) h17 fun x18 h19 => gdK x1 true (fun kk => vK (v_ldN 5 h19.get x18) fun v => kk v h19) h19 fun x20 h21 => gdK x1 true (fun kk => wK (c_val E x2 [x10, x20] h21) kk) h21 fun x22 h23 => gdK x1 true (fun kk => vK (v_lss x22 (ii 0)) fun v => kk v h23) h23 fun x24 h25 => gdK x1 true (fun kk => vK (v_not x24) fun v => kk v h25) h25 fun x26 h27 => vK (v_pick x1 x26 (.bool false)) fun x28 => bK x28 (vK (v_add r9 (ii 1)) fun x29 => i5 x29 h27) (J161_4 E i2 r0 r1 r2 r3 r9 r10 h27)
def L161_5 (i2 : DV → DV → H → Ans) (r0 r1 r2 r3 r10 : DV) (n : Nat) : DV → H → Ans := Nat.rec (motive := fun _ => DV → H → Ans) (fun _ _ => none) (fun _ i => B161_5 E i2 r0 r1 r2 r3 r10 i) n
def B161_2 (r0 r1 r2 r3 : DV) (i2 : DV → DV → H → Ans) (r9 r10 : DV) (h : H) : Ans := vK (v_lss r10 (ii 5)) fun x1 => bK x1 (L161_5 E i2 r0 r1 r2 r3 r10 FUEL r9 h) (J161_1 E h)
def L161_2 (r0 r1 r2 r3 : DV) (n : Nat) : DV → DV → H → Ans := Nat.rec (motive := fun _ => DV → DV → H → Ans) (fun _ _ _ => none) (fun _ i => B161_2 E r0 r1 r2 r3 i) n
def J161_0 (r0 r1 r2 r3 : DV) (h : H) : Ans := vK (v_add r1 (ii 1)) fun x1 => L161_2 E r0 r1 r2 r3 FUEL x1 (ii 0) h
theorem I161_1 : Is E C161_1 (retK3 D161.res) (fun σ h => J161_1 E h) := Is.rf
abbrev K161_9 : KT2 (DV × H) := (blockK3 0 (thenK3 (fun σ h => J161_1 E h) (retK3 D161.res)))
abbrev K161_10 (n2 : Nat) : KT2 (DV × H) := (thenK3 (fun σ h => (L161_2 E (σ p0) (σ p1) (σ p2) (σ p3) n2) (σ p9) (σ p10) h) (K161_9 E))
theorem I161_3 (n2 : Nat) : Is E C161_3 (K161_10 E n2) (fun σ h => J161_3 E (L161_2 E (σ p0) (σ p1) (σ p2) (σ p3) n2) (σ p9) (σ p10) h) := Is.rf
abbrev K161_11 (n2 : Nat) : KT2 (DV × H) := (thenK3 (fun σ h => J161_3 E (L161_2 E (σ p0) (σ p1) (σ p2) (σ p3) n2) (σ p9) (σ p10) h) (K161_10 E n2))
theorem I161_8 (n2 : Nat) : Is E C161_8 (blockK3 6 (blockK3 1 (K161_11 E n2))) (fun σ h => L161_8 E (L161_2 E (σ p0) (σ p1) (σ p2) (σ p3) n2) (σ p0) (σ p2) (σ p3) (σ p9) (σ p10) FUEL (σ p12) h) := Is.lp (fun n8 σ h => L161_8 E (L161_2 E (σ p0) (σ p1) (σ p2) (σ p3) n2) (σ p0) (σ p2) (σ p3) (σ p9) (σ p10) n8 (σ p12) h) fun n8 => Is.aq (Is.leaf _)
theorem I161_6 (n2 : Nat) : Is E C161_6 (blockK3 1 (K161_11 E n2)) (fun σ h => J161_6 E (L161_2 E (σ p0) (σ p1) (σ p2) (σ p3) n2) (σ p0) (σ p2) (σ p3) (σ p9) (σ p10) h) := Is.aq (Is.sq (Is.cd (Is.sq (Is.bk (I161_8 E n2)) (Is.leaf _)) (Is.leaf _)) (Is.leaf _))
abbrev K161_12 (n2 : Nat) : KT2 (DV × H) := (thenK3 (fun σ h => J161_6 E (L161_2 E (σ p0) (σ p1) (σ p2) (σ p3) n2) (σ p0) (σ p2) (σ p3) (σ p9) (σ p10) h) (blockK3 1 (K161_11 E n2)))
theorem I161_7 (n2 : Nat) : Is E C161_7 (blockK3 4 (K161_12 E n2)) (fun σ h => L161_7 E (L161_2 E (σ p0) (σ p1) (σ p2) (σ p3) n2) (σ p0) (σ p2) (σ p3) (σ p9) (σ p10) FUEL (σ p11) h) := Is.lp (fun n7 σ h => L161_7 E (L161_2 E (σ p0) (σ p1) (σ p2) (σ p3) n2) (σ p0) (σ p2) (σ p3) (σ p9) (σ p10) n7 (σ p11) h) fun n7 => Is.aq (Is.leaf _)
theorem I161_4 (n2 : Nat) : Is E C161_4 (blockK3 1 (K161_11 E n2)) (fun σ h => J161_4 E (L161_2 E (σ p0) (σ p1) (σ p2) (σ p3) n2) (σ p0) (σ p1) (σ p2) (σ p3) (σ p9) (σ p10) h) := Is.aq (Is.sq (Is.sq (Is.sq (Is.sq (I161_6 E n2) (Is.sq (Is.cd (Is.sq (Is.bk (I161_7 E n2)) (Is.leaf _)) (Is.leaf _)) (Is.leaf _))) (Is.leaf _)) (Is.leaf _)) (Is.leaf _))
abbrev K161_13 (n2 : Nat) : KT2 (DV × H) := (thenK3 (fun σ h => J161_4 E (L161_2 E (σ p0) (σ p1) (σ p2) (σ p3) n2) (σ p0) (σ p1) (σ p2) (σ p3) (σ p9) (σ p10) h) (blockK3 1 (K161_11 E n2)))
theorem I161_5 (n2 : Nat) : Is E C161_5 (blockK3 2 (K161_13 E n2)) (fun σ h => L161_5 E (L161_2 E (σ p0) (σ p1) (σ p2) (σ p3) n2) (σ p0) (σ p1) (σ p2) (σ p3) (σ p10) FUEL (σ p9) h) := Is.lp (fun n5 σ h => L161_5 E (L161_2 E (σ p0) (σ p1) (σ p2) (σ p3) n2) (σ p0) (σ p1) (σ p2) (σ p3) (σ p10) n5 (σ p9) h) fun n5 => Is.aq (Is.leaf _)
theorem I161_2 : Is E C161_2 (K161_9 E) (fun σ h => L161_2 E (σ p0) (σ p1) (σ p2) (σ p3) FUEL (σ p9) (σ p10) h) := Is.lp (fun n2 σ h => L161_2 E (σ p0) (σ p1) (σ p2) (σ p3) n2 (σ p9) (σ p10) h) fun n2 => Is.aq (Is.sq (Is.sq (I161_3 E n2) (Is.bk (Is.sq (I161_4 E n2) (Is.bk (I161_5 E n2))))) (Is.leaf _))
theorem I161_0 : iB4 E D161 (J161_0 E) := Is.aq (Is.sq (Is.sq (Is.sq (I161_1 E) (Is.sq (Is.bk (I161_2 E)) (Is.leaf _))) (Is.leaf _)) (Is.leaf _))
def S161 : Fun := fA4 (J161_0 E)
theorem S161_eq : SQ D161 S161 := eB4 I161_0
def D162 := cm 162
def C162_1 := cr (cr (cr (cr D162.body)))
def C162_2 := cl (cl (cr (cr (cr D162.body))))
def C162_3 := cr (cl (cl C162_2))
def C162_5 := cr C162_3
def C162_6 := cl (cl C162_3)
def C162_4 := cl (cl (cl (cl C162_2)))
def J162_1 (E : Env) (r11 : DV) (h : H) : Ans := some (r11, h)
def J162_5 (i2 : DV → DV → H → Ans) (r0 r11 r12 : DV) (h : H) : Ans := vK (v_gtr r11 r12) fun x1 => bK x1 (J162_1 E r11 h) (vK (v_iaS 5 r0 r12) fun x2 => vK (v_ldN 5 h.get x2) fun x3 => vK (v_iaS 5 r0 r11) fun x4 => vK (v_ldN 5 h.get x4) fun x5 => vK (v_iaS 5 r0 r11) fun x6 => wK (dStF 5 x6 x3 h) fun x7 h8 => vK (v_iaS 5 r0 r12) fun x9 => wK (dStF 5 x9 x5 h8) fun x10 h11 => vK (v_add r11 (ii 1)) fun x12 => vK (v_sub r12 (ii 1)) fun x13 => i2 x12 x13 h11)
def B162_6 (i2 : DV → DV → H → Ans) (r0 r1 r4 r11 : DV) (i6 : DV → H → Ans) (r12 : DV) (h : H) : Ans := vK (v_leq r11 r12) fun x1 => gdK x1 true (fun kk => kk r4 h) h fun x2 h3 => gdK x1 true (fun kk => kk r0 h3) h3 fun x4 h5 => gdK x1 true (fun kk => kk r1 h5) h5 fun x6 h7 => gdK x1 true (fun kk => vK (v_iaS 5 x4 x6) fun v => kk v h7) h7 fun x8 h9 => gdK x1 true (fun kk => vK (v_ldN 5 h9.get x8) fun v => kk v h9) h9 fun x10 h11 => gdK x1 true (fun kk => kk r0 h11) h11 fun x12 h13 => gdK x1 true (fun kk => kk r12 h13) h13 fun x14 h15 => gdK x1 true (fun kk => vK (v_iaS 5 x12 x14) fun v => kk v h15) h15 fun x16 h17 => gdK x1 true (fun kk => vK (v_ldN 5 h17.get x16) fun v => kk v h17) h17 fun x18 h19 => gdK x1 true (fun kk => wK (c_val E x2 [x10, x18] h19) kk) h19 fun x20 h21 => gdK x1 true (fun kk => vK (v_lss x20 (ii 0)) fun v => kk v h21) h21 fun x22 h23 => vK (v_pick x1 x22 (.bool false)) fun x24 => bK x24 (vK (v_sub r12 (ii 1)) fun x25 => i6 x25 h23) (J162_5 E i2 r0 r11 r12 h23)
def L162_6 (i2 : DV → DV → H → Ans) (r0 r1 r4 r11 : DV) (n : Nat) : DV → H → Ans := Nat.rec (motive := fun _ => DV → H → Ans) (fun _ _ => none) (fun _ i => B162_6 E i2 r0 r1 r4 r11 i) n
def J162_3 (i2 : DV → DV → H → Ans) (r0 r1 r4 r11 r12 : DV) (h : H) : Ans := L162_6 E i2 r0 r1 r4 r11 FUEL r12 h
def B162_4 (i2 : DV → DV → H → Ans) (r0 r1 r4 r12 : DV) (i4 : DV → H → Ans) (r11 : DV) (h : H) : Ans := vK (v_leq r11 r12) fun x1 => gdK x1 true (fun kk => kk r4 h) h fun x2 h3 => gdK x1 true (fun kk => kk r0 h3) h3 fun x4 h5 => gdK x1 true (fun kk => kk r1 h5) h5 fun x6 h7 => gdK x1 true (fun kk => vK (v_iaS 5 x4 x6) fun v => kk v h7) h7 fun x8 h9 => gdK x1 true (fun kk => vK (v_ldN 5 h9.get x8) fun v => kk v h9) h9 fun x10 h11 => gdK x1 true (fun kk => kk r0 h11) h11 fun x12 h13 => gdK x1 true (fun kk => kk r11 h13) h13 fun x14 h15 => gdK x1 true (fun kk => vK (v_iaS 5 x12 x14) fun v => kk v h15) h15 fun x16 h17 => gdK x1 true (fun kk => vK (v_ldN 5 h17.get x16) fun v => kk v h17) h17 fun x18 h19 => gdK x1 true (fun kk => wK (c_val E x2 [x10, x18] h19) kk) h19 fun x20 h21 => gdK x1 true (fun kk => vK (v_lss x20 (ii 0)) fun v => kk v h21) h21 fun x22 h23 => gdK x1 true (fun kk => vK (v_not x22) fun v => kk v h23) h23 fun x24 h25 => vK (v_pick x1 x24 (.bool false)) fun x26 => bK x26 (vK (v_add r11 (ii 1)) fun x27 => i4 x27 h25) (J162_3 E i2 r0 r1 r4 r11 r12 h25)
def L162_4 (i2 : DV → DV → H → Ans) (r0 r1 r4 r12 : DV) (n : Nat) : DV → H → Ans := Nat.rec (motive := fun _ => DV → H → Ans) (fun _ _ => none) (fun _ i => B162_4 E i2 r0 r1 r4 r12 i) n
def B162_2 (r0 r1 r4 : DV) (i2 : DV → DV → H → Ans) (r11 r12 : DV) (h : H) : Ans := L162_4 E i2 r0 r1 r4 r12 FUEL r11 h
def L162_2 (r0 r1 r4 : DV) (n : Nat) : DV → DV → H → Ans := Nat.rec (motive := fun _ => DV → DV → H → Ans) (fun _ _ _ => none) (fun _ i => B162_2 E r0 r1 r4 i) n
def J162_0 (r0 r1 r2 r3 r4 : DV) (h : H) : Ans := vK (v_iaS 5 r0 r3) fun x1 => vK (v_ldN 5 h.get x1) fun x2 => vK (v_iaS 5 r0 r1) fun x3 => vK (v_ldN 5 h.get x3) fun x4 => vK (v_iaS 5 r0 r1) fun x5 => wK (dStF 5 x5 x2 h) fun x6 h7 => vK (v_iaS 5 r0 r3) fun x8 => wK (dStF 5 x8 x4 h7) fun x9 h10 => vK (v_add r1 (ii 1)) fun x11 => vK (v_sub r2 (ii 1)) fun x12 => L162_2 E r0 r1 r4 FUEL x11 x12 h10
theorem I162_1 : Is E C162_1 (retK3 D162.res) (fun σ h => J162_1 E (σ p11) h) := Is.rf
abbrev K162_7 : KT2 (DV × H) := (thenK3 (fun σ h => J162_1 E (σ p11) h) (retK3 D162.res))
abbrev K162_8 (n2 : Nat) : KT2 (DV × H) := (thenK3 (fun σ h => (L162_2 E (σ p0) (σ p1) (σ p4) n2) (σ p11) (σ p12) h) (blockK3 0 (K162_7 E)))
theorem I162_5 (n2 : Nat) : Is E C162_5 (blockK3 1 (K162_8 E n2)) (fun σ h => J162_5 E (L162_2 E (σ p0) (σ p1) (σ p4) n2) (σ p0) (σ p11) (σ p12) h) := Is.rf
abbrev K162_9 (n2 : Nat) : KT2 (DV × H) := (thenK3 (fun σ h => J162_5 E (L162_2 E (σ p0) (σ p1) (σ p4) n2) (σ p0) (σ p11) (σ p12) h) (blockK3 1 (K162_8 E n2)))
theorem I162_6 (n2 : Nat) : Is E C162_6 (blockK3 4 (K162_9 E n2)) (fun σ h => L162_6 E (L162_2 E (σ p0) (σ p1) (σ p4) n2) (σ p0) (σ p1) (σ p4) (σ p11) FUEL (σ p12) h) := Is.lp (fun n6 σ h => L162_6 E (L162_2 E (σ p0) (σ p1) (σ p4) n2) (σ p0) (σ p1) (σ p4) (σ p11) n6 (σ p12) h) fun n6 => Is.aq (Is.leaf _)
theorem I162_3 (n2 : Nat) : Is E C162_3 (blockK3 1 (K162_8 E n2)) (fun σ h => J162_3 E (L162_2 E (σ p0) (σ p1) (σ p4) n2) (σ p0) (σ p1) (σ p4) (σ p11) (σ p12) h) := Is.aq (Is.sq (I162_5 E n2) (Is.bk (I162_6 E n2)))
abbrev K162_10 (n2 : Nat) : KT2 (DV × H) := (thenK3 (fun σ h => J162_3 E (L162_2 E (σ p0) (σ p1) (σ p4) n2) (σ p0) (σ p1) (σ p4) (σ p11) (σ p12) h) (blockK3 1 (K162_8 E n2)))
theorem I162_4 (n2 : Nat) : Is E C162_4 (blockK3 2 (K162_10 E n2)) (fun σ h => L162_4 E (L162_2 E (σ p0) (σ p1) (σ p4) n2) (σ p0) (σ p1) (σ p4) (σ p12) FUEL (σ p11) h) := Is.lp (fun n4 σ h => L162_4 E (L162_2 E (σ p0) (σ p1) (σ p4) n2) (σ p0) (σ p1) (σ p4) (σ p12) n4 (σ p11) h) fun n4 => Is.aq (Is.leaf _)
theorem I162_2 : Is E C162_2 (blockK3 0 (K162_7 E)) (fun σ h => L162_2 E (σ p0) (σ p1) (σ p4) FUEL (σ p11) (σ p12) h) := Is.lp (fun n2 σ h => L162_2 E (σ p0) (σ p1) (σ p4) n2 (σ p11) (σ p12) h) fun n2 => Is.aq (Is.bk (Is.sq (I162_3 E n2) (Is.bk (I162_4 E n2))))
theorem I162_0 : iB5 E D162 (J162_0 E) := Is.aq (Is.sq (Is.sq (Is.sq (Is.sq (I162_1 E) (Is.bk (I162_2 E))) (Is.leaf _)) (Is.leaf _)) (Is.leaf _))
def S162 : Fun := fA5 (J162_0 E)
theorem S162_eq : SQ D162 S162 := eB5 I162_0
def D163 := cm 163
def C163_1 := cr (cr (cr (cr D163.body)))
def C163_3 := cr C163_1
def C163_5 := cr (cr (cr (cr (cr C163_3))))
def C163_6 := cl (cl (cr (cr (cr (cr C163_3)))))
def C163_7 := cr (cl (cl C163_6))
def C163_9 := cr C163_7
def C163_10 := cl (cl C163_7)
def C163_8 := cl (cl (cl (cl C163_6)))
def C163_4 := cl (cl C163_1)
def C163_2 := cl (cl (cr (cr (cr D163.body))))
def J163_5 (E : Env) (r0 r1 r13 : DV) (h : H) : Ans := vK (v_iaS 5 r0 r1) fun x1 => vK (v_ldN 5 h.get x1) fun x2 => vK (v_iaS 5 r0 r13) fun x3 => vK (v_ldN 5 h.get x3) fun x4 => vK (v_iaS 5 r0 r13) fun x5 => wK (dStF 5 x5 x2 h) fun x6 h7 => vK (v_iaS 5 r0 r1) fun x8 => wK (dStF 5 x8 x4 h7) fun x9 h10 => some ((.tup [r13, (.bool false)]), h10)
def J163_9 (i6 : DV → DV → H → Ans) (r0 r1 r12 r13 : DV) (h : H) : Ans := vK (v_gtr r12 r13) fun x1 => bK x1 (J163_5 E r0 r1 r13 h) (vK (v_iaS 5 r0 r13) fun x2 => vK (v_ldN 5 h.get x2) fun x3 => vK (v_iaS 5 r0 r12) fun x4 => vK (v_ldN 5 h.get x4) fun x5 => vK (v_iaS 5 r0 r12) fun x6 => wK (dStF 5 x6 x3 h) fun x7 h8 => vK (v_iaS 5 r0 r13) fun x9 => wK (dStF 5 x9 x5 h8) fun x10 h11 => vK (v_add r12 (ii 1)) fun x12 => vK (v_sub r13 (ii 1)) fun x13 => i6 x12 x13 h11)
def B163_10 (i6 : DV → DV → H → Ans) (r0 r1 r4 r12 : DV) (i10 : DV → H → Ans) (r13 : DV) (h : H) : Ans := vK (v_leq r12 r13) fun x1 => gdK x1 true (fun kk => kk r4 h) h fun x2 h3 => gdK x1 true (fun kk => kk r0 h3) h3 fun x4 h5 => gdK x1 true (fun kk => kk r13 h5) h5 fun x6 h7 => gdK x1 true (fun kk => vK (v_iaS 5 x4 x6) fun v => kk v h7) h7 fun x8 h9 => gdK x1 true (fun kk => vK (v_ldN 5 h9.get x8) fun v => kk v h9) h9 fun x10 h11 => gdK x1 true (fun kk => kk r0 h11) h11 fun x12 h13 => gdK x1 true (fun kk => kk r1 h13) h13 fun x14 h15 => gdK x1 true (fun kk => vK (v_iaS 5 x12 x14) fun v => kk v h15) h15 fun x16 h17 => gdK x1 true (fun kk => vK (v_ldN 5 h17.get x16) fun v => kk v h17) h17 fun x18 h19 => gdK x1 true (fun kk => wK (c_val E x2 [x10, x18] h19) kk) h19 fun x20 h21 => gdK x1 true (fun kk => vK (v_lss x20 (ii 0)) fun v => kk v h21) h21 fun x22 h23 => gdK x1 true (fun kk => vK (v_not x22) fun v => kk v h23) h23 fun x24 h25 => vK (v_pick x1 x24 (.bool false)) fun x26 => bK x26 (vK (v_sub r13 (ii 1)) fun x27 => i10 x27 h25) (J163_9 E i6 r0 r1 r12 r13 h25)
def L163_10 (i6 : DV → DV → H → Ans) (r0 r1 r4 r12 : DV) (n : Nat) : DV → H → Ans := Nat.rec (motive := fun _ => DV → H → Ans) (fun _ _ => none) (fun _ i => B163_10 E i6 r0 r1 r4 r12 i) n
def J163_7 (i6 : DV → DV → H → Ans) (r0 r1 r4 r12 r13 : DV) (h : H) : Ans := L163_10 E i6 r0 r1 r4 r12 FUEL r13 h
def B163_8 (i6 : DV → DV → H → Ans) (r0 r1 r4 r13 : DV) (i8 : DV → H → Ans) (r12 : DV) (h : H) : Ans := vK (v_leq r12 r13) fun x1 => gdK x1 true (fun kk => kk r4 h) h fun x2 h3 => gdK x1 true (fun kk => kk r0 h3) h3 fun x4 h5 => gdK x1 true (fun kk => kk r12 h5) h5 fun x6 h7 => gdK x1 true (fun kk => vK (v_iaS 5 x4 x6) fun v => kk v h7) h7 fun x8 h9 => gdK x1 true (fun kk => vK (v_ldN 5 h9.get x8) fun v => kk v h9) h9 fun x10 h11 => gdK x1 true (fun kk => kk r0 h11) h11 fun x12 h13 => gdK x1 true (fun kk => kk r1 h13) h13 fun x14 h15 => gdK x1 true (fun kk => vK (v_iaS 5 x12 x14) fun v => kk v h15) h15 fun x16 h17 => gdK x1 true (fun kk => vK (v_ldN 5 h17.get x16) fun v => kk v h17) h17 fun x18 h19 => gdK x1 true (fun kk => wK (c_val E x2 [x10, x18] h19) kk) h19 fun x20 h21 => gdK x1 true (fun kk => vK (v_lss x20 (ii 0)) fun v => kk v h21) h21 fun x22 h23 => vK (v_pick x1 x22 (.bool false)) fun x24 => bK x24 (vK (v_add r12 (ii 1)) fun x25 => i8 x25 h23) (J163_7 E i6 r0 r1 r4 r12 r13 h23)
def L163_8 (i6 : DV → DV → H → Ans) (r0 r1 r4 r13 : DV) (n : Nat) : DV → H → Ans := Nat.rec (motive := fun _ => DV → H → Ans) (fun _ _ => none) (fun _ i => B163_8 E i6 r0 r1 r4 r13 i) n
def B163_6 (r0 r1 r4 : DV) (i6 : DV → DV → H → Ans) (r12 r13 : DV) (h : H) : Ans := L163_8 E i6 r0 r1 r4 r13 FUEL r12 h
def L163_6 (r0 r1 r4 : DV) (n : Nat) : DV → DV → H → Ans := Nat.rec (motive := fun _ => DV → DV → H → Ans) (fun _ _ _ => none) (fun _ i => B163_6 E r0 r1 r4 i) n
def J163_3 (r0 r1 r4 r12 r13 : DV) (h : H) : Ans := vK (v_gtr r12 r13) fun x1 => bK x1 (vK (v_iaS 5 r0 r1) fun x2 => vK (v_ldN 5 h.get x2) fun x3 => vK (v_iaS 5 r0 r13) fun x4 => vK (v_ldN 5 h.get x4) fun x5 => vK (v_iaS 5 r0 r13) fun x6 => wK (dStF 5 x6 x3 h) fun x7 h8 => vK (v_iaS 5 r0 r1) fun x9 => wK (dStF 5 x9 x5 h8) fun x10 h11 => some ((.tup [r13, (.bool true)]), h11)) (vK (v_iaS 5 r0 r13) fun x12 => vK (v_ldN 5 h.get x12) fun x13 => vK (v_iaS 5 r0 r12) fun x14 => vK (v_ldN 5 h.get x14) fun x15 => vK (v_iaS 5 r0 r12) fun x16 => wK (dStF 5 x16 x13 h) fun x17 h18 => vK (v_iaS 5 r0 r13) fun x19 => wK (dStF 5 x19 x15 h18) fun x20 h21 => vK (v_add r12 (ii 1)) fun x22 => vK (v_sub r13 (ii 1)) fun x23 => L163_6 E r0 r1 r4 FUEL x22 x23 h21)
def B163_4 (r0 r1 r4 r12 : DV) (i4 : DV → H → Ans) (r13 : DV) (h : H) : Ans := vK (v_leq r12 r13) fun x1 => gdK x1 true (fun kk => kk r4 h) h fun x2 h3 => gdK x1 true (fun kk => kk r0 h3) h3 fun x4 h5 => gdK x1 true (fun kk => kk r13 h5) h5 fun x6 h7 => gdK x1 true (fun kk => vK (v_iaS 5 x4 x6) fun v => kk v h7) h7 fun x8 h9 => gdK x1 true (fun kk => vK (v_ldN 5 h9.get x8) fun v => kk v h9) h9 fun x10 h11 => gdK x1 true (fun kk => kk r0 h11) h11 fun x12 h13 => gdK x1 true (fun kk => kk r1 h13) h13 fun x14 h15 => gdK x1 true (fun kk => vK (v_iaS 5 x12 x14) fun v => kk v h15) h15 fun x16 h17 => gdK x1 true (fun kk => vK (v_ldN 5 h17.get x16) fun v => kk v h17) h17 fun x18 h19 => gdK x1 true (fun kk => wK (c_val E x2 [x10, x18] h19) kk) h19 fun x20 h21 => gdK x1 true (fun kk => vK (v_lss x20 (ii 0)) fun v => kk v h21) h21 fun x22 h23 => gdK x1 true (fun kk => vK (v_not x22) fun v => kk v h23) h23 fun x24 h25 => vK (v_pick x1 x24 (.bool false)) fun x26 => bK x26 (vK (v_sub r13 (ii 1)) fun x27 => i4 x27 h25) (J163_3 E r0 r1 r4 r12 r13 h25)
def L163_4 (r0 r1 r4 r12 : DV) (n : Nat) : DV → H → Ans := Nat.rec (motive := fun _ => DV → H → Ans) (fun _ _ => none) (fun _ i => B163_4 E r0 r1 r4 r12 i) n
def J163_1 (r0 r1 r4 r12 r13 : DV) (h : H) : Ans := L163_4 E r0 r1 r4 r12 FUEL r13 h
def B163_2 (r0 r1 r4 r13 : DV) (i2 : DV → H → Ans) (r12 : DV) (h : H) : Ans := vK (v_leq r12 r13) fun x1 => gdK x1 true (fun kk => kk r4 h) h fun x2 h3 => gdK x1 true (fun kk => kk r0 h3) h3 fun x4 h5 => gdK x1 true (fun kk => kk r12 h5) h5 fun x6 h7 => gdK x1 true (fun kk => vK (v_iaS 5 x4 x6) fun v => kk v h7) h7 fun x8 h9 => gdK x1 true (fun kk => vK (v_ldN 5 h9.get x8) fun v => kk v h9) h9 fun x10 h11 => gdK x1 true (fun kk => kk r0 h11) h11 fun x12 h13 => gdK x1 true (fun kk => kk r1 h13) h13 fun x14 h15 => gdK x1 true (fun kk => vK (v_iaS 5 x12 x14) fun v => kk v h15) h15 fun x16 h17 => gdK x1 true (fun kk => vK (v_ldN 5 h17.get x16) fun v => kk v h17) h17 fun x18 h19 => gdK x1 true (fun kk => wK (c_val E x2 [x10, x18] h19) kk) h19 fun x20 h21 => gdK x1 true (fun kk => vK (v_lss x20 (ii 0)) fun v => kk v h21) h21 fun x22 h23 => vK (v_pick x1 x22 (.bool false)) fun x24 => bK x24 (vK (v_add r12 (ii 1)) fun x25 => i2 x25 h23) (J163_1 E r0 r1 r4 r12 r13 h23)
def L163_2 (r0 r1 r4 r13 : DV) (n : Nat) : DV → H → Ans := Nat.rec (motive := fun _ => DV → H → Ans) (fun _ _ => none) (fun _ i => B163_2 E r0 r1 r4 r13 i) n
def J163_0 (r0 r1 r2 r3 r4 : DV) (h : H) : Ans := vK (v_iaS 5 r0 r3) fun x1 => vK (v_ldN 5 h.get x1) fun x2 => vK (v_iaS 5 r0 r1) fun x3 => vK (v_ldN 5 h.get x3) fun x4 => vK (v_iaS 5 r0 r1) fun x5 => wK (dStF 5 x5 x2 h) fun x6 h7 => vK (v_iaS 5 r0 r3) fun x8 => wK (dStF 5 x8 x4 h7) fun x9 h10 => vK (v_add r1 (ii 1)) fun x11 => vK (v_sub r2 (ii 1)) fun x12 => L163_2 E r0 r1 r4 x12 FUEL x11 h10
theorem I163_5 : Is E C163_5 (retK3 D163.res) (fun σ h => J163_5 E (σ p0) (σ p1) (σ p13) h) := Is.rf
abbrev K163_11 : KT2 (DV × H) := (thenK3 (fun σ h => J163_5 E (σ p0) (σ p1) (σ p13) h) (retK3 D163.res))
abbrev K163_12 (n6 : Nat) : KT2 (DV × H) := (thenK3 (fun σ h => (L163_6 E (σ p0) (σ p1) (σ p4) n6) (σ p12) (σ p13) h) (blockK3 4 (K163_11 E)))
theorem I163_9 (n6 : Nat) : Is E C163_9 (blockK3 5 (K163_12 E n6)) (fun σ h => J163_9 E (L163_6 E (σ p0) (σ p1) (σ p4) n6) (σ p0) (σ p1) (σ p12) (σ p13) h) := Is.rf
abbrev K163_13 (n6 : Nat) : KT2 (DV × H) := (thenK3 (fun σ h => J163_9 E (L163_6 E (σ p0) (σ p1) (σ p4) n6) (σ p0) (σ p1) (σ p12) (σ p13) h) (blockK3 5 (K163_12 E n6)))
theorem I163_10 (n6 : Nat) : Is E C163_10 (blockK3 8 (K163_13 E n6)) (fun σ h => L163_10 E (L163_6 E (σ p0) (σ p1) (σ p4) n6) (σ p0) (σ p1) (σ p4) (σ p12) FUEL (σ p13) h) := Is.lp (fun n10 σ h => L163_10 E (L163_6 E (σ p0) (σ p1) (σ p4) n6) (σ p0) (σ p1) (σ p4) (σ p12) n10 (σ p13) h) fun n10 => Is.aq (Is.leaf _)
theorem I163_7 (n6 : Nat) : Is E C163_7 (blockK3 5 (K163_12 E n6)) (fun σ h => J163_7 E (L163_6 E (σ p0) (σ p1) (σ p4) n6) (σ p0) (σ p1) (σ p4) (σ p12) (σ p13) h) := Is.aq (Is.sq (I163_9 E n6) (Is.bk (I163_10 E n6)))
abbrev K163_14 (n6 : Nat) : KT2 (DV × H) := (thenK3 (fun σ h => J163_7 E (L163_6 E (σ p0) (σ p1) (σ p4) n6) (σ p0) (σ p1) (σ p4) (σ p12) (σ p13) h) (blockK3 5 (K163_12 E n6)))
theorem I163_8 (n6 : Nat) : Is E C163_8 (blockK3 6 (K163_14 E n6)) (fun σ h => L163_8 E (L163_6 E (σ p0) (σ p1) (σ p4) n6) (σ p0) (σ p1) (σ p4) (σ p13) FUEL (σ p12) h) := Is.lp (fun n8 σ h => L163_8 E (L163_6 E (σ p0) (σ p1) (σ p4) n6) (σ p0) (σ p1) (σ p4) (σ p13) n8 (σ p12) h) fun n8 => Is.aq (Is.leaf _)
theorem I163_6 : Is E C163_6 (blockK3 4 (K163_11 E)) (fun σ h => L163_6 E (σ p0) (σ p1) (σ p4) FUEL (σ p12) (σ p13) h) := Is.lp (fun n6 σ h => L163_6 E (σ p0) (σ p1) (σ p4) n6 (σ p12) (σ p13) h) fun n6 => Is.aq (Is.bk (Is.sq (I163_7 E n6) (Is.bk (I163_8 E n6))))
theorem I163_3 : Is E C163_3 (retK3 D163.res) (fun σ h => J163_3 E (σ p0) (σ p1) (σ p4) (σ p12) (σ p13) h) := Is.aq (Is.sq (Is.sq (Is.sq (Is.sq (Is.sq (I163_5 E) (Is.bk (I163_6 E))) (Is.leaf _)) (Is.leaf _)) (Is.leaf _)) (Is.leaf _))
abbrev K163_15 : KT2 (DV × H) := (thenK3 (fun σ h => J163_3 E (σ p0) (σ p1) (σ p4) (σ p12) (σ p13) h) (retK3 D163.res))
theorem I163_4 : Is E C163_4 (blockK3 2 (K163_15 E)) (fun σ h => L163_4 E (σ p0) (σ p1) (σ p4) (σ p12) FUEL (σ p13) h) := Is.lp (fun n4 σ h => L163_4 E (σ p0) (σ p1) (σ p4) (σ p12) n4 (σ p13) h) fun n4 => Is.aq (Is.leaf _)
theorem I163_1 : Is E C163_1 (retK3 D163.res) (fun σ h => J163_1 E (σ p0) (σ p1) (σ p4) (σ p12) (σ p13) h) := Is.aq (Is.sq (I163_3 E) (Is.bk (I163_4 E)))
abbrev K163_16 : KT2 (DV × H) := (thenK3 (fun σ h => J163_1 E (σ p0) (σ p1) (σ p4) (σ p12) (σ p13) h) (retK3 D163.res))
theorem I163_2 : Is E C163_2 (blockK3 0 (K163_16 E)) (fun σ h => L163_2 E (σ p0) (σ p1) (σ p4) (σ p13) FUEL (σ p12) h) := Is.lp (fun n2 σ h => L163_2 E (σ p0) (σ p1) (σ p4) (σ p13) n2 (σ p12) h) fun n2 => Is.aq (Is.leaf _)
theorem I163_0 : iB5 E D163 (J163_0 E) := Is.aq (Is.sq (Is.sq (Is.sq (Is.sq (I163_1 E) (Is.bk (I163_2 E))) (Is.leaf _)) (Is.leaf _)) (Is.leaf _))
def S163 : Fun := fA5 (J163_0 E)
theorem S163_eq : SQ D163 S163 := eB5 I163_0
def D164 := cm 164
def C164_1 := cr (cr D164.body)
def C164_2 := cr C164_1
def J164_2 (E : Env) (r0 r2 : DV) (h : H) : Ans := vK (v_conv .u8 r0) fun x1 => vK (v_ixS (.str [0, 1, 2, 2, 3, 3, 3, 3, 4, 4, 4, 4, 4, 4, 4, 4, 5, 5, 5, 5, 5, 5, 5, 5, 5, 5, 5, 5, 5, 5, 5, 5, 6, 6, 6, 6, 6, 6, 6, 6, 6, 6, 6, 6, 6, 6, 6, 6, 6, 6, 6, 6, 6, 6, 6, 6, 6, 6, 6, 6, 6, 6, 6, 6, 7, 7, 7, 7, 7, 7, 7, 7, 7, 7, 7, 7, 7, 7, 7, 7, 7, 7, 7, 7, 7, 7, 7, 7, 7, 7, 7, 7, 7, 7, 7, 7, 7, 7, 7, 7, 7, 7, 7, 7, 7, 7, 7, 7, 7, 7, 7, 7, 7, 7, 7, 7, 7, 7, 7, 7, 7, 7, 7, 7, 7, 7, 7, 7, 8, 8, 8, 8, 8, 8, 8, 8, 8, 8, 8, 8, 8, 8, 8, 8, 8, 8, 8, 8, 8, 8, 8, 8, 8, 8, 8, 8, 8, 8, 8, 8, 8, 8, 8, 8, 8, 8, 8, 8, 8, 8, 8, 8, 8, 8, 8, 8, 8, 8, 8, 8, 8, 8, 8, 8, 8, 8, 8, 8, 8, 8, 8, 8, 8, 8, 8, 8, 8, 8, 8, 8, 8, 8, 8, 8, 8, 8, 8, 8, 8, 8, 8, 8, 8, 8, 8, 8, 8, 8, 8, 8, 8, 8, 8, 8, 8, 8, 8, 8, 8, 8, 8, 8, 8, 8, 8, 8, 8, 8, 8, 8, 8, 8, 8, 8, 8, 8, 8, 8, 8, 8, 8, 8, 8, 8, 8, 8]) x1) fun x2 => vK (v_conv .i64 x2) fun x3 => vK (v_add r2 x3) fun x4 => some (x4, h)
def J164_1 (r0 r2 : DV) (h : H) : Ans := vK (v_geq r0 (.int .u32 (.ofNat 256))) fun x1 => bK x1 (vK (v_shr r0 (.int .u64 (.ofNat 8))) fun x2 => vK (v_add r2 (ii 8)) fun x3 => J164_2 E x2 x3 h) (J164_2 E r0 r2 h)
def J164_0 (r0 : DV) (h : H) : Ans := vK (v_geq r0 (.int .u32 (.ofNat 65536))) fun x1 => bK x1 (vK (v_shr r0 (.int .u64 (.ofNat 16))) fun x2 => J164_1 E x2 (ii 16) h) (J164_1 E r0 (ii 0) h)
theorem I164_2 : Is E C164_2 (retK3 D164.res) (fun σ h => J164_2 E (σ p0) (σ p2) h) := Is.rf
theorem I164_1 : Is E C164_1 (retK3 D164.res) (fun σ h => J164_1 E (σ p0) (σ p2) h) := Is.aq (Is.sq (I164_2 E) (Is.leaf _))
theorem I164_0 : iB1 E D164 (J164_0 E) := Is.aq (Is.sq (Is.sq (I164_1 E) (Is.leaf _)) (Is.leaf _))
def S164 : Fun := fA1 (J164_0 E)
theorem S164_eq : SQ D164 S164 := eB1 I164_0
def D165 := cm 165
def C165_1 := cr (cr D165.body)
def C165_2 := cr C165_1
def C165_3 := cr C165_2
def J165_3 (E : Env) (r0 r2 : DV) (h : H) : Ans := vK (v_conv .u8 r0) fun x1 => vK (v_ixS (.str [0, 1, 2, 2, 3, 3, 3, 3, 4, 4, 4, 4, 4, 4, 4, 4, 5, 5, 5, 5, 5, 5, 5, 5, 5, 5, 5, 5, 5, 5, 5, 5, 6, 6, 6, 6, 6, 6, 6, 6, 6, 6, 6, 6, 6, 6, 6, 6, 6, 6, 6, 6, 6, 6, 6, 6, 6, 6, 6, 6, 6, 6, 6, 6, 7, 7, 7, 7, 7, 7, 7, 7, 7, 7, 7, 7, 7, 7, 7, 7, 7, 7, 7, 7, 7, 7, 7, 7, 7, 7, 7, 7, 7, 7, 7, 7, 7, 7, 7, 7, 7, 7, 7, 7, 7, 7, 7, 7, 7, 7, 7, 7, 7, 7, 7, 7, 7, 7, 7, 7, 7, 7, 7, 7, 7, 7, 7, 7, 8, 8, 8, 8, 8, 8, 8, 8, 8, 8, 8, 8, 8, 8, 8, 8, 8, 8, 8, 8, 8, 8, 8, 8, 8, 8, 8, 8, 8, 8, 8, 8, 8, 8, 8, 8, 8, 8, 8, 8, 8, 8, 8, 8, 8, 8, 8, 8, 8, 8, 8, 8, 8, 8, 8, 8, 8, 8, 8, 8, 8, 8, 8, 8, 8, 8, 8, 8, 8, 8, 8, 8, 8, 8, 8, 8, 8, 8, 8, 8, 8, 8, 8, 8, 8, 8, 8, 8, 8, 8, 8, 8, 8, 8, 8, 8, 8, 8, 8, 8, 8, 8, 8, 8, 8, 8, 8, 8, 8, 8, 8, 8, 8, 8, 8, 8, 8, 8, 8, 8, 8, 8, 8, 8, 8, 8, 8, 8]) x1) fun x2 => vK (v_conv .i64 x2) fun x3 => vK (v_add r2 x3) fun x4 => some (x4, h)
def J165_2 (r0 r2 : DV) (h : H) : Ans := vK (v_geq r0 (.int .u64 (.ofNat 256))) fun x1 => bK x1 (vK (v_shr r0 (.int .u64 (.ofNat 8))) fun x2 => vK (v_add r2 (ii 8)) fun x3 => J165_3 E x2 x3 h) (J165_3 E r0 r2 h)
def J165_1 (r0 r2 : DV) (h : H) : Ans := vK (v_geq r0 (.int .u64 (.ofNat 65536))) fun x1 => bK x1 (vK (v_shr r0 (.int .u64 (.ofNat 16))) fun x2 => vK (v_add r2 (ii 16)) fun x3 => J165_2 E x2 x3 h) (J165_2 E r0 r2 h)
def J165_0 (r0 : DV) (h : H) : Ans := vK (v_geq r0 (.int .u64 (.ofNat 4294967296))) fun x1 => bK x1 (vK (v_shr r0 (.int .u64 (.ofNat 32))) fun x2 => J165_1 E x2 (ii 32) h) (J165_1 E r0 (ii 0) h)
theorem I165_3 : Is E C165_3 (retK3 D165.res) (fun σ h => J165_3 E (σ p0) (σ p2) h) := Is.rf
theorem I165_2 : Is E C165_2 (retK3 D165.res) (fun σ h => J165_2 E (σ p0) (σ p2) h) := Is.aq (Is.sq (I165_3 E) (Is.leaf _))
theorem I165_1 : Is E C165_1 (retK3 D165.res) (fun σ h => J165_1 E (σ p0) (σ p2) h) := Is.aq (Is.sq (I165_2 E) (Is.leaf _))
theorem I165_0 : iB1 E D165 (J165_0 E) := Is.aq (Is.sq (Is.sq (I165_1 E) (Is.leaf _)) (Is.leaf _))
def S165 : Fun := fA1 (J165_0 E)
theorem S165_eq : SQ D165 S165 := eB1 I165_0
def D166 := cm 166
def C166_1 := cr (cr (cr (cr D166.body)))
def C166_2 := cl (cr (cl (cr (cr (cr D166.body)))))
def J166_1 (E : Env) (r9 : DV) (h : H) : Ans := vK (v_b2s h.get r9) fun x1 => some ((.tup [x1, (ii 0)]), h)
def B166_2 (r30 r31 : DV) (i2 : DV → DV → H → Ans) (r9 r32 : DV) (h : H) : Ans := vK (v_lss r32 r31) fun x1 => bK x1 (vK (v_iaS 1 r30 r32) fun x2 => vK (v_ld h.get x2) fun x3 => wK (dAppendF 1 1 r9 x3 h) fun x4 h5 => vK (v_add r32 (ii 1)) fun x6 => i2 x4 x6 h5) (J166_1 E r9 h)
def L166_2 (r30 r31 : DV) (n : Nat) : DV → DV → H → Ans := Nat.rec (motive := fun _ => DV → DV → H → Ans) (fun _ _ _ => none) (fun _ i => B166_2 E r30 r31 i) n
def J166_0 (r0 r1 r2 : DV) (h : H) : Ans := wK (callK E 212 [r0, r1, r2, (.bool true)] h) fun x1 h2 => vK (v_neq x1 (ii 0)) fun x3 => bK x3 (some ((.tup [(.str []), x1]), h2)) (vK (v_mul r2 (ii 64)) fun x4 => n_mks 1 1 (.int .u8 (.ofNat 0)) (ii 0) x4 h2 fun x5 h6 => vK (v_nilchk r0) fun x7 => vK (v_fa 0 x7) fun x8 => vK (v_ld h6.get x8) fun x9 => vK (v_add r1 r2) fun x10 => vK (v_slL 1 x9 (some r1) (some x10)) fun x11 => vK (v_lenL x11) fun x12 => L166_2 E x11 x12 FUEL x5 (ii 0) h6)
theorem I166_1 : Is E C166_1 (retK3 D166.res) (fun σ h => J166_1 E (σ p9) h) := Is.rf
abbrev K166_3 : KT2 (DV × H) := (thenK3 (fun σ h => J166_1 E (σ p9) h) (retK3 D166.res))
theorem I166_2 : Is E C166_2 (blockK3 0 (K166_3 E)) (fun σ h => L166_2 E (σ p30) (σ p31) FUEL (σ p9) (σ p32) h) := Is.lp (fun n2 σ h => L166_2 E (σ p30) (σ p31) n2 (σ p9) (σ p32) h) fun n2 => Is.aq (Is.leaf _)
theorem I166_0 : iB3 E D166 (J166_0 E) := Is.aq (Is.sq (Is.sq (Is.sq (Is.sq (I166_1 E) (Is.sq (Is.bk (I166_2 E)) (Is.leaf _))) (Is.leaf _)) (Is.leaf _)) (Is.leaf _))
def S166 : Fun := fA3 (J166_0 E)
theorem S166_eq : SQ D166 S166 := eB3 I166_0
def D167 := cm 167
def J167_0 (r0 : DV) (h : H) : Ans := n_alc 4 4 (.list [(.bool false), (ii 0), (ii 0), (ii 0)]) h fun x1 h2 => vK (v_slS r0 none (some (ii 64))) fun x3 => vK (v_slS r0 (some (ii 64)) none) fun x4 => vK (v_slS x3 (some (ii 4)) none) fun x5 => vK (v_slS x3 (some (ii 8)) none) fun x6 => vK (v_slS x3 (some (ii 12)) none) fun x7 => n_alc 4 4 (.list [(.bool false), (ii 0), (ii 0), (ii 0)]) h2 fun x8 h9 => wK (callK E 213 [x5] h9) fun x10 h11 => wK (callK E 213 [x6] h11) fun x12 h13 => vK (v_bld [(ii 0), (ii 0)] [(0, 1, x10), (1, 1, x12)]) fun x14 => wK (callK E 213 [x7] h13) fun x15 h16 => vK (v_bld [(.bool false), (ii 0), (ii 0), (ii 0)] [(0, 1, (.bool true)), (1, 2, x14), (3, 1, x15)]) fun x17 => wK (dStF 4 x8 x17 h16) fun x18 h19 => vK (v_fa 1 x8) fun x20 => vK (v_ldN 2 h19.get x20) fun x21 => wK (callK E 214 [x21] h19) fun x22 h23 => vK (v_not x22) fun x24 => gdK x24 false (fun kk => vK (v_fa 3 x8) fun v => kk v h23) h23 fun x25 h26 => gdK x24 false (fun kk => vK (v_ld h26.get x25) fun v => kk v h26) h26 fun x27 h28 => gdK x24 false (fun kk => vK (v_gtr x27 (ii 512)) fun v => kk v h28) h28 fun x29 h30 => vK (v_pick x24 (.bool true) x29) fun x31 => gdK x31 false (fun kk => vK (v_fa 1 x8) fun v => kk v h30) h30 fun x32 h33 => gdK x31 false (fun kk => vK (v_ldN 2 h33.get x32) fun v => kk v h33) h33 fun x34 h35 => gdK x31 false (fun kk => kk x4 h35) h35 fun x36 h37 => gdK x31 false (fun kk => vK (v_fa 3 x8) fun v => kk v h37) h37 fun x38 h39 => gdK x31 false (fun kk => vK (v_ld h39.get x38) fun v => kk v h39) h39 fun x40 h41 => gdK x31 false (fun kk => vK (v_slS x36 none (some x40)) fun v => kk v h41) h41 fun x42 h43 => gdK x31 false (fun kk => kk x3 h43) h43 fun x44 h45 => gdK x31 false (fun kk => wK (callK E 215 [x34, x42] h45) kk) h45 fun x46 h47 => gdK x31 false (fun kk => vK (v_neq x46 x44) fun v => kk v h47) h47 fun x48 h49 => vK (v_pick x31 (.bool true) x48) fun x50 => bK x50 (vK (v_bld [(.bool false), (ii 0), (ii 0), (ii 0)] []) fun x51 => wK (dStF 4 x1 x51 h49) fun x52 h53 => vK (v_ldN 4 h53.get x1) fun x54 => some (x54, h53)) (vK (v_ldN 4 h49.get x8) fun x55 => wK (dStF 4 x1 x55 h49) fun x56 h57 => vK (v_ldN 4 h57.get x1) fun x58 => some (x58, h57))
theorem I167_0 : iB1 E D167 (J167_0 E) := Is.rf
def S167 : Fun := fA1 (J167_0 E)
theorem S167_eq : SQ D167 S167 := eB1 I167_0
def D168 := cm 168
def J168_0 (r0 r1 : DV) (h : H) : Ans := n_box r1 h fun x1 h2 => vK (v_nilchk r0) fun x3 => vK (v_fa 1 x3) fun x4 => vK (v_ld h2.get x4) fun x5 => wK (callK E 216 [x5, (.fn (.func 217) [] [x1])] h2) fun x6 h7 => some (x6, h7)
theorem I168_0 : iB2 E D168 (J168_0 E) := Is.rf
def S168 : Fun := fA2 (J168_0 E)
theorem S168_eq : SQ D168 S168 := eB2 I168_0
def D169 := cm 169
def J169_0 (r0 r1 : DV) (h : H) : Ans := vK (v_lenL r0) fun x1 => vK (v_geq x1 (ii 2)) fun x2 => gdK x2 true (fun kk => kk r0 h) h fun x3 h4 => gdK x2 true (fun kk => vK (v_lenL x3) fun v => kk v h4) h4 fun x5 h6 => gdK x2 true (fun kk => vK (v_leq x5 (ii 8)) fun v => kk v h6) h6 fun x7 h8 => vK (v_pick x2 x7 (.bool false)) fun x9 => gdK x9 true (fun kk => kk r0 h8) h8 fun x10 h11 => gdK x9 true (fun kk => kk r1 h11) h11 fun x12 h13 => gdK x9 true (fun kk => n_bsl 2 1 [.nils] [(0, 1, x10), (1, 1, x12)] h13 kk) h13 fun x14 h15 => gdK x9 true (fun kk => wK (callK E 218 [x14] h15) kk) h15 fun x16 h17 => vK (v_pick x9 x16 (.bool false)) fun x18 => some (x18, h17)
theorem I169_0 : iB2 E D169 (J169_0 E) := Is.rf
def S169 : Fun := fA2 (J169_0 E)
theorem S169_eq : SQ D169 S169 := eB2 I169_0
def D170 := cm 170
def J170_0 (E : Env) (r0 : DV) (h : H) : Ans := vK (v_lenL r0) fun x1 => n_mks 1 8 (ii 0) x1 x1 h fun x2 h3 => wK (dCopyF 1 x2 r0 h3) fun x4 h5 => some (x2, h5)
theorem I170_0 : iB1 E D170 (J170_0 E) := Is.rf
def S170 : Fun := fA1 (J170_0 E)
theorem S170_eq : SQ D170 S170 := eB1 I170_0
def D171 := cm 171
def J171_0 (r0 r1 r2 : DV) (h : H) : Ans := wK (callK E 111 [r1] h) fun x1 h2 => wK (callK E 111 [r1] h2) fun x3 h4 => wK (callK E 110 [r1] h4) fun x5 h6 => wK (callK E 112 [r1] h6) fun x7 h8 => vK (v_leq x1 r2) fun x9 => gdK x9 false (fun kk => kk x1 h8) h8 fun x10 h11 => gdK x9 false (fun kk => vK (v_geq x10 (ii 256)) fun v => kk v h11) h11 fun x12 h13 => vK (v_pick x9 (.bool true) x12) fun x14 => bK x14 (some ((.tup [(ii 0), (.bool false)]), h13)) (vK (v_nilchk r0) fun x15 => vK (v_fa 0 x15) fun x16 => vK (v_iaA 256 2 x16 x1) fun x17 => vK (v_fa 0 x17) fun x18 => wK (dStF 1 x18 x3 h13) fun x19 h20 => vK (v_eql x5 (ii 1)) fun x21 => bK x21 (vK (v_bld [(.str []), (ii 0)] [(0, 1, x7)]) fun x22 => n_box x22 h20 fun x23 h24 => vK (v_nilchk r0) fun x25 => vK (v_fa 0 x25) fun x26 => vK (v_iaA 256 2 x26 x1) fun x27 => vK (v_fa 1 x27) fun x28 => wK (dStF 1 x28 (.ifc 193 x23) h24) fun x29 h30 => vK (v_nilchk r0) fun x31 => vK (v_fa 513 x31) fun x32 => vK (v_ld h30.get x32) fun x33 => vK (v_lenS x7) fun x34 => vK (v_add x33 x34) fun x35 => vK (v_nilchk r0) fun x36 => vK (v_fa 513 x36) fun x37 => wK (dStF 1 x37 x35 h30) fun x38 h39 => vK (v_lenS x7) fun x40 => vK (v_leq x40 (ii 16384)) fun x41 => some ((.tup [x1, x41]), h39)) (vK (v_eql x5 (ii 2)) fun x42 => bK x42 (wK (callK E 219 [x7] h20) fun x43 h44 => vK (v_ext 0 x43) fun x45 => vK (v_ext 1 x43) fun x46 => vK (v_bld [.nilp] [(0, 1, x45)]) fun x47 => vK (v_nilchk r0) fun x48 => vK (v_fa 0 x48) fun x49 => vK (v_iaA 256 2 x49 x1) fun x50 => vK (v_fa 1 x50) fun x51 => wK (dStF 1 x51 (.ifc 192 x47) h44) fun x52 h53 => vK (v_eql x46 (ii 0)) fun x54 => some ((.tup [x1, x54]), h53)) (some ((.tup [(ii 0), (.bool false)]), h20))))
theorem I171_0 : iB3 E D171 (J171_0 E) := Is.rf
def S171 : Fun := fA3 (J171_0 E)
theorem S171_eq : SQ D171 S171 := eB3 I171_0
def D172 := cm 172
def C172_1 := cr (cr (cr (cr (cr D172.body))))
def C172_2 := cl (cr (cl (cr (cr (cr (cr D172.body))))))
def C172_3 := cr (cr (cr (cl C172_2)))
def J172_1 (r0 r5 : DV) (h : H) : Ans := wK (callK E 222 [r0, (ii 1)] h) fun x1 h2 => vK (v_eql x1 r5) fun x3 => some (x3, h2)
def J172_3 (E : Env) (i2 : DV → DV → H → Ans) (r5 r44 : DV) (h : H) : Ans := vK (v_add r44 (ii 1)) fun x1 => i2 r5 x1 h
def B172_2 (r0 r3 r43 : DV) (i2 : DV → DV → H → Ans) (r5 r44 : DV) (h : H) : Ans := vK (v_lss r44 (ii 256)) fun x1 => bK x1 (vK (v_ixA 256 2 true r43 r44) fun x2 => n_alc 2 2 (.list [(ii 0), .nili]) h fun x3 h4 => wK (dStF 2 x3 x2 h4) fun x5 h6 => vK (v_fa 1 x3) fun x7 => vK (v_ld h6.get x7) fun x8 => vK (v_tas 193 .nilp true x8) fun x9 => vK (v_ext 1 x9) fun x10 => vK (v_ext 0 x9) fun x11 => bK x10 (vK (v_iaS 1 r3 r44) fun x12 => vK (v_ld h6.get x12) fun x13 => vK (v_nilchk x11) fun x14 => vK (v_fa 1 x14) fun x15 => wK (dStF 1 x15 x13 h6) fun x16 h17 => vK (v_nilchk x11) fun x18 => vK (v_fa 1 x18) fun x19 => vK (v_ld h17.get x19) fun x20 => vK (v_lss x20 (ii 1)) fun x21 => gdK x21 false (fun kk => kk x11 h17) h17 fun x22 h23 => gdK x21 false (fun kk => vK (v_nilchk x22) fun v => kk v h23) h23 fun x24 h25 => gdK x21 false (fun kk => vK (v_fa 1 x24) fun v => kk v h25) h25 fun x26 h27 => gdK x21 false (fun kk => vK (v_ld h27.get x26) fun v => kk v h27) h27 fun x28 h29 => gdK x21 false (fun kk => vK (v_gtr x28 (ii 100)) fun v => kk v h29) h29 fun x30 h31 => vK (v_pick x21 (.bool true) x30) fun x32 => bK x32 (some ((.bool false), h31)) (J172_3 E i2 r5 r44 h31)) (vK (v_tas 192 (.agg [.nilp]) true x8) fun x33 => vK (v_ext 1 x33) fun x34 => vK (v_ext 0 x33) fun x35 => bK x34 (n_alc 1 1 (.list [.nilp]) h6 fun x36 h37 => wK (dStF 1 x36 x35 h37) fun x38 h39 => vK (v_add r5 (ii 1)) fun x40 => vK (v_neq r44 (ii 1)) fun x41 => gdK x41 true (fun kk => kk r3 h39) h39 fun x42 h43 => gdK x41 true (fun kk => kk r44 h43) h43 fun x44 h45 => gdK x41 true (fun kk => vK (v_iaS 1 x42 x44) fun v => kk v h45) h45 fun x46 h47 => gdK x41 true (fun kk => vK (v_ld h47.get x46) fun v => kk v h47) h47 fun x48 h49 => gdK x41 true (fun kk => vK (v_neq x48 (ii 1)) fun v => kk v h49) h49 fun x50 h51 => vK (v_pick x41 x50 (.bool false)) fun x52 => bK x52 (some ((.bool false), h51)) (J172_3 E i2 x40 r44 h51)) (J172_3 E i2 r5 r44 h6))) (J172_1 E r0 r5 h)
def L172_2 (r0 r3 r43 : DV) (n : Nat) : DV → DV → H → Ans := Nat.rec (motive := fun _ => DV → DV → H → Ans) (fun _ _ _ => none) (fun _ i => B172_2 E r0 r3 r43 i) n
def J172_0 (r0 : DV) (h : H) : Ans := wK (callK E 220 [r0] h) fun x1 h2 => vK (v_ext 0 x1) fun x3 => vK (v_ext 1 x1) fun x4 => vK (v_not x4) fun x5 => gdK x5 false (fun kk => kk r0 h2) h2 fun x6 h7 => gdK x5 false (fun kk => wK (callK E 120 [x6, (ii 1)] h7) kk) h7 fun x8 h9 => gdK x5 false (fun kk => vK (v_eqv .ptr false h9.get x8 .nilp) fun v => kk v h9) h9 fun x10 h11 => vK (v_pick x5 (.bool true) x10) fun x12 => gdK x12 false (fun kk => kk x3 h11) h11 fun x13 h14 => gdK x12 false (fun kk => vK (v_iaS 1 x13 (ii 1)) fun v => kk v h14) h14 fun x15 h16 => gdK x12 false (fun kk => vK (v_ld h16.get x15) fun v => kk v h16) h16 fun x17 h18 => gdK x12 false (fun kk => vK (v_gtr x17 (ii 0)) fun v => kk v h18) h18 fun x19 h20 => vK (v_pick x12 (.bool true) x19) fun x21 => gdK x21 false (fun kk => kk r0 h20) h20 fun x22 h23 => gdK x21 false (fun kk => vK (v_nilchk x22) fun v => kk v h23) h23 fun x24 h25 => gdK x21 false (fun kk => vK (v_fa 513 x24) fun v => kk v h25) h25 fun x26 h27 => gdK x21 false (fun kk => vK (v_ld h27.get x26) fun v => kk v h27) h27 fun x28 h29 => gdK x21 false (fun kk => vK (v_gtr x28 (ii 65536)) fun v => kk v h29) h29 fun x30 h31 => vK (v_pick x21 (.bool true) x30) fun x32 => gdK x32 false (fun kk => kk r0 h31) h31 fun x33 h34 => gdK x32 false (fun kk => wK (callK E 221 [x33] h34) kk) h34 fun x35 h36 => gdK x32 false (fun kk => vK (v_not x35) fun v => kk v h36) h36 fun x37 h38 => vK (v_pick x32 (.bool true) x37) fun x39 => bK x39 (some ((.bool false), h38)) (vK (v_nilchk r0) fun x40 => vK (v_fa 0 x40) fun x41 => vK (v_ldN 512 h38.get x41) fun x42 => L172_2 E r0 x3 x42 FUEL (ii 0) (ii 0) h38)
theorem I172_1 : Is E C172_1 (retK3 D172.res) (fun σ h => J172_1 E (σ p0) (σ p5) h) := Is.rf
abbrev K172_4 : KT2 (DV × H) := (thenK3 (fun σ h => J172_1 E (σ p0) (σ p5) h) (retK3 D172.res))
abbrev K172_5 (n2 : Nat) : KT2 (DV × H) := (thenK3 (fun σ h => (L172_2 E (σ p0) (σ p3) (σ p43) n2) (σ p5) (σ p44) h) (blockK3 0 (K172_4 E)))
theorem I172_3 (n2 : Nat) : Is E C172_3 (K172_5 E n2) (fun σ h => J172_3 E (L172_2 E (σ p0) (σ p3) (σ p43) n2) (σ p5) (σ p44) h) := Is.rf
theorem I172_2 : Is E C172_2 (blockK3 0 (K172_4 E)) (fun σ h => L172_2 E (σ p0) (σ p3) (σ p43) FUEL (σ p5) (σ p44) h) := Is.lp (fun n2 σ h => L172_2 E (σ p0) (σ p3) (σ p43) n2 (σ p5) (σ p44) h) fun n2 => Is.aq (Is.sq (Is.sq (Is.sq (I172_3 E n2) (Is.leaf _)) (Is.leaf _)) (Is.leaf _))
theorem I172_0 : iB1 E D172 (J172_0 E) := Is.aq (Is.sq (Is.sq (Is.sq (Is.sq (Is.sq (I172_1 E) (Is.sq (Is.bk (I172_2 E)) (Is.leaf _))) (Is.leaf _)) (Is.leaf _)) (Is.leaf _)) (Is.leaf _))
def S172 : Fun := fA1 (J172_0 E)
theorem S172_eq : SQ D172 S172 := eB1 I172_0
def D173 := cm 173
def J173_0 (r0 r1 : DV) (h : H) : Ans := vK (v_eqv .ptr false h.get r0 .nilp) fun x1 => gdK x1 false (fun kk => kk r0 h) h fun x2 h3 => gdK x1 false (fun kk => vK (v_nilchk x2) fun v => kk v h3) h3 fun x4 h5 => gdK x1 false (fun kk => vK (v_fa 1 x4) fun v => kk v h5) h5 fun x6 h7 => gdK x1 false (fun kk => vK (v_ld h7.get x6) fun v => kk v h7) h7 fun x8 h9 => vK (v_pick x1 (.bool true) x8) fun x10 => gdK x10 false (fun kk => kk r1 h9) h9 fun x11 h12 => gdK x10 false (fun kk => vK (v_lss x11 (ii 0)) fun v => kk v h12) h12 fun x13 h14 => vK (v_pick x10 (.bool true) x13) fun x15 => gdK x15 false (fun kk => kk r1 h14) h14 fun x16 h17 => gdK x15 false (fun kk => kk r0 h17) h17 fun x18 h19 => gdK x15 false (fun kk => vK (v_nilchk x18) fun v => kk v h19) h19 fun x20 h21 => gdK x15 false (fun kk => vK (v_fa 0 x20) fun v => kk v h21) h21 fun x22 h23 => gdK x15 false (fun kk => vK (v_ld h23.get x22) fun v => kk v h23) h23 fun x24 h25 => gdK x15 false (fun kk => vK (v_lenS x24) fun v => kk v h25) h25 fun x26 h27 => gdK x15 false (fun kk => vK (v_gtr x16 x26) fun v => kk v h27) h27 fun x28 h29 => vK (v_pick x15 (.bool true) x28) fun x30 => bK x30 (wK (callK E 175 [r0] h29) fun x31 h32 => some ((.tup [(.str []), (.bool false)]), h32)) (vK (v_nilchk r0) fun x33 => vK (v_fa 0 x33) fun x34 => vK (v_ld h29.get x34) fun x35 => vK (v_slS x35 none (some r1)) fun x36 => vK (v_nilchk r0) fun x37 => vK (v_fa 0 x37) fun x38 => vK (v_ld h29.get x38) fun x39 => vK (v_slS x39 (some r1) none) fun x40 => vK (v_nilchk r0) fun x41 => vK (v_fa 0 x41) fun x42 => wK (dStF 1 x42 x40 h29) fun x43 h44 => some ((.tup [x36, (.bool true)]), h44))
theorem I173_0 : iB2 E D173 (J173_0 E) := Is.rf
def S173 : Fun := fA2 (J173_0 E)
theorem S173_eq : SQ D173 S173 := eB2 I173_0
def D174 := cm 174
def C174_1 := cr (cr (cr D174.body))
def C174_2 := cl (cr (cl (cr (cr D174.body))))
def J174_1 (E : Env) (h : H) : Ans := some ((.tup [(.int .u64 (.ofNat 0)), (ii 0)]), h)
def B174_2 (r0 r9 : DV) (i2 : DV → DV → H → Ans) (r4 r10 : DV) (h : H) : Ans := vK (v_lss r10 r9) fun x1 => bK x1 (vK (v_ixS r0 r10) fun x2 => vK (v_conv .u64 x2) fun x3 => vK (v_and x3 (.int .u64 (.ofNat 127))) fun x4 => vK (v_mul (ii 7) r10) fun x5 => vK (v_shl x4 x5) fun x6 => vK (v_or r4 x6) fun x7 => vK (v_geq x3 (.int .u64 (.ofNat 128))) fun x8 => bK x8 (vK (v_add r10 (ii 1)) fun x9 => i2 x7 x9 h) (vK (v_gtr r10 (ii 0)) fun x10 => gdK x10 true (fun kk => kk x3 h) h fun x11 h12 => gdK x10 true (fun kk => vK (v_eql x11 (.int .u64 (.ofNat 0))) fun v => kk v h12) h12 fun x13 h14 => vK (v_pick x10 x13 (.bool false)) fun x15 => gdK x15 false (fun kk => kk r10 h14) h14 fun x16 h17 => gdK x15 false (fun kk => vK (v_eql x16 (ii 9)) fun v => kk v h17) h17 fun x18 h19 => gdK x15 false (fun kk => kk x18 h19) h19 fun x20 h21 => gdK x20 true (fun kk => kk x3 h21) h21 fun x22 h23 => gdK x20 true (fun kk => vK (v_gtr x22 (.int .u64 (.ofNat 1))) fun v => kk v h23) h23 fun x24 h25 => gdK x15 false (fun kk => vK (v_pick x20 x24 (.bool false)) fun v => kk v h25) h25 fun x26 h27 => vK (v_pick x15 (.bool true) x26) fun x28 => bK x28 (some ((.tup [(.int .u64 (.ofNat 0)), (ii 0)]), h27)) (vK (v_add r10 (ii 1)) fun x29 => some ((.tup [x7, x29]), h27)))) (J174_1 E h)
def L174_2 (r0 r9 : DV) (n : Nat) : DV → DV → H → Ans := Nat.rec (motive := fun _ => DV → DV → H → Ans) (fun _ _ _ => none) (fun _ i => B174_2 E r0 r9 i) n
def J174_0 (r0 : DV) (h : H) : Ans := vK (v_lenS r0) fun x1 => vK (v_mn x1 (ii 10)) fun x2 => L174_2 E r0 x2 FUEL (.int .u64 (.ofNat 0)) (ii 0) h
theorem I174_1 : Is E C174_1 (retK3 D174.res) (fun σ h => J174_1 E h) := Is.rf
abbrev K174_3 : KT2 (DV × H) := (blockK3 0 (thenK3 (fun σ h => J174_1 E h) (retK3 D174.res)))
theorem I174_2 : Is E C174_2 (K174_3 E) (fun σ h => L174_2 E (σ p0) (σ p9) FUEL (σ p4) (σ p10) h) := Is.lp (fun n2 σ h => L174_2 E (σ p0) (σ p9) n2 (σ p4) (σ p10) h) fun n2 => Is.aq (Is.leaf _)
theorem I174_0 : iB1 E D174 (J174_0 E) := Is.aq (Is.sq (Is.sq (Is.sq (I174_1 E) (Is.sq (Is.bk (I174_2 E)) (Is.leaf _))) (Is.leaf _)) (Is.leaf _))
def S174 : Fun := fA1 (J174_0 E)
theorem S174_eq : SQ D174 S174 := eB1 I174_0
def D176 := cm 176
def C176_1 := cr (cr D176.body)
def C176_2 := cl (cr (cl (cr D176.body)))
def J176_1 (E : Env) (h : H) : Ans := some ((ii 0), h)
def B176_2 (r0 : DV) (i2 : DV → H → Ans) (r3 : DV) (h : H) : Ans := vK (v_lss r3 (ii 256)) fun x1 => bK x1 (vK (v_nilchk r0) fun x2 => vK (v_fa 0 x2) fun x3 => vK (v_iaA 256 2 x3 r3) fun x4 => vK (v_fa 1 x4) fun x5 => vK (v_ld h.get x5) fun x6 => vK (v_eqv .nilI false h.get x6 .nili) fun x7 => bK x7 (some (r3, h)) (vK (v_add r3 (ii 1)) fun x8 => i2 x8 h)) (J176_1 E h)
def L176_2 (r0 : DV) (n : Nat) : DV → H → Ans := Nat.rec (motive := fun _ => DV → H → Ans) (fun _ _ => none) (fun _ i => B176_2 E r0 i) n
def J176_0 (r0 : DV) (h : H) : Ans := L176_2 E r0 FUEL (ii 2) h
theorem I176_1 : Is E C176_1 (retK3 D176.res) (fun σ h => J176_1 E h) := Is.rf
abbrev K176_3 : KT2 (DV × H) := (blockK3 0 (thenK3 (fun σ h => J176_1 E h) (retK3 D176.res)))
theorem I176_2 : Is E C176_2 (K176_3 E) (fun σ h => L176_2 E (σ p0) FUEL (σ p3) h) := Is.lp (fun n2 σ h => L176_2 E (σ p0) n2 (σ p3) h) fun n2 => Is.aq (Is.leaf _)
theorem I176_0 : iB1 E D176 (J176_0 E) := Is.aq (Is.sq (Is.sq (I176_1 E) (Is.sq (Is.bk (I176_2 E)) (Is.leaf _))) (Is.leaf _))
def S176 : Fun := fA1 (J176_0 E)
theorem S176_eq : SQ D176 S176 := eB1 I176_0
def D177 := cm 177
def C177_1 := cr (cr (cr (cr (cl (cr D177.body)))))
def C177_2 := cl (cr (cl (cr (cr (cr (cl (cr D177.body)))))))
def C177_3 := cr (cr (cr (cl C177_2)))
def C177_4 := cr (cr (cl (cl (cr (cr (cl C177_2))))))
def C177_5 := cr (cl (cr (cl (cr (cl (cl (cr (cr (cl C177_2)))))))))
def J177_1 (E : Env) (r4 : DV) (h : H) : Ans := some ((.tup [r4, (ii 0)]), h)
def J177_3 (E : Env) (i2 : DV → DV → H → Ans) (r4 r23 : DV) (h : H) : Ans := vK (v_add r23 (ii 1)) fun x1 => i2 r4 x1 h
def J177_4 (i2 : DV → DV → H → Ans) (r4 r6 r23 : DV) (h : H) : Ans := wK (callK E 183 [r6] h) fun x1 h2 => vK (v_not x1) fun x3 => bK x3 (some ((.tup [.nils, (ii 15)]), h2)) (n_bsl 1 1 [(.str [])] [(0, 1, r6)] h2 fun x4 h5 => wK (dAppendF 1 16 r4 x4 h5) fun x6 h7 => J177_3 E i2 x6 r23 h7)
def J177_5 (i2 : DV → DV → H → Ans) (r4 r6 r23 r27 r28 : DV) (h : H) : Ans := bK r28 (J177_3 E i2 r4 r23 h) (vK (v_eql r27 (.str [46, 46])) fun x1 => bK x1 (vK (v_lenL r4) fun x2 => vK (v_sub x2 (ii 1)) fun x3 => vK (v_mx x3 (ii 0)) fun x4 => vK (v_slL 1 r4 none (some x4)) fun x5 => J177_3 E i2 x5 r23 h) (J177_4 E i2 r4 r6 r23 h))
def B177_2 (r21 r22 : DV) (i2 : DV → DV → H → Ans) (r4 r23 : DV) (h : H) : Ans := vK (v_lss r23 r22) fun x1 => bK x1 (vK (v_iaS 1 r21 r23) fun x2 => vK (v_ld h.get x2) fun x3 => vK (v_eql x3 (.str [])) fun x4 => bK x4 (J177_5 E i2 r4 x3 r23 x3 x4 h) (vK (v_eql x3 (.str [46])) fun x5 => J177_5 E i2 r4 x3 r23 x3 x5 h)) (J177_1 E r4 h)
def L177_2 (r21 r22 : DV) (n : Nat) : DV → DV → H → Ans := Nat.rec (motive := fun _ => DV → DV → H → Ans) (fun _ _ _ => none) (fun _ i => B177_2 E r21 r22 i) n
def J177_0 (r0 : DV) (h : H) : Ans := vK (v_eql r0 (.str [])) fun x1 => gdK x1 false (fun kk => kk r0 h) h fun x2 h3 => gdK x1 false (fun kk => vK (v_ixS x2 (ii 0)) fun v => kk v h3) h3 fun x4 h5 => gdK x1 false (fun kk => vK (v_neq x4 (.int .u8 (.ofNat 47))) fun v => kk v h5) h5 fun x6 h7 => vK (v_pick x1 (.bool true) x6) fun x8 => gdK x8 false (fun kk => kk r0 h7) h7 fun x9 h10 => gdK x8 false (fun kk => vK (v_lenS x9) fun v => kk v h10) h10 fun x11 h12 => gdK x8 false (fun kk => vK (v_gtr x11 (ii 255)) fun v => kk v h12) h12 fun x13 h14 => vK (v_pick x8 (.bool true) x13) fun x15 => bK x15 (some ((.tup [.nils, (ii 15)]), h14)) (vK (v_slS r0 (some (ii 1)) none) fun x16 => wK (callK E 223 [x16, (.str [47])] h14) fun x17 h18 => vK (v_lenL x17) fun x19 => L177_2 E x17 x19 FUEL .nils (ii 0) h18)
theorem I177_1 : Is E C177_1 (scopeK3 (retK3 D177.res)) (fun σ h => J177_1 E (σ p4) h) := Is.rf
abbrev K177_6 : KT2 (DV × H) := (thenK3 (fun σ h => J177_1 E (σ p4) h) (scopeK3 (retK3 D177.res)))
abbrev K177_7 (n2 : Nat) : KT2 (DV × H) := (thenK3 (fun σ h => (L177_2 E (σ p21) (σ p22) n2) (σ p4) (σ p23) h) (blockK3 0 (K177_6 E)))
theorem I177_3 (n2 : Nat) : Is E C177_3 (K177_7 E n2) (fun σ h => J177_3 E (L177_2 E (σ p21) (σ p22) n2) (σ p4) (σ p23) h) := Is.rf
abbrev K177_8 (n2 : Nat) : KT2 (DV × H) := (thenK3 (fun σ h => J177_3 E (L177_2 E (σ p21) (σ p22) n2) (σ p4) (σ p23) h) (K177_7 E n2))
theorem I177_4 (n2 : Nat) : Is E C177_4 (blockK3 1 (K177_8 E n2)) (fun σ h => J177_4 E (L177_2 E (σ p21) (σ p22) n2) (σ p4) (σ p6) (σ p23) h) := Is.rf
abbrev K177_9 (n2 : Nat) : KT2 (DV × H) := (thenK3 (fun σ h => J177_4 E (L177_2 E (σ p21) (σ p22) n2) (σ p4) (σ p6) (σ p23) h) (blockK3 1 (K177_8 E n2)))
theorem I177_5 (n2 : Nat) : Is E C177_5 (blockK3 2 (K177_9 E n2)) (fun σ h => J177_5 E (L177_2 E (σ p21) (σ p22) n2) (σ p4) (σ p6) (σ p23) (σ p27) (σ p28) h) := Is.rf
theorem I177_2 : Is E C177_2 (blockK3 0 (K177_6 E)) (fun σ h => L177_2 E (σ p21) (σ p22) FUEL (σ p4) (σ p23) h) := Is.lp (fun n2 σ h => L177_2 E (σ p21) (σ p22) n2 (σ p4) (σ p23) h) fun n2 => Is.aq (Is.sq (Is.sq (Is.sq (I177_3 E n2) (Is.bk (Is.sq (Is.sq (I177_4 E n2) (Is.sq (Is.bk (Is.sq (I177_5 E n2) (Is.leaf _))) (Is.leaf _))) (Is.leaf _)))) (Is.leaf _)) (Is.leaf _))
theorem I177_0 : iB1 E D177 (J177_0 E) := Is.aq (Is.sq (Is.sc (Is.sq (Is.sq (Is.sq (Is.sq (I177_1 E) (Is.sq (Is.bk (I177_2 E)) (Is.leaf _))) (Is.leaf _)) (Is.leaf _)) (Is.leaf _))) (Is.leaf _))
def S177 : Fun := fA1 (J177_0 E)
theorem S177_eq : SQ D177 S177 := eB1 I177_0
def D178 := cm 178
def C178_1 := cr (cr (cr D178.body))
def C178_2 := cl (cr (cl (cr (cr D178.body))))
def J178_1 (E : Env) (r6 : DV) (h : H) : Ans := some ((.tup [r6, (ii 0)]), h)
def B178_2 (r0 r12 r13 : DV) (i2 : DV → DV → H → Ans) (r6 r14 : DV) (h : H) : Ans := vK (v_lss r14 r13) fun x1 => bK x1 (vK (v_iaS 1 r12 r14) fun x2 => vK (v_ld h.get x2) fun x3 => wK (callK E 120 [r0, r6] h) fun x4 h5 => vK (v_eqv .ptr false h5.get x4 .nilp) fun x6 => bK x6 (some ((.tup [(ii 0), (ii 13)]), h5)) (wK (callK E 182 [x4, x3] h5) fun x7 h8 => vK (v_ext 0 x7) fun x9 => vK (v_ext 1 x7) fun x10 => vK (v_neq x10 (ii 0)) fun x11 => bK x11 (some ((.tup [(ii 0), x10]), h8)) (vK (v_add r14 (ii 1)) fun x12 => i2 x9 x12 h8))) (J178_1 E r6 h)
def L178_2 (r0 r12 r13 : DV) (n : Nat) : DV → DV → H → Ans := Nat.rec (motive := fun _ => DV → DV → H → Ans) (fun _ _ _ => none) (fun _ i => B178_2 E r0 r12 r13 i) n
def J178_0 (r0 r1 : DV) (h : H) : Ans := vK (v_lenL r1) fun x1 => L178_2 E r0 r1 x1 FUEL (ii 1) (ii 0) h
theorem I178_1 : Is E C178_1 (retK3 D178.res) (fun σ h => J178_1 E (σ p6) h) := Is.rf
abbrev K178_3 : KT2 (DV × H) := (thenK3 (fun σ h => J178_1 E (σ p6) h) (retK3 D178.res))
theorem I178_2 : Is E C178_2 (blockK3 0 (K178_3 E)) (fun σ h => L178_2 E (σ p0) (σ p12) (σ p13) FUEL (σ p6) (σ p14) h) := Is.lp (fun n2 σ h => L178_2 E (σ p0) (σ p12) (σ p13) n2 (σ p6) (σ p14) h) fun n2 => Is.aq (Is.leaf _)
theorem I178_0 : iB2 E D178 (J178_0 E) := Is.aq (Is.sq (Is.sq (Is.sq (I178_1 E) (Is.sq (Is.bk (I178_2 E)) (Is.leaf _))) (Is.leaf _)) (Is.leaf _))
def S178 : Fun := fA2 (J178_0 E)
theorem S178_eq : SQ D178 S178 := eB2 I178_0
def D179 := cm 179
def J179_0 (r0 r1 : DV) (h : H) : Ans := vK (v_eqv .ptr false h.get r0 .nilp) fun x1 => bK x1 (some ((.tup [(ii 0), (.bool false)]), h)) (vK (v_nilchk r0) fun x2 => vK (v_fa 0 x2) fun x3 => vK (v_ld h.get x3) fun x4 => wK (callK E 224 [x4, r1, (.fn (.func 225) [] [])] h) fun x5 h6 => vK (v_ext 0 x5) fun x7 => vK (v_ext 1 x5) fun x8 => some ((.tup [x7, x8]), h6))
theorem I179_0 : iB2 E D179 (J179_0 E) := Is.rf
def S179 : Fun := fA2 (J179_0 E)
theorem S179_eq : SQ D179 S179 := eB2 I179_0
def D182 := cm 182
def J182_0 (r0 r1 : DV) (h : H) : Ans := wK (callK E 179 [r0, r1] h) fun x1 h2 => vK (v_ext 0 x1) fun x3 => vK (v_ext 1 x1) fun x4 => vK (v_not x4) fun x5 => bK x5 (some ((.tup [(ii 0), (ii 7)]), h2)) (vK (v_nilchk r0) fun x6 => vK (v_fa 0 x6) fun x7 => vK (v_ld h2.get x7) fun x8 => vK (v_iaS 2 x8 x3) fun x9 => vK (v_fa 1 x9) fun x10 => vK (v_ld h2.get x10) fun x11 => some ((.tup [x11, (ii 0)]), h2))
theorem I182_0 : iB2 E D182 (J182_0 E) := Is.rf
def S182 : Fun := fA2 (J182_0 E)
theorem S182_eq : SQ D182 S182 := eB2 I182_0
def D183 := cm 183
def J183_0 (r0 : DV) (h : H) : Ans := vK (v_neq r0 (.str [])) fun x1 => gdK x1 true (fun kk => kk r0 h) h fun x2 h3 => gdK x1 true (fun kk => vK (v_lenS x2) fun v => kk v h3) h3 fun x4 h5 => gdK x1 true (fun kk => vK (v_leq x4 (ii 28)) fun v => kk v h5) h5 fun x6 h7 => vK (v_pick x1 x6 (.bool false)) fun x8 => gdK x8 true (fun kk => kk r0 h7) h7 fun x9 h10 => gdK x8 true (fun kk => vK (v_neq x9 (.str [46])) fun v => kk v h10) h10 fun x11 h12 => vK (v_pick x8 x11 (.bool false)) fun x13 => gdK x13 true (fun kk => kk r0 h12) h12 fun x14 h15 => gdK x13 true (fun kk => vK (v_neq x14 (.str [46, 46])) fun v => kk v h15) h15 fun x16 h17 => vK (v_pick x13 x16 (.bool false)) fun x18 => gdK x18 true (fun kk => kk r0 h17) h17 fun x19 h20 => gdK x18 true (fun kk => wK (callK E 226 [x19, (.int .u8 (.ofNat 47))] h20) kk) h20 fun x21 h22 => gdK x18 true (fun kk => vK (v_lss x21 (ii 0)) fun v => kk v h22) h22 fun x23 h24 => vK (v_pick x18 x23 (.bool false)) fun x25 => gdK x25 true (fun kk => kk r0 h24) h24 fun x26 h27 => gdK x25 true (fun kk => wK (callK E 226 [x26, (.int .u8 (.ofNat 0))] h27) kk) h27 fun x28 h29 => gdK x25 true (fun kk => vK (v_lss x28 (ii 0)) fun v => kk v h29) h29 fun x30 h31 => vK (v_pick x25 x30 (.bool false)) fun x32 => some (x32, h31)
theorem I183_0 : iB1 E D183 (J183_0 E) := Is.rf
def S183 : Fun := fA1 (J183_0 E)
theorem S183_eq : SQ D183 S183 := eB1 I183_0
def D184 := cm 184
def J184_0 (r0 r1 r2 : DV) (h : H) : Ans := vK (v_slL 2 r0 (some r1) none) fun x1 => vK (v_lenL r2) fun x2 => vK (v_eql x2 (ii 0)) fun x3 => bK x3 (some (r0, h)) (vK (v_lenL r0) fun x4 => vK (v_eql r1 x4) fun x5 => bK x5 (wK (dAppendF 2 24 r0 r2 h) fun x6 h7 => some (x6, h7)) (vK (v_add x4 x2) fun x8 => vK (v_capL r0) fun x9 => vK (v_gtr x8 x9) fun x10 => bK x10 (vK (v_slL 2 r0 none (some r1)) fun x11 => vK (v_add x4 x2) fun x12 => vK (v_sub x12 r1) fun x13 => wK (dApz 2 24 [(.str []), (ii 0)] x11 x13 h) fun x14 h15 => vK (v_slL 2 x14 (some r1) none) fun x16 => wK (dCopyF 2 x16 r2 h15) fun x17 h18 => vK (v_add r1 x2) fun x19 => vK (v_slL 2 x14 (some x19) none) fun x20 => vK (v_slL 2 r0 (some r1) none) fun x21 => wK (dCopyF 2 x20 x21 h18) fun x22 h23 => some (x14, h23)) (vK (v_add x4 x2) fun x24 => vK (v_slL 2 r0 none (some x24)) fun x25 => vK (v_add r1 x2) fun x26 => vK (v_slL 2 x25 (some x26) none) fun x27 => vK (v_ovl h.get r2 x27) fun x28 => vK (v_not x28) fun x29 => bK x29 (vK (v_add r1 x2) fun x30 => vK (v_slL 2 x25 (some x30) none) fun x31 => vK (v_slL 2 x25 (some r1) none) fun x32 => wK (dCopyF 2 x31 x32 h) fun x33 h34 => vK (v_slL 2 x25 (some r1) none) fun x35 => wK (dCopyF 2 x35 r2 h34) fun x36 h37 => some (x25, h37)) (vK (v_slL 2 x25 (some x4) none) fun x38 => wK (dCopyF 2 x38 r2 h) fun x39 h40 => vK (v_slL 2 x25 (some r1) none) fun x41 => wK (callK E 228 [x41, x2] h40) fun x42 h43 => some (x25, h43)))))
theorem I184_0 : iB3 E D184 (J184_0 E) := Is.rf
def S184 : Fun := fA3 (J184_0 E)
theorem S184_eq : SQ D184 S184 := eB3 I184_0
def D186 := cm 186
def J186_0 (r0 : DV) (h : H) : Ans := wK (callK E 229 [(.str [0]), r0] h) fun x1 h2 => some (x1, h2)
theorem I186_0 : iB1 E D186 (J186_0 E) := Is.rf
def S186 : Fun := fA1 (J186_0 E)
theorem S186_eq : SQ D186 S186 := eB1 I186_0
def D187 := cm 187
def C187_1 := cr (cr (cr (cr D187.body)))
def C187_2 := cl (cr (cl (cr (cr (cr D187.body)))))
def J187_1 (E : Env) (r3 : DV) (h : H) : Ans := some (r3, h)
def B187_2 (r11 r12 : DV) (i2 : DV → DV → H → Ans) (r3 r13 : DV) (h : H) : Ans := vK (v_lss r13 r12) fun x1 => bK x1 (vK (v_iaS 2 r11 r13) fun x2 => vK (v_ldN 2 h.get x2) fun x3 => n_alc 2 2 (.list [(.str []), (ii 0)]) h fun x4 h5 => wK (dStF 2 x4 x3 h5) fun x6 h7 => vK (v_fa 0 x4) fun x8 => vK (v_ld h7.get x8) fun x9 => n_bsl 1 1 [(.str [])] [(0, 1, x9)] h7 fun x10 h11 => wK (dAppendF 1 16 r3 x10 h11) fun x12 h13 => vK (v_add r13 (ii 1)) fun x14 => i2 x12 x14 h13) (J187_1 E r3 h)
def L187_2 (r11 r12 : DV) (n : Nat) : DV → DV → H → Ans := Nat.rec (motive := fun _ => DV → DV → H → Ans) (fun _ _ _ => none) (fun _ i => B187_2 E r11 r12 i) n
def J187_0 (r0 : DV) (h : H) : Ans := vK (v_eqv .ptr false h.get r0 .nilp) fun x1 => bK x1 (some (.nils, h)) (vK (v_nilchk r0) fun x2 => vK (v_fa 0 x2) fun x3 => vK (v_ld h.get x3) fun x4 => vK (v_lenL x4) fun x5 => L187_2 E x4 x5 FUEL .nils (ii 0) h)
theorem I187_1 : Is E C187_1 (retK3 D187.res) (fun σ h => J187_1 E (σ p3) h) := Is.rf
abbrev K187_3 : KT2 (DV × H) := (thenK3 (fun σ h => J187_1 E (σ p3) h) (retK3 D187.res))
theorem I187_2 : Is E C187_2 (blockK3 0 (K187_3 E)) (fun σ h => L187_2 E (σ p11) (σ p12) FUEL (σ p3) (σ p13) h) := Is.lp (fun n2 σ h => L187_2 E (σ p11) (σ p12) n2 (σ p3) (σ p13) h) fun n2 => Is.aq (Is.leaf _)
theorem I187_0 : iB1 E D187 (J187_0 E) := Is.aq (Is.sq (Is.sq (Is.sq (Is.sq (I187_1 E) (Is.sq (Is.bk (I187_2 E)) (Is.leaf _))) (Is.leaf _)) (Is.leaf _)) (Is.leaf _))
def S187 : Fun := fA1 (J187_0 E)
theorem S187_eq : SQ D187 S187 := eB1 I187_0
def D189 := cm 189
def J189_0 (E : Env) (r0 : DV) (h : H) : Ans := vK (v_nilchk r0) fun x1 => vK (v_fa 0 x1) fun x2 => vK (v_nilchk r0) fun x3 => vK (v_fa 1 x3) fun x4 => vK (v_nilchk r0) fun x5 => vK (v_fa 2 x5) fun x6 => vK (v_nilchk r0) fun x7 => vK (v_fa 3 x7) fun x8 => vK (v_nilchk r0) fun x9 => vK (v_fa 4 x9) fun x10 => vK (v_nilchk r0) fun x11 => vK (v_fa 5 x11) fun x12 => vK (v_nilchk r0) fun x13 => vK (v_fa 6 x13) fun x14 => vK (v_nilchk r0) fun x15 => vK (v_fa 7 x15) fun x16 => n_bsl 8 1 [.nilp] [(0, 1, x2), (1, 1, x4), (2, 1, x6), (3, 1, x8), (4, 1, x10), (5, 1, x12), (6, 1, x14), (7, 1, x16)] h fun x17 h18 => some (x17, h18)
theorem I189_0 : iB1 E D189 (J189_0 E) := Is.rf
def S189 : Fun := fA1 (J189_0 E)
theorem S189_eq : SQ D189 S189 := eB1 I189_0
def D190 := cm 190
def J190_0 (r0 : DV) (h : H) : Ans := wK (callK E 230 [r0, (.fn (.func 111) [r0] [])] h) fun x1 h2 => some (x1, h2)
theorem I190_0 : iB1 E D190 (J190_0 E) := Is.rf
def S190 : Fun := fA1 (J190_0 E)
theorem S190_eq : SQ D190 S190 := eB1 I190_0
def D191 := cm 191
def C191_1 := cr (cr D191.body)
def J191_1 (r0 r1 : DV) (h : H) : Ans := wK (callK E 30 [(ii 65536)] h) fun x1 h2 => wK (callK E 31 [x1, r1] h2) fun x3 h4 => wK (callK E 231 [x1, r0] h4) fun x5 h6 => wK (callK E 34 [x1] h6) fun x7 h8 => vK (v_ext 0 x7) fun x9 => vK (v_ext 1 x7) fun x10 => some (x9, h8)
def J191_0 (r0 r1 : DV) (h : H) : Ans := vK (v_neq r1 (ii 0)) fun x1 => bK x1 (J191_1 E .nils r1 h) (J191_1 E r0 r1 h)
theorem I191_1 : Is E C191_1 (retK3 D191.res) (fun σ h => J191_1 E (σ p0) (σ p1) h) := Is.rf
theorem I191_0 : iB2 E D191 (J191_0 E) := Is.aq (Is.sq (Is.sq (I191_1 E) (Is.leaf _)) (Is.leaf _))
def S191 : Fun := fA2 (J191_0 E)
theorem S191_eq : SQ D191 S191 := eB2 I191_0
def D192 := cm 192
def C192_1 := cr (cr (cr D192.body))
def C192_2 := cl (cr (cl (cr (cr D192.body))))
def J192_1 (r2 r4 r5 : DV) (h : H) : Ans := vK (v_ldN 8 h.get r5) fun x1 => wK (callK E 133 [x1] h) fun x2 h3 => vK (v_ext 0 x2) fun x4 => vK (v_ext 1 x2) fun x5 => vK (v_neq x5 (ii 0)) fun x6 => gdK x6 false (fun kk => kk r4 h3) h3 fun x7 h8 => gdK x6 false (fun kk => wK (callK E 113 [x7] h8) kk) h8 fun x9 h10 => gdK x6 false (fun kk => vK (v_neq x9 (ii 0)) fun v => kk v h10) h10 fun x11 h12 => vK (v_pick x6 (.bool true) x11) fun x13 => bK x13 (vK (v_bld [(ii 0), (ii 0), (ii 0), (ii 0), (ii 0), (ii 0), (ii 0), (ii 0)] []) fun x14 => wK (dStF 8 r2 x14 h12) fun x15 h16 => vK (v_ldN 8 h16.get r2) fun x17 => some ((.tup [x17, (ii 3)]), h16)) (vK (v_ldN 8 h12.get r5) fun x18 => wK (dStF 8 r2 x18 h12) fun x19 h20 => vK (v_ldN 8 h20.get r2) fun x21 => some ((.tup [x21, (ii 0)]), h20))
def B192_2 (r2 r4 r5 r13 r14 : DV) (i2 : DV → H → Ans) (r15 : DV) (h : H) : Ans := vK (v_lss r15 r14) fun x1 => bK x1 (vK (v_iaS 1 r13 r15) fun x2 => vK (v_ld h.get x2) fun x3 => wK (callK E 111 [r4] h) fun x4 h5 => vK (v_nilchk x3) fun x6 => wK (dStF 1 x6 x4 h5) fun x7 h8 => vK (v_add r15 (ii 1)) fun x9 => i2 x9 h8) (J192_1 E r2 r4 r5 h)
def L192_2 (r2 r4 r5 r13 r14 : DV) (n : Nat) : DV → H → Ans := Nat.rec (motive := fun _ => DV → H → Ans) (fun _ _ => none) (fun _ i => B192_2 E r2 r4 r5 r13 r14 i) n
def J192_0 (r0 : DV) (h : H) : Ans := n_alc 8 8 (.list [(ii 0), (ii 0), (ii 0), (ii 0), (ii 0), (ii 0), (ii 0), (ii 0)]) h fun x1 h2 => wK (callK E 109 [r0] h2) fun x3 h4 => vK (v_bld [(ii 0), (ii 0), (ii 0), (ii 0), (ii 0), (ii 0), (ii 0), (ii 0)] []) fun x5 => n_alc 8 8 (.list [(ii 0), (ii 0), (ii 0), (ii 0), (ii 0), (ii 0), (ii 0), (ii 0)]) h4 fun x6 h7 => wK (dStF 8 x6 x5 h7) fun x8 h9 => wK (callK E 189 [x6] h9) fun x10 h11 => vK (v_lenL x10) fun x12 => L192_2 E x1 x3 x6 x10 x12 FUEL (ii 0) h11
theorem I192_1 : Is E C192_1 (retK3 D192.res) (fun σ h => J192_1 E (σ p2) (σ p4) (σ p5) h) := Is.rf
abbrev K192_3 : KT2 (DV × H) := (thenK3 (fun σ h => J192_1 E (σ p2) (σ p4) (σ p5) h) (retK3 D192.res))
theorem I192_2 : Is E C192_2 (blockK3 0 (K192_3 E)) (fun σ h => L192_2 E (σ p2) (σ p4) (σ p5) (σ p13) (σ p14) FUEL (σ p15) h) := Is.lp (fun n2 σ h => L192_2 E (σ p2) (σ p4) (σ p5) (σ p13) (σ p14) n2 (σ p15) h) fun n2 => Is.aq (Is.leaf _)
theorem I192_0 : iB1 E D192 (J192_0 E) := Is.aq (Is.sq (Is.sq (Is.sq (I192_1 E) (Is.sq (Is.bk (I192_2 E)) (Is.leaf _))) (Is.leaf _)) (Is.leaf _))
def S192 : Fun := fA1 (J192_0 E)
theorem S192_eq : SQ D192 S192 := eB1 I192_0
def D193 := cm 193
def J193_0 (r0 r1 r2 : DV) (h : H) : Ans := vK (v_eqv .ptr false h.get r0 .nilp) fun x1 => gdK x1 false (fun kk => kk r1 h) h fun x2 h3 => gdK x1 false (fun kk => kk r2 h3) h3 fun x4 h5 => gdK x1 false (fun kk => wK (callK E 232 [x2, x4] h5) kk) h5 fun x6 h7 => gdK x1 false (fun kk => vK (v_not x6) fun v => kk v h7) h7 fun x8 h9 => vK (v_pick x1 (.bool true) x8) fun x10 => bK x10 (some ((.tup [(ii 0), (.str [])]), h9)) (wK (callK E 233 [r0, r1, r2] h9) fun x11 h12 => vK (v_ext 0 x11) fun x13 => vK (v_ext 1 x11) fun x14 => vK (v_nilchk r0) fun x15 => vK (v_fa 1 x15) fun x16 => vK (v_ld h12.get x16) fun x17 => vK (v_lkp .int .nils false h12.get x17 r1) fun x18 => gdK x14 true (fun kk => kk x18 h12) h12 fun x19 h20 => gdK x14 true (fun kk => kk x13 h20) h20 fun x21 h22 => gdK x14 true (fun kk => vK (v_iaS 3 x19 x21) fun v => kk v h22) h22 fun x23 h24 => gdK x14 true (fun kk => vK (v_fa 1 x23) fun v => kk v h24) h24 fun x25 h26 => gdK x14 true (fun kk => vK (v_ld h26.get x25) fun v => kk v h26) h26 fun x27 h28 => vK (v_pick x14 x27 (.bool false)) fun x29 => bK x29 (some ((.tup [(ii 3), (.str [])]), h28)) (bK x14 (vK (v_iaS 3 x18 x13) fun x30 => vK (v_fa 2 x30) fun x31 => vK (v_ld h28.get x31) fun x32 => some ((.tup [(ii 2), x32]), h28)) (vK (v_lenL x18) fun x33 => vK (v_nilchk r0) fun x34 => vK (v_fa 0 x34) fun x35 => vK (v_ld h28.get x35) fun x36 => vK (v_eql x33 x36) fun x37 => gdK x37 true (fun kk => kk x13 h28) h28 fun x38 h39 => gdK x37 true (fun kk => vK (v_eql x38 (ii 0)) fun v => kk v h39) h39 fun x40 h41 => vK (v_pick x37 x40 (.bool false)) fun x42 => bK x42 (some ((.tup [(ii 4), (.str [])]), h41)) (vK (v_bld [(ii 0), (.bool false), (.str [])] [(0, 1, r2), (1, 1, (.bool true))]) fun x43 => n_bsl 1 3 [(ii 0), (.bool false), (.str [])] [(0, 3, x43)] h41 fun x44 h45 => wK (callK E 234 [x18, x13, x44] h45) fun x46 h47 => vK (v_nilchk r0) fun x48 => vK (v_fa 1 x48) fun x49 => vK (v_ld h47.get x49) fun x50 => vK (v_lenL x46) fun x51 => vK (v_nilchk r0) fun x52 => vK (v_fa 0 x52) fun x53 => vK (v_ld h47.get x53) fun x54 => vK (v_sub x51 x54) fun x55 => vK (v_mx x55 (ii 0)) fun x56 => vK (v_slL 3 x46 (some x56) none) fun x57 => wK (dMup .int x50 r1 x57 h47) fun x58 h59 => some ((.tup [(ii 1), (.str [])]), h59)))))
theorem I193_0 : iB3 E D193 (J193_0 E) := Is.rf
def S193 : Fun := fA3 (J193_0 E)
theorem S193_eq : SQ D193 S193 := eB3 I193_0
def D194 := cm 194
def J194_0 (E : Env) (r0 : DV) (h : H) : Ans := vK (v_eql r0 (ii 1)) fun x1 => bK x1 (some ((.fn (.func 235) [] []), h)) (vK (v_eql r0 (ii 2)) fun x2 => bK x2 (some ((.fn (.func 236) [] []), h)) (vK (v_eql r0 (ii 3)) fun x3 => bK x3 (some ((.fn (.func 237) [] []), h)) (vK (v_eql r0 (ii 4)) fun x4 => bK x4 (some ((.fn (.func 238) [] []), h)) (vK (v_eql r0 (ii 5)) fun x5 => bK x5 (some ((.fn (.func 239) [] []), h)) (vK (v_eql r0 (ii 6)) fun x6 => bK x6 (some ((.fn (.func 240) [] []), h)) (vK (v_eql r0 (ii 7)) fun x7 => bK x7 (some ((.fn (.func 241) [] []), h)) (vK (v_eql r0 (ii 8)) fun x8 => bK x8 (some ((.fn (.func 242) [] []), h)) (some ((.fn (.func 243) [] []), h)))))))))
theorem I194_0 : iB1 E D194 (J194_0 E) := Is.rf
def S194 : Fun := fA1 (J194_0 E)
theorem S194_eq : SQ D194 S194 := eB1 I194_0
def D195 := cm 195
def J195_0 (r0 r1 r2 r3 : DV) (h : H) : Ans := vK (v_eqv .ptr false h.get r0 .nilp) fun x1 => gdK x1 false (fun kk => kk r1 h) h fun x2 h3 => gdK x1 false (fun kk => kk r2 h3) h3 fun x4 h5 => gdK x1 false (fun kk => wK (callK E 232 [x2, x4] h5) kk) h5 fun x6 h7 => gdK x1 false (fun kk => vK (v_not x6) fun v => kk v h7) h7 fun x8 h9 => vK (v_pick x1 (.bool true) x8) fun x10 => gdK x10 false (fun kk => kk r3 h9) h9 fun x11 h12 => gdK x10 false (fun kk => vK (v_lenS x11) fun v => kk v h12) h12 fun x13 h14 => gdK x10 false (fun kk => vK (v_gtr x13 (ii 4096)) fun v => kk v h14) h14 fun x15 h16 => vK (v_pick x10 (.bool true) x15) fun x17 => bK x17 (some ((.bool false), h16)) (wK (callK E 233 [r0, r1, r2] h16) fun x18 h19 => vK (v_ext 0 x18) fun x20 => vK (v_ext 1 x18) fun x21 => vK (v_not x21) fun x22 => gdK x22 false (fun kk => kk r0 h19) h19 fun x23 h24 => gdK x22 false (fun kk => vK (v_nilchk x23) fun v => kk v h24) h24 fun x25 h26 => gdK x22 false (fun kk => vK (v_fa 1 x25) fun v => kk v h26) h26 fun x27 h28 => gdK x22 false (fun kk => vK (v_ld h28.get x27) fun v => kk v h28) h28 fun x29 h30 => gdK x22 false (fun kk => kk r1 h30) h30 fun x31 h32 => gdK x22 false (fun kk => vK (v_lkp .int .nils false h32.get x29 x31) fun v => kk v h32) h32 fun x33 h34 => gdK x22 false (fun kk => kk x20 h34) h34 fun x35 h36 => gdK x22 false (fun kk => vK (v_iaS 3 x33 x35) fun v => kk v h36) h36 fun x37 h38 => gdK x22 false (fun kk => vK (v_fa 1 x37) fun v => kk v h38) h38 fun x39 h40 => gdK x22 false (fun kk => vK (v_ld h40.get x39) fun v => kk v h40) h40 fun x41 h42 => gdK x22 false (fun kk => vK (v_not x41) fun v => kk v h42) h42 fun x43 h44 => vK (v_pick x22 (.bool true) x43) fun x45 => bK x45 (some ((.bool false), h44)) (vK (v_nilchk r0) fun x46 => vK (v_fa 1 x46) fun x47 => vK (v_ld h44.get x47) fun x48 => vK (v_lkp .int .nils false h44.get x48 r1) fun x49 => vK (v_bld [(ii 0), (.bool false), (.str [])] [(0, 1, r2), (2, 1, r3)]) fun x50 => vK (v_iaS 3 x49 x20) fun x51 => wK (dStF 3 x51 x50 h44) fun x52 h53 => some ((.bool true), h53)))
theorem I195_0 : iB4 E D195 (J195_0 E) := Is.rf
def S195 : Fun := fA4 (J195_0 E)
theorem S195_eq : SQ D195 S195 := eB4 I195_0
def D196 := cm 196
def C196_1 := cr (cr (cr (cr D196.body)))
def C196_2 := cl (cr (cl (cr (cr (cr D196.body)))))
def J196_1 (E : Env) (h : H) : Ans := some ((.bool true), h)
def B196_2 (r0 r1 r32 : DV) (i2 : DV → H → Ans) (r33 : DV) (h : H) : Ans := vK (v_lss r33 r32) fun x1 => bK x1 (vK (v_nilchk r0) fun x2 => vK (v_fa 0 x2) fun x3 => vK (v_iaA 512 1 x3 r33) fun x4 => vK (v_ld h.get x4) fun x5 => vK (v_ixS r1 r33) fun x6 => vK (v_xor x5 x6) fun x7 => vK (v_nilchk r0) fun x8 => vK (v_fa 0 x8) fun x9 => vK (v_iaA 512 1 x9 r33) fun x10 => wK (dStF 1 x10 x7 h) fun x11 h12 => vK (v_add r33 (ii 1)) fun x13 => i2 x13 h12) (J196_1 E h)
def L196_2 (r0 r1 r32 : DV) (n : Nat) : DV → H → Ans := Nat.rec (motive := fun _ => DV → H → Ans) (fun _ _ => none) (fun _ i => B196_2 E r0 r1 r32 i) n
def J196_0 (r0 r1 r2 : DV) (h : H) : Ans := vK (v_lenS r1) fun x1 => vK (v_gtr x1 (ii 512)) fun x2 => gdK x2 false (fun kk => kk r2 h) h fun x3 h4 => gdK x2 false (fun kk => vK (v_not x3) fun v => kk v h4) h4 fun x5 h6 => gdK x2 false (fun kk => kk x5 h6) h6 fun x7 h8 => gdK x7 true (fun kk => kk r1 h8) h8 fun x9 h10 => gdK x7 true (fun kk => vK (v_lenS x9) fun v => kk v h10) h10 fun x11 h12 => gdK x7 true (fun kk => kk r0 h12) h12 fun x13 h14 => gdK x7 true (fun kk => vK (v_nilchk x13) fun v => kk v h14) h14 fun x15 h16 => gdK x7 true (fun kk => vK (v_fa 512 x15) fun v => kk v h16) h16 fun x17 h18 => gdK x7 true (fun kk => vK (v_ld h18.get x17) fun v => kk v h18) h18 fun x19 h20 => gdK x7 true (fun kk => vK (v_neq x11 x19) fun v => kk v h20) h20 fun x21 h22 => gdK x2 false (fun kk => vK (v_pick x7 x21 (.bool false)) fun v => kk v h22) h22 fun x23 h24 => vK (v_pick x2 (.bool true) x23) fun x25 => bK x25 (some ((.bool false), h24)) (vK (v_lenS r1) fun x26 => vK (v_nilchk r0) fun x27 => vK (v_fa 512 x27) fun x28 => wK (dStF 1 x28 x26 h24) fun x29 h30 => vK (v_nilchk r0) fun x31 => vK (v_fa 512 x31) fun x32 => vK (v_ld h30.get x32) fun x33 => L196_2 E r0 r1 x33 FUEL (ii 0) h30)
theorem I196_1 : Is E C196_1 (retK3 D196.res) (fun σ h => J196_1 E h) := Is.rf
abbrev K196_3 : KT2 (DV × H) := (blockK3 0 (thenK3 (fun σ h => J196_1 E h) (retK3 D196.res)))
theorem I196_2 : Is E C196_2 (K196_3 E) (fun σ h => L196_2 E (σ p0) (σ p1) (σ p32) FUEL (σ p33) h) := Is.lp (fun n2 σ h => L196_2 E (σ p0) (σ p1) (σ p32) n2 (σ p33) h) fun n2 => Is.aq (Is.leaf _)
theorem I196_0 : iB3 E D196 (J196_0 E) := Is.aq (Is.sq (Is.sq (Is.sq (Is.sq (I196_1 E) (Is.sq (Is.bk (I196_2 E)) (Is.leaf _))) (Is.leaf _)) (Is.leaf _)) (Is.leaf _))
def S196 : Fun := fA3 (J196_0 E)
theorem S196_eq : SQ D196 S196 := eB3 I196_0
def D197 := cm 197
def J197_0 (r0 r1 r2 : DV) (h : H) : Ans := wK (callK E 244 [r0, r1] h) fun x1 h2 => vK (v_ext 0 x1) fun x3 => vK (v_ext 1 x1) fun x4 => vK (v_neq x4 (ii 0)) fun x5 => gdK x5 false (fun kk => kk r2 h2) h2 fun x6 h7 => gdK x5 false (fun kk => vK (v_lss x6 (ii 0)) fun v => kk v h7) h7 fun x8 h9 => vK (v_pick x5 (.bool true) x8) fun x10 => gdK x10 false (fun kk => kk r2 h9) h9 fun x11 h12 => gdK x10 false (fun kk => kk x3 h12) h12 fun x13 h14 => gdK x10 false (fun kk => vK (v_lenL x13) fun v => kk v h14) h14 fun x15 h16 => gdK x10 false (fun kk => vK (v_geq x11 x15) fun v => kk v h16) h16 fun x17 h18 => vK (v_pick x10 (.bool true) x17) fun x19 => bK x19 (some ((.tup [(ii 0), (ii 1)]), h18)) (vK (v_iaS 1 x3 r2) fun x20 => vK (v_ld h18.get x20) fun x21 => some ((.tup [x21, (ii 0)]), h18))
theorem I197_0 : iB3 E D197 (J197_0 E) := Is.rf
def S197 : Fun := fA3 (J197_0 E)
theorem S197_eq : SQ D197 S197 := eB3 I197_0
def D198 := cm 198
def J198_0 (E : Env) (h : H) : Ans := none
theorem I198_0 : iB1 E D198 (fun _ h => J198_0 E h) := Is.rf
def S198 : Fun := fA1 (fun _ h => J198_0 E h)
theorem S198_eq : SQ D198 S198 := eB1 I198_0
def D200 := cm 200
def C200_1 := cr (cr (cr D200.body))
def C200_2 := cr C200_1
def J200_2 (E : Env) (r5 : DV) (h : H) : Ans := vK (v_nilchk r5) fun x1 => vK (v_fa 1 x1) fun x2 => vK (v_ld h.get x2) fun x3 => some (x3, h)
def J200_1 (r5 : DV) (h : H) : Ans := vK (v_nilchk r5) fun x1 => vK (v_fa 2 x1) fun x2 => vK (v_ld h.get x2) fun x3 => gdK x3 false (fun kk => kk r5 h) h fun x4 h5 => gdK x3 false (fun kk => vK (v_nilchk x4) fun v => kk v h5) h5 fun x6 h7 => gdK x3 false (fun kk => vK (v_fa 3 x6) fun v => kk v h7) h7 fun x8 h9 => gdK x3 false (fun kk => vK (v_ld h9.get x8) fun v => kk v h9) h9 fun x10 h11 => vK (v_pick x3 (.bool true) x10) fun x12 => bK x12 (none) (J200_2 E r5 h11)
def J200_0 (r0 r1 : DV) (h : H) : Ans := wK (callK E 245 [r0, r1] h) fun x1 h2 => vK (v_eqv .ptr false h2.get x1 .nilp) fun x3 => bK x3 (none) (J200_1 E x1 h2)
theorem I200_2 : Is E C200_2 (retK3 D200.res) (fun σ h => J200_2 E (σ p5) h) := Is.rf
theorem I200_1 : Is E C200_1 (retK3 D200.res) (fun σ h => J200_1 E (σ p5) h) := Is.aq (Is.sq (I200_2 E) (Is.leaf _))
theorem I200_0 : iB2 E D200 (J200_0 E) := Is.aq (Is.sq (Is.sq (Is.sq (I200_1 E) (Is.leaf _)) (Is.leaf _)) (Is.leaf _))
def S200 : Fun := fA2 (J200_0 E)
theorem S200_eq : SQ D200 S200 := eB2 I200_0
def D201 := cm 201
def C201_1 := cr (cr (cr (cr (cr (cr D201.body)))))
def J201_1 (E : Env) (r12 : DV) (h : H) : Ans := some (r12, h)
def J201_0 (r0 r1 r2 r3 : DV) (h : H) : Ans := n_box r1 h fun x1 h2 => vK (v_eqv .ptr false h2.get r0 .nilp) fun x3 => gdK x3 false (fun kk => vK (v_ldN 2 h2.get x1) fun v => kk v h2) h2 fun x4 h5 => gdK x3 false (fun kk => wK (callK E 214 [x4] h5) kk) h5 fun x6 h7 => gdK x3 false (fun kk => vK (v_not x6) fun v => kk v h7) h7 fun x8 h9 => vK (v_pick x3 (.bool true) x8) fun x10 => bK x10 (some ((ii 1), h9)) (vK (v_lenS r2) fun x11 => vK (v_gtr x11 (ii 512)) fun x12 => bK x12 (some ((ii 2), h9)) (wK (callK E 246 [r0] h9) fun x13 h14 => vK (v_lss x13 (ii 0)) fun x15 => bK x15 (some ((ii 5), h14)) (vK (v_ldN 2 h14.get x1) fun x16 => wK (callK E 168 [r0, x16] h14) fun x17 h18 => vK (v_geq x17 (ii 0)) fun x19 => bK x19 (some ((ii 6), h18)) (vK (v_nilchk r0) fun x20 => vK (v_fa 2 x20) fun x21 => vK (v_ld h18.get x21) fun x22 => bK x22 (some ((ii 16), h18)) (wK (callK E 246 [r0] h18) fun x23 h24 => wK (callK E 127 [r2, (ii 512)] h24) fun x25 h26 => vK (v_ext 0 x25) fun x27 => vK (v_ext 1 x25) fun x28 => vK (v_mul x23 (ii 9)) fun x29 => vK (v_add x29 (ii 1)) fun x30 => vK (v_mul x23 (ii 9)) fun x31 => vK (v_ldN 2 h26.get x1) fun x32 => wK (callK E 248 [r0, x30, x27] h26) fun x33 h34 => rK (rcK (v_ldN 2 h34.get x1) x32) <| wK (callK E 215 [x32, r2] h34) fun x35 h36 => wK (callK E 248 [r0, x31, x35] h36) fun x37 h38 => n_bsl 4 1 [.nilf] [(0, 1, x33), (1, 1, (.fn (.func 249) [r0] [])), (2, 1, x37), (3, 1, (.fn (.func 249) [r0] []))] h38 fun x39 h40 => wK (callK E 247 [r0, r3, x39] h40) fun x41 h42 => vK (v_eql x41 (ii 0)) fun x43 => bK x43 (vK (v_nilchk r0) fun x44 => vK (v_fa 1 x44) fun x45 => vK (v_ld h42.get x45) fun x46 => vK (v_ldN 2 h42.get x1) fun x47 => vK (v_lenS r2) fun x48 => vK (v_bld [(.bool false), (ii 0), (ii 0), (ii 0)] [(0, 1, (.bool true)), (1, 2, x47), (3, 1, x48)]) fun x49 => vK (v_iaS 4 x46 x23) fun x50 => wK (dStF 4 x50 x49 h42) fun x51 h52 => J201_1 E x41 h52) (J201_1 E x41 h42))))))
theorem I201_1 : Is E C201_1 (retK3 D201.res) (fun σ h => J201_1 E (σ p12) h) := Is.rf
theorem I201_0 : iB4 E D201 (J201_0 E) := Is.aq (Is.sq (Is.sq (Is.sq (Is.sq (Is.sq (Is.sq (I201_1 E) (Is.leaf _)) (Is.leaf _)) (Is.leaf _)) (Is.leaf _)) (Is.leaf _)) (Is.leaf _))
def S201 : Fun := fA4 (J201_0 E)
theorem S201_eq : SQ D201 S201 := eB4 I201_0
def D202 := cm 202
def J202_0 (E : Env) (h : H) : Ans := none
theorem I202_0 : iB1 E D202 (fun _ h => J202_0 E h) := Is.rf
def S202 : Fun := fA1 (fun _ h => J202_0 E h)
theorem S202_eq : SQ D202 S202 := eB1 I202_0
def D203 := cm 203
def C203_1 := cr (cr (cr (cr (cr (cr D203.body)))))
def J203_1 (E : Env) (r8 : DV) (h : H) : Ans := some (r8, h)
def J203_0 (r0 r1 r2 : DV) (h : H) : Ans := n_box r1 h fun x1 h2 => vK (v_eqv .ptr false h2.get r0 .nilp) fun x3 => bK x3 (some ((ii 1), h2)) (vK (v_ldN 2 h2.get x1) fun x4 => wK (callK E 168 [r0, x4] h2) fun x5 h6 => vK (v_lss x5 (ii 0)) fun x7 => bK x7 (some ((ii 7), h6)) (vK (v_nilchk r0) fun x8 => vK (v_fa 2 x8) fun x9 => vK (v_ld h6.get x9) fun x10 => bK x10 (some ((ii 16), h6)) (vK (v_mul x5 (ii 9)) fun x11 => n_mks 1 1 (.int .u8 (.ofNat 0)) (ii 64) (ii 64) h6 fun x12 h13 => vK (v_b2s h13.get x12) fun x14 => wK (callK E 248 [r0, x11, x14] h13) fun x15 h16 => n_bsl 2 1 [.nilf] [(0, 1, x15), (1, 1, (.fn (.func 249) [r0] []))] h16 fun x17 h18 => wK (callK E 247 [r0, r2, x17] h18) fun x19 h20 => vK (v_eql x19 (ii 0)) fun x21 => bK x21 (vK (v_nilchk r0) fun x22 => vK (v_fa 1 x22) fun x23 => vK (v_ld h20.get x23) fun x24 => vK (v_bld [(.bool false), (ii 0), (ii 0), (ii 0)] []) fun x25 => vK (v_iaS 4 x24 x5) fun x26 => wK (dStF 4 x26 x25 h20) fun x27 h28 => J203_1 E x19 h28) (J203_1 E x19 h20))))
theorem I203_1 : Is E C203_1 (retK3 D203.res) (fun σ h => J203_1 E (σ p8) h) := Is.rf
theorem I203_0 : iB3 E D203 (J203_0 E) := Is.aq (Is.sq (Is.sq (Is.sq (Is.sq (Is.sq (Is.sq (I203_1 E) (Is.leaf _)) (Is.leaf _)) (Is.leaf _)) (Is.leaf _)) (Is.leaf _)) (Is.leaf _))
def S203 : Fun := fA3 (J203_0 E)
theorem S203_eq : SQ D203 S203 := eB3 I203_0
def D204 := cm 204
def C204_1 := cr (cr (cr D204.body))
def C204_2 := cl (cr (cl (cr (cr D204.body))))
def J204_1 (E : Env) (r5 : DV) (h : H) : Ans := vK (v_xor (.int .u32 (.ofNat 4294967295)) r5) fun x1 => some (x1, h)
def B204_2 (r1 r10 : DV) (i2 : DV → DV → H → Ans) (r5 r11 : DV) (h : H) : Ans := vK (v_lss r11 r10) fun x1 => bK x1 (vK (v_ixS r1 r11) fun x2 => vK (v_conv .u32 x2) fun x3 => vK (v_xor r5 x3) fun x4 => wK (callK E 250 [x4] h) fun x5 h6 => vK (v_add r11 (ii 1)) fun x7 => i2 x5 x7 h6) (J204_1 E r5 h)
def L204_2 (r1 r10 : DV) (n : Nat) : DV → DV → H → Ans := Nat.rec (motive := fun _ => DV → DV → H → Ans) (fun _ _ _ => none) (fun _ i => B204_2 E r1 r10 i) n
def J204_0 (r0 r1 : DV) (h : H) : Ans := vK (v_xor (.int .u32 (.ofNat 4294967295)) r0) fun x1 => vK (v_lenS r1) fun x2 => L204_2 E r1 x2 FUEL x1 (ii 0) h
theorem I204_1 : Is E C204_1 (retK3 D204.res) (fun σ h => J204_1 E (σ p5) h) := Is.rf
abbrev K204_3 : KT2 (DV × H) := (thenK3 (fun σ h => J204_1 E (σ p5) h) (retK3 D204.res))
theorem I204_2 : Is E C204_2 (blockK3 0 (K204_3 E)) (fun σ h => L204_2 E (σ p1) (σ p10) FUEL (σ p5) (σ p11) h) := Is.lp (fun n2 σ h => L204_2 E (σ p1) (σ p10) n2 (σ p5) (σ p11) h) fun n2 => Is.aq (Is.leaf _)
theorem I204_0 : iB2 E D204 (J204_0 E) := Is.aq (Is.sq (Is.sq (Is.sq (I204_1 E) (Is.sq (Is.bk (I204_2 E)) (Is.leaf _))) (Is.leaf _)) (Is.leaf _))
def S204 : Fun := fA2 (J204_0 E)
theorem S204_eq : SQ D204 S204 := eB2 I204_0
def D205 := cm 205
def J205_0 (r0 r1 : DV) (h : H) : Ans := n_alc 6 6 (.list [(ii 0), (ii 0), (ii 0), (ii 0), (ii 0), .nils]) h fun x1 h2 => wK (callK E 251 [r0, r1] h2) fun x3 h4 => vK (v_eqv .ptr false h4.get x3 .nilp) fun x5 => bK x5 (vK (v_bld [(ii 0), (ii 0), (ii 0), (ii 0), (ii 0), .nils] []) fun x6 => wK (dStF 6 x1 x6 h4) fun x7 h8 => vK (v_ldN 6 h8.get x1) fun x9 => some ((.tup [x9, (.bool false)]), h8)) (vK (v_nilchk x3) fun x10 => vK (v_ldN 6 h4.get x10) fun x11 => n_alc 6 6 (.list [(ii 0), (ii 0), (ii 0), (ii 0), (ii 0), .nils]) h4 fun x12 h13 => wK (dStF 6 x12 x11 h13) fun x14 h15 => vK (v_fa 5 x12) fun x16 => vK (v_ld h15.get x16) fun x17 => wK (callK E 252 [x17] h15) fun x18 h19 => vK (v_fa 5 x12) fun x20 => wK (dStF 1 x20 x18 h19) fun x21 h22 => vK (v_ldN 6 h22.get x12) fun x23 => wK (dStF 6 x1 x23 h22) fun x24 h25 => vK (v_ldN 6 h25.get x1) fun x26 => some ((.tup [x26, (.bool true)]), h25))
theorem I205_0 : iB2 E D205 (J205_0 E) := Is.rf
def S205 : Fun := fA2 (J205_0 E)
theorem S205_eq : SQ D205 S205 := eB2 I205_0
def D206 := cm 206
def C206_1 := cr (cr D206.body)
def J206_1 (E : Env) (r0 r1 : DV) (h : H) : Ans := vK (v_nilchk r0) fun x1 => vK (v_fa 10 x1) fun x2 => vK (v_ld h.get x2) fun x3 => vK (v_iaS 1 x3 r1) fun x4 => vK (v_ld h.get x4) fun x5 => some (x5, h)
def J206_0 (r0 r1 : DV) (h : H) : Ans := vK (v_nilchk r0) fun x1 => vK (v_fa 9 x1) fun x2 => vK (v_ld h.get x2) fun x3 => vK (v_iaS 1 x3 r1) fun x4 => vK (v_ld h.get x4) fun x5 => vK (v_not x5) fun x6 => bK x6 (vK (v_nilchk r0) fun x7 => vK (v_fa 0 x7) fun x8 => vK (v_ld h.get x8) fun x9 => vK (v_nilchk r0) fun x10 => vK (v_fa 1 x10) fun x11 => vK (v_fa 0 x11) fun x12 => vK (v_ld h.get x12) fun x13 => wK (callK E 253 [x9, x13, r1] h) fun x14 h15 => vK (v_ext 0 x14) fun x16 => vK (v_ext 1 x14) fun x17 => vK (v_nilchk r0) fun x18 => vK (v_fa 8 x18) fun x19 => vK (v_ld h15.get x19) fun x20 => vK (v_nilchk r0) fun x21 => vK (v_fa 9 x21) fun x22 => vK (v_ld h15.get x22) fun x23 => vK (v_iaS 1 x20 r1) fun x24 => wK (dStF 1 x24 x16 h15) fun x25 h26 => vK (v_iaS 1 x23 r1) fun x27 => wK (dStF 1 x27 (.bool true) h26) fun x28 h29 => vK (v_nilchk r0) fun x30 => vK (v_fa 10 x30) fun x31 => vK (v_ld h29.get x31) fun x32 => vK (v_eql x17 (ii 0)) fun x33 => gdK x33 true (fun kk => kk x16 h29) h29 fun x34 h35 => gdK x33 true (fun kk => vK (v_lenS x34) fun v => kk v h35) h35 fun x36 h37 => gdK x33 true (fun kk => kk r0 h37) h37 fun x38 h39 => gdK x33 true (fun kk => vK (v_nilchk x38) fun v => kk v h39) h39 fun x40 h41 => gdK x33 true (fun kk => vK (v_fa 7 x40) fun v => kk v h41) h41 fun x42 h43 => gdK x33 true (fun kk => vK (v_ld h43.get x42) fun v => kk v h43) h43 fun x44 h45 => gdK x33 true (fun kk => vK (v_eql x36 x44) fun v => kk v h45) h45 fun x46 h47 => vK (v_pick x33 x46 (.bool false)) fun x48 => vK (v_iaS 1 x32 r1) fun x49 => wK (dStF 1 x49 x48 h47) fun x50 h51 => J206_1 E r0 r1 h51) (J206_1 E r0 r1 h)
theorem I206_1 : Is E C206_1 (retK3 D206.res) (fun σ h => J206_1 E (σ p0) (σ p1) h) := Is.rf
theorem I206_0 : iB2 E D206 (J206_0 E) := Is.aq (Is.sq (Is.sq (I206_1 E) (Is.leaf _)) (Is.leaf _))
def S206 : Fun := fA2 (J206_0 E)
theorem S206_eq : SQ D206 S206 := eB2 I206_0
def D207 := cm 207
def C207_1 := cl (cr D207.body)
def C207_2 := cr (cr (cr (cl (cl C207_1))))
def J207_2 (i1 : DV → H → Ans) (r0 r3 r4 r10 r11 : DV) (h : H) : Ans := vK (v_add r3 r10) fun x1 => vK (v_iaS 5 r0 x1) fun x2 => vK (v_ldN 5 h.get x2) fun x3 => vK (v_add r3 r11) fun x4 => vK (v_iaS 5 r0 x4) fun x5 => vK (v_ldN 5 h.get x5) fun x6 => wK (c_val E r4 [x3, x6] h) fun x7 h8 => vK (v_lss x7 (ii 0)) fun x9 => vK (v_not x9) fun x10 => bK x10 (some ((.tup []), h8)) (vK (v_add r3 r10) fun x11 => vK (v_add r3 r11) fun x12 => vK (v_add r3 r11) fun x13 => vK (v_iaS 5 r0 x13) fun x14 => vK (v_ldN 5 h8.get x14) fun x15 => vK (v_add r3 r10) fun x16 => vK (v_iaS 5 r0 x16) fun x17 => vK (v_ldN 5 h8.get x17) fun x18 => vK (v_iaS 5 r0 x11) fun x19 => wK (dStF 5 x19 x15 h8) fun x20 h21 => vK (v_iaS 5 r0 x12) fun x22 => wK (dStF 5 x22 x18 h21) fun x23 h24 => i1 r11 h24)
def B207_1 (r0 r2 r3 r4 : DV) (i1 : DV → H → Ans) (r10 : DV) (h : H) : Ans := vK (v_mul (ii 2) r10) fun x1 => vK (v_add x1 (ii 1)) fun x2 => vK (v_geq x2 r2) fun x3 => bK x3 (some ((.tup []), h)) (vK (v_add x2 (ii 1)) fun x4 => vK (v_lss x4 r2) fun x5 => gdK x5 true (fun kk => kk r4 h) h fun x6 h7 => gdK x5 true (fun kk => kk r0 h7) h7 fun x8 h9 => gdK x5 true (fun kk => kk r3 h9) h9 fun x10 h11 => gdK x5 true (fun kk => kk x2 h11) h11 fun x12 h13 => gdK x5 true (fun kk => vK (v_add x10 x12) fun v => kk v h13) h13 fun x14 h15 => gdK x5 true (fun kk => vK (v_iaS 5 x8 x14) fun v => kk v h15) h15 fun x16 h17 => gdK x5 true (fun kk => vK (v_ldN 5 h17.get x16) fun v => kk v h17) h17 fun x18 h19 => gdK x5 true (fun kk => kk r0 h19) h19 fun x20 h21 => gdK x5 true (fun kk => kk r3 h21) h21 fun x22 h23 => gdK x5 true (fun kk => kk x2 h23) h23 fun x24 h25 => gdK x5 true (fun kk => vK (v_add x22 x24) fun v => kk v h25) h25 fun x26 h27 => gdK x5 true (fun kk => vK (v_add x26 (ii 1)) fun v => kk v h27) h27 fun x28 h29 => gdK x5 true (fun kk => vK (v_iaS 5 x20 x28) fun v => kk v h29) h29 fun x30 h31 => gdK x5 true (fun kk => vK (v_ldN 5 h31.get x30) fun v => kk v h31) h31 fun x32 h33 => gdK x5 true (fun kk => wK (c_val E x6 [x18, x32] h33) kk) h33 fun x34 h35 => gdK x5 true (fun kk => vK (v_lss x34 (ii 0)) fun v => kk v h35) h35 fun x36 h37 => vK (v_pick x5 x36 (.bool false)) fun x38 => bK x38 (vK (v_add x2 (ii 1)) fun x39 => J207_2 E i1 r0 r3 r4 r10 x39 h37) (J207_2 E i1 r0 r3 r4 r10 x2 h37))
def L207_1 (r0 r2 r3 r4 : DV) (n : Nat) : DV → H → Ans := Nat.rec (motive := fun _ => DV → H → Ans) (fun _ _ => none) (fun _ i => B207_1 E r0 r2 r3 r4 i) n
def J207_0 (r0 r1 r2 r3 r4 : DV) (h : H) : Ans := L207_1 E r0 r2 r3 r4 FUEL r1 h
abbrev K207_3 (n1 : Nat) : KT2 (DV × H) := (thenK3 (fun σ h => (L207_1 E (σ p0) (σ p2) (σ p3) (σ p4) n1) (σ p10) h) (blockK3 0 (retK3 D207.res)))
theorem I207_2 (n1 : Nat) : Is E C207_2 (blockK3 1 (K207_3 E n1)) (fun σ h => J207_2 E (L207_1 E (σ p0) (σ p2) (σ p3) (σ p4) n1) (σ p0) (σ p3) (σ p4) (σ p10) (σ p11) h) := Is.rf
theorem I207_1 : Is E C207_1 (blockK3 0 (retK3 D207.res)) (fun σ h => L207_1 E (σ p0) (σ p2) (σ p3) (σ p4) FUEL (σ p10) h) := Is.lp (fun n1 σ h => L207_1 E (σ p0) (σ p2) (σ p3) (σ p4) n1 (σ p10) h) fun n1 => Is.aq (Is.bk (Is.sq (Is.sq (Is.sq (I207_2 E n1) (Is.leaf _)) (Is.leaf _)) (Is.leaf _)))
theorem I207_0 : iB5 E D207 (J207_0 E) := Is.aq (Is.sq (Is.bk (I207_1 E)) (Is.leaf _))
def S207 : Fun := fA5 (J207_0 E)
theorem S207_eq : SQ D207 S207 := eB5 I207_0
def D208 := cm 208
def J208_0 (r0 : DV) (h : H) : Ans := vK (v_conv .u64 r0) fun x1 => wK (callK E 96 [x1] h) fun x2 h3 => vK (v_shl (.int .u64 (.ofNat 1)) x2) fun x4 => some (x4, h3)
theorem I208_0 : iB1 E D208 (J208_0 E) := Is.rf
def S208 : Fun := fA1 (J208_0 E)
theorem S208_eq : SQ D208 S208 := eB1 I208_0
def D209 := cm 209
def J209_0 (E : Env) (r0 : DV) (h : H) : Ans := vK (v_nilchk r0) fun x1 => vK (v_ld h.get x1) fun x2 => vK (v_nilchk r0) fun x3 => vK (v_ld h.get x3) fun x4 => vK (v_shl x4 (.int .u64 (.ofNat 13))) fun x5 => vK (v_xor x2 x5) fun x6 => vK (v_nilchk r0) fun x7 => wK (dStF 1 x7 x6 h) fun x8 h9 => vK (v_nilchk r0) fun x10 => vK (v_ld h9.get x10) fun x11 => vK (v_nilchk r0) fun x12 => vK (v_ld h9.get x12) fun x13 => vK (v_shr x13 (.int .u64 (.ofNat 7))) fun x14 => vK (v_xor x11 x14) fun x15 => vK (v_nilchk r0) fun x16 => wK (dStF 1 x16 x15 h9) fun x17 h18 => vK (v_nilchk r0) fun x19 => vK (v_ld h18.get x19) fun x20 => vK (v_nilchk r0) fun x21 => vK (v_ld h18.get x21) fun x22 => vK (v_shl x22 (.int .u64 (.ofNat 17))) fun x23 => vK (v_xor x20 x23) fun x24 => vK (v_nilchk r0) fun x25 => wK (dStF 1 x25 x24 h18) fun x26 h27 => vK (v_nilchk r0) fun x28 => vK (v_ld h27.get x28) fun x29 => some (x29, h27)
theorem I209_0 : iB1 E D209 (J209_0 E) := Is.rf
def S209 : Fun := fA1 (J209_0 E)
theorem S209_eq : SQ D209 S209 := eB1 I209_0
def D210 := cm 210
def J210_0 (r0 r1 r2 r3 : DV) (h : H) : Ans := vK (v_sub r1 (ii 1)) fun x1 => vK (v_add r1 (ii 1)) fun x2 => wK (callK E 211 [r0, x1, r1, x2, r2, r3] h) fun x3 h4 => some (x3, h4)
theorem I210_0 : iB4 E D210 (J210_0 E) := Is.rf
def S210 : Fun := fA4 (J210_0 E)
theorem S210_eq : SQ D210 S210 := eB4 I210_0
def D211 := cm 211
def J211_0 (r0 r1 r2 r3 r4 r5 : DV) (h : H) : Ans := wK (callK E 254 [r0, r1, r2, r4, r5] h) fun x1 h2 => vK (v_ext 0 x1) fun x3 => vK (v_ext 1 x1) fun x4 => wK (callK E 254 [r0, x4, r3, r4, r5] h2) fun x5 h6 => vK (v_ext 0 x5) fun x7 => vK (v_ext 1 x5) fun x8 => wK (callK E 254 [r0, x3, x7, r4, r5] h6) fun x9 h10 => vK (v_ext 0 x9) fun x11 => vK (v_ext 1 x9) fun x12 => some (x12, h10)
theorem I211_0 : Is E D211.body (retK3 D211.res) (fun σ h => J211_0 E (σ p0) (σ p1) (σ p2) (σ p3) (σ p4) (σ p5) h) := Is.rf
def S211 : Fun := fun args h => aS args fun r0 args => aS args fun r1 args => aS args fun r2 args => aS args fun r3 args => aS args fun r4 args => aS args fun r5 args => a0 args (J211_0 E r0 r1 r2 r3 r4 r5 h)
theorem S211_eq (E : Env) (args : List DV) (h : H) : runFn E D211 args h = S211 E args h := Is.fn6 (d := D211) (I211_0 E) (by kernel_rfl) (fun r0 r1 r2 r3 r4 r5 h => J211_0 E r0 r1 r2 r3 r4 r5 h) (fun r0 r1 r2 r3 r4 r5 h => by kernel_rfl) args h
def D212 := cm 212
def J212_0 (E : Env) (r0 r1 r2 r3 : DV) (h : H) : Ans := vK (v_eqv .ptr false h.get r0 .nilp) fun x1 => gdK x1 false (fun kk => kk r1 h) h fun x2 h3 => gdK x1 false (fun kk => vK (v_lss x2 (ii 0)) fun v => kk v h3) h3 fun x4 h5 => vK (v_pick x1 (.bool true) x4) fun x6 => gdK x6 false (fun kk => kk r2 h5) h5 fun x7 h8 => gdK x6 false (fun kk => vK (v_lss x7 (ii 1)) fun v => kk v h8) h8 fun x9 h10 => vK (v_pick x6 (.bool true) x9) fun x11 => gdK x11 false (fun kk => kk r3 h10) h10 fun x12 h13 => gdK x11 false (fun kk => vK (v_not x12) fun v => kk v h13) h13 fun x14 h15 => vK (v_pick x11 (.bool true) x14) fun x16 => bK x16 (some ((ii 1), h15)) (vK (v_nilchk r0) fun x17 => vK (v_fa 0 x17) fun x18 => vK (v_ld h15.get x18) fun x19 => vK (v_lenL x19) fun x20 => vK (v_gtr r1 x20) fun x21 => gdK x21 false (fun kk => kk r2 h15) h15 fun x22 h23 => gdK x21 false (fun kk => kk r0 h23) h23 fun x24 h25 => gdK x21 false (fun kk => vK (v_nilchk x24) fun v => kk v h25) h25 fun x26 h27 => gdK x21 false (fun kk => vK (v_fa 0 x26) fun v => kk v h27) h27 fun x28 h29 => gdK x21 false (fun kk => vK (v_ld h29.get x28) fun v => kk v h29) h29 fun x30 h31 => gdK x21 false (fun kk => vK (v_lenL x30) fun v => kk v h31) h31 fun x32 h33 => gdK x21 false (fun kk => kk r1 h33) h33 fun x34 h35 => gdK x21 false (fun kk => vK (v_sub x32 x34) fun v => kk v h35) h35 fun x36 h37 => gdK x21 false (fun kk => vK (v_gtr x22 x36) fun v => kk v h37) h37 fun x38 h39 => vK (v_pick x21 (.bool true) x38) fun x40 => bK x40 (some ((ii 5), h39)) (vK (v_nilchk r0) fun x41 => vK (v_fa 2 x41) fun x42 => vK (v_ld h39.get x42) fun x43 => bK x43 (some ((ii 8), h39)) (some ((ii 0), h39))))
theorem I212_0 : iB4 E D212 (J212_0 E) := Is.rf
def S212 : Fun := fA4 (J212_0 E)
theorem S212_eq : SQ D212 S212 := eB4 I212_0
def D213 := cm 213
def J213_0 (E : Env) (r0 : DV) (h : H) : Ans := vK (v_ixS r0 (ii 0)) fun x1 => vK (v_conv .i64 x1) fun x2 => vK (v_ixS r0 (ii 1)) fun x3 => vK (v_conv .i64 x3) fun x4 => vK (v_shl x4 (.int .u64 (.ofNat 8))) fun x5 => vK (v_or x2 x5) fun x6 => vK (v_ixS r0 (ii 2)) fun x7 => vK (v_conv .i64 x7) fun x8 => vK (v_shl x8 (.int .u64 (.ofNat 16))) fun x9 => vK (v_or x6 x9) fun x10 => vK (v_ixS r0 (ii 3)) fun x11 => vK (v_conv .i64 x11) fun x12 => vK (v_shl x12 (.int .u64 (.ofNat 24))) fun x13 => vK (v_or x10 x13) fun x14 => some (x14, h)
theorem I213_0 : iB1 E D213 (J213_0 E) := Is.rf
def S213 : Fun := fA1 (J213_0 E)
theorem S213_eq : SQ D213 S213 := eB1 I213_0
def D214 := cm 214
def J214_0 (E : Env) (r0 : DV) (h : H) : Ans := n_box r0 h fun x1 h2 => vK (v_fa 0 x1) fun x3 => vK (v_ld h2.get x3) fun x4 => vK (v_geq x4 (ii 0)) fun x5 => gdK x5 true (fun kk => vK (v_fa 0 x1) fun v => kk v h2) h2 fun x6 h7 => gdK x5 true (fun kk => vK (v_ld h7.get x6) fun v => kk v h7) h7 fun x8 h9 => gdK x5 true (fun kk => vK (v_lss x8 (ii 2147483648)) fun v => kk v h9) h9 fun x10 h11 => vK (v_pick x5 x10 (.bool false)) fun x12 => gdK x12 true (fun kk => vK (v_fa 1 x1) fun v => kk v h11) h11 fun x13 h14 => gdK x12 true (fun kk => vK (v_ld h14.get x13) fun v => kk v h14) h14 fun x15 h16 => gdK x12 true (fun kk => vK (v_geq x15 (ii 0)) fun v => kk v h16) h16 fun x17 h18 => vK (v_pick x12 x17 (.bool false)) fun x19 => gdK x19 true (fun kk => vK (v_fa 1 x1) fun v => kk v h18) h18 fun x20 h21 => gdK x19 true (fun kk => vK (v_ld h21.get x20) fun v => kk v h21) h21 fun x22 h23 => gdK x19 true (fun kk => vK (v_lss x22 (ii 8)) fun v => kk v h23) h23 fun x24 h25 => vK (v_pick x19 x24 (.bool false)) fun x26 => some (x26, h25)
theorem I214_0 : iB1 E D214 (J214_0 E) := Is.rf
def S214 : Fun := fA1 (J214_0 E)
theorem S214_eq : SQ D214 S214 := eB1 I214_0
def D215 := cm 215
def J215_0 (r0 r1 : DV) (h : H) : Ans := n_box r0 h fun x1 h2 => vK (v_fa 0 x1) fun x3 => vK (v_ld h2.get x3) fun x4 => vK (v_conv .u32 x4) fun x5 => vK (v_fa 1 x1) fun x6 => vK (v_ld h2.get x6) fun x7 => vK (v_conv .u32 x7) fun x8 => vK (v_lenS r1) fun x9 => vK (v_conv .u32 x9) fun x10 => wK (callK E 255 [x5] h2) fun x11 h12 => rK (rcK (v_ld h12.get x6) x7) <| vK (v_add (.str [72, 70, 82, 71]) x11) fun x13 => wK (callK E 255 [x8] h12) fun x14 h15 => vK (v_add x13 x14) fun x16 => wK (callK E 255 [x10] h15) fun x17 h18 => vK (v_add x16 x17) fun x19 => wK (callK E 146 [r1] h18) fun x20 h21 => wK (callK E 255 [x20] h21) fun x22 h23 => vK (v_add x19 x22) fun x24 => wK (callK E 127 [x24, (ii 60)] h23) fun x25 h26 => vK (v_ext 0 x25) fun x27 => vK (v_ext 1 x25) fun x28 => wK (callK E 88 [x27] h26) fun x29 h30 => some (x29, h30)
theorem I215_0 : iB2 E D215 (J215_0 E) := Is.rf
def S215 : Fun := fA2 (J215_0 E)
theorem S215_eq : SQ D215 S215 := eB2 I215_0
def D216 := cm 216
def C216_1 := cr (cr D216.body)
def C216_2 := cl (cr (cl (cr D216.body)))
def J216_1 (E : Env) (h : H) : Ans := some ((.int .i64 (.negSucc 0)), h)
def B216_2 (r0 r1 r7 : DV) (i2 : DV → H → Ans) (r8 : DV) (h : H) : Ans := vK (v_lss r8 r7) fun x1 => bK x1 (vK (v_iaS 4 r0 r8) fun x2 => vK (v_ldN 4 h.get x2) fun x3 => wK (c_val E r1 [x3] h) fun x4 h5 => bK x4 (some (r8, h5)) (vK (v_add r8 (ii 1)) fun x6 => i2 x6 h5)) (J216_1 E h)
def L216_2 (r0 r1 r7 : DV) (n : Nat) : DV → H → Ans := Nat.rec (motive := fun _ => DV → H → Ans) (fun _ _ => none) (fun _ i => B216_2 E r0 r1 r7 i) n
def J216_0 (r0 r1 : DV) (h : H) : Ans := vK (v_lenL r0) fun x1 => L216_2 E r0 r1 x1 FUEL (ii 0) h
theorem I216_1 : Is E C216_1 (retK3 D216.res) (fun σ h => J216_1 E h) := Is.rf
abbrev K216_3 : KT2 (DV × H) := (blockK3 0 (thenK3 (fun σ h => J216_1 E h) (retK3 D216.res)))
theorem I216_2 : Is E C216_2 (K216_3 E) (fun σ h => L216_2 E (σ p0) (σ p1) (σ p7) FUEL (σ p8) h) := Is.lp (fun n2 σ h => L216_2 E (σ p0) (σ p1) (σ p7) n2 (σ p8) h) fun n2 => Is.aq (Is.leaf _)
theorem I216_0 : iB2 E D216 (J216_0 E) := Is.aq (Is.sq (Is.sq (I216_1 E) (Is.sq (Is.bk (I216_2 E)) (Is.leaf _))) (Is.leaf _))
def S216 : Fun := fA2 (J216_0 E)
theorem S216_eq : SQ D216 S216 := eB2 I216_0
def D217 := cm 217
def J217_0 (E : Env) (r0 r1 : DV) (h : H) : Ans := n_box r0 h fun x1 h2 => vK (v_fa 0 x1) fun x3 => vK (v_ld h2.get x3) fun x4 => gdK x4 true (fun kk => vK (v_fa 1 x1) fun v => kk v h2) h2 fun x5 h6 => gdK x4 true (fun kk => vK (v_ldN 2 h6.get x5) fun v => kk v h6) h6 fun x7 h8 => gdK x4 true (fun kk => vK (v_ldN 2 h8.get r1) fun v => kk v h8) h8 fun x9 h10 => gdK x4 true (fun kk => vK (v_eqs false (.leaf .int 0 (.leaf .int 1 .nil)) h10.get x7 x9) fun v => kk v h10) h10 fun x11 h12 => vK (v_pick x4 x11 (.bool false)) fun x13 => some (x13, h12)
theorem I217_0 : iB2 E D217 (J217_0 E) := Is.rf
def S217 : Fun := fA2 (J217_0 E)
theorem S217_eq : SQ D217 S217 := eB2 I217_0
def D218 := cm 218
def C218_1 := cr (cr (cr D218.body))
def C218_2 := cl (cr (cl (cr (cr D218.body))))
def C218_3 := cr (cr (cr (cl C218_2)))
def C218_4 := cl (cr (cr (cl (cl (cr (cr (cl C218_2)))))))
def J218_1 (E : Env) (h : H) : Ans := some ((.bool true), h)
def J218_3 (E : Env) (i2 : DV → H → Ans) (r10 : DV) (h : H) : Ans := vK (v_add r10 (ii 1)) fun x1 => i2 x1 h
def B218_4 (i2 : DV → H → Ans) (r3 r10 r14 r15 : DV) (i4 : DV → H → Ans) (r16 : DV) (h : H) : Ans := vK (v_lss r16 r15) fun x1 => bK x1 (vK (v_iaS 1 r14 r16) fun x2 => vK (v_ld h.get x2) fun x3 => vK (v_lss x3 (ii 0)) fun x4 => gdK x4 false (fun kk => kk x3 h) h fun x5 h6 => gdK x4 false (fun kk => vK (v_geq x5 (ii 64)) fun v => kk v h6) h6 fun x7 h8 => vK (v_pick x4 (.bool true) x7) fun x9 => gdK x9 false (fun kk => kk x3 h8) h8 fun x10 h11 => gdK x9 false (fun kk => vK (v_iaA 64 1 r3 x10) fun v => kk v h11) h11 fun x12 h13 => gdK x9 false (fun kk => vK (v_ld h13.get x12) fun v => kk v h13) h13 fun x14 h15 => vK (v_pick x9 (.bool true) x14) fun x16 => bK x16 (some ((.bool false), h15)) (vK (v_iaA 64 1 r3 x3) fun x17 => wK (dStF 1 x17 (.bool true) h15) fun x18 h19 => vK (v_add r16 (ii 1)) fun x20 => i4 x20 h19)) (J218_3 E i2 r10 h)
def L218_4 (i2 : DV → H → Ans) (r3 r10 r14 r15 : DV) (n : Nat) : DV → H → Ans := Nat.rec (motive := fun _ => DV → H → Ans) (fun _ _ => none) (fun _ i => B218_4 E i2 r3 r10 r14 r15 i) n
def B218_2 (r3 r8 r9 : DV) (i2 : DV → H → Ans) (r10 : DV) (h : H) : Ans := vK (v_lss r10 r9) fun x1 => bK x1 (vK (v_iaS 1 r8 r10) fun x2 => vK (v_ld h.get x2) fun x3 => vK (v_lenL x3) fun x4 => L218_4 E i2 r3 r10 x3 x4 FUEL (ii 0) h) (J218_1 E h)
def L218_2 (r3 r8 r9 : DV) (n : Nat) : DV → H → Ans := Nat.rec (motive := fun _ => DV → H → Ans) (fun _ _ => none) (fun _ i => B218_2 E r3 r8 r9 i) n
def J218_0 (r0 : DV) (h : H) : Ans := n_alc 64 64 (.full 64 (.bool false)) h fun x1 h2 => vK (v_lenL r0) fun x3 => L218_2 E x1 r0 x3 FUEL (ii 0) h2
theorem I218_1 : Is E C218_1 (retK3 D218.res) (fun σ h => J218_1 E h) := Is.rf
abbrev K218_5 : KT2 (DV × H) := (blockK3 0 (thenK3 (fun σ h => J218_1 E h) (retK3 D218.res)))
abbrev K218_6 (n2 : Nat) : KT2 (DV × H) := (thenK3 (fun σ h => (L218_2 E (σ p3) (σ p8) (σ p9) n2) (σ p10) h) (K218_5 E))
theorem I218_3 (n2 : Nat) : Is E C218_3 (K218_6 E n2) (fun σ h => J218_3 E (L218_2 E (σ p3) (σ p8) (σ p9) n2) (σ p10) h) := Is.rf
abbrev K218_7 (n2 : Nat) : KT2 (DV × H) := (thenK3 (fun σ h => J218_3 E (L218_2 E (σ p3) (σ p8) (σ p9) n2) (σ p10) h) (K218_6 E n2))
theorem I218_4 (n2 : Nat) : Is E C218_4 (blockK3 2 (blockK3 1 (K218_7 E n2))) (fun σ h => L218_4 E (L218_2 E (σ p3) (σ p8) (σ p9) n2) (σ p3) (σ p10) (σ p14) (σ p15) FUEL (σ p16) h) := Is.lp (fun n4 σ h => L218_4 E (L218_2 E (σ p3) (σ p8) (σ p9) n2) (σ p3) (σ p10) (σ p14) (σ p15) n4 (σ p16) h) fun n4 => Is.aq (Is.leaf _)
theorem I218_2 : Is E C218_2 (K218_5 E) (fun σ h => L218_2 E (σ p3) (σ p8) (σ p9) FUEL (σ p10) h) := Is.lp (fun n2 σ h => L218_2 E (σ p3) (σ p8) (σ p9) n2 (σ p10) h) fun n2 => Is.aq (Is.sq (Is.sq (Is.sq (I218_3 E n2) (Is.bk (Is.sq (Is.sq (Is.bk (I218_4 E n2)) (Is.leaf _)) (Is.leaf _)))) (Is.leaf _)) (Is.leaf _))
theorem I218_0 : iB1 E D218 (J218_0 E) := Is.aq (Is.sq (Is.sq (Is.sq (I218_1 E) (Is.sq (Is.bk (I218_2 E)) (Is.leaf _))) (Is.leaf _)) (Is.leaf _))
def S218 : Fun := fA1 (J218_0 E)
theorem S218_eq : SQ D218 S218 := eB1 I218_0
def D219 := cm 219
def C219_1 := cr (cr (cr (cr (cr (cr D219.body)))))
def C219_2 := cl (cr (cl (cr (cr (cr (cr (cr D219.body)))))))
def J219_1 (r4 r5 : DV) (h : H) : Ans := wK (callK E 113 [r4] h) fun x1 h2 => vK (v_neq x1 (ii 0)) fun x3 => bK x3 (some ((.tup [.nilp, (ii 3)]), h2)) (some ((.tup [r5, (ii 0)]), h2))
def B219_2 (r4 r5 r23 : DV) (i2 : DV → DV → H → Ans) (r7 r24 : DV) (h : H) : Ans := vK (v_lss r24 r23) fun x1 => bK x1 (wK (callK E 112 [r4] h) fun x2 h3 => wK (callK E 111 [r4] h3) fun x4 h5 => vK (v_leq x2 r7) fun x6 => gdK x6 false (fun kk => kk r5 h5) h5 fun x7 h8 => gdK x6 false (fun kk => kk x2 h8) h8 fun x9 h10 => gdK x6 false (fun kk => kk x4 h10) h10 fun x11 h12 => gdK x6 false (fun kk => wK (callK E 124 [x7, x9, x11] h12) kk) h12 fun x13 h14 => gdK x6 false (fun kk => vK (v_neq x13 (ii 0)) fun v => kk v h14) h14 fun x15 h16 => vK (v_pick x6 (.bool true) x15) fun x17 => bK x17 (some ((.tup [.nilp, (ii 3)]), h16)) (vK (v_add r24 (ii 1)) fun x18 => i2 x2 x18 h16)) (J219_1 E r4 r5 h)
def L219_2 (r4 r5 r23 : DV) (n : Nat) : DV → DV → H → Ans := Nat.rec (motive := fun _ => DV → DV → H → Ans) (fun _ _ _ => none) (fun _ i => B219_2 E r4 r5 r23 i) n
def J219_0 (r0 : DV) (h : H) : Ans := wK (callK E 109 [r0] h) fun x1 h2 => wK (callK E 115 [] h2) fun x3 h4 => wK (callK E 111 [x1] h4) fun x5 h6 => vK (v_lss x5 (ii 0)) fun x7 => gdK x7 false (fun kk => kk x5 h6) h6 fun x8 h9 => gdK x7 false (fun kk => kk x1 h9) h9 fun x10 h11 => gdK x7 false (fun kk => wK (callK E 155 [x10] h11) kk) h11 fun x12 h13 => gdK x7 false (fun kk => vK (v_gtr x8 x12) fun v => kk v h13) h13 fun x14 h15 => vK (v_pick x7 (.bool true) x14) fun x16 => bK x16 (some ((.tup [.nilp, (ii 3)]), h15)) (L219_2 E x1 x3 x5 FUEL (.str []) (ii 0) h15)
theorem I219_1 : Is E C219_1 (retK3 D219.res) (fun σ h => J219_1 E (σ p4) (σ p5) h) := Is.rf
abbrev K219_3 : KT2 (DV × H) := (thenK3 (fun σ h => J219_1 E (σ p4) (σ p5) h) (retK3 D219.res))
theorem I219_2 : Is E C219_2 (blockK3 0 (K219_3 E)) (fun σ h => L219_2 E (σ p4) (σ p5) (σ p23) FUEL (σ p7) (σ p24) h) := Is.lp (fun n2 σ h => L219_2 E (σ p4) (σ p5) (σ p23) n2 (σ p7) (σ p24) h) fun n2 => Is.aq (Is.leaf _)
theorem I219_0 : iB1 E D219 (J219_0 E) := Is.aq (Is.sq (Is.sq (Is.sq (Is.sq (Is.sq (Is.sq (I219_1 E) (Is.sq (Is.bk (I219_2 E)) (Is.leaf _))) (Is.leaf _)) (Is.leaf _)) (Is.leaf _)) (Is.leaf _)) (Is.leaf _))
def S219 : Fun := fA1 (J219_0 E)
theorem S219_eq : SQ D219 S219 := eB1 I219_0
def D220 := cm 220
def C220_1 := cr (cr (cr D220.body))
def C220_2 := cl (cr (cl (cr (cr D220.body))))
def C220_3 := cr (cr (cr (cl C220_2)))
def C220_4 := cl (cr (cr (cr (cl (cl (cr (cr (cl C220_2))))))))
def J220_1 (E : Env) (r4 : DV) (h : H) : Ans := some ((.tup [r4, (.bool true)]), h)
def J220_3 (E : Env) (i2 : DV → H → Ans) (r12 : DV) (h : H) : Ans := vK (v_add r12 (ii 1)) fun x1 => i2 x1 h
def B220_4 (i2 : DV → H → Ans) (r0 r4 r6 r12 r19 r20 : DV) (i4 : DV → H → Ans) (r21 : DV) (h : H) : Ans := vK (v_lss r21 r20) fun x1 => bK x1 (vK (v_iaS 1 r19 r21) fun x2 => vK (v_ld h.get x2) fun x3 => wK (callK E 182 [r6, x3] h) fun x4 h5 => vK (v_ext 0 x4) fun x6 => vK (v_ext 1 x4) fun x7 => vK (v_nilchk r0) fun x8 => vK (v_fa 0 x8) fun x9 => vK (v_iaA 256 2 x9 x6) fun x10 => vK (v_fa 1 x10) fun x11 => vK (v_ld h5.get x11) fun x12 => vK (v_eqv .nilI false h5.get x12 .nili) fun x13 => bK x13 (some ((.tup [.nils, (.bool false)]), h5)) (vK (v_iaS 1 r4 x6) fun x14 => vK (v_ld h5.get x14) fun x15 => vK (v_add x15 (ii 1)) fun x16 => vK (v_iaS 1 r4 x6) fun x17 => wK (dStF 1 x17 x16 h5) fun x18 h19 => vK (v_add r21 (ii 1)) fun x20 => i4 x20 h19)) (J220_3 E i2 r12 h)
def L220_4 (i2 : DV → H → Ans) (r0 r4 r6 r12 r19 r20 : DV) (n : Nat) : DV → H → Ans := Nat.rec (motive := fun _ => DV → H → Ans) (fun _ _ => none) (fun _ i => B220_4 E i2 r0 r4 r6 r12 r19 r20 i) n
def B220_2 (r0 r4 : DV) (i2 : DV → H → Ans) (r12 : DV) (h : H) : Ans := vK (v_lss r12 (ii 256)) fun x1 => bK x1 (wK (callK E 120 [r0, r12] h) fun x2 h3 => wK (callK E 187 [x2] h3) fun x4 h5 => vK (v_lenL x4) fun x6 => L220_4 E i2 r0 r4 x2 r12 x4 x6 FUEL (ii 0) h5) (J220_1 E r4 h)
def L220_2 (r0 r4 : DV) (n : Nat) : DV → H → Ans := Nat.rec (motive := fun _ => DV → H → Ans) (fun _ _ => none) (fun _ i => B220_2 E r0 r4 i) n
def J220_0 (r0 : DV) (h : H) : Ans := n_mks 1 8 (ii 0) (ii 256) (ii 256) h fun x1 h2 => L220_2 E r0 x1 FUEL (ii 0) h2
theorem I220_1 : Is E C220_1 (retK3 D220.res) (fun σ h => J220_1 E (σ p4) h) := Is.rf
abbrev K220_5 : KT2 (DV × H) := (thenK3 (fun σ h => J220_1 E (σ p4) h) (retK3 D220.res))
abbrev K220_6 (n2 : Nat) : KT2 (DV × H) := (thenK3 (fun σ h => (L220_2 E (σ p0) (σ p4) n2) (σ p12) h) (blockK3 0 (K220_5 E)))
theorem I220_3 (n2 : Nat) : Is E C220_3 (K220_6 E n2) (fun σ h => J220_3 E (L220_2 E (σ p0) (σ p4) n2) (σ p12) h) := Is.rf
abbrev K220_7 (n2 : Nat) : KT2 (DV × H) := (thenK3 (fun σ h => J220_3 E (L220_2 E (σ p0) (σ p4) n2) (σ p12) h) (K220_6 E n2))
theorem I220_4 (n2 : Nat) : Is E C220_4 (blockK3 2 (blockK3 1 (K220_7 E n2))) (fun σ h => L220_4 E (L220_2 E (σ p0) (σ p4) n2) (σ p0) (σ p4) (σ p6) (σ p12) (σ p19) (σ p20) FUEL (σ p21) h) := Is.lp (fun n4 σ h => L220_4 E (L220_2 E (σ p0) (σ p4) n2) (σ p0) (σ p4) (σ p6) (σ p12) (σ p19) (σ p20) n4 (σ p21) h) fun n4 => Is.aq (Is.leaf _)
theorem I220_2 : Is E C220_2 (blockK3 0 (K220_5 E)) (fun σ h => L220_2 E (σ p0) (σ p4) FUEL (σ p12) h) := Is.lp (fun n2 σ h => L220_2 E (σ p0) (σ p4) n2 (σ p12) h) fun n2 => Is.aq (Is.sq (Is.sq (Is.sq (I220_3 E n2) (Is.bk (Is.sq (Is.sq (Is.sq (Is.bk (I220_4 E n2)) (Is.leaf _)) (Is.leaf _)) (Is.leaf _)))) (Is.leaf _)) (Is.leaf _))
theorem I220_0 : iB1 E D220 (J220_0 E) := Is.aq (Is.sq (Is.sq (Is.sq (I220_1 E) (Is.sq (Is.bk (I220_2 E)) (Is.leaf _))) (Is.leaf _)) (Is.leaf _))
def S220 : Fun := fA1 (J220_0 E)
theorem S220_eq : SQ D220 S220 := eB1 I220_0
def D221 := cm 221
def C221_1 := cr (cr (cr D221.body))
def C221_2 := cl (cr (cl (cr (cr D221.body))))
def C221_3 := cr (cr (cr (cl C221_2)))
def J221_1 (E : Env) (h : H) : Ans := some ((.bool true), h)
def J221_3 (E : Env) (i2 : DV → H → Ans) (r11 : DV) (h : H) : Ans := vK (v_add r11 (ii 1)) fun x1 => i2 x1 h
def B221_2 (r0 r3 r10 : DV) (i2 : DV → H → Ans) (r11 : DV) (h : H) : Ans := vK (v_lss r11 (ii 256)) fun x1 => bK x1 (vK (v_ixA 256 2 true r10 r11) fun x2 => n_alc 2 2 (.list [(ii 0), .nili]) h fun x3 h4 => wK (dStF 2 x3 x2 h4) fun x5 h6 => vK (v_fa 1 x3) fun x7 => vK (v_ld h6.get x7) fun x8 => vK (v_eqv .nilI false h6.get x8 .nili) fun x9 => bK x9 (J221_3 E i2 r11 h6) (vK (v_fa 0 x3) fun x10 => vK (v_ld h6.get x10) fun x11 => vK (v_lss x11 (ii 0)) fun x12 => gdK x12 false (fun kk => vK (v_fa 0 x3) fun v => kk v h6) h6 fun x13 h14 => gdK x12 false (fun kk => vK (v_ld h14.get x13) fun v => kk v h14) h14 fun x15 h16 => gdK x12 false (fun kk => kk r0 h16) h16 fun x17 h18 => gdK x12 false (fun kk => vK (v_nilchk x17) fun v => kk v h18) h18 fun x19 h20 => gdK x12 false (fun kk => vK (v_fa 512 x19) fun v => kk v h20) h20 fun x21 h22 => gdK x12 false (fun kk => vK (v_ld h22.get x21) fun v => kk v h22) h22 fun x23 h24 => gdK x12 false (fun kk => vK (v_gtr x15 x23) fun v => kk v h24) h24 fun x25 h26 => vK (v_pick x12 (.bool true) x25) fun x27 => gdK x27 false (fun kk => kk r3 h26) h26 fun x28 h29 => gdK x27 false (fun kk => vK (v_fa 0 x3) fun v => kk v h29) h29 fun x30 h31 => gdK x27 false (fun kk => vK (v_ld h31.get x30) fun v => kk v h31) h31 fun x32 h33 => gdK x27 false (fun kk => vK (v_lkp .int (.bool false) false h33.get x28 x32) fun v => kk v h33) h33 fun x34 h35 => vK (v_pick x27 (.bool true) x34) fun x36 => gdK x36 false (fun kk => kk r11 h35) h35 fun x37 h38 => gdK x36 false (fun kk => vK (v_eql x37 (ii 1)) fun v => kk v h38) h38 fun x39 h40 => gdK x36 false (fun kk => vK (v_fa 0 x3) fun v => kk v h40) h40 fun x41 h42 => gdK x36 false (fun kk => vK (v_ld h42.get x41) fun v => kk v h42) h42 fun x43 h44 => gdK x36 false (fun kk => vK (v_eql x43 (ii 0)) fun v => kk v h44) h44 fun x45 h46 => gdK x36 false (fun kk => vK (v_eqv .bool true h46.get x39 x45) fun v => kk v h46) h46 fun x47 h48 => vK (v_pick x36 (.bool true) x47) fun x49 => bK x49 (some ((.bool false), h48)) (vK (v_fa 0 x3) fun x50 => vK (v_ld h48.get x50) fun x51 => wK (dMup .int r3 x51 (.bool true) h48) fun x52 h53 => J221_3 E i2 r11 h53))) (J221_1 E h)
def L221_2 (r0 r3 r10 : DV) (n : Nat) : DV → H → Ans := Nat.rec (motive := fun _ => DV → H → Ans) (fun _ _ => none) (fun _ i => B221_2 E r0 r3 r10 i) n
def J221_0 (r0 : DV) (h : H) : Ans := n_mkm h fun x1 h2 => vK (v_nilchk r0) fun x3 => vK (v_fa 0 x3) fun x4 => vK (v_ldN 512 h2.get x4) fun x5 => L221_2 E r0 x1 x5 FUEL (ii 0) h2
theorem I221_1 : Is E C221_1 (retK3 D221.res) (fun σ h => J221_1 E h) := Is.rf
abbrev K221_4 : KT2 (DV × H) := (blockK3 0 (thenK3 (fun σ h => J221_1 E h) (retK3 D221.res)))
abbrev K221_5 (n2 : Nat) : KT2 (DV × H) := (thenK3 (fun σ h => (L221_2 E (σ p0) (σ p3) (σ p10) n2) (σ p11) h) (K221_4 E))
theorem I221_3 (n2 : Nat) : Is E C221_3 (K221_5 E n2) (fun σ h => J221_3 E (L221_2 E (σ p0) (σ p3) (σ p10) n2) (σ p11) h) := Is.rf
theorem I221_2 : Is E C221_2 (K221_4 E) (fun σ h => L221_2 E (σ p0) (σ p3) (σ p10) FUEL (σ p11) h) := Is.lp (fun n2 σ h => L221_2 E (σ p0) (σ p3) (σ p10) n2 (σ p11) h) fun n2 => Is.aq (Is.sq (Is.sq (Is.sq (I221_3 E n2) (Is.leaf _)) (Is.leaf _)) (Is.leaf _))
theorem I221_0 : iB1 E D221 (J221_0 E) := Is.aq (Is.sq (Is.sq (Is.sq (I221_1 E) (Is.sq (Is.bk (I221_2 E)) (Is.leaf _))) (Is.leaf _)) (Is.leaf _))
def S221 : Fun := fA1 (J221_0 E)
theorem S221_eq : SQ D221 S221 := eB1 I221_0
def D222 := cm 222
def C222_1 := cr (cr (cr D222.body))
def C222_2 := cl (cr (cl (cr (cr D222.body))))
def C222_3 := cr (cr (cr (cl C222_2)))
def J222_1 (E : Env) (r6 : DV) (h : H) : Ans := some (r6, h)
def J222_3 (E : Env) (i2 : DV → DV → H → Ans) (r6 r17 : DV) (h : H) : Ans := vK (v_add r17 (ii 1)) fun x1 => i2 r6 x1 h
def B222_2 (r0 r5 r15 r16 : DV) (i2 : DV → DV → H → Ans) (r6 r17 : DV) (h : H) : Ans := vK (v_lss r17 r16) fun x1 => bK x1 (vK (v_iaS 1 r15 r17) fun x2 => vK (v_ld h.get x2) fun x3 => wK (callK E 182 [r5, x3] h) fun x4 h5 => vK (v_ext 0 x4) fun x6 => vK (v_ext 1 x4) fun x7 => wK (callK E 120 [r0, x6] h5) fun x8 h9 => vK (v_eqv .ptr true h9.get x8 .nilp) fun x10 => bK x10 (wK (callK E 222 [r0, x6] h9) fun x11 h12 => vK (v_add r6 x11) fun x13 => J222_3 E i2 x13 r17 h12) (J222_3 E i2 r6 r17 h9)) (J222_1 E r6 h)
def L222_2 (r0 r5 r15 r16 : DV) (n : Nat) : DV → DV → H → Ans := Nat.rec (motive := fun _ => DV → DV → H → Ans) (fun _ _ _ => none) (fun _ i => B222_2 E r0 r5 r15 r16 i) n
def J222_0 (r0 r1 : DV) (h : H) : Ans := wK (callK E 120 [r0, r1] h) fun x1 h2 => wK (callK E 187 [x1] h2) fun x3 h4 => vK (v_lenL x3) fun x5 => L222_2 E r0 x1 x3 x5 FUEL (ii 1) (ii 0) h4
theorem I222_1 : Is E C222_1 (retK3 D222.res) (fun σ h => J222_1 E (σ p6) h) := Is.rf
abbrev K222_4 : KT2 (DV × H) := (thenK3 (fun σ h => J222_1 E (σ p6) h) (retK3 D222.res))
abbrev K222_5 (n2 : Nat) : KT2 (DV × H) := (thenK3 (fun σ h => (L222_2 E (σ p0) (σ p5) (σ p15) (σ p16) n2) (σ p6) (σ p17) h) (blockK3 0 (K222_4 E)))
theorem I222_3 (n2 : Nat) : Is E C222_3 (K222_5 E n2) (fun σ h => J222_3 E (L222_2 E (σ p0) (σ p5) (σ p15) (σ p16) n2) (σ p6) (σ p17) h) := Is.rf
theorem I222_2 : Is E C222_2 (blockK3 0 (K222_4 E)) (fun σ h => L222_2 E (σ p0) (σ p5) (σ p15) (σ p16) FUEL (σ p6) (σ p17) h) := Is.lp (fun n2 σ h => L222_2 E (σ p0) (σ p5) (σ p15) (σ p16) n2 (σ p6) (σ p17) h) fun n2 => Is.aq (Is.sq (Is.sq (Is.sq (I222_3 E n2) (Is.leaf _)) (Is.leaf _)) (Is.leaf _))
theorem I222_0 : iB2 E D222 (J222_0 E) := Is.aq (Is.sq (Is.sq (Is.sq (I222_1 E) (Is.sq (Is.bk (I222_2 E)) (Is.leaf _))) (Is.leaf _)) (Is.leaf _))
def S222 : Fun := fA2 (J222_0 E)
theorem S222_eq : SQ D222 S222 := eB2 I222_0
def D223 := cm 223
def J223_0 (r0 r1 : DV) (h : H) : Ans := wK (callK E 256 [r0, r1, (ii 0), (.int .i64 (.negSucc 0))] h) fun x1 h2 => some (x1, h2)
theorem I223_0 : iB2 E D223 (J223_0 E) := Is.rf
def S223 : Fun := fA2 (J223_0 E)
theorem S223_eq : SQ D223 S223 := eB2 I223_0
def D224 := cm 224
def C224_1 := cr (cr (cr D224.body))
def C224_2 := cl (cl (cr (cr D224.body)))
def J224_1 (r0 r1 r2 r8 : DV) (h : H) : Ans := vK (v_lenL r0) fun x1 => vK (v_lss r8 x1) fun x2 => gdK x2 true (fun kk => kk r2 h) h fun x3 h4 => gdK x2 true (fun kk => kk r0 h4) h4 fun x5 h6 => gdK x2 true (fun kk => kk r8 h6) h6 fun x7 h8 => gdK x2 true (fun kk => vK (v_iaS 2 x5 x7) fun v => kk v h8) h8 fun x9 h10 => gdK x2 true (fun kk => vK (v_ldN 2 h10.get x9) fun v => kk v h10) h10 fun x11 h12 => gdK x2 true (fun kk => wK (c_val E x3 [x11] h12) kk) h12 fun x13 h14 => gdK x2 true (fun kk => kk r1 h14) h14 fun x15 h16 => gdK x2 true (fun kk => vK (v_eql x13 x15) fun v => kk v h16) h16 fun x17 h18 => vK (v_pick x2 x17 (.bool false)) fun x19 => some ((.tup [r8, x19]), h18)
def B224_2 (r0 r1 r2 : DV) (i2 : DV → DV → H → Ans) (r8 r9 : DV) (h : H) : Ans := vK (v_lss r8 r9) fun x1 => bK x1 (vK (v_add r8 r9) fun x2 => vK (v_quo x2 (ii 2)) fun x3 => vK (v_iaS 2 r0 x3) fun x4 => vK (v_ldN 2 h.get x4) fun x5 => wK (c_val E r2 [x5] h) fun x6 h7 => vK (v_lss x6 r1) fun x8 => bK x8 (vK (v_add x3 (ii 1)) fun x9 => i2 x9 r9 h7) (i2 r8 x3 h7)) (J224_1 E r0 r1 r2 r8 h)
def L224_2 (r0 r1 r2 : DV) (n : Nat) : DV → DV → H → Ans := Nat.rec (motive := fun _ => DV → DV → H → Ans) (fun _ _ _ => none) (fun _ i => B224_2 E r0 r1 r2 i) n
def J224_0 (r0 r1 r2 : DV) (h : H) : Ans := vK (v_lenL r0) fun x1 => L224_2 E r0 r1 r2 FUEL (ii 0) x1 h
theorem I224_1 : Is E C224_1 (retK3 D224.res) (fun σ h => J224_1 E (σ p0) (σ p1) (σ p2) (σ p8) h) := Is.rf
abbrev K224_3 : KT2 (DV × H) := (thenK3 (fun σ h => J224_1 E (σ p0) (σ p1) (σ p2) (σ p8) h) (retK3 D224.res))
theorem I224_2 : Is E C224_2 (blockK3 0 (K224_3 E)) (fun σ h => L224_2 E (σ p0) (σ p1) (σ p2) FUEL (σ p8) (σ p9) h) := Is.lp (fun n2 σ h => L224_2 E (σ p0) (σ p1) (σ p2) n2 (σ p8) (σ p9) h) fun n2 => Is.aq (Is.leaf _)
theorem I224_0 : iB3 E D224 (J224_0 E) := Is.aq (Is.sq (Is.sq (Is.sq (I224_1 E) (Is.bk (I224_2 E))) (Is.leaf _)) (Is.leaf _))
def S224 : Fun := fA3 (J224_0 E)
theorem S224_eq : SQ D224 S224 := eB3 I224_0
def D225 := cm 225
def J225_0 (E : Env) (r0 : DV) (h : H) : Ans := n_box r0 h fun x1 h2 => vK (v_fa 0 x1) fun x3 => vK (v_ld h2.get x3) fun x4 => some (x4, h2)
theorem I225_0 : iB1 E D225 (J225_0 E) := Is.rf
def S225 : Fun := fA1 (J225_0 E)
theorem S225_eq : SQ D225 S225 := eB1 I225_0
def D226 := cm 226
def J226_0 (r0 r1 : DV) (h : H) : Ans := wK (callK E 257 [r0, r1] h) fun x1 h2 => some (x1, h2)
theorem I226_0 : iB2 E D226 (J226_0 E) := Is.rf
def S226 : Fun := fA2 (J226_0 E)
theorem S226_eq : SQ D226 S226 := eB2 I226_0
def D228 := cm 228
def J228_0 (r0 r1 : DV) (h : H) : Ans := vK (v_lenL r0) fun x1 => vK (v_sub x1 r1) fun x2 => wK (callK E 258 [r0, x2] h) fun x3 h4 => some ((.tup []), h4)
theorem I228_0 : iB2 E D228 (J228_0 E) := Is.rf
def S228 : Fun := fA2 (J228_0 E)
theorem S228_eq : SQ D228 S228 := eB2 I228_0
def D230 := cm 230
def C230_1 := cr (cr (cr (cr (cr D230.body))))
def C230_2 := cl (cr (cl (cr (cr (cr (cr D230.body))))))
def J230_1 (E : Env) (r6 : DV) (h : H) : Ans := some (r6, h)
def B230_2 (r0 r1 r26 : DV) (i2 : DV → DV → H → Ans) (r6 r27 : DV) (h : H) : Ans := vK (v_lss r27 r26) fun x1 => bK x1 (wK (c_val E r1 [] h) fun x2 h3 => n_bsl 1 1 [(ii 0)] [(0, 1, x2)] h3 fun x4 h5 => wK (dAppendF 1 8 r6 x4 h5) fun x6 h7 => vK (v_nilchk r0) fun x8 => vK (v_fa 1 x8) fun x9 => vK (v_ld h7.get x9) fun x10 => bK x10 (some (.nils, h7)) (vK (v_add r27 (ii 1)) fun x11 => i2 x6 x11 h7)) (J230_1 E r6 h)
def L230_2 (r0 r1 r26 : DV) (n : Nat) : DV → DV → H → Ans := Nat.rec (motive := fun _ => DV → DV → H → Ans) (fun _ _ _ => none) (fun _ i => B230_2 E r0 r1 r26 i) n
def J230_0 (r0 r1 : DV) (h : H) : Ans := wK (callK E 111 [r0] h) fun x1 h2 => vK (v_eqv .ptr false h2.get r0 .nilp) fun x3 => gdK x3 false (fun kk => kk x1 h2) h2 fun x4 h5 => gdK x3 false (fun kk => vK (v_lss x4 (ii 0)) fun v => kk v h5) h5 fun x6 h7 => vK (v_pick x3 (.bool true) x6) fun x8 => gdK x8 false (fun kk => kk x1 h7) h7 fun x9 h10 => gdK x8 false (fun kk => kk r0 h10) h10 fun x11 h12 => gdK x8 false (fun kk => vK (v_nilchk x11) fun v => kk v h12) h12 fun x13 h14 => gdK x8 false (fun kk => vK (v_fa 0 x13) fun v => kk v h14) h14 fun x15 h16 => gdK x8 false (fun kk => vK (v_ld h16.get x15) fun v => kk v h16) h16 fun x17 h18 => gdK x8 false (fun kk => vK (v_lenS x17) fun v => kk v h18) h18 fun x19 h20 => gdK x8 false (fun kk => vK (v_gtr x9 x19) fun v => kk v h20) h20 fun x21 h22 => vK (v_pick x8 (.bool true) x21) fun x23 => bK x23 (wK (callK E 175 [r0] h22) fun x24 h25 => some (.nils, h25)) (L230_2 E r0 r1 x1 FUEL .nils (ii 0) h22)
theorem I230_1 : Is E C230_1 (retK3 D230.res) (fun σ h => J230_1 E (σ p6) h) := Is.rf
abbrev K230_3 : KT2 (DV × H) := (thenK3 (fun σ h => J230_1 E (σ p6) h) (retK3 D230.res))
theorem I230_2 : Is E C230_2 (blockK3 0 (K230_3 E)) (fun σ h => L230_2 E (σ p0) (σ p1) (σ p26) FUEL (σ p6) (σ p27) h) := Is.lp (fun n2 σ h => L230_2 E (σ p0) (σ p1) (σ p26) n2 (σ p6) (σ p27) h) fun n2 => Is.aq (Is.leaf _)
theorem I230_0 : iB2 E D230 (J230_0 E) := Is.aq (Is.sq (Is.sq (Is.sq (Is.sq (Is.sq (I230_1 E) (Is.sq (Is.bk (I230_2 E)) (Is.leaf _))) (Is.leaf _)) (Is.leaf _)) (Is.leaf _)) (Is.leaf _))
def S230 : Fun := fA2 (J230_0 E)
theorem S230_eq : SQ D230 S230 := eB2 I230_0
def D231 := cm 231
def J231_0 (r0 r1 : DV) (h : H) : Ans := n_box r1 h fun x1 h2 => wK (callK E 58 [r0, (.fn (.func 265) [] [x1])] h2) fun x3 h4 => some ((.tup []), h4)
theorem I231_0 : iB2 E D231 (J231_0 E) := Is.rf
def S231 : Fun := fA2 (J231_0 E)
theorem S231_eq : SQ D231 S231 := eB2 I231_0
def D232 := cm 232
def J232_0 (E : Env) (r0 r1 : DV) (h : H) : Ans := vK (v_geq r0 (ii 0)) fun x1 => gdK x1 true (fun kk => kk r0 h) h fun x2 h3 => gdK x1 true (fun kk => vK (v_lss x2 (ii 64)) fun v => kk v h3) h3 fun x4 h5 => vK (v_pick x1 x4 (.bool false)) fun x6 => gdK x6 true (fun kk => kk r1 h5) h5 fun x7 h8 => gdK x6 true (fun kk => vK (v_geq x7 (ii 0)) fun v => kk v h8) h8 fun x9 h10 => vK (v_pick x6 x9 (.bool false)) fun x11 => gdK x11 true (fun kk => kk r1 h10) h10 fun x12 h13 => gdK x11 true (fun kk => vK (v_lss x12 (ii 2147483648)) fun v => kk v h13) h13 fun x14 h15 => vK (v_pick x11 x14 (.bool false)) fun x16 => some (x16, h15)
theorem I232_0 : iB2 E D232 (J232_0 E) := Is.rf
def S232 : Fun := fA2 (J232_0 E)
theorem S232_eq : SQ D232 S232 := eB2 I232_0
def D233 := cm 233
def J233_0 (r0 r1 r2 : DV) (h : H) : Ans := vK (v_nilchk r0) fun x1 => vK (v_fa 1 x1) fun x2 => vK (v_ld h.get x2) fun x3 => vK (v_lkp .int .nils false h.get x3 r1) fun x4 => wK (callK E 266 [x4, r2, (.fn (.func 267) [] [])] h) fun x5 h6 => vK (v_ext 0 x5) fun x7 => vK (v_ext 1 x5) fun x8 => some ((.tup [x7, x8]), h6)
theorem I233_0 : iB3 E D233 (J233_0 E) := Is.rf
def S233 : Fun := fA3 (J233_0 E)
theorem S233_eq : SQ D233 S233 := eB3 I233_0
def D234 := cm 234
def J234_0 (r0 r1 r2 : DV) (h : H) : Ans := vK (v_slL 3 r0 (some r1) none) fun x1 => vK (v_lenL r2) fun x2 => vK (v_eql x2 (ii 0)) fun x3 => bK x3 (some (r0, h)) (vK (v_lenL r0) fun x4 => vK (v_eql r1 x4) fun x5 => bK x5 (wK (dAppendF 3 32 r0 r2 h) fun x6 h7 => some (x6, h7)) (vK (v_add x4 x2) fun x8 => vK (v_capL r0) fun x9 => vK (v_gtr x8 x9) fun x10 => bK x10 (vK (v_slL 3 r0 none (some r1)) fun x11 => vK (v_add x4 x2) fun x12 => vK (v_sub x12 r1) fun x13 => wK (dApz 3 32 [(ii 0), (.bool false), (.str [])] x11 x13 h) fun x14 h15 => vK (v_slL 3 x14 (some r1) none) fun x16 => wK (dCopyF 3 x16 r2 h15) fun x17 h18 => vK (v_add r1 x2) fun x19 => vK (v_slL 3 x14 (some x19) none) fun x20 => vK (v_slL 3 r0 (some r1) none) fun x21 => wK (dCopyF 3 x20 x21 h18) fun x22 h23 => some (x14, h23)) (vK (v_add x4 x2) fun x24 => vK (v_slL 3 r0 none (some x24)) fun x25 => vK (v_add r1 x2) fun x26 => vK (v_slL 3 x25 (some x26) none) fun x27 => vK (v_ovl h.get r2 x27) fun x28 => vK (v_not x28) fun x29 => bK x29 (vK (v_add r1 x2) fun x30 => vK (v_slL 3 x25 (some x30) none) fun x31 => vK (v_slL 3 x25 (some r1) none) fun x32 => wK (dCopyF 3 x31 x32 h) fun x33 h34 => vK (v_slL 3 x25 (some r1) none) fun x35 => wK (dCopyF 3 x35 r2 h34) fun x36 h37 => some (x25, h37)) (vK (v_slL 3 x25 (some x4) none) fun x38 => wK (dCopyF 3 x38 r2 h) fun x39 h40 => vK (v_slL 3 x25 (some r1) none) fun x41 => wK (callK E 269 [x41, x2] h40) fun x42 h43 => some (x25, h43)))))
theorem I234_0 : iB3 E D234 (J234_0 E) := Is.rf
def S234 : Fun := fA3 (J234_0 E)
theorem S234_eq : SQ D234 S234 := eB3 I234_0
def D235 := cm 235
def J235_0 (r0 r1 : DV) (h : H) : Ans := n_box r1 h fun x1 h2 => vK (v_nilchk r0) fun x3 => vK (v_fa 1 x3) fun x4 => vK (v_ld h2.get x4) fun x5 => vK (v_fa 0 x1) fun x6 => vK (v_ld h2.get x6) fun x7 => vK (v_nilchk r0) fun x8 => vK (v_fa 0 x8) fun x9 => vK (v_ld h2.get x9) fun x10 => vK (v_fa 3 x1) fun x11 => vK (v_ld h2.get x11) fun x12 => vK (v_nilchk r0) fun x13 => vK (v_fa 0 x13) fun x14 => vK (v_ld h2.get x14) fun x15 => wK (callK E 271 [x10] h2) fun x16 h17 => rK (rcK (v_ld h17.get x14) x15) <| rK (rcK (v_ld h17.get x11) x12) <| rK (rcK (v_ld h17.get x6) x7) <| rK (rcK (v_ld h17.get x4) x5) <| wK (callK E 272 [x15] h17) fun x18 h19 => rK (rcK (v_ld h19.get x11) x12) <| rK (rcK (v_ld h19.get x6) x7) <| rK (rcK (v_ld h19.get x4) x5) <| wK (callK E 270 [x5, x7, x16, x12, x18] h19) fun x20 h21 => vK (v_ext 0 x20) fun x22 => vK (v_ext 1 x20) fun x23 => vK (v_nilchk r0) fun x24 => vK (v_fa 0 x24) fun x25 => vK (v_ld h21.get x25) fun x26 => wK (callK E 271 [x26] h21) fun x27 h28 => n_bsl 2 1 [(ii 0)] [(0, 1, x22), (1, 1, x27)] h28 fun x29 h30 => some ((.tup [x29, x23]), h30)
theorem I235_0 : iB2 E D235 (J235_0 E) := Is.rf
def S235 : Fun := fA2 (J235_0 E)
theorem S235_eq : SQ D235 S235 := eB2 I235_0
def D236 := cm 236
def C236_1 := cr (cr (cr (cr (cr D236.body))))
def J236_1 (E : Env) (r8 : DV) (h : H) : Ans := some ((.tup [.nils, r8]), h)
def J236_0 (r0 r1 : DV) (h : H) : Ans := n_box r1 h fun x1 h2 => vK (v_nilchk r0) fun x3 => vK (v_fa 1 x3) fun x4 => vK (v_ld h2.get x4) fun x5 => vK (v_fa 3 x1) fun x6 => vK (v_ld h2.get x6) fun x7 => n_alc 6 6 (.list [(ii 0), (ii 0), (ii 0), (ii 0), (ii 0), .nils]) h2 fun x8 h9 => wK (callK E 205 [x5, x7] h9) fun x10 h11 => vK (v_ext 0 x10) fun x12 => vK (v_ext 1 x10) fun x13 => wK (dStF 6 x8 x12 h11) fun x14 h15 => gdK x13 true (fun kk => vK (v_fa 1 x8) fun v => kk v h15) h15 fun x16 h17 => gdK x13 true (fun kk => vK (v_ld h17.get x16) fun v => kk v h17) h17 fun x18 h19 => gdK x13 true (fun kk => vK (v_eql x18 (ii 1)) fun v => kk v h19) h19 fun x20 h21 => vK (v_pick x13 x20 (.bool false)) fun x22 => gdK x22 true (fun kk => vK (v_fa 2 x8) fun v => kk v h21) h21 fun x23 h24 => gdK x22 true (fun kk => vK (v_ld h24.get x23) fun v => kk v h24) h24 fun x25 h26 => gdK x22 true (fun kk => vK (v_fa 0 x1) fun v => kk v h26) h26 fun x27 h28 => gdK x22 true (fun kk => vK (v_ld h28.get x27) fun v => kk v h28) h28 fun x29 h30 => gdK x22 true (fun kk => vK (v_eql x25 x29) fun v => kk v h30) h30 fun x31 h32 => vK (v_pick x22 x31 (.bool false)) fun x33 => gdK x33 true (fun kk => vK (v_fa 3 x8) fun v => kk v h32) h32 fun x34 h35 => gdK x33 true (fun kk => vK (v_ld h35.get x34) fun v => kk v h35) h35 fun x36 h37 => gdK x33 true (fun kk => kk r0 h37) h37 fun x38 h39 => gdK x33 true (fun kk => vK (v_nilchk x38) fun v => kk v h39) h39 fun x40 h41 => gdK x33 true (fun kk => vK (v_fa 0 x40) fun v => kk v h41) h41 fun x42 h43 => gdK x33 true (fun kk => vK (v_ld h43.get x42) fun v => kk v h43) h43 fun x44 h45 => gdK x33 true (fun kk => wK (callK E 271 [x44] h45) kk) h45 fun x46 h47 => rK (gB x33 true (rcK (v_ld h47.get x34) x36)) <| gdK x33 true (fun kk => vK (v_neq x36 x46) fun v => kk v h47) h47 fun x48 h49 => vK (v_pick x33 x48 (.bool false)) fun x50 => bK x50 (some ((.tup [.nils, (ii 10)]), h49)) (vK (v_nilchk r0) fun x51 => vK (v_fa 1 x51) fun x52 => vK (v_ld h49.get x52) fun x53 => vK (v_fa 3 x1) fun x54 => vK (v_ld h49.get x54) fun x55 => vK (v_fa 0 x1) fun x56 => vK (v_ld h49.get x56) fun x57 => wK (callK E 273 [x53, x55, x57] h49) fun x58 h59 => vK (v_eql x58 (ii 0)) fun x60 => gdK x60 true (fun kk => vK (v_fa 4 x8) fun v => kk v h59) h59 fun x61 h62 => gdK x60 true (fun kk => vK (v_ld h62.get x61) fun v => kk v h62) h62 fun x63 h64 => gdK x60 true (fun kk => vK (v_gtr x63 (ii 0)) fun v => kk v h64) h64 fun x65 h66 => vK (v_pick x60 x65 (.bool false)) fun x67 => bK x67 (vK (v_nilchk r0) fun x68 => vK (v_fa 3 x68) fun x69 => vK (v_ld h66.get x69) fun x70 => vK (v_fa 3 x1) fun x71 => vK (v_ld h66.get x71) fun x72 => vK (v_fa 4 x8) fun x73 => vK (v_ld h66.get x73) fun x74 => vK (v_fa 4 x8) fun x75 => vK (v_ld h66.get x75) fun x76 => wK (callK E 274 [x70, x72, x74, x76, (ii 0)] h66) fun x77 h78 => J236_1 E x58 h78) (J236_1 E x58 h66))
theorem I236_1 : Is E C236_1 (retK3 D236.res) (fun σ h => J236_1 E (σ p8) h) := Is.rf
theorem I236_0 : iB2 E D236 (J236_0 E) := Is.aq (Is.sq (Is.sq (Is.sq (Is.sq (Is.sq (I236_1 E) (Is.leaf _)) (Is.leaf _)) (Is.leaf _)) (Is.leaf _)) (Is.leaf _))
def S236 : Fun := fA2 (J236_0 E)
theorem S236_eq : SQ D236 S236 := eB2 I236_0
def D237 := cm 237
def C237_1 := cr (cr (cr D237.body))
def J237_1 (E : Env) (r6 : DV) (h : H) : Ans := some ((.tup [.nils, r6]), h)
def J237_0 (r0 r1 : DV) (h : H) : Ans := n_box r1 h fun x1 h2 => vK (v_nilchk r0) fun x3 => vK (v_fa 1 x3) fun x4 => vK (v_ld h2.get x4) fun x5 => vK (v_fa 3 x1) fun x6 => vK (v_ld h2.get x6) fun x7 => wK (callK E 275 [x5, x7] h2) fun x8 h9 => vK (v_eql x8 (ii 0)) fun x10 => bK x10 (vK (v_nilchk r0) fun x11 => vK (v_fa 3 x11) fun x12 => vK (v_ld h9.get x12) fun x13 => vK (v_fa 3 x1) fun x14 => vK (v_ld h9.get x14) fun x15 => wK (callK E 276 [x13, x15] h9) fun x16 h17 => J237_1 E x8 h17) (J237_1 E x8 h9)
theorem I237_1 : Is E C237_1 (retK3 D237.res) (fun σ h => J237_1 E (σ p6) h) := Is.rf
theorem I237_0 : iB2 E D237 (J237_0 E) := Is.aq (Is.sq (Is.sq (Is.sq (I237_1 E) (Is.leaf _)) (Is.leaf _)) (Is.leaf _))
def S237 : Fun := fA2 (J237_0 E)
theorem S237_eq : SQ D237 S237 := eB2 I237_0
def D244 := cm 244
def C244_1 := cr (cr (cr (cr D244.body)))
def C244_2 := cl (cr (cl (cr (cr (cr D244.body)))))
def J244_1 (E : Env) (r6 : DV) (h : H) : Ans := some ((.tup [r6, (ii 0)]), h)
def B244_2 (r0 r1 r6 r23 : DV) (i2 : DV → H → Ans) (r24 : DV) (h : H) : Ans := vK (v_lss r24 r23) fun x1 => bK x1 (wK (callK E 289 [r0, r1, r24] h) fun x2 h3 => vK (v_iaS 1 r0 x2) fun x4 => vK (v_ld h3.get x4) fun x5 => vK (v_iaS 1 r6 r24) fun x6 => wK (dStF 1 x6 x5 h3) fun x7 h8 => vK (v_add r24 (ii 1)) fun x9 => i2 x9 h8) (J244_1 E r6 h)
def L244_2 (r0 r1 r6 r23 : DV) (n : Nat) : DV → H → Ans := Nat.rec (motive := fun _ => DV → H → Ans) (fun _ _ => none) (fun _ i => B244_2 E r0 r1 r6 r23 i) n
def J244_0 (r0 r1 : DV) (h : H) : Ans := wK (callK E 288 [r0] h) fun x1 h2 => vK (v_not x1) fun x3 => gdK x3 false (fun kk => kk r1 h2) h2 fun x4 h5 => gdK x3 false (fun kk => vK (v_lss x4 (ii 0)) fun v => kk v h5) h5 fun x6 h7 => vK (v_pick x3 (.bool true) x6) fun x8 => gdK x8 false (fun kk => kk r1 h7) h7 fun x9 h10 => gdK x8 false (fun kk => vK (v_geq x9 (ii 4096)) fun v => kk v h10) h10 fun x11 h12 => vK (v_pick x8 (.bool true) x11) fun x13 => bK x13 (some ((.tup [.nils, (ii 1)]), h12)) (vK (v_lenL r0) fun x14 => n_mks 1 8 (ii 0) x14 x14 h12 fun x15 h16 => vK (v_lenL r0) fun x17 => L244_2 E r0 r1 x15 x17 FUEL (ii 0) h16)
theorem I244_1 : Is E C244_1 (retK3 D244.res) (fun σ h => J244_1 E (σ p6) h) := Is.rf
abbrev K244_3 : KT2 (DV × H) := (thenK3 (fun σ h => J244_1 E (σ p6) h) (retK3 D244.res))
theorem I244_2 : Is E C244_2 (blockK3 0 (K244_3 E)) (fun σ h => L244_2 E (σ p0) (σ p1) (σ p6) (σ p23) FUEL (σ p24) h) := Is.lp (fun n2 σ h => L244_2 E (σ p0) (σ p1) (σ p6) (σ p23) n2 (σ p24) h) fun n2 => Is.aq (Is.leaf _)
theorem I244_0 : iB2 E D244 (J244_0 E) := Is.aq (Is.sq (Is.sq (Is.sq (Is.sq (I244_1 E) (Is.sq (Is.bk (I244_2 E)) (Is.leaf _))) (Is.leaf _)) (Is.leaf _)) (Is.leaf _))
def S244 : Fun := fA2 (J244_0 E)
theorem S244_eq : SQ D244 S244 := eB2 I244_0
def D245 := cm 245
def J245_0 (E : Env) (r0 r1 : DV) (h : H) : Ans := vK (v_eqv .ptr false h.get r0 .nilp) fun x1 => gdK x1 false (fun kk => kk r1 h) h fun x2 h3 => gdK x1 false (fun kk => vK (v_lss x2 (ii 0)) fun v => kk v h3) h3 fun x4 h5 => vK (v_pick x1 (.bool true) x4) fun x6 => gdK x6 false (fun kk => kk r1 h5) h5 fun x7 h8 => gdK x6 false (fun kk => kk r0 h8) h8 fun x9 h10 => gdK x6 false (fun kk => vK (v_nilchk x9) fun v => kk v h10) h10 fun x11 h12 => gdK x6 false (fun kk => vK (v_fa 0 x11) fun v => kk v h12) h12 fun x13 h14 => gdK x6 false (fun kk => vK (v_ld h14.get x13) fun v => kk v h14) h14 fun x15 h16 => gdK x6 false (fun kk => vK (v_lenL x15) fun v => kk v h16) h16 fun x17 h18 => gdK x6 false (fun kk => vK (v_geq x7 x17) fun v => kk v h18) h18 fun x19 h20 => vK (v_pick x6 (.bool true) x19) fun x21 => bK x21 (some (.nilp, h20)) (vK (v_nilchk r0) fun x22 => vK (v_fa 0 x22) fun x23 => vK (v_ld h20.get x23) fun x24 => vK (v_iaS 1 x24 r1) fun x25 => vK (v_ld h20.get x25) fun x26 => some (x26, h20))
theorem I245_0 : iB2 E D245 (J245_0 E) := Is.rf
def S245 : Fun := fA2 (J245_0 E)
theorem S245_eq : SQ D245 S245 := eB2 I245_0
def D246 := cm 246
def J246_0 (r0 : DV) (h : H) : Ans := vK (v_nilchk r0) fun x1 => vK (v_fa 1 x1) fun x2 => vK (v_ld h.get x2) fun x3 => wK (callK E 216 [x3, (.fn (.func 290) [] [])] h) fun x4 h5 => some (x4, h5)
theorem I246_0 : iB1 E D246 (J246_0 E) := Is.rf
def S246 : Fun := fA1 (J246_0 E)
theorem S246_eq : SQ D246 S246 := eB1 I246_0
def D247 := cm 247
def C247_1 := cr (cr D247.body)
def C247_2 := cl (cr (cl (cr D247.body)))
def C247_3 := cr (cr (cr (cl C247_2)))
def C247_4 := cr (cr (cr (cl (cl (cr (cr (cl C247_2)))))))
def J247_1 (E : Env) (h : H) : Ans := some ((ii 0), h)
def J247_3 (E : Env) (i2 : DV → H → Ans) (r12 : DV) (h : H) : Ans := vK (v_add r12 (ii 1)) fun x1 => i2 x1 h
def J247_4 (i2 : DV → H → Ans) (r0 r9 r12 : DV) (h : H) : Ans := vK (v_neq r9 (ii 0)) fun x1 => bK x1 (vK (v_nilchk r0) fun x2 => vK (v_fa 2 x2) fun x3 => wK (dStF 1 x3 (.bool true) h) fun x4 h5 => some (r9, h5)) (J247_3 E i2 r12 h)
def B247_2 (r0 r1 r10 r11 : DV) (i2 : DV → H → Ans) (r12 : DV) (h : H) : Ans := vK (v_lss r12 r11) fun x1 => bK x1 (vK (v_iaS 1 r10 r12) fun x2 => vK (v_ld h.get x2) fun x3 => vK (v_lss r1 (ii 0)) fun x4 => gdK x4 false (fun kk => kk r12 h) h fun x5 h6 => gdK x4 false (fun kk => kk r1 h6) h6 fun x7 h8 => gdK x4 false (fun kk => vK (v_lss x5 x7) fun v => kk v h8) h8 fun x9 h10 => vK (v_pick x4 (.bool true) x9) fun x11 => bK x11 (wK (c_val E x3 [] h10) fun x12 h13 => J247_4 E i2 r0 x12 r12 h13) (J247_4 E i2 r0 (ii 16) r12 h10)) (J247_1 E h)
def L247_2 (r0 r1 r10 r11 : DV) (n : Nat) : DV → H → Ans := Nat.rec (motive := fun _ => DV → H → Ans) (fun _ _ => none) (fun _ i => B247_2 E r0 r1 r10 r11 i) n
def J247_0 (r0 r1 r2 : DV) (h : H) : Ans := vK (v_lenL r2) fun x1 => L247_2 E r0 r1 r2 x1 FUEL (ii 0) h
theorem I247_1 : Is E C247_1 (retK3 D247.res) (fun σ h => J247_1 E h) := Is.rf
abbrev K247_5 : KT2 (DV × H) := (blockK3 0 (thenK3 (fun σ h => J247_1 E h) (retK3 D247.res)))
abbrev K247_6 (n2 : Nat) : KT2 (DV × H) := (thenK3 (fun σ h => (L247_2 E (σ p0) (σ p1) (σ p10) (σ p11) n2) (σ p12) h) (K247_5 E))
theorem I247_3 (n2 : Nat) : Is E C247_3 (K247_6 E n2) (fun σ h => J247_3 E (L247_2 E (σ p0) (σ p1) (σ p10) (σ p11) n2) (σ p12) h) := Is.rf
abbrev K247_7 (n2 : Nat) : KT2 (DV × H) := (thenK3 (fun σ h => J247_3 E (L247_2 E (σ p0) (σ p1) (σ p10) (σ p11) n2) (σ p12) h) (K247_6 E n2))
theorem I247_4 (n2 : Nat) : Is E C247_4 (blockK3 1 (K247_7 E n2)) (fun σ h => J247_4 E (L247_2 E (σ p0) (σ p1) (σ p10) (σ p11) n2) (σ p0) (σ p9) (σ p12) h) := Is.rf
theorem I247_2 : Is E C247_2 (K247_5 E) (fun σ h => L247_2 E (σ p0) (σ p1) (σ p10) (σ p11) FUEL (σ p12) h) := Is.lp (fun n2 σ h => L247_2 E (σ p0) (σ p1) (σ p10) (σ p11) n2 (σ p12) h) fun n2 => Is.aq (Is.sq (Is.sq (Is.sq (I247_3 E n2) (Is.bk (Is.sq (Is.sq (Is.sq (I247_4 E n2) (Is.leaf _)) (Is.leaf _)) (Is.leaf _)))) (Is.leaf _)) (Is.leaf _))
theorem I247_0 : iB3 E D247 (J247_0 E) := Is.aq (Is.sq (Is.sq (I247_1 E) (Is.sq (Is.bk (I247_2 E)) (Is.leaf _))) (Is.leaf _))
def S247 : Fun := fA3 (J247_0 E)
theorem S247_eq : SQ D247 S247 := eB3 I247_0
def D248 := cm 248
def J248_0 (E : Env) (r0 r1 r2 : DV) (h : H) : Ans := n_box r0 h fun x1 h2 => n_box r1 h2 fun x3 h4 => n_box r2 h4 fun x5 h6 => some ((.fn (.func 291) [] [x1, x3, x5]), h6)
theorem I248_0 : iB3 E D248 (J248_0 E) := Is.rf
def S248 : Fun := fA3 (J248_0 E)
theorem S248_eq : SQ D248 S248 := eB3 I248_0
def D249 := cm 249
def J249_0 (r0 : DV) (h : H) : Ans := vK (v_nilchk r0) fun x1 => vK (v_fa 0 x1) fun x2 => vK (v_ld h.get x2) fun x3 => wK (callK E 293 [x3] h) fun x4 h5 => some ((ii 0), h5)
theorem I249_0 : iB1 E D249 (J249_0 E) := Is.rf
def S249 : Fun := fA1 (J249_0 E)
theorem S249_eq : SQ D249 S249 := eB1 I249_0
def D250 := cm 250
def C250_1 := cr D250.body
def B250_1 (E : Env) (i1 : DV → DV → H → Ans) (r0 r3 : DV) (h : H) : Ans := vK (v_shr r0 (.int .u64 (.ofNat 1))) fun x1 => vK (v_and r0 (.int .u32 (.ofNat 1))) fun x2 => vK (v_neg x2) fun x3 => vK (v_and (.int .u32 (.ofNat 3988292384)) x3) fun x4 => vK (v_xor x1 x4) fun x5 => vK (v_sub r3 (ii 1)) fun x6 => vK (v_gtr x6 (ii 0)) fun x7 => bK x7 (i1 x5 x6 h) (some (x5, h))
def L250_1 (n : Nat) : DV → DV → H → Ans := Nat.rec (motive := fun _ => DV → DV → H → Ans) (fun _ _ _ => none) (fun _ i => B250_1 E i) n
def J250_1 (r0 : DV) (h : H) : Ans := vK (v_shr r0 (.int .u64 (.ofNat 1))) fun x1 => vK (v_and r0 (.int .u32 (.ofNat 1))) fun x2 => vK (v_neg x2) fun x3 => vK (v_and (.int .u32 (.ofNat 3988292384)) x3) fun x4 => vK (v_xor x1 x4) fun x5 => vK (v_sub (ii 8) (ii 1)) fun x6 => vK (v_gtr x6 (ii 0)) fun x7 => bK x7 (L250_1 E FUEL x5 x6 h) (some (x5, h))
def J250_0 (r0 : DV) (h : H) : Ans := J250_1 E r0 h
theorem I250_1 : Is E C250_1 (retK3 D250.res) (fun σ h => J250_1 E (σ p0) h) := Is.aq (Is.jm (g := 4294967296) (fun n1 σ h => L250_1 E n1 (σ p0) (σ p3) h) (fun n1 => Is.aq (Is.leaf _)) (Is.leaf _))
theorem I250_0 : iB1 E D250 (J250_0 E) := Is.aq (Is.sq (I250_1 E) (Is.leaf _))
def S250 : Fun := fA1 (J250_0 E)
theorem S250_eq : SQ D250 S250 := eB1 I250_0
def D251 := cm 251
def J251_0 (E : Env) (r0 r1 : DV) (h : H) : Ans := vK (v_eqv .ptr false h.get r0 .nilp) fun x1 => gdK x1 false (fun kk => kk r1 h) h fun x2 h3 => gdK x1 false (fun kk => vK (v_lss x2 (ii 0)) fun v => kk v h3) h3 fun x4 h5 => vK (v_pick x1 (.bool true) x4) fun x6 => gdK x6 false (fun kk => kk r1 h5) h5 fun x7 h8 => gdK x6 false (fun kk => kk r0 h8) h8 fun x9 h10 => gdK x6 false (fun kk => vK (v_nilchk x9) fun v => kk v h10) h10 fun x11 h12 => gdK x6 false (fun kk => vK (v_fa 0 x11) fun v => kk v h12) h12 fun x13 h14 => gdK x6 false (fun kk => vK (v_ld h14.get x13) fun v => kk v h14) h14 fun x15 h16 => gdK x6 false (fun kk => vK (v_lenL x15) fun v => kk v h16) h16 fun x17 h18 => gdK x6 false (fun kk => vK (v_geq x7 x17) fun v => kk v h18) h18 fun x19 h20 => vK (v_pick x6 (.bool true) x19) fun x21 => bK x21 (some (.nilp, h20)) (vK (v_nilchk r0) fun x22 => vK (v_fa 0 x22) fun x23 => vK (v_ld h20.get x23) fun x24 => vK (v_iaS 6 x24 r1) fun x25 => some (x25, h20))
theorem I251_0 : iB2 E D251 (J251_0 E) := Is.rf
def S251 : Fun := fA2 (J251_0 E)
theorem S251_eq : SQ D251 S251 := eB2 I251_0
def D252 := cm 252
def J252_0 (E : Env) (r0 : DV) (h : H) : Ans := vK (v_eqv .nilL false h.get r0 .nils) fun x1 => bK x1 (some (.nils, h)) (n_bsl 0 1 [(ii 0)] [] h fun x2 h3 => wK (dAppendF 1 8 x2 r0 h3) fun x4 h5 => some (x4, h5))
theorem I252_0 : iB1 E D252 (J252_0 E) := Is.rf
def S252 : Fun := fA1 (J252_0 E)
theorem S252_eq : SQ D252 S252 := eB1 I252_0
def D253 := cm 253
def J253_0 (r0 r1 r2 : DV) (h : H) : Ans := vK (v_eqv .ptr false h.get r0 .nilp) fun x1 => bK x1 (some ((.tup [(.str []), (ii 1)]), h)) (wK (callK E 141 [r0, r1, r2] h) fun x2 h3 => vK (v_ext 0 x2) fun x4 => vK (v_ext 1 x2) fun x5 => vK (v_not x5) fun x6 => bK x6 (some ((.tup [(.str []), (ii 7)]), h3)) (vK (v_nilchk r0) fun x7 => vK (v_fa 0 x7) fun x8 => vK (v_ld h3.get x8) fun x9 => vK (v_bld [(ii 0), (ii 0)] [(0, 1, r1), (1, 1, r2)]) fun x10 => wK (callK E 294 [x9, x4, x10] h3) fun x11 h12 => vK (v_ext 0 x11) fun x13 => vK (v_ext 1 x11) fun x14 => some ((.tup [x13, x14]), h12)))
theorem I253_0 : iB3 E D253 (J253_0 E) := Is.rf
def S253 : Fun := fA3 (J253_0 E)
theorem S253_eq : SQ D253 S253 := eB3 I253_0
def D254 := cm 254
def J254_0 (r0 r1 r2 r3 r4 : DV) (h : H) : Ans := vK (v_iaS 5 r0 r2) fun x1 => vK (v_ldN 5 h.get x1) fun x2 => vK (v_iaS 5 r0 r1) fun x3 => vK (v_ldN 5 h.get x3) fun x4 => wK (c_val E r4 [x2, x4] h) fun x5 h6 => vK (v_lss x5 (ii 0)) fun x7 => bK x7 (vK (v_nilchk r3) fun x8 => vK (v_ld h6.get x8) fun x9 => vK (v_add x9 (ii 1)) fun x10 => vK (v_nilchk r3) fun x11 => wK (dStF 1 x11 x10 h6) fun x12 h13 => some ((.tup [r2, r1]), h13)) (some ((.tup [r1, r2]), h6))
theorem I254_0 : iB5 E D254 (J254_0 E) := Is.rf
def S254 : Fun := fA5 (J254_0 E)
theorem S254_eq : SQ D254 S254 := eB5 I254_0
def D255 := cm 255
def J255_0 (E : Env) (r0 : DV) (h : H) : Ans := vK (v_conv .u8 r0) fun x1 => vK (v_shr r0 (.int .u64 (.ofNat 8))) fun x2 => vK (v_conv .u8 x2) fun x3 => vK (v_shr r0 (.int .u64 (.ofNat 16))) fun x4 => vK (v_conv .u8 x4) fun x5 => vK (v_shr r0 (.int .u64 (.ofNat 24))) fun x6 => vK (v_conv .u8 x6) fun x7 => n_bsl 4 1 [(.int .u8 (.ofNat 0))] [(0, 1, x1), (1, 1, x3), (2, 1, x5), (3, 1, x7)] h fun x8 h9 => vK (v_b2s h9.get x8) fun x10 => some (x10, h9)
theorem I255_0 : iB1 E D255 (J255_0 E) := Is.rf
def S255 : Fun := fA1 (J255_0 E)
theorem S255_eq : SQ D255 S255 := eB1 I255_0
def D256 := cm 256
def C256_1 := cr (cr (cr (cr D256.body)))
def C256_2 := cr (cr (cr (cr (cr C256_1))))
def C256_3 := cl (cl (cr (cr (cr (cr C256_1)))))
def J256_2 (E : Env) (r0 r9 r10 : DV) (h : H) : Ans := vK (v_iaS 1 r9 r10) fun x1 => wK (dStF 1 x1 r0 h) fun x2 h3 => vK (v_add r10 (ii 1)) fun x4 => vK (v_slL 1 r9 none (some x4)) fun x5 => some (x5, h3)
def B256_3 (r1 r2 r3 r9 : DV) (i3 : DV → DV → H → Ans) (r0 r10 : DV) (h : H) : Ans := vK (v_lss r10 r3) fun x1 => bK x1 (wK (callK E 297 [r0, r1] h) fun x2 h3 => vK (v_lss x2 (ii 0)) fun x4 => bK x4 (J256_2 E r0 r9 r10 h3) (vK (v_add x2 r2) fun x5 => vK (v_slS r0 none (some x5)) fun x6 => vK (v_iaS 1 r9 r10) fun x7 => wK (dStF 1 x7 x6 h3) fun x8 h9 => vK (v_lenS r1) fun x10 => vK (v_add x2 x10) fun x11 => vK (v_slS r0 (some x11) none) fun x12 => vK (v_add r10 (ii 1)) fun x13 => i3 x12 x13 h9)) (J256_2 E r0 r9 r10 h)
def L256_3 (r1 r2 r3 r9 : DV) (n : Nat) : DV → DV → H → Ans := Nat.rec (motive := fun _ => DV → DV → H → Ans) (fun _ _ _ => none) (fun _ i => B256_3 E r1 r2 r3 r9 i) n
def J256_1 (r0 r1 r2 r3 : DV) (h : H) : Ans := vK (v_lenS r0) fun x1 => vK (v_add x1 (ii 1)) fun x2 => vK (v_mn r3 x2) fun x3 => n_mks 1 16 (.str []) x3 x3 h fun x4 h5 => vK (v_sub x3 (ii 1)) fun x6 => L256_3 E r1 r2 x6 x4 FUEL r0 (ii 0) h5
def J256_0 (r0 r1 r2 r3 : DV) (h : H) : Ans := vK (v_eql r3 (ii 0)) fun x1 => bK x1 (some (.nils, h)) (vK (v_eql r1 (.str [])) fun x2 => bK x2 (wK (callK E 295 [r0, r3] h) fun x3 h4 => some (x3, h4)) (vK (v_lss r3 (ii 0)) fun x5 => bK x5 (wK (callK E 296 [r0, r1] h) fun x6 h7 => vK (v_add x6 (ii 1)) fun x8 => J256_1 E r0 r1 r2 x8 h7) (J256_1 E r0 r1 r2 r3 h)))
theorem I256_2 : Is E C256_2 (retK3 D256.res) (fun σ h => J256_2 E (σ p0) (σ p9) (σ p10) h) := Is.rf
abbrev K256_4 : KT2 (DV × H) := (thenK3 (fun σ h => J256_2 E (σ p0) (σ p9) (σ p10) h) (retK3 D256.res))
theorem I256_3 : Is E C256_3 (blockK3 0 (K256_4 E)) (fun σ h => L256_3 E (σ p1) (σ p2) (σ p3) (σ p9) FUEL (σ p0) (σ p10) h) := Is.lp (fun n3 σ h => L256_3 E (σ p1) (σ p2) (σ p3) (σ p9) n3 (σ p0) (σ p10) h) fun n3 => Is.aq (Is.leaf _)
theorem I256_1 : Is E C256_1 (retK3 D256.res) (fun σ h => J256_1 E (σ p0) (σ p1) (σ p2) (σ p3) h) := Is.aq (Is.sq (Is.sq (Is.sq (Is.sq (Is.sq (I256_2 E) (Is.bk (I256_3 E))) (Is.leaf _)) (Is.leaf _)) (Is.leaf _)) (Is.leaf _))
theorem I256_0 : iB4 E D256 (J256_0 E) := Is.aq (Is.sq (Is.sq (Is.sq (Is.sq (I256_1 E) (Is.leaf _)) (Is.leaf _)) (Is.leaf _)) (Is.leaf _))
def S256 : Fun := fA4 (J256_0 E)
theorem S256_eq : SQ D256 S256 := eB4 I256_0
def D257 := cm 257
def J257_0 (E : Env) (r0 r1 : DV) (h : H) : Ans := vK (v_idxB r0 r1) fun x1 => some (x1, h)
theorem I257_0 : iB2 E D257 (J257_0 E) := Is.rf
def S257 : Fun := fA2 (J257_0 E)
theorem S257_eq : SQ D257 S257 := eB2 I257_0
def D258 := cm 258
def J258_0 (r0 r1 : DV) (h : H) : Ans := vK (v_slL 2 r0 none (some r1)) fun x1 => wK (callK E 299 [x1] h) fun x2 h3 => vK (v_slL 2 r0 (some r1) none) fun x4 => wK (callK E 299 [x4] h3) fun x5 h6 => wK (callK E 299 [r0] h6) fun x7 h8 => some ((.tup []), h8)
theorem I258_0 : iB2 E D258 (J258_0 E) := Is.rf
def S258 : Fun := fA2 (J258_0 E)
theorem S258_eq : SQ D258 S258 := eB2 I258_0
def D265 := cm 265
def C265_1 := cr (cr (cr D265.body))
def C265_2 := cl (cr (cl (cr (cr D265.body))))
def J265_1 (E : Env) (r0 : DV) (h : H) : Ans := some (r0, h)
def B265_2 (r10 r11 : DV) (i2 : DV → DV → H → Ans) (r0 r12 : DV) (h : H) : Ans := vK (v_lss r12 r11) fun x1 => bK x1 (vK (v_iaS 1 r10 r12) fun x2 => vK (v_ld h.get x2) fun x3 => wK (callK E 61 [r0, x3] h) fun x4 h5 => vK (v_add r12 (ii 1)) fun x6 => i2 x4 x6 h5) (J265_1 E r0 h)
def L265_2 (r10 r11 : DV) (n : Nat) : DV → DV → H → Ans := Nat.rec (motive := fun _ => DV → DV → H → Ans) (fun _ _ _ => none) (fun _ i => B265_2 E r10 r11 i) n
def J265_0 (r0 r1 : DV) (h : H) : Ans := vK (v_ld h.get r1) fun x1 => vK (v_lenL x1) fun x2 => wK (callK E 61 [r0, x2] h) fun x3 h4 => vK (v_ld h4.get r1) fun x5 => vK (v_lenL x5) fun x6 => L265_2 E x5 x6 FUEL x3 (ii 0) h4
theorem I265_1 : Is E C265_1 (retK3 D265.res) (fun σ h => J265_1 E (σ p0) h) := Is.rf
abbrev K265_3 : KT2 (DV × H) := (thenK3 (fun σ h => J265_1 E (σ p0) h) (retK3 D265.res))
theorem I265_2 : Is E C265_2 (blockK3 0 (K265_3 E)) (fun σ h => L265_2 E (σ p10) (σ p11) FUEL (σ p0) (σ p12) h) := Is.lp (fun n2 σ h => L265_2 E (σ p10) (σ p11) n2 (σ p0) (σ p12) h) fun n2 => Is.aq (Is.leaf _)
theorem I265_0 : iB2 E D265 (J265_0 E) := Is.aq (Is.sq (Is.sq (Is.sq (I265_1 E) (Is.sq (Is.bk (I265_2 E)) (Is.leaf _))) (Is.leaf _)) (Is.leaf _))
def S265 : Fun := fA2 (J265_0 E)
theorem S265_eq : SQ D265 S265 := eB2 I265_0
def D266 := cm 266
def C266_1 := cr (cr (cr (cr D266.body)))
def C266_2 := cl (cl (cr (cr (cr D266.body))))
def J266_1 (r0 r1 r2 r8 r9 : DV) (h : H) : Ans := vK (v_lss r9 r8) fun x1 => gdK x1 true (fun kk => kk r2 h) h fun x2 h3 => gdK x1 true (fun kk => kk r0 h3) h3 fun x4 h5 => gdK x1 true (fun kk => kk r9 h5) h5 fun x6 h7 => gdK x1 true (fun kk => vK (v_iaS 3 x4 x6) fun v => kk v h7) h7 fun x8 h9 => gdK x1 true (fun kk => vK (v_ldN 3 h9.get x8) fun v => kk v h9) h9 fun x10 h11 => gdK x1 true (fun kk => kk r1 h11) h11 fun x12 h13 => gdK x1 true (fun kk => wK (c_val E x2 [x10, x12] h13) kk) h13 fun x14 h15 => gdK x1 true (fun kk => vK (v_eql x14 (ii 0)) fun v => kk v h15) h15 fun x16 h17 => vK (v_pick x1 x16 (.bool false)) fun x18 => some ((.tup [r9, x18]), h17)
def B266_2 (r0 r1 r2 r8 : DV) (i2 : DV → DV → H → Ans) (r9 r10 : DV) (h : H) : Ans := vK (v_lss r9 r10) fun x1 => bK x1 (vK (v_add r9 r10) fun x2 => vK (v_conv .u64 x2) fun x3 => vK (v_shr x3 (.int .u64 (.ofNat 1))) fun x4 => vK (v_conv .i64 x4) fun x5 => vK (v_iaS 3 r0 x5) fun x6 => vK (v_ldN 3 h.get x6) fun x7 => wK (c_val E r2 [x7, r1] h) fun x8 h9 => vK (v_lss x8 (ii 0)) fun x10 => bK x10 (vK (v_add x5 (ii 1)) fun x11 => i2 x11 r10 h9) (i2 r9 x5 h9)) (J266_1 E r0 r1 r2 r8 r9 h)
def L266_2 (r0 r1 r2 r8 : DV) (n : Nat) : DV → DV → H → Ans := Nat.rec (motive := fun _ => DV → DV → H → Ans) (fun _ _ _ => none) (fun _ i => B266_2 E r0 r1 r2 r8 i) n
def J266_0 (r0 r1 r2 : DV) (h : H) : Ans := vK (v_lenL r0) fun x1 => L266_2 E r0 r1 r2 x1 FUEL (ii 0) x1 h
theorem I266_1 : Is E C266_1 (retK3 D266.res) (fun σ h => J266_1 E (σ p0) (σ p1) (σ p2) (σ p8) (σ p9) h) := Is.rf
abbrev K266_3 : KT2 (DV × H) := (thenK3 (fun σ h => J266_1 E (σ p0) (σ p1) (σ p2) (σ p8) (σ p9) h) (retK3 D266.res))
theorem I266_2 : Is E C266_2 (blockK3 0 (K266_3 E)) (fun σ h => L266_2 E (σ p0) (σ p1) (σ p2) (σ p8) FUEL (σ p9) (σ p10) h) := Is.lp (fun n2 σ h => L266_2 E (σ p0) (σ p1) (σ p2) (σ p8) n2 (σ p9) (σ p10) h) fun n2 => Is.aq (Is.leaf _)
theorem I266_0 : iB3 E D266 (J266_0 E) := Is.aq (Is.sq (Is.sq (Is.sq (Is.sq (I266_1 E) (Is.bk (I266_2 E))) (Is.leaf _)) (Is.leaf _)) (Is.leaf _))
def S266 : Fun := fA3 (J266_0 E)
theorem S266_eq : SQ D266 S266 := eB3 I266_0
def D267 := cm 267
def J267_0 (E : Env) (r0 r1 : DV) (h : H) : Ans := n_box r0 h fun x1 h2 => vK (v_fa 0 x1) fun x3 => vK (v_ld h2.get x3) fun x4 => vK (v_sub x4 r1) fun x5 => some (x5, h2)
theorem I267_0 : iB2 E D267 (J267_0 E) := Is.rf
def S267 : Fun := fA2 (J267_0 E)
theorem S267_eq : SQ D267 S267 := eB2 I267_0
def D269 := cm 269
def J269_0 (r0 r1 : DV) (h : H) : Ans := vK (v_lenL r0) fun x1 => vK (v_sub x1 r1) fun x2 => wK (callK E 305 [r0, x2] h) fun x3 h4 => some ((.tup []), h4)
theorem I269_0 : iB2 E D269 (J269_0 E) := Is.rf
def S269 : Fun := fA2 (J269_0 E)
theorem S269_eq : SQ D269 S269 := eB2 I269_0
def D270 := cm 270
def J270_0 (r0 r1 r2 r3 r4 : DV) (h : H) : Ans := wK (callK E 252 [r4] h) fun x1 h2 => vK (v_bld [(ii 0), (ii 0), (ii 0), (ii 0), (ii 0), .nils] [(1, 1, (ii 1)), (2, 1, r1), (3, 1, r2), (4, 1, r3), (5, 1, x1)]) fun x3 => n_alc 6 6 (.list [(ii 0), (ii 0), (ii 0), (ii 0), (ii 0), .nils]) h2 fun x4 h5 => wK (dStF 6 x4 x3 h5) fun x6 h7 => vK (v_eqv .ptr false h7.get r0 .nilp) fun x8 => gdK x8 false (fun kk => vK (v_ldN 6 h7.get x4) fun v => kk v h7) h7 fun x9 h10 => gdK x8 false (fun kk => wK (callK E 306 [x9] h10) kk) h10 fun x11 h12 => gdK x8 false (fun kk => vK (v_not x11) fun v => kk v h12) h12 fun x13 h14 => vK (v_pick x8 (.bool true) x13) fun x15 => bK x15 (some ((.tup [(ii 0), (ii 1)]), h14)) (vK (v_nilchk r0) fun x16 => vK (v_fa 1 x16) fun x17 => vK (v_ld h14.get x17) fun x18 => vK (v_geq x18 (ii 256)) fun x19 => gdK x19 false (fun kk => kk r0 h14) h14 fun x20 h21 => gdK x19 false (fun kk => vK (v_nilchk x20) fun v => kk v h21) h21 fun x22 h23 => gdK x19 false (fun kk => vK (v_fa 0 x22) fun v => kk v h23) h23 fun x24 h25 => gdK x19 false (fun kk => vK (v_ld h25.get x24) fun v => kk v h25) h25 fun x26 h27 => gdK x19 false (fun kk => vK (v_lenL x26) fun v => kk v h27) h27 fun x28 h29 => gdK x19 false (fun kk => vK (v_geq x28 (ii 4096)) fun v => kk v h29) h29 fun x30 h31 => vK (v_pick x19 (.bool true) x30) fun x32 => bK x32 (some ((.tup [(ii 0), (ii 5)]), h31)) (vK (v_nilchk r0) fun x33 => vK (v_fa 0 x33) fun x34 => vK (v_ld h31.get x34) fun x35 => vK (v_lenL x35) fun x36 => vK (v_fa 0 x4) fun x37 => wK (dStF 1 x37 x36 h31) fun x38 h39 => vK (v_nilchk r0) fun x40 => vK (v_fa 0 x40) fun x41 => vK (v_ld h39.get x41) fun x42 => vK (v_ldN 6 h39.get x4) fun x43 => n_bsl 1 6 [(ii 0), (ii 0), (ii 0), (ii 0), (ii 0), .nils] [(0, 6, x43)] h39 fun x44 h45 => wK (dAppendF 6 64 x42 x44 h45) fun x46 h47 => vK (v_nilchk r0) fun x48 => vK (v_fa 0 x48) fun x49 => wK (dStF 1 x49 x46 h47) fun x50 h51 => vK (v_nilchk r0) fun x52 => vK (v_fa 1 x52) fun x53 => vK (v_ld h51.get x53) fun x54 => vK (v_add x54 (ii 1)) fun x55 => vK (v_nilchk r0) fun x56 => vK (v_fa 1 x56) fun x57 => wK (dStF 1 x57 x55 h51) fun x58 h59 => vK (v_fa 0 x4) fun x60 => vK (v_ld h59.get x60) fun x61 => some ((.tup [x61, (ii 0)]), h59)))
theorem I270_0 : iB5 E D270 (J270_0 E) := Is.rf
def S270 : Fun := fA5 (J270_0 E)
theorem S270_eq : SQ D270 S270 := eB5 I270_0
def D271 := cm 271
def J271_0 (E : Env) (r0 : DV) (h : H) : Ans := vK (v_eqv .ptr false h.get r0 .nilp) fun x1 => bK x1 (some ((ii 0), h)) (vK (v_nilchk r0) fun x2 => vK (v_fa 2 x2) fun x3 => vK (v_ld h.get x3) fun x4 => some (x4, h))
theorem I271_0 : iB1 E D271 (J271_0 E) := Is.rf
def S271 : Fun := fA1 (J271_0 E)
theorem S271_eq : SQ D271 S271 := eB1 I271_0
def D272 := cm 272
def J272_0 (r0 : DV) (h : H) : Ans := vK (v_eqv .ptr false h.get r0 .nilp) fun x1 => bK x1 (some (.nils, h)) (vK (v_nilchk r0) fun x2 => vK (v_fa 0 x2) fun x3 => vK (v_ld h.get x3) fun x4 => wK (callK E 170 [x4] h) fun x5 h6 => some (x5, h6))
theorem I272_0 : iB1 E D272 (J272_0 E) := Is.rf
def S272 : Fun := fA1 (J272_0 E)
theorem S272_eq : SQ D272 S272 := eB1 I272_0
def D273 := cm 273
def J273_0 (r0 r1 r2 : DV) (h : H) : Ans := vK (v_eqv .ptr false h.get r0 .nilp) fun x1 => bK x1 (some ((ii 1), h)) (wK (callK E 251 [r0, r1] h) fun x2 h3 => vK (v_eqv .ptr false h3.get x2 .nilp) fun x4 => bK x4 (some ((ii 7), h3)) (vK (v_nilchk x2) fun x5 => vK (v_fa 1 x5) fun x6 => vK (v_ld h3.get x6) fun x7 => vK (v_neq x7 (ii 1)) fun x8 => gdK x8 false (fun kk => kk x2 h3) h3 fun x9 h10 => gdK x8 false (fun kk => vK (v_nilchk x9) fun v => kk v h10) h10 fun x11 h12 => gdK x8 false (fun kk => vK (v_fa 2 x11) fun v => kk v h12) h12 fun x13 h14 => gdK x8 false (fun kk => vK (v_ld h14.get x13) fun v => kk v h14) h14 fun x15 h16 => gdK x8 false (fun kk => kk r2 h16) h16 fun x17 h18 => gdK x8 false (fun kk => vK (v_neq x15 x17) fun v => kk v h18) h18 fun x19 h20 => vK (v_pick x8 (.bool true) x19) fun x21 => bK x21 (some ((ii 16), h20)) (vK (v_nilchk x2) fun x22 => vK (v_fa 1 x22) fun x23 => wK (dStF 1 x23 (ii 2) h20) fun x24 h25 => some ((ii 0), h25))))
theorem I273_0 : iB3 E D273 (J273_0 E) := Is.rf
def S273 : Fun := fA3 (J273_0 E)
theorem S273_eq : SQ D273 S273 := eB3 I273_0
def D274 := cm 274
def J274_0 (r0 r1 r2 r3 r4 : DV) (h : H) : Ans := vK (v_bld [(ii 0), (ii 0), (ii 0), (ii 0)] [(0, 1, r1), (1, 1, r2), (2, 1, r3), (3, 1, r4)]) fun x1 => wK (callK E 308 [r0, x1] h) fun x2 h3 => wK (callK E 307 [x2] h3) fun x4 h5 => some (x4, h5)
theorem I274_0 : iB5 E D274 (J274_0 E) := Is.rf
def S274 : Fun := fA5 (J274_0 E)
theorem S274_eq : SQ D274 S274 := eB5 I274_0
def D275 := cm 275
def C275_1 := cr (cr (cr (cr (cr D275.body))))
def C275_2 := cr (cl (cr (cl (cr (cr (cr (cr D275.body)))))))
def J275_1 (E : Env) (h : H) : Ans := some ((ii 16), h)
def J275_2 (E : Env) (r0 r5 : DV) (h : H) : Ans := vK (v_nilchk r5) fun x1 => vK (v_fa 1 x1) fun x2 => wK (dStF 1 x2 (ii 3) h) fun x3 h4 => vK (v_nilchk r0) fun x5 => vK (v_fa 1 x5) fun x6 => vK (v_ld h4.get x6) fun x7 => vK (v_sub x7 (ii 1)) fun x8 => vK (v_nilchk r0) fun x9 => vK (v_fa 1 x9) fun x10 => wK (dStF 1 x10 x8 h4) fun x11 h12 => some ((ii 0), h12)
def J275_0 (r0 r1 : DV) (h : H) : Ans := vK (v_eqv .ptr false h.get r0 .nilp) fun x1 => bK x1 (some ((ii 1), h)) (wK (callK E 251 [r0, r1] h) fun x2 h3 => vK (v_eqv .ptr false h3.get x2 .nilp) fun x4 => bK x4 (some ((ii 7), h3)) (vK (v_nilchk x2) fun x5 => vK (v_fa 1 x5) fun x6 => vK (v_ld h3.get x6) fun x7 => vK (v_eql x7 (ii 1)) fun x8 => bK x8 (J275_2 E r0 x2 h3) (vK (v_eql x7 (ii 2)) fun x9 => bK x9 (J275_2 E r0 x2 h3) (J275_1 E h3))))
theorem I275_1 : Is E C275_1 (retK3 D275.res) (fun σ h => J275_1 E h) := Is.rf
abbrev K275_3 : KT2 (DV × H) := (blockK3 0 (thenK3 (fun σ h => J275_1 E h) (retK3 D275.res)))
theorem I275_2 : Is E C275_2 (K275_3 E) (fun σ h => J275_2 E (σ p0) (σ p5) h) := Is.rf
theorem I275_0 : iB2 E D275 (J275_0 E) := Is.aq (Is.sq (Is.sq (Is.sq (Is.sq (Is.sq (I275_1 E) (Is.sq (Is.bk (Is.sq (I275_2 E) (Is.leaf _))) (Is.leaf _))) (Is.leaf _)) (Is.leaf _)) (Is.leaf _)) (Is.leaf _))
def S275 : Fun := fA2 (J275_0 E)
theorem S275_eq : SQ D275 S275 := eB2 I275_0
def D276 := cm 276
def C276_1 := cr (cr (cr (cr D276.body)))
def J276_1 (E : Env) (r6 : DV) (h : H) : Ans := some (r6, h)
def J276_0 (r0 r1 : DV) (h : H) : Ans := vK (v_eqv .ptr false h.get r0 .nilp) fun x1 => bK x1 (some ((.bool false), h)) (wK (callK E 309 [r0, r1] h) fun x2 h3 => vK (v_ext 0 x2) fun x4 => vK (v_ext 1 x2) fun x5 => bK x5 (vK (v_nilchk r0) fun x6 => vK (v_fa 0 x6) fun x7 => vK (v_ld h3.get x7) fun x8 => vK (v_add x4 (ii 1)) fun x9 => wK (callK E 310 [x8, x4, x9] h3) fun x10 h11 => vK (v_nilchk r0) fun x12 => vK (v_fa 0 x12) fun x13 => wK (dStF 1 x13 x10 h11) fun x14 h15 => J276_1 E x5 h15) (J276_1 E x5 h3))
theorem I276_1 : Is E C276_1 (retK3 D276.res) (fun σ h => J276_1 E (σ p6) h) := Is.rf
theorem I276_0 : iB2 E D276 (J276_0 E) := Is.aq (Is.sq (Is.sq (Is.sq (Is.sq (I276_1 E) (Is.leaf _)) (Is.leaf _)) (Is.leaf _)) (Is.leaf _))
def S276 : Fun := fA2 (J276_0 E)
theorem S276_eq : SQ D276 S276 := eB2 I276_0
def D284 := cm 284
def C284_1 := cr (cr D284.body)
def C284_2 := cl (cr (cl (cr D284.body)))
def J284_1 (E : Env) (h : H) : Ans := some ((.int .i64 (.negSucc 0)), h)
def B284_2 (r0 r1 r7 : DV) (i2 : DV → H → Ans) (r8 : DV) (h : H) : Ans := vK (v_lss r8 r7) fun x1 => bK x1 (vK (v_iaS 1 r0 r8) fun x2 => vK (v_ld h.get x2) fun x3 => vK (v_eql r1 x3) fun x4 => bK x4 (some (r8, h)) (vK (v_add r8 (ii 1)) fun x5 => i2 x5 h)) (J284_1 E h)
def L284_2 (r0 r1 r7 : DV) (n : Nat) : DV → H → Ans := Nat.rec (motive := fun _ => DV → H → Ans) (fun _ _ => none) (fun _ i => B284_2 E r0 r1 r7 i) n
def J284_0 (r0 r1 : DV) (h : H) : Ans := vK (v_lenL r0) fun x1 => L284_2 E r0 r1 x1 FUEL (ii 0) h
theorem I284_1 : Is E C284_1 (retK3 D284.res) (fun σ h => J284_1 E h) := Is.rf
abbrev K284_3 : KT2 (DV × H) := (blockK3 0 (thenK3 (fun σ h => J284_1 E h) (retK3 D284.res)))
theorem I284_2 : Is E C284_2 (K284_3 E) (fun σ h => L284_2 E (σ p0) (σ p1) (σ p7) FUEL (σ p8) h) := Is.lp (fun n2 σ h => L284_2 E (σ p0) (σ p1) (σ p7) n2 (σ p8) h) fun n2 => Is.aq (Is.leaf _)
theorem I284_0 : iB2 E D284 (J284_0 E) := Is.aq (Is.sq (Is.sq (I284_1 E) (Is.sq (Is.bk (I284_2 E)) (Is.leaf _))) (Is.leaf _))
def S284 : Fun := fA2 (J284_0 E)
theorem S284_eq : SQ D284 S284 := eB2 I284_0
def D288 := cm 288
def C288_1 := cr (cr (cr D288.body))
def C288_2 := cl (cr (cl (cr (cr D288.body))))
def J288_1 (E : Env) (h : H) : Ans := some ((.bool true), h)
def B288_2 (r0 r13 r14 : DV) (i2 : DV → H → Ans) (r15 : DV) (h : H) : Ans := vK (v_lss r15 r14) fun x1 => bK x1 (vK (v_iaS 1 r13 r15) fun x2 => vK (v_ld h.get x2) fun x3 => vK (v_lss x3 (ii 0)) fun x4 => gdK x4 false (fun kk => kk x3 h) h fun x5 h6 => gdK x4 false (fun kk => vK (v_gtr x5 (ii 63)) fun v => kk v h6) h6 fun x7 h8 => vK (v_pick x4 (.bool true) x7) fun x9 => gdK x9 false (fun kk => kk r0 h8) h8 fun x10 h11 => gdK x9 false (fun kk => kk r15 h11) h11 fun x12 h13 => gdK x9 false (fun kk => vK (v_slL 1 x10 none (some x12)) fun v => kk v h13) h13 fun x14 h15 => gdK x9 false (fun kk => kk x3 h15) h15 fun x16 h17 => gdK x9 false (fun kk => wK (callK E 315 [x14, x16] h17) kk) h17 fun x18 h19 => vK (v_pick x9 (.bool true) x18) fun x20 => bK x20 (some ((.bool false), h19)) (vK (v_add r15 (ii 1)) fun x21 => i2 x21 h19)) (J288_1 E h)
def L288_2 (r0 r13 r14 : DV) (n : Nat) : DV → H → Ans := Nat.rec (motive := fun _ => DV → H → Ans) (fun _ _ => none) (fun _ i => B288_2 E r0 r13 r14 i) n
def J288_0 (r0 : DV) (h : H) : Ans := vK (v_lenL r0) fun x1 => vK (v_lss x1 (ii 2)) fun x2 => gdK x2 false (fun kk => kk r0 h) h fun x3 h4 => gdK x2 false (fun kk => vK (v_lenL x3) fun v => kk v h4) h4 fun x5 h6 => gdK x2 false (fun kk => vK (v_gtr x5 (ii 8)) fun v => kk v h6) h6 fun x7 h8 => vK (v_pick x2 (.bool true) x7) fun x9 => bK x9 (some ((.bool false), h8)) (vK (v_lenL r0) fun x10 => L288_2 E r0 r0 x10 FUEL (ii 0) h8)
theorem I288_1 : Is E C288_1 (retK3 D288.res) (fun σ h => J288_1 E h) := Is.rf
abbrev K288_3 : KT2 (DV × H) := (blockK3 0 (thenK3 (fun σ h => J288_1 E h) (retK3 D288.res)))
theorem I288_2 : Is E C288_2 (K288_3 E) (fun σ h => L288_2 E (σ p0) (σ p13) (σ p14) FUEL (σ p15) h) := Is.lp (fun n2 σ h => L288_2 E (σ p0) (σ p13) (σ p14) n2 (σ p15) h) fun n2 => Is.aq (Is.leaf _)
theorem I288_0 : iB1 E D288 (J288_0 E) := Is.aq (Is.sq (Is.sq (Is.sq (I288_1 E) (Is.sq (Is.bk (I288_2 E)) (Is.leaf _))) (Is.leaf _)) (Is.leaf _))
def S288 : Fun := fA1 (J288_0 E)
theorem S288_eq : SQ D288 S288 := eB1 I288_0
def D289 := cm 289
def J289_0 (E : Env) (r0 r1 r2 : DV) (h : H) : Ans := vK (v_add r2 r1) fun x1 => vK (v_lenL r0) fun x2 => vK (v_rem x1 x2) fun x3 => some (x3, h)
theorem I289_0 : iB3 E D289 (J289_0 E) := Is.rf
def S289 : Fun := fA3 (J289_0 E)
theorem S289_eq : SQ D289 S289 := eB3 I289_0
def D290 := cm 290
def J290_0 (E : Env) (r0 : DV) (h : H) : Ans := n_box r0 h fun x1 h2 => vK (v_fa 0 x1) fun x3 => vK (v_ld h2.get x3) fun x4 => vK (v_not x4) fun x5 => some (x5, h2)
theorem I290_0 : iB1 E D290 (J290_0 E) := Is.rf
def S290 : Fun := fA1 (J290_0 E)
theorem S290_eq : SQ D290 S290 := eB1 I290_0
def D291 := cm 291
def J291_0 (r0 r1 r2 : DV) (h : H) : Ans := vK (v_ld h.get r0) fun x1 => vK (v_nilchk x1) fun x2 => vK (v_fa 0 x2) fun x3 => vK (v_ld h.get x3) fun x4 => vK (v_ld h.get r1) fun x5 => vK (v_ld h.get r2) fun x6 => wK (callK E 292 [x4, x5, x6] h) fun x7 h8 => some (x7, h8)
theorem I291_0 : iB3 E D291 (J291_0 E) := Is.rf
def S291 : Fun := fA3 (J291_0 E)
theorem S291_eq : SQ D291 S291 := eB3 I291_0
def D292 := cm 292
def C292_1 := cr (cr (cr (cr D292.body)))
def C292_2 := cl (cr (cl (cr (cr (cr D292.body)))))
def C292_3 := cr (cr (cr (cl C292_2)))
def C292_4 := cr (cr (cr (cl (cl (cr (cr (cl C292_2)))))))
def J292_1 (E : Env) (h : H) : Ans := some ((ii 0), h)
def J292_3 (E : Env) (i2 : DV → H → Ans) (r28 : DV) (h : H) : Ans := vK (v_add r28 (ii 1)) fun x1 => i2 x1 h
def J292_4 (i2 : DV → H → Ans) (r0 r2 r9 r10 r28 : DV) (h : H) : Ans := vK (v_nilchk r0) fun x1 => vK (v_fa 0 x1) fun x2 => vK (v_ld h.get x2) fun x3 => vK (v_mul r9 (ii 64)) fun x4 => vK (v_add r9 (ii 1)) fun x5 => vK (v_mul x5 (ii 64)) fun x6 => vK (v_slS r2 (some x4) (some x6)) fun x7 => vK (v_iaS 1 x3 r10) fun x8 => wK (dStF 1 x8 x7 h) fun x9 h10 => J292_3 E i2 r28 h10
def B292_2 (r0 r1 r2 r27 : DV) (i2 : DV → H → Ans) (r28 : DV) (h : H) : Ans := vK (v_lss r28 r27) fun x1 => bK x1 (vK (v_add r1 r28) fun x2 => vK (v_nilchk r0) fun x3 => vK (v_fa 1 x3) fun x4 => vK (v_ld h.get x4) fun x5 => vK (v_lkp .int (.str []) true h.get x5 x2) fun x6 => vK (v_ext 0 x6) fun x7 => vK (v_ext 1 x6) fun x8 => vK (v_not x8) fun x9 => bK x9 (vK (v_nilchk r0) fun x10 => vK (v_fa 1 x10) fun x11 => vK (v_ld h.get x11) fun x12 => vK (v_nilchk r0) fun x13 => vK (v_fa 0 x13) fun x14 => vK (v_ld h.get x14) fun x15 => vK (v_iaS 1 x15 x2) fun x16 => vK (v_ld h.get x16) fun x17 => wK (dMup .int x12 x2 x17 h) fun x18 h19 => J292_4 E i2 r0 r2 r28 x2 r28 h19) (J292_4 E i2 r0 r2 r28 x2 r28 h)) (J292_1 E h)
def L292_2 (r0 r1 r2 r27 : DV) (n : Nat) : DV → H → Ans := Nat.rec (motive := fun _ => DV → H → Ans) (fun _ _ => none) (fun _ i => B292_2 E r0 r1 r2 r27 i) n
def J292_0 (r0 r1 r2 : DV) (h : H) : Ans := vK (v_lenS r2) fun x1 => vK (v_quo x1 (ii 64)) fun x2 => vK (v_lenS r2) fun x3 => vK (v_rem x3 (ii 64)) fun x4 => vK (v_eql x4 (ii 0)) fun x5 => wK (callK E 212 [r0, r1, x2, x5] h) fun x6 h7 => vK (v_neq x6 (ii 0)) fun x8 => bK x8 (some (x6, h7)) (L292_2 E r0 r1 r2 x2 FUEL (ii 0) h7)
theorem I292_1 : Is E C292_1 (retK3 D292.res) (fun σ h => J292_1 E h) := Is.rf
abbrev K292_5 : KT2 (DV × H) := (blockK3 0 (thenK3 (fun σ h => J292_1 E h) (retK3 D292.res)))
abbrev K292_6 (n2 : Nat) : KT2 (DV × H) := (thenK3 (fun σ h => (L292_2 E (σ p0) (σ p1) (σ p2) (σ p27) n2) (σ p28) h) (K292_5 E))
theorem I292_3 (n2 : Nat) : Is E C292_3 (K292_6 E n2) (fun σ h => J292_3 E (L292_2 E (σ p0) (σ p1) (σ p2) (σ p27) n2) (σ p28) h) := Is.rf
abbrev K292_7 (n2 : Nat) : KT2 (DV × H) := (thenK3 (fun σ h => J292_3 E (L292_2 E (σ p0) (σ p1) (σ p2) (σ p27) n2) (σ p28) h) (K292_6 E n2))
theorem I292_4 (n2 : Nat) : Is E C292_4 (blockK3 1 (K292_7 E n2)) (fun σ h => J292_4 E (L292_2 E (σ p0) (σ p1) (σ p2) (σ p27) n2) (σ p0) (σ p2) (σ p9) (σ p10) (σ p28) h) := Is.rf
theorem I292_2 : Is E C292_2 (K292_5 E) (fun σ h => L292_2 E (σ p0) (σ p1) (σ p2) (σ p27) FUEL (σ p28) h) := Is.lp (fun n2 σ h => L292_2 E (σ p0) (σ p1) (σ p2) (σ p27) n2 (σ p28) h) fun n2 => Is.aq (Is.sq (Is.sq (Is.sq (I292_3 E n2) (Is.bk (Is.sq (Is.sq (Is.sq (I292_4 E n2) (Is.leaf _)) (Is.leaf _)) (Is.leaf _)))) (Is.leaf _)) (Is.leaf _))
theorem I292_0 : iB3 E D292 (J292_0 E) := Is.aq (Is.sq (Is.sq (Is.sq (Is.sq (I292_1 E) (Is.sq (Is.bk (I292_2 E)) (Is.leaf _))) (Is.leaf _)) (Is.leaf _)) (Is.leaf _))
def S292 : Fun := fA3 (J292_0 E)
theorem S292_eq : SQ D292 S292 := eB3 I292_0
def D293 := cm 293
def J293_0 (E : Env) (r0 : DV) (h : H) : Ans := vK (v_eqv .ptr true h.get r0 .nilp) fun x1 => bK x1 (vK (v_nilchk r0) fun x2 => vK (v_fa 1 x2) fun x3 => vK (v_ld h.get x3) fun x4 => wK (dClearM x4 h) fun x5 h6 => some ((.tup []), h6)) (some ((.tup []), h))
theorem I293_0 : iB1 E D293 (J293_0 E) := Is.rf
def S293 : Fun := fA1 (J293_0 E)
theorem S293_eq : SQ D293 S293 := eB1 I293_0
def fs1 : List FD := [⟨139, D139, S139⟩, ⟨140, D140, S140⟩, ⟨141, D141, S141⟩, ⟨142, D142, S142⟩, ⟨143, D143, S143⟩, ⟨144, D144, S144⟩, ⟨145, D145, S145⟩, ⟨146, D146, S146⟩, ⟨147, D147, S147⟩, ⟨148, D148, S148⟩, ⟨149, D149, S149⟩, ⟨150, D150, S150⟩, ⟨152, D152, S152⟩, ⟨153, D153, S153⟩, ⟨154, D154, S154⟩, ⟨155, D155, S155⟩, ⟨156, D156, S156⟩, ⟨157, D157, S157⟩, ⟨158, D158, S158⟩, ⟨159, D159, S159⟩, ⟨160, D160, S160⟩, ⟨161, D161, S161⟩, ⟨162, D162, S162⟩, ⟨163, D163, S163⟩, ⟨164, D164, S164⟩, ⟨165, D165, S165⟩, ⟨166, D166, S166⟩, ⟨167, D167, S167⟩, ⟨168, D168, S168⟩, ⟨169, D169, S169⟩, ⟨170, D170, S170⟩, ⟨171, D171, S171⟩, ⟨172, D172, S172⟩, ⟨173, D173, S173⟩, ⟨174, D174, S174⟩, ⟨176, D176, S176⟩, ⟨177, D177, S177⟩, ⟨178, D178, S178⟩, ⟨179, D179, S179⟩, ⟨182, D182, S182⟩, ⟨183, D183, S183⟩, ⟨184, D184, S184⟩, ⟨186, D186, S186⟩, ⟨187, D187, S187⟩, ⟨189, D189, S189⟩, ⟨190, D190, S190⟩, ⟨191, D191, S191⟩, ⟨192, D192, S192⟩, ⟨193, D193, S193⟩, ⟨194, D194, S194⟩, ⟨195, D195, S195⟩, ⟨196, D196, S196⟩, ⟨197, D197, S197⟩, ⟨198, D198, S198⟩, ⟨200, D200, S200⟩, ⟨201, D201, S201⟩, ⟨202, D202, S202⟩, ⟨203, D203, S203⟩, ⟨204, D204, S204⟩, ⟨205, D205, S205⟩, ⟨206, D206, S206⟩, ⟨207, D207, S207⟩, ⟨208, D208, S208⟩, ⟨209, D209, S209⟩, ⟨210, D210, S210⟩, ⟨211, D211, S211⟩, ⟨212, D212, S212⟩, ⟨213, D213, S213⟩, ⟨214, D214, S214⟩, ⟨215, D215, S215⟩, ⟨216, D216, S216⟩, ⟨217, D217, S217⟩, ⟨218, D218, S218⟩, ⟨219, D219, S219⟩, ⟨220, D220, S220⟩, ⟨221, D221, S221⟩, ⟨222, D222, S222⟩, ⟨223, D223, S223⟩, ⟨224, D224, S224⟩, ⟨225, D225, S225⟩, ⟨226, D226, S226⟩, ⟨228, D228, S228⟩, ⟨230, D230, S230⟩, ⟨231, D231, S231⟩, ⟨232, D232, S232⟩, ⟨233, D233, S233⟩, ⟨234, D234, S234⟩, ⟨235, D235, S235⟩, ⟨236, D236, S236⟩, ⟨237, D237, S237⟩, ⟨244, D244, S244⟩, ⟨245, D245, S245⟩, ⟨246, D246, S246⟩, ⟨247, D247, S247⟩, ⟨248, D248, S248⟩, ⟨249, D249, S249⟩, ⟨250, D250, S250⟩, ⟨251, D251, S251⟩, ⟨252, D252, S252⟩, ⟨253, D253, S253⟩, ⟨254, D254, S254⟩, ⟨255, D255, S255⟩, ⟨256, D256, S256⟩, ⟨257, D257, S257⟩, ⟨258, D258, S258⟩, ⟨265, D265, S265⟩, ⟨266, D266, S266⟩, ⟨267, D267, S267⟩, ⟨269, D269, S269⟩, ⟨270, D270, S270⟩, ⟨271, D271, S271⟩, ⟨272, D272, S272⟩, ⟨273, D273, S273⟩, ⟨274, D274, S274⟩, ⟨275, D275, S275⟩, ⟨276, D276, S276⟩, ⟨284, D284, S284⟩, ⟨288, D288, S288⟩, ⟨289, D289, S289⟩, ⟨290, D290, S290⟩, ⟨291, D291, S291⟩, ⟨292, D292, S292⟩, ⟨293, D293, S293⟩]
theorem fs1_eq : AllEq fs1 := ⟨S139_eq, ⟨S140_eq, ⟨S141_eq, ⟨S142_eq, ⟨S143_eq, ⟨S144_eq, ⟨S145_eq, ⟨S146_eq, ⟨S147_eq, ⟨S148_eq, ⟨S149_eq, ⟨S150_eq, ⟨S152_eq, ⟨S153_eq, ⟨S154_eq, ⟨S155_eq, ⟨S156_eq, ⟨S157_eq, ⟨S158_eq, ⟨S159_eq, ⟨S160_eq, ⟨S161_eq, ⟨S162_eq, ⟨S163_eq, ⟨S164_eq, ⟨S165_eq, ⟨S166_eq, ⟨S167_eq, ⟨S168_eq, ⟨S169_eq, ⟨S170_eq, ⟨S171_eq, ⟨S172_eq, ⟨S173_eq, ⟨S174_eq, ⟨S176_eq, ⟨S177_eq, ⟨S178_eq, ⟨S179_eq, ⟨S182_eq, ⟨S183_eq, ⟨S184_eq, ⟨S186_eq, ⟨S187_eq, ⟨S189_eq, ⟨S190_eq, ⟨S191_eq, ⟨S192_eq, ⟨S193_eq, ⟨S194_eq, ⟨S195_eq, ⟨S196_eq, ⟨S197_eq, ⟨S198_eq, ⟨S200_eq, ⟨S201_eq, ⟨S202_eq, ⟨S203_eq, ⟨S204_eq, ⟨S205_eq, ⟨S206_eq, ⟨S207_eq, ⟨S208_eq, ⟨S209_eq, ⟨S210_eq, ⟨S211_eq, ⟨S212_eq, ⟨S213_eq, ⟨S214_eq, ⟨S215_eq, ⟨S216_eq, ⟨S217_eq, ⟨S218_eq, ⟨S219_eq, ⟨S220_eq, ⟨S221_eq, ⟨S222_eq, ⟨S223_eq, ⟨S224_eq, ⟨S225_eq, ⟨S226_eq, ⟨S228_eq, ⟨S230_eq, ⟨S231_eq, ⟨S232_eq, ⟨S233_eq, ⟨S234_eq, ⟨S235_eq, ⟨S236_eq, ⟨S237_eq, ⟨S244_eq, ⟨S245_eq, ⟨S246_eq, ⟨S247_eq, ⟨S248_eq, ⟨S249_eq, ⟨S250_eq, ⟨S251_eq, ⟨S252_eq, ⟨S253_eq, ⟨S254_eq, ⟨S255_eq, ⟨S256_eq, ⟨S257_eq, ⟨S258_eq, ⟨S265_eq, ⟨S266_eq, ⟨S267_eq, ⟨S269_eq, ⟨S270_eq, ⟨S271_eq, ⟨S272_eq, ⟨S273_eq, ⟨S274_eq, ⟨S275_eq, ⟨S276_eq, ⟨S284_eq, ⟨S288_eq, ⟨S289_eq, ⟨S290_eq, ⟨S291_eq, ⟨S292_eq, ⟨S293_eq, trivial⟩⟩⟩⟩⟩⟩⟩⟩⟩⟩⟩⟩⟩⟩⟩⟩⟩⟩⟩⟩⟩⟩⟩⟩⟩⟩⟩⟩⟩⟩⟩⟩⟩⟩⟩⟩⟩⟩⟩⟩⟩⟩⟩⟩⟩⟩⟩⟩⟩⟩⟩⟩⟩⟩⟩⟩⟩⟩⟩⟩⟩⟩⟩⟩⟩⟩⟩⟩⟩⟩⟩⟩⟩⟩⟩⟩⟩⟩⟩⟩⟩⟩⟩⟩⟩⟩⟩⟩⟩⟩⟩⟩⟩⟩⟩⟩⟩⟩⟩⟩⟩⟩⟩⟩⟩⟩⟩⟩⟩⟩⟩⟩⟩⟩⟩⟩⟩⟩⟩⟩⟩⟩⟩
end Go.Proofs.YtiamncdkekcokaaGreatDoor
end

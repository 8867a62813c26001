/- The functions of the program as D's and as plain Lean functions, and that both are the same. No condition. -/
import Derived.KernelRfl
import Derived.Test.YtiamncdkekcokaaGreatDoorDd
import Derived.Test.YtiamncdkekcokaaGreatDoorChecked
set_option linter.unusedVariables false
noncomputable section
namespace Go.Proofs.YtiamncdkekcokaaGreatDoor
open Go.DI
variable (E : Env)
def cm (f : Nat) : DF := cmF Tryz.prog f
attribute [irreducible] cm
def cmk (f : Nat) : DF := cmFk Tryz.prog (cmF Tryz.prog f) f
attribute [irreducible] cmk
def p0 : Pa := .h
def p1 : Pa := .l p0
def p2 : Pa := .r p0
def p3 : Pa := .l p1
def p4 : Pa := .r p1
def p5 : Pa := .l p2
def p6 : Pa := .r p2
def p7 : Pa := .l p3
def p8 : Pa := .r p3
def p9 : Pa := .l p4
def p10 : Pa := .r p4
def p11 : Pa := .l p5
def p12 : Pa := .r p5
def p13 : Pa := .l p6
def p14 : Pa := .r p6
def p15 : Pa := .l p7
def p16 : Pa := .r p7
def p17 : Pa := .l p8
def p18 : Pa := .r p8
def p19 : Pa := .l p9
def p20 : Pa := .r p9
def p21 : Pa := .l p10
def p22 : Pa := .r p10
def p23 : Pa := .l p11
def p24 : Pa := .r p11
def p25 : Pa := .l p12
def p26 : Pa := .r p12
def p27 : Pa := .l p13
def p28 : Pa := .r p13
def p29 : Pa := .l p14
def p30 : Pa := .r p14
def p31 : Pa := .l p15
def p32 : Pa := .r p15
def p33 : Pa := .l p16
def p34 : Pa := .r p16
def p35 : Pa := .l p17
def p36 : Pa := .r p17
def p37 : Pa := .l p18
def p38 : Pa := .r p18
def p39 : Pa := .l p19
def p40 : Pa := .r p19
def p41 : Pa := .l p20
def p42 : Pa := .r p20
def p43 : Pa := .l p21
def p44 : Pa := .r p21
def p45 : Pa := .l p22
def p46 : Pa := .r p22
def p47 : Pa := .l p23
def p48 : Pa := .r p23
def p49 : Pa := .l p24
def p50 : Pa := .r p24
def p51 : Pa := .l p25
def p52 : Pa := .r p25
def p53 : Pa := .l p26
def p54 : Pa := .r p26
def p55 : Pa := .l p27
def p56 : Pa := .r p27
def p57 : Pa := .l p28
def p58 : Pa := .r p28
def p59 : Pa := .l p29
def p60 : Pa := .r p29
def p61 : Pa := .l p30
def p62 : Pa := .r p30
def p63 : Pa := .l p31
def p64 : Pa := .r p31
def p65 : Pa := .l p32
def p66 : Pa := .r p32
def p67 : Pa := .l p33
def p68 : Pa := .r p33
def p69 : Pa := .l p34
def p70 : Pa := .r p34
def p71 : Pa := .l p35
def p72 : Pa := .r p35
def p73 : Pa := .l p36
def p74 : Pa := .r p36
def p75 : Pa := .l p37
def p76 : Pa := .r p37
def p77 : Pa := .l p38
def p78 : Pa := .r p38
def p79 : Pa := .l p39
def p80 : Pa := .r p39
def p81 : Pa := .l p40
def p82 : Pa := .r p40
def p83 : Pa := .l p41
def p84 : Pa := .r p41
def p85 : Pa := .l p42
def p86 : Pa := .r p42
def p87 : Pa := .l p43
def p88 : Pa := .r p43
def p89 : Pa := .l p44
def p90 : Pa := .r p44
def p91 : Pa := .l p45
def p92 : Pa := .r p45
def p93 : Pa := .l p46
def p94 : Pa := .r p46
def p95 : Pa := .l p47
def p96 : Pa := .r p47
def p97 : Pa := .l p48
def p98 : Pa := .r p48
def p99 : Pa := .l p49
def p100 : Pa := .r p49
def p101 : Pa := .l p50
def p102 : Pa := .r p50
def p103 : Pa := .l p51
def p104 : Pa := .r p51
def p105 : Pa := .l p52
def p106 : Pa := .r p52
def p107 : Pa := .l p53
def p108 : Pa := .r p53
def p109 : Pa := .l p54
def p110 : Pa := .r p54
def p111 : Pa := .l p55
def p112 : Pa := .r p55
def p113 : Pa := .l p56
def p114 : Pa := .r p56
def p115 : Pa := .l p57
def p116 : Pa := .r p57
def p117 : Pa := .l p58
def p118 : Pa := .r p58
def p119 : Pa := .l p59
def p120 : Pa := .r p59
def p121 : Pa := .l p60
def p122 : Pa := .r p60
def p123 : Pa := .l p61
def p124 : Pa := .r p61
def p125 : Pa := .l p62
def p126 : Pa := .r p62
def p127 : Pa := .l p63
def p128 : Pa := .r p63
def p129 : Pa := .l p64
def p130 : Pa := .r p64
def p131 : Pa := .l p65
def p132 : Pa := .r p65
def p133 : Pa := .l p66
def p134 : Pa := .r p66
def p135 : Pa := .l p67
def p136 : Pa := .r p67
def p137 : Pa := .l p68
def p138 : Pa := .r p68
def p139 : Pa := .l p69
def p140 : Pa := .r p69
def p141 : Pa := .l p70
def p142 : Pa := .r p70
def p143 : Pa := .l p71
def p144 : Pa := .r p71
def p145 : Pa := .l p72
def p146 : Pa := .r p72
def p147 : Pa := .l p73
def p148 : Pa := .r p73
def p149 : Pa := .l p74
def p150 : Pa := .r p74
def p151 : Pa := .l p75
def p152 : Pa := .r p75
def p153 : Pa := .l p76
def p154 : Pa := .r p76
def p155 : Pa := .l p77
def p156 : Pa := .r p77
def p157 : Pa := .l p78
def p158 : Pa := .r p78
def p159 : Pa := .l p79
def p160 : Pa := .r p79
def p161 : Pa := .l p80
def p162 : Pa := .r p80
def p163 : Pa := .l p81
def p164 : Pa := .r p81
def p165 : Pa := .l p82
def p166 : Pa := .r p82
def p167 : Pa := .l p83
def p168 : Pa := .r p83
def p169 : Pa := .l p84
def p170 : Pa := .r p84
def p171 : Pa := .l p85
def p172 : Pa := .r p85
def p173 : Pa := .l p86
def p174 : Pa := .r p86
def p175 : Pa := .l p87
def p176 : Pa := .r p87
def p177 : Pa := .l p88
def D3 := cm 3
def J3_0 (r0 : DV) (h : H) : Ans := n_box r0 h fun x1 h2 => vK (v_fa 2 x1) fun x3 => vK (v_ldN 6 h2.get x3) fun x4 => wK (callK E 4 [.nilp, x4] h2) fun x5 h6 => vK (v_ext 0 x5) fun x7 => vK (v_ext 1 x5) fun x8 => vK (v_eql x7 (ii 1)) fun x9 => gdK x9 true (fun kk => kk x8 h6) h6 fun x10 h11 => gdK x9 true (fun kk => vK (v_eql x10 (.str [])) fun v => kk v h11) h11 fun x12 h13 => vK (v_pick x9 x12 (.bool false)) fun x14 => gdK x14 true (fun kk => kk .nilp h13) h13 fun x15 h16 => gdK x14 true (fun kk => vK (v_fa 1 x1) fun v => kk v h16) h16 fun x17 h18 => gdK x14 true (fun kk => vK (v_ld h18.get x17) fun v => kk v h18) h18 fun x19 h20 => gdK x14 true (fun kk => wK (callK E 5 [x15, x19] h20) kk) h20 fun x21 h22 => gdK x14 true (fun kk => vK (v_eql x21 (ii 1)) fun v => kk v h22) h22 fun x23 h24 => vK (v_pick x14 x23 (.bool false)) fun x25 => gdK x25 true (fun kk => kk .nilp h24) h24 fun x26 h27 => gdK x25 true (fun kk => vK (v_fa 1 x1) fun v => kk v h27) h27 fun x28 h29 => gdK x25 true (fun kk => vK (v_ld h29.get x28) fun v => kk v h29) h29 fun x30 h31 => gdK x25 true (fun kk => wK (callK E 6 [x26, x30] h31) kk) h31 fun x32 h33 => gdK x25 true (fun kk => vK (v_eql x32 (ii 1)) fun v => kk v h33) h33 fun x34 h35 => vK (v_pick x25 x34 (.bool false)) fun x36 => gdK x36 true (fun kk => kk .nilp h35) h35 fun x37 h38 => gdK x36 true (fun kk => wK (callK E 7 [x37] h38) kk) h38 fun x39 h40 => gdK x36 true (fun kk => vK (v_eql x39 (ii 0)) fun v => kk v h40) h40 fun x41 h42 => vK (v_pick x36 x41 (.bool false)) fun x43 => gdK x43 true (fun kk => kk .nilp h42) h42 fun x44 h45 => gdK x43 true (fun kk => wK (callK E 8 [x44] h45) kk) h45 fun x46 h47 => gdK x43 true (fun kk => vK (v_eql x46 (ii 0)) fun v => kk v h47) h47 fun x48 h49 => vK (v_pick x43 x48 (.bool false)) fun x50 => gdK x50 true (fun kk => kk .nilp h49) h49 fun x51 h52 => gdK x50 true (fun kk => wK (callK E 9 [x51] h52) kk) h52 fun x53 h54 => gdK x50 true (fun kk => vK (v_eql x53 (.str [])) fun v => kk v h54) h54 fun x55 h56 => vK (v_pick x50 x55 (.bool false)) fun x57 => gdK x57 true (fun kk => wK (callK E 10 [] h56) kk) h56 fun x58 h59 => vK (v_pick x57 x58 (.bool false)) fun x60 => some (x60, h59)
theorem I3_0 : iB1 E D3 (J3_0 E) := Is.rf
def S3 : Fun := fA1 (J3_0 E)
theorem S3_eq : SQ D3 S3 := eB1 I3_0
def D4 := cm 4
def C4_1 := cr (cr (cr (cr (cr D4.body))))
def J4_1 (r0 r3 r7 : DV) (h : H) : Ans := vK (v_nilchk r0) fun x1 => vK (v_fa 1 x1) fun x2 => vK (v_ld h.get x2) fun x3 => vK (v_ldN 6 h.get r3) fun x4 => wK (callK E 13 [x3, x4] h) fun x5 h6 => vK (v_ext 0 x5) fun x7 => vK (v_ext 1 x5) fun x8 => vK (v_neq x7 (ii 0)) fun x9 => bK x9 (some ((.tup [x7, (.str [])]), h6)) (vK (v_nilchk r0) fun x10 => vK (v_fa 3 x10) fun x11 => vK (v_ld h6.get x11) fun x12 => n_bsl 1 1 [(.str [])] [(0, 1, r7)] h6 fun x13 h14 => wK (dAppendF 1 16 x12 x13 h14) fun x15 h16 => vK (v_nilchk r0) fun x17 => vK (v_fa 3 x17) fun x18 => wK (dStF 1 x18 x15 h16) fun x19 h20 => some ((.tup [(ii 0), (.str [])]), h20))
def J4_0 (r0 r1 : DV) (h : H) : Ans := n_box r1 h fun x1 h2 => wK (callK E 11 [r0] h2) fun x3 h4 => vK (v_neq x3 (ii 0)) fun x5 => bK x5 (some ((.tup [x3, (.str [])]), h4)) (vK (v_ldN 6 h4.get x1) fun x6 => wK (callK E 12 [x6] h4) fun x7 h8 => vK (v_ext 0 x7) fun x9 => vK (v_ext 1 x7) fun x10 => vK (v_neq x10 (ii 0)) fun x11 => bK x11 (some ((.tup [x10, (.str [])]), h8)) (vK (v_fa 0 x1) fun x12 => vK (v_ld h8.get x12) fun x13 => vK (v_geq x13 (ii 9)) fun x14 => bK x14 (vK (v_nilchk r0) fun x15 => vK (v_fa 1 x15) fun x16 => vK (v_ld h8.get x16) fun x17 => vK (v_ldN 6 h8.get x1) fun x18 => wK (callK E 13 [x17, x18] h8) fun x19 h20 => vK (v_ext 0 x19) fun x21 => vK (v_ext 1 x19) fun x22 => some ((.tup [x21, x22]), h20)) (n_bsl 1 1 [(.str [])] [(0, 1, x9)] h8 fun x23 h24 => wK (callK E 14 [r0, x23] h24) fun x25 h26 => vK (v_not x25) fun x27 => bK x27 (some ((.tup [(ii 2), (.str [])]), h26)) (vK (v_nilchk r0) fun x28 => vK (v_fa 3 x28) fun x29 => vK (v_ld h26.get x29) fun x30 => vK (v_lenL x30) fun x31 => vK (v_geq x31 (ii 100)) fun x32 => gdK x32 false (fun kk => kk r0 h26) h26 fun x33 h34 => gdK x32 false (fun kk => kk r0 h34) h34 fun x35 h36 => gdK x32 false (fun kk => vK (v_nilchk x35) fun v => kk v h36) h36 fun x37 h38 => gdK x32 false (fun kk => vK (v_fa 3 x37) fun v => kk v h38) h38 fun x39 h40 => gdK x32 false (fun kk => vK (v_ld h40.get x39) fun v => kk v h40) h40 fun x41 h42 => gdK x32 false (fun kk => wK (callK E 15 [x41] h42) kk) h42 fun x43 h44 => gdK x32 false (fun kk => kk x9 h44) h44 fun x45 h46 => gdK x32 false (fun kk => n_bsl 1 1 [(.str [])] [(0, 1, x45)] h46 kk) h46 fun x47 h48 => gdK x32 false (fun kk => wK (dAppendF 1 16 x43 x47 h48) kk) h48 fun x49 h50 => gdK x32 false (fun kk => wK (callK E 14 [x33, x49] h50) kk) h50 fun x51 h52 => gdK x32 false (fun kk => vK (v_not x51) fun v => kk v h52) h52 fun x53 h54 => vK (v_pick x32 (.bool true) x53) fun x55 => bK x55 (wK (callK E 5 [r0, (.int .i64 (.negSucc 0))] h54) fun x56 h57 => vK (v_neq x56 (ii 0)) fun x58 => bK x58 (some ((.tup [x56, (.str [])]), h57)) (J4_1 E r0 x1 x9 h57)) (J4_1 E r0 x1 x9 h54)))))
theorem I4_1 : Is E C4_1 (retK3 D4.res) (fun σ h => J4_1 E (σ p0) (σ p3) (σ p7) h) := Is.rf
theorem I4_0 : iB2 E D4 (J4_0 E) := Is.aq (Is.sq (Is.sq (Is.sq (Is.sq (Is.sq (I4_1 E) (Is.leaf _)) (Is.leaf _)) (Is.leaf _)) (Is.leaf _)) (Is.leaf _))
def S4 : Fun := fA2 (J4_0 E)
theorem S4_eq : SQ D4 S4 := eB2 I4_0
def D5 := cm 5
def C5_1 := cr (cr (cr (cr (cr D5.body))))
def J5_1 (E : Env) (r6 : DV) (h : H) : Ans := some (r6, h)
def J5_0 (r0 r1 : DV) (h : H) : Ans := n_box r0 h fun x1 h2 => vK (v_ld h2.get x1) fun x3 => wK (callK E 11 [x3] h2) fun x4 h5 => vK (v_neq x4 (ii 0)) fun x6 => bK x6 (some (x4, h5)) (vK (v_ld h5.get x1) fun x7 => vK (v_nilchk x7) fun x8 => vK (v_fa 3 x8) fun x9 => vK (v_ld h5.get x9) fun x10 => vK (v_lenL x10) fun x11 => vK (v_eql x11 (ii 0)) fun x12 => bK x12 (some ((ii 0), h5)) (vK (v_ld h5.get x1) fun x13 => wK (callK E 16 [x13, (.fn (.func 17) [] [x1]), r1] h5) fun x14 h15 => vK (v_eql x14 (ii 0)) fun x16 => bK x16 (vK (v_ld h15.get x1) fun x17 => vK (v_nilchk x17) fun x18 => vK (v_fa 3 x18) fun x19 => wK (dStF 1 x19 .nils h15) fun x20 h21 => J5_1 E x14 h21) (J5_1 E x14 h15)))
theorem I5_1 : Is E C5_1 (retK3 D5.res) (fun σ h => J5_1 E (σ p6) h) := Is.rf
theorem I5_0 : iB2 E D5 (J5_0 E) := Is.aq (Is.sq (Is.sq (Is.sq (Is.sq (Is.sq (I5_1 E) (Is.leaf _)) (Is.leaf _)) (Is.leaf _)) (Is.leaf _)) (Is.leaf _))
def S5 : Fun := fA2 (J5_0 E)
theorem S5_eq : SQ D5 S5 := eB2 I5_0
def D6 := cm 6
def C6_1 := cr (cr (cr (cr (cr (cr D6.body)))))
def C6_2 := cl (cr (cl (cr (cr (cr (cr (cr D6.body)))))))
def J6_1 (r0 r8 : DV) (h : H) : Ans := vK (v_nilchk r0) fun x1 => vK (v_fa 0 x1) fun x2 => vK (v_ld h.get x2) fun x3 => wK (callK E 25 [x3] h) fun x4 h5 => wK (callK E 24 [r0, x4, (.fn (.func 26) [] [r8])] h5) fun x6 h7 => some ((ii 0), h7)
def B6_2 (r0 r1 r6 r8 r39 r40 : DV) (i2 : DV → H → Ans) (r41 : DV) (h : H) : Ans := vK (v_lss r41 r40) fun x1 => bK x1 (vK (v_iaS 1 r39 r41) fun x2 => vK (v_ld h.get x2) fun x3 => n_alc 1 1 (.list [(ii 0)]) h fun x4 h5 => n_alc 1 1 (.list [(.str [])]) h5 fun x6 h7 => wK (dStF 1 x4 r41 h7) fun x8 h9 => wK (dStF 1 x6 x3 h9) fun x10 h11 => vK (v_ld h11.get x4) fun x12 => vK (v_eql x12 r1) fun x13 => bK x13 (vK (v_nilchk r0) fun x14 => vK (v_fa 5 x14) fun x15 => wK (dStF 1 x15 (.bool true) h11) fun x16 h17 => some ((ii 16), h17)) (wK (callK E 16 [r0, (.fn (.func 22) [] [x4, r6, x6]), (.int .i64 (.negSucc 0))] h11) fun x18 h19 => vK (v_neq x18 (ii 0)) fun x20 => bK x20 (some (x18, h19)) (vK (v_add r41 (ii 1)) fun x21 => i2 x21 h19))) (J6_1 E r0 r8 h)
def L6_2 (r0 r1 r6 r8 r39 r40 : DV) (n : Nat) : DV → H → Ans := Nat.rec (motive := fun _ => DV → H → Ans) (fun _ _ => none) (fun _ i => B6_2 E r0 r1 r6 r8 r39 r40 i) n
def J6_0 (r0 r1 : DV) (h : H) : Ans := wK (callK E 5 [r0, (.int .i64 (.negSucc 0))] h) fun x1 h2 => vK (v_neq x1 (ii 0)) fun x3 => bK x3 (some (x1, h2)) (vK (v_nilchk r0) fun x4 => vK (v_fa 1 x4) fun x5 => vK (v_ld h2.get x5) fun x6 => vK (v_nilchk r0) fun x7 => vK (v_fa 0 x7) fun x8 => vK (v_ld h2.get x8) fun x9 => n_alc 1 1 (.list [.nils]) h2 fun x10 h11 => wK (callK E 21 [x6] h11) fun x12 h13 => rK (rcK (v_ld h13.get x8) x9) <| wK (callK E 19 [x9] h13) fun x14 h15 => vK (v_sub x14 (ii 100)) fun x16 => wK (callK E 20 [x12, x16] h15) fun x17 h18 => vK (v_ext 0 x17) fun x19 => vK (v_ext 1 x17) fun x20 => wK (dStF 1 x10 x19 h18) fun x21 h22 => vK (v_neq x20 (ii 0)) fun x23 => bK x23 (some (x20, h22)) (vK (v_nilchk r0) fun x24 => vK (v_fa 4 x24) fun x25 => vK (v_ld h22.get x25) fun x26 => n_alc 1 1 (.list [(ii 0)]) h22 fun x27 h28 => wK (dStF 1 x27 x26 h28) fun x29 h30 => vK (v_ld h30.get x10) fun x31 => vK (v_lenL x31) fun x32 => L6_2 E r0 r1 x10 x27 x31 x32 FUEL (ii 0) h30))
theorem I6_1 : Is E C6_1 (retK3 D6.res) (fun σ h => J6_1 E (σ p0) (σ p8) h) := Is.rf
abbrev K6_3 : KT2 (DV × H) := (thenK3 (fun σ h => J6_1 E (σ p0) (σ p8) h) (retK3 D6.res))
theorem I6_2 : Is E C6_2 (blockK3 0 (K6_3 E)) (fun σ h => L6_2 E (σ p0) (σ p1) (σ p6) (σ p8) (σ p39) (σ p40) FUEL (σ p41) h) := Is.lp (fun n2 σ h => L6_2 E (σ p0) (σ p1) (σ p6) (σ p8) (σ p39) (σ p40) n2 (σ p41) h) fun n2 => Is.aq (Is.leaf _)
theorem I6_0 : iB2 E D6 (J6_0 E) := Is.aq (Is.sq (Is.sq (Is.sq (Is.sq (Is.sq (Is.sq (I6_1 E) (Is.sq (Is.bk (I6_2 E)) (Is.leaf _))) (Is.leaf _)) (Is.leaf _)) (Is.leaf _)) (Is.leaf _)) (Is.leaf _))
def S6 : Fun := fA2 (J6_0 E)
theorem S6_eq : SQ D6 S6 := eB2 I6_0
def D7 := cm 7
def J7_0 (E : Env) (r0 : DV) (h : H) : Ans := vK (v_eqv .ptr false h.get r0 .nilp) fun x1 => bK x1 (some ((ii 0), h)) (vK (v_nilchk r0) fun x2 => vK (v_fa 3 x2) fun x3 => vK (v_ld h.get x3) fun x4 => vK (v_lenL x4) fun x5 => some (x5, h))
theorem I7_0 : iB1 E D7 (J7_0 E) := Is.rf
def S7 : Fun := fA1 (J7_0 E)
theorem S7_eq : SQ D7 S7 := eB1 I7_0
def D8 := cm 8
def J8_0 (E : Env) (r0 : DV) (h : H) : Ans := vK (v_eqv .ptr false h.get r0 .nilp) fun x1 => bK x1 (some ((ii 0), h)) (vK (v_nilchk r0) fun x2 => vK (v_fa 4 x2) fun x3 => vK (v_ld h.get x3) fun x4 => some (x4, h))
theorem I8_0 : iB1 E D8 (J8_0 E) := Is.rf
def S8 : Fun := fA1 (J8_0 E)
theorem S8_eq : SQ D8 S8 := eB1 I8_0
def D9 := cm 9
def J9_0 (r0 : DV) (h : H) : Ans := vK (v_eqv .ptr false h.get r0 .nilp) fun x1 => bK x1 (some ((.str []), h)) (vK (v_nilchk r0) fun x2 => vK (v_fa 1 x2) fun x3 => vK (v_ld h.get x3) fun x4 => wK (callK E 21 [x4] h) fun x5 h6 => some (x5, h6))
theorem I9_0 : iB1 E D9 (J9_0 E) := Is.rf
def S9 : Fun := fA1 (J9_0 E)
theorem S9_eq : SQ D9 S9 := eB1 I9_0
def D10 := cm 10
def J10_0 (h : H) : Ans := wK (callK E 27 [(ii 3), (ii 200), (ii 3), (ii 0)] h) fun x1 h2 => wK (callK E 28 [x1, (ii 1)] h2) fun x3 h4 => vK (v_ext 0 x3) fun x5 => vK (v_ext 1 x3) fun x6 => vK (v_eqv .ptr false h4.get x5 .nilp) fun x7 => gdK x7 false (fun kk => kk x6 h4) h4 fun x8 h9 => gdK x7 false (fun kk => vK (v_neq x8 (ii 0)) fun v => kk v h9) h9 fun x10 h11 => vK (v_pick x7 (.bool true) x10) fun x12 => bK x12 (some ((.bool false), h11)) (vK (v_bld [(ii 0), (ii 0), (ii 0), (.str []), (.str []), (.str [])] [(0, 1, (ii 1)), (3, 1, (.str [47, 97]))]) fun x13 => wK (callK E 4 [x5, x13] h11) fun x14 h15 => vK (v_ext 0 x14) fun x16 => vK (v_ext 1 x14) fun x17 => wK (callK E 5 [x5, (.int .i64 (.negSucc 0))] h15) fun x18 h19 => vK (v_bld [(ii 0), (ii 0), (ii 0), (.str []), (.str []), (.str [])] [(0, 1, (ii 1)), (3, 1, (.str [47, 98]))]) fun x20 => wK (callK E 4 [x5, x20] h19) fun x21 h22 => wK (callK E 7 [x5] h22) fun x23 h24 => wK (callK E 28 [x1, (ii 1)] h24) fun x25 h26 => vK (v_ext 0 x25) fun x27 => vK (v_ext 1 x25) fun x28 => vK (v_eqv .ptr false h26.get x27 .nilp) fun x29 => gdK x29 false (fun kk => kk x28 h26) h26 fun x30 h31 => gdK x29 false (fun kk => vK (v_neq x30 (ii 0)) fun v => kk v h31) h31 fun x32 h33 => vK (v_pick x29 (.bool true) x32) fun x34 => bK x34 (some ((.bool false), h33)) (vK (v_bld [(ii 0), (ii 0), (ii 0), (.str []), (.str []), (.str [])] [(0, 1, (ii 10)), (3, 1, (.str [47, 97]))]) fun x35 => wK (callK E 4 [x27, x35] h33) fun x36 h37 => vK (v_ext 0 x36) fun x38 => vK (v_ext 1 x36) fun x39 => vK (v_bld [(ii 0), (ii 0), (ii 0), (.str []), (.str []), (.str [])] [(0, 1, (ii 10)), (3, 1, (.str [47, 98]))]) fun x40 => wK (callK E 4 [x27, x40] h37) fun x41 h42 => vK (v_ext 0 x41) fun x43 => vK (v_ext 1 x41) fun x44 => wK (callK E 6 [x27, (.int .i64 (.negSucc 0))] h42) fun x45 h46 => wK (callK E 28 [x1, (ii 1)] h46) fun x47 h48 => vK (v_ext 0 x47) fun x49 => vK (v_ext 1 x47) fun x50 => wK (callK E 28 [.nilp, (ii 1)] h48) fun x51 h52 => vK (v_ext 0 x51) fun x53 => vK (v_ext 1 x51) fun x54 => vK (v_eql x16 (ii 0)) fun x55 => gdK x55 true (fun kk => kk x18 h52) h52 fun x56 h57 => gdK x55 true (fun kk => vK (v_eql x56 (ii 0)) fun v => kk v h57) h57 fun x58 h59 => vK (v_pick x55 x58 (.bool false)) fun x60 => gdK x60 true (fun kk => kk x23 h59) h59 fun x61 h62 => gdK x60 true (fun kk => vK (v_eql x61 (ii 1)) fun v => kk v h62) h62 fun x63 h64 => vK (v_pick x60 x63 (.bool false)) fun x65 => gdK x65 true (fun kk => kk x38 h64) h64 fun x66 h67 => gdK x65 true (fun kk => vK (v_eql x66 (ii 0)) fun v => kk v h67) h67 fun x68 h69 => vK (v_pick x65 x68 (.bool false)) fun x70 => gdK x70 true (fun kk => kk x43 h69) h69 fun x71 h72 => gdK x70 true (fun kk => vK (v_eql x71 (ii 7)) fun v => kk v h72) h72 fun x73 h74 => vK (v_pick x70 x73 (.bool false)) fun x75 => gdK x75 true (fun kk => kk x45 h74) h74 fun x76 h77 => gdK x75 true (fun kk => vK (v_eql x76 (ii 0)) fun v => kk v h77) h77 fun x78 h79 => vK (v_pick x75 x78 (.bool false)) fun x80 => gdK x80 true (fun kk => kk x50 h79) h79 fun x81 h82 => gdK x80 true (fun kk => vK (v_eql x81 (ii 0)) fun v => kk v h82) h82 fun x83 h84 => vK (v_pick x80 x83 (.bool false)) fun x85 => gdK x85 true (fun kk => kk x49 h84) h84 fun x86 h87 => gdK x85 true (fun kk => wK (callK E 9 [x86] h87) kk) h87 fun x88 h89 => gdK x85 true (fun kk => kk x27 h89) h89 fun x90 h91 => gdK x85 true (fun kk => wK (callK E 9 [x90] h91) kk) h91 fun x92 h93 => gdK x85 true (fun kk => vK (v_eql x88 x92) fun v => kk v h93) h93 fun x94 h95 => vK (v_pick x85 x94 (.bool false)) fun x96 => gdK x96 true (fun kk => kk x49 h95) h95 fun x97 h98 => gdK x96 true (fun kk => wK (callK E 8 [x97] h98) kk) h98 fun x99 h100 => gdK x96 true (fun kk => kk x27 h100) h100 fun x101 h102 => gdK x96 true (fun kk => wK (callK E 8 [x101] h102) kk) h102 fun x103 h104 => gdK x96 true (fun kk => vK (v_eql x99 x103) fun v => kk v h104) h104 fun x105 h106 => vK (v_pick x96 x105 (.bool false)) fun x107 => gdK x107 true (fun kk => kk x54 h106) h106 fun x108 h109 => gdK x107 true (fun kk => vK (v_eql x108 (ii 1)) fun v => kk v h109) h109 fun x110 h111 => vK (v_pick x107 x110 (.bool false)) fun x112 => some (x112, h111)))
theorem I10_0 : iB0 E D10 (J10_0 E) := Is.rf
def S10 : Fun := fA0 (J10_0 E)
theorem S10_eq : SQ D10 S10 := eB0 I10_0
def D11 := cm 11
def J11_0 (E : Env) (r0 : DV) (h : H) : Ans := vK (v_eqv .ptr false h.get r0 .nilp) fun x1 => bK x1 (some ((ii 1), h)) (vK (v_nilchk r0) fun x2 => vK (v_fa 5 x2) fun x3 => vK (v_ld h.get x3) fun x4 => bK x4 (some ((ii 16), h)) (some ((ii 0), h)))
theorem I11_0 : iB1 E D11 (J11_0 E) := Is.rf
def S11 : Fun := fA1 (J11_0 E)
theorem S11_eq : SQ D11 S11 := eB1 I11_0
def D12 := cm 12
def J12_0 (r0 : DV) (h : H) : Ans := n_box r0 h fun x1 h2 => vK (v_ldN 6 h2.get x1) fun x3 => wK (callK E 29 [x3] h2) fun x4 h5 => vK (v_neq x4 (ii 0)) fun x6 => bK x6 (some ((.tup [(.str []), x4]), h5)) (wK (callK E 30 [(ii 65536)] h5) fun x7 h8 => vK (v_fa 0 x1) fun x9 => vK (v_ld h8.get x9) fun x10 => wK (callK E 31 [x7, x10] h8) fun x11 h12 => vK (v_fa 1 x1) fun x13 => vK (v_ld h12.get x13) fun x14 => wK (callK E 32 [x7, x14] h12) fun x15 h16 => vK (v_fa 2 x1) fun x17 => vK (v_ld h16.get x17) fun x18 => wK (callK E 32 [x7, x18] h16) fun x19 h20 => vK (v_fa 3 x1) fun x21 => vK (v_ld h20.get x21) fun x22 => wK (callK E 33 [x7, x22] h20) fun x23 h24 => vK (v_fa 4 x1) fun x25 => vK (v_ld h24.get x25) fun x26 => wK (callK E 33 [x7, x26] h24) fun x27 h28 => vK (v_fa 5 x1) fun x29 => vK (v_ld h28.get x29) fun x30 => wK (callK E 33 [x7, x30] h28) fun x31 h32 => wK (callK E 34 [x7] h32) fun x33 h34 => vK (v_ext 0 x33) fun x35 => vK (v_ext 1 x33) fun x36 => some ((.tup [x35, x36]), h34))
theorem I12_0 : iB1 E D12 (J12_0 E) := Is.rf
def S12 : Fun := fA1 (J12_0 E)
theorem S12_eq : SQ D12 S12 := eB1 I12_0
def D13 := cm 13
def J13_0 (r0 r1 : DV) (h : H) : Ans := n_box r1 h fun x1 h2 => vK (v_eqv .ptr false h2.get r0 .nilp) fun x3 => bK x3 (some ((.tup [(ii 1), (.str [])]), h2)) (vK (v_ldN 6 h2.get x1) fun x4 => wK (callK E 29 [x4] h2) fun x5 h6 => vK (v_neq x5 (ii 0)) fun x7 => bK x7 (some ((.tup [x5, (.str [])]), h6)) (vK (v_ldN 6 h6.get x1) fun x8 => wK (callK E 35 [r0, x8] h6) fun x9 h10 => vK (v_tas 75 (.agg [.nilf, (.str [])]) true x9) fun x11 => vK (v_ext 1 x11) fun x12 => vK (v_ext 0 x11) fun x13 => bK x12 (n_alc 2 2 (.list [.nilf, (.str [])]) h10 fun x14 h15 => wK (dStF 2 x14 x13 h15) fun x16 h17 => vK (v_fa 0 x14) fun x18 => vK (v_ld h17.get x18) fun x19 => vK (v_fa 1 x14) fun x20 => vK (v_ld h17.get x20) fun x21 => wK (c_val E x19 [x21] h17) fun x22 h23 => some ((.tup [x22, (.str [])]), h23)) (vK (v_tas 78 (.agg [.nilf, (.str []), (.str [])]) true x9) fun x24 => vK (v_ext 1 x24) fun x25 => vK (v_ext 0 x24) fun x26 => bK x25 (n_alc 3 3 (.list [.nilf, (.str []), (.str [])]) h10 fun x27 h28 => wK (dStF 3 x27 x26 h28) fun x29 h30 => vK (v_fa 0 x27) fun x31 => vK (v_ld h30.get x31) fun x32 => vK (v_fa 1 x27) fun x33 => vK (v_ld h30.get x33) fun x34 => vK (v_fa 2 x27) fun x35 => vK (v_ld h30.get x35) fun x36 => wK (c_val E x32 [x34, x36] h30) fun x37 h38 => some ((.tup [x37, (.str [])]), h38)) (vK (v_tas 80 (.agg [.nilf]) true x9) fun x39 => vK (v_ext 1 x39) fun x40 => vK (v_ext 0 x39) fun x41 => bK x40 (n_alc 1 1 (.list [.nilf]) h10 fun x42 h43 => wK (dStF 1 x42 x41 h43) fun x44 h45 => vK (v_fa 0 x42) fun x46 => vK (v_ld h45.get x46) fun x47 => wK (c_val E x47 [] h45) fun x48 h49 => some ((.tup [x48, (.str [])]), h49)) (vK (v_tas 83 (.agg [.nilf]) true x9) fun x50 => vK (v_ext 1 x50) fun x51 => vK (v_ext 0 x50) fun x52 => bK x51 (n_alc 1 1 (.list [.nilf]) h10 fun x53 h54 => wK (dStF 1 x53 x52 h54) fun x55 h56 => vK (v_fa 0 x53) fun x57 => vK (v_ld h56.get x57) fun x58 => wK (c_val E x58 [] h56) fun x59 h60 => vK (v_ext 0 x59) fun x61 => vK (v_ext 1 x59) fun x62 => some ((.tup [x61, x62]), h60)) (some ((.tup [(ii 1), (.str [])]), h10)))))))
theorem I13_0 : iB2 E D13 (J13_0 E) := Is.rf
def S13 : Fun := fA2 (J13_0 E)
theorem S13_eq : SQ D13 S13 := eB2 I13_0
def D14 := cm 14
def J14_0 (r0 r1 : DV) (h : H) : Ans := vK (v_nilchk r0) fun x1 => vK (v_fa 4 x1) fun x2 => vK (v_ld h.get x2) fun x3 => vK (v_nilchk r0) fun x4 => vK (v_fa 0 x4) fun x5 => vK (v_ld h.get x5) fun x6 => wK (callK E 19 [x6] h) fun x7 h8 => rK (rcK (v_ld h8.get x2) x3) <| wK (callK E 18 [x3, r1, x7] h8) fun x9 h10 => vK (v_ext 0 x9) fun x11 => vK (v_ext 1 x9) fun x12 => vK (v_ext 2 x9) fun x13 => vK (v_lenL r1) fun x14 => vK (v_eql x12 x14) fun x15 => some (x15, h10)
theorem I14_0 : iB2 E D14 (J14_0 E) := Is.rf
def S14 : Fun := fA2 (J14_0 E)
theorem S14_eq : SQ D14 S14 := eB2 I14_0
def D15 := cm 15
def J15_0 (E : Env) (r0 : DV) (h : H) : Ans := vK (v_eqv .nilL false h.get r0 .nils) fun x1 => bK x1 (some (.nils, h)) (n_bsl 0 1 [(.str [])] [] h fun x2 h3 => wK (dAppendF 1 16 x2 r0 h3) fun x4 h5 => some (x4, h5))
theorem I15_0 : iB1 E D15 (J15_0 E) := Is.rf
def S15 : Fun := fA1 (J15_0 E)
theorem S15_eq : SQ D15 S15 := eB1 I15_0
def D16 := cm 16
def J16_0 (r0 r1 r2 : DV) (h : H) : Ans := vK (v_nilchk r0) fun x1 => vK (v_fa 0 x1) fun x2 => vK (v_ld h.get x2) fun x3 => vK (v_nilchk r0) fun x4 => vK (v_fa 2 x4) fun x5 => vK (v_ld h.get x5) fun x6 => vK (v_nilchk r0) fun x7 => vK (v_fa 4 x7) fun x8 => vK (v_ld h.get x8) fun x9 => wK (c_val E r1 [x9] h) fun x10 h11 => rK (rcK (v_ld h11.get x5) x6) <| rK (rcK (v_ld h11.get x2) x3) <| wK (callK E 36 [x3, x6, x10, r2] h11) fun x12 h13 => vK (v_ext 0 x12) fun x14 => vK (v_ext 1 x12) fun x15 => vK (v_neq x15 (ii 0)) fun x16 => bK x16 (vK (v_nilchk r0) fun x17 => vK (v_fa 5 x17) fun x18 => wK (dStF 1 x18 (.bool true) h13) fun x19 h20 => some (x15, h20)) (vK (v_nilchk r0) fun x21 => vK (v_fa 4 x21) fun x22 => vK (v_ld h13.get x22) fun x23 => vK (v_add x23 (ii 1)) fun x24 => vK (v_nilchk r0) fun x25 => vK (v_fa 4 x25) fun x26 => wK (dStF 1 x26 x24 h13) fun x27 h28 => some ((ii 0), h28))
theorem I16_0 : iB3 E D16 (J16_0 E) := Is.rf
def S16 : Fun := fA3 (J16_0 E)
theorem S16_eq : SQ D16 S16 := eB3 I16_0
def D17 := cm 17
def J17_0 (r0 r1 : DV) (h : H) : Ans := vK (v_ld h.get r1) fun x1 => vK (v_nilchk x1) fun x2 => vK (v_fa 3 x2) fun x3 => vK (v_ld h.get x3) fun x4 => vK (v_ld h.get r1) fun x5 => vK (v_nilchk x5) fun x6 => vK (v_fa 0 x6) fun x7 => vK (v_ld h.get x7) fun x8 => wK (callK E 19 [x8] h) fun x9 h10 => rK (rcK (v_ld h10.get x3) x4) <| rK (rcK (v_ld h10.get r1) x1) <| wK (callK E 18 [r0, x4, x9] h10) fun x11 h12 => vK (v_ext 0 x11) fun x13 => vK (v_ext 1 x11) fun x14 => vK (v_ext 2 x11) fun x15 => some (x13, h12)
theorem I17_0 : iB2 E D17 (J17_0 E) := Is.rf
def S17 : Fun := fA2 (J17_0 E)
theorem S17_eq : SQ D17 S17 := eB2 I17_0
def D18 := cm 18
def C18_1 := cr (cr (cr (cr (cr D18.body))))
def C18_2 := cl (cl (cr (cr (cr (cr D18.body)))))
def J18_1 (r9 r11 : DV) (h : H) : Ans := vK (v_eql r11 (ii 0)) fun x1 => bK x1 (some ((.tup [(.str []), (ii 0), (ii 2)]), h)) (wK (callK E 40 [r9] h) fun x2 h3 => some ((.tup [x2, r11, (ii 0)]), h3))
def B18_2 (r1 r9 r10 : DV) (i2 : DV → H → Ans) (r11 : DV) (h : H) : Ans := gdK r10 true (fun kk => kk r11 h) h fun x1 h2 => gdK r10 true (fun kk => kk r1 h2) h2 fun x3 h4 => gdK r10 true (fun kk => vK (v_lenL x3) fun v => kk v h4) h4 fun x5 h6 => gdK r10 true (fun kk => vK (v_mn x5 (ii 1000)) fun v => kk v h6) h6 fun x7 h8 => gdK r10 true (fun kk => vK (v_lss x1 x7) fun v => kk v h8) h8 fun x9 h10 => vK (v_pick r10 x9 (.bool false)) fun x11 => bK x11 (vK (v_iaS 1 r1 r11) fun x12 => vK (v_ld h10.get x12) fun x13 => wK (callK E 39 [r9, (ii 3), (ii 0), r11, x13] h10) fun x14 h15 => vK (v_ext 0 x14) fun x16 => vK (v_ext 1 x14) fun x17 => n_alc 5 5 (.list [(ii 0), (ii 0), (ii 0), (ii 0), (ii 0)]) h15 fun x18 h19 => wK (dStF 5 x18 x16 h19) fun x20 h21 => vK (v_neq x17 (ii 0)) fun x22 => bK x22 (J18_1 E r9 r11 h21) (vK (v_add r11 (ii 1)) fun x23 => i2 x23 h21)) (J18_1 E r9 r11 h10)
def L18_2 (r1 r9 r10 : DV) (n : Nat) : DV → H → Ans := Nat.rec (motive := fun _ => DV → H → Ans) (fun _ _ => none) (fun _ i => B18_2 E r1 r9 r10 i) n
def J18_0 (r0 r1 r2 : DV) (h : H) : Ans := wK (callK E 37 [r0] h) fun x1 h2 => vK (v_not x1) fun x3 => bK x3 (some ((.tup [(.str []), (ii 0), (ii 1)]), h2)) (wK (callK E 38 [r0, r2] h2) fun x4 h5 => vK (v_ext 0 x4) fun x6 => vK (v_ext 1 x4) fun x7 => L18_2 E r1 x6 x7 FUEL (ii 0) h5)
theorem I18_1 : Is E C18_1 (retK3 D18.res) (fun σ h => J18_1 E (σ p9) (σ p11) h) := Is.rf
abbrev K18_3 : KT2 (DV × H) := (thenK3 (fun σ h => J18_1 E (σ p9) (σ p11) h) (retK3 D18.res))
theorem I18_2 : Is E C18_2 (blockK3 0 (K18_3 E)) (fun σ h => L18_2 E (σ p1) (σ p9) (σ p10) FUEL (σ p11) h) := Is.lp (fun n2 σ h => L18_2 E (σ p1) (σ p9) (σ p10) n2 (σ p11) h) fun n2 => Is.aq (Is.leaf _)
theorem I18_0 : iB3 E D18 (J18_0 E) := Is.aq (Is.sq (Is.sq (Is.sq (Is.sq (Is.sq (I18_1 E) (Is.bk (I18_2 E))) (Is.leaf _)) (Is.leaf _)) (Is.leaf _)) (Is.leaf _))
def S18 : Fun := fA3 (J18_0 E)
theorem S18_eq : SQ D18 S18 := eB3 I18_0
def D19 := cm 19
def J19_0 (E : Env) (r0 : DV) (h : H) : Ans := vK (v_eqv .ptr false h.get r0 .nilp) fun x1 => bK x1 (some ((ii 0), h)) (vK (v_nilchk r0) fun x2 => vK (v_fa 2 x2) fun x3 => vK (v_ld h.get x3) fun x4 => vK (v_sub x4 (ii 1)) fun x5 => vK (v_mul (ii 512) x5) fun x6 => some (x6, h))
theorem I19_0 : iB1 E D19 (J19_0 E) := Is.rf
def S19 : Fun := fA1 (J19_0 E)
theorem S19_eq : SQ D19 S19 := eB1 I19_0
def D20 := cm 20
def C20_1 := cr (cr (cr (cr (cr D20.body))))
def C20_2 := cl (cl (cr (cr (cr (cr D20.body)))))
def J20_1 (E : Env) (r6 r7 : DV) (h : H) : Ans := vK (v_b2s h.get r6) fun x1 => n_bsl 1 1 [(.str [])] [(0, 1, x1)] h fun x2 h3 => wK (dAppendF 1 16 r7 x2 h3) fun x4 h5 => some ((.tup [x4, (ii 0)]), h5)
def B20_2 (r1 : DV) (i2 : DV → DV → H → Ans) (r6 r7 : DV) (h : H) : Ans := vK (v_lenL r6) fun x1 => vK (v_gtr x1 r1) fun x2 => bK x2 (vK (v_slM 1 r6 none r1 r1) fun x3 => vK (v_b2s h.get x3) fun x4 => n_bsl 1 1 [(.str [])] [(0, 1, x4)] h fun x5 h6 => wK (dAppendF 1 16 r7 x5 h6) fun x7 h8 => vK (v_slL 1 r6 (some r1) none) fun x9 => i2 x9 x7 h8) (J20_1 E r6 r7 h)
def L20_2 (r1 : DV) (n : Nat) : DV → DV → H → Ans := Nat.rec (motive := fun _ => DV → DV → H → Ans) (fun _ _ _ => none) (fun _ i => B20_2 E r1 i) n
def J20_0 (r0 r1 : DV) (h : H) : Ans := vK (v_lss r1 (ii 1)) fun x1 => gdK x1 false (fun kk => kk r1 h) h fun x2 h3 => gdK x1 false (fun kk => vK (v_gtr x2 (ii 65536)) fun v => kk v h3) h3 fun x4 h5 => vK (v_pick x1 (.bool true) x4) fun x6 => bK x6 (some ((.tup [.nils, (ii 1)]), h5)) (vK (v_lenS r0) fun x7 => vK (v_mul (ii 255) r1) fun x8 => vK (v_gtr x7 x8) fun x9 => bK x9 (some ((.tup [.nils, (ii 2)]), h5)) (n_s2b r0 h5 fun x10 h11 => L20_2 E r1 FUEL x10 .nils h11))
theorem I20_1 : Is E C20_1 (retK3 D20.res) (fun σ h => J20_1 E (σ p6) (σ p7) h) := Is.rf
abbrev K20_3 : KT2 (DV × H) := (thenK3 (fun σ h => J20_1 E (σ p6) (σ p7) h) (retK3 D20.res))
theorem I20_2 : Is E C20_2 (blockK3 1 (K20_3 E)) (fun σ h => L20_2 E (σ p1) FUEL (σ p6) (σ p7) h) := Is.lp (fun n2 σ h => L20_2 E (σ p1) n2 (σ p6) (σ p7) h) fun n2 => Is.aq (Is.leaf _)
theorem I20_0 : iB2 E D20 (J20_0 E) := Is.aq (Is.sq (Is.sq (Is.sq (Is.sq (Is.sq (I20_1 E) (Is.bk (I20_2 E))) (Is.leaf _)) (Is.leaf _)) (Is.leaf _)) (Is.leaf _))
def S20 : Fun := fA2 (J20_0 E)
theorem S20_eq : SQ D20 S20 := eB2 I20_0
def D21 := cm 21
def C21_1 := cr (cr (cr (cr (cr (cr D21.body)))))
def C21_4 := cr (cr C21_1)
def C21_5 := cl (cr (cl (cr C21_1)))
def C21_6 := cr (cr (cr (cl C21_5)))
def C21_2 := cl (cr (cl (cr (cr (cr (cr (cr D21.body)))))))
def C21_3 := cr (cr (cr (cl C21_2)))
def J21_4 (E : Env) (r3 : DV) (h : H) : Ans := vK (v_ld h.get r3) fun x1 => vK (v_b2s h.get x1) fun x2 => some (x2, h)
def J21_6 (E : Env) (i5 : DV → H → Ans) (r33 : DV) (h : H) : Ans := vK (v_add r33 (ii 1)) fun x1 => i5 x1 h
def B21_5 (r3 r4 r32 : DV) (i5 : DV → H → Ans) (r33 : DV) (h : H) : Ans := vK (v_lss r33 (ii 256)) fun x1 => bK x1 (vK (v_ixA 256 2 true r32 r33) fun x2 => n_alc 1 1 (.list [(ii 0)]) h fun x3 h4 => n_alc 2 2 (.list [(ii 0), .nili]) h4 fun x5 h6 => wK (dStF 1 x3 r33 h6) fun x7 h8 => wK (dStF 2 x5 x2 h8) fun x9 h10 => vK (v_fa 1 x5) fun x11 => vK (v_ld h10.get x11) fun x12 => vK (v_eqv .nilI false h10.get x12 .nili) fun x13 => bK x13 (J21_6 E i5 r33 h10) (wK (c_val E r4 [(.fn (.func 43) [] [x3, x5])] h10) fun x14 h15 => J21_6 E i5 r33 h15)) (J21_4 E r3 h)
def L21_5 (r3 r4 r32 : DV) (n : Nat) : DV → H → Ans := Nat.rec (motive := fun _ => DV → H → Ans) (fun _ _ => none) (fun _ i => B21_5 E r3 r4 r32 i) n
def J21_1 (r1 r3 r4 r5 : DV) (h : H) : Ans := wK (c_val E r4 [(.fn (.func 42) [] [r1, r5])] h) fun x1 h2 => vK (v_ld h2.get r1) fun x3 => vK (v_nilchk x3) fun x4 => vK (v_fa 0 x4) fun x5 => vK (v_ldN 512 h2.get x5) fun x6 => L21_5 E r3 r4 x6 FUEL (ii 0) h2
def J21_3 (E : Env) (i2 : DV → H → Ans) (r17 : DV) (h : H) : Ans := vK (v_add r17 (ii 1)) fun x1 => i2 x1 h
def B21_2 (r1 r3 r4 r5 r16 : DV) (i2 : DV → H → Ans) (r17 : DV) (h : H) : Ans := vK (v_lss r17 (ii 256)) fun x1 => bK x1 (vK (v_ixA 256 2 true r16 r17) fun x2 => n_alc 2 2 (.list [(ii 0), .nili]) h fun x3 h4 => wK (dStF 2 x3 x2 h4) fun x5 h6 => vK (v_fa 1 x3) fun x7 => vK (v_ld h6.get x7) fun x8 => vK (v_eqv .nilI true h6.get x8 .nili) fun x9 => bK x9 (vK (v_ld h6.get r5) fun x10 => vK (v_add x10 (ii 1)) fun x11 => wK (dStF 1 r5 x11 h6) fun x12 h13 => J21_3 E i2 r17 h13) (J21_3 E i2 r17 h6)) (J21_1 E r1 r3 r4 r5 h)
def L21_2 (r1 r3 r4 r5 r16 : DV) (n : Nat) : DV → H → Ans := Nat.rec (motive := fun _ => DV → H → Ans) (fun _ _ => none) (fun _ i => B21_2 E r1 r3 r4 r5 r16 i) n
def J21_0 (r0 : DV) (h : H) : Ans := n_box r0 h fun x1 h2 => vK (v_ld h2.get x1) fun x3 => vK (v_eqv .ptr false h2.get x3 .nilp) fun x4 => bK x4 (some ((.str []), h2)) (n_alc 1 1 (.list [.nils]) h2 fun x5 h6 => n_alc 1 1 (.list [(ii 0)]) h6 fun x7 h8 => wK (dStF 1 x7 (ii 0) h8) fun x9 h10 => vK (v_ld h10.get x1) fun x11 => vK (v_nilchk x11) fun x12 => vK (v_fa 0 x12) fun x13 => vK (v_ldN 512 h10.get x13) fun x14 => L21_2 E x1 x5 (.fn (.func 41) [] [x5]) x7 x14 FUEL (ii 0) h10)
theorem I21_4 : Is E C21_4 (retK3 D21.res) (fun σ h => J21_4 E (σ p3) h) := Is.rf
abbrev K21_7 : KT2 (DV × H) := (thenK3 (fun σ h => J21_4 E (σ p3) h) (retK3 D21.res))
abbrev K21_8 (n5 : Nat) : KT2 (DV × H) := (thenK3 (fun σ h => (L21_5 E (σ p3) (σ p4) (σ p32) n5) (σ p33) h) (blockK3 2 (K21_7 E)))
theorem I21_6 (n5 : Nat) : Is E C21_6 (K21_8 E n5) (fun σ h => J21_6 E (L21_5 E (σ p3) (σ p4) (σ p32) n5) (σ p33) h) := Is.rf
theorem I21_5 : Is E C21_5 (blockK3 2 (K21_7 E)) (fun σ h => L21_5 E (σ p3) (σ p4) (σ p32) FUEL (σ p33) h) := Is.lp (fun n5 σ h => L21_5 E (σ p3) (σ p4) (σ p32) n5 (σ p33) h) fun n5 => Is.aq (Is.sq (Is.sq (Is.sq (I21_6 E n5) (Is.leaf _)) (Is.leaf _)) (Is.leaf _))
theorem I21_1 : Is E C21_1 (retK3 D21.res) (fun σ h => J21_1 E (σ p1) (σ p3) (σ p4) (σ p5) h) := Is.aq (Is.sq (Is.sq (I21_4 E) (Is.sq (Is.bk (I21_5 E)) (Is.leaf _))) (Is.leaf _))
abbrev K21_9 : KT2 (DV × H) := (thenK3 (fun σ h => J21_1 E (σ p1) (σ p3) (σ p4) (σ p5) h) (retK3 D21.res))
abbrev K21_10 (n2 : Nat) : KT2 (DV × H) := (thenK3 (fun σ h => (L21_2 E (σ p1) (σ p3) (σ p4) (σ p5) (σ p16) n2) (σ p17) h) (blockK3 0 (K21_9 E)))
theorem I21_3 (n2 : Nat) : Is E C21_3 (K21_10 E n2) (fun σ h => J21_3 E (L21_2 E (σ p1) (σ p3) (σ p4) (σ p5) (σ p16) n2) (σ p17) h) := Is.rf
theorem I21_2 : Is E C21_2 (blockK3 0 (K21_9 E)) (fun σ h => L21_2 E (σ p1) (σ p3) (σ p4) (σ p5) (σ p16) FUEL (σ p17) h) := Is.lp (fun n2 σ h => L21_2 E (σ p1) (σ p3) (σ p4) (σ p5) (σ p16) n2 (σ p17) h) fun n2 => Is.aq (Is.sq (Is.sq (Is.sq (I21_3 E n2) (Is.leaf _)) (Is.leaf _)) (Is.leaf _))
theorem I21_0 : iB1 E D21 (J21_0 E) := Is.aq (Is.sq (Is.sq (Is.sq (Is.sq (Is.sq (Is.sq (I21_1 E) (Is.sq (Is.bk (I21_2 E)) (Is.leaf _))) (Is.leaf _)) (Is.leaf _)) (Is.leaf _)) (Is.leaf _)) (Is.leaf _))
def S21 : Fun := fA1 (J21_0 E)
theorem S21_eq : SQ D21 S21 := eB1 I21_0
def D22 := cm 22
def J22_0 (r0 r1 r2 r3 : DV) (h : H) : Ans := vK (v_ld h.get r1) fun x1 => vK (v_ld h.get r2) fun x2 => vK (v_lenL x2) fun x3 => vK (v_ld h.get r3) fun x4 => wK (callK E 23 [r0, x1, x3, x4] h) fun x5 h6 => vK (v_ext 0 x5) fun x7 => vK (v_ext 1 x5) fun x8 => some (x7, h6)
theorem I22_0 : iB4 E D22 (J22_0 E) := Is.rf
def S22 : Fun := fA4 (J22_0 E)
theorem S22_eq : SQ D22 S22 := eB4 I22_0
def D23 := cm 23
def J23_0 (r0 r1 r2 r3 : DV) (h : H) : Ans := wK (callK E 37 [r0] h) fun x1 h2 => vK (v_not x1) fun x3 => gdK x3 false (fun kk => kk r2 h2) h2 fun x4 h5 => gdK x3 false (fun kk => vK (v_lss x4 (ii 1)) fun v => kk v h5) h5 fun x6 h7 => vK (v_pick x3 (.bool true) x6) fun x8 => gdK x8 false (fun kk => kk r2 h7) h7 fun x9 h10 => gdK x8 false (fun kk => vK (v_gtr x9 (ii 255)) fun v => kk v h10) h10 fun x11 h12 => vK (v_pick x8 (.bool true) x11) fun x13 => gdK x13 false (fun kk => kk r1 h12) h12 fun x14 h15 => gdK x13 false (fun kk => vK (v_lss x14 (ii 0)) fun v => kk v h15) h15 fun x16 h17 => vK (v_pick x13 (.bool true) x16) fun x18 => gdK x18 false (fun kk => kk r1 h17) h17 fun x19 h20 => gdK x18 false (fun kk => kk r2 h20) h20 fun x21 h22 => gdK x18 false (fun kk => vK (v_geq x19 x21) fun v => kk v h22) h22 fun x23 h24 => vK (v_pick x18 (.bool true) x23) fun x25 => bK x25 (some ((.tup [(.str []), (ii 1)]), h24)) (wK (callK E 38 [r0, (ii 65536)] h24) fun x26 h27 => vK (v_ext 0 x26) fun x28 => vK (v_ext 1 x26) fun x29 => wK (callK E 39 [x28, (ii 2), r2, r1, r3] h27) fun x30 h31 => vK (v_ext 0 x30) fun x32 => vK (v_ext 1 x30) fun x33 => n_alc 5 5 (.list [(ii 0), (ii 0), (ii 0), (ii 0), (ii 0)]) h31 fun x34 h35 => wK (dStF 5 x34 x32 h35) fun x36 h37 => vK (v_neq x33 (ii 0)) fun x38 => bK x38 (some ((.tup [(.str []), (ii 2)]), h37)) (wK (callK E 40 [x28] h37) fun x39 h40 => some ((.tup [x39, (ii 0)]), h40)))
theorem I23_0 : iB4 E D23 (J23_0 E) := Is.rf
def S23 : Fun := fA4 (J23_0 E)
theorem S23_eq : SQ D23 S23 := eB4 I23_0
def D24 := cm 24
def C24_1 := cl (cr D24.body)
def C24_2 := cr (cr (cr (cl C24_1)))
def J24_2 (E : Env) (i1 : DV → H → Ans) (r10 : DV) (h : H) : Ans := vK (v_add r10 (ii 1)) fun x1 => i1 x1 h
def B24_1 (r0 r2 r8 r9 : DV) (i1 : DV → H → Ans) (r10 : DV) (h : H) : Ans := vK (v_lss r10 r9) fun x1 => bK x1 (vK (v_iaS 5 r8 r10) fun x2 => vK (v_ldN 5 h.get x2) fun x3 => n_alc 5 5 (.list [(ii 0), (ii 0), (ii 0), (ii 0), .nils]) h fun x4 h5 => wK (dStF 5 x4 x3 h5) fun x6 h7 => vK (v_ldN 5 h7.get x4) fun x8 => wK (c_val E r2 [x8] h7) fun x9 h10 => bK x9 (vK (v_nilchk r0) fun x11 => vK (v_fa 0 x11) fun x12 => vK (v_ld h10.get x12) fun x13 => vK (v_fa 0 x4) fun x14 => vK (v_ld h10.get x14) fun x15 => wK (callK E 44 [x13, x15] h10) fun x16 h17 => J24_2 E i1 r10 h17) (J24_2 E i1 r10 h10)) (some ((.tup []), h))
def L24_1 (r0 r2 r8 r9 : DV) (n : Nat) : DV → H → Ans := Nat.rec (motive := fun _ => DV → H → Ans) (fun _ _ => none) (fun _ i => B24_1 E r0 r2 r8 r9 i) n
def J24_0 (r0 r1 r2 : DV) (h : H) : Ans := vK (v_lenL r1) fun x1 => L24_1 E r0 r2 r1 x1 FUEL (ii 0) h
abbrev K24_3 (n1 : Nat) : KT2 (DV × H) := (thenK3 (fun σ h => (L24_1 E (σ p0) (σ p2) (σ p8) (σ p9) n1) (σ p10) h) (blockK3 0 (retK3 D24.res)))
theorem I24_2 (n1 : Nat) : Is E C24_2 (K24_3 E n1) (fun σ h => J24_2 E (L24_1 E (σ p0) (σ p2) (σ p8) (σ p9) n1) (σ p10) h) := Is.rf
theorem I24_1 : Is E C24_1 (blockK3 0 (retK3 D24.res)) (fun σ h => L24_1 E (σ p0) (σ p2) (σ p8) (σ p9) FUEL (σ p10) h) := Is.lp (fun n1 σ h => L24_1 E (σ p0) (σ p2) (σ p8) (σ p9) n1 (σ p10) h) fun n1 => Is.aq (Is.sq (Is.sq (Is.sq (I24_2 E n1) (Is.leaf _)) (Is.leaf _)) (Is.leaf _))
theorem I24_0 : iB3 E D24 (J24_0 E) := Is.aq (Is.sq (Is.bk (I24_1 E)) (Is.leaf _))
def S24 : Fun := fA3 (J24_0 E)
theorem S24_eq : SQ D24 S24 := eB3 I24_0
def D25 := cm 25
def C25_1 := cr (cr (cr D25.body))
def C25_4 := cr (cr C25_1)
def C25_5 := cl (cl (cr (cl (cr C25_1))))
def C25_2 := cl (cr (cl (cr (cr D25.body))))
def C25_3 := cr (cr (cr (cl C25_2)))
def J25_4 (r13 : DV) (h : H) : Ans := wK (callK E 49 [r13, (.fn (.func 50) [] [])] h) fun x1 h2 => some (r13, h2)
def B25_5 (r53 : DV) (i5 : DV → H → Ans) (r13 : DV) (h : H) : Ans := nxtK r53 h fun x1 h2 => vK (v_ext 0 x1) fun x3 => bK x3 (wK (dEnt r53 h2) fun x4 h5 => vK (v_ext 1 x4) fun x6 => n_alc 5 5 (.list [(ii 0), (ii 0), (ii 0), (ii 0), .nils]) h5 fun x7 h8 => wK (dStF 5 x7 x6 h8) fun x9 h10 => vK (v_ldN 5 h10.get x7) fun x11 => n_bsl 1 5 [(ii 0), (ii 0), (ii 0), (ii 0), .nils] [(0, 5, x11)] h10 fun x12 h13 => wK (dAppendF 5 56 r13 x12 h13) fun x14 h15 => kilK x7 h15 fun h16 => kilK x12 h16 fun h17 => i5 x14 h17) (kilK r53 h2 fun h18 => J25_4 E r13 h18)
def L25_5 (r53 : DV) (n : Nat) : DV → H → Ans := Nat.rec (motive := fun _ => DV → H → Ans) (fun _ _ => none) (fun _ i => B25_5 E r53 i) n
def J25_1 (r3 : DV) (h : H) : Ans := wK (dRng r3 h) fun x1 h2 => L25_5 E x1 FUEL .nils h2
def J25_3 (E : Env) (i2 : DV → H → Ans) (r21 : DV) (h : H) : Ans := vK (v_add r21 (ii 1)) fun x1 => i2 x1 h
def B25_2 (r0 r3 r19 r20 : DV) (i2 : DV → H → Ans) (r21 : DV) (h : H) : Ans := vK (v_lss r21 r20) fun x1 => bK x1 (vK (v_iaS 1 r19 r21) fun x2 => vK (v_ld h.get x2) fun x3 => wK (callK E 47 [r0, x3] h) fun x4 h5 => vK (v_ext 0 x4) fun x6 => vK (v_ext 1 x4) fun x7 => vK (v_neq x7 (ii 0)) fun x8 => bK x8 (J25_3 E i2 r21 h5) (wK (callK E 48 [x6] h5) fun x9 h10 => vK (v_ext 0 x9) fun x11 => vK (v_ext 1 x9) fun x12 => vK (v_ext 2 x9) fun x13 => vK (v_ext 3 x9) fun x14 => vK (v_ext 4 x9) fun x15 => vK (v_eql x15 (ii 0)) fun x16 => bK x16 (vK (v_bld [(ii 0), (ii 0), (ii 0), (ii 0), .nils] [(0, 1, x3), (1, 1, x11), (2, 1, x12), (3, 1, x13), (4, 1, x14)]) fun x17 => wK (dMup .int r3 x11 x17 h10) fun x18 h19 => J25_3 E i2 r21 h19) (J25_3 E i2 r21 h10))) (J25_1 E r3 h)
def L25_2 (r0 r3 r19 r20 : DV) (n : Nat) : DV → H → Ans := Nat.rec (motive := fun _ => DV → H → Ans) (fun _ _ => none) (fun _ i => B25_2 E r0 r3 r19 r20 i) n
def J25_0 (r0 : DV) (h : H) : Ans := n_mkm h fun x1 h2 => wK (callK E 45 [r0] h2) fun x3 h4 => wK (callK E 46 [x3, (ii 2)] h4) fun x5 h6 => vK (v_lenL x5) fun x7 => L25_2 E r0 x1 x5 x7 FUEL (ii 0) h6
theorem I25_4 : Is E C25_4 (retK3 D25.res) (fun σ h => J25_4 E (σ p13) h) := Is.rf
abbrev K25_6 : KT2 (DV × H) := (thenK3 (fun σ h => J25_4 E (σ p13) h) (retK3 D25.res))
abbrev K25_7 (n5 : Nat) : KT2 (DV × H) := (thenK3 (fun σ h => (L25_5 E (σ p53) n5) (σ p13) h) (blockK3 2 (finK3 p53 (K25_6 E))))
theorem I25_5 : Is E C25_5 (blockK3 2 (finK3 p53 (K25_6 E))) (fun σ h => L25_5 E (σ p53) FUEL (σ p13) h) := Is.lp (fun n5 σ h => L25_5 E (σ p53) n5 (σ p13) h) fun n5 => Is.aq (Is.sq (Is.sq (Is.fi (p := p60) (Is.fi (p := p15) (Is.leaf _))) (Is.leaf _)) (Is.leaf _))
theorem I25_1 : Is E C25_1 (retK3 D25.res) (fun σ h => J25_1 E (σ p3) h) := Is.aq (Is.sq (Is.sq (I25_4 E) (Is.sq (Is.fi (p := p53) (Is.bk (I25_5 E))) (Is.leaf _))) (Is.leaf _))
abbrev K25_8 : KT2 (DV × H) := (thenK3 (fun σ h => J25_1 E (σ p3) h) (retK3 D25.res))
abbrev K25_9 (n2 : Nat) : KT2 (DV × H) := (thenK3 (fun σ h => (L25_2 E (σ p0) (σ p3) (σ p19) (σ p20) n2) (σ p21) h) (blockK3 0 (K25_8 E)))
theorem I25_3 (n2 : Nat) : Is E C25_3 (K25_9 E n2) (fun σ h => J25_3 E (L25_2 E (σ p0) (σ p3) (σ p19) (σ p20) n2) (σ p21) h) := Is.rf
theorem I25_2 : Is E C25_2 (blockK3 0 (K25_8 E)) (fun σ h => L25_2 E (σ p0) (σ p3) (σ p19) (σ p20) FUEL (σ p21) h) := Is.lp (fun n2 σ h => L25_2 E (σ p0) (σ p3) (σ p19) (σ p20) n2 (σ p21) h) fun n2 => Is.aq (Is.sq (Is.sq (Is.sq (I25_3 E n2) (Is.leaf _)) (Is.leaf _)) (Is.leaf _))
theorem I25_0 : iB1 E D25 (J25_0 E) := Is.aq (Is.sq (Is.sq (Is.sq (I25_1 E) (Is.sq (Is.bk (I25_2 E)) (Is.leaf _))) (Is.leaf _)) (Is.leaf _))
def S25 : Fun := fA1 (J25_0 E)
theorem S25_eq : SQ D25 S25 := eB1 I25_0
def D26 := cm 26
def J26_0 (E : Env) (r0 r1 : DV) (h : H) : Ans := n_box r0 h fun x1 h2 => vK (v_fa 1 x1) fun x3 => vK (v_ld h2.get x3) fun x4 => vK (v_ld h2.get r1) fun x5 => vK (v_lss x4 x5) fun x6 => some (x6, h2)
theorem I26_0 : iB2 E D26 (J26_0 E) := Is.rf
def S26 : Fun := fA2 (J26_0 E)
theorem S26_eq : SQ D26 S26 := eB2 I26_0
def D27 := cm 27
def J27_0 (r0 r1 r2 r3 : DV) (h : H) : Ans := vK (v_lss r0 (ii 1)) fun x1 => gdK x1 false (fun kk => kk r0 h) h fun x2 h3 => gdK x1 false (fun kk => vK (v_gtr x2 (ii 8)) fun v => kk v h3) h3 fun x4 h5 => vK (v_pick x1 (.bool true) x4) fun x6 => gdK x6 false (fun kk => kk r2 h5) h5 fun x7 h8 => gdK x6 false (fun kk => vK (v_lss x7 (ii 2)) fun v => kk v h8) h8 fun x9 h10 => vK (v_pick x6 (.bool true) x9) fun x11 => gdK x11 false (fun kk => kk r2 h10) h10 fun x12 h13 => gdK x11 false (fun kk => vK (v_gtr x12 (ii 8)) fun v => kk v h13) h13 fun x14 h15 => vK (v_pick x11 (.bool true) x14) fun x16 => gdK x16 false (fun kk => kk r3 h15) h15 fun x17 h18 => gdK x16 false (fun kk => vK (v_lss x17 (ii 0)) fun v => kk v h18) h18 fun x19 h20 => vK (v_pick x16 (.bool true) x19) fun x21 => gdK x21 false (fun kk => kk r3 h20) h20 fun x22 h23 => gdK x21 false (fun kk => kk r0 h23) h23 fun x24 h25 => gdK x21 false (fun kk => kk r2 h25) h25 fun x26 h27 => gdK x21 false (fun kk => vK (v_sub x24 x26) fun v => kk v h27) h27 fun x28 h29 => gdK x21 false (fun kk => vK (v_gtr x22 x28) fun v => kk v h29) h29 fun x30 h31 => vK (v_pick x21 (.bool true) x30) fun x32 => bK x32 (some (.nilp, h31)) (wK (callK E 52 [r0, r1] h31) fun x33 h34 => wK (callK E 54 [(ii 0), r2] h34) fun x35 h36 => wK (callK E 54 [r2, r3] h36) fun x37 h38 => wK (callK E 53 [x35, x37] h38) fun x39 h40 => vK (v_bld [.nilp, .nilp, (ii 0), (ii 0), (ii 0), (ii 0), (ii 0), (ii 0), (ii 0), (ii 0), (ii 0), (ii 0), (ii 0), (ii 0), (ii 0), (ii 0), (ii 0), (ii 0), (ii 0)] [(0, 1, x33), (1, 1, x39), (2, 1, r2)]) fun x41 => n_box x41 h40 fun x42 h43 => some (x42, h43))
theorem I27_0 : iB4 E D27 (J27_0 E) := Is.rf
def S27 : Fun := fA4 (J27_0 E)
theorem S27_eq : SQ D27 S27 := eB4 I27_0
def D28 := cm 28
def C28_1 := cr (cr (cr (cr (cr D28.body))))
def C28_2 := cl (cl (cr (cr (cr (cr D28.body)))))
def C28_3 := cr (cl (cr (cl C28_2)))
def C28_4 := cl (cr (cl (cl (cr (cl C28_2)))))
def C28_5 := cr (cr (cr (cl C28_4)))
def J28_1 (r0 r1 r6 r7 r9 : DV) (h : H) : Ans := vK (v_ld h.get r9) fun x1 => vK (v_gtr x1 (ii 2147482648)) fun x2 => bK x2 (some ((.tup [.nilp, (ii 5)]), h)) (vK (v_ld h.get r9) fun x3 => vK (v_bld [.nilp, .nilp, (ii 0), .nils, (ii 0), (.bool false)] [(0, 1, r0), (1, 1, r7), (2, 1, r1), (4, 1, x3)]) fun x4 => n_box x4 h fun x5 h6 => wK (callK E 24 [x5, r6, (.fn (.func 57) [] [r9])] h6) fun x7 h8 => some ((.tup [x5, (ii 0)]), h8))
def J28_3 (E : Env) (i2 : DV → H → Ans) (r8 r9 : DV) (h : H) : Ans := vK (v_slL 5 r8 (some (ii 1)) none) fun x1 => vK (v_ld h.get r9) fun x2 => vK (v_add x2 (ii 1)) fun x3 => wK (dStF 1 r9 x3 h) fun x4 h5 => i2 x1 h5
def J28_5 (E : Env) (i4 : DV → H → Ans) (r56 : DV) (h : H) : Ans := vK (v_add r56 (ii 1)) fun x1 => i4 x1 h
def B28_4 (i2 : DV → H → Ans) (r7 r8 r9 r54 r55 : DV) (i4 : DV → H → Ans) (r56 : DV) (h : H) : Ans := vK (v_lss r56 r55) fun x1 => bK x1 (vK (v_iaS 1 r54 r56) fun x2 => vK (v_ld h.get x2) fun x3 => wK (callK E 56 [x3] h) fun x4 h5 => vK (v_ext 0 x4) fun x6 => vK (v_ext 1 x4) fun x7 => n_alc 6 6 (.list [(ii 0), (ii 0), (ii 0), (.str []), (.str []), (.str [])]) h5 fun x8 h9 => wK (dStF 6 x8 x6 h9) fun x10 h11 => vK (v_eql x7 (ii 0)) fun x12 => bK x12 (vK (v_ldN 6 h11.get x8) fun x13 => wK (callK E 13 [r7, x13] h11) fun x14 h15 => J28_5 E i4 r56 h15) (J28_5 E i4 r56 h11)) (J28_3 E i2 r8 r9 h)
def L28_4 (i2 : DV → H → Ans) (r7 r8 r9 r54 r55 : DV) (n : Nat) : DV → H → Ans := Nat.rec (motive := fun _ => DV → H → Ans) (fun _ _ => none) (fun _ i => B28_4 E i2 r7 r8 r9 r54 r55 i) n
def B28_2 (r0 r1 r6 r7 r9 : DV) (i2 : DV → H → Ans) (r8 : DV) (h : H) : Ans := vK (v_lenL r8) fun x1 => vK (v_gtr x1 (ii 0)) fun x2 => gdK x2 true (fun kk => kk r8 h) h fun x3 h4 => gdK x2 true (fun kk => vK (v_iaS 5 x3 (ii 0)) fun v => kk v h4) h4 fun x5 h6 => gdK x2 true (fun kk => vK (v_fa 1 x5) fun v => kk v h6) h6 fun x7 h8 => gdK x2 true (fun kk => vK (v_ld h8.get x7) fun v => kk v h8) h8 fun x9 h10 => gdK x2 true (fun kk => vK (v_ld h10.get r9) fun v => kk v h10) h10 fun x11 h12 => gdK x2 true (fun kk => vK (v_eql x9 x11) fun v => kk v h12) h12 fun x13 h14 => vK (v_pick x2 x13 (.bool false)) fun x15 => gdK x15 true (fun kk => kk r8 h14) h14 fun x16 h17 => gdK x15 true (fun kk => vK (v_iaS 5 x16 (ii 0)) fun v => kk v h17) h17 fun x18 h19 => gdK x15 true (fun kk => vK (v_fa 2 x18) fun v => kk v h19) h19 fun x20 h21 => gdK x15 true (fun kk => vK (v_ld h21.get x20) fun v => kk v h21) h21 fun x22 h23 => gdK x15 true (fun kk => vK (v_lss x22 (ii 0)) fun v => kk v h23) h23 fun x24 h25 => vK (v_pick x15 x24 (.bool false)) fun x26 => bK x26 (vK (v_iaS 5 r8 (ii 0)) fun x27 => vK (v_fa 4 x27) fun x28 => vK (v_ld h25.get x28) fun x29 => vK (v_lenL x29) fun x30 => L28_4 E i2 r7 r8 r9 x29 x30 FUEL (ii 0) h25) (J28_1 E r0 r1 r6 r7 r9 h25)
def L28_2 (r0 r1 r6 r7 r9 : DV) (n : Nat) : DV → H → Ans := Nat.rec (motive := fun _ => DV → H → Ans) (fun _ _ => none) (fun _ i => B28_2 E r0 r1 r6 r7 r9 i) n
def J28_0 (r0 r1 : DV) (h : H) : Ans := vK (v_eqv .ptr false h.get r0 .nilp) fun x1 => gdK x1 false (fun kk => kk r1 h) h fun x2 h3 => gdK x1 false (fun kk => vK (v_lss x2 (ii 0)) fun v => kk v h3) h3 fun x4 h5 => vK (v_pick x1 (.bool true) x4) fun x6 => gdK x6 false (fun kk => kk r1 h5) h5 fun x7 h8 => gdK x6 false (fun kk => vK (v_gtr x7 (ii 14)) fun v => kk v h8) h8 fun x9 h10 => vK (v_pick x6 (.bool true) x9) fun x11 => bK x11 (some ((.tup [.nilp, (ii 1)]), h10)) (wK (callK E 25 [r0] h10) fun x12 h13 => wK (callK E 55 [x12] h13) fun x14 h15 => vK (v_ext 0 x14) fun x16 => vK (v_ext 1 x14) fun x17 => vK (v_ext 2 x14) fun x18 => n_alc 1 1 (.list [(ii 0)]) h15 fun x19 h20 => wK (dStF 1 x19 x18 h20) fun x21 h22 => L28_2 E r0 r1 x12 x16 x19 FUEL x17 h22)
theorem I28_1 : Is E C28_1 (retK3 D28.res) (fun σ h => J28_1 E (σ p0) (σ p1) (σ p6) (σ p7) (σ p9) h) := Is.rf
abbrev K28_6 : KT2 (DV × H) := (thenK3 (fun σ h => J28_1 E (σ p0) (σ p1) (σ p6) (σ p7) (σ p9) h) (retK3 D28.res))
abbrev K28_7 (n2 : Nat) : KT2 (DV × H) := (thenK3 (fun σ h => (L28_2 E (σ p0) (σ p1) (σ p6) (σ p7) (σ p9) n2) (σ p8) h) (blockK3 0 (K28_6 E)))
theorem I28_3 (n2 : Nat) : Is E C28_3 (blockK3 1 (K28_7 E n2)) (fun σ h => J28_3 E (L28_2 E (σ p0) (σ p1) (σ p6) (σ p7) (σ p9) n2) (σ p8) (σ p9) h) := Is.rf
abbrev K28_8 (n2 : Nat) : KT2 (DV × H) := (thenK3 (fun σ h => J28_3 E (L28_2 E (σ p0) (σ p1) (σ p6) (σ p7) (σ p9) n2) (σ p8) (σ p9) h) (blockK3 1 (K28_7 E n2)))
abbrev K28_9 (n2 n4 : Nat) : KT2 (DV × H) := (thenK3 (fun σ h => (L28_4 E (L28_2 E (σ p0) (σ p1) (σ p6) (σ p7) (σ p9) n2) (σ p7) (σ p8) (σ p9) (σ p54) (σ p55) n4) (σ p56) h) (blockK3 2 (K28_8 E n2)))
theorem I28_5 (n2 n4 : Nat) : Is E C28_5 (K28_9 E n2 n4) (fun σ h => J28_5 E (L28_4 E (L28_2 E (σ p0) (σ p1) (σ p6) (σ p7) (σ p9) n2) (σ p7) (σ p8) (σ p9) (σ p54) (σ p55) n4) (σ p56) h) := Is.rf
theorem I28_4 (n2 : Nat) : Is E C28_4 (blockK3 2 (K28_8 E n2)) (fun σ h => L28_4 E (L28_2 E (σ p0) (σ p1) (σ p6) (σ p7) (σ p9) n2) (σ p7) (σ p8) (σ p9) (σ p54) (σ p55) FUEL (σ p56) h) := Is.lp (fun n4 σ h => L28_4 E (L28_2 E (σ p0) (σ p1) (σ p6) (σ p7) (σ p9) n2) (σ p7) (σ p8) (σ p9) (σ p54) (σ p55) n4 (σ p56) h) fun n4 => Is.aq (Is.sq (Is.sq (Is.sq (I28_5 E n2 n4) (Is.leaf _)) (Is.leaf _)) (Is.leaf _))
theorem I28_2 : Is E C28_2 (blockK3 0 (K28_6 E)) (fun σ h => L28_2 E (σ p0) (σ p1) (σ p6) (σ p7) (σ p9) FUEL (σ p8) h) := Is.lp (fun n2 σ h => L28_2 E (σ p0) (σ p1) (σ p6) (σ p7) (σ p9) n2 (σ p8) h) fun n2 => Is.aq (Is.sq (Is.bk (Is.sq (I28_3 E n2) (Is.sq (Is.bk (I28_4 E n2)) (Is.leaf _)))) (Is.leaf _))
theorem I28_0 : iB2 E D28 (J28_0 E) := Is.aq (Is.sq (Is.sq (Is.sq (Is.sq (Is.sq (I28_1 E) (Is.bk (I28_2 E))) (Is.leaf _)) (Is.leaf _)) (Is.leaf _)) (Is.leaf _))
def S28 : Fun := fA2 (J28_0 E)
theorem S28_eq : SQ D28 S28 := eB2 I28_0
def D29 := cm 29
def J29_0 (E : Env) (r0 : DV) (h : H) : Ans := n_box r0 h fun x1 h2 => vK (v_fa 0 x1) fun x3 => vK (v_ld h2.get x3) fun x4 => vK (v_lss x4 (ii 1)) fun x5 => gdK x5 false (fun kk => vK (v_fa 0 x1) fun v => kk v h2) h2 fun x6 h7 => gdK x5 false (fun kk => vK (v_ld h7.get x6) fun v => kk v h7) h7 fun x8 h9 => gdK x5 false (fun kk => vK (v_gtr x8 (ii 11)) fun v => kk v h9) h9 fun x10 h11 => vK (v_pick x5 (.bool true) x10) fun x12 => bK x12 (some ((ii 1), h11)) (vK (v_fa 3 x1) fun x13 => vK (v_ld h11.get x13) fun x14 => vK (v_lenS x14) fun x15 => vK (v_gtr x15 (ii 255)) fun x16 => gdK x16 false (fun kk => vK (v_fa 4 x1) fun v => kk v h11) h11 fun x17 h18 => gdK x16 false (fun kk => vK (v_ld h18.get x17) fun v => kk v h18) h18 fun x19 h20 => gdK x16 false (fun kk => vK (v_lenS x19) fun v => kk v h20) h20 fun x21 h22 => gdK x16 false (fun kk => vK (v_gtr x21 (ii 255)) fun v => kk v h22) h22 fun x23 h24 => vK (v_pick x16 (.bool true) x23) fun x25 => gdK x25 false (fun kk => vK (v_fa 5 x1) fun v => kk v h24) h24 fun x26 h27 => gdK x25 false (fun kk => vK (v_ld h27.get x26) fun v => kk v h27) h27 fun x28 h29 => gdK x25 false (fun kk => vK (v_lenS x28) fun v => kk v h29) h29 fun x30 h31 => gdK x25 false (fun kk => vK (v_gtr x30 (ii 512)) fun v => kk v h31) h31 fun x32 h33 => vK (v_pick x25 (.bool true) x32) fun x34 => bK x34 (some ((ii 2), h33)) (some ((ii 0), h33)))
theorem I29_0 : iB1 E D29 (J29_0 E) := Is.rf
def S29 : Fun := fA1 (J29_0 E)
theorem S29_eq : SQ D29 S29 := eB1 I29_0
def D30 := cm 30
def J30_0 (E : Env) (r0 : DV) (h : H) : Ans := vK (v_mx r0 (ii 0)) fun x1 => vK (v_mn x1 (ii 65536)) fun x2 => vK (v_bld [(ii 0), .nils, (ii 0)] [(0, 1, x2)]) fun x3 => n_box x3 h fun x4 h5 => some (x4, h5)
theorem I30_0 : iB1 E D30 (J30_0 E) := Is.rf
def S30 : Fun := fA1 (J30_0 E)
theorem S30_eq : SQ D30 S30 := eB1 I30_0
def D31 := cm 31
def C31_1 := cr (cr D31.body)
def J31_1 (r0 r3 : DV) (h : H) : Ans := wK (callK E 58 [r0, (.fn (.func 59) [] [r3])] h) fun x1 h2 => some ((.tup []), h2)
def J31_0 (r0 r1 : DV) (h : H) : Ans := n_box r1 h fun x1 h2 => vK (v_eqv .ptr true h2.get r0 .nilp) fun x3 => gdK x3 true (fun kk => kk r0 h2) h2 fun x4 h5 => gdK x3 true (fun kk => vK (v_nilchk x4) fun v => kk v h5) h5 fun x6 h7 => gdK x3 true (fun kk => vK (v_fa 2 x6) fun v => kk v h7) h7 fun x8 h9 => gdK x3 true (fun kk => vK (v_ld h9.get x8) fun v => kk v h9) h9 fun x10 h11 => gdK x3 true (fun kk => vK (v_eql x10 (ii 0)) fun v => kk v h11) h11 fun x12 h13 => vK (v_pick x3 x12 (.bool false)) fun x14 => gdK x14 true (fun kk => vK (v_ld h13.get x1) fun v => kk v h13) h13 fun x15 h16 => gdK x14 true (fun kk => vK (v_lss x15 (ii 0)) fun v => kk v h16) h16 fun x17 h18 => gdK x14 true (fun kk => kk x17 h18) h18 fun x19 h20 => gdK x19 false (fun kk => vK (v_ld h20.get x1) fun v => kk v h20) h20 fun x21 h22 => gdK x19 false (fun kk => vK (v_gtr x21 (ii 255)) fun v => kk v h22) h22 fun x23 h24 => gdK x14 true (fun kk => vK (v_pick x19 (.bool true) x23) fun v => kk v h24) h24 fun x25 h26 => vK (v_pick x14 x25 (.bool false)) fun x27 => bK x27 (vK (v_nilchk r0) fun x28 => vK (v_fa 2 x28) fun x29 => wK (dStF 1 x29 (ii 1) h26) fun x30 h31 => J31_1 E r0 x1 h31) (J31_1 E r0 x1 h26)
theorem I31_1 : Is E C31_1 (retK3 D31.res) (fun σ h => J31_1 E (σ p0) (σ p3) h) := Is.rf
theorem I31_0 : iB2 E D31 (J31_0 E) := Is.aq (Is.sq (Is.sq (I31_1 E) (Is.leaf _)) (Is.leaf _))
def S31 : Fun := fA2 (J31_0 E)
theorem S31_eq : SQ D31 S31 := eB2 I31_0
def D32 := cm 32
def J32_0 (r0 r1 : DV) (h : H) : Ans := n_box r1 h fun x1 h2 => wK (callK E 58 [r0, (.fn (.func 60) [] [x1])] h2) fun x3 h4 => some ((.tup []), h4)
theorem I32_0 : iB2 E D32 (J32_0 E) := Is.rf
def S32 : Fun := fA2 (J32_0 E)
theorem S32_eq : SQ D32 S32 := eB2 I32_0
def D33 := cm 33
def J33_0 (r0 r1 : DV) (h : H) : Ans := n_box r1 h fun x1 h2 => wK (callK E 58 [r0, (.fn (.func 62) [] [x1])] h2) fun x3 h4 => some ((.tup []), h4)
theorem I33_0 : iB2 E D33 (J33_0 E) := Is.rf
def S33 : Fun := fA2 (J33_0 E)
theorem S33_eq : SQ D33 S33 := eB2 I33_0
def D34 := cm 34
def J34_0 (E : Env) (r0 : DV) (h : H) : Ans := vK (v_eqv .ptr false h.get r0 .nilp) fun x1 => bK x1 (some ((.tup [(.str []), (ii 1)]), h)) (vK (v_nilchk r0) fun x2 => vK (v_fa 2 x2) fun x3 => vK (v_ld h.get x3) fun x4 => vK (v_neq x4 (ii 0)) fun x5 => bK x5 (vK (v_nilchk r0) fun x6 => vK (v_fa 2 x6) fun x7 => vK (v_ld h.get x7) fun x8 => some ((.tup [(.str []), x8]), h)) (vK (v_nilchk r0) fun x9 => vK (v_fa 1 x9) fun x10 => vK (v_ld h.get x10) fun x11 => vK (v_b2s h.get x11) fun x12 => some ((.tup [x12, (ii 0)]), h)))
theorem I34_0 : iB1 E D34 (J34_0 E) := Is.rf
def S34 : Fun := fA1 (J34_0 E)
theorem S34_eq : SQ D34 S34 := eB1 I34_0
def D35 := cm 35
def J35_0 (E : Env) (r0 r1 : DV) (h : H) : Ans := n_box r0 h fun x1 h2 => n_box r1 h2 fun x3 h4 => vK (v_fa 0 x3) fun x5 => vK (v_ld h4.get x5) fun x6 => vK (v_eql x6 (ii 1)) fun x7 => bK x7 (vK (v_ld h4.get x1) fun x8 => vK (v_fa 3 x3) fun x9 => vK (v_ld h4.get x9) fun x10 => vK (v_bld [.nilf, (.str [])] [(0, 1, (.fn (.func 64) [x8] [])), (1, 1, x10)]) fun x11 => some ((.ifc 75 x11), h4)) (vK (v_eql x6 (ii 2)) fun x12 => bK x12 (vK (v_ld h4.get x1) fun x13 => vK (v_fa 3 x3) fun x14 => vK (v_ld h4.get x14) fun x15 => vK (v_bld [.nilf, (.str [])] [(0, 1, (.fn (.func 65) [x13] [])), (1, 1, x15)]) fun x16 => some ((.ifc 75 x16), h4)) (vK (v_eql x6 (ii 3)) fun x17 => bK x17 (vK (v_ld h4.get x1) fun x18 => vK (v_fa 3 x3) fun x19 => vK (v_ld h4.get x19) fun x20 => vK (v_bld [.nilf, (.str [])] [(0, 1, (.fn (.func 66) [x18] [])), (1, 1, x20)]) fun x21 => some ((.ifc 75 x21), h4)) (vK (v_eql x6 (ii 4)) fun x22 => bK x22 (vK (v_ld h4.get x1) fun x23 => vK (v_fa 3 x3) fun x24 => vK (v_ld h4.get x24) fun x25 => vK (v_bld [.nilf, (.str [])] [(0, 1, (.fn (.func 67) [x23] [])), (1, 1, x25)]) fun x26 => some ((.ifc 75 x26), h4)) (vK (v_eql x6 (ii 5)) fun x27 => bK x27 (vK (v_ld h4.get x1) fun x28 => vK (v_fa 3 x3) fun x29 => vK (v_ld h4.get x29) fun x30 => vK (v_fa 4 x3) fun x31 => vK (v_ld h4.get x31) fun x32 => vK (v_bld [.nilf, (.str []), (.str [])] [(0, 1, (.fn (.func 68) [x28] [])), (1, 1, x30), (2, 1, x32)]) fun x33 => some ((.ifc 78 x33), h4)) (vK (v_eql x6 (ii 6)) fun x34 => bK x34 (vK (v_ld h4.get x1) fun x35 => vK (v_fa 3 x3) fun x36 => vK (v_ld h4.get x36) fun x37 => vK (v_fa 4 x3) fun x38 => vK (v_ld h4.get x38) fun x39 => vK (v_bld [.nilf, (.str []), (.str [])] [(0, 1, (.fn (.func 69) [x35] [])), (1, 1, x37), (2, 1, x39)]) fun x40 => some ((.ifc 78 x40), h4)) (vK (v_eql x6 (ii 7)) fun x41 => bK x41 (vK (v_bld [.nilf] [(0, 1, (.fn (.func 70) [] [x1, x3]))]) fun x42 => some ((.ifc 80 x42), h4)) (vK (v_eql x6 (ii 8)) fun x43 => bK x43 (vK (v_bld [.nilf] [(0, 1, (.fn (.func 72) [] [x1, x3]))]) fun x44 => some ((.ifc 80 x44), h4)) (vK (v_eql x6 (ii 9)) fun x45 => bK x45 (vK (v_bld [.nilf] [(0, 1, (.fn (.func 74) [] [x1, x3]))]) fun x46 => some ((.ifc 83 x46), h4)) (vK (v_eql x6 (ii 10)) fun x47 => bK x47 (vK (v_bld [.nilf] [(0, 1, (.fn (.func 76) [] [x1, x3]))]) fun x48 => some ((.ifc 83 x48), h4)) (vK (v_bld [.nilf] [(0, 1, (.fn (.func 78) [] [x1, x3]))]) fun x49 => some ((.ifc 83 x49), h4)))))))))))
theorem I35_0 : iB2 E D35 (J35_0 E) := Is.rf
def S35 : Fun := fA2 (J35_0 E)
theorem S35_eq : SQ D35 S35 := eB2 I35_0
def D36 := cm 36
def C36_1 := cr (cr (cr (cr (cr (cr (cr D36.body))))))
def C36_2 := cl (cr (cl (cr (cr (cr (cr (cr (cr D36.body))))))))
def C36_3 := cr (cr (cr (cl C36_2)))
def C36_4 := cr (cr (cr (cr (cl (cl (cr (cr (cl C36_2))))))))
def J36_1 (r0 r1 r3 r12 r13 : DV) (h : H) : Ans := vK (v_eql r13 r3) fun x1 => bK x1 (some ((.tup [(ii 0), (ii 16)]), h)) (n_bsl 1 1 [(ii 0)] [(0, 1, r12)] h fun x2 h3 => wK (callK E 80 [r0, r1, (ii 2), x2] h3) fun x4 h5 => vK (v_ext 0 x4) fun x6 => vK (v_ext 1 x4) fun x7 => vK (v_neq x6 (ii 0)) fun x8 => bK x8 (some ((.tup [(ii 0), x6]), h5)) (some ((.tup [r12, (ii 0)]), h5)))
def J36_3 (E : Env) (i2 : DV → DV → DV → H → Ans) (r13 r14 r71 : DV) (h : H) : Ans := vK (v_add r71 (ii 1)) fun x1 => i2 r13 r14 x1 h
def J36_4 (i2 : DV → DV → DV → H → Ans) (r0 r1 r12 r13 r14 r71 : DV) (h : H) : Ans := vK (v_gtr r14 (ii 1)) fun x1 => bK x1 (n_bsl 1 1 [(ii 0)] [(0, 1, r12)] h fun x2 h3 => wK (callK E 80 [r0, r1, (ii 3), x2] h3) fun x4 h5 => wK (callK E 83 [r0, r12] h5) fun x6 h7 => some ((.tup [(ii 0), (ii 9)]), h7)) (J36_3 E i2 r13 r14 r71 h)
def B36_2 (r0 r1 r3 r12 r69 r70 : DV) (i2 : DV → DV → DV → H → Ans) (r13 r14 r71 : DV) (h : H) : Ans := vK (v_lss r71 r70) fun x1 => bK x1 (vK (v_iaS 1 r69 r71) fun x2 => vK (v_ld h.get x2) fun x3 => vK (v_eql r13 r3) fun x4 => bK x4 (some ((.tup [(ii 0), (ii 16)]), h)) (vK (v_add r13 (ii 1)) fun x5 => wK (callK E 82 [r0, r12, r71, x3] h) fun x6 h7 => vK (v_neq x6 (ii 0)) fun x8 => bK x8 (vK (v_add r14 (ii 1)) fun x9 => J36_4 E i2 r0 r1 r12 x5 x9 r71 h7) (J36_4 E i2 r0 r1 r12 x5 r14 r71 h7))) (J36_1 E r0 r1 r3 r12 r13 h)
def L36_2 (r0 r1 r3 r12 r69 r70 : DV) (n : Nat) : DV → DV → DV → H → Ans := Nat.rec (motive := fun _ => DV → DV → DV → H → Ans) (fun _ _ _ _ => none) (fun _ i => B36_2 E r0 r1 r3 r12 r69 r70 i) n
def J36_0 (r0 r1 r2 r3 : DV) (h : H) : Ans := vK (v_eqv .ptr false h.get r0 .nilp) fun x1 => gdK x1 false (fun kk => kk r1 h) h fun x2 h3 => gdK x1 false (fun kk => vK (v_lss x2 (ii 0)) fun v => kk v h3) h3 fun x4 h5 => vK (v_pick x1 (.bool true) x4) fun x6 => gdK x6 false (fun kk => kk r1 h5) h5 fun x7 h8 => gdK x6 false (fun kk => vK (v_geq x7 (ii 16)) fun v => kk v h8) h8 fun x9 h10 => vK (v_pick x6 (.bool true) x9) fun x11 => bK x11 (some ((.tup [(ii 0), (ii 1)]), h10)) (vK (v_eql r2 (.str [])) fun x12 => gdK x12 false (fun kk => kk r2 h10) h10 fun x13 h14 => gdK x12 false (fun kk => vK (v_lenS x13) fun v => kk v h14) h14 fun x15 h16 => gdK x12 false (fun kk => kk r0 h16) h16 fun x17 h18 => gdK x12 false (fun kk => wK (callK E 19 [x17] h18) kk) h18 fun x19 h20 => gdK x12 false (fun kk => vK (v_gtr x15 x19) fun v => kk v h20) h20 fun x21 h22 => vK (v_pick x12 (.bool true) x21) fun x23 => bK x23 (some ((.tup [(ii 0), (ii 2)]), h22)) (vK (v_eql r3 (ii 0)) fun x24 => bK x24 (some ((.tup [(ii 0), (ii 16)]), h22)) (vK (v_lenS r2) fun x25 => n_bsl 1 1 [(ii 0)] [(0, 1, x25)] h22 fun x26 h27 => wK (callK E 80 [r0, r1, (ii 1), x26] h27) fun x28 h29 => vK (v_ext 0 x28) fun x30 => vK (v_ext 1 x28) fun x31 => vK (v_neq x30 (ii 0)) fun x32 => bK x32 (some ((.tup [(ii 0), x30]), h29)) (vK (v_iaS 1 x31 (ii 0)) fun x33 => vK (v_ld h29.get x33) fun x34 => vK (v_nilchk r0) fun x35 => vK (v_fa 2 x35) fun x36 => vK (v_ld h29.get x36) fun x37 => wK (callK E 81 [r2, x37] h29) fun x38 h39 => vK (v_ext 0 x38) fun x40 => vK (v_ext 1 x38) fun x41 => vK (v_lenL x40) fun x42 => L36_2 E r0 r1 r3 x34 x40 x42 FUEL (ii 1) (ii 0) (ii 0) h39))))
theorem I36_1 : Is E C36_1 (retK3 D36.res) (fun σ h => J36_1 E (σ p0) (σ p1) (σ p3) (σ p12) (σ p13) h) := Is.rf
abbrev K36_5 : KT2 (DV × H) := (thenK3 (fun σ h => J36_1 E (σ p0) (σ p1) (σ p3) (σ p12) (σ p13) h) (retK3 D36.res))
abbrev K36_6 (n2 : Nat) : KT2 (DV × H) := (thenK3 (fun σ h => (L36_2 E (σ p0) (σ p1) (σ p3) (σ p12) (σ p69) (σ p70) n2) (σ p13) (σ p14) (σ p71) h) (blockK3 1 (K36_5 E)))
theorem I36_3 (n2 : Nat) : Is E C36_3 (K36_6 E n2) (fun σ h => J36_3 E (L36_2 E (σ p0) (σ p1) (σ p3) (σ p12) (σ p69) (σ p70) n2) (σ p13) (σ p14) (σ p71) h) := Is.rf
abbrev K36_7 (n2 : Nat) : KT2 (DV × H) := (thenK3 (fun σ h => J36_3 E (L36_2 E (σ p0) (σ p1) (σ p3) (σ p12) (σ p69) (σ p70) n2) (σ p13) (σ p14) (σ p71) h) (K36_6 E n2))
theorem I36_4 (n2 : Nat) : Is E C36_4 (blockK3 2 (K36_7 E n2)) (fun σ h => J36_4 E (L36_2 E (σ p0) (σ p1) (σ p3) (σ p12) (σ p69) (σ p70) n2) (σ p0) (σ p1) (σ p12) (σ p13) (σ p14) (σ p71) h) := Is.rf
theorem I36_2 : Is E C36_2 (blockK3 1 (K36_5 E)) (fun σ h => L36_2 E (σ p0) (σ p1) (σ p3) (σ p12) (σ p69) (σ p70) FUEL (σ p13) (σ p14) (σ p71) h) := Is.lp (fun n2 σ h => L36_2 E (σ p0) (σ p1) (σ p3) (σ p12) (σ p69) (σ p70) n2 (σ p13) (σ p14) (σ p71) h) fun n2 => Is.aq (Is.sq (Is.sq (Is.sq (I36_3 E n2) (Is.bk (Is.sq (Is.sq (Is.sq (Is.sq (I36_4 E n2) (Is.leaf _)) (Is.leaf _)) (Is.leaf _)) (Is.leaf _)))) (Is.leaf _)) (Is.leaf _))
theorem I36_0 : iB4 E D36 (J36_0 E) := Is.aq (Is.sq (Is.sq (Is.sq (Is.sq (Is.sq (Is.sq (Is.sq (I36_1 E) (Is.sq (Is.bk (I36_2 E)) (Is.leaf _))) (Is.leaf _)) (Is.leaf _)) (Is.leaf _)) (Is.leaf _)) (Is.leaf _)) (Is.leaf _))
def S36 : Fun := fA4 (J36_0 E)
theorem S36_eq : SQ D36 S36 := eB4 I36_0
def D37 := cm 37
def J37_0 (E : Env) (r0 : DV) (h : H) : Ans := vK (v_geq r0 (ii 0)) fun x1 => gdK x1 true (fun kk => kk r0 h) h fun x2 h3 => gdK x1 true (fun kk => vK (v_lss x2 (ii 2147483648)) fun v => kk v h3) h3 fun x4 h5 => vK (v_pick x1 x4 (.bool false)) fun x6 => some (x6, h5)
theorem I37_0 : iB1 E D37 (J37_0 E) := Is.rf
def S37 : Fun := fA1 (J37_0 E)
theorem S37_eq : SQ D37 S37 := eB1 I37_0
def D38 := cm 38
def J38_0 (r0 r1 : DV) (h : H) : Ans := wK (callK E 84 [r1] h) fun x1 h2 => wK (callK E 39 [x1, (ii 1), (ii 0), r0, (.str [])] h2) fun x3 h4 => vK (v_ext 0 x3) fun x5 => vK (v_ext 1 x3) fun x6 => n_alc 5 5 (.list [(ii 0), (ii 0), (ii 0), (ii 0), (ii 0)]) h4 fun x7 h8 => wK (dStF 5 x7 x5 h8) fun x9 h10 => vK (v_eql x6 (ii 0)) fun x11 => some ((.tup [x1, x11]), h10)
theorem I38_0 : iB2 E D38 (J38_0 E) := Is.rf
def S38 : Fun := fA2 (J38_0 E)
theorem S38_eq : SQ D38 S38 := eB2 I38_0
def D39 := cm 39
def J39_0 (r0 r1 r2 r3 r4 : DV) (h : H) : Ans := n_alc 5 5 (.list [(ii 0), (ii 0), (ii 0), (ii 0), (ii 0)]) h fun x1 h2 => wK (callK E 85 [r0] h2) fun x3 h4 => vK (v_lenS r4) fun x5 => vK (v_bld [(ii 0), (ii 0), (ii 0), (ii 0), (ii 0)] [(0, 1, r1), (1, 1, r2), (2, 1, r3), (3, 1, x3), (4, 1, x5)]) fun x6 => n_alc 5 5 (.list [(ii 0), (ii 0), (ii 0), (ii 0), (ii 0)]) h4 fun x7 h8 => wK (dStF 5 x7 x6 h8) fun x9 h10 => vK (v_eqv .ptr false h10.get r0 .nilp) fun x11 => gdK x11 false (fun kk => vK (v_ldN 5 h10.get x7) fun v => kk v h10) h10 fun x12 h13 => gdK x11 false (fun kk => wK (callK E 86 [x12] h13) kk) h13 fun x14 h15 => gdK x11 false (fun kk => vK (v_not x14) fun v => kk v h15) h15 fun x16 h17 => vK (v_pick x11 (.bool true) x16) fun x18 => bK x18 (vK (v_bld [(ii 0), (ii 0), (ii 0), (ii 0), (ii 0)] []) fun x19 => wK (dStF 5 x1 x19 h17) fun x20 h21 => vK (v_ldN 5 h21.get x1) fun x22 => some ((.tup [x22, (ii 1)]), h21)) (vK (v_lenS r4) fun x23 => wK (callK E 87 [r0] h17) fun x24 h25 => vK (v_gtr x23 x24) fun x26 => bK x26 (vK (v_bld [(ii 0), (ii 0), (ii 0), (ii 0), (ii 0)] []) fun x27 => wK (dStF 5 x1 x27 h25) fun x28 h29 => vK (v_ldN 5 h29.get x1) fun x30 => some ((.tup [x30, (ii 5)]), h29)) (vK (v_nilchk r0) fun x31 => vK (v_fa 1 x31) fun x32 => vK (v_ld h25.get x32) fun x33 => wK (dAppendF 1 1 x33 r4 h25) fun x34 h35 => vK (v_nilchk r0) fun x36 => vK (v_fa 1 x36) fun x37 => wK (dStF 1 x37 x34 h35) fun x38 h39 => vK (v_nilchk r0) fun x40 => vK (v_fa 2 x40) fun x41 => vK (v_ld h39.get x41) fun x42 => vK (v_ldN 5 h39.get x7) fun x43 => n_bsl 1 5 [(ii 0), (ii 0), (ii 0), (ii 0), (ii 0)] [(0, 5, x43)] h39 fun x44 h45 => wK (dAppendF 5 40 x42 x44 h45) fun x46 h47 => vK (v_nilchk r0) fun x48 => vK (v_fa 2 x48) fun x49 => wK (dStF 1 x49 x46 h47) fun x50 h51 => vK (v_ldN 5 h51.get x7) fun x52 => wK (dStF 5 x1 x52 h51) fun x53 h54 => vK (v_ldN 5 h54.get x1) fun x55 => some ((.tup [x55, (ii 0)]), h54)))
theorem I39_0 : iB5 E D39 (J39_0 E) := Is.rf
def S39 : Fun := fA5 (J39_0 E)
theorem S39_eq : SQ D39 S39 := eB5 I39_0
def D40 := cm 40
def C40_1 := cr (cr (cr (cr (cr D40.body))))
def C40_2 := cl (cr (cl (cr (cr (cr (cr D40.body))))))
def J40_1 (r0 r3 : DV) (h : H) : Ans := wK (callK E 34 [r3] h) fun x1 h2 => vK (v_ext 0 x1) fun x3 => vK (v_ext 1 x1) fun x4 => vK (v_lenS x3) fun x5 => vK (v_nilchk r0) fun x6 => vK (v_fa 1 x6) fun x7 => vK (v_ld h2.get x7) fun x8 => vK (v_b2s h2.get x8) fun x9 => vK (v_add x9 x3) fun x10 => vK (v_conv .u8 x5) fun x11 => vK (v_shr x5 (.int .u64 (.ofNat 8))) fun x12 => vK (v_conv .u8 x12) fun x13 => vK (v_shr x5 (.int .u64 (.ofNat 16))) fun x14 => vK (v_conv .u8 x14) fun x15 => vK (v_shr x5 (.int .u64 (.ofNat 24))) fun x16 => vK (v_conv .u8 x16) fun x17 => n_bsl 4 1 [(.int .u8 (.ofNat 0))] [(0, 1, x11), (1, 1, x13), (2, 1, x15), (3, 1, x17)] h2 fun x18 h19 => vK (v_b2s h19.get x18) fun x20 => vK (v_add x10 x20) fun x21 => wK (callK E 88 [x21] h19) fun x22 h23 => some (x22, h23)
def B40_2 (r0 r3 r22 r23 : DV) (i2 : DV → H → Ans) (r24 : DV) (h : H) : Ans := vK (v_lss r24 r23) fun x1 => bK x1 (vK (v_iaS 5 r22 r24) fun x2 => vK (v_ldN 5 h.get x2) fun x3 => n_alc 5 5 (.list [(ii 0), (ii 0), (ii 0), (ii 0), (ii 0)]) h fun x4 h5 => wK (dStF 5 x4 x3 h5) fun x6 h7 => vK (v_fa 0 x4) fun x8 => vK (v_ld h7.get x8) fun x9 => wK (callK E 31 [r3, x9] h7) fun x10 h11 => vK (v_fa 1 x4) fun x12 => vK (v_ld h11.get x12) fun x13 => wK (callK E 32 [r3, x13] h11) fun x14 h15 => vK (v_fa 2 x4) fun x16 => vK (v_ld h15.get x16) fun x17 => wK (callK E 32 [r3, x17] h15) fun x18 h19 => vK (v_fa 4 x4) fun x20 => vK (v_ld h19.get x20) fun x21 => wK (callK E 32 [r3, x21] h19) fun x22 h23 => vK (v_add r24 (ii 1)) fun x24 => i2 x24 h23) (J40_1 E r0 r3 h)
def L40_2 (r0 r3 r22 r23 : DV) (n : Nat) : DV → H → Ans := Nat.rec (motive := fun _ => DV → H → Ans) (fun _ _ => none) (fun _ i => B40_2 E r0 r3 r22 r23 i) n
def J40_0 (r0 : DV) (h : H) : Ans := vK (v_eqv .ptr false h.get r0 .nilp) fun x1 => bK x1 (some ((.str []), h)) (wK (callK E 30 [(ii 65536)] h) fun x2 h3 => vK (v_nilchk r0) fun x4 => vK (v_fa 2 x4) fun x5 => vK (v_ld h3.get x5) fun x6 => vK (v_lenL x6) fun x7 => wK (callK E 32 [x2, x7] h3) fun x8 h9 => vK (v_nilchk r0) fun x10 => vK (v_fa 2 x10) fun x11 => vK (v_ld h9.get x11) fun x12 => vK (v_lenL x12) fun x13 => L40_2 E r0 x2 x12 x13 FUEL (ii 0) h9)
theorem I40_1 : Is E C40_1 (retK3 D40.res) (fun σ h => J40_1 E (σ p0) (σ p3) h) := Is.rf
abbrev K40_3 : KT2 (DV × H) := (thenK3 (fun σ h => J40_1 E (σ p0) (σ p3) h) (retK3 D40.res))
theorem I40_2 : Is E C40_2 (blockK3 0 (K40_3 E)) (fun σ h => L40_2 E (σ p0) (σ p3) (σ p22) (σ p23) FUEL (σ p24) h) := Is.lp (fun n2 σ h => L40_2 E (σ p0) (σ p3) (σ p22) (σ p23) n2 (σ p24) h) fun n2 => Is.aq (Is.leaf _)
theorem I40_0 : iB1 E D40 (J40_0 E) := Is.aq (Is.sq (Is.sq (Is.sq (Is.sq (Is.sq (I40_1 E) (Is.sq (Is.bk (I40_2 E)) (Is.leaf _))) (Is.leaf _)) (Is.leaf _)) (Is.leaf _)) (Is.leaf _))
def S40 : Fun := fA1 (J40_0 E)
theorem S40_eq : SQ D40 S40 := eB1 I40_0
def D41 := cm 41
def J41_0 (r0 r1 : DV) (h : H) : Ans := wK (callK E 30 [(ii 65536)] h) fun x1 h2 => wK (c_val E r0 [x1] h2) fun x3 h4 => wK (callK E 34 [x1] h4) fun x5 h6 => vK (v_ext 0 x5) fun x7 => vK (v_ext 1 x5) fun x8 => vK (v_ld h6.get r1) fun x9 => wK (dAppendF 1 1 x9 x7 h6) fun x10 h11 => wK (dStF 1 r1 x10 h11) fun x12 h13 => some ((.tup []), h13)
theorem I41_0 : iB2 E D41 (J41_0 E) := Is.rf
def S41 : Fun := fA2 (J41_0 E)
theorem S41_eq : SQ D41 S41 := eB2 I41_0
def D42 := cm 42
def J42_0 (r0 r1 r2 : DV) (h : H) : Ans := vK (v_ld h.get r1) fun x1 => vK (v_nilchk x1) fun x2 => vK (v_fa 512 x2) fun x3 => vK (v_ld h.get x3) fun x4 => wK (callK E 32 [r0, x4] h) fun x5 h6 => vK (v_ld h6.get r2) fun x7 => wK (callK E 32 [r0, x7] h6) fun x8 h9 => some ((.tup []), h9)
theorem I42_0 : iB3 E D42 (J42_0 E) := Is.rf
def S42 : Fun := fA3 (J42_0 E)
theorem S42_eq : SQ D42 S42 := eB3 I42_0
def D43 := cm 43
def J43_0 (r0 r1 r2 : DV) (h : H) : Ans := vK (v_ld h.get r1) fun x1 => wK (callK E 32 [r0, x1] h) fun x2 h3 => vK (v_fa 0 r2) fun x4 => vK (v_ld h3.get x4) fun x5 => wK (callK E 32 [r0, x5] h3) fun x6 h7 => vK (v_fa 1 r2) fun x8 => vK (v_ld h7.get x8) fun x9 => wK (c_mth E [(192, 366), (193, 370)] x9 [] h7) fun x10 h11 => wK (callK E 31 [r0, x10] h11) fun x12 h13 => vK (v_fa 1 r2) fun x14 => vK (v_ld h13.get x14) fun x15 => wK (c_mth E [(192, 368), (193, 372)] x15 [] h13) fun x16 h17 => wK (callK E 33 [r0, x16] h17) fun x18 h19 => some ((.tup []), h19)
theorem I43_0 : iB3 E D43 (J43_0 E) := Is.rf
def S43 : Fun := fA3 (J43_0 E)
theorem S43_eq : SQ D43 S43 := eB3 I43_0
def D44 := cm 44
def C44_1 := cr (cr (cr D44.body))
def J44_1 (E : Env) (r5 : DV) (h : H) : Ans := some (r5, h)
def J44_0 (r0 r1 : DV) (h : H) : Ans := n_bsl 1 1 [(ii 0)] [(0, 1, r1)] h fun x1 h2 => wK (callK E 80 [r0, (ii 0), (ii 3), x1] h2) fun x3 h4 => vK (v_ext 0 x3) fun x5 => vK (v_ext 1 x3) fun x6 => vK (v_eql x5 (ii 0)) fun x7 => bK x7 (wK (callK E 83 [r0, r1] h4) fun x8 h9 => J44_1 E x5 h9) (J44_1 E x5 h4)
theorem I44_1 : Is E C44_1 (retK3 D44.res) (fun σ h => J44_1 E (σ p5) h) := Is.rf
theorem I44_0 : iB2 E D44 (J44_0 E) := Is.aq (Is.sq (Is.sq (Is.sq (I44_1 E) (Is.leaf _)) (Is.leaf _)) (Is.leaf _))
def S44 : Fun := fA2 (J44_0 E)
theorem S44_eq : SQ D44 S44 := eB2 I44_0
def D45 := cm 45
def J45_0 (E : Env) (r0 : DV) (h : H) : Ans := vK (v_eqv .ptr false h.get r0 .nilp) fun x1 => bK x1 (some (.nilp, h)) (vK (v_nilchk r0) fun x2 => vK (v_fa 1 x2) fun x3 => vK (v_ld h.get x3) fun x4 => some (x4, h))
theorem I45_0 : iB1 E D45 (J45_0 E) := Is.rf
def S45 : Fun := fA1 (J45_0 E)
theorem S45_eq : SQ D45 S45 := eB1 I45_0
def D46 := cm 46
def J46_0 (r0 r1 : DV) (h : H) : Ans := vK (v_eqv .ptr false h.get r0 .nilp) fun x1 => bK x1 (some (.nils, h)) (vK (v_nilchk r0) fun x2 => vK (v_fa 1 x2) fun x3 => vK (v_ld h.get x3) fun x4 => wK (callK E 89 [x4, r1] h) fun x5 h6 => some (x5, h6))
theorem I46_0 : iB2 E D46 (J46_0 E) := Is.rf
def S46 : Fun := fA2 (J46_0 E)
theorem S46_eq : SQ D46 S46 := eB2 I46_0
def D47 := cm 47
def J47_0 (r0 r1 : DV) (h : H) : Ans := wK (callK E 90 [r0, r1] h) fun x1 h2 => vK (v_ext 0 x1) fun x3 => vK (v_ext 1 x1) fun x4 => vK (v_neq x4 (ii 0)) fun x5 => bK x5 (some ((.tup [(.str []), x4]), h2)) (wK (callK E 91 [x3] h2) fun x6 h7 => vK (v_ext 0 x6) fun x8 => vK (v_ext 1 x6) fun x9 => some ((.tup [x8, x9]), h7))
theorem I47_0 : iB2 E D47 (J47_0 E) := Is.rf
def S47 : Fun := fA2 (J47_0 E)
theorem S47_eq : SQ D47 S47 := eB2 I47_0
def D48 := cm 48
def C48_1 := cr (cr (cr (cr (cr D48.body))))
def C48_3 := cr (cr C48_1)
def C48_2 := cl (cr (cl (cr (cr (cr (cr D48.body))))))
def J48_3 (r0 r9 r14 r15 r16 : DV) (h : H) : Ans := wK (callK E 94 [r14, r15, r16, r9] h) fun x1 h2 => vK (v_neq x1 r0) fun x3 => bK x3 (some ((.tup [(ii 0), (ii 0), (ii 0), .nils, (ii 3)]), h2)) (some ((.tup [r14, r15, r16, r9, (ii 0)]), h2))
def J48_1 (r0 r7 r9 : DV) (h : H) : Ans := vK (v_iaS 5 r7 (ii 0)) fun x1 => vK (v_fa 2 x1) fun x2 => vK (v_ld h.get x2) fun x3 => vK (v_iaS 5 r7 (ii 1)) fun x4 => vK (v_fa 0 x4) fun x5 => vK (v_ld h.get x5) fun x6 => vK (v_eql x6 (ii 2)) fun x7 => bK x7 (vK (v_iaS 5 r7 (ii 1)) fun x8 => vK (v_fa 2 x8) fun x9 => vK (v_ld h.get x9) fun x10 => vK (v_iaS 5 r7 (ii 1)) fun x11 => vK (v_fa 1 x11) fun x12 => vK (v_ld h.get x12) fun x13 => J48_3 E r0 r9 x3 x10 x13 h) (J48_3 E r0 r9 x3 (.int .i64 (.negSucc 0)) (ii 0) h)
def B48_2 (r0 r7 r30 r31 : DV) (i2 : DV → DV → H → Ans) (r9 r32 : DV) (h : H) : Ans := vK (v_lss r32 r31) fun x1 => bK x1 (vK (v_iaS 5 r30 r32) fun x2 => vK (v_ldN 5 h.get x2) fun x3 => n_alc 5 5 (.list [(ii 0), (ii 0), (ii 0), (ii 0), (ii 0)]) h fun x4 h5 => wK (dStF 5 x4 x3 h5) fun x6 h7 => vK (v_ldN 5 h7.get x4) fun x8 => wK (callK E 93 [r0, x8] h7) fun x9 h10 => vK (v_ext 0 x9) fun x11 => vK (v_ext 1 x9) fun x12 => n_bsl 1 1 [(.str [])] [(0, 1, x11)] h10 fun x13 h14 => wK (dAppendF 1 16 r9 x13 h14) fun x15 h16 => vK (v_add r32 (ii 1)) fun x17 => i2 x15 x17 h16) (J48_1 E r0 r7 r9 h)
def L48_2 (r0 r7 r30 r31 : DV) (n : Nat) : DV → DV → H → Ans := Nat.rec (motive := fun _ => DV → DV → H → Ans) (fun _ _ _ => none) (fun _ i => B48_2 E r0 r7 r30 r31 i) n
def J48_0 (r0 : DV) (h : H) : Ans := wK (callK E 92 [r0] h) fun x1 h2 => vK (v_ext 0 x1) fun x3 => vK (v_ext 1 x1) fun x4 => vK (v_neq x4 (ii 0)) fun x5 => gdK x5 false (fun kk => kk x3 h2) h2 fun x6 h7 => gdK x5 false (fun kk => vK (v_lenL x6) fun v => kk v h7) h7 fun x8 h9 => gdK x5 false (fun kk => vK (v_lss x8 (ii 2)) fun v => kk v h9) h9 fun x10 h11 => vK (v_pick x5 (.bool true) x10) fun x12 => bK x12 (some ((.tup [(ii 0), (ii 0), (ii 0), .nils, (ii 3)]), h11)) (vK (v_slL 5 x3 (some (ii 1)) none) fun x13 => vK (v_lenL x13) fun x14 => L48_2 E r0 x3 x13 x14 FUEL .nils (ii 0) h11)
theorem I48_3 : Is E C48_3 (retK3 D48.res) (fun σ h => J48_3 E (σ p0) (σ p9) (σ p14) (σ p15) (σ p16) h) := Is.rf
theorem I48_1 : Is E C48_1 (retK3 D48.res) (fun σ h => J48_1 E (σ p0) (σ p7) (σ p9) h) := Is.aq (Is.sq (Is.sq (I48_3 E) (Is.leaf _)) (Is.leaf _))
abbrev K48_4 : KT2 (DV × H) := (thenK3 (fun σ h => J48_1 E (σ p0) (σ p7) (σ p9) h) (retK3 D48.res))
theorem I48_2 : Is E C48_2 (blockK3 0 (K48_4 E)) (fun σ h => L48_2 E (σ p0) (σ p7) (σ p30) (σ p31) FUEL (σ p9) (σ p32) h) := Is.lp (fun n2 σ h => L48_2 E (σ p0) (σ p7) (σ p30) (σ p31) n2 (σ p9) (σ p32) h) fun n2 => Is.aq (Is.leaf _)
theorem I48_0 : iB1 E D48 (J48_0 E) := Is.aq (Is.sq (Is.sq (Is.sq (Is.sq (Is.sq (I48_1 E) (Is.sq (Is.bk (I48_2 E)) (Is.leaf _))) (Is.leaf _)) (Is.leaf _)) (Is.leaf _)) (Is.leaf _))
def S48 : Fun := fA1 (J48_0 E)
theorem S48_eq : SQ D48 S48 := eB1 I48_0
def D49 := cm 49
def J49_0 (r0 r1 : DV) (h : H) : Ans := vK (v_lenL r0) fun x1 => vK (v_conv .u64 x1) fun x2 => wK (callK E 96 [x2] h) fun x3 h4 => wK (callK E 95 [r0, (ii 0), x1, x3, r1] h4) fun x5 h6 => some ((.tup []), h6)
theorem I49_0 : iB2 E D49 (J49_0 E) := Is.rf
def S49 : Fun := fA2 (J49_0 E)
theorem S49_eq : SQ D49 S49 := eB2 I49_0
def D50 := cmk 50
def J50_0 (r0 r1 : DV) (h : H) : Ans := n_box r0 h fun x1 h2 => n_box r1 h2 fun x3 h4 => vK (v_fa 1 x1) fun x5 => vK (v_ld h4.get x5) fun x6 => vK (v_fa 1 x3) fun x7 => vK (v_ld h4.get x7) fun x8 => wK (callK E 51 [x6, x8] h4) fun x9 h10 => kilK x1 h10 fun h11 => kilK x3 h11 fun h12 => some (x9, h12)
theorem I50_0 : iB2 E D50 (J50_0 E) := Is.aq (Is.fi (p := p3) (Is.fi (p := p2) (Is.leaf _)))
def S50 : Fun := fA2 (J50_0 E)
theorem S50_eq : SQ D50 S50 := eB2 I50_0
def D51 := cm 51
def J51_0 (r0 r1 : DV) (h : H) : Ans := wK (callK E 97 [r0] h) fun x1 h2 => wK (callK E 97 [r1] h2) fun x3 h4 => bK x1 (bK x3 (some ((ii 0), h4)) (some ((.int .i64 (.negSucc 0)), h4))) (bK x3 (some ((ii 1), h4)) (vK (v_lss r0 r1) fun x5 => bK x5 (some ((.int .i64 (.negSucc 0)), h4)) (vK (v_gtr r0 r1) fun x6 => bK x6 (some ((ii 1), h4)) (some ((ii 0), h4)))))
theorem I51_0 : iB2 E D51 (J51_0 E) := Is.rf
def S51 : Fun := fA2 (J51_0 E)
theorem S51_eq : SQ D51 S51 := eB2 I51_0
def D52 := cm 52
def C52_1 := cr (cr (cr D52.body))
def C52_2 := cl (cr (cl (cr (cr D52.body))))
def J52_1 (E : Env) (r5 : DV) (h : H) : Ans := some (r5, h)
def B52_2 (r1 r5 r13 : DV) (i2 : DV → H → Ans) (r14 : DV) (h : H) : Ans := vK (v_lss r14 r13) fun x1 => bK x1 (vK (v_mx r1 (ii 9)) fun x2 => wK (callK E 98 [x2] h) fun x3 h4 => wK (callK E 99 [x3] h4) fun x5 h6 => vK (v_ext 0 x5) fun x7 => vK (v_ext 1 x5) fun x8 => vK (v_nilchk r5) fun x9 => vK (v_fa 0 x9) fun x10 => vK (v_ld h6.get x10) fun x11 => vK (v_bld [.nilp, .nilp, (.bool false), (.bool false)] [(0, 1, x3), (1, 1, x7)]) fun x12 => n_box x12 h6 fun x13 h14 => n_bsl 1 1 [.nilp] [(0, 1, x13)] h14 fun x15 h16 => wK (dAppendF 1 8 x11 x15 h16) fun x17 h18 => vK (v_nilchk r5) fun x19 => vK (v_fa 0 x19) fun x20 => wK (dStF 1 x20 x17 h18) fun x21 h22 => vK (v_add r14 (ii 1)) fun x23 => i2 x23 h22) (J52_1 E r5 h)
def L52_2 (r1 r5 r13 : DV) (n : Nat) : DV → H → Ans := Nat.rec (motive := fun _ => DV → H → Ans) (fun _ _ => none) (fun _ i => B52_2 E r1 r5 r13 i) n
def J52_0 (r0 r1 : DV) (h : H) : Ans := vK (v_bld [.nils] []) fun x1 => n_box x1 h fun x2 h3 => vK (v_mx r0 (ii 1)) fun x4 => vK (v_mn x4 (ii 8)) fun x5 => L52_2 E r1 x2 x5 FUEL (ii 0) h3
theorem I52_1 : Is E C52_1 (retK3 D52.res) (fun σ h => J52_1 E (σ p5) h) := Is.rf
abbrev K52_3 : KT2 (DV × H) := (thenK3 (fun σ h => J52_1 E (σ p5) h) (retK3 D52.res))
theorem I52_2 : Is E C52_2 (blockK3 0 (K52_3 E)) (fun σ h => L52_2 E (σ p1) (σ p5) (σ p13) FUEL (σ p14) h) := Is.lp (fun n2 σ h => L52_2 E (σ p1) (σ p5) (σ p13) n2 (σ p14) h) fun n2 => Is.aq (Is.leaf _)
theorem I52_0 : iB2 E D52 (J52_0 E) := Is.aq (Is.sq (Is.sq (Is.sq (I52_1 E) (Is.sq (Is.bk (I52_2 E)) (Is.leaf _))) (Is.leaf _)) (Is.leaf _))
def S52 : Fun := fA2 (J52_0 E)
theorem S52_eq : SQ D52 S52 := eB2 I52_0
def D53 := cm 53
def J53_0 (r0 r1 : DV) (h : H) : Ans := wK (callK E 100 [r0, r1] h) fun x1 h2 => vK (v_eqv .ptr false h2.get x1 .nilp) fun x3 => bK x3 (some (.nilp, h2)) (wK (callK E 101 [] h2) fun x4 h5 => wK (callK E 102 [] h5) fun x6 h7 => wK (callK E 103 [] h7) fun x8 h9 => wK (callK E 104 [] h9) fun x10 h11 => wK (callK E 105 [(ii 4)] h11) fun x12 h13 => vK (v_bld [.nilp, .nilp, .nilp, .nilp, .nilp, .nilp, (ii 0)] [(0, 1, x1), (1, 1, x4), (2, 1, x6), (3, 1, x8), (4, 1, x10), (5, 1, x12)]) fun x14 => n_box x14 h13 fun x15 h16 => some (x15, h16))
theorem I53_0 : iB2 E D53 (J53_0 E) := Is.rf
def S53 : Fun := fA2 (J53_0 E)
theorem S53_eq : SQ D53 S53 := eB2 I53_0
def D54 := cm 54
def C54_1 := cr (cr (cr D54.body))
def C54_2 := cl (cr (cl (cr (cr D54.body))))
def J54_1 (E : Env) (r5 : DV) (h : H) : Ans := some (r5, h)
def B54_2 (r0 r5 r10 : DV) (i2 : DV → H → Ans) (r11 : DV) (h : H) : Ans := vK (v_lss r11 r10) fun x1 => bK x1 (vK (v_add r0 r11) fun x2 => vK (v_iaS 1 r5 r11) fun x3 => wK (dStF 1 x3 x2 h) fun x4 h5 => vK (v_add r11 (ii 1)) fun x6 => i2 x6 h5) (J54_1 E r5 h)
def L54_2 (r0 r5 r10 : DV) (n : Nat) : DV → H → Ans := Nat.rec (motive := fun _ => DV → H → Ans) (fun _ _ => none) (fun _ i => B54_2 E r0 r5 r10 i) n
def J54_0 (r0 r1 : DV) (h : H) : Ans := n_mks 1 8 (ii 0) r1 r1 h fun x1 h2 => vK (v_lenL x1) fun x3 => L54_2 E r0 x1 x3 FUEL (ii 0) h2
theorem I54_1 : Is E C54_1 (retK3 D54.res) (fun σ h => J54_1 E (σ p5) h) := Is.rf
abbrev K54_3 : KT2 (DV × H) := (thenK3 (fun σ h => J54_1 E (σ p5) h) (retK3 D54.res))
theorem I54_2 : Is E C54_2 (blockK3 0 (K54_3 E)) (fun σ h => L54_2 E (σ p0) (σ p5) (σ p10) FUEL (σ p11) h) := Is.lp (fun n2 σ h => L54_2 E (σ p0) (σ p5) (σ p10) n2 (σ p11) h) fun n2 => Is.aq (Is.leaf _)
theorem I54_0 : iB2 E D54 (J54_0 E) := Is.aq (Is.sq (Is.sq (Is.sq (I54_1 E) (Is.sq (Is.bk (I54_2 E)) (Is.leaf _))) (Is.leaf _)) (Is.leaf _))
def S54 : Fun := fA2 (J54_0 E)
theorem S54_eq : SQ D54 S54 := eB2 I54_0
def D55 := cm 55
def C55_1 := cr (cr D55.body)
def C55_2 := cl (cr (cl (cr D55.body)))
def C55_3 := cr (cr (cl C55_2))
def J55_1 (r0 : DV) (h : H) : Ans := wK (callK E 108 [] h) fun x1 h2 => some ((.tup [x1, r0, (ii 0)]), h2)
def J55_3 (E : Env) (i2 : DV → H → Ans) (r5 : DV) (h : H) : Ans := vK (v_sub r5 (ii 1)) fun x1 => i2 x1 h
def B55_2 (r0 : DV) (i2 : DV → H → Ans) (r5 : DV) (h : H) : Ans := vK (v_geq r5 (ii 0)) fun x1 => bK x1 (vK (v_slL 5 r0 (some r5) none) fun x2 => wK (callK E 106 [x2] h) fun x3 h4 => vK (v_ext 0 x3) fun x5 => vK (v_ext 1 x3) fun x6 => vK (v_not x6) fun x7 => bK x7 (J55_3 E i2 r5 h4) (wK (callK E 107 [x5] h4) fun x8 h9 => vK (v_ext 0 x8) fun x10 => vK (v_ext 1 x8) fun x11 => vK (v_eql x11 (ii 0)) fun x12 => bK x12 (vK (v_iaS 5 r0 r5) fun x13 => vK (v_fa 3 x13) fun x14 => vK (v_ld h9.get x14) fun x15 => vK (v_add r5 x15) fun x16 => vK (v_slL 5 r0 (some x16) none) fun x17 => vK (v_iaS 5 r0 r5) fun x18 => vK (v_fa 1 x18) fun x19 => vK (v_ld h9.get x19) fun x20 => vK (v_iaS 5 r0 r5) fun x21 => vK (v_fa 3 x21) fun x22 => vK (v_ld h9.get x22) fun x23 => vK (v_add x20 x23) fun x24 => some ((.tup [x10, x17, x24]), h9)) (J55_3 E i2 r5 h9))) (J55_1 E r0 h)
def L55_2 (r0 : DV) (n : Nat) : DV → H → Ans := Nat.rec (motive := fun _ => DV → H → Ans) (fun _ _ => none) (fun _ i => B55_2 E r0 i) n
def J55_0 (r0 : DV) (h : H) : Ans := vK (v_lenL r0) fun x1 => vK (v_sub x1 (ii 1)) fun x2 => L55_2 E r0 FUEL x2 h
theorem I55_1 : Is E C55_1 (retK3 D55.res) (fun σ h => J55_1 E (σ p0) h) := Is.rf
abbrev K55_4 : KT2 (DV × H) := (thenK3 (fun σ h => J55_1 E (σ p0) h) (retK3 D55.res))
abbrev K55_5 (n2 : Nat) : KT2 (DV × H) := (thenK3 (fun σ h => (L55_2 E (σ p0) n2) (σ p5) h) (blockK3 0 (K55_4 E)))
theorem I55_3 (n2 : Nat) : Is E C55_3 (K55_5 E n2) (fun σ h => J55_3 E (L55_2 E (σ p0) n2) (σ p5) h) := Is.rf
theorem I55_2 : Is E C55_2 (blockK3 0 (K55_4 E)) (fun σ h => L55_2 E (σ p0) FUEL (σ p5) h) := Is.lp (fun n2 σ h => L55_2 E (σ p0) n2 (σ p5) h) fun n2 => Is.aq (Is.sq (Is.sq (I55_3 E n2) (Is.leaf _)) (Is.leaf _))
theorem I55_0 : iB1 E D55 (J55_0 E) := Is.aq (Is.sq (Is.sq (I55_1 E) (Is.sq (Is.bk (I55_2 E)) (Is.leaf _))) (Is.leaf _))
def S55 : Fun := fA1 (J55_0 E)
theorem S55_eq : SQ D55 S55 := eB1 I55_0
def D56 := cm 56
def J56_0 (r0 : DV) (h : H) : Ans := n_alc 6 6 (.list [(ii 0), (ii 0), (ii 0), (.str []), (.str []), (.str [])]) h fun x1 h2 => wK (callK E 109 [r0] h2) fun x3 h4 => wK (callK E 110 [x3] h4) fun x5 h6 => wK (callK E 111 [x3] h6) fun x7 h8 => wK (callK E 111 [x3] h8) fun x9 h10 => wK (callK E 112 [x3] h10) fun x11 h12 => wK (callK E 112 [x3] h12) fun x13 h14 => wK (callK E 112 [x3] h14) fun x15 h16 => vK (v_bld [(ii 0), (ii 0), (ii 0), (.str []), (.str []), (.str [])] [(0, 1, x5), (1, 1, x7), (2, 1, x9), (3, 1, x11), (4, 1, x13), (5, 1, x15)]) fun x17 => n_alc 6 6 (.list [(ii 0), (ii 0), (ii 0), (.str []), (.str []), (.str [])]) h16 fun x18 h19 => wK (dStF 6 x18 x17 h19) fun x20 h21 => wK (callK E 113 [x3] h21) fun x22 h23 => vK (v_neq x22 (ii 0)) fun x24 => gdK x24 false (fun kk => vK (v_ldN 6 h23.get x18) fun v => kk v h23) h23 fun x25 h26 => gdK x24 false (fun kk => wK (callK E 29 [x25] h26) kk) h26 fun x27 h28 => gdK x24 false (fun kk => vK (v_neq x27 (ii 0)) fun v => kk v h28) h28 fun x29 h30 => vK (v_pick x24 (.bool true) x29) fun x31 => bK x31 (vK (v_bld [(ii 0), (ii 0), (ii 0), (.str []), (.str []), (.str [])] []) fun x32 => wK (dStF 6 x1 x32 h30) fun x33 h34 => vK (v_ldN 6 h34.get x1) fun x35 => some ((.tup [x35, (ii 3)]), h34)) (vK (v_ldN 6 h30.get x18) fun x36 => wK (dStF 6 x1 x36 h30) fun x37 h38 => vK (v_ldN 6 h38.get x1) fun x39 => some ((.tup [x39, (ii 0)]), h38))
theorem I56_0 : iB1 E D56 (J56_0 E) := Is.rf
def S56 : Fun := fA1 (J56_0 E)
theorem S56_eq : SQ D56 S56 := eB1 I56_0
def D57 := cm 57
def J57_0 (E : Env) (r0 r1 : DV) (h : H) : Ans := n_box r0 h fun x1 h2 => vK (v_fa 1 x1) fun x3 => vK (v_ld h2.get x3) fun x4 => vK (v_ld h2.get r1) fun x5 => vK (v_geq x4 x5) fun x6 => some (x6, h2)
theorem I57_0 : iB2 E D57 (J57_0 E) := Is.rf
def S57 : Fun := fA2 (J57_0 E)
theorem S57_eq : SQ D57 S57 := eB2 I57_0
def D58 := cm 58
def J58_0 (r0 r1 : DV) (h : H) : Ans := vK (v_eqv .ptr false h.get r0 .nilp) fun x1 => gdK x1 false (fun kk => kk r0 h) h fun x2 h3 => gdK x1 false (fun kk => vK (v_nilchk x2) fun v => kk v h3) h3 fun x4 h5 => gdK x1 false (fun kk => vK (v_fa 2 x4) fun v => kk v h5) h5 fun x6 h7 => gdK x1 false (fun kk => vK (v_ld h7.get x6) fun v => kk v h7) h7 fun x8 h9 => gdK x1 false (fun kk => vK (v_neq x8 (ii 0)) fun v => kk v h9) h9 fun x10 h11 => vK (v_pick x1 (.bool true) x10) fun x12 => bK x12 (some ((.tup []), h11)) (vK (v_nilchk r0) fun x13 => vK (v_fa 1 x13) fun x14 => vK (v_ld h11.get x14) fun x15 => vK (v_nilchk r0) fun x16 => vK (v_fa 1 x16) fun x17 => vK (v_ld h11.get x17) fun x18 => vK (v_lenL x18) fun x19 => vK (v_nilchk r0) fun x20 => vK (v_fa 1 x20) fun x21 => vK (v_ld h11.get x21) fun x22 => vK (v_lenL x22) fun x23 => vK (v_slM 1 x15 none x19 x23) fun x24 => wK (c_val E r1 [x24] h11) fun x25 h26 => vK (v_lenL x25) fun x27 => vK (v_nilchk r0) fun x28 => vK (v_fa 0 x28) fun x29 => vK (v_ld h26.get x29) fun x30 => vK (v_gtr x27 x30) fun x31 => bK x31 (vK (v_nilchk r0) fun x32 => vK (v_fa 2 x32) fun x33 => wK (dStF 1 x33 (ii 2) h26) fun x34 h35 => some ((.tup []), h35)) (vK (v_nilchk r0) fun x36 => vK (v_fa 1 x36) fun x37 => wK (dStF 1 x37 x25 h26) fun x38 h39 => some ((.tup []), h39)))
theorem I58_0 : iB2 E D58 (J58_0 E) := Is.rf
def S58 : Fun := fA2 (J58_0 E)
theorem S58_eq : SQ D58 S58 := eB2 I58_0
def D59 := cm 59
def J59_0 (E : Env) (r0 r1 : DV) (h : H) : Ans := vK (v_ld h.get r1) fun x1 => vK (v_conv .u8 x1) fun x2 => n_bsl 1 1 [(.int .u8 (.ofNat 0))] [(0, 1, x2)] h fun x3 h4 => wK (dAppendF 1 1 r0 x3 h4) fun x5 h6 => some (x5, h6)
theorem I59_0 : iB2 E D59 (J59_0 E) := Is.rf
def S59 : Fun := fA2 (J59_0 E)
theorem S59_eq : SQ D59 S59 := eB2 I59_0
def D60 := cm 60
def J60_0 (r0 r1 : DV) (h : H) : Ans := vK (v_ld h.get r1) fun x1 => wK (callK E 61 [r0, x1] h) fun x2 h3 => some (x2, h3)
theorem I60_0 : iB2 E D60 (J60_0 E) := Is.rf
def S60 : Fun := fA2 (J60_0 E)
theorem S60_eq : SQ D60 S60 := eB2 I60_0
def D61 := cm 61
def C61_1 := cr (cr (cr D61.body))
def C61_2 := cl (cl (cr (cr D61.body)))
def J61_1 (E : Env) (r0 r5 : DV) (h : H) : Ans := vK (v_conv .u8 r5) fun x1 => n_bsl 1 1 [(.int .u8 (.ofNat 0))] [(0, 1, x1)] h fun x2 h3 => wK (dAppendF 1 1 r0 x2 h3) fun x4 h5 => some (x4, h5)
def B61_2 (i2 : DV → DV → H → Ans) (r0 r5 : DV) (h : H) : Ans := vK (v_geq r5 (.int .u64 (.ofNat 128))) fun x1 => bK x1 (vK (v_conv .u8 r5) fun x2 => vK (v_or x2 (.int .u8 (.ofNat 128))) fun x3 => n_bsl 1 1 [(.int .u8 (.ofNat 0))] [(0, 1, x3)] h fun x4 h5 => wK (dAppendF 1 1 r0 x4 h5) fun x6 h7 => vK (v_shr r5 (.int .u64 (.ofNat 7))) fun x8 => i2 x6 x8 h7) (J61_1 E r0 r5 h)
def L61_2 (n : Nat) : DV → DV → H → Ans := Nat.rec (motive := fun _ => DV → DV → H → Ans) (fun _ _ _ => none) (fun _ i => B61_2 E i) n
def J61_0 (r0 r1 : DV) (h : H) : Ans := vK (v_conv .u64 r1) fun x1 => vK (v_shl x1 (.int .u64 (.ofNat 1))) fun x2 => vK (v_shr r1 (.int .u64 (.ofNat 63))) fun x3 => vK (v_conv .u64 x3) fun x4 => vK (v_xor x2 x4) fun x5 => L61_2 E FUEL r0 x5 h
theorem I61_1 : Is E C61_1 (retK3 D61.res) (fun σ h => J61_1 E (σ p0) (σ p5) h) := Is.rf
abbrev K61_3 : KT2 (DV × H) := (thenK3 (fun σ h => J61_1 E (σ p0) (σ p5) h) (retK3 D61.res))
theorem I61_2 : Is E C61_2 (blockK3 0 (K61_3 E)) (fun σ h => L61_2 E FUEL (σ p0) (σ p5) h) := Is.lp (fun n2 σ h => L61_2 E n2 (σ p0) (σ p5) h) fun n2 => Is.aq (Is.leaf _)
theorem I61_0 : iB2 E D61 (J61_0 E) := Is.aq (Is.sq (Is.sq (Is.sq (I61_1 E) (Is.bk (I61_2 E))) (Is.leaf _)) (Is.leaf _))
def S61 : Fun := fA2 (J61_0 E)
theorem S61_eq : SQ D61 S61 := eB2 I61_0
def D62 := cm 62
def J62_0 (r0 r1 : DV) (h : H) : Ans := vK (v_ld h.get r1) fun x1 => wK (callK E 63 [r0, x1] h) fun x2 h3 => some (x2, h3)
theorem I62_0 : iB2 E D62 (J62_0 E) := Is.rf
def S62 : Fun := fA2 (J62_0 E)
theorem S62_eq : SQ D62 S62 := eB2 I62_0
def D63 := cm 63
def J63_0 (r0 r1 : DV) (h : H) : Ans := vK (v_lenS r1) fun x1 => wK (callK E 61 [r0, x1] h) fun x2 h3 => wK (dAppendF 1 1 x2 r1 h3) fun x4 h5 => some (x4, h5)
theorem I63_0 : iB2 E D63 (J63_0 E) := Is.rf
def S63 : Fun := fA2 (J63_0 E)
theorem S63_eq : SQ D63 S63 := eB2 I63_0
def D64 := cm 64
def J64_0 (r0 r1 : DV) (h : H) : Ans := wK (callK E 115 [] h) fun x1 h2 => vK (v_bld [.nilp] [(0, 1, x1)]) fun x3 => wK (callK E 114 [r0, r1, (.ifc 192 x3)] h2) fun x4 h5 => some (x4, h5)
theorem I64_0 : iB2 E D64 (J64_0 E) := Is.rf
def S64 : Fun := fA2 (J64_0 E)
theorem S64_eq : SQ D64 S64 := eB2 I64_0
def D70 := cm 70
def J70_0 (r0 r1 : DV) (h : H) : Ans := vK (v_ld h.get r0) fun x1 => vK (v_fa 3 r1) fun x2 => vK (v_ld h.get x2) fun x3 => vK (v_fa 1 r1) fun x4 => vK (v_ld h.get x4) fun x5 => vK (v_fa 5 r1) fun x6 => vK (v_ld h.get x6) fun x7 => wK (callK E 71 [x1, x3, x5, x7] h) fun x8 h9 => some (x8, h9)
theorem I70_0 : iB2 E D70 (J70_0 E) := Is.rf
def S70 : Fun := fA2 (J70_0 E)
theorem S70_eq : SQ D70 S70 := eB2 I70_0
def D72 := cm 72
def J72_0 (r0 r1 : DV) (h : H) : Ans := vK (v_ld h.get r0) fun x1 => vK (v_fa 3 r1) fun x2 => vK (v_ld h.get x2) fun x3 => vK (v_fa 2 r1) fun x4 => vK (v_ld h.get x4) fun x5 => wK (callK E 73 [x1, x3, x5] h) fun x6 h7 => some (x6, h7)
theorem I72_0 : iB2 E D72 (J72_0 E) := Is.rf
def S72 : Fun := fA2 (J72_0 E)
theorem S72_eq : SQ D72 S72 := eB2 I72_0
def D74 := cm 74
def J74_0 (r0 r1 : DV) (h : H) : Ans := vK (v_ld h.get r0) fun x1 => vK (v_fa 3 r1) fun x2 => vK (v_ld h.get x2) fun x3 => vK (v_fa 1 r1) fun x4 => vK (v_ld h.get x4) fun x5 => vK (v_fa 2 r1) fun x6 => vK (v_ld h.get x6) fun x7 => wK (callK E 75 [x1, x3, x5, x7] h) fun x8 h9 => vK (v_ext 0 x8) fun x10 => vK (v_ext 1 x8) fun x11 => some ((.tup [x11, x10]), h9)
theorem I74_0 : iB2 E D74 (J74_0 E) := Is.rf
def S74 : Fun := fA2 (J74_0 E)
theorem S74_eq : SQ D74 S74 := eB2 I74_0
def D76 := cm 76
def J76_0 (r0 r1 : DV) (h : H) : Ans := vK (v_ld h.get r0) fun x1 => vK (v_fa 3 r1) fun x2 => vK (v_ld h.get x2) fun x3 => wK (callK E 77 [x1, x3] h) fun x4 h5 => vK (v_ext 0 x4) fun x6 => vK (v_ext 1 x4) fun x7 => some ((.tup [x6, x7]), h5)
theorem I76_0 : iB2 E D76 (J76_0 E) := Is.rf
def S76 : Fun := fA2 (J76_0 E)
theorem S76_eq : SQ D76 S76 := eB2 I76_0
def D77 := cm 77
def C77_1 := cr (cr (cr (cr (cr D77.body))))
def C77_2 := cl (cr (cl (cr (cr (cr (cr D77.body))))))
def J77_1 (r8 : DV) (h : H) : Ans := wK (callK E 34 [r8] h) fun x1 h2 => vK (v_ext 0 x1) fun x3 => vK (v_ext 1 x1) fun x4 => some ((.tup [(ii 0), x3]), h2)
def B77_2 (r8 r33 r34 : DV) (i2 : DV → H → Ans) (r35 : DV) (h : H) : Ans := vK (v_lss r35 r34) fun x1 => bK x1 (vK (v_iaS 1 r33 r35) fun x2 => vK (v_ld h.get x2) fun x3 => wK (callK E 32 [r8, x3] h) fun x4 h5 => vK (v_add r35 (ii 1)) fun x6 => i2 x6 h5) (J77_1 E r8 h)
def L77_2 (r8 r33 r34 : DV) (n : Nat) : DV → H → Ans := Nat.rec (motive := fun _ => DV → H → Ans) (fun _ _ => none) (fun _ i => B77_2 E r8 r33 r34 i) n
def J77_0 (r0 r1 : DV) (h : H) : Ans := wK (callK E 130 [r0, r1] h) fun x1 h2 => vK (v_ext 0 x1) fun x3 => vK (v_ext 1 x1) fun x4 => n_alc 5 5 (.list [(ii 0), (ii 0), (ii 0), (ii 0), (ii 0)]) h2 fun x5 h6 => wK (dStF 5 x5 x3 h6) fun x7 h8 => vK (v_neq x4 (ii 0)) fun x9 => bK x9 (some ((.tup [x4, (.str [])]), h8)) (wK (callK E 30 [(ii 65536)] h8) fun x10 h11 => vK (v_fa 0 x5) fun x12 => vK (v_ld h11.get x12) fun x13 => vK (v_fa 1 x5) fun x14 => vK (v_ld h11.get x14) fun x15 => vK (v_fa 2 x5) fun x16 => vK (v_ld h11.get x16) fun x17 => vK (v_fa 3 x5) fun x18 => vK (v_ld h11.get x18) fun x19 => vK (v_fa 4 x5) fun x20 => vK (v_ld h11.get x20) fun x21 => n_bsl 5 1 [(ii 0)] [(0, 1, x13), (1, 1, x15), (2, 1, x17), (3, 1, x19), (4, 1, x21)] h11 fun x22 h23 => vK (v_lenL x22) fun x24 => L77_2 E x10 x22 x24 FUEL (ii 0) h23)
theorem I77_1 : Is E C77_1 (retK3 D77.res) (fun σ h => J77_1 E (σ p8) h) := Is.rf
abbrev K77_3 : KT2 (DV × H) := (thenK3 (fun σ h => J77_1 E (σ p8) h) (retK3 D77.res))
theorem I77_2 : Is E C77_2 (blockK3 0 (K77_3 E)) (fun σ h => L77_2 E (σ p8) (σ p33) (σ p34) FUEL (σ p35) h) := Is.lp (fun n2 σ h => L77_2 E (σ p8) (σ p33) (σ p34) n2 (σ p35) h) fun n2 => Is.aq (Is.leaf _)
theorem I77_0 : iB2 E D77 (J77_0 E) := Is.aq (Is.sq (Is.sq (Is.sq (Is.sq (Is.sq (I77_1 E) (Is.sq (Is.bk (I77_2 E)) (Is.leaf _))) (Is.leaf _)) (Is.leaf _)) (Is.leaf _)) (Is.leaf _))
def S77 : Fun := fA2 (J77_0 E)
theorem S77_eq : SQ D77 S77 := eB2 I77_0
def D78 := cm 78
def J78_0 (r0 r1 : DV) (h : H) : Ans := vK (v_ld h.get r0) fun x1 => vK (v_fa 3 r1) fun x2 => vK (v_ld h.get x2) fun x3 => wK (callK E 79 [x1, x3] h) fun x4 h5 => vK (v_ext 0 x4) fun x6 => vK (v_ext 1 x4) fun x7 => some ((.tup [x6, x7]), h5)
theorem I78_0 : iB2 E D78 (J78_0 E) := Is.rf
def S78 : Fun := fA2 (J78_0 E)
theorem S78_eq : SQ D78 S78 := eB2 I78_0
def D80 := cm 80
def C80_1 := cr (cr (cr (cr D80.body)))
def C80_2 := cl (cr (cl (cr (cr (cr D80.body)))))
def C80_3 := cr (cr (cr (cl C80_2)))
def J80_1 (r0 r1 r10 : DV) (h : H) : Ans := vK (v_ldN 8 h.get r10) fun x1 => wK (callK E 133 [x1] h) fun x2 h3 => vK (v_ext 0 x2) fun x4 => vK (v_ext 1 x2) fun x5 => vK (v_neq x5 (ii 0)) fun x6 => bK x6 (some ((.tup [(ii 1), .nils]), h3)) (vK (v_nilchk r0) fun x7 => vK (v_fa 3 x7) fun x8 => vK (v_iaA 16 1 x8 r1) fun x9 => vK (v_ld h3.get x9) fun x10 => vK (v_add x10 (ii 1)) fun x11 => vK (v_nilchk r0) fun x12 => vK (v_fa 3 x12) fun x13 => vK (v_iaA 16 1 x13 r1) fun x14 => wK (dStF 1 x14 x11 h3) fun x15 h16 => vK (v_nilchk r0) fun x17 => vK (v_fa 1 x17) fun x18 => vK (v_ld h16.get x18) fun x19 => wK (callK E 135 [x19, x4] h16) fun x20 h21 => wK (callK E 134 [x20] h21) fun x22 h23 => vK (v_ext 0 x22) fun x24 => vK (v_ext 1 x22) fun x25 => vK (v_ext 2 x22) fun x26 => some ((.tup [x24, x25]), h23))
def J80_3 (E : Env) (i2 : DV → H → Ans) (r44 : DV) (h : H) : Ans := vK (v_add r44 (ii 1)) fun x1 => i2 x1 h
def B80_2 (r0 r1 r3 r10 r42 r43 : DV) (i2 : DV → H → Ans) (r44 : DV) (h : H) : Ans := vK (v_lss r44 r43) fun x1 => bK x1 (vK (v_iaS 1 r42 r44) fun x2 => vK (v_ld h.get x2) fun x3 => vK (v_lenL r3) fun x4 => vK (v_lss r44 x4) fun x5 => bK x5 (vK (v_iaS 1 r3 r44) fun x6 => vK (v_ld h.get x6) fun x7 => vK (v_nilchk x3) fun x8 => wK (dStF 1 x8 x7 h) fun x9 h10 => J80_3 E i2 r44 h10) (J80_3 E i2 r44 h)) (J80_1 E r0 r1 r10 h)
def L80_2 (r0 r1 r3 r10 r42 r43 : DV) (n : Nat) : DV → H → Ans := Nat.rec (motive := fun _ => DV → H → Ans) (fun _ _ => none) (fun _ i => B80_2 E r0 r1 r3 r10 r42 r43 i) n
def J80_0 (r0 r1 r2 r3 : DV) (h : H) : Ans := vK (v_eqv .ptr false h.get r0 .nilp) fun x1 => gdK x1 false (fun kk => kk r1 h) h fun x2 h3 => gdK x1 false (fun kk => vK (v_lss x2 (ii 0)) fun v => kk v h3) h3 fun x4 h5 => vK (v_pick x1 (.bool true) x4) fun x6 => gdK x6 false (fun kk => kk r1 h5) h5 fun x7 h8 => gdK x6 false (fun kk => vK (v_geq x7 (ii 16)) fun v => kk v h8) h8 fun x9 h10 => vK (v_pick x6 (.bool true) x9) fun x11 => bK x11 (some ((.tup [(ii 1), .nils]), h10)) (vK (v_nilchk r0) fun x12 => vK (v_fa 3 x12) fun x13 => vK (v_iaA 16 1 x13 r1) fun x14 => vK (v_ld h10.get x14) fun x15 => vK (v_bld [(ii 0), (ii 0), (ii 0), (ii 0), (ii 0), (ii 0), (ii 0), (ii 0)] [(0, 1, r1), (1, 1, x15), (2, 1, r2)]) fun x16 => n_alc 8 8 (.list [(ii 0), (ii 0), (ii 0), (ii 0), (ii 0), (ii 0), (ii 0), (ii 0)]) h10 fun x17 h18 => wK (dStF 8 x17 x16 h18) fun x19 h20 => vK (v_fa 3 x17) fun x21 => vK (v_fa 4 x17) fun x22 => vK (v_fa 5 x17) fun x23 => vK (v_fa 6 x17) fun x24 => vK (v_fa 7 x17) fun x25 => n_bsl 5 1 [.nilp] [(0, 1, x21), (1, 1, x22), (2, 1, x23), (3, 1, x24), (4, 1, x25)] h20 fun x26 h27 => vK (v_lenL x26) fun x28 => L80_2 E r0 r1 r3 x17 x26 x28 FUEL (ii 0) h27)
theorem I80_1 : Is E C80_1 (retK3 D80.res) (fun σ h => J80_1 E (σ p0) (σ p1) (σ p10) h) := Is.rf
abbrev K80_4 : KT2 (DV × H) := (thenK3 (fun σ h => J80_1 E (σ p0) (σ p1) (σ p10) h) (retK3 D80.res))
abbrev K80_5 (n2 : Nat) : KT2 (DV × H) := (thenK3 (fun σ h => (L80_2 E (σ p0) (σ p1) (σ p3) (σ p10) (σ p42) (σ p43) n2) (σ p44) h) (blockK3 0 (K80_4 E)))
theorem I80_3 (n2 : Nat) : Is E C80_3 (K80_5 E n2) (fun σ h => J80_3 E (L80_2 E (σ p0) (σ p1) (σ p3) (σ p10) (σ p42) (σ p43) n2) (σ p44) h) := Is.rf
theorem I80_2 : Is E C80_2 (blockK3 0 (K80_4 E)) (fun σ h => L80_2 E (σ p0) (σ p1) (σ p3) (σ p10) (σ p42) (σ p43) FUEL (σ p44) h) := Is.lp (fun n2 σ h => L80_2 E (σ p0) (σ p1) (σ p3) (σ p10) (σ p42) (σ p43) n2 (σ p44) h) fun n2 => Is.aq (Is.sq (Is.sq (Is.sq (I80_3 E n2) (Is.leaf _)) (Is.leaf _)) (Is.leaf _))
theorem I80_0 : iB4 E D80 (J80_0 E) := Is.aq (Is.sq (Is.sq (Is.sq (Is.sq (I80_1 E) (Is.sq (Is.bk (I80_2 E)) (Is.leaf _))) (Is.leaf _)) (Is.leaf _)) (Is.leaf _))
def S80 : Fun := fA4 (J80_0 E)
theorem S80_eq : SQ D80 S80 := eB4 I80_0
def D81 := cm 81
def C81_1 := cr (cr (cr (cr (cr (cr (cr D81.body))))))
def C81_2 := cl (cl (cr (cr (cr (cr (cr (cr D81.body)))))))
def J81_1 (r7 : DV) (h : H) : Ans := wK (callK E 139 [r7, (.int .i64 (.negSucc 0))] h) fun x1 h2 => vK (v_ext 0 x1) fun x3 => vK (v_ext 1 x1) fun x4 => wK (callK E 140 [x3] h2) fun x5 h6 => n_bsl 1 1 [(.str [])] [(0, 1, x5)] h6 fun x7 h8 => wK (dAppendF 1 16 r7 x7 h8) fun x9 h10 => some ((.tup [x9, (ii 0)]), h10)
def B81_2 (r1 r9 : DV) (i2 : DV → H → Ans) (r7 : DV) (h : H) : Ans := vK (v_lenL r7) fun x1 => vK (v_sub r1 (ii 1)) fun x2 => vK (v_lss x1 x2) fun x3 => bK x3 (n_bsl 1 1 [(.str [])] [(0, 1, r9)] h fun x4 h5 => wK (dAppendF 1 16 r7 x4 h5) fun x6 h7 => i2 x6 h7) (J81_1 E r7 h)
def L81_2 (r1 r9 : DV) (n : Nat) : DV → H → Ans := Nat.rec (motive := fun _ => DV → H → Ans) (fun _ _ => none) (fun _ i => B81_2 E r1 r9 i) n
def J81_0 (r0 r1 : DV) (h : H) : Ans := wK (callK E 136 [r1] h) fun x1 h2 => vK (v_not x1) fun x3 => bK x3 (some ((.tup [.nils, (ii 1)]), h2)) (vK (v_lenS r0) fun x4 => wK (callK E 137 [x4, r1] h2) fun x5 h6 => vK (v_lenS r0) fun x7 => vK (v_gtr x7 (ii 65536)) fun x8 => gdK x8 false (fun kk => kk x5 h6) h6 fun x9 h10 => gdK x8 false (fun kk => vK (v_gtr x9 (ii 512)) fun v => kk v h10) h10 fun x11 h12 => vK (v_pick x8 (.bool true) x11) fun x13 => bK x13 (some ((.tup [.nils, (ii 2)]), h12)) (vK (v_mx x5 (ii 1)) fun x14 => wK (callK E 138 [r0, x14] h12) fun x15 h16 => vK (v_ext 0 x15) fun x17 => vK (v_ext 1 x15) fun x18 => wK (callK E 127 [(.str []), x5] h16) fun x19 h20 => vK (v_ext 0 x19) fun x21 => vK (v_ext 1 x19) fun x22 => L81_2 E r1 x21 FUEL x17 h20))
theorem I81_1 : Is E C81_1 (retK3 D81.res) (fun σ h => J81_1 E (σ p7) h) := Is.rf
abbrev K81_3 : KT2 (DV × H) := (thenK3 (fun σ h => J81_1 E (σ p7) h) (retK3 D81.res))
theorem I81_2 : Is E C81_2 (blockK3 0 (K81_3 E)) (fun σ h => L81_2 E (σ p1) (σ p9) FUEL (σ p7) h) := Is.lp (fun n2 σ h => L81_2 E (σ p1) (σ p9) n2 (σ p7) h) fun n2 => Is.aq (Is.leaf _)
theorem I81_0 : iB2 E D81 (J81_0 E) := Is.aq (Is.sq (Is.sq (Is.sq (Is.sq (Is.sq (Is.sq (Is.sq (I81_1 E) (Is.bk (I81_2 E))) (Is.leaf _)) (Is.leaf _)) (Is.leaf _)) (Is.leaf _)) (Is.leaf _)) (Is.leaf _))
def S81 : Fun := fA2 (J81_0 E)
theorem S81_eq : SQ D81 S81 := eB2 I81_0
def D82 := cm 82
def J82_0 (r0 r1 r2 r3 : DV) (h : H) : Ans := vK (v_eqv .ptr false h.get r0 .nilp) fun x1 => bK x1 (some ((ii 1), h)) (wK (callK E 141 [r0, r1, r2] h) fun x2 h3 => vK (v_ext 0 x2) fun x4 => vK (v_ext 1 x2) fun x5 => vK (v_not x5) fun x6 => bK x6 (some ((ii 7), h3)) (vK (v_nilchk r0) fun x7 => vK (v_fa 0 x7) fun x8 => vK (v_ld h3.get x8) fun x9 => vK (v_bld [(ii 0), (ii 0)] [(0, 1, r1), (1, 1, r2)]) fun x10 => wK (callK E 142 [x9, x4, x10, r3] h3) fun x11 h12 => some (x11, h12)))
theorem I82_0 : iB4 E D82 (J82_0 E) := Is.rf
def S82 : Fun := fA4 (J82_0 E)
theorem S82_eq : SQ D82 S82 := eB4 I82_0
def D83 := cm 83
def C83_1 := cl (cr D83.body)
def C83_2 := cr (cr (cr (cl C83_1)))
def J83_2 (E : Env) (i1 : DV → H → Ans) (r11 : DV) (h : H) : Ans := vK (v_add r11 (ii 1)) fun x1 => i1 x1 h
def B83_1 (r0 r1 r10 : DV) (i1 : DV → H → Ans) (r11 : DV) (h : H) : Ans := vK (v_lss r11 r10) fun x1 => bK x1 (wK (callK E 141 [r0, r1, r11] h) fun x2 h3 => vK (v_ext 0 x2) fun x4 => vK (v_ext 1 x2) fun x5 => bK x5 (vK (v_nilchk r0) fun x6 => vK (v_fa 0 x6) fun x7 => vK (v_ld h3.get x7) fun x8 => vK (v_bld [(ii 0), (ii 0)] [(0, 1, r1), (1, 1, r11)]) fun x9 => wK (callK E 143 [x8, x4, x9] h3) fun x10 h11 => J83_2 E i1 r11 h11) (J83_2 E i1 r11 h3)) (some ((.tup []), h))
def L83_1 (r0 r1 r10 : DV) (n : Nat) : DV → H → Ans := Nat.rec (motive := fun _ => DV → H → Ans) (fun _ _ => none) (fun _ i => B83_1 E r0 r1 r10 i) n
def J83_0 (r0 r1 : DV) (h : H) : Ans := vK (v_nilchk r0) fun x1 => vK (v_fa 2 x1) fun x2 => vK (v_ld h.get x2) fun x3 => L83_1 E r0 r1 x3 FUEL (ii 0) h
abbrev K83_3 (n1 : Nat) : KT2 (DV × H) := (thenK3 (fun σ h => (L83_1 E (σ p0) (σ p1) (σ p10) n1) (σ p11) h) (blockK3 0 (retK3 D83.res)))
theorem I83_2 (n1 : Nat) : Is E C83_2 (K83_3 E n1) (fun σ h => J83_2 E (L83_1 E (σ p0) (σ p1) (σ p10) n1) (σ p11) h) := Is.rf
theorem I83_1 : Is E C83_1 (blockK3 0 (retK3 D83.res)) (fun σ h => L83_1 E (σ p0) (σ p1) (σ p10) FUEL (σ p11) h) := Is.lp (fun n1 σ h => L83_1 E (σ p0) (σ p1) (σ p10) n1 (σ p11) h) fun n1 => Is.aq (Is.sq (Is.sq (Is.sq (I83_2 E n1) (Is.leaf _)) (Is.leaf _)) (Is.leaf _))
theorem I83_0 : iB2 E D83 (J83_0 E) := Is.aq (Is.sq (Is.bk (I83_1 E)) (Is.leaf _))
def S83 : Fun := fA2 (J83_0 E)
theorem S83_eq : SQ D83 S83 := eB2 I83_0
def D84 := cm 84
def J84_0 (E : Env) (r0 : DV) (h : H) : Ans := vK (v_mx r0 (ii 16)) fun x1 => vK (v_mn x1 (ii 65536)) fun x2 => vK (v_bld [(ii 0), .nils, .nils] [(0, 1, x2)]) fun x3 => n_box x3 h fun x4 h5 => some (x4, h5)
theorem I84_0 : iB1 E D84 (J84_0 E) := Is.rf
def S84 : Fun := fA1 (J84_0 E)
theorem S84_eq : SQ D84 S84 := eB1 I84_0
def D85 := cm 85
def J85_0 (E : Env) (r0 : DV) (h : H) : Ans := vK (v_eqv .ptr false h.get r0 .nilp) fun x1 => bK x1 (some ((ii 0), h)) (vK (v_nilchk r0) fun x2 => vK (v_fa 1 x2) fun x3 => vK (v_ld h.get x3) fun x4 => vK (v_lenL x4) fun x5 => some (x5, h))
theorem I85_0 : iB1 E D85 (J85_0 E) := Is.rf
def S85 : Fun := fA1 (J85_0 E)
theorem S85_eq : SQ D85 S85 := eB1 I85_0
def D86 := cm 86
def J86_0 (E : Env) (r0 : DV) (h : H) : Ans := n_box r0 h fun x1 h2 => vK (v_fa 0 x1) fun x3 => vK (v_ld h2.get x3) fun x4 => vK (v_geq x4 (ii 1)) fun x5 => gdK x5 true (fun kk => vK (v_fa 0 x1) fun v => kk v h2) h2 fun x6 h7 => gdK x5 true (fun kk => vK (v_ld h7.get x6) fun v => kk v h7) h7 fun x8 h9 => gdK x5 true (fun kk => vK (v_leq x8 (ii 3)) fun v => kk v h9) h9 fun x10 h11 => vK (v_pick x5 x10 (.bool false)) fun x12 => gdK x12 true (fun kk => vK (v_fa 1 x1) fun v => kk v h11) h11 fun x13 h14 => gdK x12 true (fun kk => vK (v_ld h14.get x13) fun v => kk v h14) h14 fun x15 h16 => gdK x12 true (fun kk => vK (v_geq x15 (ii 0)) fun v => kk v h16) h16 fun x17 h18 => vK (v_pick x12 x17 (.bool false)) fun x19 => gdK x19 true (fun kk => vK (v_fa 1 x1) fun v => kk v h18) h18 fun x20 h21 => gdK x19 true (fun kk => vK (v_ld h21.get x20) fun v => kk v h21) h21 fun x22 h23 => gdK x19 true (fun kk => vK (v_lss x22 (ii 256)) fun v => kk v h23) h23 fun x24 h25 => vK (v_pick x19 x24 (.bool false)) fun x26 => gdK x26 true (fun kk => vK (v_fa 2 x1) fun v => kk v h25) h25 fun x27 h28 => gdK x26 true (fun kk => vK (v_ld h28.get x27) fun v => kk v h28) h28 fun x29 h30 => gdK x26 true (fun kk => vK (v_geq x29 (ii 0)) fun v => kk v h30) h30 fun x31 h32 => vK (v_pick x26 x31 (.bool false)) fun x33 => gdK x33 true (fun kk => vK (v_fa 2 x1) fun v => kk v h32) h32 fun x34 h35 => gdK x33 true (fun kk => vK (v_ld h35.get x34) fun v => kk v h35) h35 fun x36 h37 => gdK x33 true (fun kk => vK (v_lss x36 (ii 2147483648)) fun v => kk v h37) h37 fun x38 h39 => vK (v_pick x33 x38 (.bool false)) fun x40 => some (x40, h39)
theorem I86_0 : iB1 E D86 (J86_0 E) := Is.rf
def S86 : Fun := fA1 (J86_0 E)
theorem S86_eq : SQ D86 S86 := eB1 I86_0
def D87 := cm 87
def J87_0 (r0 : DV) (h : H) : Ans := vK (v_nilchk r0) fun x1 => vK (v_fa 0 x1) fun x2 => vK (v_ld h.get x2) fun x3 => vK (v_nilchk r0) fun x4 => vK (v_fa 1 x4) fun x5 => vK (v_ld h.get x5) fun x6 => vK (v_lenL x6) fun x7 => vK (v_sub x3 x7) fun x8 => vK (v_nilchk r0) fun x9 => vK (v_fa 2 x9) fun x10 => vK (v_ld h.get x10) fun x11 => vK (v_lenL x11) fun x12 => vK (v_add x12 (ii 1)) fun x13 => wK (callK E 144 [x13] h) fun x14 h15 => rK (rcK (v_ld h15.get x5) x6) <| rK (rcK (v_ld h15.get x2) x3) <| vK (v_sub x8 x14) fun x16 => some (x16, h15)
theorem I87_0 : iB1 E D87 (J87_0 E) := Is.rf
def S87 : Fun := fA1 (J87_0 E)
theorem S87_eq : SQ D87 S87 := eB1 I87_0
def D88 := cm 88
def J88_0 (r0 : DV) (h : H) : Ans := wK (callK E 146 [r0] h) fun x1 h2 => wK (callK E 145 [x1] h2) fun x3 h4 => vK (v_add r0 x3) fun x5 => some (x5, h4)
theorem I88_0 : iB1 E D88 (J88_0 E) := Is.rf
def S88 : Fun := fA1 (J88_0 E)
theorem S88_eq : SQ D88 S88 := eB1 I88_0
def D89 := cm 89
def J89_0 (r0 r1 : DV) (h : H) : Ans := n_box r1 h fun x1 h2 => wK (callK E 147 [r0, (.fn (.func 148) [] [x1])] h2) fun x3 h4 => some (x3, h4)
theorem I89_0 : iB2 E D89 (J89_0 E) := Is.rf
def S89 : Fun := fA2 (J89_0 E)
theorem S89_eq : SQ D89 S89 := eB2 I89_0
def D90 := cm 90
def J90_0 (r0 r1 : DV) (h : H) : Ans := vK (v_eqv .ptr false h.get r0 .nilp) fun x1 => bK x1 (some ((.tup [.nilp, (ii 1)]), h)) (wK (callK E 45 [r0] h) fun x2 h3 => wK (callK E 149 [x2, r1] h3) fun x4 h5 => vK (v_ext 0 x4) fun x6 => vK (v_ext 1 x4) fun x7 => n_alc 6 6 (.list [(ii 0), (ii 0), (ii 0), (ii 0), (ii 0), .nils]) h5 fun x8 h9 => wK (dStF 6 x8 x6 h9) fun x10 h11 => vK (v_not x7) fun x12 => gdK x12 false (fun kk => vK (v_fa 1 x8) fun v => kk v h11) h11 fun x13 h14 => gdK x12 false (fun kk => vK (v_ld h14.get x13) fun v => kk v h14) h14 fun x15 h16 => gdK x12 false (fun kk => vK (v_neq x15 (ii 2)) fun v => kk v h16) h16 fun x17 h18 => vK (v_pick x12 (.bool true) x17) fun x19 => bK x19 (some ((.tup [.nilp, (ii 7)]), h18)) (vK (v_fa 5 x8) fun x20 => vK (v_ld h18.get x20) fun x21 => vK (v_lenL x21) fun x22 => vK (v_ldN 6 h18.get x8) fun x23 => vK (v_fa 4 x8) fun x24 => vK (v_ld h18.get x24) fun x25 => n_mks 1 16 (.str []) x22 x22 h18 fun x26 h27 => n_mks 1 1 (.bool false) x22 x22 h27 fun x28 h29 => n_mks 1 1 (.bool false) x22 x22 h29 fun x30 h31 => wK (callK E 137 [x25, x22] h31) fun x32 h33 => rK (rcK (v_ldN 6 h33.get x8) x23) <| vK (v_bld [.nilp, (ii 0), (ii 0), (ii 0), (ii 0), (ii 0), .nils, (ii 0), .nils, .nils, .nils] [(0, 1, r0), (1, 6, x23), (7, 1, x32), (8, 1, x26), (9, 1, x28), (10, 1, x30)]) fun x34 => n_box x34 h33 fun x35 h36 => some ((.tup [x35, (ii 0)]), h36)))
theorem I90_0 : iB2 E D90 (J90_0 E) := Is.rf
def S90 : Fun := fA2 (J90_0 E)
theorem S90_eq : SQ D90 S90 := eB2 I90_0
def D91 := cm 91
def C91_1 := cr (cr (cr (cr D91.body)))
def C91_2 := cl (cr (cl (cr (cr (cr D91.body)))))
def J91_1 (r0 : DV) (h : H) : Ans := vK (v_nilchk r0) fun x1 => vK (v_fa 8 x1) fun x2 => vK (v_ld h.get x2) fun x3 => vK (v_nilchk r0) fun x4 => vK (v_fa 1 x4) fun x5 => vK (v_fa 4 x5) fun x6 => vK (v_ld h.get x6) fun x7 => wK (callK E 152 [x3, x7] h) fun x8 h9 => vK (v_ext 0 x8) fun x10 => vK (v_ext 1 x8) fun x11 => some ((.tup [x10, x11]), h9)
def B91_2 (r0 r12 r13 : DV) (i2 : DV → H → Ans) (r14 : DV) (h : H) : Ans := vK (v_lss r14 r13) fun x1 => bK x1 (vK (v_iaS 1 r12 r14) fun x2 => vK (v_ld h.get x2) fun x3 => vK (v_nilchk r0) fun x4 => vK (v_fa 8 x4) fun x5 => vK (v_ld h.get x5) fun x6 => vK (v_nilchk r0) fun x7 => vK (v_fa 8 x7) fun x8 => vK (v_ld h.get x8) fun x9 => wK (callK E 151 [x9, x3] h) fun x10 h11 => rK (rcK (v_ld h11.get x5) x6) <| vK (v_ext 0 x10) fun x12 => vK (v_ext 1 x10) fun x13 => vK (v_iaS 1 x6 x3) fun x14 => wK (dStF 1 x14 x12 h11) fun x15 h16 => vK (v_add r14 (ii 1)) fun x17 => i2 x17 h16) (J91_1 E r0 h)
def L91_2 (r0 r12 r13 : DV) (n : Nat) : DV → H → Ans := Nat.rec (motive := fun _ => DV → H → Ans) (fun _ _ => none) (fun _ i => B91_2 E r0 r12 r13 i) n
def J91_0 (r0 : DV) (h : H) : Ans := wK (callK E 150 [r0] h) fun x1 h2 => vK (v_lenL x1) fun x3 => vK (v_gtr x3 (ii 1)) fun x4 => bK x4 (some ((.tup [(.str []), (ii 9)]), h2)) (vK (v_lenL x1) fun x5 => L91_2 E r0 x1 x5 FUEL (ii 0) h2)
theorem I91_1 : Is E C91_1 (retK3 D91.res) (fun σ h => J91_1 E (σ p0) h) := Is.rf
abbrev K91_3 : KT2 (DV × H) := (thenK3 (fun σ h => J91_1 E (σ p0) h) (retK3 D91.res))
theorem I91_2 : Is E C91_2 (blockK3 0 (K91_3 E)) (fun σ h => L91_2 E (σ p0) (σ p12) (σ p13) FUEL (σ p14) h) := Is.lp (fun n2 σ h => L91_2 E (σ p0) (σ p12) (σ p13) n2 (σ p14) h) fun n2 => Is.aq (Is.leaf _)
theorem I91_0 : iB1 E D91 (J91_0 E) := Is.aq (Is.sq (Is.sq (Is.sq (Is.sq (I91_1 E) (Is.sq (Is.bk (I91_2 E)) (Is.leaf _))) (Is.leaf _)) (Is.leaf _)) (Is.leaf _))
def S91 : Fun := fA1 (J91_0 E)
theorem S91_eq : SQ D91 S91 := eB1 I91_0
def D92 := cm 92
def C92_1 := cr (cr (cr (cr (cr (cr (cr (cr (cr (cr (cr (cl (cr D92.body))))))))))))
def C92_2 := cl (cr (cl (cr (cr (cr (cr (cr (cr (cr (cr (cr (cr (cl (cr D92.body))))))))))))))
def J92_1 (r6 r9 r11 r12 : DV) (h : H) : Ans := wK (callK E 113 [r9] h) fun x1 h2 => vK (v_neq x1 (ii 0)) fun x3 => gdK x3 false (fun kk => kk r12 h2) h2 fun x4 h5 => gdK x3 false (fun kk => kk r6 h5) h5 fun x6 h7 => gdK x3 false (fun kk => vK (v_lenS x6) fun v => kk v h7) h7 fun x8 h9 => gdK x3 false (fun kk => vK (v_neq x4 x8) fun v => kk v h9) h9 fun x10 h11 => vK (v_pick x3 (.bool true) x10) fun x12 => bK x12 (some ((.tup [.nils, (ii 3)]), h11)) (some ((.tup [r11, (ii 0)]), h11))
def B92_2 (r6 r9 r46 : DV) (i2 : DV → DV → DV → H → Ans) (r11 r12 r47 : DV) (h : H) : Ans := vK (v_lss r47 r46) fun x1 => bK x1 (wK (callK E 110 [r9] h) fun x2 h3 => wK (callK E 111 [r9] h3) fun x4 h5 => wK (callK E 111 [r9] h5) fun x6 h7 => wK (callK E 111 [r9] h7) fun x8 h9 => vK (v_bld [(ii 0), (ii 0), (ii 0), (ii 0), (ii 0)] [(0, 1, x2), (1, 1, x4), (2, 1, x6), (4, 1, x8), (3, 1, r12)]) fun x10 => n_alc 5 5 (.list [(ii 0), (ii 0), (ii 0), (ii 0), (ii 0)]) h9 fun x11 h12 => wK (dStF 5 x11 x10 h12) fun x13 h14 => vK (v_ldN 5 h14.get x11) fun x15 => wK (callK E 86 [x15] h14) fun x16 h17 => vK (v_not x16) fun x18 => gdK x18 false (fun kk => vK (v_fa 4 x11) fun v => kk v h17) h17 fun x19 h20 => gdK x18 false (fun kk => vK (v_ld h20.get x19) fun v => kk v h20) h20 fun x21 h22 => gdK x18 false (fun kk => vK (v_lss x21 (ii 0)) fun v => kk v h22) h22 fun x23 h24 => vK (v_pick x18 (.bool true) x23) fun x25 => gdK x25 false (fun kk => vK (v_fa 4 x11) fun v => kk v h24) h24 fun x26 h27 => gdK x25 false (fun kk => vK (v_ld h27.get x26) fun v => kk v h27) h27 fun x28 h29 => gdK x25 false (fun kk => kk r6 h29) h29 fun x30 h31 => gdK x25 false (fun kk => vK (v_lenS x30) fun v => kk v h31) h31 fun x32 h33 => gdK x25 false (fun kk => kk r12 h33) h33 fun x34 h35 => gdK x25 false (fun kk => vK (v_sub x32 x34) fun v => kk v h35) h35 fun x36 h37 => gdK x25 false (fun kk => vK (v_gtr x28 x36) fun v => kk v h37) h37 fun x38 h39 => vK (v_pick x25 (.bool true) x38) fun x40 => bK x40 (J92_1 E r6 r9 r11 (.int .i64 (.negSucc 0)) h39) (vK (v_ldN 5 h39.get x11) fun x41 => n_bsl 1 5 [(ii 0), (ii 0), (ii 0), (ii 0), (ii 0)] [(0, 5, x41)] h39 fun x42 h43 => wK (dAppendF 5 40 r11 x42 h43) fun x44 h45 => vK (v_fa 4 x11) fun x46 => vK (v_ld h45.get x46) fun x47 => vK (v_add r12 x47) fun x48 => vK (v_add r47 (ii 1)) fun x49 => i2 x44 x48 x49 h45)) (J92_1 E r6 r9 r11 r12 h)
def L92_2 (r6 r9 r46 : DV) (n : Nat) : DV → DV → DV → H → Ans := Nat.rec (motive := fun _ => DV → DV → DV → H → Ans) (fun _ _ _ _ => none) (fun _ i => B92_2 E r6 r9 r46 i) n
def J92_0 (r0 : DV) (h : H) : Ans := wK (callK E 153 [r0] h) fun x1 h2 => vK (v_ext 0 x1) fun x3 => vK (v_ext 1 x1) fun x4 => vK (v_neq x4 (ii 0)) fun x5 => bK x5 (some ((.tup [.nils, (ii 4)]), h2)) (wK (callK E 154 [x3] h2) fun x6 h7 => vK (v_ext 0 x6) fun x8 => vK (v_ext 1 x6) fun x9 => vK (v_ext 2 x6) fun x10 => vK (v_not x10) fun x11 => gdK x11 false (fun kk => kk r0 h7) h7 fun x12 h13 => gdK x11 false (fun kk => vK (v_lenS x12) fun v => kk v h13) h13 fun x14 h15 => gdK x11 false (fun kk => vK (v_gtr x14 (ii 65536)) fun v => kk v h15) h15 fun x16 h17 => vK (v_pick x11 (.bool true) x16) fun x18 => bK x18 (some ((.tup [.nils, (ii 3)]), h17)) (wK (callK E 109 [x9] h17) fun x19 h20 => wK (callK E 111 [x19] h20) fun x21 h22 => vK (v_lss x21 (ii 0)) fun x23 => gdK x23 false (fun kk => kk x21 h22) h22 fun x24 h25 => gdK x23 false (fun kk => kk x19 h25) h25 fun x26 h27 => gdK x23 false (fun kk => wK (callK E 155 [x26] h27) kk) h27 fun x28 h29 => gdK x23 false (fun kk => vK (v_gtr x24 x28) fun v => kk v h29) h29 fun x30 h31 => vK (v_pick x23 (.bool true) x30) fun x32 => bK x32 (some ((.tup [.nils, (ii 3)]), h31)) (L92_2 E x8 x19 x21 FUEL .nils (ii 0) (ii 0) h31)))
theorem I92_1 : Is E C92_1 (scopeK3 (retK3 D92.res)) (fun σ h => J92_1 E (σ p6) (σ p9) (σ p11) (σ p12) h) := Is.rf
abbrev K92_3 : KT2 (DV × H) := (thenK3 (fun σ h => J92_1 E (σ p6) (σ p9) (σ p11) (σ p12) h) (scopeK3 (retK3 D92.res)))
theorem I92_2 : Is E C92_2 (blockK3 0 (K92_3 E)) (fun σ h => L92_2 E (σ p6) (σ p9) (σ p46) FUEL (σ p11) (σ p12) (σ p47) h) := Is.lp (fun n2 σ h => L92_2 E (σ p6) (σ p9) (σ p46) n2 (σ p11) (σ p12) (σ p47) h) fun n2 => Is.aq (Is.leaf _)
theorem I92_0 : iB1 E D92 (J92_0 E) := Is.aq (Is.sq (Is.sc (Is.sq (Is.sq (Is.sq (Is.sq (Is.sq (Is.sq (Is.sq (Is.sq (Is.sq (Is.sq (Is.sq (I92_1 E) (Is.sq (Is.bk (I92_2 E)) (Is.leaf _))) (Is.leaf _)) (Is.leaf _)) (Is.leaf _)) (Is.leaf _)) (Is.leaf _)) (Is.leaf _)) (Is.leaf _)) (Is.leaf _)) (Is.leaf _)) (Is.leaf _))) (Is.leaf _))
def S92 : Fun := fA1 (J92_0 E)
theorem S92_eq : SQ D92 S92 := eB1 I92_0
def D93 := cm 93
def J93_0 (E : Env) (r0 r1 : DV) (h : H) : Ans := n_box r1 h fun x1 h2 => vK (v_fa 3 x1) fun x3 => vK (v_ld h2.get x3) fun x4 => vK (v_lss x4 (ii 0)) fun x5 => gdK x5 false (fun kk => vK (v_fa 4 x1) fun v => kk v h2) h2 fun x6 h7 => gdK x5 false (fun kk => vK (v_ld h7.get x6) fun v => kk v h7) h7 fun x8 h9 => gdK x5 false (fun kk => vK (v_lss x8 (ii 0)) fun v => kk v h9) h9 fun x10 h11 => vK (v_pick x5 (.bool true) x10) fun x12 => gdK x12 false (fun kk => vK (v_fa 3 x1) fun v => kk v h11) h11 fun x13 h14 => gdK x12 false (fun kk => vK (v_ld h14.get x13) fun v => kk v h14) h14 fun x15 h16 => gdK x12 false (fun kk => kk r0 h16) h16 fun x17 h18 => gdK x12 false (fun kk => vK (v_lenS x17) fun v => kk v h18) h18 fun x19 h20 => gdK x12 false (fun kk => vK (v_gtr x15 x19) fun v => kk v h20) h20 fun x21 h22 => vK (v_pick x12 (.bool true) x21) fun x23 => gdK x23 false (fun kk => vK (v_fa 4 x1) fun v => kk v h22) h22 fun x24 h25 => gdK x23 false (fun kk => vK (v_ld h25.get x24) fun v => kk v h25) h25 fun x26 h27 => gdK x23 false (fun kk => kk r0 h27) h27 fun x28 h29 => gdK x23 false (fun kk => vK (v_lenS x28) fun v => kk v h29) h29 fun x30 h31 => gdK x23 false (fun kk => vK (v_fa 3 x1) fun v => kk v h31) h31 fun x32 h33 => gdK x23 false (fun kk => vK (v_ld h33.get x32) fun v => kk v h33) h33 fun x34 h35 => gdK x23 false (fun kk => vK (v_sub x30 x34) fun v => kk v h35) h35 fun x36 h37 => gdK x23 false (fun kk => vK (v_gtr x26 x36) fun v => kk v h37) h37 fun x38 h39 => vK (v_pick x23 (.bool true) x38) fun x40 => bK x40 (some ((.tup [(.str []), (ii 1)]), h39)) (vK (v_fa 3 x1) fun x41 => vK (v_ld h39.get x41) fun x42 => vK (v_fa 3 x1) fun x43 => vK (v_ld h39.get x43) fun x44 => vK (v_fa 4 x1) fun x45 => vK (v_ld h39.get x45) fun x46 => vK (v_add x44 x46) fun x47 => vK (v_slS r0 (some x42) (some x47)) fun x48 => some ((.tup [x48, (ii 0)]), h39))
theorem I93_0 : iB2 E D93 (J93_0 E) := Is.rf
def S93 : Fun := fA2 (J93_0 E)
theorem S93_eq : SQ D93 S93 := eB2 I93_0
def D94 := cm 94
def J94_0 (r0 r1 r2 r3 : DV) (h : H) : Ans := vK (v_eql r1 (.int .i64 (.negSucc 0))) fun x1 => bK x1 (wK (callK E 18 [r0, r3, (ii 65536)] h) fun x2 h3 => vK (v_ext 0 x2) fun x4 => vK (v_ext 1 x2) fun x5 => vK (v_ext 2 x2) fun x6 => vK (v_lenL r3) fun x7 => vK (v_lss x5 x7) fun x8 => bK x8 (some ((.str []), h3)) (some (x4, h3))) (vK (v_iaS 1 r3 (ii 0)) fun x9 => vK (v_ld h.get x9) fun x10 => wK (callK E 23 [r0, r1, r2, x10] h) fun x11 h12 => vK (v_ext 0 x11) fun x13 => vK (v_ext 1 x11) fun x14 => some (x13, h12))
theorem I94_0 : iB4 E D94 (J94_0 E) := Is.rf
def S94 : Fun := fA4 (J94_0 E)
theorem S94_eq : SQ D94 S94 := eB4 I94_0
def D95 := cm 95
def C95_1 := cl (cr (cr D95.body))
def C95_2 := cr (cr (cr (cr (cl (cl C95_1)))))
def C95_3 := cr (cr C95_2)
def C95_4 := cr C95_3
def J95_4 (i1 : DV → DV → DV → DV → DV → H → Ans) (r0 r1 r2 r3 r4 r10 r11 r12 r13 : DV) (h : H) : Ans := vK (v_gtr r1 (ii 0)) fun x1 => gdK x1 true (fun kk => kk r4 h) h fun x2 h3 => gdK x1 true (fun kk => kk r0 h3) h3 fun x4 h5 => gdK x1 true (fun kk => kk r1 h5) h5 fun x6 h7 => gdK x1 true (fun kk => vK (v_sub x6 (ii 1)) fun v => kk v h7) h7 fun x8 h9 => gdK x1 true (fun kk => vK (v_iaS 5 x4 x8) fun v => kk v h9) h9 fun x10 h11 => gdK x1 true (fun kk => vK (v_ldN 5 h11.get x10) fun v => kk v h11) h11 fun x12 h13 => gdK x1 true (fun kk => kk r0 h13) h13 fun x14 h15 => gdK x1 true (fun kk => kk r13 h15) h15 fun x16 h17 => gdK x1 true (fun kk => vK (v_iaS 5 x14 x16) fun v => kk v h17) h17 fun x18 h19 => gdK x1 true (fun kk => vK (v_ldN 5 h19.get x18) fun v => kk v h19) h19 fun x20 h21 => gdK x1 true (fun kk => wK (c_val E x2 [x12, x20] h21) kk) h21 fun x22 h23 => gdK x1 true (fun kk => vK (v_lss x22 (ii 0)) fun v => kk v h23) h23 fun x24 h25 => gdK x1 true (fun kk => vK (v_not x24) fun v => kk v h25) h25 fun x26 h27 => vK (v_pick x1 x26 (.bool false)) fun x28 => bK x28 (wK (callK E 162 [r0, r1, r2, r13, r4] h27) fun x29 h30 => i1 x29 r2 r3 r10 r11 h30) (wK (callK E 163 [r0, r1, r2, r13, r4] h27) fun x31 h32 => vK (v_ext 0 x31) fun x33 => vK (v_ext 1 x31) fun x34 => vK (v_sub x33 r1) fun x35 => vK (v_sub r2 x33) fun x36 => vK (v_quo r12 (ii 8)) fun x37 => vK (v_lss x35 x36) fun x38 => bK x38 (vK (v_geq x35 x37) fun x39 => wK (callK E 95 [r0, r1, x33, r3, r4] h32) fun x40 h41 => vK (v_add x33 (ii 1)) fun x42 => i1 x42 r2 r3 x39 x34 h41) (vK (v_geq x36 x37) fun x43 => vK (v_add x33 (ii 1)) fun x44 => wK (callK E 95 [r0, x44, r2, r3, r4] h32) fun x45 h46 => i1 r1 x33 r3 x43 x34 h46))
def J95_3 (i1 : DV → DV → DV → DV → DV → H → Ans) (r0 r1 r2 r3 r4 r10 r11 r12 r13 r14 : DV) (h : H) : Ans := gdK r10 true (fun kk => kk r11 h) h fun x1 h2 => vK (v_pick r10 x1 (.bool false)) fun x3 => gdK x3 true (fun kk => kk r14 h2) h2 fun x4 h5 => gdK x3 true (fun kk => vK (v_eql x4 (ii 1)) fun v => kk v h5) h5 fun x6 h7 => vK (v_pick x3 x6 (.bool false)) fun x8 => bK x8 (wK (callK E 161 [r0, r1, r2, r4] h7) fun x9 h10 => bK x9 (some ((.tup []), h10)) (J95_4 E i1 r0 r1 r2 r3 r4 r10 r11 r12 r13 h10)) (J95_4 E i1 r0 r1 r2 r3 r4 r10 r11 r12 r13 h7)
def J95_2 (i1 : DV → DV → DV → DV → DV → H → Ans) (r0 r1 r2 r3 r4 r10 r11 r12 : DV) (h : H) : Ans := wK (callK E 159 [r0, r1, r2, r4] h) fun x1 h2 => vK (v_ext 0 x1) fun x3 => vK (v_ext 1 x1) fun x4 => vK (v_eql x4 (ii 2)) fun x5 => bK x5 (wK (callK E 160 [r0, r1, r2, r4] h2) fun x6 h7 => vK (v_sub r2 (ii 1)) fun x8 => vK (v_sub x3 r1) fun x9 => vK (v_sub x8 x9) fun x10 => J95_3 E i1 r0 r1 r2 r3 r4 r10 r11 r12 x10 (ii 1) h7) (J95_3 E i1 r0 r1 r2 r3 r4 r10 r11 r12 x3 x4 h2)
def B95_1 (r0 r4 : DV) (i1 : DV → DV → DV → DV → DV → H → Ans) (r1 r2 r3 r10 r11 : DV) (h : H) : Ans := vK (v_sub r2 r1) fun x1 => vK (v_leq x1 (ii 12)) fun x2 => bK x2 (wK (callK E 156 [r0, r1, r2, r4] h) fun x3 h4 => some ((.tup []), h4)) (vK (v_eql r3 (ii 0)) fun x5 => bK x5 (wK (callK E 157 [r0, r1, r2, r4] h) fun x6 h7 => some ((.tup []), h7)) (vK (v_not r10) fun x8 => bK x8 (wK (callK E 158 [r0, r1, r2, r4] h) fun x9 h10 => vK (v_sub r3 (ii 1)) fun x11 => J95_2 E i1 r0 r1 r2 x11 r4 r10 r11 x1 h10) (J95_2 E i1 r0 r1 r2 r3 r4 r10 r11 x1 h)))
def L95_1 (r0 r4 : DV) (n : Nat) : DV → DV → DV → DV → DV → H → Ans := Nat.rec (motive := fun _ => DV → DV → DV → DV → DV → H → Ans) (fun _ _ _ _ _ _ => none) (fun _ i => B95_1 E r0 r4 i) n
def J95_0 (r0 r1 r2 r3 r4 : DV) (h : H) : Ans := L95_1 E r0 r4 FUEL r1 r2 r3 (.bool true) (.bool true) h
abbrev K95_5 (n1 : Nat) : KT2 (DV × H) := (thenK3 (fun σ h => (L95_1 E (σ p0) (σ p4) n1) (σ p1) (σ p2) (σ p3) (σ p10) (σ p11) h) (blockK3 0 (retK3 D95.res)))
theorem I95_4 (n1 : Nat) : Is E C95_4 (blockK3 1 (K95_5 E n1)) (fun σ h => J95_4 E (L95_1 E (σ p0) (σ p4) n1) (σ p0) (σ p1) (σ p2) (σ p3) (σ p4) (σ p10) (σ p11) (σ p12) (σ p13) h) := Is.rf
theorem I95_3 (n1 : Nat) : Is E C95_3 (blockK3 1 (K95_5 E n1)) (fun σ h => J95_3 E (L95_1 E (σ p0) (σ p4) n1) (σ p0) (σ p1) (σ p2) (σ p3) (σ p4) (σ p10) (σ p11) (σ p12) (σ p13) (σ p14) h) := Is.aq (Is.sq (I95_4 E n1) (Is.leaf _))
theorem I95_2 (n1 : Nat) : Is E C95_2 (blockK3 1 (K95_5 E n1)) (fun σ h => J95_2 E (L95_1 E (σ p0) (σ p4) n1) (σ p0) (σ p1) (σ p2) (σ p3) (σ p4) (σ p10) (σ p11) (σ p12) h) := Is.aq (Is.sq (Is.sq (I95_3 E n1) (Is.leaf _)) (Is.leaf _))
theorem I95_1 : Is E C95_1 (blockK3 0 (retK3 D95.res)) (fun σ h => L95_1 E (σ p0) (σ p4) FUEL (σ p1) (σ p2) (σ p3) (σ p10) (σ p11) h) := Is.lp (fun n1 σ h => L95_1 E (σ p0) (σ p4) n1 (σ p1) (σ p2) (σ p3) (σ p10) (σ p11) h) fun n1 => Is.aq (Is.bk (Is.sq (Is.sq (Is.sq (Is.sq (I95_2 E n1) (Is.leaf _)) (Is.leaf _)) (Is.leaf _)) (Is.leaf _)))
theorem I95_0 : iB5 E D95 (J95_0 E) := Is.aq (Is.sq (Is.sq (Is.bk (I95_1 E)) (Is.leaf _)) (Is.leaf _))
def S95 : Fun := fA5 (J95_0 E)
theorem S95_eq : SQ D95 S95 := eB5 I95_0
def D96 := cm 96
def J96_0 (r0 : DV) (h : H) : Ans := bK (.bool false) (vK (v_conv .u32 r0) fun x1 => wK (callK E 164 [x1] h) fun x2 h3 => some (x2, h3)) (wK (callK E 165 [r0] h) fun x4 h5 => some (x4, h5))
theorem I96_0 : iB1 E D96 (J96_0 E) := Is.rf
def S96 : Fun := fA1 (J96_0 E)
theorem S96_eq : SQ D96 S96 := eB1 I96_0
def D97 := cm 97
def J97_0 (E : Env) (r0 : DV) (h : H) : Ans := vK (v_neq r0 r0) fun x1 => some (x1, h)
theorem I97_0 : iB1 E D97 (J97_0 E) := Is.rf
def S97 : Fun := fA1 (J97_0 E)
theorem S97_eq : SQ D97 S97 := eB1 I97_0
def D98 := cm 98
def C98_1 := cr (cr (cr (cr D98.body)))
def C98_2 := cl (cr (cl (cr (cr (cr D98.body)))))
def J98_1 (E : Env) (r3 : DV) (h : H) : Ans := some (r3, h)
def B98_2 (r3 r4 r19 : DV) (i2 : DV → H → Ans) (r20 : DV) (h : H) : Ans := vK (v_lss r20 r19) fun x1 => bK x1 (vK (v_nilchk r3) fun x2 => vK (v_fa 0 x2) fun x3 => vK (v_ld h.get x3) fun x4 => vK (v_iaS 1 x4 r20) fun x5 => wK (dStF 1 x5 r4 h) fun x6 h7 => vK (v_add r20 (ii 1)) fun x8 => i2 x8 h7) (J98_1 E r3 h)
def L98_2 (r3 r4 r19 : DV) (n : Nat) : DV → H → Ans := Nat.rec (motive := fun _ => DV → H → Ans) (fun _ _ => none) (fun _ i => B98_2 E r3 r4 r19 i) n
def J98_0 (r0 : DV) (h : H) : Ans := n_mkm h fun x1 h2 => vK (v_mx r0 (ii 1)) fun x3 => vK (v_mn x3 (ii 4096)) fun x4 => n_mks 1 16 (.str []) x4 x4 h2 fun x5 h6 => vK (v_bld [.nils, .nilm, (.bool false)] [(1, 1, x1), (0, 1, x5)]) fun x7 => n_box x7 h6 fun x8 h9 => n_mks 1 1 (.int .u8 (.ofNat 0)) (ii 64) (ii 64) h9 fun x10 h11 => vK (v_b2s h11.get x10) fun x12 => vK (v_nilchk x8) fun x13 => vK (v_fa 0 x13) fun x14 => vK (v_ld h11.get x14) fun x15 => vK (v_lenL x15) fun x16 => L98_2 E x8 x12 x16 FUEL (ii 0) h11
theorem I98_1 : Is E C98_1 (retK3 D98.res) (fun σ h => J98_1 E (σ p3) h) := Is.rf
abbrev K98_3 : KT2 (DV × H) := (thenK3 (fun σ h => J98_1 E (σ p3) h) (retK3 D98.res))
theorem I98_2 : Is E C98_2 (blockK3 0 (K98_3 E)) (fun σ h => L98_2 E (σ p3) (σ p4) (σ p19) FUEL (σ p20) h) := Is.lp (fun n2 σ h => L98_2 E (σ p3) (σ p4) (σ p19) n2 (σ p20) h) fun n2 => Is.aq (Is.leaf _)
theorem I98_0 : iB1 E D98 (J98_0 E) := Is.aq (Is.sq (Is.sq (Is.sq (Is.sq (I98_1 E) (Is.sq (Is.bk (I98_2 E)) (Is.leaf _))) (Is.leaf _)) (Is.leaf _)) (Is.leaf _))
def S98 : Fun := fA1 (J98_0 E)
theorem S98_eq : SQ D98 S98 := eB1 I98_0
def D99 := cm 99
def C99_1 := cr (cr (cr (cr (cr (cl (cr D99.body))))))
def C99_2 := cl (cr (cl (cr (cr (cr (cr (cl (cr D99.body))))))))
def C99_3 := cr (cr (cr (cl C99_2)))
def C99_4 := cr (cr (cr (cr (cr (cl (cl (cr (cr (cl C99_2)))))))))
def J99_1 (E : Env) (r6 : DV) (h : H) : Ans := some ((.tup [r6, (ii 0)]), h)
def J99_3 (E : Env) (i2 : DV → H → Ans) (r24 : DV) (h : H) : Ans := vK (v_add r24 (ii 1)) fun x1 => i2 x1 h
def J99_4 (i2 : DV → H → Ans) (r6 r10 r24 : DV) (h : H) : Ans := vK (v_nilchk r6) fun x1 => vK (v_fa 1 x1) fun x2 => vK (v_ld h.get x2) fun x3 => vK (v_ldN 4 h.get r10) fun x4 => n_bsl 1 4 [(.bool false), (ii 0), (ii 0), (ii 0)] [(0, 4, x4)] h fun x5 h6 => wK (dAppendF 4 32 x3 x5 h6) fun x7 h8 => vK (v_nilchk r6) fun x9 => vK (v_fa 1 x9) fun x10 => wK (dStF 1 x10 x7 h8) fun x11 h12 => J99_3 E i2 r24 h12
def B99_2 (r0 r6 : DV) (i2 : DV → H → Ans) (r24 : DV) (h : H) : Ans := vK (v_lss r24 (ii 256)) fun x1 => bK x1 (vK (v_mul r24 (ii 9)) fun x2 => wK (callK E 166 [r0, x2, (ii 9)] h) fun x3 h4 => vK (v_ext 0 x3) fun x5 => vK (v_ext 1 x3) fun x6 => vK (v_eql x6 (ii 0)) fun x7 => bK x7 (wK (callK E 167 [x5] h4) fun x8 h9 => n_alc 4 4 (.list [(.bool false), (ii 0), (ii 0), (ii 0)]) h9 fun x10 h11 => wK (dStF 4 x10 x8 h11) fun x12 h13 => vK (v_fa 0 x10) fun x14 => vK (v_ld h13.get x14) fun x15 => gdK x15 true (fun kk => kk r6 h13) h13 fun x16 h17 => gdK x15 true (fun kk => vK (v_fa 1 x10) fun v => kk v h17) h17 fun x18 h19 => gdK x15 true (fun kk => vK (v_ldN 2 h19.get x18) fun v => kk v h19) h19 fun x20 h21 => gdK x15 true (fun kk => wK (callK E 168 [x16, x20] h21) kk) h21 fun x22 h23 => gdK x15 true (fun kk => vK (v_geq x22 (ii 0)) fun v => kk v h23) h23 fun x24 h25 => vK (v_pick x15 x24 (.bool false)) fun x26 => bK x26 (vK (v_bld [(.bool false), (ii 0), (ii 0), (ii 0)] []) fun x27 => wK (dStF 4 x10 x27 h25) fun x28 h29 => J99_4 E i2 r6 x10 r24 h29) (J99_4 E i2 r6 x10 r24 h25)) (vK (v_eql x6 (ii 5)) fun x30 => bK x30 (J99_1 E r6 h4) (some ((.tup [.nilp, x6]), h4)))) (J99_1 E r6 h)
def L99_2 (r0 r6 : DV) (n : Nat) : DV → H → Ans := Nat.rec (motive := fun _ => DV → H → Ans) (fun _ _ => none) (fun _ i => B99_2 E r0 r6 i) n
def J99_0 (r0 : DV) (h : H) : Ans := vK (v_eqv .ptr false h.get r0 .nilp) fun x1 => bK x1 (some ((.tup [.nilp, (ii 1)]), h)) (wK (callK E 166 [r0, (ii 0), (ii 1)] h) fun x2 h3 => vK (v_ext 0 x2) fun x4 => vK (v_ext 1 x2) fun x5 => vK (v_neq x5 (ii 0)) fun x6 => bK x6 (some ((.tup [.nilp, x5]), h3)) (vK (v_bld [.nilp, .nils, (.bool false)] [(0, 1, r0)]) fun x7 => n_box x7 h3 fun x8 h9 => L99_2 E r0 x8 FUEL (ii 0) h9))
theorem I99_1 : Is E C99_1 (scopeK3 (retK3 D99.res)) (fun σ h => J99_1 E (σ p6) h) := Is.rf
abbrev K99_5 : KT2 (DV × H) := (thenK3 (fun σ h => J99_1 E (σ p6) h) (scopeK3 (retK3 D99.res)))
abbrev K99_6 (n2 : Nat) : KT2 (DV × H) := (thenK3 (fun σ h => (L99_2 E (σ p0) (σ p6) n2) (σ p24) h) (blockK3 0 (K99_5 E)))
theorem I99_3 (n2 : Nat) : Is E C99_3 (K99_6 E n2) (fun σ h => J99_3 E (L99_2 E (σ p0) (σ p6) n2) (σ p24) h) := Is.rf
abbrev K99_7 (n2 : Nat) : KT2 (DV × H) := (thenK3 (fun σ h => J99_3 E (L99_2 E (σ p0) (σ p6) n2) (σ p24) h) (K99_6 E n2))
theorem I99_4 (n2 : Nat) : Is E C99_4 (blockK3 1 (K99_7 E n2)) (fun σ h => J99_4 E (L99_2 E (σ p0) (σ p6) n2) (σ p6) (σ p10) (σ p24) h) := Is.rf
theorem I99_2 : Is E C99_2 (blockK3 0 (K99_5 E)) (fun σ h => L99_2 E (σ p0) (σ p6) FUEL (σ p24) h) := Is.lp (fun n2 σ h => L99_2 E (σ p0) (σ p6) n2 (σ p24) h) fun n2 => Is.aq (Is.sq (Is.sq (Is.sq (I99_3 E n2) (Is.bk (Is.sq (Is.sq (Is.sq (Is.sq (Is.sq (I99_4 E n2) (Is.leaf _)) (Is.leaf _)) (Is.leaf _)) (Is.leaf _)) (Is.leaf _)))) (Is.leaf _)) (Is.leaf _))
theorem I99_0 : iB1 E D99 (J99_0 E) := Is.aq (Is.sq (Is.sc (Is.sq (Is.sq (Is.sq (Is.sq (Is.sq (I99_1 E) (Is.sq (Is.bk (I99_2 E)) (Is.leaf _))) (Is.leaf _)) (Is.leaf _)) (Is.leaf _)) (Is.leaf _))) (Is.leaf _))
def S99 : Fun := fA1 (J99_0 E)
theorem S99_eq : SQ D99 S99 := eB1 I99_0
def D100 := cm 100
def J100_0 (r0 r1 : DV) (h : H) : Ans := wK (callK E 169 [r0, r1] h) fun x1 h2 => vK (v_not x1) fun x3 => bK x3 (some (.nilp, h2)) (wK (callK E 170 [r0] h2) fun x4 h5 => wK (callK E 170 [r1] h5) fun x6 h7 => vK (v_bld [.nils, .nils, (ii 0), (ii 0), (.bool false), (ii 0)] [(0, 1, x4), (1, 1, x6), (2, 1, (ii 1)), (3, 1, (.int .i64 (.negSucc 0))), (5, 1, (.int .i64 (.negSucc 0)))]) fun x8 => n_box x8 h7 fun x9 h10 => some (x9, h10))
theorem I100_0 : iB2 E D100 (J100_0 E) := Is.rf
def S100 : Fun := fA2 (J100_0 E)
theorem S100_eq : SQ D100 S100 := eB2 I100_0
def D101 := cm 101
def J101_0 (E : Env) (h : H) : Ans := vK (v_bld [.nils, (ii 0)] []) fun x1 => n_box x1 h fun x2 h3 => some (x2, h3)
theorem I101_0 : iB0 E D101 (J101_0 E) := Is.rf
def S101 : Fun := fA0 (J101_0 E)
theorem S101_eq : SQ D101 S101 := eB0 I101_0
def D102 := cm 102
def J102_0 (E : Env) (h : H) : Ans := vK (v_bld (zR [(ii 0)] 1024 ++ []) []) fun x1 => n_box x1 h fun x2 h3 => some (x2, h3)
theorem I102_0 : iB0 E D102 (J102_0 E) := Is.rf
def S102 : Fun := fA0 (J102_0 E)
theorem S102_eq : SQ D102 S102 := eB0 I102_0
def D103 := cm 103
def J103_0 (E : Env) (h : H) : Ans := vK (v_bld [.nils] []) fun x1 => n_box x1 h fun x2 h3 => some (x2, h3)
theorem I103_0 : iB0 E D103 (J103_0 E) := Is.rf
def S103 : Fun := fA0 (J103_0 E)
theorem S103_eq : SQ D103 S103 := eB0 I103_0
def D104 := cm 104
def J104_0 (E : Env) (h : H) : Ans := n_mkm h fun x1 h2 => vK (v_bld [.nilm, (ii 0)] [(0, 1, x1)]) fun x3 => n_box x3 h2 fun x4 h5 => some (x4, h5)
theorem I104_0 : iB0 E D104 (J104_0 E) := Is.rf
def S104 : Fun := fA0 (J104_0 E)
theorem S104_eq : SQ D104 S104 := eB0 I104_0
def D105 := cm 105
def J105_0 (E : Env) (r0 : DV) (h : H) : Ans := vK (v_mx r0 (ii 1)) fun x1 => vK (v_mn x1 (ii 16)) fun x2 => n_mkm h fun x3 h4 => vK (v_bld [(ii 0), .nilm] [(0, 1, x2), (1, 1, x3)]) fun x5 => n_box x5 h4 fun x6 h7 => some (x6, h7)
theorem I105_0 : iB1 E D105 (J105_0 E) := Is.rf
def S105 : Fun := fA1 (J105_0 E)
theorem S105_eq : SQ D105 S105 := eB1 I105_0
def D106 := cm 106
def C106_1 := cr (cr (cr (cr (cr D106.body))))
def C106_2 := cl (cr (cl (cr (cr (cr (cr D106.body))))))
def J106_1 (E : Env) (r5 : DV) (h : H) : Ans := some ((.tup [r5, (.bool true)]), h)
def B106_2 (r0 r4 r25 r26 : DV) (i2 : DV → DV → H → Ans) (r5 r27 : DV) (h : H) : Ans := vK (v_lss r27 r26) fun x1 => bK x1 (vK (v_iaS 5 r25 r27) fun x2 => vK (v_ldN 5 h.get x2) fun x3 => n_alc 5 5 (.list [(ii 0), (ii 0), (ii 0), (ii 0), .nils]) h fun x4 h5 => wK (dStF 5 x4 x3 h5) fun x6 h7 => vK (v_fa 1 x4) fun x8 => vK (v_ld h7.get x8) fun x9 => vK (v_iaS 5 r0 (ii 0)) fun x10 => vK (v_fa 1 x10) fun x11 => vK (v_ld h7.get x11) fun x12 => vK (v_add x12 r27) fun x13 => vK (v_neq x9 x13) fun x14 => gdK x14 false (fun kk => vK (v_fa 2 x4) fun v => kk v h7) h7 fun x15 h16 => gdK x14 false (fun kk => vK (v_ld h16.get x15) fun v => kk v h16) h16 fun x17 h18 => gdK x14 false (fun kk => kk r27 h18) h18 fun x19 h20 => gdK x14 false (fun kk => vK (v_neq x17 x19) fun v => kk v h20) h20 fun x21 h22 => vK (v_pick x14 (.bool true) x21) fun x23 => gdK x23 false (fun kk => vK (v_fa 3 x4) fun v => kk v h22) h22 fun x24 h25 => gdK x23 false (fun kk => vK (v_ld h25.get x24) fun v => kk v h25) h25 fun x26 h27 => gdK x23 false (fun kk => kk r4 h27) h27 fun x28 h29 => gdK x23 false (fun kk => vK (v_neq x26 x28) fun v => kk v h29) h29 fun x30 h31 => vK (v_pick x23 (.bool true) x30) fun x32 => bK x32 (some ((.tup [(.str []), (.bool false)]), h31)) (vK (v_fa 4 x4) fun x33 => vK (v_ld h31.get x33) fun x34 => vK (v_iaS 1 x34 (ii 0)) fun x35 => vK (v_ld h31.get x35) fun x36 => vK (v_add r5 x36) fun x37 => vK (v_add r27 (ii 1)) fun x38 => i2 x37 x38 h31)) (J106_1 E r5 h)
def L106_2 (r0 r4 r25 r26 : DV) (n : Nat) : DV → DV → H → Ans := Nat.rec (motive := fun _ => DV → DV → H → Ans) (fun _ _ _ => none) (fun _ i => B106_2 E r0 r4 r25 r26 i) n
def J106_0 (r0 : DV) (h : H) : Ans := vK (v_iaS 5 r0 (ii 0)) fun x1 => vK (v_fa 3 x1) fun x2 => vK (v_ld h.get x2) fun x3 => vK (v_iaS 5 r0 (ii 0)) fun x4 => vK (v_fa 2 x4) fun x5 => vK (v_ld h.get x5) fun x6 => vK (v_neq x6 (ii 0)) fun x7 => gdK x7 false (fun kk => kk x3 h) h fun x8 h9 => gdK x7 false (fun kk => kk r0 h9) h9 fun x10 h11 => gdK x7 false (fun kk => vK (v_lenL x10) fun v => kk v h11) h11 fun x12 h13 => gdK x7 false (fun kk => vK (v_gtr x8 x12) fun v => kk v h13) h13 fun x14 h15 => vK (v_pick x7 (.bool true) x14) fun x16 => bK x16 (some ((.tup [(.str []), (.bool false)]), h15)) (vK (v_slL 5 r0 none (some x3)) fun x17 => vK (v_lenL x17) fun x18 => L106_2 E r0 x3 x17 x18 FUEL (.str []) (ii 0) h15)
theorem I106_1 : Is E C106_1 (retK3 D106.res) (fun σ h => J106_1 E (σ p5) h) := Is.rf
abbrev K106_3 : KT2 (DV × H) := (thenK3 (fun σ h => J106_1 E (σ p5) h) (retK3 D106.res))
theorem I106_2 : Is E C106_2 (blockK3 0 (K106_3 E)) (fun σ h => L106_2 E (σ p0) (σ p4) (σ p25) (σ p26) FUEL (σ p5) (σ p27) h) := Is.lp (fun n2 σ h => L106_2 E (σ p0) (σ p4) (σ p25) (σ p26) n2 (σ p5) (σ p27) h) fun n2 => Is.aq (Is.leaf _)
theorem I106_0 : iB1 E D106 (J106_0 E) := Is.aq (Is.sq (Is.sq (Is.sq (Is.sq (Is.sq (I106_1 E) (Is.sq (Is.bk (I106_2 E)) (Is.leaf _))) (Is.leaf _)) (Is.leaf _)) (Is.leaf _)) (Is.leaf _))
def S106 : Fun := fA1 (J106_0 E)
theorem S106_eq : SQ D106 S106 := eB1 I106_0
def D107 := cm 107
def C107_1 := cr (cr (cr (cr (cr (cr (cr D107.body))))))
def C107_2 := cl (cr (cl (cr (cr (cr (cr (cr (cr D107.body))))))))
def J107_1 (r4 r5 : DV) (h : H) : Ans := wK (callK E 113 [r4] h) fun x1 h2 => vK (v_neq x1 (ii 0)) fun x3 => gdK x3 false (fun kk => kk r5 h2) h2 fun x4 h5 => gdK x3 false (fun kk => wK (callK E 172 [x4] h5) kk) h5 fun x6 h7 => gdK x3 false (fun kk => vK (v_not x6) fun v => kk v h7) h7 fun x8 h9 => vK (v_pick x3 (.bool true) x8) fun x10 => bK x10 (some ((.tup [.nilp, (ii 3)]), h9)) (some ((.tup [r5, (ii 0)]), h9))
def B107_2 (r4 r5 r34 : DV) (i2 : DV → DV → H → Ans) (r7 r35 : DV) (h : H) : Ans := vK (v_lss r35 r34) fun x1 => bK x1 (wK (callK E 171 [r5, r4, r7] h) fun x2 h3 => vK (v_ext 0 x2) fun x4 => vK (v_ext 1 x2) fun x5 => vK (v_not x5) fun x6 => bK x6 (some ((.tup [.nilp, (ii 3)]), h3)) (vK (v_add r35 (ii 1)) fun x7 => i2 x4 x7 h3)) (J107_1 E r4 r5 h)
def L107_2 (r4 r5 r34 : DV) (n : Nat) : DV → DV → H → Ans := Nat.rec (motive := fun _ => DV → DV → H → Ans) (fun _ _ _ => none) (fun _ i => B107_2 E r4 r5 r34 i) n
def J107_0 (r0 : DV) (h : H) : Ans := wK (callK E 109 [r0] h) fun x1 h2 => vK (v_bld (zR [(ii 0), .nili] 256 ++ [(ii 0), (ii 0)]) []) fun x3 => n_box x3 h2 fun x4 h5 => wK (callK E 111 [x1] h5) fun x6 h7 => vK (v_nilchk x4) fun x8 => vK (v_fa 512 x8) fun x9 => wK (dStF 1 x9 x6 h7) fun x10 h11 => wK (callK E 111 [x1] h11) fun x12 h13 => vK (v_nilchk x4) fun x14 => vK (v_fa 512 x14) fun x15 => vK (v_ld h13.get x15) fun x16 => vK (v_lss x16 (ii 0)) fun x17 => gdK x17 false (fun kk => kk x12 h13) h13 fun x18 h19 => gdK x17 false (fun kk => vK (v_lss x18 (ii 0)) fun v => kk v h19) h19 fun x20 h21 => vK (v_pick x17 (.bool true) x20) fun x22 => gdK x22 false (fun kk => kk x12 h21) h21 fun x23 h24 => gdK x22 false (fun kk => vK (v_geq x23 (ii 256)) fun v => kk v h24) h24 fun x25 h26 => vK (v_pick x22 (.bool true) x25) fun x27 => bK x27 (some ((.tup [.nilp, (ii 3)]), h26)) (L107_2 E x1 x4 x12 FUEL (ii 0) (ii 0) h26)
theorem I107_1 : Is E C107_1 (retK3 D107.res) (fun σ h => J107_1 E (σ p4) (σ p5) h) := Is.rf
abbrev K107_3 : KT2 (DV × H) := (thenK3 (fun σ h => J107_1 E (σ p4) (σ p5) h) (retK3 D107.res))
theorem I107_2 : Is E C107_2 (blockK3 0 (K107_3 E)) (fun σ h => L107_2 E (σ p4) (σ p5) (σ p34) FUEL (σ p7) (σ p35) h) := Is.lp (fun n2 σ h => L107_2 E (σ p4) (σ p5) (σ p34) n2 (σ p7) (σ p35) h) fun n2 => Is.aq (Is.leaf _)
theorem I107_0 : iB1 E D107 (J107_0 E) := Is.aq (Is.sq (Is.sq (Is.sq (Is.sq (Is.sq (Is.sq (Is.sq (I107_1 E) (Is.sq (Is.bk (I107_2 E)) (Is.leaf _))) (Is.leaf _)) (Is.leaf _)) (Is.leaf _)) (Is.leaf _)) (Is.leaf _)) (Is.leaf _))
def S107 : Fun := fA1 (J107_0 E)
theorem S107_eq : SQ D107 S107 := eB1 I107_0
def D108 := cm 108
def J108_0 (h : H) : Ans := vK (v_bld (zR [(ii 0), .nili] 256 ++ [(ii 0), (ii 0)]) []) fun x1 => n_box x1 h fun x2 h3 => vK (v_nilchk x2) fun x4 => vK (v_fa 0 x4) fun x5 => wK (callK E 115 [] h3) fun x6 h7 => vK (v_bld [.nilp] [(0, 1, x6)]) fun x8 => vK (v_iaA 256 2 x5 (ii 1)) fun x9 => vK (v_fa 1 x9) fun x10 => wK (dStF 1 x10 (.ifc 192 x8) h7) fun x11 h12 => some (x2, h12)
theorem I108_0 : iB0 E D108 (J108_0 E) := Is.rf
def S108 : Fun := fA0 (J108_0 E)
theorem S108_eq : SQ D108 S108 := eB0 I108_0
def D109 := cm 109
def J109_0 (E : Env) (r0 : DV) (h : H) : Ans := vK (v_bld [(.str []), (.bool false)] [(0, 1, r0)]) fun x1 => n_box x1 h fun x2 h3 => some (x2, h3)
theorem I109_0 : iB1 E D109 (J109_0 E) := Is.rf
def S109 : Fun := fA1 (J109_0 E)
theorem S109_eq : SQ D109 S109 := eB1 I109_0
def D110 := cm 110
def J110_0 (r0 : DV) (h : H) : Ans := wK (callK E 173 [r0, (ii 1)] h) fun x1 h2 => vK (v_ext 0 x1) fun x3 => vK (v_ext 1 x1) fun x4 => bK x4 (vK (v_ixS x3 (ii 0)) fun x5 => vK (v_conv .i64 x5) fun x6 => some (x6, h2)) (some ((ii 0), h2))
theorem I110_0 : iB1 E D110 (J110_0 E) := Is.rf
def S110 : Fun := fA1 (J110_0 E)
theorem S110_eq : SQ D110 S110 := eB1 I110_0
def D111 := cm 111
def J111_0 (r0 : DV) (h : H) : Ans := vK (v_eqv .ptr false h.get r0 .nilp) fun x1 => bK x1 (some ((ii 0), h)) (vK (v_nilchk r0) fun x2 => vK (v_fa 0 x2) fun x3 => vK (v_ld h.get x3) fun x4 => wK (callK E 174 [x4] h) fun x5 h6 => vK (v_ext 0 x5) fun x7 => vK (v_ext 1 x5) fun x8 => vK (v_eql x8 (ii 0)) fun x9 => bK x9 (wK (callK E 175 [r0] h6) fun x10 h11 => some ((ii 0), h11)) (wK (callK E 173 [r0, x8] h6) fun x12 h13 => vK (v_shr x7 (.int .u64 (.ofNat 1))) fun x14 => vK (v_conv .i64 x14) fun x15 => vK (v_and x7 (.int .u64 (.ofNat 1))) fun x16 => vK (v_conv .i64 x16) fun x17 => vK (v_neg x17) fun x18 => vK (v_xor x15 x18) fun x19 => some (x19, h13)))
theorem I111_0 : iB1 E D111 (J111_0 E) := Is.rf
def S111 : Fun := fA1 (J111_0 E)
theorem S111_eq : SQ D111 S111 := eB1 I111_0
def D112 := cm 112
def J112_0 (r0 : DV) (h : H) : Ans := wK (callK E 111 [r0] h) fun x1 h2 => wK (callK E 173 [r0, x1] h2) fun x3 h4 => vK (v_ext 0 x3) fun x5 => vK (v_ext 1 x3) fun x6 => some (x5, h4)
theorem I112_0 : iB1 E D112 (J112_0 E) := Is.rf
def S112 : Fun := fA1 (J112_0 E)
theorem S112_eq : SQ D112 S112 := eB1 I112_0
def D113 := cm 113
def J113_0 (E : Env) (r0 : DV) (h : H) : Ans := vK (v_eqv .ptr false h.get r0 .nilp) fun x1 => bK x1 (some ((ii 1), h)) (vK (v_nilchk r0) fun x2 => vK (v_fa 1 x2) fun x3 => vK (v_ld h.get x3) fun x4 => gdK x4 false (fun kk => kk r0 h) h fun x5 h6 => gdK x4 false (fun kk => vK (v_nilchk x5) fun v => kk v h6) h6 fun x7 h8 => gdK x4 false (fun kk => vK (v_fa 0 x7) fun v => kk v h8) h8 fun x9 h10 => gdK x4 false (fun kk => vK (v_ld h10.get x9) fun v => kk v h10) h10 fun x11 h12 => gdK x4 false (fun kk => vK (v_neq x11 (.str [])) fun v => kk v h12) h12 fun x13 h14 => vK (v_pick x4 (.bool true) x13) fun x15 => bK x15 (some ((ii 3), h14)) (some ((ii 0), h14)))
theorem I113_0 : iB1 E D113 (J113_0 E) := Is.rf
def S113 : Fun := fA1 (J113_0 E)
theorem S113_eq : SQ D113 S113 := eB1 I113_0
def D114 := cm 114
def J114_0 (r0 r1 r2 : DV) (h : H) : Ans := wK (callK E 118 [r0, r1] h) fun x1 h2 => vK (v_ext 0 x1) fun x3 => vK (v_ext 1 x1) fun x4 => n_alc 2 2 (.list [.nilp, (.str [])]) h2 fun x5 h6 => wK (dStF 2 x5 x3 h6) fun x7 h8 => vK (v_neq x4 (ii 0)) fun x9 => bK x9 (some (x4, h8)) (vK (v_ldN 2 h8.get x5) fun x10 => wK (callK E 123 [x10] h8) fun x11 h12 => bK x11 (some ((ii 6), h12)) (wK (callK E 176 [r0] h12) fun x13 h14 => vK (v_eql x13 (ii 0)) fun x15 => bK x15 (some ((ii 5), h14)) (vK (v_nilchk r0) fun x16 => vK (v_fa 512 x16) fun x17 => vK (v_ld h14.get x17) fun x18 => vK (v_add x18 (ii 1)) fun x19 => vK (v_nilchk r0) fun x20 => vK (v_fa 512 x20) fun x21 => wK (dStF 1 x21 x19 h14) fun x22 h23 => vK (v_nilchk r0) fun x24 => vK (v_fa 512 x24) fun x25 => vK (v_ld h23.get x25) fun x26 => vK (v_bld [(ii 0), .nili] [(0, 1, x26), (1, 1, r2)]) fun x27 => vK (v_nilchk r0) fun x28 => vK (v_fa 0 x28) fun x29 => vK (v_iaA 256 2 x29 x13) fun x30 => wK (dStF 2 x30 x27 h23) fun x31 h32 => vK (v_fa 0 x5) fun x33 => vK (v_ld h32.get x33) fun x34 => vK (v_fa 1 x5) fun x35 => vK (v_ld h32.get x35) fun x36 => wK (callK E 124 [x34, x36, x13] h32) fun x37 h38 => some ((ii 0), h38))))
theorem I114_0 : iB3 E D114 (J114_0 E) := Is.rf
def S114 : Fun := fA3 (J114_0 E)
theorem S114_eq : SQ D114 S114 := eB3 I114_0
def D115 := cm 115
def J115_0 (E : Env) (h : H) : Ans := vK (v_bld [.nils] []) fun x1 => n_box x1 h fun x2 h3 => some (x2, h3)
theorem I115_0 : iB0 E D115 (J115_0 E) := Is.rf
def S115 : Fun := fA0 (J115_0 E)
theorem S115_eq : SQ D115 S115 := eB0 I115_0
def D116 := cm 116
def J116_0 (r0 r1 : DV) (h : H) : Ans := vK (v_eqv .ptr false h.get r0 .nilp) fun x1 => bK x1 (some ((.tup [(ii 0), (ii 1)]), h)) (wK (callK E 177 [r1] h) fun x2 h3 => vK (v_ext 0 x2) fun x4 => vK (v_ext 1 x2) fun x5 => vK (v_neq x5 (ii 0)) fun x6 => bK x6 (some ((.tup [(ii 0), x5]), h3)) (wK (callK E 178 [r0, x4] h3) fun x7 h8 => vK (v_ext 0 x7) fun x9 => vK (v_ext 1 x7) fun x10 => some ((.tup [x9, x10]), h8)))
theorem I116_0 : iB2 E D116 (J116_0 E) := Is.rf
def S116 : Fun := fA2 (J116_0 E)
theorem S116_eq : SQ D116 S116 := eB2 I116_0
def D117 := cm 117
def J117_0 (E : Env) (r0 r1 : DV) (h : H) : Ans := vK (v_nilchk r0) fun x1 => vK (v_fa 0 x1) fun x2 => vK (v_iaA 256 2 x2 r1) fun x3 => vK (v_fa 1 x3) fun x4 => vK (v_ld h.get x4) fun x5 => vK (v_tas 193 .nilp true x5) fun x6 => vK (v_ext 0 x6) fun x7 => vK (v_ext 1 x6) fun x8 => some (x7, h)
theorem I117_0 : iB2 E D117 (J117_0 E) := Is.rf
def S117 : Fun := fA2 (J117_0 E)
theorem S117_eq : SQ D117 S117 := eB2 I117_0
def D118 := cm 118
def J118_0 (r0 r1 : DV) (h : H) : Ans := n_alc 2 2 (.list [.nilp, (.str [])]) h fun x1 h2 => vK (v_eqv .ptr false h2.get r0 .nilp) fun x3 => bK x3 (vK (v_bld [.nilp, (.str [])] []) fun x4 => wK (dStF 2 x1 x4 h2) fun x5 h6 => vK (v_ldN 2 h6.get x1) fun x7 => some ((.tup [x7, (ii 1)]), h6)) (wK (callK E 177 [r1] h2) fun x8 h9 => vK (v_ext 0 x8) fun x10 => vK (v_ext 1 x8) fun x11 => vK (v_neq x11 (ii 0)) fun x12 => gdK x12 false (fun kk => kk x10 h9) h9 fun x13 h14 => gdK x12 false (fun kk => vK (v_lenL x13) fun v => kk v h14) h14 fun x15 h16 => gdK x12 false (fun kk => vK (v_eql x15 (ii 0)) fun v => kk v h16) h16 fun x17 h18 => vK (v_pick x12 (.bool true) x17) fun x19 => bK x19 (vK (v_bld [.nilp, (.str [])] []) fun x20 => wK (dStF 2 x1 x20 h18) fun x21 h22 => vK (v_ldN 2 h22.get x1) fun x23 => some ((.tup [x23, (ii 15)]), h22)) (vK (v_lenL x10) fun x24 => vK (v_sub x24 (ii 1)) fun x25 => vK (v_slL 1 x10 none (some x25)) fun x26 => wK (callK E 178 [r0, x26] h18) fun x27 h28 => vK (v_ext 0 x27) fun x29 => vK (v_ext 1 x27) fun x30 => vK (v_neq x30 (ii 0)) fun x31 => bK x31 (vK (v_bld [.nilp, (.str [])] []) fun x32 => wK (dStF 2 x1 x32 h28) fun x33 h34 => vK (v_ldN 2 h34.get x1) fun x35 => some ((.tup [x35, x30]), h34)) (wK (callK E 120 [r0, x29] h28) fun x36 h37 => vK (v_eqv .ptr false h37.get x36 .nilp) fun x38 => bK x38 (vK (v_bld [.nilp, (.str [])] []) fun x39 => wK (dStF 2 x1 x39 h37) fun x40 h41 => vK (v_ldN 2 h41.get x1) fun x42 => some ((.tup [x42, (ii 13)]), h41)) (vK (v_iaS 1 x10 x25) fun x43 => vK (v_ld h37.get x43) fun x44 => vK (v_bld [.nilp, (.str [])] [(0, 1, x36), (1, 1, x44)]) fun x45 => wK (dStF 2 x1 x45 h37) fun x46 h47 => vK (v_ldN 2 h47.get x1) fun x48 => some ((.tup [x48, (ii 0)]), h47)))))
theorem I118_0 : iB2 E D118 (J118_0 E) := Is.rf
def S118 : Fun := fA2 (J118_0 E)
theorem S118_eq : SQ D118 S118 := eB2 I118_0
def D120 := cm 120
def J120_0 (E : Env) (r0 r1 : DV) (h : H) : Ans := vK (v_nilchk r0) fun x1 => vK (v_fa 0 x1) fun x2 => vK (v_iaA 256 2 x2 r1) fun x3 => vK (v_fa 1 x3) fun x4 => vK (v_ld h.get x4) fun x5 => vK (v_tas 192 (.agg [.nilp]) true x5) fun x6 => vK (v_ext 0 x6) fun x7 => vK (v_ext 1 x6) fun x8 => n_alc 1 1 (.list [.nilp]) h fun x9 h10 => wK (dStF 1 x9 x7 h10) fun x11 h12 => vK (v_not x8) fun x13 => bK x13 (some (.nilp, h12)) (vK (v_fa 0 x9) fun x14 => vK (v_ld h12.get x14) fun x15 => some (x15, h12))
theorem I120_0 : iB2 E D120 (J120_0 E) := Is.rf
def S120 : Fun := fA2 (J120_0 E)
theorem S120_eq : SQ D120 S120 := eB2 I120_0
def D121 := cm 121
def J121_0 (E : Env) (r0 : DV) (h : H) : Ans := vK (v_eqv .ptr false h.get r0 .nilp) fun x1 => bK x1 (some ((ii 0), h)) (vK (v_nilchk r0) fun x2 => vK (v_fa 0 x2) fun x3 => vK (v_ld h.get x3) fun x4 => vK (v_lenL x4) fun x5 => some (x5, h))
theorem I121_0 : iB1 E D121 (J121_0 E) := Is.rf
def S121 : Fun := fA1 (J121_0 E)
theorem S121_eq : SQ D121 S121 := eB1 I121_0
def D123 := cm 123
def J123_0 (r0 : DV) (h : H) : Ans := n_box r0 h fun x1 h2 => vK (v_fa 0 x1) fun x3 => vK (v_ld h2.get x3) fun x4 => vK (v_fa 1 x1) fun x5 => vK (v_ld h2.get x5) fun x6 => wK (callK E 182 [x4, x6] h2) fun x7 h8 => vK (v_ext 0 x7) fun x9 => vK (v_ext 1 x7) fun x10 => vK (v_eql x10 (ii 0)) fun x11 => some (x11, h8)
theorem I123_0 : iB1 E D123 (J123_0 E) := Is.rf
def S123 : Fun := fA1 (J123_0 E)
theorem S123_eq : SQ D123 S123 := eB1 I123_0
def D124 := cm 124
def J124_0 (r0 r1 r2 : DV) (h : H) : Ans := vK (v_eqv .ptr false h.get r0 .nilp) fun x1 => gdK x1 false (fun kk => kk r2 h) h fun x2 h3 => gdK x1 false (fun kk => vK (v_lss x2 (ii 1)) fun v => kk v h3) h3 fun x4 h5 => vK (v_pick x1 (.bool true) x4) fun x6 => gdK x6 false (fun kk => kk r2 h5) h5 fun x7 h8 => gdK x6 false (fun kk => vK (v_geq x7 (ii 256)) fun v => kk v h8) h8 fun x9 h10 => vK (v_pick x6 (.bool true) x9) fun x11 => bK x11 (some ((ii 1), h10)) (wK (callK E 183 [r1] h10) fun x12 h13 => vK (v_not x12) fun x14 => bK x14 (some ((ii 15), h13)) (wK (callK E 179 [r0, r1] h13) fun x15 h16 => vK (v_ext 0 x15) fun x17 => vK (v_ext 1 x15) fun x18 => bK x18 (some ((ii 6), h16)) (vK (v_nilchk r0) fun x19 => vK (v_fa 0 x19) fun x20 => vK (v_ld h16.get x20) fun x21 => vK (v_bld [(.str []), (ii 0)] [(0, 1, r1), (1, 1, r2)]) fun x22 => n_bsl 1 2 [(.str []), (ii 0)] [(0, 2, x22)] h16 fun x23 h24 => wK (callK E 184 [x21, x17, x23] h24) fun x25 h26 => vK (v_nilchk r0) fun x27 => vK (v_fa 0 x27) fun x28 => wK (dStF 1 x28 x25 h26) fun x29 h30 => some ((ii 0), h30))))
theorem I124_0 : iB3 E D124 (J124_0 E) := Is.rf
def S124 : Fun := fA3 (J124_0 E)
theorem S124_eq : SQ D124 S124 := eB3 I124_0
def D127 := cm 127
def J127_0 (r0 r1 : DV) (h : H) : Ans := vK (v_lss r1 (ii 0)) fun x1 => gdK x1 false (fun kk => kk r1 h) h fun x2 h3 => gdK x1 false (fun kk => vK (v_gtr x2 (ii 65536)) fun v => kk v h3) h3 fun x4 h5 => vK (v_pick x1 (.bool true) x4) fun x6 => bK x6 (some ((.tup [(.str []), (ii 1)]), h5)) (vK (v_lenS r0) fun x7 => vK (v_gtr x7 r1) fun x8 => bK x8 (some ((.tup [(.str []), (ii 2)]), h5)) (vK (v_lenS r0) fun x9 => vK (v_sub r1 x9) fun x10 => wK (callK E 186 [x10] h5) fun x11 h12 => vK (v_add r0 x11) fun x13 => some ((.tup [x13, (ii 0)]), h12)))
theorem I127_0 : iB2 E D127 (J127_0 E) := Is.rf
def S127 : Fun := fA2 (J127_0 E)
theorem S127_eq : SQ D127 S127 := eB2 I127_0
def D130 := cm 130
def C130_1 := cr (cr (cr (cr (cr (cr D130.body)))))
def J130_1 (E : Env) (r4 r9 : DV) (h : H) : Ans := vK (v_ldN 5 h.get r9) fun x1 => wK (dStF 5 r4 x1 h) fun x2 h3 => vK (v_ldN 5 h3.get r4) fun x4 => some ((.tup [x4, (ii 0)]), h3)
def J130_0 (r0 r1 : DV) (h : H) : Ans := n_alc 5 5 (.list [(ii 0), (ii 0), (ii 0), (ii 0), (ii 0)]) h fun x1 h2 => wK (callK E 116 [r0, r1] h2) fun x3 h4 => vK (v_ext 0 x3) fun x5 => vK (v_ext 1 x3) fun x6 => vK (v_neq x6 (ii 0)) fun x7 => bK x7 (vK (v_bld [(ii 0), (ii 0), (ii 0), (ii 0), (ii 0)] []) fun x8 => wK (dStF 5 x1 x8 h4) fun x9 h10 => vK (v_ldN 5 h10.get x1) fun x11 => some ((.tup [x11, x6]), h10)) (vK (v_nilchk r0) fun x12 => vK (v_fa 0 x12) fun x13 => vK (v_iaA 256 2 x13 x5) fun x14 => vK (v_ldN 2 h4.get x14) fun x15 => n_alc 2 2 (.list [(ii 0), .nili]) h4 fun x16 h17 => wK (dStF 2 x16 x15 h17) fun x18 h19 => vK (v_fa 0 x16) fun x20 => vK (v_ld h19.get x20) fun x21 => vK (v_fa 1 x16) fun x22 => vK (v_ld h19.get x22) fun x23 => vK (v_fa 1 x16) fun x24 => vK (v_ld h19.get x24) fun x25 => n_alc 5 5 (.list [(ii 0), (ii 0), (ii 0), (ii 0), (ii 0)]) h19 fun x26 h27 => wK (c_mth E [(192, 366), (193, 370)] x23 [] h27) fun x28 h29 => rK (rcK (v_ld h29.get x24) x25) <| rK (rcK (v_ld h29.get x20) x21) <| wK (c_mth E [(192, 367), (193, 371)] x25 [] h29) fun x30 h31 => rK (rcK (v_ld h31.get x20) x21) <| vK (v_bld [(ii 0), (ii 0), (ii 0), (ii 0), (ii 0)] [(0, 1, x5), (1, 1, x21), (2, 1, x28), (3, 1, x30), (4, 1, (ii 1))]) fun x32 => wK (dStF 5 x26 x32 h31) fun x33 h34 => wK (callK E 117 [r0, x5] h34) fun x35 h36 => vK (v_eqv .ptr true h36.get x35 .nilp) fun x37 => bK x37 (vK (v_nilchk x35) fun x38 => vK (v_fa 1 x38) fun x39 => vK (v_ld h36.get x39) fun x40 => vK (v_fa 4 x26) fun x41 => wK (dStF 1 x41 x40 h36) fun x42 h43 => J130_1 E x1 x26 h43) (J130_1 E x1 x26 h36))
theorem I130_1 : Is E C130_1 (retK3 D130.res) (fun σ h => J130_1 E (σ p4) (σ p9) h) := Is.rf
theorem I130_0 : iB2 E D130 (J130_0 E) := Is.aq (Is.sq (Is.sq (Is.sq (Is.sq (Is.sq (Is.sq (I130_1 E) (Is.leaf _)) (Is.leaf _)) (Is.leaf _)) (Is.leaf _)) (Is.leaf _)) (Is.leaf _))
def S130 : Fun := fA2 (J130_0 E)
theorem S130_eq : SQ D130 S130 := eB2 I130_0
def D133 := cm 133
def C133_1 := cr (cr (cr (cr D133.body)))
def C133_2 := cl (cr (cl (cr (cr (cr D133.body)))))
def J133_1 (r4 : DV) (h : H) : Ans := wK (callK E 34 [r4] h) fun x1 h2 => vK (v_ext 0 x1) fun x3 => vK (v_ext 1 x1) fun x4 => some ((.tup [x3, x4]), h2)
def B133_2 (r4 r36 r37 : DV) (i2 : DV → H → Ans) (r38 : DV) (h : H) : Ans := vK (v_lss r38 r37) fun x1 => bK x1 (vK (v_iaS 1 r36 r38) fun x2 => vK (v_ld h.get x2) fun x3 => vK (v_nilchk x3) fun x4 => vK (v_ld h.get x4) fun x5 => wK (callK E 32 [r4, x5] h) fun x6 h7 => vK (v_add r38 (ii 1)) fun x8 => i2 x8 h7) (J133_1 E r4 h)
def L133_2 (r4 r36 r37 : DV) (n : Nat) : DV → H → Ans := Nat.rec (motive := fun _ => DV → H → Ans) (fun _ _ => none) (fun _ i => B133_2 E r4 r36 r37 i) n
def J133_0 (r0 : DV) (h : H) : Ans := n_box r0 h fun x1 h2 => vK (v_fa 0 x1) fun x3 => vK (v_ld h2.get x3) fun x4 => vK (v_lss x4 (ii 0)) fun x5 => gdK x5 false (fun kk => vK (v_fa 0 x1) fun v => kk v h2) h2 fun x6 h7 => gdK x5 false (fun kk => vK (v_ld h7.get x6) fun v => kk v h7) h7 fun x8 h9 => gdK x5 false (fun kk => vK (v_geq x8 (ii 16)) fun v => kk v h9) h9 fun x10 h11 => vK (v_pick x5 (.bool true) x10) fun x12 => gdK x12 false (fun kk => vK (v_fa 1 x1) fun v => kk v h11) h11 fun x13 h14 => gdK x12 false (fun kk => vK (v_ld h14.get x13) fun v => kk v h14) h14 fun x15 h16 => gdK x12 false (fun kk => vK (v_lss x15 (ii 0)) fun v => kk v h16) h16 fun x17 h18 => vK (v_pick x12 (.bool true) x17) fun x19 => gdK x19 false (fun kk => vK (v_fa 1 x1) fun v => kk v h18) h18 fun x20 h21 => gdK x19 false (fun kk => vK (v_ld h21.get x20) fun v => kk v h21) h21 fun x22 h23 => gdK x19 false (fun kk => vK (v_geq x22 (ii 2147483648)) fun v => kk v h23) h23 fun x24 h25 => vK (v_pick x19 (.bool true) x24) fun x26 => gdK x26 false (fun kk => vK (v_fa 2 x1) fun v => kk v h25) h25 fun x27 h28 => gdK x26 false (fun kk => vK (v_ld h28.get x27) fun v => kk v h28) h28 fun x29 h30 => gdK x26 false (fun kk => vK (v_lss x29 (ii 1)) fun v => kk v h30) h30 fun x31 h32 => vK (v_pick x26 (.bool true) x31) fun x33 => gdK x33 false (fun kk => vK (v_fa 2 x1) fun v => kk v h32) h32 fun x34 h35 => gdK x33 false (fun kk => vK (v_ld h35.get x34) fun v => kk v h35) h35 fun x36 h37 => gdK x33 false (fun kk => vK (v_gtr x36 (ii 9)) fun v => kk v h37) h37 fun x38 h39 => vK (v_pick x33 (.bool true) x38) fun x40 => bK x40 (some ((.tup [(.str []), (ii 1)]), h39)) (wK (callK E 30 [(ii 65536)] h39) fun x41 h42 => wK (callK E 189 [x1] h42) fun x43 h44 => vK (v_lenL x43) fun x45 => L133_2 E x41 x43 x45 FUEL (ii 0) h44)
theorem I133_1 : Is E C133_1 (retK3 D133.res) (fun σ h => J133_1 E (σ p4) h) := Is.rf
abbrev K133_3 : KT2 (DV × H) := (thenK3 (fun σ h => J133_1 E (σ p4) h) (retK3 D133.res))
theorem I133_2 : Is E C133_2 (blockK3 0 (K133_3 E)) (fun σ h => L133_2 E (σ p4) (σ p36) (σ p37) FUEL (σ p38) h) := Is.lp (fun n2 σ h => L133_2 E (σ p4) (σ p36) (σ p37) n2 (σ p38) h) fun n2 => Is.aq (Is.leaf _)
theorem I133_0 : iB1 E D133 (J133_0 E) := Is.aq (Is.sq (Is.sq (Is.sq (Is.sq (I133_1 E) (Is.sq (Is.bk (I133_2 E)) (Is.leaf _))) (Is.leaf _)) (Is.leaf _)) (Is.leaf _))
def S133 : Fun := fA1 (J133_0 E)
theorem S133_eq : SQ D133 S133 := eB1 I133_0
def D134 := cm 134
def J134_0 (r0 : DV) (h : H) : Ans := wK (callK E 109 [r0] h) fun x1 h2 => wK (callK E 110 [x1] h2) fun x3 h4 => wK (callK E 190 [x1] h4) fun x5 h6 => wK (callK E 113 [x1] h6) fun x7 h8 => vK (v_neq x7 (ii 0)) fun x9 => bK x9 (some ((.tup [(ii 0), .nils, (ii 3)]), h8)) (some ((.tup [x3, x5, (ii 0)]), h8))
theorem I134_0 : iB1 E D134 (J134_0 E) := Is.rf
def S134 : Fun := fA1 (J134_0 E)
theorem S134_eq : SQ D134 S134 := eB1 I134_0
def D135 := cm 135
def J135_0 (r0 r1 : DV) (h : H) : Ans := vK (v_eqv .ptr false h.get r0 .nilp) fun x1 => bK x1 (wK (callK E 191 [.nils, (ii 1)] h) fun x2 h3 => some (x2, h3)) (wK (callK E 192 [r1] h) fun x4 h5 => vK (v_ext 0 x4) fun x6 => vK (v_ext 1 x4) fun x7 => n_alc 8 8 (.list [(ii 0), (ii 0), (ii 0), (ii 0), (ii 0), (ii 0), (ii 0), (ii 0)]) h5 fun x8 h9 => wK (dStF 8 x8 x6 h9) fun x10 h11 => vK (v_neq x7 (ii 0)) fun x12 => bK x12 (wK (callK E 191 [.nils, x7] h11) fun x13 h14 => some (x13, h14)) (vK (v_nilchk r0) fun x15 => vK (v_fa 5 x15) fun x16 => vK (v_ld h11.get x16) fun x17 => vK (v_fa 0 x8) fun x18 => vK (v_ld h11.get x18) fun x19 => vK (v_fa 1 x8) fun x20 => vK (v_ld h11.get x20) fun x21 => wK (callK E 193 [x17, x19, x21] h11) fun x22 h23 => vK (v_ext 0 x22) fun x24 => vK (v_ext 1 x22) fun x25 => vK (v_eql x24 (ii 2)) fun x26 => bK x26 (some (x25, h23)) (vK (v_eql x24 (ii 1)) fun x27 => bK x27 (vK (v_fa 2 x8) fun x28 => vK (v_ld h23.get x28) fun x29 => vK (v_ldN 8 h23.get x8) fun x30 => wK (callK E 194 [x29] h23) fun x31 h32 => rK (rcK (v_ldN 8 h32.get x8) x30) <| wK (c_val E x31 [r0, x30] h32) fun x33 h34 => vK (v_ext 0 x33) fun x35 => vK (v_ext 1 x33) fun x36 => wK (callK E 191 [x35, x36] h34) fun x37 h38 => vK (v_nilchk r0) fun x39 => vK (v_fa 5 x39) fun x40 => vK (v_ld h38.get x40) fun x41 => vK (v_fa 0 x8) fun x42 => vK (v_ld h38.get x42) fun x43 => vK (v_fa 1 x8) fun x44 => vK (v_ld h38.get x44) fun x45 => wK (callK E 195 [x41, x43, x45, x37] h38) fun x46 h47 => some (x37, h47)) (wK (callK E 191 [.nils, (ii 16)] h23) fun x48 h49 => some (x48, h49)))))
theorem I135_0 : iB2 E D135 (J135_0 E) := Is.rf
def S135 : Fun := fA2 (J135_0 E)
theorem S135_eq : SQ D135 S135 := eB2 I135_0
def D136 := cm 136
def J136_0 (E : Env) (r0 : DV) (h : H) : Ans := vK (v_geq r0 (ii 2)) fun x1 => gdK x1 true (fun kk => kk r0 h) h fun x2 h3 => gdK x1 true (fun kk => vK (v_leq x2 (ii 8)) fun v => kk v h3) h3 fun x4 h5 => vK (v_pick x1 x4 (.bool false)) fun x6 => some (x6, h5)
theorem I136_0 : iB1 E D136 (J136_0 E) := Is.rf
def S136 : Fun := fA1 (J136_0 E)
theorem S136_eq : SQ D136 S136 := eB1 I136_0
def D137 := cm 137
def J137_0 (r0 r1 : DV) (h : H) : Ans := vK (v_lss r0 (ii 0)) fun x1 => gdK x1 false (fun kk => kk r0 h) h fun x2 h3 => gdK x1 false (fun kk => vK (v_gtr x2 (ii 65536)) fun v => kk v h3) h3 fun x4 h5 => vK (v_pick x1 (.bool true) x4) fun x6 => gdK x6 false (fun kk => kk r1 h5) h5 fun x7 h8 => gdK x6 false (fun kk => wK (callK E 136 [x7] h8) kk) h8 fun x9 h10 => gdK x6 false (fun kk => vK (v_not x9) fun v => kk v h10) h10 fun x11 h12 => vK (v_pick x6 (.bool true) x11) fun x13 => bK x13 (some ((ii 0), h12)) (vK (v_add r0 r1) fun x14 => vK (v_sub x14 (ii 2)) fun x15 => vK (v_sub r1 (ii 1)) fun x16 => vK (v_quo x15 x16) fun x17 => some (x17, h12))
theorem I137_0 : iB2 E D137 (J137_0 E) := Is.rf
def S137 : Fun := fA2 (J137_0 E)
theorem S137_eq : SQ D137 S137 := eB2 I137_0
def D138 := cm 138
def C138_1 := cr (cr (cr (cr D138.body)))
def C138_3 := cr C138_1
def C138_2 := cl (cl (cr (cr (cr D138.body))))
def J138_3 (E : Env) (r6 : DV) (h : H) : Ans := some ((.tup [r6, (ii 0)]), h)
def J138_1 (r0 r1 r6 : DV) (h : H) : Ans := vK (v_neq r0 (.str [])) fun x1 => bK x1 (vK (v_lenS r0) fun x2 => vK (v_sub r1 x2) fun x3 => wK (callK E 186 [x3] h) fun x4 h5 => vK (v_add r0 x4) fun x6 => n_bsl 1 1 [(.str [])] [(0, 1, x6)] h5 fun x7 h8 => wK (dAppendF 1 16 r6 x7 h8) fun x9 h10 => J138_3 E x9 h10) (J138_3 E r6 h)
def B138_2 (r1 : DV) (i2 : DV → DV → H → Ans) (r0 r6 : DV) (h : H) : Ans := vK (v_lenS r0) fun x1 => vK (v_gtr x1 r1) fun x2 => bK x2 (vK (v_slS r0 none (some r1)) fun x3 => n_bsl 1 1 [(.str [])] [(0, 1, x3)] h fun x4 h5 => wK (dAppendF 1 16 r6 x4 h5) fun x6 h7 => vK (v_slS r0 (some r1) none) fun x8 => i2 x8 x6 h7) (J138_1 E r0 r1 r6 h)
def L138_2 (r1 : DV) (n : Nat) : DV → DV → H → Ans := Nat.rec (motive := fun _ => DV → DV → H → Ans) (fun _ _ _ => none) (fun _ i => B138_2 E r1 i) n
def J138_0 (r0 r1 : DV) (h : H) : Ans := vK (v_lss r1 (ii 1)) fun x1 => gdK x1 false (fun kk => kk r1 h) h fun x2 h3 => gdK x1 false (fun kk => vK (v_gtr x2 (ii 65536)) fun v => kk v h3) h3 fun x4 h5 => vK (v_pick x1 (.bool true) x4) fun x6 => bK x6 (some ((.tup [.nils, (ii 1)]), h5)) (L138_2 E r1 FUEL r0 .nils h5)
theorem I138_3 : Is E C138_3 (retK3 D138.res) (fun σ h => J138_3 E (σ p6) h) := Is.rf
theorem I138_1 : Is E C138_1 (retK3 D138.res) (fun σ h => J138_1 E (σ p0) (σ p1) (σ p6) h) := Is.aq (Is.sq (I138_3 E) (Is.leaf _))
abbrev K138_4 : KT2 (DV × H) := (thenK3 (fun σ h => J138_1 E (σ p0) (σ p1) (σ p6) h) (retK3 D138.res))
theorem I138_2 : Is E C138_2 (blockK3 0 (K138_4 E)) (fun σ h => L138_2 E (σ p1) FUEL (σ p0) (σ p6) h) := Is.lp (fun n2 σ h => L138_2 E (σ p1) n2 (σ p0) (σ p6) h) fun n2 => Is.aq (Is.leaf _)
theorem I138_0 : iB2 E D138 (J138_0 E) := Is.aq (Is.sq (Is.sq (Is.sq (Is.sq (I138_1 E) (Is.bk (I138_2 E))) (Is.leaf _)) (Is.leaf _)) (Is.leaf _))
def S138 : Fun := fA2 (J138_0 E)
theorem S138_eq : SQ D138 S138 := eB2 I138_0
def fs0 : List FD := [⟨3, D3, S3⟩, ⟨4, D4, S4⟩, ⟨5, D5, S5⟩, ⟨6, D6, S6⟩, ⟨7, D7, S7⟩, ⟨8, D8, S8⟩, ⟨9, D9, S9⟩, ⟨10, D10, S10⟩, ⟨11, D11, S11⟩, ⟨12, D12, S12⟩, ⟨13, D13, S13⟩, ⟨14, D14, S14⟩, ⟨15, D15, S15⟩, ⟨16, D16, S16⟩, ⟨17, D17, S17⟩, ⟨18, D18, S18⟩, ⟨19, D19, S19⟩, ⟨20, D20, S20⟩, ⟨21, D21, S21⟩, ⟨22, D22, S22⟩, ⟨23, D23, S23⟩, ⟨24, D24, S24⟩, ⟨25, D25, S25⟩, ⟨26, D26, S26⟩, ⟨27, D27, S27⟩, ⟨28, D28, S28⟩, ⟨29, D29, S29⟩, ⟨30, D30, S30⟩, ⟨31, D31, S31⟩, ⟨32, D32, S32⟩, ⟨33, D33, S33⟩, ⟨34, D34, S34⟩, ⟨35, D35, S35⟩, ⟨36, D36, S36⟩, ⟨37, D37, S37⟩, ⟨38, D38, S38⟩, ⟨39, D39, S39⟩, ⟨40, D40, S40⟩, ⟨41, D41, S41⟩, ⟨42, D42, S42⟩, ⟨43, D43, S43⟩, ⟨44, D44, S44⟩, ⟨45, D45, S45⟩, ⟨46, D46, S46⟩, ⟨47, D47, S47⟩, ⟨48, D48, S48⟩, ⟨49, D49, S49⟩, ⟨50, D50, S50⟩, ⟨51, D51, S51⟩, ⟨52, D52, S52⟩, ⟨53, D53, S53⟩, ⟨54, D54, S54⟩, ⟨55, D55, S55⟩, ⟨56, D56, S56⟩, ⟨57, D57, S57⟩, ⟨58, D58, S58⟩, ⟨59, D59, S59⟩, ⟨60, D60, S60⟩, ⟨61, D61, S61⟩, ⟨62, D62, S62⟩, ⟨63, D63, S63⟩, ⟨64, D64, S64⟩, ⟨70, D70, S70⟩, ⟨72, D72, S72⟩, ⟨74, D74, S74⟩, ⟨76, D76, S76⟩, ⟨77, D77, S77⟩, ⟨78, D78, S78⟩, ⟨80, D80, S80⟩, ⟨81, D81, S81⟩, ⟨82, D82, S82⟩, ⟨83, D83, S83⟩, ⟨84, D84, S84⟩, ⟨85, D85, S85⟩, ⟨86, D86, S86⟩, ⟨87, D87, S87⟩, ⟨88, D88, S88⟩, ⟨89, D89, S89⟩, ⟨90, D90, S90⟩, ⟨91, D91, S91⟩, ⟨92, D92, S92⟩, ⟨93, D93, S93⟩, ⟨94, D94, S94⟩, ⟨95, D95, S95⟩, ⟨96, D96, S96⟩, ⟨97, D97, S97⟩, ⟨98, D98, S98⟩, ⟨99, D99, S99⟩, ⟨100, D100, S100⟩, ⟨101, D101, S101⟩, ⟨102, D102, S102⟩, ⟨103, D103, S103⟩, ⟨104, D104, S104⟩, ⟨105, D105, S105⟩, ⟨106, D106, S106⟩, ⟨107, D107, S107⟩, ⟨108, D108, S108⟩, ⟨109, D109, S109⟩, ⟨110, D110, S110⟩, ⟨111, D111, S111⟩, ⟨112, D112, S112⟩, ⟨113, D113, S113⟩, ⟨114, D114, S114⟩, ⟨115, D115, S115⟩, ⟨116, D116, S116⟩, ⟨117, D117, S117⟩, ⟨118, D118, S118⟩, ⟨120, D120, S120⟩, ⟨121, D121, S121⟩, ⟨123, D123, S123⟩, ⟨124, D124, S124⟩, ⟨127, D127, S127⟩, ⟨130, D130, S130⟩, ⟨133, D133, S133⟩, ⟨134, D134, S134⟩, ⟨135, D135, S135⟩, ⟨136, D136, S136⟩, ⟨137, D137, S137⟩, ⟨138, D138, S138⟩]
theorem fs0_eq : AllEq fs0 := ⟨S3_eq, ⟨S4_eq, ⟨S5_eq, ⟨S6_eq, ⟨S7_eq, ⟨S8_eq, ⟨S9_eq, ⟨S10_eq, ⟨S11_eq, ⟨S12_eq, ⟨S13_eq, ⟨S14_eq, ⟨S15_eq, ⟨S16_eq, ⟨S17_eq, ⟨S18_eq, ⟨S19_eq, ⟨S20_eq, ⟨S21_eq, ⟨S22_eq, ⟨S23_eq, ⟨S24_eq, ⟨S25_eq, ⟨S26_eq, ⟨S27_eq, ⟨S28_eq, ⟨S29_eq, ⟨S30_eq, ⟨S31_eq, ⟨S32_eq, ⟨S33_eq, ⟨S34_eq, ⟨S35_eq, ⟨S36_eq, ⟨S37_eq, ⟨S38_eq, ⟨S39_eq, ⟨S40_eq, ⟨S41_eq, ⟨S42_eq, ⟨S43_eq, ⟨S44_eq, ⟨S45_eq, ⟨S46_eq, ⟨S47_eq, ⟨S48_eq, ⟨S49_eq, ⟨S50_eq, ⟨S51_eq, ⟨S52_eq, ⟨S53_eq, ⟨S54_eq, ⟨S55_eq, ⟨S56_eq, ⟨S57_eq, ⟨S58_eq, ⟨S59_eq, ⟨S60_eq, ⟨S61_eq, ⟨S62_eq, ⟨S63_eq, ⟨S64_eq, ⟨S70_eq, ⟨S72_eq, ⟨S74_eq, ⟨S76_eq, ⟨S77_eq, ⟨S78_eq, ⟨S80_eq, ⟨S81_eq, ⟨S82_eq, ⟨S83_eq, ⟨S84_eq, ⟨S85_eq, ⟨S86_eq, ⟨S87_eq, ⟨S88_eq, ⟨S89_eq, ⟨S90_eq, ⟨S91_eq, ⟨S92_eq, ⟨S93_eq, ⟨S94_eq, ⟨S95_eq, ⟨S96_eq, ⟨S97_eq, ⟨S98_eq, ⟨S99_eq, ⟨S100_eq, ⟨S101_eq, ⟨S102_eq, ⟨S103_eq, ⟨S104_eq, ⟨S105_eq, ⟨S106_eq, ⟨S107_eq, ⟨S108_eq, ⟨S109_eq, ⟨S110_eq, ⟨S111_eq, ⟨S112_eq, ⟨S113_eq, ⟨S114_eq, ⟨S115_eq, ⟨S116_eq, ⟨S117_eq, ⟨S118_eq, ⟨S120_eq, ⟨S121_eq, ⟨S123_eq, ⟨S124_eq, ⟨S127_eq, ⟨S130_eq, ⟨S133_eq, ⟨S134_eq, ⟨S135_eq, ⟨S136_eq, ⟨S137_eq, ⟨S138_eq, trivial⟩⟩⟩⟩⟩⟩⟩⟩⟩⟩⟩⟩⟩⟩⟩⟩⟩⟩⟩⟩⟩⟩⟩⟩⟩⟩⟩⟩⟩⟩⟩⟩⟩⟩⟩⟩⟩⟩⟩⟩⟩⟩⟩⟩⟩⟩⟩⟩⟩⟩⟩⟩⟩⟩⟩⟩⟩⟩⟩⟩⟩⟩⟩⟩⟩⟩⟩⟩⟩⟩⟩⟩⟩⟩⟩⟩⟩⟩⟩⟩⟩⟩⟩⟩⟩⟩⟩⟩⟩⟩⟩⟩⟩⟩⟩⟩⟩⟩⟩⟩⟩⟩⟩⟩⟩⟩⟩⟩⟩⟩⟩⟩⟩⟩⟩⟩⟩⟩⟩
end Go.Proofs.YtiamncdkekcokaaGreatDoor
end

/- The functions of the program as D's and as plain Lean functions, and that both are the same. No condition. -/
import Derived.KernelRfl
import Derived.Test.YtlofaapaahpjfaaGreatDoorDd
import Derived.Test.YtlofaapaahpjfaaGreatDoorChecked
set_option linter.unusedVariables false
noncomputable section
namespace Go.Proofs.YtlofaapaahpjfaaGreatDoor
open Go.DI
variable (E : Env)
def cm (f : Nat) : DF := cmF Tryz.prog f
attribute [irreducible] cm
def cmk (f : Nat) : DF := cmFk Tryz.prog (cmF Tryz.prog f) f
attribute [irreducible] cmk
def p0 : Pa := .h
def p1 : Pa := .l p0
def p2 : Pa := .r p0
def p3 : Pa := .l p1
def p4 : Pa := .r p1
def p5 : Pa := .l p2
def p6 : Pa := .r p2
def p7 : Pa := .l p3
def p8 : Pa := .r p3
def p9 : Pa := .l p4
def p10 : Pa := .r p4
def p11 : Pa := .l p5
def p12 : Pa := .r p5
def p13 : Pa := .l p6
def p14 : Pa := .r p6
def p15 : Pa := .l p7
def p16 : Pa := .r p7
def p17 : Pa := .l p8
def p18 : Pa := .r p8
def p19 : Pa := .l p9
def p20 : Pa := .r p9
def p21 : Pa := .l p10
def p22 : Pa := .r p10
def p23 : Pa := .l p11
def p24 : Pa := .r p11
def p25 : Pa := .l p12
def p26 : Pa := .r p12
def p27 : Pa := .l p13
def p28 : Pa := .r p13
def p29 : Pa := .l p14
def p30 : Pa := .r p14
def p31 : Pa := .l p15
def p32 : Pa := .r p15
def p33 : Pa := .l p16
def p34 : Pa := .r p16
def p35 : Pa := .l p17
def p36 : Pa := .r p17
def p37 : Pa := .l p18
def p38 : Pa := .r p18
def p39 : Pa := .l p19
def p40 : Pa := .r p19
def p41 : Pa := .l p20
def p42 : Pa := .r p20
def p43 : Pa := .l p21
def p44 : Pa := .r p21
def p45 : Pa := .l p22
def p46 : Pa := .r p22
def p47 : Pa := .l p23
def p48 : Pa := .r p23
def p49 : Pa := .l p24
def p50 : Pa := .r p24
def p51 : Pa := .l p25
def p52 : Pa := .r p25
def p53 : Pa := .l p26
def p54 : Pa := .r p26
def p55 : Pa := .l p27
def p56 : Pa := .r p27
def p57 : Pa := .l p28
def p58 : Pa := .r p28
def p59 : Pa := .l p29
def p60 : Pa := .r p29
def p61 : Pa := .l p30
def p62 : Pa := .r p30
def p63 : Pa := .l p31
def p64 : Pa := .r p31
def p65 : Pa := .l p32
def p66 : Pa := .r p32
def p67 : Pa := .l p33
def p68 : Pa := .r p33
def p69 : Pa := .l p34
def p70 : Pa := .r p34
def p71 : Pa := .l p35
def p72 : Pa := .r p35
def p73 : Pa := .l p36
def p74 : Pa := .r p36
def p75 : Pa := .l p37
def p76 : Pa := .r p37
def p77 : Pa := .l p38
def p78 : Pa := .r p38
def p79 : Pa := .l p39
def p80 : Pa := .r p39
def p81 : Pa := .l p40
def p82 : Pa := .r p40
def p83 : Pa := .l p41
def p84 : Pa := .r p41
def p85 : Pa := .l p42
def p86 : Pa := .r p42
def p87 : Pa := .l p43
def p88 : Pa := .r p43
def p89 : Pa := .l p44
def p90 : Pa := .r p44
def p91 : Pa := .l p45
def p92 : Pa := .r p45
def p93 : Pa := .l p46
def p94 : Pa := .r p46
def p95 : Pa := .l p47
def p96 : Pa := .r p47
def p97 : Pa := .l p48
def p98 : Pa := .r p48
def p99 : Pa := .l p49
def p100 : Pa := .r p49
def p101 : Pa := .l p50
def p102 : Pa := .r p50
def p103 : Pa := .l p51
def p104 : Pa := .r p51
def p105 : Pa := .l p52
def p106 : Pa := .r p52
def p107 : Pa := .l p53
def p108 : Pa := .r p53
def p109 : Pa := .l p54
def p110 : Pa := .r p54
def p111 : Pa := .l p55
def p112 : Pa := .r p55
def p113 : Pa := .l p56
def p114 : Pa := .r p56
def p115 : Pa := .l p57
def p116 : Pa := .r p57
def p117 : Pa := .l p58
def p118 : Pa := .r p58
def p119 : Pa := .l p59
def p120 : Pa := .r p59
def p121 : Pa := .l p60
def p122 : Pa := .r p60
def p123 : Pa := .l p61
def p124 : Pa := .r p61
def p125 : Pa := .l p62
def p126 : Pa := .r p62
def p127 : Pa := .l p63
def p128 : Pa := .r p63
def p129 : Pa := .l p64
def p130 : Pa := .r p64
def p131 : Pa := .l p65
def p132 : Pa := .r p65
def p133 : Pa := .l p66
def p134 : Pa := .r p66
def p135 : Pa := .l p67
def p136 : Pa := .r p67
def p137 : Pa := .l p68
def p138 : Pa := .r p68
def p139 : Pa := .l p69
def p140 : Pa := .r p69
def p141 : Pa := .l p70
def p142 : Pa := .r p70
def p143 : Pa := .l p71
def p144 : Pa := .r p71
def p145 : Pa := .l p72
def p146 : Pa := .r p72
def p147 : Pa := .l p73
def p148 : Pa := .r p73
def p149 : Pa := .l p74
def p150 : Pa := .r p74
def p151 : Pa := .l p75
def p152 : Pa := .r p75
def p153 : Pa := .l p76
def p154 : Pa := .r p76
def p155 : Pa := .l p77
def p156 : Pa := .r p77
def p157 : Pa := .l p78
def p158 : Pa := .r p78
def p159 : Pa := .l p79
def p160 : Pa := .r p79
def p161 : Pa := .l p80
def p162 : Pa := .r p80
def p163 : Pa := .l p81
def p164 : Pa := .r p81
def p165 : Pa := .l p82
def p166 : Pa := .r p82
def p167 : Pa := .l p83
def p168 : Pa := .r p83
def p169 : Pa := .l p84
def p170 : Pa := .r p84
def p171 : Pa := .l p85
def p172 : Pa := .r p85
def p173 : Pa := .l p86
def p174 : Pa := .r p86
def p175 : Pa := .l p87
def p176 : Pa := .r p87
def p177 : Pa := .l p88
def D3 := cm 3
def J3_0 (r0 : DV) (h : H) : Ans := n_box r0 h fun x1 h2 => vK (v_fa 0 x1) fun x3 => vK (v_ldN 5 h2.get x3) fun x4 => wK (callK E 4 [.nilp, x4] h2) fun x5 h6 => vK (v_ext 0 x5) fun x7 => vK (v_ext 1 x5) fun x8 => n_alc 5 5 (.list [(ii 0), (ii 0), (ii 0), (ii 0), (.str [])]) h6 fun x9 h10 => wK (dStF 5 x9 x7 h10) fun x11 h12 => vK (v_ldN 5 h12.get x9) fun x13 => vK (v_bld [(ii 0), (ii 0), (ii 0), (ii 0), (.str [])] []) fun x14 => vK (v_eqs false (.leaf .int 0 (.leaf .int 1 (.leaf .int 2 (.leaf .int 3 (.leaf .str 4 .nil))))) h12.get x13 x14) fun x15 => gdK x15 true (fun kk => kk x8 h12) h12 fun x16 h17 => gdK x15 true (fun kk => vK (v_not x16) fun v => kk v h17) h17 fun x18 h19 => vK (v_pick x15 x18 (.bool false)) fun x20 => gdK x20 true (fun kk => kk .nilp h19) h19 fun x21 h22 => gdK x20 true (fun kk => wK (callK E 5 [x21] h22) kk) h22 fun x23 h24 => gdK x20 true (fun kk => vK (v_eql x23 (ii 0)) fun v => kk v h24) h24 fun x25 h26 => vK (v_pick x20 x25 (.bool false)) fun x27 => gdK x27 true (fun kk => wK (callK E 6 [] h26) kk) h26 fun x28 h29 => vK (v_pick x27 x28 (.bool false)) fun x30 => some (x30, h29)
theorem I3_0 : iB1 E D3 (J3_0 E) := Is.rf
def S3 : Fun := fA1 (J3_0 E)
theorem S3_eq : SQ D3 S3 := eB1 I3_0
def D4 := cm 4
def C4_1 := cr (cr (cr (cr (cr D4.body))))
def J4_1 (E : Env) (r4 r6 : DV) (h : H) : Ans := vK (v_ldN 5 h.get r6) fun x1 => wK (dStF 5 r4 x1 h) fun x2 h3 => vK (v_ldN 5 h3.get r4) fun x4 => some ((.tup [x4, (.bool true)]), h3)
def J4_0 (r0 r1 : DV) (h : H) : Ans := n_box r1 h fun x1 h2 => n_alc 5 5 (.list [(ii 0), (ii 0), (ii 0), (ii 0), (.str [])]) h2 fun x3 h4 => vK (v_eqv .ptr false h4.get r0 .nilp) fun x5 => gdK x5 false (fun kk => vK (v_fa 0 x1) fun v => kk v h4) h4 fun x6 h7 => gdK x5 false (fun kk => vK (v_ld h7.get x6) fun v => kk v h7) h7 fun x8 h9 => gdK x5 false (fun kk => vK (v_neq x8 (ii 1)) fun v => kk v h9) h9 fun x10 h11 => vK (v_pick x5 (.bool true) x10) fun x12 => gdK x12 false (fun kk => vK (v_ldN 5 h11.get x1) fun v => kk v h11) h11 fun x13 h14 => gdK x12 false (fun kk => wK (callK E 7 [x13] h14) kk) h14 fun x15 h16 => gdK x12 false (fun kk => vK (v_neq x15 (ii 0)) fun v => kk v h16) h16 fun x17 h18 => vK (v_pick x12 (.bool true) x17) fun x19 => bK x19 (vK (v_bld [(ii 0), (ii 0), (ii 0), (ii 0), (.str [])] []) fun x20 => wK (dStF 5 x3 x20 h18) fun x21 h22 => vK (v_ldN 5 h22.get x3) fun x23 => some ((.tup [x23, (.bool false)]), h22)) (vK (v_fa 2 x1) fun x24 => vK (v_ld h18.get x24) fun x25 => vK (v_fa 1 x1) fun x26 => vK (v_ld h18.get x26) fun x27 => vK (v_fa 3 x1) fun x28 => vK (v_ld h18.get x28) fun x29 => vK (v_bld [(ii 0), (ii 0), (ii 0), (ii 0), (.str [])] [(0, 1, (ii 2)), (1, 1, x25), (2, 1, x27), (3, 1, x29)]) fun x30 => n_alc 5 5 (.list [(ii 0), (ii 0), (ii 0), (ii 0), (.str [])]) h18 fun x31 h32 => wK (dStF 5 x31 x30 h32) fun x33 h34 => vK (v_nilchk r0) fun x35 => vK (v_fa 1 x35) fun x36 => vK (v_ld h34.get x36) fun x37 => vK (v_fa 1 x1) fun x38 => vK (v_ld h34.get x38) fun x39 => vK (v_fa 3 x1) fun x40 => vK (v_ld h34.get x40) fun x41 => wK (callK E 8 [x37, x39, x41] h34) fun x42 h43 => vK (v_ext 0 x42) fun x44 => vK (v_ext 1 x42) fun x45 => vK (v_eql x44 (ii 2)) fun x46 => bK x46 (vK (v_fa 4 x31) fun x47 => wK (dStF 1 x47 x45 h43) fun x48 h49 => J4_1 E x3 x31 h49) (vK (v_eql x44 (ii 4)) fun x50 => bK x50 (vK (v_bld [(ii 0)] [(0, 1, (ii 16))]) fun x51 => wK (callK E 9 [(.str []), (.ifc 44 x51)] h43) fun x52 h53 => vK (v_fa 4 x31) fun x54 => wK (dStF 1 x54 x52 h53) fun x55 h56 => J4_1 E x3 x31 h56) (vK (v_eql x44 (ii 1)) fun x57 => bK x57 (vK (v_fa 4 x1) fun x58 => vK (v_ld h43.get x58) fun x59 => wK (callK E 10 [r0, x59] h43) fun x60 h61 => vK (v_ext 0 x60) fun x62 => vK (v_ext 1 x60) fun x63 => wK (callK E 9 [x62, x63] h61) fun x64 h65 => vK (v_fa 4 x31) fun x66 => wK (dStF 1 x66 x64 h65) fun x67 h68 => vK (v_nilchk r0) fun x69 => vK (v_fa 1 x69) fun x70 => vK (v_ld h68.get x70) fun x71 => vK (v_fa 1 x1) fun x72 => vK (v_ld h68.get x72) fun x73 => vK (v_fa 3 x1) fun x74 => vK (v_ld h68.get x74) fun x75 => vK (v_fa 4 x31) fun x76 => vK (v_ld h68.get x76) fun x77 => wK (callK E 11 [x71, x73, x75, x77] h68) fun x78 h79 => J4_1 E x3 x31 h79) (vK (v_bld [(ii 0), (ii 0), (ii 0), (ii 0), (.str [])] []) fun x80 => wK (dStF 5 x3 x80 h43) fun x81 h82 => vK (v_ldN 5 h82.get x3) fun x83 => some ((.tup [x83, (.bool false)]), h82)))))
theorem I4_1 : Is E C4_1 (retK3 D4.res) (fun σ h => J4_1 E (σ p4) (σ p6) h) := Is.rf
theorem I4_0 : iB2 E D4 (J4_0 E) := Is.aq (Is.sq (Is.sq (Is.sq (Is.sq (Is.sq (I4_1 E) (Is.leaf _)) (Is.leaf _)) (Is.leaf _)) (Is.leaf _)) (Is.leaf _))
def S4 : Fun := fA2 (J4_0 E)
theorem S4_eq : SQ D4 S4 := eB2 I4_0
def D5 := cm 5
def J5_0 (E : Env) (r0 : DV) (h : H) : Ans := vK (v_eqv .ptr false h.get r0 .nilp) fun x1 => bK x1 (some ((ii 0), h)) (vK (v_nilchk r0) fun x2 => vK (v_fa 2 x2) fun x3 => vK (v_ld h.get x3) fun x4 => some (x4, h))
theorem I5_0 : iB1 E D5 (J5_0 E) := Is.rf
def S5 : Fun := fA1 (J5_0 E)
theorem S5_eq : SQ D5 S5 := eB1 I5_0
def D6 := cm 6
def J6_0 (h : H) : Ans := wK (callK E 12 [(ii 4)] h) fun x1 h2 => vK (v_ext 0 x1) fun x3 => vK (v_ext 1 x1) fun x4 => vK (v_eqv .ptr false h2.get x3 .nilp) fun x5 => gdK x5 false (fun kk => kk x4 h2) h2 fun x6 h7 => gdK x5 false (fun kk => vK (v_eqv .ptr false h7.get x6 .nilp) fun v => kk v h7) h7 fun x8 h9 => vK (v_pick x5 (.bool true) x8) fun x10 => gdK x10 false (fun kk => wK (callK E 13 [.nilp, (ii 4)] h9) kk) h9 fun x11 h12 => gdK x10 false (fun kk => vK (v_eqv .ptr true h12.get x11 .nilp) fun v => kk v h12) h12 fun x13 h14 => vK (v_pick x10 (.bool true) x13) fun x15 => bK x15 (some ((.bool false), h14)) (vK (v_bld [(ii 0), (ii 0), (ii 0), (.str []), (.str []), (.str [])] [(0, 1, (ii 1)), (3, 1, (.str [47, 97]))]) fun x16 => wK (callK E 14 [(ii 3), (ii 7), x16] h14) fun x17 h18 => n_alc 5 5 (.list [(ii 0), (ii 0), (ii 0), (ii 0), (.str [])]) h18 fun x19 h20 => wK (dStF 5 x19 x17 h20) fun x21 h22 => vK (v_ldN 5 h22.get x19) fun x23 => wK (callK E 4 [x3, x23] h22) fun x24 h25 => vK (v_ext 0 x24) fun x26 => vK (v_ext 1 x24) fun x27 => n_alc 5 5 (.list [(ii 0), (ii 0), (ii 0), (ii 0), (.str [])]) h25 fun x28 h29 => wK (dStF 5 x28 x26 h29) fun x30 h31 => vK (v_ldN 5 h31.get x19) fun x32 => wK (callK E 4 [x3, x32] h31) fun x33 h34 => vK (v_ext 0 x33) fun x35 => vK (v_ext 1 x33) fun x36 => n_alc 5 5 (.list [(ii 0), (ii 0), (ii 0), (ii 0), (.str [])]) h34 fun x37 h38 => wK (dStF 5 x37 x35 h38) fun x39 h40 => vK (v_fa 4 x28) fun x41 => vK (v_ld h40.get x41) fun x42 => wK (callK E 15 [x42] h40) fun x43 h44 => vK (v_ext 0 x43) fun x45 => vK (v_ext 1 x43) fun x46 => vK (v_ext 2 x43) fun x47 => vK (v_bld [(ii 0), (ii 0), (ii 0), (ii 0), (.str [])] [(0, 1, (ii 1)), (1, 1, (ii 3)), (3, 1, (ii 8)), (4, 1, (.str [120]))]) fun x48 => wK (callK E 4 [x3, x48] h44) fun x49 h50 => vK (v_ext 0 x49) fun x51 => vK (v_ext 1 x49) fun x52 => n_alc 5 5 (.list [(ii 0), (ii 0), (ii 0), (ii 0), (.str [])]) h50 fun x53 h54 => wK (dStF 5 x53 x51 h54) fun x55 h56 => vK (v_fa 4 x53) fun x57 => vK (v_ld h56.get x57) fun x58 => wK (callK E 15 [x58] h56) fun x59 h60 => vK (v_ext 0 x59) fun x61 => vK (v_ext 1 x59) fun x62 => vK (v_ext 2 x59) fun x63 => vK (v_ldN 5 h60.get x28) fun x64 => wK (callK E 4 [x3, x64] h60) fun x65 h66 => vK (v_ext 0 x65) fun x67 => vK (v_ext 1 x65) fun x68 => n_alc 5 5 (.list [(ii 0), (ii 0), (ii 0), (ii 0), (.str [])]) h66 fun x69 h70 => wK (dStF 5 x69 x67 h70) fun x71 h72 => gdK x27 true (fun kk => kk x36 h72) h72 fun x73 h74 => vK (v_pick x27 x73 (.bool false)) fun x75 => gdK x75 true (fun kk => vK (v_ldN 5 h74.get x28) fun v => kk v h74) h74 fun x76 h77 => gdK x75 true (fun kk => vK (v_ldN 5 h77.get x37) fun v => kk v h77) h77 fun x78 h79 => gdK x75 true (fun kk => vK (v_eqs false (.leaf .int 0 (.leaf .int 1 (.leaf .int 2 (.leaf .int 3 (.leaf .str 4 .nil))))) h79.get x76 x78) fun v => kk v h79) h79 fun x80 h81 => vK (v_pick x75 x80 (.bool false)) fun x82 => gdK x82 true (fun kk => vK (v_fa 2 x28) fun v => kk v h81) h81 fun x83 h84 => gdK x82 true (fun kk => vK (v_ld h84.get x83) fun v => kk v h84) h84 fun x85 h86 => gdK x82 true (fun kk => vK (v_eql x85 (ii 3)) fun v => kk v h86) h86 fun x87 h88 => vK (v_pick x82 x87 (.bool false)) fun x89 => gdK x89 true (fun kk => vK (v_fa 3 x28) fun v => kk v h88) h88 fun x90 h91 => gdK x89 true (fun kk => vK (v_ld h91.get x90) fun v => kk v h91) h91 fun x92 h93 => gdK x89 true (fun kk => vK (v_eql x92 (ii 7)) fun v => kk v h93) h93 fun x94 h95 => vK (v_pick x89 x94 (.bool false)) fun x96 => gdK x96 true (fun kk => vK (v_fa 0 x28) fun v => kk v h95) h95 fun x97 h98 => gdK x96 true (fun kk => vK (v_ld h98.get x97) fun v => kk v h98) h98 fun x99 h100 => gdK x96 true (fun kk => vK (v_eql x99 (ii 2)) fun v => kk v h100) h100 fun x101 h102 => vK (v_pick x96 x101 (.bool false)) fun x103 => gdK x103 true (fun kk => kk x45 h102) h102 fun x104 h105 => gdK x103 true (fun kk => vK (v_eql x104 (ii 0)) fun v => kk v h105) h105 fun x106 h107 => vK (v_pick x103 x106 (.bool false)) fun x108 => gdK x108 true (fun kk => kk x46 h107) h107 fun x109 h110 => gdK x108 true (fun kk => vK (v_eql x109 (.str [])) fun v => kk v h110) h110 fun x111 h112 => vK (v_pick x108 x111 (.bool false)) fun x113 => gdK x113 true (fun kk => kk x47 h112) h112 fun x114 h115 => gdK x113 true (fun kk => vK (v_eql x114 (ii 0)) fun v => kk v h115) h115 fun x116 h117 => vK (v_pick x113 x116 (.bool false)) fun x118 => gdK x118 true (fun kk => kk x52 h117) h117 fun x119 h120 => vK (v_pick x118 x119 (.bool false)) fun x121 => gdK x121 true (fun kk => kk x61 h120) h120 fun x122 h123 => gdK x121 true (fun kk => vK (v_eql x122 (ii 3)) fun v => kk v h123) h123 fun x124 h125 => vK (v_pick x121 x124 (.bool false)) fun x126 => gdK x126 true (fun kk => kk x68 h125) h125 fun x127 h128 => gdK x126 true (fun kk => vK (v_not x127) fun v => kk v h128) h128 fun x129 h130 => vK (v_pick x126 x129 (.bool false)) fun x131 => gdK x131 true (fun kk => kk x3 h130) h130 fun x132 h133 => gdK x131 true (fun kk => wK (callK E 5 [x132] h133) kk) h133 fun x134 h135 => gdK x131 true (fun kk => vK (v_eql x134 (ii 1)) fun v => kk v h135) h135 fun x136 h137 => vK (v_pick x131 x136 (.bool false)) fun x138 => some (x138, h137))
theorem I6_0 : iB0 E D6 (J6_0 E) := Is.rf
def S6 : Fun := fA0 (J6_0 E)
theorem S6_eq : SQ D6 S6 := eB0 I6_0
def D7 := cm 7
def J7_0 (E : Env) (r0 : DV) (h : H) : Ans := n_box r0 h fun x1 h2 => vK (v_fa 0 x1) fun x3 => vK (v_ld h2.get x3) fun x4 => vK (v_lss x4 (ii 1)) fun x5 => gdK x5 false (fun kk => vK (v_fa 0 x1) fun v => kk v h2) h2 fun x6 h7 => gdK x5 false (fun kk => vK (v_ld h7.get x6) fun v => kk v h7) h7 fun x8 h9 => gdK x5 false (fun kk => vK (v_gtr x8 (ii 99)) fun v => kk v h9) h9 fun x10 h11 => vK (v_pick x5 (.bool true) x10) fun x12 => gdK x12 false (fun kk => vK (v_fa 1 x1) fun v => kk v h11) h11 fun x13 h14 => gdK x12 false (fun kk => vK (v_ld h14.get x13) fun v => kk v h14) h14 fun x15 h16 => gdK x12 false (fun kk => vK (v_lss x15 (ii 0)) fun v => kk v h16) h16 fun x17 h18 => vK (v_pick x12 (.bool true) x17) fun x19 => gdK x19 false (fun kk => vK (v_fa 1 x1) fun v => kk v h18) h18 fun x20 h21 => gdK x19 false (fun kk => vK (v_ld h21.get x20) fun v => kk v h21) h21 fun x22 h23 => gdK x19 false (fun kk => vK (v_gtr x22 (ii 63)) fun v => kk v h23) h23 fun x24 h25 => vK (v_pick x19 (.bool true) x24) fun x26 => gdK x26 false (fun kk => vK (v_fa 2 x1) fun v => kk v h25) h25 fun x27 h28 => gdK x26 false (fun kk => vK (v_ld h28.get x27) fun v => kk v h28) h28 fun x29 h30 => gdK x26 false (fun kk => vK (v_lss x29 (ii 0)) fun v => kk v h30) h30 fun x31 h32 => vK (v_pick x26 (.bool true) x31) fun x33 => gdK x33 false (fun kk => vK (v_fa 2 x1) fun v => kk v h32) h32 fun x34 h35 => gdK x33 false (fun kk => vK (v_ld h35.get x34) fun v => kk v h35) h35 fun x36 h37 => gdK x33 false (fun kk => vK (v_gtr x36 (ii 63)) fun v => kk v h37) h37 fun x38 h39 => vK (v_pick x33 (.bool true) x38) fun x40 => gdK x40 false (fun kk => vK (v_fa 3 x1) fun v => kk v h39) h39 fun x41 h42 => gdK x40 false (fun kk => vK (v_ld h42.get x41) fun v => kk v h42) h42 fun x43 h44 => gdK x40 false (fun kk => vK (v_lss x43 (ii 0)) fun v => kk v h44) h44 fun x45 h46 => vK (v_pick x40 (.bool true) x45) fun x47 => gdK x47 false (fun kk => vK (v_fa 3 x1) fun v => kk v h46) h46 fun x48 h49 => gdK x47 false (fun kk => vK (v_ld h49.get x48) fun v => kk v h49) h49 fun x50 h51 => gdK x47 false (fun kk => vK (v_geq x50 (ii 2147483648)) fun v => kk v h51) h51 fun x52 h53 => vK (v_pick x47 (.bool true) x52) fun x54 => bK x54 (some ((ii 1), h53)) (vK (v_fa 4 x1) fun x55 => vK (v_ld h53.get x55) fun x56 => vK (v_lenS x56) fun x57 => vK (v_gtr x57 (ii 4096)) fun x58 => bK x58 (some ((ii 2), h53)) (some ((ii 0), h53)))
theorem I7_0 : iB1 E D7 (J7_0 E) := Is.rf
def S7 : Fun := fA1 (J7_0 E)
theorem S7_eq : SQ D7 S7 := eB1 I7_0
def D8 := cm 8
def J8_0 (r0 r1 r2 : DV) (h : H) : Ans := vK (v_eqv .ptr false h.get r0 .nilp) fun x1 => gdK x1 false (fun kk => kk r1 h) h fun x2 h3 => gdK x1 false (fun kk => kk r2 h3) h3 fun x4 h5 => gdK x1 false (fun kk => wK (callK E 16 [x2, x4] h5) kk) h5 fun x6 h7 => gdK x1 false (fun kk => vK (v_not x6) fun v => kk v h7) h7 fun x8 h9 => vK (v_pick x1 (.bool true) x8) fun x10 => bK x10 (some ((.tup [(ii 0), (.str [])]), h9)) (wK (callK E 17 [r0, r1, r2] h9) fun x11 h12 => vK (v_ext 0 x11) fun x13 => vK (v_ext 1 x11) fun x14 => vK (v_nilchk r0) fun x15 => vK (v_fa 1 x15) fun x16 => vK (v_ld h12.get x16) fun x17 => vK (v_lkp .int .nils false h12.get x17 r1) fun x18 => gdK x14 true (fun kk => kk x18 h12) h12 fun x19 h20 => gdK x14 true (fun kk => kk x13 h20) h20 fun x21 h22 => gdK x14 true (fun kk => vK (v_iaS 3 x19 x21) fun v => kk v h22) h22 fun x23 h24 => gdK x14 true (fun kk => vK (v_fa 1 x23) fun v => kk v h24) h24 fun x25 h26 => gdK x14 true (fun kk => vK (v_ld h26.get x25) fun v => kk v h26) h26 fun x27 h28 => vK (v_pick x14 x27 (.bool false)) fun x29 => bK x29 (some ((.tup [(ii 3), (.str [])]), h28)) (bK x14 (vK (v_iaS 3 x18 x13) fun x30 => vK (v_fa 2 x30) fun x31 => vK (v_ld h28.get x31) fun x32 => some ((.tup [(ii 2), x32]), h28)) (vK (v_lenL x18) fun x33 => vK (v_nilchk r0) fun x34 => vK (v_fa 0 x34) fun x35 => vK (v_ld h28.get x35) fun x36 => vK (v_eql x33 x36) fun x37 => gdK x37 true (fun kk => kk x13 h28) h28 fun x38 h39 => gdK x37 true (fun kk => vK (v_eql x38 (ii 0)) fun v => kk v h39) h39 fun x40 h41 => vK (v_pick x37 x40 (.bool false)) fun x42 => bK x42 (some ((.tup [(ii 4), (.str [])]), h41)) (vK (v_bld [(ii 0), (.bool false), (.str [])] [(0, 1, r2), (1, 1, (.bool true))]) fun x43 => n_bsl 1 3 [(ii 0), (.bool false), (.str [])] [(0, 3, x43)] h41 fun x44 h45 => wK (callK E 18 [x18, x13, x44] h45) fun x46 h47 => vK (v_nilchk r0) fun x48 => vK (v_fa 1 x48) fun x49 => vK (v_ld h47.get x49) fun x50 => vK (v_lenL x46) fun x51 => vK (v_nilchk r0) fun x52 => vK (v_fa 0 x52) fun x53 => vK (v_ld h47.get x53) fun x54 => vK (v_sub x51 x54) fun x55 => vK (v_mx x55 (ii 0)) fun x56 => vK (v_slL 3 x46 (some x56) none) fun x57 => wK (dMup .int x50 r1 x57 h47) fun x58 h59 => some ((.tup [(ii 1), (.str [])]), h59)))))
theorem I8_0 : iB3 E D8 (J8_0 E) := Is.rf
def S8 : Fun := fA3 (J8_0 E)
theorem S8_eq : SQ D8 S8 := eB3 I8_0
def D9 := cm 9
def J9_0 (r0 r1 : DV) (h : H) : Ans := n_alc 1 1 (.list [(ii 0)]) h fun x1 h2 => wK (callK E 19 [r1, (.ifc 67 x1)] h2) fun x3 h4 => bK x3 (vK (v_fa 0 x1) fun x5 => vK (v_ld h4.get x5) fun x6 => wK (callK E 20 [x6, (.str [])] h4) fun x7 h8 => some (x7, h8)) (wK (callK E 20 [(ii 0), r0] h4) fun x9 h10 => vK (v_lenS x9) fun x11 => vK (v_leq x11 (ii 4096)) fun x12 => bK x12 (some (x9, h10)) (wK (callK E 20 [(ii 2), (.str [])] h10) fun x13 h14 => some (x13, h14)))
theorem I9_0 : iB2 E D9 (J9_0 E) := Is.rf
def S9 : Fun := fA2 (J9_0 E)
theorem S9_eq : SQ D9 S9 := eB2 I9_0
def D10 := cm 10
def J10_0 (r0 r1 : DV) (h : H) : Ans := wK (callK E 21 [r1] h) fun x1 h2 => vK (v_ext 0 x1) fun x3 => vK (v_ext 1 x1) fun x4 => n_alc 6 6 (.list [(ii 0), (ii 0), (ii 0), (.str []), (.str []), (.str [])]) h2 fun x5 h6 => wK (dStF 6 x5 x3 h6) fun x7 h8 => vK (v_neq x4 (ii 0)) fun x9 => bK x9 (vK (v_bld [(ii 0)] [(0, 1, (ii 3))]) fun x10 => some ((.tup [(.str []), (.ifc 44 x10)]), h8)) (vK (v_nilchk r0) fun x11 => vK (v_fa 2 x11) fun x12 => vK (v_ld h8.get x12) fun x13 => vK (v_add x13 (ii 1)) fun x14 => vK (v_nilchk r0) fun x15 => vK (v_fa 2 x15) fun x16 => wK (dStF 1 x16 x14 h8) fun x17 h18 => vK (v_nilchk r0) fun x19 => vK (v_fa 0 x19) fun x20 => vK (v_ld h18.get x20) fun x21 => vK (v_ldN 6 h18.get x5) fun x22 => wK (callK E 22 [x21, x22] h18) fun x23 h24 => vK (v_ext 0 x23) fun x25 => vK (v_ext 1 x23) fun x26 => vK (v_neq x25 (ii 0)) fun x27 => bK x27 (vK (v_bld [(ii 0)] [(0, 1, x25)]) fun x28 => some ((.tup [(.str []), (.ifc 44 x28)]), h24)) (some ((.tup [x26, .nili]), h24)))
theorem I10_0 : iB2 E D10 (J10_0 E) := Is.rf
def S10 : Fun := fA2 (J10_0 E)
theorem S10_eq : SQ D10 S10 := eB2 I10_0
def D11 := cm 11
def J11_0 (r0 r1 r2 r3 : DV) (h : H) : Ans := vK (v_eqv .ptr false h.get r0 .nilp) fun x1 => gdK x1 false (fun kk => kk r1 h) h fun x2 h3 => gdK x1 false (fun kk => kk r2 h3) h3 fun x4 h5 => gdK x1 false (fun kk => wK (callK E 16 [x2, x4] h5) kk) h5 fun x6 h7 => gdK x1 false (fun kk => vK (v_not x6) fun v => kk v h7) h7 fun x8 h9 => vK (v_pick x1 (.bool true) x8) fun x10 => gdK x10 false (fun kk => kk r3 h9) h9 fun x11 h12 => gdK x10 false (fun kk => vK (v_lenS x11) fun v => kk v h12) h12 fun x13 h14 => gdK x10 false (fun kk => vK (v_gtr x13 (ii 4096)) fun v => kk v h14) h14 fun x15 h16 => vK (v_pick x10 (.bool true) x15) fun x17 => bK x17 (some ((.bool false), h16)) (wK (callK E 17 [r0, r1, r2] h16) fun x18 h19 => vK (v_ext 0 x18) fun x20 => vK (v_ext 1 x18) fun x21 => vK (v_not x21) fun x22 => gdK x22 false (fun kk => kk r0 h19) h19 fun x23 h24 => gdK x22 false (fun kk => vK (v_nilchk x23) fun v => kk v h24) h24 fun x25 h26 => gdK x22 false (fun kk => vK (v_fa 1 x25) fun v => kk v h26) h26 fun x27 h28 => gdK x22 false (fun kk => vK (v_ld h28.get x27) fun v => kk v h28) h28 fun x29 h30 => gdK x22 false (fun kk => kk r1 h30) h30 fun x31 h32 => gdK x22 false (fun kk => vK (v_lkp .int .nils false h32.get x29 x31) fun v => kk v h32) h32 fun x33 h34 => gdK x22 false (fun kk => kk x20 h34) h34 fun x35 h36 => gdK x22 false (fun kk => vK (v_iaS 3 x33 x35) fun v => kk v h36) h36 fun x37 h38 => gdK x22 false (fun kk => vK (v_fa 1 x37) fun v => kk v h38) h38 fun x39 h40 => gdK x22 false (fun kk => vK (v_ld h40.get x39) fun v => kk v h40) h40 fun x41 h42 => gdK x22 false (fun kk => vK (v_not x41) fun v => kk v h42) h42 fun x43 h44 => vK (v_pick x22 (.bool true) x43) fun x45 => bK x45 (some ((.bool false), h44)) (vK (v_nilchk r0) fun x46 => vK (v_fa 1 x46) fun x47 => vK (v_ld h44.get x47) fun x48 => vK (v_lkp .int .nils false h44.get x48 r1) fun x49 => vK (v_bld [(ii 0), (.bool false), (.str [])] [(0, 1, r2), (2, 1, r3)]) fun x50 => vK (v_iaS 3 x49 x20) fun x51 => wK (dStF 3 x51 x50 h44) fun x52 h53 => some ((.bool true), h53)))
theorem I11_0 : iB4 E D11 (J11_0 E) := Is.rf
def S11 : Fun := fA4 (J11_0 E)
theorem S11_eq : SQ D11 S11 := eB4 I11_0
def D12 := cm 12
def J12_0 (r0 : DV) (h : H) : Ans := wK (callK E 24 [(ii 3), (ii 200), (ii 3), (ii 0)] h) fun x1 h2 => wK (callK E 23 [x1, (ii 0)] h2) fun x3 h4 => vK (v_ext 0 x3) fun x5 => vK (v_ext 1 x3) fun x6 => wK (callK E 13 [x5, r0] h4) fun x7 h8 => some ((.tup [x7, x5]), h8)
theorem I12_0 : iB1 E D12 (J12_0 E) := Is.rf
def S12 : Fun := fA1 (J12_0 E)
theorem S12_eq : SQ D12 S12 := eB1 I12_0
def D13 := cm 13
def J13_0 (r0 r1 : DV) (h : H) : Ans := vK (v_eqv .ptr false h.get r0 .nilp) fun x1 => bK x1 (some (.nilp, h)) (wK (callK E 25 [r1] h) fun x2 h3 => vK (v_bld [.nilp, .nilp, (ii 0)] [(0, 1, r0), (1, 1, x2)]) fun x4 => n_box x4 h3 fun x5 h6 => some (x5, h6))
theorem I13_0 : iB2 E D13 (J13_0 E) := Is.rf
def S13 : Fun := fA2 (J13_0 E)
theorem S13_eq : SQ D13 S13 := eB2 I13_0
def D14 := cm 14
def J14_0 (r0 r1 r2 : DV) (h : H) : Ans := n_box r2 h fun x1 h2 => n_alc 5 5 (.list [(ii 0), (ii 0), (ii 0), (ii 0), (.str [])]) h2 fun x3 h4 => vK (v_ldN 6 h4.get x1) fun x5 => wK (callK E 26 [x5] h4) fun x6 h7 => vK (v_ext 0 x6) fun x8 => vK (v_ext 1 x6) fun x9 => vK (v_bld [(ii 0), (ii 0), (ii 0), (ii 0), (.str [])] [(0, 1, (ii 1)), (1, 1, r0), (3, 1, r1), (4, 1, x8)]) fun x10 => wK (dStF 5 x3 x10 h7) fun x11 h12 => vK (v_ldN 5 h12.get x3) fun x13 => some (x13, h12)
theorem I14_0 : iB3 E D14 (J14_0 E) := Is.rf
def S14 : Fun := fA3 (J14_0 E)
theorem S14_eq : SQ D14 S14 := eB3 I14_0
def D15 := cm 15
def J15_0 (r0 : DV) (h : H) : Ans := wK (callK E 27 [r0] h) fun x1 h2 => wK (callK E 28 [x1] h2) fun x3 h4 => wK (callK E 29 [x1] h4) fun x5 h6 => wK (callK E 30 [x1] h6) fun x7 h8 => vK (v_neq x7 (ii 0)) fun x9 => bK x9 (some ((.tup [(ii 0), (.str []), (ii 3)]), h8)) (some ((.tup [x3, x5, (ii 0)]), h8))
theorem I15_0 : iB1 E D15 (J15_0 E) := Is.rf
def S15 : Fun := fA1 (J15_0 E)
theorem S15_eq : SQ D15 S15 := eB1 I15_0
def D16 := cm 16
def J16_0 (E : Env) (r0 r1 : DV) (h : H) : Ans := vK (v_geq r0 (ii 0)) fun x1 => gdK x1 true (fun kk => kk r0 h) h fun x2 h3 => gdK x1 true (fun kk => vK (v_lss x2 (ii 64)) fun v => kk v h3) h3 fun x4 h5 => vK (v_pick x1 x4 (.bool false)) fun x6 => gdK x6 true (fun kk => kk r1 h5) h5 fun x7 h8 => gdK x6 true (fun kk => vK (v_geq x7 (ii 0)) fun v => kk v h8) h8 fun x9 h10 => vK (v_pick x6 x9 (.bool false)) fun x11 => gdK x11 true (fun kk => kk r1 h10) h10 fun x12 h13 => gdK x11 true (fun kk => vK (v_lss x12 (ii 2147483648)) fun v => kk v h13) h13 fun x14 h15 => vK (v_pick x11 x14 (.bool false)) fun x16 => some (x16, h15)
theorem I16_0 : iB2 E D16 (J16_0 E) := Is.rf
def S16 : Fun := fA2 (J16_0 E)
theorem S16_eq : SQ D16 S16 := eB2 I16_0
def D17 := cm 17
def J17_0 (r0 r1 r2 : DV) (h : H) : Ans := vK (v_nilchk r0) fun x1 => vK (v_fa 1 x1) fun x2 => vK (v_ld h.get x2) fun x3 => vK (v_lkp .int .nils false h.get x3 r1) fun x4 => wK (callK E 31 [x4, r2, (.fn (.func 32) [] [])] h) fun x5 h6 => vK (v_ext 0 x5) fun x7 => vK (v_ext 1 x5) fun x8 => some ((.tup [x7, x8]), h6)
theorem I17_0 : iB3 E D17 (J17_0 E) := Is.rf
def S17 : Fun := fA3 (J17_0 E)
theorem S17_eq : SQ D17 S17 := eB3 I17_0
def D18 := cm 18
def J18_0 (r0 r1 r2 : DV) (h : H) : Ans := vK (v_slL 3 r0 (some r1) none) fun x1 => vK (v_lenL r2) fun x2 => vK (v_eql x2 (ii 0)) fun x3 => bK x3 (some (r0, h)) (vK (v_lenL r0) fun x4 => vK (v_eql r1 x4) fun x5 => bK x5 (wK (dAppendF 3 32 r0 r2 h) fun x6 h7 => some (x6, h7)) (vK (v_add x4 x2) fun x8 => vK (v_capL r0) fun x9 => vK (v_gtr x8 x9) fun x10 => bK x10 (vK (v_slL 3 r0 none (some r1)) fun x11 => vK (v_add x4 x2) fun x12 => vK (v_sub x12 r1) fun x13 => wK (dApz 3 32 [(ii 0), (.bool false), (.str [])] x11 x13 h) fun x14 h15 => vK (v_slL 3 x14 (some r1) none) fun x16 => wK (dCopyF 3 x16 r2 h15) fun x17 h18 => vK (v_add r1 x2) fun x19 => vK (v_slL 3 x14 (some x19) none) fun x20 => vK (v_slL 3 r0 (some r1) none) fun x21 => wK (dCopyF 3 x20 x21 h18) fun x22 h23 => some (x14, h23)) (vK (v_add x4 x2) fun x24 => vK (v_slL 3 r0 none (some x24)) fun x25 => vK (v_add r1 x2) fun x26 => vK (v_slL 3 x25 (some x26) none) fun x27 => vK (v_ovl h.get r2 x27) fun x28 => vK (v_not x28) fun x29 => bK x29 (vK (v_add r1 x2) fun x30 => vK (v_slL 3 x25 (some x30) none) fun x31 => vK (v_slL 3 x25 (some r1) none) fun x32 => wK (dCopyF 3 x31 x32 h) fun x33 h34 => vK (v_slL 3 x25 (some r1) none) fun x35 => wK (dCopyF 3 x35 r2 h34) fun x36 h37 => some (x25, h37)) (vK (v_slL 3 x25 (some x4) none) fun x38 => wK (dCopyF 3 x38 r2 h) fun x39 h40 => vK (v_slL 3 x25 (some r1) none) fun x41 => wK (callK E 34 [x41, x2] h40) fun x42 h43 => some (x25, h43)))))
theorem I18_0 : iB3 E D18 (J18_0 E) := Is.rf
def S18 : Fun := fA3 (J18_0 E)
theorem S18_eq : SQ D18 S18 := eB3 I18_0
def D19 := cm 19
def C19_1 := cr (cr (cr D19.body))
def C19_2 := cr (cr (cr C19_1))
def C19_3 := cr (cr C19_2)
def J19_3 (r0 r1 r5 r7 : DV) (h : H) : Ans := vK (v_ldN 3 h.get r5) fun x1 => wK (callK E 38 [r0, r1, x1, r7] h) fun x2 h3 => some (x2, h3)
def J19_2 (r0 r1 r5 r6 : DV) (h : H) : Ans := wK (c_mth E [] r6 [] h) fun x1 h2 => wK (c_mth E [] x1 [] h2) fun x3 h4 => vK (v_neq x3 (.int .u8 (.ofNat 20))) fun x5 => gdK x5 true (fun kk => kk x1 h4) h4 fun x6 h7 => gdK x5 true (fun kk => none) h7 fun x8 h9 => gdK x5 true (fun kk => wK (c_mth E [] x6 [x8] h9) kk) h9 fun x10 h11 => gdK x5 true (fun kk => vK (v_not x10) fun v => kk v h11) h11 fun x12 h13 => vK (v_pick x5 x12 (.bool false)) fun x14 => bK x14 (none) (J19_3 E r0 r1 r5 x1 h13)
def J19_1 (r0 r1 : DV) (h : H) : Ans := wK (callK E 35 [r1] h) fun x1 h2 => n_alc 3 3 (.list [.nilp, .nilp, (.int .u64 (.ofNat 0))]) h2 fun x3 h4 => wK (dStF 3 x3 x1 h4) fun x5 h6 => vK (v_ldN 3 h6.get x3) fun x7 => wK (callK E 36 [x7] h6) fun x8 h9 => wK (c_mth E [] x8 [] h9) fun x10 h11 => vK (v_neq x10 (.int .u8 (.ofNat 22))) fun x12 => gdK x12 false (fun kk => vK (v_ldN 3 h11.get x3) fun v => kk v h11) h11 fun x13 h14 => gdK x12 false (fun kk => wK (callK E 37 [x13] h14) kk) h14 fun x15 h16 => vK (v_pick x12 (.bool true) x15) fun x17 => bK x17 (none) (J19_2 E r0 r1 x3 x8 h16)
def J19_0 (r0 r1 : DV) (h : H) : Ans := vK (v_eqv .nilI false h.get r0 .nili) fun x1 => bK x1 (some ((.bool false), h)) (vK (v_eqv .nilI false h.get r1 .nili) fun x2 => bK x2 (none) (J19_1 E r0 r1 h))
theorem I19_3 : Is E C19_3 (retK3 D19.res) (fun σ h => J19_3 E (σ p0) (σ p1) (σ p5) (σ p7) h) := Is.rf
theorem I19_2 : Is E C19_2 (retK3 D19.res) (fun σ h => J19_2 E (σ p0) (σ p1) (σ p5) (σ p6) h) := Is.aq (Is.sq (Is.sq (I19_3 E) (Is.leaf _)) (Is.leaf _))
theorem I19_1 : Is E C19_1 (retK3 D19.res) (fun σ h => J19_1 E (σ p0) (σ p1) h) := Is.aq (Is.sq (Is.sq (Is.sq (I19_2 E) (Is.leaf _)) (Is.leaf _)) (Is.leaf _))
theorem I19_0 : iB2 E D19 (J19_0 E) := Is.aq (Is.sq (Is.sq (Is.sq (I19_1 E) (Is.leaf _)) (Is.leaf _)) (Is.leaf _))
def S19 : Fun := fA2 (J19_0 E)
theorem S19_eq : SQ D19 S19 := eB2 I19_0
def D20 := cm 20
def J20_0 (r0 r1 : DV) (h : H) : Ans := wK (callK E 39 [(ii 65536)] h) fun x1 h2 => wK (callK E 40 [x1, r0] h2) fun x3 h4 => wK (callK E 41 [x1, r1] h4) fun x5 h6 => wK (callK E 42 [x1] h6) fun x7 h8 => vK (v_ext 0 x7) fun x9 => vK (v_ext 1 x7) fun x10 => some (x9, h8)
theorem I20_0 : iB2 E D20 (J20_0 E) := Is.rf
def S20 : Fun := fA2 (J20_0 E)
theorem S20_eq : SQ D20 S20 := eB2 I20_0
def D21 := cm 21
def J21_0 (r0 : DV) (h : H) : Ans := n_alc 6 6 (.list [(ii 0), (ii 0), (ii 0), (.str []), (.str []), (.str [])]) h fun x1 h2 => wK (callK E 27 [r0] h2) fun x3 h4 => wK (callK E 28 [x3] h4) fun x5 h6 => wK (callK E 43 [x3] h6) fun x7 h8 => wK (callK E 43 [x3] h8) fun x9 h10 => wK (callK E 29 [x3] h10) fun x11 h12 => wK (callK E 29 [x3] h12) fun x13 h14 => wK (callK E 29 [x3] h14) fun x15 h16 => vK (v_bld [(ii 0), (ii 0), (ii 0), (.str []), (.str []), (.str [])] [(0, 1, x5), (1, 1, x7), (2, 1, x9), (3, 1, x11), (4, 1, x13), (5, 1, x15)]) fun x17 => n_alc 6 6 (.list [(ii 0), (ii 0), (ii 0), (.str []), (.str []), (.str [])]) h16 fun x18 h19 => wK (dStF 6 x18 x17 h19) fun x20 h21 => wK (callK E 30 [x3] h21) fun x22 h23 => vK (v_neq x22 (ii 0)) fun x24 => gdK x24 false (fun kk => vK (v_ldN 6 h23.get x18) fun v => kk v h23) h23 fun x25 h26 => gdK x24 false (fun kk => wK (callK E 44 [x25] h26) kk) h26 fun x27 h28 => gdK x24 false (fun kk => vK (v_neq x27 (ii 0)) fun v => kk v h28) h28 fun x29 h30 => vK (v_pick x24 (.bool true) x29) fun x31 => bK x31 (vK (v_bld [(ii 0), (ii 0), (ii 0), (.str []), (.str []), (.str [])] []) fun x32 => wK (dStF 6 x1 x32 h30) fun x33 h34 => vK (v_ldN 6 h34.get x1) fun x35 => some ((.tup [x35, (ii 3)]), h34)) (vK (v_ldN 6 h30.get x18) fun x36 => wK (dStF 6 x1 x36 h30) fun x37 h38 => vK (v_ldN 6 h38.get x1) fun x39 => some ((.tup [x39, (ii 0)]), h38))
theorem I21_0 : iB1 E D21 (J21_0 E) := Is.rf
def S21 : Fun := fA1 (J21_0 E)
theorem S21_eq : SQ D21 S21 := eB1 I21_0
def D22 := cm 22
def C22_1 := cr (cr (cr (cr (cr D22.body))))
def J22_1 (r0 r3 r7 : DV) (h : H) : Ans := vK (v_nilchk r0) fun x1 => vK (v_fa 1 x1) fun x2 => vK (v_ld h.get x2) fun x3 => vK (v_ldN 6 h.get r3) fun x4 => wK (callK E 46 [x3, x4] h) fun x5 h6 => vK (v_ext 0 x5) fun x7 => vK (v_ext 1 x5) fun x8 => vK (v_neq x7 (ii 0)) fun x9 => bK x9 (some ((.tup [x7, (.str [])]), h6)) (vK (v_nilchk r0) fun x10 => vK (v_fa 3 x10) fun x11 => vK (v_ld h6.get x11) fun x12 => n_bsl 1 1 [(.str [])] [(0, 1, r7)] h6 fun x13 h14 => wK (dAppendF 1 16 x12 x13 h14) fun x15 h16 => vK (v_nilchk r0) fun x17 => vK (v_fa 3 x17) fun x18 => wK (dStF 1 x18 x15 h16) fun x19 h20 => some ((.tup [(ii 0), (.str [])]), h20))
def J22_0 (r0 r1 : DV) (h : H) : Ans := n_box r1 h fun x1 h2 => wK (callK E 45 [r0] h2) fun x3 h4 => vK (v_neq x3 (ii 0)) fun x5 => bK x5 (some ((.tup [x3, (.str [])]), h4)) (vK (v_ldN 6 h4.get x1) fun x6 => wK (callK E 26 [x6] h4) fun x7 h8 => vK (v_ext 0 x7) fun x9 => vK (v_ext 1 x7) fun x10 => vK (v_neq x10 (ii 0)) fun x11 => bK x11 (some ((.tup [x10, (.str [])]), h8)) (vK (v_fa 0 x1) fun x12 => vK (v_ld h8.get x12) fun x13 => vK (v_geq x13 (ii 9)) fun x14 => bK x14 (vK (v_nilchk r0) fun x15 => vK (v_fa 1 x15) fun x16 => vK (v_ld h8.get x16) fun x17 => vK (v_ldN 6 h8.get x1) fun x18 => wK (callK E 46 [x17, x18] h8) fun x19 h20 => vK (v_ext 0 x19) fun x21 => vK (v_ext 1 x19) fun x22 => some ((.tup [x21, x22]), h20)) (n_bsl 1 1 [(.str [])] [(0, 1, x9)] h8 fun x23 h24 => wK (callK E 47 [r0, x23] h24) fun x25 h26 => vK (v_not x25) fun x27 => bK x27 (some ((.tup [(ii 2), (.str [])]), h26)) (vK (v_nilchk r0) fun x28 => vK (v_fa 3 x28) fun x29 => vK (v_ld h26.get x29) fun x30 => vK (v_lenL x30) fun x31 => vK (v_geq x31 (ii 100)) fun x32 => gdK x32 false (fun kk => kk r0 h26) h26 fun x33 h34 => gdK x32 false (fun kk => kk r0 h34) h34 fun x35 h36 => gdK x32 false (fun kk => vK (v_nilchk x35) fun v => kk v h36) h36 fun x37 h38 => gdK x32 false (fun kk => vK (v_fa 3 x37) fun v => kk v h38) h38 fun x39 h40 => gdK x32 false (fun kk => vK (v_ld h40.get x39) fun v => kk v h40) h40 fun x41 h42 => gdK x32 false (fun kk => wK (callK E 48 [x41] h42) kk) h42 fun x43 h44 => gdK x32 false (fun kk => kk x9 h44) h44 fun x45 h46 => gdK x32 false (fun kk => n_bsl 1 1 [(.str [])] [(0, 1, x45)] h46 kk) h46 fun x47 h48 => gdK x32 false (fun kk => wK (dAppendF 1 16 x43 x47 h48) kk) h48 fun x49 h50 => gdK x32 false (fun kk => wK (callK E 47 [x33, x49] h50) kk) h50 fun x51 h52 => gdK x32 false (fun kk => vK (v_not x51) fun v => kk v h52) h52 fun x53 h54 => vK (v_pick x32 (.bool true) x53) fun x55 => bK x55 (wK (callK E 49 [r0, (.int .i64 (.negSucc 0))] h54) fun x56 h57 => vK (v_neq x56 (ii 0)) fun x58 => bK x58 (some ((.tup [x56, (.str [])]), h57)) (J22_1 E r0 x1 x9 h57)) (J22_1 E r0 x1 x9 h54)))))
theorem I22_1 : Is E C22_1 (retK3 D22.res) (fun σ h => J22_1 E (σ p0) (σ p3) (σ p7) h) := Is.rf
theorem I22_0 : iB2 E D22 (J22_0 E) := Is.aq (Is.sq (Is.sq (Is.sq (Is.sq (Is.sq (I22_1 E) (Is.leaf _)) (Is.leaf _)) (Is.leaf _)) (Is.leaf _)) (Is.leaf _))
def S22 : Fun := fA2 (J22_0 E)
theorem S22_eq : SQ D22 S22 := eB2 I22_0
def D23 := cm 23
def C23_1 := cr (cr (cr (cr (cr D23.body))))
def C23_2 := cl (cl (cr (cr (cr (cr D23.body)))))
def C23_3 := cr (cl (cr (cl C23_2)))
def C23_4 := cl (cr (cl (cl (cr (cl C23_2)))))
def C23_5 := cr (cr (cr (cl C23_4)))
def J23_1 (r0 r1 r6 r7 r9 : DV) (h : H) : Ans := vK (v_ld h.get r9) fun x1 => vK (v_gtr x1 (ii 2147482648)) fun x2 => bK x2 (some ((.tup [.nilp, (ii 5)]), h)) (vK (v_ld h.get r9) fun x3 => vK (v_bld [.nilp, .nilp, (ii 0), .nils, (ii 0), (.bool false)] [(0, 1, r0), (1, 1, r7), (2, 1, r1), (4, 1, x3)]) fun x4 => n_box x4 h fun x5 h6 => wK (callK E 52 [x5, r6, (.fn (.func 53) [] [r9])] h6) fun x7 h8 => some ((.tup [x5, (ii 0)]), h8))
def J23_3 (E : Env) (i2 : DV → H → Ans) (r8 r9 : DV) (h : H) : Ans := vK (v_slL 5 r8 (some (ii 1)) none) fun x1 => vK (v_ld h.get r9) fun x2 => vK (v_add x2 (ii 1)) fun x3 => wK (dStF 1 r9 x3 h) fun x4 h5 => i2 x1 h5
def J23_5 (E : Env) (i4 : DV → H → Ans) (r56 : DV) (h : H) : Ans := vK (v_add r56 (ii 1)) fun x1 => i4 x1 h
def B23_4 (i2 : DV → H → Ans) (r7 r8 r9 r54 r55 : DV) (i4 : DV → H → Ans) (r56 : DV) (h : H) : Ans := vK (v_lss r56 r55) fun x1 => bK x1 (vK (v_iaS 1 r54 r56) fun x2 => vK (v_ld h.get x2) fun x3 => wK (callK E 21 [x3] h) fun x4 h5 => vK (v_ext 0 x4) fun x6 => vK (v_ext 1 x4) fun x7 => n_alc 6 6 (.list [(ii 0), (ii 0), (ii 0), (.str []), (.str []), (.str [])]) h5 fun x8 h9 => wK (dStF 6 x8 x6 h9) fun x10 h11 => vK (v_eql x7 (ii 0)) fun x12 => bK x12 (vK (v_ldN 6 h11.get x8) fun x13 => wK (callK E 46 [r7, x13] h11) fun x14 h15 => J23_5 E i4 r56 h15) (J23_5 E i4 r56 h11)) (J23_3 E i2 r8 r9 h)
def L23_4 (i2 : DV → H → Ans) (r7 r8 r9 r54 r55 : DV) (n : Nat) : DV → H → Ans := Nat.rec (motive := fun _ => DV → H → Ans) (fun _ _ => none) (fun _ i => B23_4 E i2 r7 r8 r9 r54 r55 i) n
def B23_2 (r0 r1 r6 r7 r9 : DV) (i2 : DV → H → Ans) (r8 : DV) (h : H) : Ans := vK (v_lenL r8) fun x1 => vK (v_gtr x1 (ii 0)) fun x2 => gdK x2 true (fun kk => kk r8 h) h fun x3 h4 => gdK x2 true (fun kk => vK (v_iaS 5 x3 (ii 0)) fun v => kk v h4) h4 fun x5 h6 => gdK x2 true (fun kk => vK (v_fa 1 x5) fun v => kk v h6) h6 fun x7 h8 => gdK x2 true (fun kk => vK (v_ld h8.get x7) fun v => kk v h8) h8 fun x9 h10 => gdK x2 true (fun kk => vK (v_ld h10.get r9) fun v => kk v h10) h10 fun x11 h12 => gdK x2 true (fun kk => vK (v_eql x9 x11) fun v => kk v h12) h12 fun x13 h14 => vK (v_pick x2 x13 (.bool false)) fun x15 => gdK x15 true (fun kk => kk r8 h14) h14 fun x16 h17 => gdK x15 true (fun kk => vK (v_iaS 5 x16 (ii 0)) fun v => kk v h17) h17 fun x18 h19 => gdK x15 true (fun kk => vK (v_fa 2 x18) fun v => kk v h19) h19 fun x20 h21 => gdK x15 true (fun kk => vK (v_ld h21.get x20) fun v => kk v h21) h21 fun x22 h23 => gdK x15 true (fun kk => vK (v_lss x22 (ii 0)) fun v => kk v h23) h23 fun x24 h25 => vK (v_pick x15 x24 (.bool false)) fun x26 => bK x26 (vK (v_iaS 5 r8 (ii 0)) fun x27 => vK (v_fa 4 x27) fun x28 => vK (v_ld h25.get x28) fun x29 => vK (v_lenL x29) fun x30 => L23_4 E i2 r7 r8 r9 x29 x30 FUEL (ii 0) h25) (J23_1 E r0 r1 r6 r7 r9 h25)
def L23_2 (r0 r1 r6 r7 r9 : DV) (n : Nat) : DV → H → Ans := Nat.rec (motive := fun _ => DV → H → Ans) (fun _ _ => none) (fun _ i => B23_2 E r0 r1 r6 r7 r9 i) n
def J23_0 (r0 r1 : DV) (h : H) : Ans := vK (v_eqv .ptr false h.get r0 .nilp) fun x1 => gdK x1 false (fun kk => kk r1 h) h fun x2 h3 => gdK x1 false (fun kk => vK (v_lss x2 (ii 0)) fun v => kk v h3) h3 fun x4 h5 => vK (v_pick x1 (.bool true) x4) fun x6 => gdK x6 false (fun kk => kk r1 h5) h5 fun x7 h8 => gdK x6 false (fun kk => vK (v_gtr x7 (ii 14)) fun v => kk v h8) h8 fun x9 h10 => vK (v_pick x6 (.bool true) x9) fun x11 => bK x11 (some ((.tup [.nilp, (ii 1)]), h10)) (wK (callK E 50 [r0] h10) fun x12 h13 => wK (callK E 51 [x12] h13) fun x14 h15 => vK (v_ext 0 x14) fun x16 => vK (v_ext 1 x14) fun x17 => vK (v_ext 2 x14) fun x18 => n_alc 1 1 (.list [(ii 0)]) h15 fun x19 h20 => wK (dStF 1 x19 x18 h20) fun x21 h22 => L23_2 E r0 r1 x12 x16 x19 FUEL x17 h22)
theorem I23_1 : Is E C23_1 (retK3 D23.res) (fun σ h => J23_1 E (σ p0) (σ p1) (σ p6) (σ p7) (σ p9) h) := Is.rf
abbrev K23_6 : KT2 (DV × H) := (thenK3 (fun σ h => J23_1 E (σ p0) (σ p1) (σ p6) (σ p7) (σ p9) h) (retK3 D23.res))
abbrev K23_7 (n2 : Nat) : KT2 (DV × H) := (thenK3 (fun σ h => (L23_2 E (σ p0) (σ p1) (σ p6) (σ p7) (σ p9) n2) (σ p8) h) (blockK3 0 (K23_6 E)))
theorem I23_3 (n2 : Nat) : Is E C23_3 (blockK3 1 (K23_7 E n2)) (fun σ h => J23_3 E (L23_2 E (σ p0) (σ p1) (σ p6) (σ p7) (σ p9) n2) (σ p8) (σ p9) h) := Is.rf
abbrev K23_8 (n2 : Nat) : KT2 (DV × H) := (thenK3 (fun σ h => J23_3 E (L23_2 E (σ p0) (σ p1) (σ p6) (σ p7) (σ p9) n2) (σ p8) (σ p9) h) (blockK3 1 (K23_7 E n2)))
abbrev K23_9 (n2 n4 : Nat) : KT2 (DV × H) := (thenK3 (fun σ h => (L23_4 E (L23_2 E (σ p0) (σ p1) (σ p6) (σ p7) (σ p9) n2) (σ p7) (σ p8) (σ p9) (σ p54) (σ p55) n4) (σ p56) h) (blockK3 2 (K23_8 E n2)))
theorem I23_5 (n2 n4 : Nat) : Is E C23_5 (K23_9 E n2 n4) (fun σ h => J23_5 E (L23_4 E (L23_2 E (σ p0) (σ p1) (σ p6) (σ p7) (σ p9) n2) (σ p7) (σ p8) (σ p9) (σ p54) (σ p55) n4) (σ p56) h) := Is.rf
theorem I23_4 (n2 : Nat) : Is E C23_4 (blockK3 2 (K23_8 E n2)) (fun σ h => L23_4 E (L23_2 E (σ p0) (σ p1) (σ p6) (σ p7) (σ p9) n2) (σ p7) (σ p8) (σ p9) (σ p54) (σ p55) FUEL (σ p56) h) := Is.lp (fun n4 σ h => L23_4 E (L23_2 E (σ p0) (σ p1) (σ p6) (σ p7) (σ p9) n2) (σ p7) (σ p8) (σ p9) (σ p54) (σ p55) n4 (σ p56) h) fun n4 => Is.aq (Is.sq (Is.sq (Is.sq (I23_5 E n2 n4) (Is.leaf _)) (Is.leaf _)) (Is.leaf _))
theorem I23_2 : Is E C23_2 (blockK3 0 (K23_6 E)) (fun σ h => L23_2 E (σ p0) (σ p1) (σ p6) (σ p7) (σ p9) FUEL (σ p8) h) := Is.lp (fun n2 σ h => L23_2 E (σ p0) (σ p1) (σ p6) (σ p7) (σ p9) n2 (σ p8) h) fun n2 => Is.aq (Is.sq (Is.bk (Is.sq (I23_3 E n2) (Is.sq (Is.bk (I23_4 E n2)) (Is.leaf _)))) (Is.leaf _))
theorem I23_0 : iB2 E D23 (J23_0 E) := Is.aq (Is.sq (Is.sq (Is.sq (Is.sq (Is.sq (I23_1 E) (Is.bk (I23_2 E))) (Is.leaf _)) (Is.leaf _)) (Is.leaf _)) (Is.leaf _))
def S23 : Fun := fA2 (J23_0 E)
theorem S23_eq : SQ D23 S23 := eB2 I23_0
def D24 := cm 24
def J24_0 (r0 r1 r2 r3 : DV) (h : H) : Ans := vK (v_lss r0 (ii 1)) fun x1 => gdK x1 false (fun kk => kk r0 h) h fun x2 h3 => gdK x1 false (fun kk => vK (v_gtr x2 (ii 8)) fun v => kk v h3) h3 fun x4 h5 => vK (v_pick x1 (.bool true) x4) fun x6 => gdK x6 false (fun kk => kk r2 h5) h5 fun x7 h8 => gdK x6 false (fun kk => vK (v_lss x7 (ii 2)) fun v => kk v h8) h8 fun x9 h10 => vK (v_pick x6 (.bool true) x9) fun x11 => gdK x11 false (fun kk => kk r2 h10) h10 fun x12 h13 => gdK x11 false (fun kk => vK (v_gtr x12 (ii 8)) fun v => kk v h13) h13 fun x14 h15 => vK (v_pick x11 (.bool true) x14) fun x16 => gdK x16 false (fun kk => kk r3 h15) h15 fun x17 h18 => gdK x16 false (fun kk => vK (v_lss x17 (ii 0)) fun v => kk v h18) h18 fun x19 h20 => vK (v_pick x16 (.bool true) x19) fun x21 => gdK x21 false (fun kk => kk r3 h20) h20 fun x22 h23 => gdK x21 false (fun kk => kk r0 h23) h23 fun x24 h25 => gdK x21 false (fun kk => kk r2 h25) h25 fun x26 h27 => gdK x21 false (fun kk => vK (v_sub x24 x26) fun v => kk v h27) h27 fun x28 h29 => gdK x21 false (fun kk => vK (v_gtr x22 x28) fun v => kk v h29) h29 fun x30 h31 => vK (v_pick x21 (.bool true) x30) fun x32 => bK x32 (some (.nilp, h31)) (wK (callK E 54 [r0, r1] h31) fun x33 h34 => wK (callK E 56 [(ii 0), r2] h34) fun x35 h36 => wK (callK E 56 [r2, r3] h36) fun x37 h38 => wK (callK E 55 [x35, x37] h38) fun x39 h40 => vK (v_bld [.nilp, .nilp, (ii 0), (ii 0), (ii 0), (ii 0), (ii 0), (ii 0), (ii 0), (ii 0), (ii 0), (ii 0), (ii 0), (ii 0), (ii 0), (ii 0), (ii 0), (ii 0), (ii 0)] [(0, 1, x33), (1, 1, x39), (2, 1, r2)]) fun x41 => n_box x41 h40 fun x42 h43 => some (x42, h43))
theorem I24_0 : iB4 E D24 (J24_0 E) := Is.rf
def S24 : Fun := fA4 (J24_0 E)
theorem S24_eq : SQ D24 S24 := eB4 I24_0
def D25 := cm 25
def J25_0 (E : Env) (r0 : DV) (h : H) : Ans := vK (v_mx r0 (ii 1)) fun x1 => vK (v_mn x1 (ii 16)) fun x2 => n_mkm h fun x3 h4 => vK (v_bld [(ii 0), .nilm] [(0, 1, x2), (1, 1, x3)]) fun x5 => n_box x5 h4 fun x6 h7 => some (x6, h7)
theorem I25_0 : iB1 E D25 (J25_0 E) := Is.rf
def S25 : Fun := fA1 (J25_0 E)
theorem S25_eq : SQ D25 S25 := eB1 I25_0
def D26 := cm 26
def J26_0 (r0 : DV) (h : H) : Ans := n_box r0 h fun x1 h2 => vK (v_ldN 6 h2.get x1) fun x3 => wK (callK E 44 [x3] h2) fun x4 h5 => vK (v_neq x4 (ii 0)) fun x6 => bK x6 (some ((.tup [(.str []), x4]), h5)) (wK (callK E 39 [(ii 65536)] h5) fun x7 h8 => vK (v_fa 0 x1) fun x9 => vK (v_ld h8.get x9) fun x10 => wK (callK E 40 [x7, x10] h8) fun x11 h12 => vK (v_fa 1 x1) fun x13 => vK (v_ld h12.get x13) fun x14 => wK (callK E 57 [x7, x14] h12) fun x15 h16 => vK (v_fa 2 x1) fun x17 => vK (v_ld h16.get x17) fun x18 => wK (callK E 57 [x7, x18] h16) fun x19 h20 => vK (v_fa 3 x1) fun x21 => vK (v_ld h20.get x21) fun x22 => wK (callK E 41 [x7, x22] h20) fun x23 h24 => vK (v_fa 4 x1) fun x25 => vK (v_ld h24.get x25) fun x26 => wK (callK E 41 [x7, x26] h24) fun x27 h28 => vK (v_fa 5 x1) fun x29 => vK (v_ld h28.get x29) fun x30 => wK (callK E 41 [x7, x30] h28) fun x31 h32 => wK (callK E 42 [x7] h32) fun x33 h34 => vK (v_ext 0 x33) fun x35 => vK (v_ext 1 x33) fun x36 => some ((.tup [x35, x36]), h34))
theorem I26_0 : iB1 E D26 (J26_0 E) := Is.rf
def S26 : Fun := fA1 (J26_0 E)
theorem S26_eq : SQ D26 S26 := eB1 I26_0
def D27 := cm 27
def J27_0 (E : Env) (r0 : DV) (h : H) : Ans := vK (v_bld [(.str []), (.bool false)] [(0, 1, r0)]) fun x1 => n_box x1 h fun x2 h3 => some (x2, h3)
theorem I27_0 : iB1 E D27 (J27_0 E) := Is.rf
def S27 : Fun := fA1 (J27_0 E)
theorem S27_eq : SQ D27 S27 := eB1 I27_0
def D28 := cm 28
def J28_0 (r0 : DV) (h : H) : Ans := wK (callK E 58 [r0, (ii 1)] h) fun x1 h2 => vK (v_ext 0 x1) fun x3 => vK (v_ext 1 x1) fun x4 => bK x4 (vK (v_ixS x3 (ii 0)) fun x5 => vK (v_conv .i64 x5) fun x6 => some (x6, h2)) (some ((ii 0), h2))
theorem I28_0 : iB1 E D28 (J28_0 E) := Is.rf
def S28 : Fun := fA1 (J28_0 E)
theorem S28_eq : SQ D28 S28 := eB1 I28_0
def D29 := cm 29
def J29_0 (r0 : DV) (h : H) : Ans := wK (callK E 43 [r0] h) fun x1 h2 => wK (callK E 58 [r0, x1] h2) fun x3 h4 => vK (v_ext 0 x3) fun x5 => vK (v_ext 1 x3) fun x6 => some (x5, h4)
theorem I29_0 : iB1 E D29 (J29_0 E) := Is.rf
def S29 : Fun := fA1 (J29_0 E)
theorem S29_eq : SQ D29 S29 := eB1 I29_0
def D30 := cm 30
def J30_0 (E : Env) (r0 : DV) (h : H) : Ans := vK (v_eqv .ptr false h.get r0 .nilp) fun x1 => bK x1 (some ((ii 1), h)) (vK (v_nilchk r0) fun x2 => vK (v_fa 1 x2) fun x3 => vK (v_ld h.get x3) fun x4 => gdK x4 false (fun kk => kk r0 h) h fun x5 h6 => gdK x4 false (fun kk => vK (v_nilchk x5) fun v => kk v h6) h6 fun x7 h8 => gdK x4 false (fun kk => vK (v_fa 0 x7) fun v => kk v h8) h8 fun x9 h10 => gdK x4 false (fun kk => vK (v_ld h10.get x9) fun v => kk v h10) h10 fun x11 h12 => gdK x4 false (fun kk => vK (v_neq x11 (.str [])) fun v => kk v h12) h12 fun x13 h14 => vK (v_pick x4 (.bool true) x13) fun x15 => bK x15 (some ((ii 3), h14)) (some ((ii 0), h14)))
theorem I30_0 : iB1 E D30 (J30_0 E) := Is.rf
def S30 : Fun := fA1 (J30_0 E)
theorem S30_eq : SQ D30 S30 := eB1 I30_0
def D31 := cm 31
def C31_1 := cr (cr (cr (cr D31.body)))
def C31_2 := cl (cl (cr (cr (cr D31.body))))
def J31_1 (r0 r1 r2 r8 r9 : DV) (h : H) : Ans := vK (v_lss r9 r8) fun x1 => gdK x1 true (fun kk => kk r2 h) h fun x2 h3 => gdK x1 true (fun kk => kk r0 h3) h3 fun x4 h5 => gdK x1 true (fun kk => kk r9 h5) h5 fun x6 h7 => gdK x1 true (fun kk => vK (v_iaS 3 x4 x6) fun v => kk v h7) h7 fun x8 h9 => gdK x1 true (fun kk => vK (v_ldN 3 h9.get x8) fun v => kk v h9) h9 fun x10 h11 => gdK x1 true (fun kk => kk r1 h11) h11 fun x12 h13 => gdK x1 true (fun kk => wK (c_val E x2 [x10, x12] h13) kk) h13 fun x14 h15 => gdK x1 true (fun kk => vK (v_eql x14 (ii 0)) fun v => kk v h15) h15 fun x16 h17 => vK (v_pick x1 x16 (.bool false)) fun x18 => some ((.tup [r9, x18]), h17)
def B31_2 (r0 r1 r2 r8 : DV) (i2 : DV → DV → H → Ans) (r9 r10 : DV) (h : H) : Ans := vK (v_lss r9 r10) fun x1 => bK x1 (vK (v_add r9 r10) fun x2 => vK (v_conv .u64 x2) fun x3 => vK (v_shr x3 (.int .u64 (.ofNat 1))) fun x4 => vK (v_conv .i64 x4) fun x5 => vK (v_iaS 3 r0 x5) fun x6 => vK (v_ldN 3 h.get x6) fun x7 => wK (c_val E r2 [x7, r1] h) fun x8 h9 => vK (v_lss x8 (ii 0)) fun x10 => bK x10 (vK (v_add x5 (ii 1)) fun x11 => i2 x11 r10 h9) (i2 r9 x5 h9)) (J31_1 E r0 r1 r2 r8 r9 h)
def L31_2 (r0 r1 r2 r8 : DV) (n : Nat) : DV → DV → H → Ans := Nat.rec (motive := fun _ => DV → DV → H → Ans) (fun _ _ _ => none) (fun _ i => B31_2 E r0 r1 r2 r8 i) n
def J31_0 (r0 r1 r2 : DV) (h : H) : Ans := vK (v_lenL r0) fun x1 => L31_2 E r0 r1 r2 x1 FUEL (ii 0) x1 h
theorem I31_1 : Is E C31_1 (retK3 D31.res) (fun σ h => J31_1 E (σ p0) (σ p1) (σ p2) (σ p8) (σ p9) h) := Is.rf
abbrev K31_3 : KT2 (DV × H) := (thenK3 (fun σ h => J31_1 E (σ p0) (σ p1) (σ p2) (σ p8) (σ p9) h) (retK3 D31.res))
theorem I31_2 : Is E C31_2 (blockK3 0 (K31_3 E)) (fun σ h => L31_2 E (σ p0) (σ p1) (σ p2) (σ p8) FUEL (σ p9) (σ p10) h) := Is.lp (fun n2 σ h => L31_2 E (σ p0) (σ p1) (σ p2) (σ p8) n2 (σ p9) (σ p10) h) fun n2 => Is.aq (Is.leaf _)
theorem I31_0 : iB3 E D31 (J31_0 E) := Is.aq (Is.sq (Is.sq (Is.sq (Is.sq (I31_1 E) (Is.bk (I31_2 E))) (Is.leaf _)) (Is.leaf _)) (Is.leaf _))
def S31 : Fun := fA3 (J31_0 E)
theorem S31_eq : SQ D31 S31 := eB3 I31_0
def D32 := cm 32
def J32_0 (E : Env) (r0 r1 : DV) (h : H) : Ans := n_box r0 h fun x1 h2 => vK (v_fa 0 x1) fun x3 => vK (v_ld h2.get x3) fun x4 => vK (v_sub x4 r1) fun x5 => some (x5, h2)
theorem I32_0 : iB2 E D32 (J32_0 E) := Is.rf
def S32 : Fun := fA2 (J32_0 E)
theorem S32_eq : SQ D32 S32 := eB2 I32_0
def D34 := cm 34
def J34_0 (r0 r1 : DV) (h : H) : Ans := vK (v_lenL r0) fun x1 => vK (v_sub x1 r1) fun x2 => wK (callK E 59 [r0, x2] h) fun x3 h4 => some ((.tup []), h4)
theorem I34_0 : iB2 E D34 (J34_0 E) := Is.rf
def S34 : Fun := fA2 (J34_0 E)
theorem S34_eq : SQ D34 S34 := eB2 I34_0
def D38 := cm 38
def C38_1 := cl (cr D38.body)
def C38_2 := cr (cr (cl (cr (cr (cr (cl (cr (cr (cr (cl (cl C38_1)))))))))))
def C38_3 := cl (cr (cl (cr (cl (cr (cr (cr (cl (cr (cr (cr (cl (cl C38_1)))))))))))))
def C38_4 := cr (cr (cr (cl C38_3)))
def J38_2 (E : Env) (h : H) : Ans := some ((.bool false), h)
def J38_4 (E : Env) (i3 : DV → H → Ans) (r50 : DV) (h : H) : Ans := vK (v_add r50 (ii 1)) fun x1 => i3 x1 h
def B38_3 (r1 r3 r6 r48 r49 : DV) (i3 : DV → H → Ans) (r50 : DV) (h : H) : Ans := vK (v_lss r50 r49) fun x1 => bK x1 (vK (v_iaS 1 r48 r50) fun x2 => vK (v_ld h.get x2) fun x3 => vK (v_eqv .nilI false h.get x3 .nili) fun x4 => bK x4 (J38_4 E i3 r50 h) (vK (v_ldN 3 h.get r6) fun x5 => wK (callK E 38 [x3, r1, x5, r3] h) fun x6 h7 => bK x6 (some ((.bool true), h7)) (J38_4 E i3 r50 h7))) (J38_2 E h)
def L38_3 (r1 r3 r6 r48 r49 : DV) (n : Nat) : DV → H → Ans := Nat.rec (motive := fun _ => DV → H → Ans) (fun _ _ => none) (fun _ i => B38_3 E r1 r3 r6 r48 r49 i) n
def B38_1 (r3 r6 : DV) (i1 : DV → H → Ans) (r0 : DV) (h : H) : Ans := wK (callK E 60 [r0] h) fun x1 h2 => wK (c_mth E [] x1 [r3] h2) fun x3 h4 => bK x3 (vK (v_ldN 3 h4.get r6) fun x5 => wK (callK E 61 [x5] h4) fun x6 h7 => wK (callK E 35 [r0] h7) fun x8 h9 => wK (callK E 62 [x6, x8] h9) fun x10 h11 => some ((.bool true), h11)) (none)
def L38_1 (r3 r6 : DV) (n : Nat) : DV → H → Ans := Nat.rec (motive := fun _ => DV → H → Ans) (fun _ _ => none) (fun _ i => B38_1 E r3 r6 i) n
def J38_0 (r0 r2 r3 : DV) (h : H) : Ans := n_box r2 h fun x1 h2 => L38_1 E r3 x1 FUEL r0 h2
abbrev K38_5 (n1 : Nat) : KT2 (DV × H) := (thenK3 (fun σ h => (L38_1 E (σ p3) (σ p6) n1) (σ p0) h) (blockK3 0 (retK3 D38.res)))
theorem I38_2 (n1 : Nat) : Is E C38_2 (blockK3 2 (blockK3 1 (K38_5 E n1))) (fun σ h => J38_2 E h) := Is.rf
abbrev K38_6 (n1 : Nat) : KT2 (DV × H) := (thenK3 (fun σ h => J38_2 E h) (blockK3 2 (blockK3 1 (K38_5 E n1))))
abbrev K38_7 (n1 n3 : Nat) : KT2 (DV × H) := (thenK3 (fun σ h => (L38_3 E (σ p1) (σ p3) (σ p6) (σ p48) (σ p49) n3) (σ p50) h) (blockK3 3 (K38_6 E n1)))
theorem I38_4 (n1 n3 : Nat) : Is E C38_4 (K38_7 E n1 n3) (fun σ h => J38_4 E (L38_3 E (σ p1) (σ p3) (σ p6) (σ p48) (σ p49) n3) (σ p50) h) := Is.rf
theorem I38_3 (n1 : Nat) : Is E C38_3 (blockK3 3 (K38_6 E n1)) (fun σ h => L38_3 E (σ p1) (σ p3) (σ p6) (σ p48) (σ p49) FUEL (σ p50) h) := Is.lp (fun n3 σ h => L38_3 E (σ p1) (σ p3) (σ p6) (σ p48) (σ p49) n3 (σ p50) h) fun n3 => Is.aq (Is.sq (Is.sq (Is.sq (I38_4 E n1 n3) (Is.leaf _)) (Is.leaf _)) (Is.leaf _))
theorem I38_1 : Is E C38_1 (blockK3 0 (retK3 D38.res)) (fun σ h => L38_1 E (σ p3) (σ p6) FUEL (σ p0) h) := Is.lp (fun n1 σ h => L38_1 E (σ p3) (σ p6) n1 (σ p0) h) fun n1 => Is.aq (Is.bk (Is.sq (Is.sq (Is.sq (Is.bk (Is.sq (Is.cd (Is.leaf _) (Is.sq (Is.cd (Is.sq (Is.sq (I38_2 E n1) (Is.sq (Is.bk (I38_3 E n1)) (Is.leaf _))) (Is.leaf _)) (Is.leaf _)) (Is.leaf _))) (Is.leaf _))) (Is.leaf _)) (Is.leaf _)) (Is.leaf _)))
theorem I38_0 : iB4 E D38 (fun r0 _ r2 r3 h => J38_0 E r0 r2 r3 h) := Is.aq (Is.sq (Is.bk (I38_1 E)) (Is.leaf _))
def S38 : Fun := fA4 (fun r0 _ r2 r3 h => J38_0 E r0 r2 r3 h)
theorem S38_eq : SQ D38 S38 := eB4 I38_0
def D39 := cm 39
def J39_0 (E : Env) (r0 : DV) (h : H) : Ans := vK (v_mx r0 (ii 0)) fun x1 => vK (v_mn x1 (ii 65536)) fun x2 => vK (v_bld [(ii 0), .nils, (ii 0)] [(0, 1, x2)]) fun x3 => n_box x3 h fun x4 h5 => some (x4, h5)
theorem I39_0 : iB1 E D39 (J39_0 E) := Is.rf
def S39 : Fun := fA1 (J39_0 E)
theorem S39_eq : SQ D39 S39 := eB1 I39_0
def D40 := cm 40
def C40_1 := cr (cr D40.body)
def J40_1 (r0 r3 : DV) (h : H) : Ans := wK (callK E 63 [r0, (.fn (.func 64) [] [r3])] h) fun x1 h2 => some ((.tup []), h2)
def J40_0 (r0 r1 : DV) (h : H) : Ans := n_box r1 h fun x1 h2 => vK (v_eqv .ptr true h2.get r0 .nilp) fun x3 => gdK x3 true (fun kk => kk r0 h2) h2 fun x4 h5 => gdK x3 true (fun kk => vK (v_nilchk x4) fun v => kk v h5) h5 fun x6 h7 => gdK x3 true (fun kk => vK (v_fa 2 x6) fun v => kk v h7) h7 fun x8 h9 => gdK x3 true (fun kk => vK (v_ld h9.get x8) fun v => kk v h9) h9 fun x10 h11 => gdK x3 true (fun kk => vK (v_eql x10 (ii 0)) fun v => kk v h11) h11 fun x12 h13 => vK (v_pick x3 x12 (.bool false)) fun x14 => gdK x14 true (fun kk => vK (v_ld h13.get x1) fun v => kk v h13) h13 fun x15 h16 => gdK x14 true (fun kk => vK (v_lss x15 (ii 0)) fun v => kk v h16) h16 fun x17 h18 => gdK x14 true (fun kk => kk x17 h18) h18 fun x19 h20 => gdK x19 false (fun kk => vK (v_ld h20.get x1) fun v => kk v h20) h20 fun x21 h22 => gdK x19 false (fun kk => vK (v_gtr x21 (ii 255)) fun v => kk v h22) h22 fun x23 h24 => gdK x14 true (fun kk => vK (v_pick x19 (.bool true) x23) fun v => kk v h24) h24 fun x25 h26 => vK (v_pick x14 x25 (.bool false)) fun x27 => bK x27 (vK (v_nilchk r0) fun x28 => vK (v_fa 2 x28) fun x29 => wK (dStF 1 x29 (ii 1) h26) fun x30 h31 => J40_1 E r0 x1 h31) (J40_1 E r0 x1 h26)
theorem I40_1 : Is E C40_1 (retK3 D40.res) (fun σ h => J40_1 E (σ p0) (σ p3) h) := Is.rf
theorem I40_0 : iB2 E D40 (J40_0 E) := Is.aq (Is.sq (Is.sq (I40_1 E) (Is.leaf _)) (Is.leaf _))
def S40 : Fun := fA2 (J40_0 E)
theorem S40_eq : SQ D40 S40 := eB2 I40_0
def D41 := cm 41
def J41_0 (r0 r1 : DV) (h : H) : Ans := n_box r1 h fun x1 h2 => wK (callK E 63 [r0, (.fn (.func 65) [] [x1])] h2) fun x3 h4 => some ((.tup []), h4)
theorem I41_0 : iB2 E D41 (J41_0 E) := Is.rf
def S41 : Fun := fA2 (J41_0 E)
theorem S41_eq : SQ D41 S41 := eB2 I41_0
def D42 := cm 42
def J42_0 (E : Env) (r0 : DV) (h : H) : Ans := vK (v_eqv .ptr false h.get r0 .nilp) fun x1 => bK x1 (some ((.tup [(.str []), (ii 1)]), h)) (vK (v_nilchk r0) fun x2 => vK (v_fa 2 x2) fun x3 => vK (v_ld h.get x3) fun x4 => vK (v_neq x4 (ii 0)) fun x5 => bK x5 (vK (v_nilchk r0) fun x6 => vK (v_fa 2 x6) fun x7 => vK (v_ld h.get x7) fun x8 => some ((.tup [(.str []), x8]), h)) (vK (v_nilchk r0) fun x9 => vK (v_fa 1 x9) fun x10 => vK (v_ld h.get x10) fun x11 => vK (v_b2s h.get x11) fun x12 => some ((.tup [x12, (ii 0)]), h)))
theorem I42_0 : iB1 E D42 (J42_0 E) := Is.rf
def S42 : Fun := fA1 (J42_0 E)
theorem S42_eq : SQ D42 S42 := eB1 I42_0
def D43 := cm 43
def J43_0 (r0 : DV) (h : H) : Ans := vK (v_eqv .ptr false h.get r0 .nilp) fun x1 => bK x1 (some ((ii 0), h)) (vK (v_nilchk r0) fun x2 => vK (v_fa 0 x2) fun x3 => vK (v_ld h.get x3) fun x4 => wK (callK E 67 [x4] h) fun x5 h6 => vK (v_ext 0 x5) fun x7 => vK (v_ext 1 x5) fun x8 => vK (v_eql x8 (ii 0)) fun x9 => bK x9 (wK (callK E 68 [r0] h6) fun x10 h11 => some ((ii 0), h11)) (wK (callK E 58 [r0, x8] h6) fun x12 h13 => vK (v_shr x7 (.int .u64 (.ofNat 1))) fun x14 => vK (v_conv .i64 x14) fun x15 => vK (v_and x7 (.int .u64 (.ofNat 1))) fun x16 => vK (v_conv .i64 x16) fun x17 => vK (v_neg x17) fun x18 => vK (v_xor x15 x18) fun x19 => some (x19, h13)))
theorem I43_0 : iB1 E D43 (J43_0 E) := Is.rf
def S43 : Fun := fA1 (J43_0 E)
theorem S43_eq : SQ D43 S43 := eB1 I43_0
def D44 := cm 44
def J44_0 (E : Env) (r0 : DV) (h : H) : Ans := n_box r0 h fun x1 h2 => vK (v_fa 0 x1) fun x3 => vK (v_ld h2.get x3) fun x4 => vK (v_lss x4 (ii 1)) fun x5 => gdK x5 false (fun kk => vK (v_fa 0 x1) fun v => kk v h2) h2 fun x6 h7 => gdK x5 false (fun kk => vK (v_ld h7.get x6) fun v => kk v h7) h7 fun x8 h9 => gdK x5 false (fun kk => vK (v_gtr x8 (ii 11)) fun v => kk v h9) h9 fun x10 h11 => vK (v_pick x5 (.bool true) x10) fun x12 => bK x12 (some ((ii 1), h11)) (vK (v_fa 3 x1) fun x13 => vK (v_ld h11.get x13) fun x14 => vK (v_lenS x14) fun x15 => vK (v_gtr x15 (ii 255)) fun x16 => gdK x16 false (fun kk => vK (v_fa 4 x1) fun v => kk v h11) h11 fun x17 h18 => gdK x16 false (fun kk => vK (v_ld h18.get x17) fun v => kk v h18) h18 fun x19 h20 => gdK x16 false (fun kk => vK (v_lenS x19) fun v => kk v h20) h20 fun x21 h22 => gdK x16 false (fun kk => vK (v_gtr x21 (ii 255)) fun v => kk v h22) h22 fun x23 h24 => vK (v_pick x16 (.bool true) x23) fun x25 => gdK x25 false (fun kk => vK (v_fa 5 x1) fun v => kk v h24) h24 fun x26 h27 => gdK x25 false (fun kk => vK (v_ld h27.get x26) fun v => kk v h27) h27 fun x28 h29 => gdK x25 false (fun kk => vK (v_lenS x28) fun v => kk v h29) h29 fun x30 h31 => gdK x25 false (fun kk => vK (v_gtr x30 (ii 512)) fun v => kk v h31) h31 fun x32 h33 => vK (v_pick x25 (.bool true) x32) fun x34 => bK x34 (some ((ii 2), h33)) (some ((ii 0), h33)))
theorem I44_0 : iB1 E D44 (J44_0 E) := Is.rf
def S44 : Fun := fA1 (J44_0 E)
theorem S44_eq : SQ D44 S44 := eB1 I44_0
def D45 := cm 45
def J45_0 (E : Env) (r0 : DV) (h : H) : Ans := vK (v_eqv .ptr false h.get r0 .nilp) fun x1 => bK x1 (some ((ii 1), h)) (vK (v_nilchk r0) fun x2 => vK (v_fa 5 x2) fun x3 => vK (v_ld h.get x3) fun x4 => bK x4 (some ((ii 16), h)) (some ((ii 0), h)))
theorem I45_0 : iB1 E D45 (J45_0 E) := Is.rf
def S45 : Fun := fA1 (J45_0 E)
theorem S45_eq : SQ D45 S45 := eB1 I45_0
def D46 := cm 46
def J46_0 (r0 r1 : DV) (h : H) : Ans := n_box r1 h fun x1 h2 => vK (v_eqv .ptr false h2.get r0 .nilp) fun x3 => bK x3 (some ((.tup [(ii 1), (.str [])]), h2)) (vK (v_ldN 6 h2.get x1) fun x4 => wK (callK E 44 [x4] h2) fun x5 h6 => vK (v_neq x5 (ii 0)) fun x7 => bK x7 (some ((.tup [x5, (.str [])]), h6)) (vK (v_ldN 6 h6.get x1) fun x8 => wK (callK E 69 [r0, x8] h6) fun x9 h10 => vK (v_tas 162 (.agg [.nilf, (.str [])]) true x9) fun x11 => vK (v_ext 1 x11) fun x12 => vK (v_ext 0 x11) fun x13 => bK x12 (n_alc 2 2 (.list [.nilf, (.str [])]) h10 fun x14 h15 => wK (dStF 2 x14 x13 h15) fun x16 h17 => vK (v_fa 0 x14) fun x18 => vK (v_ld h17.get x18) fun x19 => vK (v_fa 1 x14) fun x20 => vK (v_ld h17.get x20) fun x21 => wK (c_val E x19 [x21] h17) fun x22 h23 => some ((.tup [x22, (.str [])]), h23)) (vK (v_tas 165 (.agg [.nilf, (.str []), (.str [])]) true x9) fun x24 => vK (v_ext 1 x24) fun x25 => vK (v_ext 0 x24) fun x26 => bK x25 (n_alc 3 3 (.list [.nilf, (.str []), (.str [])]) h10 fun x27 h28 => wK (dStF 3 x27 x26 h28) fun x29 h30 => vK (v_fa 0 x27) fun x31 => vK (v_ld h30.get x31) fun x32 => vK (v_fa 1 x27) fun x33 => vK (v_ld h30.get x33) fun x34 => vK (v_fa 2 x27) fun x35 => vK (v_ld h30.get x35) fun x36 => wK (c_val E x32 [x34, x36] h30) fun x37 h38 => some ((.tup [x37, (.str [])]), h38)) (vK (v_tas 167 (.agg [.nilf]) true x9) fun x39 => vK (v_ext 1 x39) fun x40 => vK (v_ext 0 x39) fun x41 => bK x40 (n_alc 1 1 (.list [.nilf]) h10 fun x42 h43 => wK (dStF 1 x42 x41 h43) fun x44 h45 => vK (v_fa 0 x42) fun x46 => vK (v_ld h45.get x46) fun x47 => wK (c_val E x47 [] h45) fun x48 h49 => some ((.tup [x48, (.str [])]), h49)) (vK (v_tas 170 (.agg [.nilf]) true x9) fun x50 => vK (v_ext 1 x50) fun x51 => vK (v_ext 0 x50) fun x52 => bK x51 (n_alc 1 1 (.list [.nilf]) h10 fun x53 h54 => wK (dStF 1 x53 x52 h54) fun x55 h56 => vK (v_fa 0 x53) fun x57 => vK (v_ld h56.get x57) fun x58 => wK (c_val E x58 [] h56) fun x59 h60 => vK (v_ext 0 x59) fun x61 => vK (v_ext 1 x59) fun x62 => some ((.tup [x61, x62]), h60)) (some ((.tup [(ii 1), (.str [])]), h10)))))))
theorem I46_0 : iB2 E D46 (J46_0 E) := Is.rf
def S46 : Fun := fA2 (J46_0 E)
theorem S46_eq : SQ D46 S46 := eB2 I46_0
def D47 := cm 47
def J47_0 (r0 r1 : DV) (h : H) : Ans := vK (v_nilchk r0) fun x1 => vK (v_fa 4 x1) fun x2 => vK (v_ld h.get x2) fun x3 => vK (v_nilchk r0) fun x4 => vK (v_fa 0 x4) fun x5 => vK (v_ld h.get x5) fun x6 => wK (callK E 71 [x6] h) fun x7 h8 => rK (rcK (v_ld h8.get x2) x3) <| wK (callK E 70 [x3, r1, x7] h8) fun x9 h10 => vK (v_ext 0 x9) fun x11 => vK (v_ext 1 x9) fun x12 => vK (v_ext 2 x9) fun x13 => vK (v_lenL r1) fun x14 => vK (v_eql x12 x14) fun x15 => some (x15, h10)
theorem I47_0 : iB2 E D47 (J47_0 E) := Is.rf
def S47 : Fun := fA2 (J47_0 E)
theorem S47_eq : SQ D47 S47 := eB2 I47_0
def D48 := cm 48
def J48_0 (E : Env) (r0 : DV) (h : H) : Ans := vK (v_eqv .nilL false h.get r0 .nils) fun x1 => bK x1 (some (.nils, h)) (n_bsl 0 1 [(.str [])] [] h fun x2 h3 => wK (dAppendF 1 16 x2 r0 h3) fun x4 h5 => some (x4, h5))
theorem I48_0 : iB1 E D48 (J48_0 E) := Is.rf
def S48 : Fun := fA1 (J48_0 E)
theorem S48_eq : SQ D48 S48 := eB1 I48_0
def D50 := cm 50
def C50_1 := cr (cr (cr D50.body))
def C50_4 := cr (cr C50_1)
def C50_5 := cl (cl (cr (cl (cr C50_1))))
def C50_2 := cl (cr (cl (cr (cr D50.body))))
def C50_3 := cr (cr (cr (cl C50_2)))
def J50_4 (r13 : DV) (h : H) : Ans := wK (callK E 78 [r13, (.fn (.func 79) [] [])] h) fun x1 h2 => some (r13, h2)
def B50_5 (r53 : DV) (i5 : DV → H → Ans) (r13 : DV) (h : H) : Ans := nxtK r53 h fun x1 h2 => vK (v_ext 0 x1) fun x3 => bK x3 (wK (dEnt r53 h2) fun x4 h5 => vK (v_ext 1 x4) fun x6 => n_alc 5 5 (.list [(ii 0), (ii 0), (ii 0), (ii 0), .nils]) h5 fun x7 h8 => wK (dStF 5 x7 x6 h8) fun x9 h10 => vK (v_ldN 5 h10.get x7) fun x11 => n_bsl 1 5 [(ii 0), (ii 0), (ii 0), (ii 0), .nils] [(0, 5, x11)] h10 fun x12 h13 => wK (dAppendF 5 56 r13 x12 h13) fun x14 h15 => kilK x7 h15 fun h16 => kilK x12 h16 fun h17 => i5 x14 h17) (kilK r53 h2 fun h18 => J50_4 E r13 h18)
def L50_5 (r53 : DV) (n : Nat) : DV → H → Ans := Nat.rec (motive := fun _ => DV → H → Ans) (fun _ _ => none) (fun _ i => B50_5 E r53 i) n
def J50_1 (r3 : DV) (h : H) : Ans := wK (dRng r3 h) fun x1 h2 => L50_5 E x1 FUEL .nils h2
def J50_3 (E : Env) (i2 : DV → H → Ans) (r21 : DV) (h : H) : Ans := vK (v_add r21 (ii 1)) fun x1 => i2 x1 h
def B50_2 (r0 r3 r19 r20 : DV) (i2 : DV → H → Ans) (r21 : DV) (h : H) : Ans := vK (v_lss r21 r20) fun x1 => bK x1 (vK (v_iaS 1 r19 r21) fun x2 => vK (v_ld h.get x2) fun x3 => wK (callK E 76 [r0, x3] h) fun x4 h5 => vK (v_ext 0 x4) fun x6 => vK (v_ext 1 x4) fun x7 => vK (v_neq x7 (ii 0)) fun x8 => bK x8 (J50_3 E i2 r21 h5) (wK (callK E 77 [x6] h5) fun x9 h10 => vK (v_ext 0 x9) fun x11 => vK (v_ext 1 x9) fun x12 => vK (v_ext 2 x9) fun x13 => vK (v_ext 3 x9) fun x14 => vK (v_ext 4 x9) fun x15 => vK (v_eql x15 (ii 0)) fun x16 => bK x16 (vK (v_bld [(ii 0), (ii 0), (ii 0), (ii 0), .nils] [(0, 1, x3), (1, 1, x11), (2, 1, x12), (3, 1, x13), (4, 1, x14)]) fun x17 => wK (dMup .int r3 x11 x17 h10) fun x18 h19 => J50_3 E i2 r21 h19) (J50_3 E i2 r21 h10))) (J50_1 E r3 h)
def L50_2 (r0 r3 r19 r20 : DV) (n : Nat) : DV → H → Ans := Nat.rec (motive := fun _ => DV → H → Ans) (fun _ _ => none) (fun _ i => B50_2 E r0 r3 r19 r20 i) n
def J50_0 (r0 : DV) (h : H) : Ans := n_mkm h fun x1 h2 => wK (callK E 74 [r0] h2) fun x3 h4 => wK (callK E 75 [x3, (ii 2)] h4) fun x5 h6 => vK (v_lenL x5) fun x7 => L50_2 E r0 x1 x5 x7 FUEL (ii 0) h6
theorem I50_4 : Is E C50_4 (retK3 D50.res) (fun σ h => J50_4 E (σ p13) h) := Is.rf
abbrev K50_6 : KT2 (DV × H) := (thenK3 (fun σ h => J50_4 E (σ p13) h) (retK3 D50.res))
abbrev K50_7 (n5 : Nat) : KT2 (DV × H) := (thenK3 (fun σ h => (L50_5 E (σ p53) n5) (σ p13) h) (blockK3 2 (finK3 p53 (K50_6 E))))
theorem I50_5 : Is E C50_5 (blockK3 2 (finK3 p53 (K50_6 E))) (fun σ h => L50_5 E (σ p53) FUEL (σ p13) h) := Is.lp (fun n5 σ h => L50_5 E (σ p53) n5 (σ p13) h) fun n5 => Is.aq (Is.sq (Is.sq (Is.fi (p := p60) (Is.fi (p := p15) (Is.leaf _))) (Is.leaf _)) (Is.leaf _))
theorem I50_1 : Is E C50_1 (retK3 D50.res) (fun σ h => J50_1 E (σ p3) h) := Is.aq (Is.sq (Is.sq (I50_4 E) (Is.sq (Is.fi (p := p53) (Is.bk (I50_5 E))) (Is.leaf _))) (Is.leaf _))
abbrev K50_8 : KT2 (DV × H) := (thenK3 (fun σ h => J50_1 E (σ p3) h) (retK3 D50.res))
abbrev K50_9 (n2 : Nat) : KT2 (DV × H) := (thenK3 (fun σ h => (L50_2 E (σ p0) (σ p3) (σ p19) (σ p20) n2) (σ p21) h) (blockK3 0 (K50_8 E)))
theorem I50_3 (n2 : Nat) : Is E C50_3 (K50_9 E n2) (fun σ h => J50_3 E (L50_2 E (σ p0) (σ p3) (σ p19) (σ p20) n2) (σ p21) h) := Is.rf
theorem I50_2 : Is E C50_2 (blockK3 0 (K50_8 E)) (fun σ h => L50_2 E (σ p0) (σ p3) (σ p19) (σ p20) FUEL (σ p21) h) := Is.lp (fun n2 σ h => L50_2 E (σ p0) (σ p3) (σ p19) (σ p20) n2 (σ p21) h) fun n2 => Is.aq (Is.sq (Is.sq (Is.sq (I50_3 E n2) (Is.leaf _)) (Is.leaf _)) (Is.leaf _))
theorem I50_0 : iB1 E D50 (J50_0 E) := Is.aq (Is.sq (Is.sq (Is.sq (I50_1 E) (Is.sq (Is.bk (I50_2 E)) (Is.leaf _))) (Is.leaf _)) (Is.leaf _))
def S50 : Fun := fA1 (J50_0 E)
theorem S50_eq : SQ D50 S50 := eB1 I50_0
def D51 := cm 51
def C51_1 := cr (cr D51.body)
def C51_2 := cl (cr (cl (cr D51.body)))
def C51_3 := cr (cr (cl C51_2))
def J51_1 (r0 : DV) (h : H) : Ans := wK (callK E 83 [] h) fun x1 h2 => some ((.tup [x1, r0, (ii 0)]), h2)
def J51_3 (E : Env) (i2 : DV → H → Ans) (r5 : DV) (h : H) : Ans := vK (v_sub r5 (ii 1)) fun x1 => i2 x1 h
def B51_2 (r0 : DV) (i2 : DV → H → Ans) (r5 : DV) (h : H) : Ans := vK (v_geq r5 (ii 0)) fun x1 => bK x1 (vK (v_slL 5 r0 (some r5) none) fun x2 => wK (callK E 81 [x2] h) fun x3 h4 => vK (v_ext 0 x3) fun x5 => vK (v_ext 1 x3) fun x6 => vK (v_not x6) fun x7 => bK x7 (J51_3 E i2 r5 h4) (wK (callK E 82 [x5] h4) fun x8 h9 => vK (v_ext 0 x8) fun x10 => vK (v_ext 1 x8) fun x11 => vK (v_eql x11 (ii 0)) fun x12 => bK x12 (vK (v_iaS 5 r0 r5) fun x13 => vK (v_fa 3 x13) fun x14 => vK (v_ld h9.get x14) fun x15 => vK (v_add r5 x15) fun x16 => vK (v_slL 5 r0 (some x16) none) fun x17 => vK (v_iaS 5 r0 r5) fun x18 => vK (v_fa 1 x18) fun x19 => vK (v_ld h9.get x19) fun x20 => vK (v_iaS 5 r0 r5) fun x21 => vK (v_fa 3 x21) fun x22 => vK (v_ld h9.get x22) fun x23 => vK (v_add x20 x23) fun x24 => some ((.tup [x10, x17, x24]), h9)) (J51_3 E i2 r5 h9))) (J51_1 E r0 h)
def L51_2 (r0 : DV) (n : Nat) : DV → H → Ans := Nat.rec (motive := fun _ => DV → H → Ans) (fun _ _ => none) (fun _ i => B51_2 E r0 i) n
def J51_0 (r0 : DV) (h : H) : Ans := vK (v_lenL r0) fun x1 => vK (v_sub x1 (ii 1)) fun x2 => L51_2 E r0 FUEL x2 h
theorem I51_1 : Is E C51_1 (retK3 D51.res) (fun σ h => J51_1 E (σ p0) h) := Is.rf
abbrev K51_4 : KT2 (DV × H) := (thenK3 (fun σ h => J51_1 E (σ p0) h) (retK3 D51.res))
abbrev K51_5 (n2 : Nat) : KT2 (DV × H) := (thenK3 (fun σ h => (L51_2 E (σ p0) n2) (σ p5) h) (blockK3 0 (K51_4 E)))
theorem I51_3 (n2 : Nat) : Is E C51_3 (K51_5 E n2) (fun σ h => J51_3 E (L51_2 E (σ p0) n2) (σ p5) h) := Is.rf
theorem I51_2 : Is E C51_2 (blockK3 0 (K51_4 E)) (fun σ h => L51_2 E (σ p0) FUEL (σ p5) h) := Is.lp (fun n2 σ h => L51_2 E (σ p0) n2 (σ p5) h) fun n2 => Is.aq (Is.sq (Is.sq (I51_3 E n2) (Is.leaf _)) (Is.leaf _))
theorem I51_0 : iB1 E D51 (J51_0 E) := Is.aq (Is.sq (Is.sq (I51_1 E) (Is.sq (Is.bk (I51_2 E)) (Is.leaf _))) (Is.leaf _))
def S51 : Fun := fA1 (J51_0 E)
theorem S51_eq : SQ D51 S51 := eB1 I51_0
def D52 := cm 52
def C52_1 := cl (cr D52.body)
def C52_2 := cr (cr (cr (cl C52_1)))
def J52_2 (E : Env) (i1 : DV → H → Ans) (r10 : DV) (h : H) : Ans := vK (v_add r10 (ii 1)) fun x1 => i1 x1 h
def B52_1 (r0 r2 r8 r9 : DV) (i1 : DV → H → Ans) (r10 : DV) (h : H) : Ans := vK (v_lss r10 r9) fun x1 => bK x1 (vK (v_iaS 5 r8 r10) fun x2 => vK (v_ldN 5 h.get x2) fun x3 => n_alc 5 5 (.list [(ii 0), (ii 0), (ii 0), (ii 0), .nils]) h fun x4 h5 => wK (dStF 5 x4 x3 h5) fun x6 h7 => vK (v_ldN 5 h7.get x4) fun x8 => wK (c_val E r2 [x8] h7) fun x9 h10 => bK x9 (vK (v_nilchk r0) fun x11 => vK (v_fa 0 x11) fun x12 => vK (v_ld h10.get x12) fun x13 => vK (v_fa 0 x4) fun x14 => vK (v_ld h10.get x14) fun x15 => wK (callK E 84 [x13, x15] h10) fun x16 h17 => J52_2 E i1 r10 h17) (J52_2 E i1 r10 h10)) (some ((.tup []), h))
def L52_1 (r0 r2 r8 r9 : DV) (n : Nat) : DV → H → Ans := Nat.rec (motive := fun _ => DV → H → Ans) (fun _ _ => none) (fun _ i => B52_1 E r0 r2 r8 r9 i) n
def J52_0 (r0 r1 r2 : DV) (h : H) : Ans := vK (v_lenL r1) fun x1 => L52_1 E r0 r2 r1 x1 FUEL (ii 0) h
abbrev K52_3 (n1 : Nat) : KT2 (DV × H) := (thenK3 (fun σ h => (L52_1 E (σ p0) (σ p2) (σ p8) (σ p9) n1) (σ p10) h) (blockK3 0 (retK3 D52.res)))
theorem I52_2 (n1 : Nat) : Is E C52_2 (K52_3 E n1) (fun σ h => J52_2 E (L52_1 E (σ p0) (σ p2) (σ p8) (σ p9) n1) (σ p10) h) := Is.rf
theorem I52_1 : Is E C52_1 (blockK3 0 (retK3 D52.res)) (fun σ h => L52_1 E (σ p0) (σ p2) (σ p8) (σ p9) FUEL (σ p10) h) := Is.lp (fun n1 σ h => L52_1 E (σ p0) (σ p2) (σ p8) (σ p9) n1 (σ p10) h) fun n1 => Is.aq (Is.sq (Is.sq (Is.sq (I52_2 E n1) (Is.leaf _)) (Is.leaf _)) (Is.leaf _))
theorem I52_0 : iB3 E D52 (J52_0 E) := Is.aq (Is.sq (Is.bk (I52_1 E)) (Is.leaf _))
def S52 : Fun := fA3 (J52_0 E)
theorem S52_eq : SQ D52 S52 := eB3 I52_0
def D53 := cm 53
def J53_0 (E : Env) (r0 r1 : DV) (h : H) : Ans := n_box r0 h fun x1 h2 => vK (v_fa 1 x1) fun x3 => vK (v_ld h2.get x3) fun x4 => vK (v_ld h2.get r1) fun x5 => vK (v_geq x4 x5) fun x6 => some (x6, h2)
theorem I53_0 : iB2 E D53 (J53_0 E) := Is.rf
def S53 : Fun := fA2 (J53_0 E)
theorem S53_eq : SQ D53 S53 := eB2 I53_0
def D54 := cm 54
def C54_1 := cr (cr (cr D54.body))
def C54_2 := cl (cr (cl (cr (cr D54.body))))
def J54_1 (E : Env) (r5 : DV) (h : H) : Ans := some (r5, h)
def B54_2 (r1 r5 r13 : DV) (i2 : DV → H → Ans) (r14 : DV) (h : H) : Ans := vK (v_lss r14 r13) fun x1 => bK x1 (vK (v_mx r1 (ii 9)) fun x2 => wK (callK E 85 [x2] h) fun x3 h4 => wK (callK E 86 [x3] h4) fun x5 h6 => vK (v_ext 0 x5) fun x7 => vK (v_ext 1 x5) fun x8 => vK (v_nilchk r5) fun x9 => vK (v_fa 0 x9) fun x10 => vK (v_ld h6.get x10) fun x11 => vK (v_bld [.nilp, .nilp, (.bool false), (.bool false)] [(0, 1, x3), (1, 1, x7)]) fun x12 => n_box x12 h6 fun x13 h14 => n_bsl 1 1 [.nilp] [(0, 1, x13)] h14 fun x15 h16 => wK (dAppendF 1 8 x11 x15 h16) fun x17 h18 => vK (v_nilchk r5) fun x19 => vK (v_fa 0 x19) fun x20 => wK (dStF 1 x20 x17 h18) fun x21 h22 => vK (v_add r14 (ii 1)) fun x23 => i2 x23 h22) (J54_1 E r5 h)
def L54_2 (r1 r5 r13 : DV) (n : Nat) : DV → H → Ans := Nat.rec (motive := fun _ => DV → H → Ans) (fun _ _ => none) (fun _ i => B54_2 E r1 r5 r13 i) n
def J54_0 (r0 r1 : DV) (h : H) : Ans := vK (v_bld [.nils] []) fun x1 => n_box x1 h fun x2 h3 => vK (v_mx r0 (ii 1)) fun x4 => vK (v_mn x4 (ii 8)) fun x5 => L54_2 E r1 x2 x5 FUEL (ii 0) h3
theorem I54_1 : Is E C54_1 (retK3 D54.res) (fun σ h => J54_1 E (σ p5) h) := Is.rf
abbrev K54_3 : KT2 (DV × H) := (thenK3 (fun σ h => J54_1 E (σ p5) h) (retK3 D54.res))
theorem I54_2 : Is E C54_2 (blockK3 0 (K54_3 E)) (fun σ h => L54_2 E (σ p1) (σ p5) (σ p13) FUEL (σ p14) h) := Is.lp (fun n2 σ h => L54_2 E (σ p1) (σ p5) (σ p13) n2 (σ p14) h) fun n2 => Is.aq (Is.leaf _)
theorem I54_0 : iB2 E D54 (J54_0 E) := Is.aq (Is.sq (Is.sq (Is.sq (I54_1 E) (Is.sq (Is.bk (I54_2 E)) (Is.leaf _))) (Is.leaf _)) (Is.leaf _))
def S54 : Fun := fA2 (J54_0 E)
theorem S54_eq : SQ D54 S54 := eB2 I54_0
def D55 := cm 55
def J55_0 (r0 r1 : DV) (h : H) : Ans := wK (callK E 87 [r0, r1] h) fun x1 h2 => vK (v_eqv .ptr false h2.get x1 .nilp) fun x3 => bK x3 (some (.nilp, h2)) (wK (callK E 88 [] h2) fun x4 h5 => wK (callK E 89 [] h5) fun x6 h7 => wK (callK E 90 [] h7) fun x8 h9 => wK (callK E 91 [] h9) fun x10 h11 => wK (callK E 25 [(ii 4)] h11) fun x12 h13 => vK (v_bld [.nilp, .nilp, .nilp, .nilp, .nilp, .nilp, (ii 0)] [(0, 1, x1), (1, 1, x4), (2, 1, x6), (3, 1, x8), (4, 1, x10), (5, 1, x12)]) fun x14 => n_box x14 h13 fun x15 h16 => some (x15, h16))
theorem I55_0 : iB2 E D55 (J55_0 E) := Is.rf
def S55 : Fun := fA2 (J55_0 E)
theorem S55_eq : SQ D55 S55 := eB2 I55_0
def D56 := cm 56
def C56_1 := cr (cr (cr D56.body))
def C56_2 := cl (cr (cl (cr (cr D56.body))))
def J56_1 (E : Env) (r5 : DV) (h : H) : Ans := some (r5, h)
def B56_2 (r0 r5 r10 : DV) (i2 : DV → H → Ans) (r11 : DV) (h : H) : Ans := vK (v_lss r11 r10) fun x1 => bK x1 (vK (v_add r0 r11) fun x2 => vK (v_iaS 1 r5 r11) fun x3 => wK (dStF 1 x3 x2 h) fun x4 h5 => vK (v_add r11 (ii 1)) fun x6 => i2 x6 h5) (J56_1 E r5 h)
def L56_2 (r0 r5 r10 : DV) (n : Nat) : DV → H → Ans := Nat.rec (motive := fun _ => DV → H → Ans) (fun _ _ => none) (fun _ i => B56_2 E r0 r5 r10 i) n
def J56_0 (r0 r1 : DV) (h : H) : Ans := n_mks 1 8 (ii 0) r1 r1 h fun x1 h2 => vK (v_lenL x1) fun x3 => L56_2 E r0 x1 x3 FUEL (ii 0) h2
theorem I56_1 : Is E C56_1 (retK3 D56.res) (fun σ h => J56_1 E (σ p5) h) := Is.rf
abbrev K56_3 : KT2 (DV × H) := (thenK3 (fun σ h => J56_1 E (σ p5) h) (retK3 D56.res))
theorem I56_2 : Is E C56_2 (blockK3 0 (K56_3 E)) (fun σ h => L56_2 E (σ p0) (σ p5) (σ p10) FUEL (σ p11) h) := Is.lp (fun n2 σ h => L56_2 E (σ p0) (σ p5) (σ p10) n2 (σ p11) h) fun n2 => Is.aq (Is.leaf _)
theorem I56_0 : iB2 E D56 (J56_0 E) := Is.aq (Is.sq (Is.sq (Is.sq (I56_1 E) (Is.sq (Is.bk (I56_2 E)) (Is.leaf _))) (Is.leaf _)) (Is.leaf _))
def S56 : Fun := fA2 (J56_0 E)
theorem S56_eq : SQ D56 S56 := eB2 I56_0
def D57 := cm 57
def J57_0 (r0 r1 : DV) (h : H) : Ans := n_box r1 h fun x1 h2 => wK (callK E 63 [r0, (.fn (.func 92) [] [x1])] h2) fun x3 h4 => some ((.tup []), h4)
theorem I57_0 : iB2 E D57 (J57_0 E) := Is.rf
def S57 : Fun := fA2 (J57_0 E)
theorem S57_eq : SQ D57 S57 := eB2 I57_0
def D58 := cm 58
def J58_0 (r0 r1 : DV) (h : H) : Ans := vK (v_eqv .ptr false h.get r0 .nilp) fun x1 => gdK x1 false (fun kk => kk r0 h) h fun x2 h3 => gdK x1 false (fun kk => vK (v_nilchk x2) fun v => kk v h3) h3 fun x4 h5 => gdK x1 false (fun kk => vK (v_fa 1 x4) fun v => kk v h5) h5 fun x6 h7 => gdK x1 false (fun kk => vK (v_ld h7.get x6) fun v => kk v h7) h7 fun x8 h9 => vK (v_pick x1 (.bool true) x8) fun x10 => gdK x10 false (fun kk => kk r1 h9) h9 fun x11 h12 => gdK x10 false (fun kk => vK (v_lss x11 (ii 0)) fun v => kk v h12) h12 fun x13 h14 => vK (v_pick x10 (.bool true) x13) fun x15 => gdK x15 false (fun kk => kk r1 h14) h14 fun x16 h17 => gdK x15 false (fun kk => kk r0 h17) h17 fun x18 h19 => gdK x15 false (fun kk => vK (v_nilchk x18) fun v => kk v h19) h19 fun x20 h21 => gdK x15 false (fun kk => vK (v_fa 0 x20) fun v => kk v h21) h21 fun x22 h23 => gdK x15 false (fun kk => vK (v_ld h23.get x22) fun v => kk v h23) h23 fun x24 h25 => gdK x15 false (fun kk => vK (v_lenS x24) fun v => kk v h25) h25 fun x26 h27 => gdK x15 false (fun kk => vK (v_gtr x16 x26) fun v => kk v h27) h27 fun x28 h29 => vK (v_pick x15 (.bool true) x28) fun x30 => bK x30 (wK (callK E 68 [r0] h29) fun x31 h32 => some ((.tup [(.str []), (.bool false)]), h32)) (vK (v_nilchk r0) fun x33 => vK (v_fa 0 x33) fun x34 => vK (v_ld h29.get x34) fun x35 => vK (v_slS x35 none (some r1)) fun x36 => vK (v_nilchk r0) fun x37 => vK (v_fa 0 x37) fun x38 => vK (v_ld h29.get x38) fun x39 => vK (v_slS x39 (some r1) none) fun x40 => vK (v_nilchk r0) fun x41 => vK (v_fa 0 x41) fun x42 => wK (dStF 1 x42 x40 h29) fun x43 h44 => some ((.tup [x36, (.bool true)]), h44))
theorem I58_0 : iB2 E D58 (J58_0 E) := Is.rf
def S58 : Fun := fA2 (J58_0 E)
theorem S58_eq : SQ D58 S58 := eB2 I58_0
def D59 := cm 59
def J59_0 (r0 r1 : DV) (h : H) : Ans := vK (v_slL 3 r0 none (some r1)) fun x1 => wK (callK E 94 [x1] h) fun x2 h3 => vK (v_slL 3 r0 (some r1) none) fun x4 => wK (callK E 94 [x4] h3) fun x5 h6 => wK (callK E 94 [r0] h6) fun x7 h8 => some ((.tup []), h8)
theorem I59_0 : iB2 E D59 (J59_0 E) := Is.rf
def S59 : Fun := fA2 (J59_0 E)
theorem S59_eq : SQ D59 S59 := eB2 I59_0
def D63 := cm 63
def J63_0 (r0 r1 : DV) (h : H) : Ans := vK (v_eqv .ptr false h.get r0 .nilp) fun x1 => gdK x1 false (fun kk => kk r0 h) h fun x2 h3 => gdK x1 false (fun kk => vK (v_nilchk x2) fun v => kk v h3) h3 fun x4 h5 => gdK x1 false (fun kk => vK (v_fa 2 x4) fun v => kk v h5) h5 fun x6 h7 => gdK x1 false (fun kk => vK (v_ld h7.get x6) fun v => kk v h7) h7 fun x8 h9 => gdK x1 false (fun kk => vK (v_neq x8 (ii 0)) fun v => kk v h9) h9 fun x10 h11 => vK (v_pick x1 (.bool true) x10) fun x12 => bK x12 (some ((.tup []), h11)) (vK (v_nilchk r0) fun x13 => vK (v_fa 1 x13) fun x14 => vK (v_ld h11.get x14) fun x15 => vK (v_nilchk r0) fun x16 => vK (v_fa 1 x16) fun x17 => vK (v_ld h11.get x17) fun x18 => vK (v_lenL x18) fun x19 => vK (v_nilchk r0) fun x20 => vK (v_fa 1 x20) fun x21 => vK (v_ld h11.get x21) fun x22 => vK (v_lenL x22) fun x23 => vK (v_slM 1 x15 none x19 x23) fun x24 => wK (c_val E r1 [x24] h11) fun x25 h26 => vK (v_lenL x25) fun x27 => vK (v_nilchk r0) fun x28 => vK (v_fa 0 x28) fun x29 => vK (v_ld h26.get x29) fun x30 => vK (v_gtr x27 x30) fun x31 => bK x31 (vK (v_nilchk r0) fun x32 => vK (v_fa 2 x32) fun x33 => wK (dStF 1 x33 (ii 2) h26) fun x34 h35 => some ((.tup []), h35)) (vK (v_nilchk r0) fun x36 => vK (v_fa 1 x36) fun x37 => wK (dStF 1 x37 x25 h26) fun x38 h39 => some ((.tup []), h39)))
theorem I63_0 : iB2 E D63 (J63_0 E) := Is.rf
def S63 : Fun := fA2 (J63_0 E)
theorem S63_eq : SQ D63 S63 := eB2 I63_0
def D64 := cm 64
def J64_0 (E : Env) (r0 r1 : DV) (h : H) : Ans := vK (v_ld h.get r1) fun x1 => vK (v_conv .u8 x1) fun x2 => n_bsl 1 1 [(.int .u8 (.ofNat 0))] [(0, 1, x2)] h fun x3 h4 => wK (dAppendF 1 1 r0 x3 h4) fun x5 h6 => some (x5, h6)
theorem I64_0 : iB2 E D64 (J64_0 E) := Is.rf
def S64 : Fun := fA2 (J64_0 E)
theorem S64_eq : SQ D64 S64 := eB2 I64_0
def D65 := cm 65
def J65_0 (r0 r1 : DV) (h : H) : Ans := vK (v_ld h.get r1) fun x1 => wK (callK E 66 [r0, x1] h) fun x2 h3 => some (x2, h3)
theorem I65_0 : iB2 E D65 (J65_0 E) := Is.rf
def S65 : Fun := fA2 (J65_0 E)
theorem S65_eq : SQ D65 S65 := eB2 I65_0
def D66 := cm 66
def J66_0 (r0 r1 : DV) (h : H) : Ans := vK (v_lenS r1) fun x1 => wK (callK E 93 [r0, x1] h) fun x2 h3 => wK (dAppendF 1 1 x2 r1 h3) fun x4 h5 => some (x4, h5)
theorem I66_0 : iB2 E D66 (J66_0 E) := Is.rf
def S66 : Fun := fA2 (J66_0 E)
theorem S66_eq : SQ D66 S66 := eB2 I66_0
def D67 := cm 67
def C67_1 := cr (cr (cr D67.body))
def C67_2 := cl (cr (cl (cr (cr D67.body))))
def J67_1 (E : Env) (h : H) : Ans := some ((.tup [(.int .u64 (.ofNat 0)), (ii 0)]), h)
def B67_2 (r0 r9 : DV) (i2 : DV → DV → H → Ans) (r4 r10 : DV) (h : H) : Ans := vK (v_lss r10 r9) fun x1 => bK x1 (vK (v_ixS r0 r10) fun x2 => vK (v_conv .u64 x2) fun x3 => vK (v_and x3 (.int .u64 (.ofNat 127))) fun x4 => vK (v_mul (ii 7) r10) fun x5 => vK (v_shl x4 x5) fun x6 => vK (v_or r4 x6) fun x7 => vK (v_geq x3 (.int .u64 (.ofNat 128))) fun x8 => bK x8 (vK (v_add r10 (ii 1)) fun x9 => i2 x7 x9 h) (vK (v_gtr r10 (ii 0)) fun x10 => gdK x10 true (fun kk => kk x3 h) h fun x11 h12 => gdK x10 true (fun kk => vK (v_eql x11 (.int .u64 (.ofNat 0))) fun v => kk v h12) h12 fun x13 h14 => vK (v_pick x10 x13 (.bool false)) fun x15 => gdK x15 false (fun kk => kk r10 h14) h14 fun x16 h17 => gdK x15 false (fun kk => vK (v_eql x16 (ii 9)) fun v => kk v h17) h17 fun x18 h19 => gdK x15 false (fun kk => kk x18 h19) h19 fun x20 h21 => gdK x20 true (fun kk => kk x3 h21) h21 fun x22 h23 => gdK x20 true (fun kk => vK (v_gtr x22 (.int .u64 (.ofNat 1))) fun v => kk v h23) h23 fun x24 h25 => gdK x15 false (fun kk => vK (v_pick x20 x24 (.bool false)) fun v => kk v h25) h25 fun x26 h27 => vK (v_pick x15 (.bool true) x26) fun x28 => bK x28 (some ((.tup [(.int .u64 (.ofNat 0)), (ii 0)]), h27)) (vK (v_add r10 (ii 1)) fun x29 => some ((.tup [x7, x29]), h27)))) (J67_1 E h)
def L67_2 (r0 r9 : DV) (n : Nat) : DV → DV → H → Ans := Nat.rec (motive := fun _ => DV → DV → H → Ans) (fun _ _ _ => none) (fun _ i => B67_2 E r0 r9 i) n
def J67_0 (r0 : DV) (h : H) : Ans := vK (v_lenS r0) fun x1 => vK (v_mn x1 (ii 10)) fun x2 => L67_2 E r0 x2 FUEL (.int .u64 (.ofNat 0)) (ii 0) h
theorem I67_1 : Is E C67_1 (retK3 D67.res) (fun σ h => J67_1 E h) := Is.rf
abbrev K67_3 : KT2 (DV × H) := (blockK3 0 (thenK3 (fun σ h => J67_1 E h) (retK3 D67.res)))
theorem I67_2 : Is E C67_2 (K67_3 E) (fun σ h => L67_2 E (σ p0) (σ p9) FUEL (σ p4) (σ p10) h) := Is.lp (fun n2 σ h => L67_2 E (σ p0) (σ p9) n2 (σ p4) (σ p10) h) fun n2 => Is.aq (Is.leaf _)
theorem I67_0 : iB1 E D67 (J67_0 E) := Is.aq (Is.sq (Is.sq (Is.sq (I67_1 E) (Is.sq (Is.bk (I67_2 E)) (Is.leaf _))) (Is.leaf _)) (Is.leaf _))
def S67 : Fun := fA1 (J67_0 E)
theorem S67_eq : SQ D67 S67 := eB1 I67_0
def D68 := cm 68
def J68_0 (E : Env) (r0 : DV) (h : H) : Ans := vK (v_eqv .ptr true h.get r0 .nilp) fun x1 => bK x1 (vK (v_nilchk r0) fun x2 => vK (v_fa 0 x2) fun x3 => wK (dStF 1 x3 (.str []) h) fun x4 h5 => vK (v_nilchk r0) fun x6 => vK (v_fa 1 x6) fun x7 => wK (dStF 1 x7 (.bool true) h5) fun x8 h9 => some ((.tup []), h9)) (some ((.tup []), h))
theorem I68_0 : iB1 E D68 (J68_0 E) := Is.rf
def S68 : Fun := fA1 (J68_0 E)
theorem S68_eq : SQ D68 S68 := eB1 I68_0
def D69 := cm 69
def J69_0 (E : Env) (r0 r1 : DV) (h : H) : Ans := n_box r0 h fun x1 h2 => n_box r1 h2 fun x3 h4 => vK (v_fa 0 x3) fun x5 => vK (v_ld h4.get x5) fun x6 => vK (v_eql x6 (ii 1)) fun x7 => bK x7 (vK (v_ld h4.get x1) fun x8 => vK (v_fa 3 x3) fun x9 => vK (v_ld h4.get x9) fun x10 => vK (v_bld [.nilf, (.str [])] [(0, 1, (.fn (.func 95) [x8] [])), (1, 1, x10)]) fun x11 => some ((.ifc 162 x11), h4)) (vK (v_eql x6 (ii 2)) fun x12 => bK x12 (vK (v_ld h4.get x1) fun x13 => vK (v_fa 3 x3) fun x14 => vK (v_ld h4.get x14) fun x15 => vK (v_bld [.nilf, (.str [])] [(0, 1, (.fn (.func 96) [x13] [])), (1, 1, x15)]) fun x16 => some ((.ifc 162 x16), h4)) (vK (v_eql x6 (ii 3)) fun x17 => bK x17 (vK (v_ld h4.get x1) fun x18 => vK (v_fa 3 x3) fun x19 => vK (v_ld h4.get x19) fun x20 => vK (v_bld [.nilf, (.str [])] [(0, 1, (.fn (.func 97) [x18] [])), (1, 1, x20)]) fun x21 => some ((.ifc 162 x21), h4)) (vK (v_eql x6 (ii 4)) fun x22 => bK x22 (vK (v_ld h4.get x1) fun x23 => vK (v_fa 3 x3) fun x24 => vK (v_ld h4.get x24) fun x25 => vK (v_bld [.nilf, (.str [])] [(0, 1, (.fn (.func 98) [x23] [])), (1, 1, x25)]) fun x26 => some ((.ifc 162 x26), h4)) (vK (v_eql x6 (ii 5)) fun x27 => bK x27 (vK (v_ld h4.get x1) fun x28 => vK (v_fa 3 x3) fun x29 => vK (v_ld h4.get x29) fun x30 => vK (v_fa 4 x3) fun x31 => vK (v_ld h4.get x31) fun x32 => vK (v_bld [.nilf, (.str []), (.str [])] [(0, 1, (.fn (.func 99) [x28] [])), (1, 1, x30), (2, 1, x32)]) fun x33 => some ((.ifc 165 x33), h4)) (vK (v_eql x6 (ii 6)) fun x34 => bK x34 (vK (v_ld h4.get x1) fun x35 => vK (v_fa 3 x3) fun x36 => vK (v_ld h4.get x36) fun x37 => vK (v_fa 4 x3) fun x38 => vK (v_ld h4.get x38) fun x39 => vK (v_bld [.nilf, (.str []), (.str [])] [(0, 1, (.fn (.func 100) [x35] [])), (1, 1, x37), (2, 1, x39)]) fun x40 => some ((.ifc 165 x40), h4)) (vK (v_eql x6 (ii 7)) fun x41 => bK x41 (vK (v_bld [.nilf] [(0, 1, (.fn (.func 101) [] [x1, x3]))]) fun x42 => some ((.ifc 167 x42), h4)) (vK (v_eql x6 (ii 8)) fun x43 => bK x43 (vK (v_bld [.nilf] [(0, 1, (.fn (.func 103) [] [x1, x3]))]) fun x44 => some ((.ifc 167 x44), h4)) (vK (v_eql x6 (ii 9)) fun x45 => bK x45 (vK (v_bld [.nilf] [(0, 1, (.fn (.func 105) [] [x1, x3]))]) fun x46 => some ((.ifc 170 x46), h4)) (vK (v_eql x6 (ii 10)) fun x47 => bK x47 (vK (v_bld [.nilf] [(0, 1, (.fn (.func 107) [] [x1, x3]))]) fun x48 => some ((.ifc 170 x48), h4)) (vK (v_bld [.nilf] [(0, 1, (.fn (.func 109) [] [x1, x3]))]) fun x49 => some ((.ifc 170 x49), h4)))))))))))
theorem I69_0 : iB2 E D69 (J69_0 E) := Is.rf
def S69 : Fun := fA2 (J69_0 E)
theorem S69_eq : SQ D69 S69 := eB2 I69_0
def D70 := cm 70
def C70_1 := cr (cr (cr (cr (cr D70.body))))
def C70_2 := cl (cl (cr (cr (cr (cr D70.body)))))
def J70_1 (r9 r11 : DV) (h : H) : Ans := vK (v_eql r11 (ii 0)) fun x1 => bK x1 (some ((.tup [(.str []), (ii 0), (ii 2)]), h)) (wK (callK E 114 [r9] h) fun x2 h3 => some ((.tup [x2, r11, (ii 0)]), h3))
def B70_2 (r1 r9 r10 : DV) (i2 : DV → H → Ans) (r11 : DV) (h : H) : Ans := gdK r10 true (fun kk => kk r11 h) h fun x1 h2 => gdK r10 true (fun kk => kk r1 h2) h2 fun x3 h4 => gdK r10 true (fun kk => vK (v_lenL x3) fun v => kk v h4) h4 fun x5 h6 => gdK r10 true (fun kk => vK (v_mn x5 (ii 1000)) fun v => kk v h6) h6 fun x7 h8 => gdK r10 true (fun kk => vK (v_lss x1 x7) fun v => kk v h8) h8 fun x9 h10 => vK (v_pick r10 x9 (.bool false)) fun x11 => bK x11 (vK (v_iaS 1 r1 r11) fun x12 => vK (v_ld h10.get x12) fun x13 => wK (callK E 113 [r9, (ii 3), (ii 0), r11, x13] h10) fun x14 h15 => vK (v_ext 0 x14) fun x16 => vK (v_ext 1 x14) fun x17 => n_alc 5 5 (.list [(ii 0), (ii 0), (ii 0), (ii 0), (ii 0)]) h15 fun x18 h19 => wK (dStF 5 x18 x16 h19) fun x20 h21 => vK (v_neq x17 (ii 0)) fun x22 => bK x22 (J70_1 E r9 r11 h21) (vK (v_add r11 (ii 1)) fun x23 => i2 x23 h21)) (J70_1 E r9 r11 h10)
def L70_2 (r1 r9 r10 : DV) (n : Nat) : DV → H → Ans := Nat.rec (motive := fun _ => DV → H → Ans) (fun _ _ => none) (fun _ i => B70_2 E r1 r9 r10 i) n
def J70_0 (r0 r1 r2 : DV) (h : H) : Ans := wK (callK E 111 [r0] h) fun x1 h2 => vK (v_not x1) fun x3 => bK x3 (some ((.tup [(.str []), (ii 0), (ii 1)]), h2)) (wK (callK E 112 [r0, r2] h2) fun x4 h5 => vK (v_ext 0 x4) fun x6 => vK (v_ext 1 x4) fun x7 => L70_2 E r1 x6 x7 FUEL (ii 0) h5)
theorem I70_1 : Is E C70_1 (retK3 D70.res) (fun σ h => J70_1 E (σ p9) (σ p11) h) := Is.rf
abbrev K70_3 : KT2 (DV × H) := (thenK3 (fun σ h => J70_1 E (σ p9) (σ p11) h) (retK3 D70.res))
theorem I70_2 : Is E C70_2 (blockK3 0 (K70_3 E)) (fun σ h => L70_2 E (σ p1) (σ p9) (σ p10) FUEL (σ p11) h) := Is.lp (fun n2 σ h => L70_2 E (σ p1) (σ p9) (σ p10) n2 (σ p11) h) fun n2 => Is.aq (Is.leaf _)
theorem I70_0 : iB3 E D70 (J70_0 E) := Is.aq (Is.sq (Is.sq (Is.sq (Is.sq (Is.sq (I70_1 E) (Is.bk (I70_2 E))) (Is.leaf _)) (Is.leaf _)) (Is.leaf _)) (Is.leaf _))
def S70 : Fun := fA3 (J70_0 E)
theorem S70_eq : SQ D70 S70 := eB3 I70_0
def D71 := cm 71
def J71_0 (E : Env) (r0 : DV) (h : H) : Ans := vK (v_eqv .ptr false h.get r0 .nilp) fun x1 => bK x1 (some ((ii 0), h)) (vK (v_nilchk r0) fun x2 => vK (v_fa 2 x2) fun x3 => vK (v_ld h.get x3) fun x4 => vK (v_sub x4 (ii 1)) fun x5 => vK (v_mul (ii 512) x5) fun x6 => some (x6, h))
theorem I71_0 : iB1 E D71 (J71_0 E) := Is.rf
def S71 : Fun := fA1 (J71_0 E)
theorem S71_eq : SQ D71 S71 := eB1 I71_0
def D74 := cm 74
def J74_0 (E : Env) (r0 : DV) (h : H) : Ans := vK (v_eqv .ptr false h.get r0 .nilp) fun x1 => bK x1 (some (.nilp, h)) (vK (v_nilchk r0) fun x2 => vK (v_fa 1 x2) fun x3 => vK (v_ld h.get x3) fun x4 => some (x4, h))
theorem I74_0 : iB1 E D74 (J74_0 E) := Is.rf
def S74 : Fun := fA1 (J74_0 E)
theorem S74_eq : SQ D74 S74 := eB1 I74_0
def D75 := cm 75
def J75_0 (r0 r1 : DV) (h : H) : Ans := vK (v_eqv .ptr false h.get r0 .nilp) fun x1 => bK x1 (some (.nils, h)) (vK (v_nilchk r0) fun x2 => vK (v_fa 1 x2) fun x3 => vK (v_ld h.get x3) fun x4 => wK (callK E 116 [x4, r1] h) fun x5 h6 => some (x5, h6))
theorem I75_0 : iB2 E D75 (J75_0 E) := Is.rf
def S75 : Fun := fA2 (J75_0 E)
theorem S75_eq : SQ D75 S75 := eB2 I75_0
def D78 := cm 78
def J78_0 (r0 r1 : DV) (h : H) : Ans := vK (v_lenL r0) fun x1 => vK (v_conv .u64 x1) fun x2 => wK (callK E 123 [x2] h) fun x3 h4 => wK (callK E 122 [r0, (ii 0), x1, x3, r1] h4) fun x5 h6 => some ((.tup []), h6)
theorem I78_0 : iB2 E D78 (J78_0 E) := Is.rf
def S78 : Fun := fA2 (J78_0 E)
theorem S78_eq : SQ D78 S78 := eB2 I78_0
def D79 := cmk 79
def J79_0 (r0 r1 : DV) (h : H) : Ans := n_box r0 h fun x1 h2 => n_box r1 h2 fun x3 h4 => vK (v_fa 1 x1) fun x5 => vK (v_ld h4.get x5) fun x6 => vK (v_fa 1 x3) fun x7 => vK (v_ld h4.get x7) fun x8 => wK (callK E 80 [x6, x8] h4) fun x9 h10 => kilK x1 h10 fun h11 => kilK x3 h11 fun h12 => some (x9, h12)
theorem I79_0 : iB2 E D79 (J79_0 E) := Is.aq (Is.fi (p := p3) (Is.fi (p := p2) (Is.leaf _)))
def S79 : Fun := fA2 (J79_0 E)
theorem S79_eq : SQ D79 S79 := eB2 I79_0
def D80 := cm 80
def J80_0 (r0 r1 : DV) (h : H) : Ans := wK (callK E 124 [r0] h) fun x1 h2 => wK (callK E 124 [r1] h2) fun x3 h4 => bK x1 (bK x3 (some ((ii 0), h4)) (some ((.int .i64 (.negSucc 0)), h4))) (bK x3 (some ((ii 1), h4)) (vK (v_lss r0 r1) fun x5 => bK x5 (some ((.int .i64 (.negSucc 0)), h4)) (vK (v_gtr r0 r1) fun x6 => bK x6 (some ((ii 1), h4)) (some ((ii 0), h4)))))
theorem I80_0 : iB2 E D80 (J80_0 E) := Is.rf
def S80 : Fun := fA2 (J80_0 E)
theorem S80_eq : SQ D80 S80 := eB2 I80_0
def D83 := cm 83
def J83_0 (h : H) : Ans := vK (v_bld (zR [(ii 0), .nili] 256 ++ [(ii 0), (ii 0)]) []) fun x1 => n_box x1 h fun x2 h3 => vK (v_nilchk x2) fun x4 => vK (v_fa 0 x4) fun x5 => wK (callK E 127 [] h3) fun x6 h7 => vK (v_bld [.nilp] [(0, 1, x6)]) fun x8 => vK (v_iaA 256 2 x5 (ii 1)) fun x9 => vK (v_fa 1 x9) fun x10 => wK (dStF 1 x10 (.ifc 248 x8) h7) fun x11 h12 => some (x2, h12)
theorem I83_0 : iB0 E D83 (J83_0 E) := Is.rf
def S83 : Fun := fA0 (J83_0 E)
theorem S83_eq : SQ D83 S83 := eB0 I83_0
def D85 := cm 85
def C85_1 := cr (cr (cr (cr D85.body)))
def C85_2 := cl (cr (cl (cr (cr (cr D85.body)))))
def J85_1 (E : Env) (r3 : DV) (h : H) : Ans := some (r3, h)
def B85_2 (r3 r4 r19 : DV) (i2 : DV → H → Ans) (r20 : DV) (h : H) : Ans := vK (v_lss r20 r19) fun x1 => bK x1 (vK (v_nilchk r3) fun x2 => vK (v_fa 0 x2) fun x3 => vK (v_ld h.get x3) fun x4 => vK (v_iaS 1 x4 r20) fun x5 => wK (dStF 1 x5 r4 h) fun x6 h7 => vK (v_add r20 (ii 1)) fun x8 => i2 x8 h7) (J85_1 E r3 h)
def L85_2 (r3 r4 r19 : DV) (n : Nat) : DV → H → Ans := Nat.rec (motive := fun _ => DV → H → Ans) (fun _ _ => none) (fun _ i => B85_2 E r3 r4 r19 i) n
def J85_0 (r0 : DV) (h : H) : Ans := n_mkm h fun x1 h2 => vK (v_mx r0 (ii 1)) fun x3 => vK (v_mn x3 (ii 4096)) fun x4 => n_mks 1 16 (.str []) x4 x4 h2 fun x5 h6 => vK (v_bld [.nils, .nilm, (.bool false)] [(1, 1, x1), (0, 1, x5)]) fun x7 => n_box x7 h6 fun x8 h9 => n_mks 1 1 (.int .u8 (.ofNat 0)) (ii 64) (ii 64) h9 fun x10 h11 => vK (v_b2s h11.get x10) fun x12 => vK (v_nilchk x8) fun x13 => vK (v_fa 0 x13) fun x14 => vK (v_ld h11.get x14) fun x15 => vK (v_lenL x15) fun x16 => L85_2 E x8 x12 x16 FUEL (ii 0) h11
theorem I85_1 : Is E C85_1 (retK3 D85.res) (fun σ h => J85_1 E (σ p3) h) := Is.rf
abbrev K85_3 : KT2 (DV × H) := (thenK3 (fun σ h => J85_1 E (σ p3) h) (retK3 D85.res))
theorem I85_2 : Is E C85_2 (blockK3 0 (K85_3 E)) (fun σ h => L85_2 E (σ p3) (σ p4) (σ p19) FUEL (σ p20) h) := Is.lp (fun n2 σ h => L85_2 E (σ p3) (σ p4) (σ p19) n2 (σ p20) h) fun n2 => Is.aq (Is.leaf _)
theorem I85_0 : iB1 E D85 (J85_0 E) := Is.aq (Is.sq (Is.sq (Is.sq (Is.sq (I85_1 E) (Is.sq (Is.bk (I85_2 E)) (Is.leaf _))) (Is.leaf _)) (Is.leaf _)) (Is.leaf _))
def S85 : Fun := fA1 (J85_0 E)
theorem S85_eq : SQ D85 S85 := eB1 I85_0
def D86 := cm 86
def C86_1 := cr (cr (cr (cr (cr (cl (cr D86.body))))))
def C86_2 := cl (cr (cl (cr (cr (cr (cr (cl (cr D86.body))))))))
def C86_3 := cr (cr (cr (cl C86_2)))
def C86_4 := cr (cr (cr (cr (cr (cl (cl (cr (cr (cl C86_2)))))))))
def J86_1 (E : Env) (r6 : DV) (h : H) : Ans := some ((.tup [r6, (ii 0)]), h)
def J86_3 (E : Env) (i2 : DV → H → Ans) (r24 : DV) (h : H) : Ans := vK (v_add r24 (ii 1)) fun x1 => i2 x1 h
def J86_4 (i2 : DV → H → Ans) (r6 r10 r24 : DV) (h : H) : Ans := vK (v_nilchk r6) fun x1 => vK (v_fa 1 x1) fun x2 => vK (v_ld h.get x2) fun x3 => vK (v_ldN 4 h.get r10) fun x4 => n_bsl 1 4 [(.bool false), (ii 0), (ii 0), (ii 0)] [(0, 4, x4)] h fun x5 h6 => wK (dAppendF 4 32 x3 x5 h6) fun x7 h8 => vK (v_nilchk r6) fun x9 => vK (v_fa 1 x9) fun x10 => wK (dStF 1 x10 x7 h8) fun x11 h12 => J86_3 E i2 r24 h12
def B86_2 (r0 r6 : DV) (i2 : DV → H → Ans) (r24 : DV) (h : H) : Ans := vK (v_lss r24 (ii 256)) fun x1 => bK x1 (vK (v_mul r24 (ii 9)) fun x2 => wK (callK E 130 [r0, x2, (ii 9)] h) fun x3 h4 => vK (v_ext 0 x3) fun x5 => vK (v_ext 1 x3) fun x6 => vK (v_eql x6 (ii 0)) fun x7 => bK x7 (wK (callK E 131 [x5] h4) fun x8 h9 => n_alc 4 4 (.list [(.bool false), (ii 0), (ii 0), (ii 0)]) h9 fun x10 h11 => wK (dStF 4 x10 x8 h11) fun x12 h13 => vK (v_fa 0 x10) fun x14 => vK (v_ld h13.get x14) fun x15 => gdK x15 true (fun kk => kk r6 h13) h13 fun x16 h17 => gdK x15 true (fun kk => vK (v_fa 1 x10) fun v => kk v h17) h17 fun x18 h19 => gdK x15 true (fun kk => vK (v_ldN 2 h19.get x18) fun v => kk v h19) h19 fun x20 h21 => gdK x15 true (fun kk => wK (callK E 132 [x16, x20] h21) kk) h21 fun x22 h23 => gdK x15 true (fun kk => vK (v_geq x22 (ii 0)) fun v => kk v h23) h23 fun x24 h25 => vK (v_pick x15 x24 (.bool false)) fun x26 => bK x26 (vK (v_bld [(.bool false), (ii 0), (ii 0), (ii 0)] []) fun x27 => wK (dStF 4 x10 x27 h25) fun x28 h29 => J86_4 E i2 r6 x10 r24 h29) (J86_4 E i2 r6 x10 r24 h25)) (vK (v_eql x6 (ii 5)) fun x30 => bK x30 (J86_1 E r6 h4) (some ((.tup [.nilp, x6]), h4)))) (J86_1 E r6 h)
def L86_2 (r0 r6 : DV) (n : Nat) : DV → H → Ans := Nat.rec (motive := fun _ => DV → H → Ans) (fun _ _ => none) (fun _ i => B86_2 E r0 r6 i) n
def J86_0 (r0 : DV) (h : H) : Ans := vK (v_eqv .ptr false h.get r0 .nilp) fun x1 => bK x1 (some ((.tup [.nilp, (ii 1)]), h)) (wK (callK E 130 [r0, (ii 0), (ii 1)] h) fun x2 h3 => vK (v_ext 0 x2) fun x4 => vK (v_ext 1 x2) fun x5 => vK (v_neq x5 (ii 0)) fun x6 => bK x6 (some ((.tup [.nilp, x5]), h3)) (vK (v_bld [.nilp, .nils, (.bool false)] [(0, 1, r0)]) fun x7 => n_box x7 h3 fun x8 h9 => L86_2 E r0 x8 FUEL (ii 0) h9))
theorem I86_1 : Is E C86_1 (scopeK3 (retK3 D86.res)) (fun σ h => J86_1 E (σ p6) h) := Is.rf
abbrev K86_5 : KT2 (DV × H) := (thenK3 (fun σ h => J86_1 E (σ p6) h) (scopeK3 (retK3 D86.res)))
abbrev K86_6 (n2 : Nat) : KT2 (DV × H) := (thenK3 (fun σ h => (L86_2 E (σ p0) (σ p6) n2) (σ p24) h) (blockK3 0 (K86_5 E)))
theorem I86_3 (n2 : Nat) : Is E C86_3 (K86_6 E n2) (fun σ h => J86_3 E (L86_2 E (σ p0) (σ p6) n2) (σ p24) h) := Is.rf
abbrev K86_7 (n2 : Nat) : KT2 (DV × H) := (thenK3 (fun σ h => J86_3 E (L86_2 E (σ p0) (σ p6) n2) (σ p24) h) (K86_6 E n2))
theorem I86_4 (n2 : Nat) : Is E C86_4 (blockK3 1 (K86_7 E n2)) (fun σ h => J86_4 E (L86_2 E (σ p0) (σ p6) n2) (σ p6) (σ p10) (σ p24) h) := Is.rf
theorem I86_2 : Is E C86_2 (blockK3 0 (K86_5 E)) (fun σ h => L86_2 E (σ p0) (σ p6) FUEL (σ p24) h) := Is.lp (fun n2 σ h => L86_2 E (σ p0) (σ p6) n2 (σ p24) h) fun n2 => Is.aq (Is.sq (Is.sq (Is.sq (I86_3 E n2) (Is.bk (Is.sq (Is.sq (Is.sq (Is.sq (Is.sq (I86_4 E n2) (Is.leaf _)) (Is.leaf _)) (Is.leaf _)) (Is.leaf _)) (Is.leaf _)))) (Is.leaf _)) (Is.leaf _))
theorem I86_0 : iB1 E D86 (J86_0 E) := Is.aq (Is.sq (Is.sc (Is.sq (Is.sq (Is.sq (Is.sq (Is.sq (I86_1 E) (Is.sq (Is.bk (I86_2 E)) (Is.leaf _))) (Is.leaf _)) (Is.leaf _)) (Is.leaf _)) (Is.leaf _))) (Is.leaf _))
def S86 : Fun := fA1 (J86_0 E)
theorem S86_eq : SQ D86 S86 := eB1 I86_0
def D87 := cm 87
def J87_0 (r0 r1 : DV) (h : H) : Ans := wK (callK E 133 [r0, r1] h) fun x1 h2 => vK (v_not x1) fun x3 => bK x3 (some (.nilp, h2)) (wK (callK E 134 [r0] h2) fun x4 h5 => wK (callK E 134 [r1] h5) fun x6 h7 => vK (v_bld [.nils, .nils, (ii 0), (ii 0), (.bool false), (ii 0)] [(0, 1, x4), (1, 1, x6), (2, 1, (ii 1)), (3, 1, (.int .i64 (.negSucc 0))), (5, 1, (.int .i64 (.negSucc 0)))]) fun x8 => n_box x8 h7 fun x9 h10 => some (x9, h10))
theorem I87_0 : iB2 E D87 (J87_0 E) := Is.rf
def S87 : Fun := fA2 (J87_0 E)
theorem S87_eq : SQ D87 S87 := eB2 I87_0
def D88 := cm 88
def J88_0 (E : Env) (h : H) : Ans := vK (v_bld [.nils, (ii 0)] []) fun x1 => n_box x1 h fun x2 h3 => some (x2, h3)
theorem I88_0 : iB0 E D88 (J88_0 E) := Is.rf
def S88 : Fun := fA0 (J88_0 E)
theorem S88_eq : SQ D88 S88 := eB0 I88_0
def D89 := cm 89
def J89_0 (E : Env) (h : H) : Ans := vK (v_bld (zR [(ii 0)] 1024 ++ []) []) fun x1 => n_box x1 h fun x2 h3 => some (x2, h3)
theorem I89_0 : iB0 E D89 (J89_0 E) := Is.rf
def S89 : Fun := fA0 (J89_0 E)
theorem S89_eq : SQ D89 S89 := eB0 I89_0
def D90 := cm 90
def J90_0 (E : Env) (h : H) : Ans := vK (v_bld [.nils] []) fun x1 => n_box x1 h fun x2 h3 => some (x2, h3)
theorem I90_0 : iB0 E D90 (J90_0 E) := Is.rf
def S90 : Fun := fA0 (J90_0 E)
theorem S90_eq : SQ D90 S90 := eB0 I90_0
def D91 := cm 91
def J91_0 (E : Env) (h : H) : Ans := n_mkm h fun x1 h2 => vK (v_bld [.nilm, (ii 0)] [(0, 1, x1)]) fun x3 => n_box x3 h2 fun x4 h5 => some (x4, h5)
theorem I91_0 : iB0 E D91 (J91_0 E) := Is.rf
def S91 : Fun := fA0 (J91_0 E)
theorem S91_eq : SQ D91 S91 := eB0 I91_0
def D92 := cm 92
def J92_0 (r0 r1 : DV) (h : H) : Ans := vK (v_ld h.get r1) fun x1 => wK (callK E 93 [r0, x1] h) fun x2 h3 => some (x2, h3)
theorem I92_0 : iB2 E D92 (J92_0 E) := Is.rf
def S92 : Fun := fA2 (J92_0 E)
theorem S92_eq : SQ D92 S92 := eB2 I92_0
def D93 := cm 93
def C93_1 := cr (cr (cr D93.body))
def C93_2 := cl (cl (cr (cr D93.body)))
def J93_1 (E : Env) (r0 r5 : DV) (h : H) : Ans := vK (v_conv .u8 r5) fun x1 => n_bsl 1 1 [(.int .u8 (.ofNat 0))] [(0, 1, x1)] h fun x2 h3 => wK (dAppendF 1 1 r0 x2 h3) fun x4 h5 => some (x4, h5)
def B93_2 (i2 : DV → DV → H → Ans) (r0 r5 : DV) (h : H) : Ans := vK (v_geq r5 (.int .u64 (.ofNat 128))) fun x1 => bK x1 (vK (v_conv .u8 r5) fun x2 => vK (v_or x2 (.int .u8 (.ofNat 128))) fun x3 => n_bsl 1 1 [(.int .u8 (.ofNat 0))] [(0, 1, x3)] h fun x4 h5 => wK (dAppendF 1 1 r0 x4 h5) fun x6 h7 => vK (v_shr r5 (.int .u64 (.ofNat 7))) fun x8 => i2 x6 x8 h7) (J93_1 E r0 r5 h)
def L93_2 (n : Nat) : DV → DV → H → Ans := Nat.rec (motive := fun _ => DV → DV → H → Ans) (fun _ _ _ => none) (fun _ i => B93_2 E i) n
def J93_0 (r0 r1 : DV) (h : H) : Ans := vK (v_conv .u64 r1) fun x1 => vK (v_shl x1 (.int .u64 (.ofNat 1))) fun x2 => vK (v_shr r1 (.int .u64 (.ofNat 63))) fun x3 => vK (v_conv .u64 x3) fun x4 => vK (v_xor x2 x4) fun x5 => L93_2 E FUEL r0 x5 h
theorem I93_1 : Is E C93_1 (retK3 D93.res) (fun σ h => J93_1 E (σ p0) (σ p5) h) := Is.rf
abbrev K93_3 : KT2 (DV × H) := (thenK3 (fun σ h => J93_1 E (σ p0) (σ p5) h) (retK3 D93.res))
theorem I93_2 : Is E C93_2 (blockK3 0 (K93_3 E)) (fun σ h => L93_2 E FUEL (σ p0) (σ p5) h) := Is.lp (fun n2 σ h => L93_2 E n2 (σ p0) (σ p5) h) fun n2 => Is.aq (Is.leaf _)
theorem I93_0 : iB2 E D93 (J93_0 E) := Is.aq (Is.sq (Is.sq (Is.sq (I93_1 E) (Is.bk (I93_2 E))) (Is.leaf _)) (Is.leaf _))
def S93 : Fun := fA2 (J93_0 E)
theorem S93_eq : SQ D93 S93 := eB2 I93_0
def D94 := cm 94
def C94_1 := cl (cr D94.body)
def B94_1 (E : Env) (r0 : DV) (i1 : DV → DV → H → Ans) (r2 r3 : DV) (h : H) : Ans := vK (v_lss r2 r3) fun x1 => bK x1 (vK (v_iaS 3 r0 r3) fun x2 => vK (v_ldN 3 h.get x2) fun x3 => vK (v_iaS 3 r0 r2) fun x4 => vK (v_ldN 3 h.get x4) fun x5 => vK (v_iaS 3 r0 r2) fun x6 => wK (dStF 3 x6 x3 h) fun x7 h8 => vK (v_iaS 3 r0 r3) fun x9 => wK (dStF 3 x9 x5 h8) fun x10 h11 => vK (v_add r2 (ii 1)) fun x12 => vK (v_sub r3 (ii 1)) fun x13 => i1 x12 x13 h11) (some ((.tup []), h))
def L94_1 (r0 : DV) (n : Nat) : DV → DV → H → Ans := Nat.rec (motive := fun _ => DV → DV → H → Ans) (fun _ _ _ => none) (fun _ i => B94_1 E r0 i) n
def J94_0 (r0 : DV) (h : H) : Ans := vK (v_lenL r0) fun x1 => vK (v_sub x1 (ii 1)) fun x2 => L94_1 E r0 FUEL (ii 0) x2 h
theorem I94_1 : Is E C94_1 (blockK3 0 (retK3 D94.res)) (fun σ h => L94_1 E (σ p0) FUEL (σ p2) (σ p3) h) := Is.lp (fun n1 σ h => L94_1 E (σ p0) n1 (σ p2) (σ p3) h) fun n1 => Is.aq (Is.leaf _)
theorem I94_0 : iB1 E D94 (J94_0 E) := Is.aq (Is.sq (Is.bk (I94_1 E)) (Is.leaf _))
def S94 : Fun := fA1 (J94_0 E)
theorem S94_eq : SQ D94 S94 := eB1 I94_0
def D95 := cm 95
def J95_0 (r0 r1 : DV) (h : H) : Ans := wK (callK E 127 [] h) fun x1 h2 => vK (v_bld [.nilp] [(0, 1, x1)]) fun x3 => wK (callK E 135 [r0, r1, (.ifc 248 x3)] h2) fun x4 h5 => some (x4, h5)
theorem I95_0 : iB2 E D95 (J95_0 E) := Is.rf
def S95 : Fun := fA2 (J95_0 E)
theorem S95_eq : SQ D95 S95 := eB2 I95_0
def D101 := cm 101
def J101_0 (r0 r1 : DV) (h : H) : Ans := vK (v_ld h.get r0) fun x1 => vK (v_fa 3 r1) fun x2 => vK (v_ld h.get x2) fun x3 => vK (v_fa 1 r1) fun x4 => vK (v_ld h.get x4) fun x5 => vK (v_fa 5 r1) fun x6 => vK (v_ld h.get x6) fun x7 => wK (callK E 102 [x1, x3, x5, x7] h) fun x8 h9 => some (x8, h9)
theorem I101_0 : iB2 E D101 (J101_0 E) := Is.rf
def S101 : Fun := fA2 (J101_0 E)
theorem S101_eq : SQ D101 S101 := eB2 I101_0
def D103 := cm 103
def J103_0 (r0 r1 : DV) (h : H) : Ans := vK (v_ld h.get r0) fun x1 => vK (v_fa 3 r1) fun x2 => vK (v_ld h.get x2) fun x3 => vK (v_fa 2 r1) fun x4 => vK (v_ld h.get x4) fun x5 => wK (callK E 104 [x1, x3, x5] h) fun x6 h7 => some (x6, h7)
theorem I103_0 : iB2 E D103 (J103_0 E) := Is.rf
def S103 : Fun := fA2 (J103_0 E)
theorem S103_eq : SQ D103 S103 := eB2 I103_0
def D105 := cm 105
def J105_0 (r0 r1 : DV) (h : H) : Ans := vK (v_ld h.get r0) fun x1 => vK (v_fa 3 r1) fun x2 => vK (v_ld h.get x2) fun x3 => vK (v_fa 1 r1) fun x4 => vK (v_ld h.get x4) fun x5 => vK (v_fa 2 r1) fun x6 => vK (v_ld h.get x6) fun x7 => wK (callK E 106 [x1, x3, x5, x7] h) fun x8 h9 => vK (v_ext 0 x8) fun x10 => vK (v_ext 1 x8) fun x11 => some ((.tup [x11, x10]), h9)
theorem I105_0 : iB2 E D105 (J105_0 E) := Is.rf
def S105 : Fun := fA2 (J105_0 E)
theorem S105_eq : SQ D105 S105 := eB2 I105_0
def D107 := cm 107
def J107_0 (r0 r1 : DV) (h : H) : Ans := vK (v_ld h.get r0) fun x1 => vK (v_fa 3 r1) fun x2 => vK (v_ld h.get x2) fun x3 => wK (callK E 108 [x1, x3] h) fun x4 h5 => vK (v_ext 0 x4) fun x6 => vK (v_ext 1 x4) fun x7 => some ((.tup [x6, x7]), h5)
theorem I107_0 : iB2 E D107 (J107_0 E) := Is.rf
def S107 : Fun := fA2 (J107_0 E)
theorem S107_eq : SQ D107 S107 := eB2 I107_0
def D109 := cm 109
def J109_0 (r0 r1 : DV) (h : H) : Ans := vK (v_ld h.get r0) fun x1 => vK (v_fa 3 r1) fun x2 => vK (v_ld h.get x2) fun x3 => wK (callK E 110 [x1, x3] h) fun x4 h5 => vK (v_ext 0 x4) fun x6 => vK (v_ext 1 x4) fun x7 => some ((.tup [x6, x7]), h5)
theorem I109_0 : iB2 E D109 (J109_0 E) := Is.rf
def S109 : Fun := fA2 (J109_0 E)
theorem S109_eq : SQ D109 S109 := eB2 I109_0
def D111 := cm 111
def J111_0 (E : Env) (r0 : DV) (h : H) : Ans := vK (v_geq r0 (ii 0)) fun x1 => gdK x1 true (fun kk => kk r0 h) h fun x2 h3 => gdK x1 true (fun kk => vK (v_lss x2 (ii 2147483648)) fun v => kk v h3) h3 fun x4 h5 => vK (v_pick x1 x4 (.bool false)) fun x6 => some (x6, h5)
theorem I111_0 : iB1 E D111 (J111_0 E) := Is.rf
def S111 : Fun := fA1 (J111_0 E)
theorem S111_eq : SQ D111 S111 := eB1 I111_0
def D112 := cm 112
def J112_0 (r0 r1 : DV) (h : H) : Ans := wK (callK E 153 [r1] h) fun x1 h2 => wK (callK E 113 [x1, (ii 1), (ii 0), r0, (.str [])] h2) fun x3 h4 => vK (v_ext 0 x3) fun x5 => vK (v_ext 1 x3) fun x6 => n_alc 5 5 (.list [(ii 0), (ii 0), (ii 0), (ii 0), (ii 0)]) h4 fun x7 h8 => wK (dStF 5 x7 x5 h8) fun x9 h10 => vK (v_eql x6 (ii 0)) fun x11 => some ((.tup [x1, x11]), h10)
theorem I112_0 : iB2 E D112 (J112_0 E) := Is.rf
def S112 : Fun := fA2 (J112_0 E)
theorem S112_eq : SQ D112 S112 := eB2 I112_0
def D113 := cm 113
def J113_0 (r0 r1 r2 r3 r4 : DV) (h : H) : Ans := n_alc 5 5 (.list [(ii 0), (ii 0), (ii 0), (ii 0), (ii 0)]) h fun x1 h2 => wK (callK E 154 [r0] h2) fun x3 h4 => vK (v_lenS r4) fun x5 => vK (v_bld [(ii 0), (ii 0), (ii 0), (ii 0), (ii 0)] [(0, 1, r1), (1, 1, r2), (2, 1, r3), (3, 1, x3), (4, 1, x5)]) fun x6 => n_alc 5 5 (.list [(ii 0), (ii 0), (ii 0), (ii 0), (ii 0)]) h4 fun x7 h8 => wK (dStF 5 x7 x6 h8) fun x9 h10 => vK (v_eqv .ptr false h10.get r0 .nilp) fun x11 => gdK x11 false (fun kk => vK (v_ldN 5 h10.get x7) fun v => kk v h10) h10 fun x12 h13 => gdK x11 false (fun kk => wK (callK E 155 [x12] h13) kk) h13 fun x14 h15 => gdK x11 false (fun kk => vK (v_not x14) fun v => kk v h15) h15 fun x16 h17 => vK (v_pick x11 (.bool true) x16) fun x18 => bK x18 (vK (v_bld [(ii 0), (ii 0), (ii 0), (ii 0), (ii 0)] []) fun x19 => wK (dStF 5 x1 x19 h17) fun x20 h21 => vK (v_ldN 5 h21.get x1) fun x22 => some ((.tup [x22, (ii 1)]), h21)) (vK (v_lenS r4) fun x23 => wK (callK E 156 [r0] h17) fun x24 h25 => vK (v_gtr x23 x24) fun x26 => bK x26 (vK (v_bld [(ii 0), (ii 0), (ii 0), (ii 0), (ii 0)] []) fun x27 => wK (dStF 5 x1 x27 h25) fun x28 h29 => vK (v_ldN 5 h29.get x1) fun x30 => some ((.tup [x30, (ii 5)]), h29)) (vK (v_nilchk r0) fun x31 => vK (v_fa 1 x31) fun x32 => vK (v_ld h25.get x32) fun x33 => wK (dAppendF 1 1 x33 r4 h25) fun x34 h35 => vK (v_nilchk r0) fun x36 => vK (v_fa 1 x36) fun x37 => wK (dStF 1 x37 x34 h35) fun x38 h39 => vK (v_nilchk r0) fun x40 => vK (v_fa 2 x40) fun x41 => vK (v_ld h39.get x41) fun x42 => vK (v_ldN 5 h39.get x7) fun x43 => n_bsl 1 5 [(ii 0), (ii 0), (ii 0), (ii 0), (ii 0)] [(0, 5, x43)] h39 fun x44 h45 => wK (dAppendF 5 40 x42 x44 h45) fun x46 h47 => vK (v_nilchk r0) fun x48 => vK (v_fa 2 x48) fun x49 => wK (dStF 1 x49 x46 h47) fun x50 h51 => vK (v_ldN 5 h51.get x7) fun x52 => wK (dStF 5 x1 x52 h51) fun x53 h54 => vK (v_ldN 5 h54.get x1) fun x55 => some ((.tup [x55, (ii 0)]), h54)))
theorem I113_0 : iB5 E D113 (J113_0 E) := Is.rf
def S113 : Fun := fA5 (J113_0 E)
theorem S113_eq : SQ D113 S113 := eB5 I113_0
def D114 := cm 114
def C114_1 := cr (cr (cr (cr (cr D114.body))))
def C114_2 := cl (cr (cl (cr (cr (cr (cr D114.body))))))
def J114_1 (r0 r3 : DV) (h : H) : Ans := wK (callK E 42 [r3] h) fun x1 h2 => vK (v_ext 0 x1) fun x3 => vK (v_ext 1 x1) fun x4 => vK (v_lenS x3) fun x5 => vK (v_nilchk r0) fun x6 => vK (v_fa 1 x6) fun x7 => vK (v_ld h2.get x7) fun x8 => vK (v_b2s h2.get x8) fun x9 => vK (v_add x9 x3) fun x10 => vK (v_conv .u8 x5) fun x11 => vK (v_shr x5 (.int .u64 (.ofNat 8))) fun x12 => vK (v_conv .u8 x12) fun x13 => vK (v_shr x5 (.int .u64 (.ofNat 16))) fun x14 => vK (v_conv .u8 x14) fun x15 => vK (v_shr x5 (.int .u64 (.ofNat 24))) fun x16 => vK (v_conv .u8 x16) fun x17 => n_bsl 4 1 [(.int .u8 (.ofNat 0))] [(0, 1, x11), (1, 1, x13), (2, 1, x15), (3, 1, x17)] h2 fun x18 h19 => vK (v_b2s h19.get x18) fun x20 => vK (v_add x10 x20) fun x21 => wK (callK E 157 [x21] h19) fun x22 h23 => some (x22, h23)
def B114_2 (r0 r3 r22 r23 : DV) (i2 : DV → H → Ans) (r24 : DV) (h : H) : Ans := vK (v_lss r24 r23) fun x1 => bK x1 (vK (v_iaS 5 r22 r24) fun x2 => vK (v_ldN 5 h.get x2) fun x3 => n_alc 5 5 (.list [(ii 0), (ii 0), (ii 0), (ii 0), (ii 0)]) h fun x4 h5 => wK (dStF 5 x4 x3 h5) fun x6 h7 => vK (v_fa 0 x4) fun x8 => vK (v_ld h7.get x8) fun x9 => wK (callK E 40 [r3, x9] h7) fun x10 h11 => vK (v_fa 1 x4) fun x12 => vK (v_ld h11.get x12) fun x13 => wK (callK E 57 [r3, x13] h11) fun x14 h15 => vK (v_fa 2 x4) fun x16 => vK (v_ld h15.get x16) fun x17 => wK (callK E 57 [r3, x17] h15) fun x18 h19 => vK (v_fa 4 x4) fun x20 => vK (v_ld h19.get x20) fun x21 => wK (callK E 57 [r3, x21] h19) fun x22 h23 => vK (v_add r24 (ii 1)) fun x24 => i2 x24 h23) (J114_1 E r0 r3 h)
def L114_2 (r0 r3 r22 r23 : DV) (n : Nat) : DV → H → Ans := Nat.rec (motive := fun _ => DV → H → Ans) (fun _ _ => none) (fun _ i => B114_2 E r0 r3 r22 r23 i) n
def J114_0 (r0 : DV) (h : H) : Ans := vK (v_eqv .ptr false h.get r0 .nilp) fun x1 => bK x1 (some ((.str []), h)) (wK (callK E 39 [(ii 65536)] h) fun x2 h3 => vK (v_nilchk r0) fun x4 => vK (v_fa 2 x4) fun x5 => vK (v_ld h3.get x5) fun x6 => vK (v_lenL x6) fun x7 => wK (callK E 57 [x2, x7] h3) fun x8 h9 => vK (v_nilchk r0) fun x10 => vK (v_fa 2 x10) fun x11 => vK (v_ld h9.get x11) fun x12 => vK (v_lenL x12) fun x13 => L114_2 E r0 x2 x12 x13 FUEL (ii 0) h9)
theorem I114_1 : Is E C114_1 (retK3 D114.res) (fun σ h => J114_1 E (σ p0) (σ p3) h) := Is.rf
abbrev K114_3 : KT2 (DV × H) := (thenK3 (fun σ h => J114_1 E (σ p0) (σ p3) h) (retK3 D114.res))
theorem I114_2 : Is E C114_2 (blockK3 0 (K114_3 E)) (fun σ h => L114_2 E (σ p0) (σ p3) (σ p22) (σ p23) FUEL (σ p24) h) := Is.lp (fun n2 σ h => L114_2 E (σ p0) (σ p3) (σ p22) (σ p23) n2 (σ p24) h) fun n2 => Is.aq (Is.leaf _)
theorem I114_0 : iB1 E D114 (J114_0 E) := Is.aq (Is.sq (Is.sq (Is.sq (Is.sq (Is.sq (I114_1 E) (Is.sq (Is.bk (I114_2 E)) (Is.leaf _))) (Is.leaf _)) (Is.leaf _)) (Is.leaf _)) (Is.leaf _))
def S114 : Fun := fA1 (J114_0 E)
theorem S114_eq : SQ D114 S114 := eB1 I114_0
def D116 := cm 116
def J116_0 (r0 r1 : DV) (h : H) : Ans := n_box r1 h fun x1 h2 => wK (callK E 160 [r0, (.fn (.func 161) [] [x1])] h2) fun x3 h4 => some (x3, h4)
theorem I116_0 : iB2 E D116 (J116_0 E) := Is.rf
def S116 : Fun := fA2 (J116_0 E)
theorem S116_eq : SQ D116 S116 := eB2 I116_0
def D122 := cm 122
def C122_1 := cl (cr (cr D122.body))
def C122_2 := cr (cr (cr (cr (cl (cl C122_1)))))
def C122_3 := cr (cr C122_2)
def C122_4 := cr C122_3
def J122_4 (i1 : DV → DV → DV → DV → DV → H → Ans) (r0 r1 r2 r3 r4 r10 r11 r12 r13 : DV) (h : H) : Ans := vK (v_gtr r1 (ii 0)) fun x1 => gdK x1 true (fun kk => kk r4 h) h fun x2 h3 => gdK x1 true (fun kk => kk r0 h3) h3 fun x4 h5 => gdK x1 true (fun kk => kk r1 h5) h5 fun x6 h7 => gdK x1 true (fun kk => vK (v_sub x6 (ii 1)) fun v => kk v h7) h7 fun x8 h9 => gdK x1 true (fun kk => vK (v_iaS 5 x4 x8) fun v => kk v h9) h9 fun x10 h11 => gdK x1 true (fun kk => vK (v_ldN 5 h11.get x10) fun v => kk v h11) h11 fun x12 h13 => gdK x1 true (fun kk => kk r0 h13) h13 fun x14 h15 => gdK x1 true (fun kk => kk r13 h15) h15 fun x16 h17 => gdK x1 true (fun kk => vK (v_iaS 5 x14 x16) fun v => kk v h17) h17 fun x18 h19 => gdK x1 true (fun kk => vK (v_ldN 5 h19.get x18) fun v => kk v h19) h19 fun x20 h21 => gdK x1 true (fun kk => wK (c_val E x2 [x12, x20] h21) kk) h21 fun x22 h23 => gdK x1 true (fun kk => vK (v_lss x22 (ii 0)) fun v => kk v h23) h23 fun x24 h25 => gdK x1 true (fun kk => vK (v_not x24) fun v => kk v h25) h25 fun x26 h27 => vK (v_pick x1 x26 (.bool false)) fun x28 => bK x28 (wK (callK E 177 [r0, r1, r2, r13, r4] h27) fun x29 h30 => i1 x29 r2 r3 r10 r11 h30) (wK (callK E 178 [r0, r1, r2, r13, r4] h27) fun x31 h32 => vK (v_ext 0 x31) fun x33 => vK (v_ext 1 x31) fun x34 => vK (v_sub x33 r1) fun x35 => vK (v_sub r2 x33) fun x36 => vK (v_quo r12 (ii 8)) fun x37 => vK (v_lss x35 x36) fun x38 => bK x38 (vK (v_geq x35 x37) fun x39 => wK (callK E 122 [r0, r1, x33, r3, r4] h32) fun x40 h41 => vK (v_add x33 (ii 1)) fun x42 => i1 x42 r2 r3 x39 x34 h41) (vK (v_geq x36 x37) fun x43 => vK (v_add x33 (ii 1)) fun x44 => wK (callK E 122 [r0, x44, r2, r3, r4] h32) fun x45 h46 => i1 r1 x33 r3 x43 x34 h46))
def J122_3 (i1 : DV → DV → DV → DV → DV → H → Ans) (r0 r1 r2 r3 r4 r10 r11 r12 r13 r14 : DV) (h : H) : Ans := gdK r10 true (fun kk => kk r11 h) h fun x1 h2 => vK (v_pick r10 x1 (.bool false)) fun x3 => gdK x3 true (fun kk => kk r14 h2) h2 fun x4 h5 => gdK x3 true (fun kk => vK (v_eql x4 (ii 1)) fun v => kk v h5) h5 fun x6 h7 => vK (v_pick x3 x6 (.bool false)) fun x8 => bK x8 (wK (callK E 176 [r0, r1, r2, r4] h7) fun x9 h10 => bK x9 (some ((.tup []), h10)) (J122_4 E i1 r0 r1 r2 r3 r4 r10 r11 r12 r13 h10)) (J122_4 E i1 r0 r1 r2 r3 r4 r10 r11 r12 r13 h7)
def J122_2 (i1 : DV → DV → DV → DV → DV → H → Ans) (r0 r1 r2 r3 r4 r10 r11 r12 : DV) (h : H) : Ans := wK (callK E 174 [r0, r1, r2, r4] h) fun x1 h2 => vK (v_ext 0 x1) fun x3 => vK (v_ext 1 x1) fun x4 => vK (v_eql x4 (ii 2)) fun x5 => bK x5 (wK (callK E 175 [r0, r1, r2, r4] h2) fun x6 h7 => vK (v_sub r2 (ii 1)) fun x8 => vK (v_sub x3 r1) fun x9 => vK (v_sub x8 x9) fun x10 => J122_3 E i1 r0 r1 r2 r3 r4 r10 r11 r12 x10 (ii 1) h7) (J122_3 E i1 r0 r1 r2 r3 r4 r10 r11 r12 x3 x4 h2)
def B122_1 (r0 r4 : DV) (i1 : DV → DV → DV → DV → DV → H → Ans) (r1 r2 r3 r10 r11 : DV) (h : H) : Ans := vK (v_sub r2 r1) fun x1 => vK (v_leq x1 (ii 12)) fun x2 => bK x2 (wK (callK E 171 [r0, r1, r2, r4] h) fun x3 h4 => some ((.tup []), h4)) (vK (v_eql r3 (ii 0)) fun x5 => bK x5 (wK (callK E 172 [r0, r1, r2, r4] h) fun x6 h7 => some ((.tup []), h7)) (vK (v_not r10) fun x8 => bK x8 (wK (callK E 173 [r0, r1, r2, r4] h) fun x9 h10 => vK (v_sub r3 (ii 1)) fun x11 => J122_2 E i1 r0 r1 r2 x11 r4 r10 r11 x1 h10) (J122_2 E i1 r0 r1 r2 r3 r4 r10 r11 x1 h)))
def L122_1 (r0 r4 : DV) (n : Nat) : DV → DV → DV → DV → DV → H → Ans := Nat.rec (motive := fun _ => DV → DV → DV → DV → DV → H → Ans) (fun _ _ _ _ _ _ => none) (fun _ i => B122_1 E r0 r4 i) n
def J122_0 (r0 r1 r2 r3 r4 : DV) (h : H) : Ans := L122_1 E r0 r4 FUEL r1 r2 r3 (.bool true) (.bool true) h
abbrev K122_5 (n1 : Nat) : KT2 (DV × H) := (thenK3 (fun σ h => (L122_1 E (σ p0) (σ p4) n1) (σ p1) (σ p2) (σ p3) (σ p10) (σ p11) h) (blockK3 0 (retK3 D122.res)))
theorem I122_4 (n1 : Nat) : Is E C122_4 (blockK3 1 (K122_5 E n1)) (fun σ h => J122_4 E (L122_1 E (σ p0) (σ p4) n1) (σ p0) (σ p1) (σ p2) (σ p3) (σ p4) (σ p10) (σ p11) (σ p12) (σ p13) h) := Is.rf
theorem I122_3 (n1 : Nat) : Is E C122_3 (blockK3 1 (K122_5 E n1)) (fun σ h => J122_3 E (L122_1 E (σ p0) (σ p4) n1) (σ p0) (σ p1) (σ p2) (σ p3) (σ p4) (σ p10) (σ p11) (σ p12) (σ p13) (σ p14) h) := Is.aq (Is.sq (I122_4 E n1) (Is.leaf _))
theorem I122_2 (n1 : Nat) : Is E C122_2 (blockK3 1 (K122_5 E n1)) (fun σ h => J122_2 E (L122_1 E (σ p0) (σ p4) n1) (σ p0) (σ p1) (σ p2) (σ p3) (σ p4) (σ p10) (σ p11) (σ p12) h) := Is.aq (Is.sq (Is.sq (I122_3 E n1) (Is.leaf _)) (Is.leaf _))
theorem I122_1 : Is E C122_1 (blockK3 0 (retK3 D122.res)) (fun σ h => L122_1 E (σ p0) (σ p4) FUEL (σ p1) (σ p2) (σ p3) (σ p10) (σ p11) h) := Is.lp (fun n1 σ h => L122_1 E (σ p0) (σ p4) n1 (σ p1) (σ p2) (σ p3) (σ p10) (σ p11) h) fun n1 => Is.aq (Is.bk (Is.sq (Is.sq (Is.sq (Is.sq (I122_2 E n1) (Is.leaf _)) (Is.leaf _)) (Is.leaf _)) (Is.leaf _)))
theorem I122_0 : iB5 E D122 (J122_0 E) := Is.aq (Is.sq (Is.sq (Is.bk (I122_1 E)) (Is.leaf _)) (Is.leaf _))
def S122 : Fun := fA5 (J122_0 E)
theorem S122_eq : SQ D122 S122 := eB5 I122_0
def D123 := cm 123
def J123_0 (r0 : DV) (h : H) : Ans := bK (.bool false) (vK (v_conv .u32 r0) fun x1 => wK (callK E 179 [x1] h) fun x2 h3 => some (x2, h3)) (wK (callK E 180 [r0] h) fun x4 h5 => some (x4, h5))
theorem I123_0 : iB1 E D123 (J123_0 E) := Is.rf
def S123 : Fun := fA1 (J123_0 E)
theorem S123_eq : SQ D123 S123 := eB1 I123_0
def D124 := cm 124
def J124_0 (E : Env) (r0 : DV) (h : H) : Ans := vK (v_neq r0 r0) fun x1 => some (x1, h)
theorem I124_0 : iB1 E D124 (J124_0 E) := Is.rf
def S124 : Fun := fA1 (J124_0 E)
theorem S124_eq : SQ D124 S124 := eB1 I124_0
def D127 := cm 127
def J127_0 (E : Env) (h : H) : Ans := vK (v_bld [.nils] []) fun x1 => n_box x1 h fun x2 h3 => some (x2, h3)
theorem I127_0 : iB0 E D127 (J127_0 E) := Is.rf
def S127 : Fun := fA0 (J127_0 E)
theorem S127_eq : SQ D127 S127 := eB0 I127_0
def D130 := cm 130
def C130_1 := cr (cr (cr (cr D130.body)))
def C130_2 := cl (cr (cl (cr (cr (cr D130.body)))))
def J130_1 (E : Env) (r9 : DV) (h : H) : Ans := vK (v_b2s h.get r9) fun x1 => some ((.tup [x1, (ii 0)]), h)
def B130_2 (r30 r31 : DV) (i2 : DV → DV → H → Ans) (r9 r32 : DV) (h : H) : Ans := vK (v_lss r32 r31) fun x1 => bK x1 (vK (v_iaS 1 r30 r32) fun x2 => vK (v_ld h.get x2) fun x3 => wK (dAppendF 1 1 r9 x3 h) fun x4 h5 => vK (v_add r32 (ii 1)) fun x6 => i2 x4 x6 h5) (J130_1 E r9 h)
def L130_2 (r30 r31 : DV) (n : Nat) : DV → DV → H → Ans := Nat.rec (motive := fun _ => DV → DV → H → Ans) (fun _ _ _ => none) (fun _ i => B130_2 E r30 r31 i) n
def J130_0 (r0 r1 r2 : DV) (h : H) : Ans := wK (callK E 190 [r0, r1, r2, (.bool true)] h) fun x1 h2 => vK (v_neq x1 (ii 0)) fun x3 => bK x3 (some ((.tup [(.str []), x1]), h2)) (vK (v_mul r2 (ii 64)) fun x4 => n_mks 1 1 (.int .u8 (.ofNat 0)) (ii 0) x4 h2 fun x5 h6 => vK (v_nilchk r0) fun x7 => vK (v_fa 0 x7) fun x8 => vK (v_ld h6.get x8) fun x9 => vK (v_add r1 r2) fun x10 => vK (v_slL 1 x9 (some r1) (some x10)) fun x11 => vK (v_lenL x11) fun x12 => L130_2 E x11 x12 FUEL x5 (ii 0) h6)
theorem I130_1 : Is E C130_1 (retK3 D130.res) (fun σ h => J130_1 E (σ p9) h) := Is.rf
abbrev K130_3 : KT2 (DV × H) := (thenK3 (fun σ h => J130_1 E (σ p9) h) (retK3 D130.res))
theorem I130_2 : Is E C130_2 (blockK3 0 (K130_3 E)) (fun σ h => L130_2 E (σ p30) (σ p31) FUEL (σ p9) (σ p32) h) := Is.lp (fun n2 σ h => L130_2 E (σ p30) (σ p31) n2 (σ p9) (σ p32) h) fun n2 => Is.aq (Is.leaf _)
theorem I130_0 : iB3 E D130 (J130_0 E) := Is.aq (Is.sq (Is.sq (Is.sq (Is.sq (I130_1 E) (Is.sq (Is.bk (I130_2 E)) (Is.leaf _))) (Is.leaf _)) (Is.leaf _)) (Is.leaf _))
def S130 : Fun := fA3 (J130_0 E)
theorem S130_eq : SQ D130 S130 := eB3 I130_0
def D131 := cm 131
def J131_0 (r0 : DV) (h : H) : Ans := n_alc 4 4 (.list [(.bool false), (ii 0), (ii 0), (ii 0)]) h fun x1 h2 => vK (v_slS r0 none (some (ii 64))) fun x3 => vK (v_slS r0 (some (ii 64)) none) fun x4 => vK (v_slS x3 (some (ii 4)) none) fun x5 => vK (v_slS x3 (some (ii 8)) none) fun x6 => vK (v_slS x3 (some (ii 12)) none) fun x7 => n_alc 4 4 (.list [(.bool false), (ii 0), (ii 0), (ii 0)]) h2 fun x8 h9 => wK (callK E 191 [x5] h9) fun x10 h11 => wK (callK E 191 [x6] h11) fun x12 h13 => vK (v_bld [(ii 0), (ii 0)] [(0, 1, x10), (1, 1, x12)]) fun x14 => wK (callK E 191 [x7] h13) fun x15 h16 => vK (v_bld [(.bool false), (ii 0), (ii 0), (ii 0)] [(0, 1, (.bool true)), (1, 2, x14), (3, 1, x15)]) fun x17 => wK (dStF 4 x8 x17 h16) fun x18 h19 => vK (v_fa 1 x8) fun x20 => vK (v_ldN 2 h19.get x20) fun x21 => wK (callK E 192 [x21] h19) fun x22 h23 => vK (v_not x22) fun x24 => gdK x24 false (fun kk => vK (v_fa 3 x8) fun v => kk v h23) h23 fun x25 h26 => gdK x24 false (fun kk => vK (v_ld h26.get x25) fun v => kk v h26) h26 fun x27 h28 => gdK x24 false (fun kk => vK (v_gtr x27 (ii 512)) fun v => kk v h28) h28 fun x29 h30 => vK (v_pick x24 (.bool true) x29) fun x31 => gdK x31 false (fun kk => vK (v_fa 1 x8) fun v => kk v h30) h30 fun x32 h33 => gdK x31 false (fun kk => vK (v_ldN 2 h33.get x32) fun v => kk v h33) h33 fun x34 h35 => gdK x31 false (fun kk => kk x4 h35) h35 fun x36 h37 => gdK x31 false (fun kk => vK (v_fa 3 x8) fun v => kk v h37) h37 fun x38 h39 => gdK x31 false (fun kk => vK (v_ld h39.get x38) fun v => kk v h39) h39 fun x40 h41 => gdK x31 false (fun kk => vK (v_slS x36 none (some x40)) fun v => kk v h41) h41 fun x42 h43 => gdK x31 false (fun kk => kk x3 h43) h43 fun x44 h45 => gdK x31 false (fun kk => wK (callK E 193 [x34, x42] h45) kk) h45 fun x46 h47 => gdK x31 false (fun kk => vK (v_neq x46 x44) fun v => kk v h47) h47 fun x48 h49 => vK (v_pick x31 (.bool true) x48) fun x50 => bK x50 (vK (v_bld [(.bool false), (ii 0), (ii 0), (ii 0)] []) fun x51 => wK (dStF 4 x1 x51 h49) fun x52 h53 => vK (v_ldN 4 h53.get x1) fun x54 => some (x54, h53)) (vK (v_ldN 4 h49.get x8) fun x55 => wK (dStF 4 x1 x55 h49) fun x56 h57 => vK (v_ldN 4 h57.get x1) fun x58 => some (x58, h57))
theorem I131_0 : iB1 E D131 (J131_0 E) := Is.rf
def S131 : Fun := fA1 (J131_0 E)
theorem S131_eq : SQ D131 S131 := eB1 I131_0
def D133 := cm 133
def J133_0 (r0 r1 : DV) (h : H) : Ans := vK (v_lenL r0) fun x1 => vK (v_geq x1 (ii 2)) fun x2 => gdK x2 true (fun kk => kk r0 h) h fun x3 h4 => gdK x2 true (fun kk => vK (v_lenL x3) fun v => kk v h4) h4 fun x5 h6 => gdK x2 true (fun kk => vK (v_leq x5 (ii 8)) fun v => kk v h6) h6 fun x7 h8 => vK (v_pick x2 x7 (.bool false)) fun x9 => gdK x9 true (fun kk => kk r0 h8) h8 fun x10 h11 => gdK x9 true (fun kk => kk r1 h11) h11 fun x12 h13 => gdK x9 true (fun kk => n_bsl 2 1 [.nils] [(0, 1, x10), (1, 1, x12)] h13 kk) h13 fun x14 h15 => gdK x9 true (fun kk => wK (callK E 196 [x14] h15) kk) h15 fun x16 h17 => vK (v_pick x9 x16 (.bool false)) fun x18 => some (x18, h17)
theorem I133_0 : iB2 E D133 (J133_0 E) := Is.rf
def S133 : Fun := fA2 (J133_0 E)
theorem S133_eq : SQ D133 S133 := eB2 I133_0
def D134 := cm 134
def J134_0 (E : Env) (r0 : DV) (h : H) : Ans := vK (v_lenL r0) fun x1 => n_mks 1 8 (ii 0) x1 x1 h fun x2 h3 => wK (dCopyF 1 x2 r0 h3) fun x4 h5 => some (x2, h5)
theorem I134_0 : iB1 E D134 (J134_0 E) := Is.rf
def S134 : Fun := fA1 (J134_0 E)
theorem S134_eq : SQ D134 S134 := eB1 I134_0
def D135 := cm 135
def J135_0 (r0 r1 r2 : DV) (h : H) : Ans := wK (callK E 138 [r0, r1] h) fun x1 h2 => vK (v_ext 0 x1) fun x3 => vK (v_ext 1 x1) fun x4 => n_alc 2 2 (.list [.nilp, (.str [])]) h2 fun x5 h6 => wK (dStF 2 x5 x3 h6) fun x7 h8 => vK (v_neq x4 (ii 0)) fun x9 => bK x9 (some (x4, h8)) (vK (v_ldN 2 h8.get x5) fun x10 => wK (callK E 143 [x10] h8) fun x11 h12 => bK x11 (some ((ii 6), h12)) (wK (callK E 197 [r0] h12) fun x13 h14 => vK (v_eql x13 (ii 0)) fun x15 => bK x15 (some ((ii 5), h14)) (vK (v_nilchk r0) fun x16 => vK (v_fa 512 x16) fun x17 => vK (v_ld h14.get x17) fun x18 => vK (v_add x18 (ii 1)) fun x19 => vK (v_nilchk r0) fun x20 => vK (v_fa 512 x20) fun x21 => wK (dStF 1 x21 x19 h14) fun x22 h23 => vK (v_nilchk r0) fun x24 => vK (v_fa 512 x24) fun x25 => vK (v_ld h23.get x25) fun x26 => vK (v_bld [(ii 0), .nili] [(0, 1, x26), (1, 1, r2)]) fun x27 => vK (v_nilchk r0) fun x28 => vK (v_fa 0 x28) fun x29 => vK (v_iaA 256 2 x29 x13) fun x30 => wK (dStF 2 x30 x27 h23) fun x31 h32 => vK (v_fa 0 x5) fun x33 => vK (v_ld h32.get x33) fun x34 => vK (v_fa 1 x5) fun x35 => vK (v_ld h32.get x35) fun x36 => wK (callK E 144 [x34, x36, x13] h32) fun x37 h38 => some ((ii 0), h38))))
theorem I135_0 : iB3 E D135 (J135_0 E) := Is.rf
def S135 : Fun := fA3 (J135_0 E)
theorem S135_eq : SQ D135 S135 := eB3 I135_0
def D138 := cm 138
def J138_0 (r0 r1 : DV) (h : H) : Ans := n_alc 2 2 (.list [.nilp, (.str [])]) h fun x1 h2 => vK (v_eqv .ptr false h2.get r0 .nilp) fun x3 => bK x3 (vK (v_bld [.nilp, (.str [])] []) fun x4 => wK (dStF 2 x1 x4 h2) fun x5 h6 => vK (v_ldN 2 h6.get x1) fun x7 => some ((.tup [x7, (ii 1)]), h6)) (wK (callK E 198 [r1] h2) fun x8 h9 => vK (v_ext 0 x8) fun x10 => vK (v_ext 1 x8) fun x11 => vK (v_neq x11 (ii 0)) fun x12 => gdK x12 false (fun kk => kk x10 h9) h9 fun x13 h14 => gdK x12 false (fun kk => vK (v_lenL x13) fun v => kk v h14) h14 fun x15 h16 => gdK x12 false (fun kk => vK (v_eql x15 (ii 0)) fun v => kk v h16) h16 fun x17 h18 => vK (v_pick x12 (.bool true) x17) fun x19 => bK x19 (vK (v_bld [.nilp, (.str [])] []) fun x20 => wK (dStF 2 x1 x20 h18) fun x21 h22 => vK (v_ldN 2 h22.get x1) fun x23 => some ((.tup [x23, (ii 15)]), h22)) (vK (v_lenL x10) fun x24 => vK (v_sub x24 (ii 1)) fun x25 => vK (v_slL 1 x10 none (some x25)) fun x26 => wK (callK E 199 [r0, x26] h18) fun x27 h28 => vK (v_ext 0 x27) fun x29 => vK (v_ext 1 x27) fun x30 => vK (v_neq x30 (ii 0)) fun x31 => bK x31 (vK (v_bld [.nilp, (.str [])] []) fun x32 => wK (dStF 2 x1 x32 h28) fun x33 h34 => vK (v_ldN 2 h34.get x1) fun x35 => some ((.tup [x35, x30]), h34)) (wK (callK E 140 [r0, x29] h28) fun x36 h37 => vK (v_eqv .ptr false h37.get x36 .nilp) fun x38 => bK x38 (vK (v_bld [.nilp, (.str [])] []) fun x39 => wK (dStF 2 x1 x39 h37) fun x40 h41 => vK (v_ldN 2 h41.get x1) fun x42 => some ((.tup [x42, (ii 13)]), h41)) (vK (v_iaS 1 x10 x25) fun x43 => vK (v_ld h37.get x43) fun x44 => vK (v_bld [.nilp, (.str [])] [(0, 1, x36), (1, 1, x44)]) fun x45 => wK (dStF 2 x1 x45 h37) fun x46 h47 => vK (v_ldN 2 h47.get x1) fun x48 => some ((.tup [x48, (ii 0)]), h47)))))
theorem I138_0 : iB2 E D138 (J138_0 E) := Is.rf
def S138 : Fun := fA2 (J138_0 E)
theorem S138_eq : SQ D138 S138 := eB2 I138_0
def D140 := cm 140
def J140_0 (E : Env) (r0 r1 : DV) (h : H) : Ans := vK (v_nilchk r0) fun x1 => vK (v_fa 0 x1) fun x2 => vK (v_iaA 256 2 x2 r1) fun x3 => vK (v_fa 1 x3) fun x4 => vK (v_ld h.get x4) fun x5 => vK (v_tas 248 (.agg [.nilp]) true x5) fun x6 => vK (v_ext 0 x6) fun x7 => vK (v_ext 1 x6) fun x8 => n_alc 1 1 (.list [.nilp]) h fun x9 h10 => wK (dStF 1 x9 x7 h10) fun x11 h12 => vK (v_not x8) fun x13 => bK x13 (some (.nilp, h12)) (vK (v_fa 0 x9) fun x14 => vK (v_ld h12.get x14) fun x15 => some (x15, h12))
theorem I140_0 : iB2 E D140 (J140_0 E) := Is.rf
def S140 : Fun := fA2 (J140_0 E)
theorem S140_eq : SQ D140 S140 := eB2 I140_0
def D143 := cm 143
def J143_0 (r0 : DV) (h : H) : Ans := n_box r0 h fun x1 h2 => vK (v_fa 0 x1) fun x3 => vK (v_ld h2.get x3) fun x4 => vK (v_fa 1 x1) fun x5 => vK (v_ld h2.get x5) fun x6 => wK (callK E 203 [x4, x6] h2) fun x7 h8 => vK (v_ext 0 x7) fun x9 => vK (v_ext 1 x7) fun x10 => vK (v_eql x10 (ii 0)) fun x11 => some (x11, h8)
theorem I143_0 : iB1 E D143 (J143_0 E) := Is.rf
def S143 : Fun := fA1 (J143_0 E)
theorem S143_eq : SQ D143 S143 := eB1 I143_0
def D144 := cm 144
def J144_0 (r0 r1 r2 : DV) (h : H) : Ans := vK (v_eqv .ptr false h.get r0 .nilp) fun x1 => gdK x1 false (fun kk => kk r2 h) h fun x2 h3 => gdK x1 false (fun kk => vK (v_lss x2 (ii 1)) fun v => kk v h3) h3 fun x4 h5 => vK (v_pick x1 (.bool true) x4) fun x6 => gdK x6 false (fun kk => kk r2 h5) h5 fun x7 h8 => gdK x6 false (fun kk => vK (v_geq x7 (ii 256)) fun v => kk v h8) h8 fun x9 h10 => vK (v_pick x6 (.bool true) x9) fun x11 => bK x11 (some ((ii 1), h10)) (wK (callK E 204 [r1] h10) fun x12 h13 => vK (v_not x12) fun x14 => bK x14 (some ((ii 15), h13)) (wK (callK E 200 [r0, r1] h13) fun x15 h16 => vK (v_ext 0 x15) fun x17 => vK (v_ext 1 x15) fun x18 => bK x18 (some ((ii 6), h16)) (vK (v_nilchk r0) fun x19 => vK (v_fa 0 x19) fun x20 => vK (v_ld h16.get x20) fun x21 => vK (v_bld [(.str []), (ii 0)] [(0, 1, r1), (1, 1, r2)]) fun x22 => n_bsl 1 2 [(.str []), (ii 0)] [(0, 2, x22)] h16 fun x23 h24 => wK (callK E 205 [x21, x17, x23] h24) fun x25 h26 => vK (v_nilchk r0) fun x27 => vK (v_fa 0 x27) fun x28 => wK (dStF 1 x28 x25 h26) fun x29 h30 => some ((ii 0), h30))))
theorem I144_0 : iB3 E D144 (J144_0 E) := Is.rf
def S144 : Fun := fA3 (J144_0 E)
theorem S144_eq : SQ D144 S144 := eB3 I144_0
def D147 := cm 147
def J147_0 (r0 r1 : DV) (h : H) : Ans := vK (v_lss r1 (ii 0)) fun x1 => gdK x1 false (fun kk => kk r1 h) h fun x2 h3 => gdK x1 false (fun kk => vK (v_gtr x2 (ii 65536)) fun v => kk v h3) h3 fun x4 h5 => vK (v_pick x1 (.bool true) x4) fun x6 => bK x6 (some ((.tup [(.str []), (ii 1)]), h5)) (vK (v_lenS r0) fun x7 => vK (v_gtr x7 r1) fun x8 => bK x8 (some ((.tup [(.str []), (ii 2)]), h5)) (vK (v_lenS r0) fun x9 => vK (v_sub r1 x9) fun x10 => wK (callK E 207 [x10] h5) fun x11 h12 => vK (v_add r0 x11) fun x13 => some ((.tup [x13, (ii 0)]), h12)))
theorem I147_0 : iB2 E D147 (J147_0 E) := Is.rf
def S147 : Fun := fA2 (J147_0 E)
theorem S147_eq : SQ D147 S147 := eB2 I147_0
def D153 := cm 153
def J153_0 (E : Env) (r0 : DV) (h : H) : Ans := vK (v_mx r0 (ii 16)) fun x1 => vK (v_mn x1 (ii 65536)) fun x2 => vK (v_bld [(ii 0), .nils, .nils] [(0, 1, x2)]) fun x3 => n_box x3 h fun x4 h5 => some (x4, h5)
theorem I153_0 : iB1 E D153 (J153_0 E) := Is.rf
def S153 : Fun := fA1 (J153_0 E)
theorem S153_eq : SQ D153 S153 := eB1 I153_0
def D154 := cm 154
def J154_0 (E : Env) (r0 : DV) (h : H) : Ans := vK (v_eqv .ptr false h.get r0 .nilp) fun x1 => bK x1 (some ((ii 0), h)) (vK (v_nilchk r0) fun x2 => vK (v_fa 1 x2) fun x3 => vK (v_ld h.get x3) fun x4 => vK (v_lenL x4) fun x5 => some (x5, h))
theorem I154_0 : iB1 E D154 (J154_0 E) := Is.rf
def S154 : Fun := fA1 (J154_0 E)
theorem S154_eq : SQ D154 S154 := eB1 I154_0
def D155 := cm 155
def J155_0 (E : Env) (r0 : DV) (h : H) : Ans := n_box r0 h fun x1 h2 => vK (v_fa 0 x1) fun x3 => vK (v_ld h2.get x3) fun x4 => vK (v_geq x4 (ii 1)) fun x5 => gdK x5 true (fun kk => vK (v_fa 0 x1) fun v => kk v h2) h2 fun x6 h7 => gdK x5 true (fun kk => vK (v_ld h7.get x6) fun v => kk v h7) h7 fun x8 h9 => gdK x5 true (fun kk => vK (v_leq x8 (ii 3)) fun v => kk v h9) h9 fun x10 h11 => vK (v_pick x5 x10 (.bool false)) fun x12 => gdK x12 true (fun kk => vK (v_fa 1 x1) fun v => kk v h11) h11 fun x13 h14 => gdK x12 true (fun kk => vK (v_ld h14.get x13) fun v => kk v h14) h14 fun x15 h16 => gdK x12 true (fun kk => vK (v_geq x15 (ii 0)) fun v => kk v h16) h16 fun x17 h18 => vK (v_pick x12 x17 (.bool false)) fun x19 => gdK x19 true (fun kk => vK (v_fa 1 x1) fun v => kk v h18) h18 fun x20 h21 => gdK x19 true (fun kk => vK (v_ld h21.get x20) fun v => kk v h21) h21 fun x22 h23 => gdK x19 true (fun kk => vK (v_lss x22 (ii 256)) fun v => kk v h23) h23 fun x24 h25 => vK (v_pick x19 x24 (.bool false)) fun x26 => gdK x26 true (fun kk => vK (v_fa 2 x1) fun v => kk v h25) h25 fun x27 h28 => gdK x26 true (fun kk => vK (v_ld h28.get x27) fun v => kk v h28) h28 fun x29 h30 => gdK x26 true (fun kk => vK (v_geq x29 (ii 0)) fun v => kk v h30) h30 fun x31 h32 => vK (v_pick x26 x31 (.bool false)) fun x33 => gdK x33 true (fun kk => vK (v_fa 2 x1) fun v => kk v h32) h32 fun x34 h35 => gdK x33 true (fun kk => vK (v_ld h35.get x34) fun v => kk v h35) h35 fun x36 h37 => gdK x33 true (fun kk => vK (v_lss x36 (ii 2147483648)) fun v => kk v h37) h37 fun x38 h39 => vK (v_pick x33 x38 (.bool false)) fun x40 => some (x40, h39)
theorem I155_0 : iB1 E D155 (J155_0 E) := Is.rf
def S155 : Fun := fA1 (J155_0 E)
theorem S155_eq : SQ D155 S155 := eB1 I155_0
def D156 := cm 156
def J156_0 (r0 : DV) (h : H) : Ans := vK (v_nilchk r0) fun x1 => vK (v_fa 0 x1) fun x2 => vK (v_ld h.get x2) fun x3 => vK (v_nilchk r0) fun x4 => vK (v_fa 1 x4) fun x5 => vK (v_ld h.get x5) fun x6 => vK (v_lenL x6) fun x7 => vK (v_sub x3 x7) fun x8 => vK (v_nilchk r0) fun x9 => vK (v_fa 2 x9) fun x10 => vK (v_ld h.get x10) fun x11 => vK (v_lenL x11) fun x12 => vK (v_add x12 (ii 1)) fun x13 => wK (callK E 210 [x13] h) fun x14 h15 => rK (rcK (v_ld h15.get x5) x6) <| rK (rcK (v_ld h15.get x2) x3) <| vK (v_sub x8 x14) fun x16 => some (x16, h15)
theorem I156_0 : iB1 E D156 (J156_0 E) := Is.rf
def S156 : Fun := fA1 (J156_0 E)
theorem S156_eq : SQ D156 S156 := eB1 I156_0
def D157 := cm 157
def J157_0 (r0 : DV) (h : H) : Ans := wK (callK E 212 [r0] h) fun x1 h2 => wK (callK E 211 [x1] h2) fun x3 h4 => vK (v_add r0 x3) fun x5 => some (x5, h4)
theorem I157_0 : iB1 E D157 (J157_0 E) := Is.rf
def S157 : Fun := fA1 (J157_0 E)
theorem S157_eq : SQ D157 S157 := eB1 I157_0
def D160 := cm 160
def C160_1 := cr (cr (cr D160.body))
def C160_2 := cl (cr (cl (cr (cl (cr (cr D160.body))))))
def C160_3 := cr (cr (cr (cl C160_2)))
def J160_1 (E : Env) (r5 : DV) (h : H) : Ans := some (r5, h)
def J160_3 (E : Env) (i2 : DV → DV → H → Ans) (r5 r15 : DV) (h : H) : Ans := vK (v_add r15 (ii 1)) fun x1 => i2 r5 x1 h
def B160_2 (r1 r13 r14 : DV) (i2 : DV → DV → H → Ans) (r5 r15 : DV) (h : H) : Ans := vK (v_lss r15 r14) fun x1 => bK x1 (vK (v_iaS 6 r13 r15) fun x2 => vK (v_ldN 6 h.get x2) fun x3 => n_alc 6 6 (.list [(ii 0), (ii 0), (ii 0), (ii 0), (ii 0), .nils]) h fun x4 h5 => wK (dStF 6 x4 x3 h5) fun x6 h7 => vK (v_ldN 6 h7.get x4) fun x8 => wK (c_val E r1 [x8] h7) fun x9 h10 => bK x9 (vK (v_fa 0 x4) fun x11 => vK (v_ld h10.get x11) fun x12 => n_bsl 1 1 [(ii 0)] [(0, 1, x12)] h10 fun x13 h14 => wK (dAppendF 1 8 r5 x13 h14) fun x15 h16 => J160_3 E i2 x15 r15 h16) (J160_3 E i2 r5 r15 h10)) (J160_1 E r5 h)
def L160_2 (r1 r13 r14 : DV) (n : Nat) : DV → DV → H → Ans := Nat.rec (motive := fun _ => DV → DV → H → Ans) (fun _ _ _ => none) (fun _ i => B160_2 E r1 r13 r14 i) n
def J160_0 (r0 r1 : DV) (h : H) : Ans := vK (v_eqv .ptr true h.get r0 .nilp) fun x1 => bK x1 (vK (v_nilchk r0) fun x2 => vK (v_fa 0 x2) fun x3 => vK (v_ld h.get x3) fun x4 => vK (v_lenL x4) fun x5 => L160_2 E r1 x4 x5 FUEL .nils (ii 0) h) (J160_1 E .nils h)
theorem I160_1 : Is E C160_1 (retK3 D160.res) (fun σ h => J160_1 E (σ p5) h) := Is.rf
abbrev K160_4 : KT2 (DV × H) := (thenK3 (fun σ h => J160_1 E (σ p5) h) (retK3 D160.res))
abbrev K160_5 (n2 : Nat) : KT2 (DV × H) := (thenK3 (fun σ h => (L160_2 E (σ p1) (σ p13) (σ p14) n2) (σ p5) (σ p15) h) (blockK3 0 (K160_4 E)))
theorem I160_3 (n2 : Nat) : Is E C160_3 (K160_5 E n2) (fun σ h => J160_3 E (L160_2 E (σ p1) (σ p13) (σ p14) n2) (σ p5) (σ p15) h) := Is.rf
theorem I160_2 : Is E C160_2 (blockK3 0 (K160_4 E)) (fun σ h => L160_2 E (σ p1) (σ p13) (σ p14) FUEL (σ p5) (σ p15) h) := Is.lp (fun n2 σ h => L160_2 E (σ p1) (σ p13) (σ p14) n2 (σ p5) (σ p15) h) fun n2 => Is.aq (Is.sq (Is.sq (Is.sq (I160_3 E n2) (Is.leaf _)) (Is.leaf _)) (Is.leaf _))
theorem I160_0 : iB2 E D160 (J160_0 E) := Is.aq (Is.sq (Is.sq (Is.sq (I160_1 E) (Is.sq (Is.cd (Is.sq (Is.bk (I160_2 E)) (Is.leaf _)) (Is.leaf _)) (Is.leaf _))) (Is.leaf _)) (Is.leaf _))
def S160 : Fun := fA2 (J160_0 E)
theorem S160_eq : SQ D160 S160 := eB2 I160_0
def D161 := cm 161
def J161_0 (E : Env) (r0 r1 : DV) (h : H) : Ans := n_box r0 h fun x1 h2 => vK (v_fa 1 x1) fun x3 => vK (v_ld h2.get x3) fun x4 => vK (v_ld h2.get r1) fun x5 => vK (v_eql x4 x5) fun x6 => some (x6, h2)
theorem I161_0 : iB2 E D161 (J161_0 E) := Is.rf
def S161 : Fun := fA2 (J161_0 E)
theorem S161_eq : SQ D161 S161 := eB2 I161_0
def D171 := cm 171
def C171_1 := cl (cr D171.body)
def C171_2 := cr (cr (cl C171_1))
def C171_3 := cl (cr (cl (cl (cr (cl C171_1)))))
def J171_2 (E : Env) (i1 : DV → H → Ans) (r8 : DV) (h : H) : Ans := vK (v_add r8 (ii 1)) fun x1 => i1 x1 h
def B171_3 (i1 : DV → H → Ans) (r0 r1 r3 r8 : DV) (i3 : DV → H → Ans) (r9 : DV) (h : H) : Ans := vK (v_gtr r9 r1) fun x1 => gdK x1 true (fun kk => kk r3 h) h fun x2 h3 => gdK x1 true (fun kk => kk r0 h3) h3 fun x4 h5 => gdK x1 true (fun kk => kk r9 h5) h5 fun x6 h7 => gdK x1 true (fun kk => vK (v_iaS 5 x4 x6) fun v => kk v h7) h7 fun x8 h9 => gdK x1 true (fun kk => vK (v_ldN 5 h9.get x8) fun v => kk v h9) h9 fun x10 h11 => gdK x1 true (fun kk => kk r0 h11) h11 fun x12 h13 => gdK x1 true (fun kk => kk r9 h13) h13 fun x14 h15 => gdK x1 true (fun kk => vK (v_sub x14 (ii 1)) fun v => kk v h15) h15 fun x16 h17 => gdK x1 true (fun kk => vK (v_iaS 5 x12 x16) fun v => kk v h17) h17 fun x18 h19 => gdK x1 true (fun kk => vK (v_ldN 5 h19.get x18) fun v => kk v h19) h19 fun x20 h21 => gdK x1 true (fun kk => wK (c_val E x2 [x10, x20] h21) kk) h21 fun x22 h23 => gdK x1 true (fun kk => vK (v_lss x22 (ii 0)) fun v => kk v h23) h23 fun x24 h25 => vK (v_pick x1 x24 (.bool false)) fun x26 => bK x26 (vK (v_sub r9 (ii 1)) fun x27 => vK (v_sub r9 (ii 1)) fun x28 => vK (v_iaS 5 r0 x28) fun x29 => vK (v_ldN 5 h25.get x29) fun x30 => vK (v_iaS 5 r0 r9) fun x31 => vK (v_ldN 5 h25.get x31) fun x32 => vK (v_iaS 5 r0 r9) fun x33 => wK (dStF 5 x33 x30 h25) fun x34 h35 => vK (v_iaS 5 r0 x27) fun x36 => wK (dStF 5 x36 x32 h35) fun x37 h38 => vK (v_sub r9 (ii 1)) fun x39 => i3 x39 h38) (J171_2 E i1 r8 h25)
def L171_3 (i1 : DV → H → Ans) (r0 r1 r3 r8 : DV) (n : Nat) : DV → H → Ans := Nat.rec (motive := fun _ => DV → H → Ans) (fun _ _ => none) (fun _ i => B171_3 E i1 r0 r1 r3 r8 i) n
def B171_1 (r0 r1 r2 r3 : DV) (i1 : DV → H → Ans) (r8 : DV) (h : H) : Ans := vK (v_lss r8 r2) fun x1 => bK x1 (L171_3 E i1 r0 r1 r3 r8 FUEL r8 h) (some ((.tup []), h))
def L171_1 (r0 r1 r2 r3 : DV) (n : Nat) : DV → H → Ans := Nat.rec (motive := fun _ => DV → H → Ans) (fun _ _ => none) (fun _ i => B171_1 E r0 r1 r2 r3 i) n
def J171_0 (r0 r1 r2 r3 : DV) (h : H) : Ans := vK (v_add r1 (ii 1)) fun x1 => L171_1 E r0 r1 r2 r3 FUEL x1 h
abbrev K171_4 (n1 : Nat) : KT2 (DV × H) := (thenK3 (fun σ h => (L171_1 E (σ p0) (σ p1) (σ p2) (σ p3) n1) (σ p8) h) (blockK3 0 (retK3 D171.res)))
theorem I171_2 (n1 : Nat) : Is E C171_2 (K171_4 E n1) (fun σ h => J171_2 E (L171_1 E (σ p0) (σ p1) (σ p2) (σ p3) n1) (σ p8) h) := Is.rf
abbrev K171_5 (n1 : Nat) : KT2 (DV × H) := (thenK3 (fun σ h => J171_2 E (L171_1 E (σ p0) (σ p1) (σ p2) (σ p3) n1) (σ p8) h) (K171_4 E n1))
theorem I171_3 (n1 : Nat) : Is E C171_3 (blockK3 2 (blockK3 1 (K171_5 E n1))) (fun σ h => L171_3 E (L171_1 E (σ p0) (σ p1) (σ p2) (σ p3) n1) (σ p0) (σ p1) (σ p3) (σ p8) FUEL (σ p9) h) := Is.lp (fun n3 σ h => L171_3 E (L171_1 E (σ p0) (σ p1) (σ p2) (σ p3) n1) (σ p0) (σ p1) (σ p3) (σ p8) n3 (σ p9) h) fun n3 => Is.aq (Is.leaf _)
theorem I171_1 : Is E C171_1 (blockK3 0 (retK3 D171.res)) (fun σ h => L171_1 E (σ p0) (σ p1) (σ p2) (σ p3) FUEL (σ p8) h) := Is.lp (fun n1 σ h => L171_1 E (σ p0) (σ p1) (σ p2) (σ p3) n1 (σ p8) h) fun n1 => Is.aq (Is.sq (Is.sq (I171_2 E n1) (Is.bk (Is.sq (Is.bk (I171_3 E n1)) (Is.leaf _)))) (Is.leaf _))
theorem I171_0 : iB4 E D171 (J171_0 E) := Is.aq (Is.sq (Is.bk (I171_1 E)) (Is.leaf _))
def S171 : Fun := fA4 (J171_0 E)
theorem S171_eq : SQ D171 S171 := eB4 I171_0
def D172 := cm 172
def C172_1 := cr (cr (cr (cr D172.body)))
def C172_3 := cl (cr C172_1)
def C172_2 := cl (cr (cl (cr (cr (cr D172.body)))))
def B172_3 (r0 r3 r8 r9 : DV) (i3 : DV → H → Ans) (r12 : DV) (h : H) : Ans := vK (v_geq r12 (ii 0)) fun x1 => bK x1 (vK (v_add r8 r12) fun x2 => vK (v_add r8 r12) fun x3 => vK (v_iaS 5 r0 x3) fun x4 => vK (v_ldN 5 h.get x4) fun x5 => vK (v_iaS 5 r0 r8) fun x6 => vK (v_ldN 5 h.get x6) fun x7 => vK (v_iaS 5 r0 r8) fun x8 => wK (dStF 5 x8 x5 h) fun x9 h10 => vK (v_iaS 5 r0 x2) fun x11 => wK (dStF 5 x11 x7 h10) fun x12 h13 => wK (callK E 220 [r0, r9, r12, r8, r3] h13) fun x14 h15 => vK (v_sub r12 (ii 1)) fun x16 => i3 x16 h15) (some ((.tup []), h))
def L172_3 (r0 r3 r8 r9 : DV) (n : Nat) : DV → H → Ans := Nat.rec (motive := fun _ => DV → H → Ans) (fun _ _ => none) (fun _ i => B172_3 E r0 r3 r8 r9 i) n
def J172_1 (r0 r3 r8 r9 r10 : DV) (h : H) : Ans := vK (v_sub r10 (ii 1)) fun x1 => L172_3 E r0 r3 r8 r9 FUEL x1 h
def B172_2 (r0 r3 r8 r9 r10 : DV) (i2 : DV → H → Ans) (r11 : DV) (h : H) : Ans := vK (v_geq r11 (ii 0)) fun x1 => bK x1 (wK (callK E 220 [r0, r11, r10, r8, r3] h) fun x2 h3 => vK (v_sub r11 (ii 1)) fun x4 => i2 x4 h3) (J172_1 E r0 r3 r8 r9 r10 h)
def L172_2 (r0 r3 r8 r9 r10 : DV) (n : Nat) : DV → H → Ans := Nat.rec (motive := fun _ => DV → H → Ans) (fun _ _ => none) (fun _ i => B172_2 E r0 r3 r8 r9 r10 i) n
def J172_0 (r0 r1 r2 r3 : DV) (h : H) : Ans := vK (v_sub r2 r1) fun x1 => vK (v_sub x1 (ii 1)) fun x2 => vK (v_quo x2 (ii 2)) fun x3 => L172_2 E r0 r3 r1 (ii 0) x1 FUEL x3 h
theorem I172_3 : Is E C172_3 (blockK3 2 (retK3 D172.res)) (fun σ h => L172_3 E (σ p0) (σ p3) (σ p8) (σ p9) FUEL (σ p12) h) := Is.lp (fun n3 σ h => L172_3 E (σ p0) (σ p3) (σ p8) (σ p9) n3 (σ p12) h) fun n3 => Is.aq (Is.leaf _)
theorem I172_1 : Is E C172_1 (retK3 D172.res) (fun σ h => J172_1 E (σ p0) (σ p3) (σ p8) (σ p9) (σ p10) h) := Is.aq (Is.sq (Is.bk (I172_3 E)) (Is.leaf _))
abbrev K172_4 : KT2 (DV × H) := (thenK3 (fun σ h => J172_1 E (σ p0) (σ p3) (σ p8) (σ p9) (σ p10) h) (retK3 D172.res))
theorem I172_2 : Is E C172_2 (blockK3 0 (K172_4 E)) (fun σ h => L172_2 E (σ p0) (σ p3) (σ p8) (σ p9) (σ p10) FUEL (σ p11) h) := Is.lp (fun n2 σ h => L172_2 E (σ p0) (σ p3) (σ p8) (σ p9) (σ p10) n2 (σ p11) h) fun n2 => Is.aq (Is.leaf _)
theorem I172_0 : iB4 E D172 (J172_0 E) := Is.aq (Is.sq (Is.sq (Is.sq (Is.sq (I172_1 E) (Is.sq (Is.bk (I172_2 E)) (Is.leaf _))) (Is.leaf _)) (Is.leaf _)) (Is.leaf _))
def S172 : Fun := fA4 (J172_0 E)
theorem S172_eq : SQ D172 S172 := eB4 I172_0
def D173 := cm 173
def C173_1 := cl (cr (cr (cr (cl (cr (cr D173.body))))))
def C173_2 := cr (cr (cl C173_1))
def C173_3 := cr (cr (cl (cl (cr (cl C173_1)))))
def J173_2 (E : Env) (i1 : DV → H → Ans) (r11 : DV) (h : H) : Ans := vK (v_add r11 (ii 1)) fun x1 => i1 x1 h
def J173_3 (i1 : DV → H → Ans) (r0 r1 r11 r12 : DV) (h : H) : Ans := vK (v_add r1 r12) fun x1 => vK (v_add r1 r12) fun x2 => vK (v_iaS 5 r0 x2) fun x3 => vK (v_ldN 5 h.get x3) fun x4 => vK (v_iaS 5 r0 r11) fun x5 => vK (v_ldN 5 h.get x5) fun x6 => vK (v_iaS 5 r0 r11) fun x7 => wK (dStF 5 x7 x4 h) fun x8 h9 => vK (v_iaS 5 r0 x1) fun x10 => wK (dStF 5 x10 x6 h9) fun x11 h12 => J173_2 E i1 r11 h12
def B173_1 (r0 r1 r8 r9 r10 : DV) (i1 : DV → H → Ans) (r11 : DV) (h : H) : Ans := vK (v_quo r8 (ii 4)) fun x1 => vK (v_mul x1 (ii 2)) fun x2 => vK (v_add r1 x2) fun x3 => vK (v_add x3 (ii 1)) fun x4 => vK (v_leq r11 x4) fun x5 => bK x5 (wK (callK E 222 [r9] h) fun x6 h7 => vK (v_sub r10 (.int .u64 (.ofNat 1))) fun x8 => vK (v_and x6 x8) fun x9 => vK (v_conv .i64 x9) fun x10 => vK (v_geq x10 r8) fun x11 => bK x11 (vK (v_sub x10 r8) fun x12 => J173_3 E i1 r0 r1 r11 x12 h7) (J173_3 E i1 r0 r1 r11 x10 h7)) (some ((.tup []), h))
def L173_1 (r0 r1 r8 r9 r10 : DV) (n : Nat) : DV → H → Ans := Nat.rec (motive := fun _ => DV → H → Ans) (fun _ _ => none) (fun _ i => B173_1 E r0 r1 r8 r9 r10 i) n
def J173_0 (r0 r1 r2 : DV) (h : H) : Ans := vK (v_sub r2 r1) fun x1 => vK (v_geq x1 (ii 8)) fun x2 => bK x2 (vK (v_conv .u64 x1) fun x3 => n_alc 1 1 (.list [(.int .u64 (.ofNat 0))]) h fun x4 h5 => wK (dStF 1 x4 x3 h5) fun x6 h7 => wK (callK E 221 [x1] h7) fun x8 h9 => vK (v_quo x1 (ii 4)) fun x10 => vK (v_mul x10 (ii 2)) fun x11 => vK (v_add r1 x11) fun x12 => vK (v_sub x12 (ii 1)) fun x13 => L173_1 E r0 r1 x1 x4 x8 FUEL x13 h9) (some ((.tup []), h))
abbrev K173_4 (n1 : Nat) : KT2 (DV × H) := (thenK3 (fun σ h => (L173_1 E (σ p0) (σ p1) (σ p8) (σ p9) (σ p10) n1) (σ p11) h) (blockK3 0 (retK3 D173.res)))
theorem I173_2 (n1 : Nat) : Is E C173_2 (K173_4 E n1) (fun σ h => J173_2 E (L173_1 E (σ p0) (σ p1) (σ p8) (σ p9) (σ p10) n1) (σ p11) h) := Is.rf
abbrev K173_5 (n1 : Nat) : KT2 (DV × H) := (thenK3 (fun σ h => J173_2 E (L173_1 E (σ p0) (σ p1) (σ p8) (σ p9) (σ p10) n1) (σ p11) h) (K173_4 E n1))
theorem I173_3 (n1 : Nat) : Is E C173_3 (blockK3 1 (K173_5 E n1)) (fun σ h => J173_3 E (L173_1 E (σ p0) (σ p1) (σ p8) (σ p9) (σ p10) n1) (σ p0) (σ p1) (σ p11) (σ p12) h) := Is.rf
theorem I173_1 : Is E C173_1 (blockK3 0 (retK3 D173.res)) (fun σ h => L173_1 E (σ p0) (σ p1) (σ p8) (σ p9) (σ p10) FUEL (σ p11) h) := Is.lp (fun n1 σ h => L173_1 E (σ p0) (σ p1) (σ p8) (σ p9) (σ p10) n1 (σ p11) h) fun n1 => Is.aq (Is.sq (Is.sq (I173_2 E n1) (Is.bk (Is.sq (Is.sq (I173_3 E n1) (Is.leaf _)) (Is.leaf _)))) (Is.leaf _))
theorem I173_0 : iB4 E D173 (fun r0 r1 r2 _ h => J173_0 E r0 r1 r2 h) := Is.aq (Is.sq (Is.sq (Is.cd (Is.sq (Is.sq (Is.sq (Is.bk (I173_1 E)) (Is.leaf _)) (Is.leaf _)) (Is.leaf _)) (Is.leaf _)) (Is.leaf _)) (Is.leaf _))
def S173 : Fun := fA4 (fun r0 r1 r2 _ h => J173_0 E r0 r1 r2 h)
theorem S173_eq : SQ D173 S173 := eB4 I173_0
def D174 := cm 174
def C174_1 := cr (cr (cr (cr (cr (cr (cr D174.body))))))
def C174_2 := cr (cl (cr (cl (cr (cr (cr (cr (cr (cr D174.body)))))))))
def J174_1 (E : Env) (r11 r13 : DV) (h : H) : Ans := vK (v_ld h.get r11) fun x1 => vK (v_eql x1 (ii 0)) fun x2 => bK x2 (some ((.tup [r13, (ii 1)]), h)) (vK (v_eql x1 (ii 12)) fun x3 => bK x3 (some ((.tup [r13, (ii 2)]), h)) (some ((.tup [r13, (ii 0)]), h)))
def J174_2 (r0 r3 r11 r12 r13 r14 : DV) (h : H) : Ans := wK (callK E 224 [r0, r12, r13, r14, r11, r3] h) fun x1 h2 => J174_1 E r11 x1 h2
def J174_0 (r0 r1 r2 r3 : DV) (h : H) : Ans := vK (v_sub r2 r1) fun x1 => n_alc 1 1 (.list [(ii 0)]) h fun x2 h3 => vK (v_quo x1 (ii 4)) fun x4 => vK (v_mul x4 (ii 1)) fun x5 => vK (v_add r1 x5) fun x6 => vK (v_quo x1 (ii 4)) fun x7 => vK (v_mul x7 (ii 2)) fun x8 => vK (v_add r1 x8) fun x9 => vK (v_quo x1 (ii 4)) fun x10 => vK (v_mul x10 (ii 3)) fun x11 => vK (v_add r1 x11) fun x12 => vK (v_geq x1 (ii 8)) fun x13 => bK x13 (vK (v_geq x1 (ii 50)) fun x14 => bK x14 (wK (callK E 223 [r0, x6, x2, r3] h3) fun x15 h16 => wK (callK E 223 [r0, x9, x2, r3] h16) fun x17 h18 => wK (callK E 223 [r0, x12, x2, r3] h18) fun x19 h20 => J174_2 E r0 r3 x2 x15 x17 x19 h20) (J174_2 E r0 r3 x2 x6 x9 x12 h3)) (J174_1 E x2 x9 h3)
theorem I174_1 : Is E C174_1 (retK3 D174.res) (fun σ h => J174_1 E (σ p11) (σ p13) h) := Is.rf
abbrev K174_3 : KT2 (DV × H) := (thenK3 (fun σ h => J174_1 E (σ p11) (σ p13) h) (retK3 D174.res))
theorem I174_2 : Is E C174_2 (K174_3 E) (fun σ h => J174_2 E (σ p0) (σ p3) (σ p11) (σ p12) (σ p13) (σ p14) h) := Is.rf
theorem I174_0 : iB4 E D174 (J174_0 E) := Is.aq (Is.sq (Is.sq (Is.sq (Is.sq (Is.sq (Is.sq (Is.sq (I174_1 E) (Is.sq (Is.cd (Is.sq (I174_2 E) (Is.leaf _)) (Is.leaf _)) (Is.leaf _))) (Is.leaf _)) (Is.leaf _)) (Is.leaf _)) (Is.leaf _)) (Is.leaf _)) (Is.leaf _))
def S174 : Fun := fA4 (J174_0 E)
theorem S174_eq : SQ D174 S174 := eB4 I174_0
def D175 := cm 175
def C175_1 := cl (cr (cr D175.body))
def B175_1 (E : Env) (r0 : DV) (i1 : DV → DV → H → Ans) (r8 r9 : DV) (h : H) : Ans := vK (v_lss r8 r9) fun x1 => bK x1 (vK (v_iaS 5 r0 r9) fun x2 => vK (v_ldN 5 h.get x2) fun x3 => vK (v_iaS 5 r0 r8) fun x4 => vK (v_ldN 5 h.get x4) fun x5 => vK (v_iaS 5 r0 r8) fun x6 => wK (dStF 5 x6 x3 h) fun x7 h8 => vK (v_iaS 5 r0 r9) fun x9 => wK (dStF 5 x9 x5 h8) fun x10 h11 => vK (v_add r8 (ii 1)) fun x12 => vK (v_sub r9 (ii 1)) fun x13 => i1 x12 x13 h11) (some ((.tup []), h))
def L175_1 (r0 : DV) (n : Nat) : DV → DV → H → Ans := Nat.rec (motive := fun _ => DV → DV → H → Ans) (fun _ _ _ => none) (fun _ i => B175_1 E r0 i) n
def J175_0 (r0 r1 r2 : DV) (h : H) : Ans := vK (v_sub r2 (ii 1)) fun x1 => L175_1 E r0 FUEL r1 x1 h
theorem I175_1 : Is E C175_1 (blockK3 0 (retK3 D175.res)) (fun σ h => L175_1 E (σ p0) FUEL (σ p8) (σ p9) h) := Is.lp (fun n1 σ h => L175_1 E (σ p0) n1 (σ p8) (σ p9) h) fun n1 => Is.aq (Is.leaf _)
theorem I175_0 : iB4 E D175 (fun r0 r1 r2 _ h => J175_0 E r0 r1 r2 h) := Is.aq (Is.sq (Is.sq (Is.bk (I175_1 E)) (Is.leaf _)) (Is.leaf _))
def S175 : Fun := fA4 (fun r0 r1 r2 _ h => J175_0 E r0 r1 r2 h)
theorem S175_eq : SQ D175 S175 := eB4 I175_0
def D176 := cm 176
def C176_1 := cr (cr (cr D176.body))
def C176_2 := cl (cr (cl (cr (cr D176.body))))
def C176_3 := cr (cr (cl C176_2))
def C176_4 := cr (cl (cl (cr (cl C176_2))))
def C176_6 := cr (cr (cr (cr C176_4)))
def C176_8 := cl (cr (cl (cr C176_6)))
def C176_7 := cl (cr (cl (cr (cl (cr (cr (cr C176_4)))))))
def C176_5 := cl (cl (cl (cl (cr (cl C176_2)))))
def J176_1 (E : Env) (h : H) : Ans := some ((.bool false), h)
def J176_3 (E : Env) (i2 : DV → DV → H → Ans) (r9 r10 : DV) (h : H) : Ans := vK (v_add r10 (ii 1)) fun x1 => i2 r9 x1 h
def B176_8 (i2 : DV → DV → H → Ans) (r0 r2 r3 r9 r10 : DV) (i8 : DV → H → Ans) (r12 : DV) (h : H) : Ans := vK (v_lss r12 r2) fun x1 => bK x1 (vK (v_iaS 5 r0 r12) fun x2 => vK (v_ldN 5 h.get x2) fun x3 => vK (v_sub r12 (ii 1)) fun x4 => vK (v_iaS 5 r0 x4) fun x5 => vK (v_ldN 5 h.get x5) fun x6 => wK (c_val E r3 [x3, x6] h) fun x7 h8 => vK (v_lss x7 (ii 0)) fun x9 => vK (v_not x9) fun x10 => bK x10 (J176_3 E i2 r9 r10 h8) (vK (v_sub r12 (ii 1)) fun x11 => vK (v_sub r12 (ii 1)) fun x12 => vK (v_iaS 5 r0 x12) fun x13 => vK (v_ldN 5 h8.get x13) fun x14 => vK (v_iaS 5 r0 r12) fun x15 => vK (v_ldN 5 h8.get x15) fun x16 => vK (v_iaS 5 r0 r12) fun x17 => wK (dStF 5 x17 x14 h8) fun x18 h19 => vK (v_iaS 5 r0 x11) fun x20 => wK (dStF 5 x20 x16 h19) fun x21 h22 => vK (v_add r12 (ii 1)) fun x23 => i8 x23 h22)) (J176_3 E i2 r9 r10 h)
def L176_8 (i2 : DV → DV → H → Ans) (r0 r2 r3 r9 r10 : DV) (n : Nat) : DV → H → Ans := Nat.rec (motive := fun _ => DV → H → Ans) (fun _ _ => none) (fun _ i => B176_8 E i2 r0 r2 r3 r9 r10 i) n
def J176_6 (i2 : DV → DV → H → Ans) (r0 r2 r3 r9 r10 : DV) (h : H) : Ans := vK (v_sub r2 r9) fun x1 => vK (v_geq x1 (ii 2)) fun x2 => bK x2 (vK (v_add r9 (ii 1)) fun x3 => L176_8 E i2 r0 r2 r3 r9 r10 FUEL x3 h) (J176_3 E i2 r9 r10 h)
def B176_7 (i2 : DV → DV → H → Ans) (r0 r2 r3 r9 r10 : DV) (i7 : DV → H → Ans) (r11 : DV) (h : H) : Ans := vK (v_geq r11 (ii 1)) fun x1 => bK x1 (vK (v_iaS 5 r0 r11) fun x2 => vK (v_ldN 5 h.get x2) fun x3 => vK (v_sub r11 (ii 1)) fun x4 => vK (v_iaS 5 r0 x4) fun x5 => vK (v_ldN 5 h.get x5) fun x6 => wK (c_val E r3 [x3, x6] h) fun x7 h8 => vK (v_lss x7 (ii 0)) fun x9 => vK (v_not x9) fun x10 => bK x10 (J176_6 E i2 r0 r2 r3 r9 r10 h8) (vK (v_sub r11 (ii 1)) fun x11 => vK (v_sub r11 (ii 1)) fun x12 => vK (v_iaS 5 r0 x12) fun x13 => vK (v_ldN 5 h8.get x13) fun x14 => vK (v_iaS 5 r0 r11) fun x15 => vK (v_ldN 5 h8.get x15) fun x16 => vK (v_iaS 5 r0 r11) fun x17 => wK (dStF 5 x17 x14 h8) fun x18 h19 => vK (v_iaS 5 r0 x11) fun x20 => wK (dStF 5 x20 x16 h19) fun x21 h22 => vK (v_sub r11 (ii 1)) fun x23 => i7 x23 h22)) (J176_6 E i2 r0 r2 r3 r9 r10 h)
def L176_7 (i2 : DV → DV → H → Ans) (r0 r2 r3 r9 r10 : DV) (n : Nat) : DV → H → Ans := Nat.rec (motive := fun _ => DV → H → Ans) (fun _ _ => none) (fun _ i => B176_7 E i2 r0 r2 r3 r9 r10 i) n
def J176_4 (i2 : DV → DV → H → Ans) (r0 r1 r2 r3 r9 r10 : DV) (h : H) : Ans := vK (v_eql r9 r2) fun x1 => bK x1 (some ((.bool true), h)) (vK (v_sub r2 r1) fun x2 => vK (v_lss x2 (ii 50)) fun x3 => bK x3 (some ((.bool false), h)) (vK (v_sub r9 (ii 1)) fun x4 => vK (v_sub r9 (ii 1)) fun x5 => vK (v_iaS 5 r0 x5) fun x6 => vK (v_ldN 5 h.get x6) fun x7 => vK (v_iaS 5 r0 r9) fun x8 => vK (v_ldN 5 h.get x8) fun x9 => vK (v_iaS 5 r0 r9) fun x10 => wK (dStF 5 x10 x7 h) fun x11 h12 => vK (v_iaS 5 r0 x4) fun x13 => wK (dStF 5 x13 x9 h12) fun x14 h15 => vK (v_sub r9 r1) fun x16 => vK (v_geq x16 (ii 2)) fun x17 => bK x17 (vK (v_sub r9 (ii 1)) fun x18 => L176_7 E i2 r0 r2 r3 r9 r10 FUEL x18 h15) (J176_6 E i2 r0 r2 r3 r9 r10 h15)))
def B176_5 (i2 : DV → DV → H → Ans) (r0 r1 r2 r3 r10 : DV) (i5 : DV → H → Ans) (r9 : DV) (h : H) : Ans := vK (v_lss r9 r2) fun x1 => gdK x1 true (fun kk => kk r3 h) h fun x2 h3 => gdK x1 true (fun kk => kk r0 h3) h3 fun x4 h5 => gdK x1 true (fun kk => kk r9 h5) h5 fun x6 h7 => gdK x1 true (fun kk => vK (v_iaS 5 x4 x6) fun v => kk v h7) h7 fun x8 h9 => gdK x1 true (fun kk => vK (v_ldN 5 h9.get x8) fun v => kk v h9) h9 fun x10 h11 => gdK x1 true (fun kk => kk r0 h11) h11 fun x12 h13 => gdK x1 true (fun kk => kk r9 h13) h13 fun x14 h15 => gdK x1 true (fun kk => vK (v_sub x14 (ii 1)) fun v => kk v h15) h15 fun x16 h17 => gdK x1 true (fun kk => vK (v_iaS 5 x12 x16) fun v => kk v h17) h17 fun x18 h19 => gdK x1 true (fun kk => vK (v_ldN 5 h19.get x18) fun v => kk v h19) h19 fun x20 h21 => gdK x1 true (fun kk => wK (c_val E x2 [x10, x20] h21) kk) h21 fun x22 h23 => gdK x1 true (fun kk => vK (v_lss x22 (ii 0)) fun v => kk v h23) h23 fun x24 h25 => gdK x1 true (fun kk => vK (v_not x24) fun v => kk v h25) h25 fun x26 h27 => vK (v_pick x1 x26 (.bool false)) fun x28 => bK x28 (vK (v_add r9 (ii 1)) fun x29 => i5 x29 h27) (J176_4 E i2 r0 r1 r2 r3 r9 r10 h27)
def L176_5 (i2 : DV → DV → H → Ans) (r0 r1 r2 r3 r10 : DV) (n : Nat) : DV → H → Ans := Nat.rec (motive := fun _ => DV → H → Ans) (fun _ _ => none) (fun _ i => B176_5 E i2 r0 r1 r2 r3 r10 i) n
def B176_2 (r0 r1 r2 r3 : DV) (i2 : DV → DV → H → Ans) (r9 r10 : DV) (h : H) : Ans := vK (v_lss r10 (ii 5)) fun x1 => bK x1 (L176_5 E i2 r0 r1 r2 r3 r10 FUEL r9 h) (J176_1 E h)
def L176_2 (r0 r1 r2 r3 : DV) (n : Nat) : DV → DV → H → Ans := Nat.rec (motive := fun _ => DV → DV → H → Ans) (fun _ _ _ => none) (fun _ i => B176_2 E r0 r1 r2 r3 i) n
def J176_0 (r0 r1 r2 r3 : DV) (h : H) : Ans := vK (v_add r1 (ii 1)) fun x1 => L176_2 E r0 r1 r2 r3 FUEL x1 (ii 0) h
theorem I176_1 : Is E C176_1 (retK3 D176.res) (fun σ h => J176_1 E h) := Is.rf
abbrev K176_9 : KT2 (DV × H) := (blockK3 0 (thenK3 (fun σ h => J176_1 E h) (retK3 D176.res)))
abbrev K176_10 (n2 : Nat) : KT2 (DV × H) := (thenK3 (fun σ h => (L176_2 E (σ p0) (σ p1) (σ p2) (σ p3) n2) (σ p9) (σ p10) h) (K176_9 E))
theorem I176_3 (n2 : Nat) : Is E C176_3 (K176_10 E n2) (fun σ h => J176_3 E (L176_2 E (σ p0) (σ p1) (σ p2) (σ p3) n2) (σ p9) (σ p10) h) := Is.rf
abbrev K176_11 (n2 : Nat) : KT2 (DV × H) := (thenK3 (fun σ h => J176_3 E (L176_2 E (σ p0) (σ p1) (σ p2) (σ p3) n2) (σ p9) (σ p10) h) (K176_10 E n2))
theorem I176_8 (n2 : Nat) : Is E C176_8 (blockK3 6 (blockK3 1 (K176_11 E n2))) (fun σ h => L176_8 E (L176_2 E (σ p0) (σ p1) (σ p2) (σ p3) n2) (σ p0) (σ p2) (σ p3) (σ p9) (σ p10) FUEL (σ p12) h) := Is.lp (fun n8 σ h => L176_8 E (L176_2 E (σ p0) (σ p1) (σ p2) (σ p3) n2) (σ p0) (σ p2) (σ p3) (σ p9) (σ p10) n8 (σ p12) h) fun n8 => Is.aq (Is.leaf _)
theorem I176_6 (n2 : Nat) : Is E C176_6 (blockK3 1 (K176_11 E n2)) (fun σ h => J176_6 E (L176_2 E (σ p0) (σ p1) (σ p2) (σ p3) n2) (σ p0) (σ p2) (σ p3) (σ p9) (σ p10) h) := Is.aq (Is.sq (Is.cd (Is.sq (Is.bk (I176_8 E n2)) (Is.leaf _)) (Is.leaf _)) (Is.leaf _))
abbrev K176_12 (n2 : Nat) : KT2 (DV × H) := (thenK3 (fun σ h => J176_6 E (L176_2 E (σ p0) (σ p1) (σ p2) (σ p3) n2) (σ p0) (σ p2) (σ p3) (σ p9) (σ p10) h) (blockK3 1 (K176_11 E n2)))
theorem I176_7 (n2 : Nat) : Is E C176_7 (blockK3 4 (K176_12 E n2)) (fun σ h => L176_7 E (L176_2 E (σ p0) (σ p1) (σ p2) (σ p3) n2) (σ p0) (σ p2) (σ p3) (σ p9) (σ p10) FUEL (σ p11) h) := Is.lp (fun n7 σ h => L176_7 E (L176_2 E (σ p0) (σ p1) (σ p2) (σ p3) n2) (σ p0) (σ p2) (σ p3) (σ p9) (σ p10) n7 (σ p11) h) fun n7 => Is.aq (Is.leaf _)
theorem I176_4 (n2 : Nat) : Is E C176_4 (blockK3 1 (K176_11 E n2)) (fun σ h => J176_4 E (L176_2 E (σ p0) (σ p1) (σ p2) (σ p3) n2) (σ p0) (σ p1) (σ p2) (σ p3) (σ p9) (σ p10) h) := Is.aq (Is.sq (Is.sq (Is.sq (Is.sq (I176_6 E n2) (Is.sq (Is.cd (Is.sq (Is.bk (I176_7 E n2)) (Is.leaf _)) (Is.leaf _)) (Is.leaf _))) (Is.leaf _)) (Is.leaf _)) (Is.leaf _))
abbrev K176_13 (n2 : Nat) : KT2 (DV × H) := (thenK3 (fun σ h => J176_4 E (L176_2 E (σ p0) (σ p1) (σ p2) (σ p3) n2) (σ p0) (σ p1) (σ p2) (σ p3) (σ p9) (σ p10) h) (blockK3 1 (K176_11 E n2)))
theorem I176_5 (n2 : Nat) : Is E C176_5 (blockK3 2 (K176_13 E n2)) (fun σ h => L176_5 E (L176_2 E (σ p0) (σ p1) (σ p2) (σ p3) n2) (σ p0) (σ p1) (σ p2) (σ p3) (σ p10) FUEL (σ p9) h) := Is.lp (fun n5 σ h => L176_5 E (L176_2 E (σ p0) (σ p1) (σ p2) (σ p3) n2) (σ p0) (σ p1) (σ p2) (σ p3) (σ p10) n5 (σ p9) h) fun n5 => Is.aq (Is.leaf _)
theorem I176_2 : Is E C176_2 (K176_9 E) (fun σ h => L176_2 E (σ p0) (σ p1) (σ p2) (σ p3) FUEL (σ p9) (σ p10) h) := Is.lp (fun n2 σ h => L176_2 E (σ p0) (σ p1) (σ p2) (σ p3) n2 (σ p9) (σ p10) h) fun n2 => Is.aq (Is.sq (Is.sq (I176_3 E n2) (Is.bk (Is.sq (I176_4 E n2) (Is.bk (I176_5 E n2))))) (Is.leaf _))
theorem I176_0 : iB4 E D176 (J176_0 E) := Is.aq (Is.sq (Is.sq (Is.sq (I176_1 E) (Is.sq (Is.bk (I176_2 E)) (Is.leaf _))) (Is.leaf _)) (Is.leaf _))
def S176 : Fun := fA4 (J176_0 E)
theorem S176_eq : SQ D176 S176 := eB4 I176_0
def D177 := cm 177
def C177_1 := cr (cr (cr (cr D177.body)))
def C177_2 := cl (cl (cr (cr (cr D177.body))))
def C177_3 := cr (cl (cl C177_2))
def C177_5 := cr C177_3
def C177_6 := cl (cl C177_3)
def C177_4 := cl (cl (cl (cl C177_2)))
def J177_1 (E : Env) (r11 : DV) (h : H) : Ans := some (r11, h)
def J177_5 (i2 : DV → DV → H → Ans) (r0 r11 r12 : DV) (h : H) : Ans := vK (v_gtr r11 r12) fun x1 => bK x1 (J177_1 E r11 h) (vK (v_iaS 5 r0 r12) fun x2 => vK (v_ldN 5 h.get x2) fun x3 => vK (v_iaS 5 r0 r11) fun x4 => vK (v_ldN 5 h.get x4) fun x5 => vK (v_iaS 5 r0 r11) fun x6 => wK (dStF 5 x6 x3 h) fun x7 h8 => vK (v_iaS 5 r0 r12) fun x9 => wK (dStF 5 x9 x5 h8) fun x10 h11 => vK (v_add r11 (ii 1)) fun x12 => vK (v_sub r12 (ii 1)) fun x13 => i2 x12 x13 h11)
def B177_6 (i2 : DV → DV → H → Ans) (r0 r1 r4 r11 : DV) (i6 : DV → H → Ans) (r12 : DV) (h : H) : Ans := vK (v_leq r11 r12) fun x1 => gdK x1 true (fun kk => kk r4 h) h fun x2 h3 => gdK x1 true (fun kk => kk r0 h3) h3 fun x4 h5 => gdK x1 true (fun kk => kk r1 h5) h5 fun x6 h7 => gdK x1 true (fun kk => vK (v_iaS 5 x4 x6) fun v => kk v h7) h7 fun x8 h9 => gdK x1 true (fun kk => vK (v_ldN 5 h9.get x8) fun v => kk v h9) h9 fun x10 h11 => gdK x1 true (fun kk => kk r0 h11) h11 fun x12 h13 => gdK x1 true (fun kk => kk r12 h13) h13 fun x14 h15 => gdK x1 true (fun kk => vK (v_iaS 5 x12 x14) fun v => kk v h15) h15 fun x16 h17 => gdK x1 true (fun kk => vK (v_ldN 5 h17.get x16) fun v => kk v h17) h17 fun x18 h19 => gdK x1 true (fun kk => wK (c_val E x2 [x10, x18] h19) kk) h19 fun x20 h21 => gdK x1 true (fun kk => vK (v_lss x20 (ii 0)) fun v => kk v h21) h21 fun x22 h23 => vK (v_pick x1 x22 (.bool false)) fun x24 => bK x24 (vK (v_sub r12 (ii 1)) fun x25 => i6 x25 h23) (J177_5 E i2 r0 r11 r12 h23)
def L177_6 (i2 : DV → DV → H → Ans) (r0 r1 r4 r11 : DV) (n : Nat) : DV → H → Ans := Nat.rec (motive := fun _ => DV → H → Ans) (fun _ _ => none) (fun _ i => B177_6 E i2 r0 r1 r4 r11 i) n
def J177_3 (i2 : DV → DV → H → Ans) (r0 r1 r4 r11 r12 : DV) (h : H) : Ans := L177_6 E i2 r0 r1 r4 r11 FUEL r12 h
def B177_4 (i2 : DV → DV → H → Ans) (r0 r1 r4 r12 : DV) (i4 : DV → H → Ans) (r11 : DV) (h : H) : Ans := vK (v_leq r11 r12) fun x1 => gdK x1 true (fun kk => kk r4 h) h fun x2 h3 => gdK x1 true (fun kk => kk r0 h3) h3 fun x4 h5 => gdK x1 true (fun kk => kk r1 h5) h5 fun x6 h7 => gdK x1 true (fun kk => vK (v_iaS 5 x4 x6) fun v => kk v h7) h7 fun x8 h9 => gdK x1 true (fun kk => vK (v_ldN 5 h9.get x8) fun v => kk v h9) h9 fun x10 h11 => gdK x1 true (fun kk => kk r0 h11) h11 fun x12 h13 => gdK x1 true (fun kk => kk r11 h13) h13 fun x14 h15 => gdK x1 true (fun kk => vK (v_iaS 5 x12 x14) fun v => kk v h15) h15 fun x16 h17 => gdK x1 true (fun kk => vK (v_ldN 5 h17.get x16) fun v => kk v h17) h17 fun x18 h19 => gdK x1 true (fun kk => wK (c_val E x2 [x10, x18] h19) kk) h19 fun x20 h21 => gdK x1 true (fun kk => vK (v_lss x20 (ii 0)) fun v => kk v h21) h21 fun x22 h23 => gdK x1 true (fun kk => vK (v_not x22) fun v => kk v h23) h23 fun x24 h25 => vK (v_pick x1 x24 (.bool false)) fun x26 => bK x26 (vK (v_add r11 (ii 1)) fun x27 => i4 x27 h25) (J177_3 E i2 r0 r1 r4 r11 r12 h25)
def L177_4 (i2 : DV → DV → H → Ans) (r0 r1 r4 r12 : DV) (n : Nat) : DV → H → Ans := Nat.rec (motive := fun _ => DV → H → Ans) (fun _ _ => none) (fun _ i => B177_4 E i2 r0 r1 r4 r12 i) n
def B177_2 (r0 r1 r4 : DV) (i2 : DV → DV → H → Ans) (r11 r12 : DV) (h : H) : Ans := L177_4 E i2 r0 r1 r4 r12 FUEL r11 h
def L177_2 (r0 r1 r4 : DV) (n : Nat) : DV → DV → H → Ans := Nat.rec (motive := fun _ => DV → DV → H → Ans) (fun _ _ _ => none) (fun _ i => B177_2 E r0 r1 r4 i) n
def J177_0 (r0 r1 r2 r3 r4 : DV) (h : H) : Ans := vK (v_iaS 5 r0 r3) fun x1 => vK (v_ldN 5 h.get x1) fun x2 => vK (v_iaS 5 r0 r1) fun x3 => vK (v_ldN 5 h.get x3) fun x4 => vK (v_iaS 5 r0 r1) fun x5 => wK (dStF 5 x5 x2 h) fun x6 h7 => vK (v_iaS 5 r0 r3) fun x8 => wK (dStF 5 x8 x4 h7) fun x9 h10 => vK (v_add r1 (ii 1)) fun x11 => vK (v_sub r2 (ii 1)) fun x12 => L177_2 E r0 r1 r4 FUEL x11 x12 h10
theorem I177_1 : Is E C177_1 (retK3 D177.res) (fun σ h => J177_1 E (σ p11) h) := Is.rf
abbrev K177_7 : KT2 (DV × H) := (thenK3 (fun σ h => J177_1 E (σ p11) h) (retK3 D177.res))
abbrev K177_8 (n2 : Nat) : KT2 (DV × H) := (thenK3 (fun σ h => (L177_2 E (σ p0) (σ p1) (σ p4) n2) (σ p11) (σ p12) h) (blockK3 0 (K177_7 E)))
theorem I177_5 (n2 : Nat) : Is E C177_5 (blockK3 1 (K177_8 E n2)) (fun σ h => J177_5 E (L177_2 E (σ p0) (σ p1) (σ p4) n2) (σ p0) (σ p11) (σ p12) h) := Is.rf
abbrev K177_9 (n2 : Nat) : KT2 (DV × H) := (thenK3 (fun σ h => J177_5 E (L177_2 E (σ p0) (σ p1) (σ p4) n2) (σ p0) (σ p11) (σ p12) h) (blockK3 1 (K177_8 E n2)))
theorem I177_6 (n2 : Nat) : Is E C177_6 (blockK3 4 (K177_9 E n2)) (fun σ h => L177_6 E (L177_2 E (σ p0) (σ p1) (σ p4) n2) (σ p0) (σ p1) (σ p4) (σ p11) FUEL (σ p12) h) := Is.lp (fun n6 σ h => L177_6 E (L177_2 E (σ p0) (σ p1) (σ p4) n2) (σ p0) (σ p1) (σ p4) (σ p11) n6 (σ p12) h) fun n6 => Is.aq (Is.leaf _)
theorem I177_3 (n2 : Nat) : Is E C177_3 (blockK3 1 (K177_8 E n2)) (fun σ h => J177_3 E (L177_2 E (σ p0) (σ p1) (σ p4) n2) (σ p0) (σ p1) (σ p4) (σ p11) (σ p12) h) := Is.aq (Is.sq (I177_5 E n2) (Is.bk (I177_6 E n2)))
abbrev K177_10 (n2 : Nat) : KT2 (DV × H) := (thenK3 (fun σ h => J177_3 E (L177_2 E (σ p0) (σ p1) (σ p4) n2) (σ p0) (σ p1) (σ p4) (σ p11) (σ p12) h) (blockK3 1 (K177_8 E n2)))
theorem I177_4 (n2 : Nat) : Is E C177_4 (blockK3 2 (K177_10 E n2)) (fun σ h => L177_4 E (L177_2 E (σ p0) (σ p1) (σ p4) n2) (σ p0) (σ p1) (σ p4) (σ p12) FUEL (σ p11) h) := Is.lp (fun n4 σ h => L177_4 E (L177_2 E (σ p0) (σ p1) (σ p4) n2) (σ p0) (σ p1) (σ p4) (σ p12) n4 (σ p11) h) fun n4 => Is.aq (Is.leaf _)
theorem I177_2 : Is E C177_2 (blockK3 0 (K177_7 E)) (fun σ h => L177_2 E (σ p0) (σ p1) (σ p4) FUEL (σ p11) (σ p12) h) := Is.lp (fun n2 σ h => L177_2 E (σ p0) (σ p1) (σ p4) n2 (σ p11) (σ p12) h) fun n2 => Is.aq (Is.bk (Is.sq (I177_3 E n2) (Is.bk (I177_4 E n2))))
theorem I177_0 : iB5 E D177 (J177_0 E) := Is.aq (Is.sq (Is.sq (Is.sq (Is.sq (I177_1 E) (Is.bk (I177_2 E))) (Is.leaf _)) (Is.leaf _)) (Is.leaf _))
def S177 : Fun := fA5 (J177_0 E)
theorem S177_eq : SQ D177 S177 := eB5 I177_0
def D178 := cm 178
def C178_1 := cr (cr (cr (cr D178.body)))
def C178_3 := cr C178_1
def C178_5 := cr (cr (cr (cr (cr C178_3))))
def C178_6 := cl (cl (cr (cr (cr (cr C178_3)))))
def C178_7 := cr (cl (cl C178_6))
def C178_9 := cr C178_7
def C178_10 := cl (cl C178_7)
def C178_8 := cl (cl (cl (cl C178_6)))
def C178_4 := cl (cl C178_1)
def C178_2 := cl (cl (cr (cr (cr D178.body))))
def J178_5 (E : Env) (r0 r1 r13 : DV) (h : H) : Ans := vK (v_iaS 5 r0 r1) fun x1 => vK (v_ldN 5 h.get x1) fun x2 => vK (v_iaS 5 r0 r13) fun x3 => vK (v_ldN 5 h.get x3) fun x4 => vK (v_iaS 5 r0 r13) fun x5 => wK (dStF 5 x5 x2 h) fun x6 h7 => vK (v_iaS 5 r0 r1) fun x8 => wK (dStF 5 x8 x4 h7) fun x9 h10 => some ((.tup [r13, (.bool false)]), h10)
def J178_9 (i6 : DV → DV → H → Ans) (r0 r1 r12 r13 : DV) (h : H) : Ans := vK (v_gtr r12 r13) fun x1 => bK x1 (J178_5 E r0 r1 r13 h) (vK (v_iaS 5 r0 r13) fun x2 => vK (v_ldN 5 h.get x2) fun x3 => vK (v_iaS 5 r0 r12) fun x4 => vK (v_ldN 5 h.get x4) fun x5 => vK (v_iaS 5 r0 r12) fun x6 => wK (dStF 5 x6 x3 h) fun x7 h8 => vK (v_iaS 5 r0 r13) fun x9 => wK (dStF 5 x9 x5 h8) fun x10 h11 => vK (v_add r12 (ii 1)) fun x12 => vK (v_sub r13 (ii 1)) fun x13 => i6 x12 x13 h11)
def B178_10 (i6 : DV → DV → H → Ans) (r0 r1 r4 r12 : DV) (i10 : DV → H → Ans) (r13 : DV) (h : H) : Ans := vK (v_leq r12 r13) fun x1 => gdK x1 true (fun kk => kk r4 h) h fun x2 h3 => gdK x1 true (fun kk => kk r0 h3) h3 fun x4 h5 => gdK x1 true (fun kk => kk r13 h5) h5 fun x6 h7 => gdK x1 true (fun kk => vK (v_iaS 5 x4 x6) fun v => kk v h7) h7 fun x8 h9 => gdK x1 true (fun kk => vK (v_ldN 5 h9.get x8) fun v => kk v h9) h9 fun x10 h11 => gdK x1 true (fun kk => kk r0 h11) h11 fun x12 h13 => gdK x1 true (fun kk => kk r1 h13) h13 fun x14 h15 => gdK x1 true (fun kk => vK (v_iaS 5 x12 x14) fun v => kk v h15) h15 fun x16 h17 => gdK x1 true (fun kk => vK (v_ldN 5 h17.get x16) fun v => kk v h17) h17 fun x18 h19 => gdK x1 true (fun kk => wK (c_val E x2 [x10, x18] h19) kk) h19 fun x20 h21 => gdK x1 true (fun kk => vK (v_lss x20 (ii 0)) fun v => kk v h21) h21 fun x22 h23 => gdK x1 true (fun kk => vK (v_not x22) fun v => kk v h23) h23 fun x24 h25 => vK (v_pick x1 x24 (.bool false)) fun x26 => bK x26 (vK (v_sub r13 (ii 1)) fun x27 => i10 x27 h25) (J178_9 E i6 r0 r1 r12 r13 h25)
def L178_10 (i6 : DV → DV → H → Ans) (r0 r1 r4 r12 : DV) (n : Nat) : DV → H → Ans := Nat.rec (motive := fun _ => DV → H → Ans) (fun _ _ => none) (fun _ i => B178_10 E i6 r0 r1 r4 r12 i) n
def J178_7 (i6 : DV → DV → H → Ans) (r0 r1 r4 r12 r13 : DV) (h : H) : Ans := L178_10 E i6 r0 r1 r4 r12 FUEL r13 h
def B178_8 (i6 : DV → DV → H → Ans) (r0 r1 r4 r13 : DV) (i8 : DV → H → Ans) (r12 : DV) (h : H) : Ans := vK (v_leq r12 r13) fun x1 => gdK x1 true (fun kk => kk r4 h) h fun x2 h3 => gdK x1 true (fun kk => kk r0 h3) h3 fun x4 h5 => gdK x1 true (fun kk => kk r12 h5) h5 fun x6 h7 => gdK x1 true (fun kk => vK (v_iaS 5 x4 x6) fun v => kk v h7) h7 fun x8 h9 => gdK x1 true (fun kk => vK (v_ldN 5 h9.get x8) fun v => kk v h9) h9 fun x10 h11 => gdK x1 true (fun kk => kk r0 h11) h11 fun x12 h13 => gdK x1 true (fun kk => kk r1 h13) h13 fun x14 h15 => gdK x1 true (fun kk => vK (v_iaS 5 x12 x14) fun v => kk v h15) h15 fun x16 h17 => gdK x1 true (fun kk => vK (v_ldN 5 h17.get x16) fun v => kk v h17) h17 fun x18 h19 => gdK x1 true (fun kk => wK (c_val E x2 [x10, x18] h19) kk) h19 fun x20 h21 => gdK x1 true (fun kk => vK (v_lss x20 (ii 0)) fun v => kk v h21) h21 fun x22 h23 => vK (v_pick x1 x22 (.bool false)) fun x24 => bK x24 (vK (v_add r12 (ii 1)) fun x25 => i8 x25 h23) (J178_7 E i6 r0 r1 r4 r12 r13 h23)
def L178_8 (i6 : DV → DV → H → Ans) (r0 r1 r4 r13 : DV) (n : Nat) : DV → H → Ans := Nat.rec (motive := fun _ => DV → H → Ans) (fun _ _ => none) (fun _ i => B178_8 E i6 r0 r1 r4 r13 i) n
def B178_6 (r0 r1 r4 : DV) (i6 : DV → DV → H → Ans) (r12 r13 : DV) (h : H) : Ans := L178_8 E i6 r0 r1 r4 r13 FUEL r12 h
def L178_6 (r0 r1 r4 : DV) (n : Nat) : DV → DV → H → Ans := Nat.rec (motive := fun _ => DV → DV → H → Ans) (fun _ _ _ => none) (fun _ i => B178_6 E r0 r1 r4 i) n
def J178_3 (r0 r1 r4 r12 r13 : DV) (h : H) : Ans := vK (v_gtr r12 r13) fun x1 => bK x1 (vK (v_iaS 5 r0 r1) fun x2 => vK (v_ldN 5 h.get x2) fun x3 => vK (v_iaS 5 r0 r13) fun x4 => vK (v_ldN 5 h.get x4) fun x5 => vK (v_iaS 5 r0 r13) fun x6 => wK (dStF 5 x6 x3 h) fun x7 h8 => vK (v_iaS 5 r0 r1) fun x9 => wK (dStF 5 x9 x5 h8) fun x10 h11 => some ((.tup [r13, (.bool true)]), h11)) (vK (v_iaS 5 r0 r13) fun x12 => vK (v_ldN 5 h.get x12) fun x13 => vK (v_iaS 5 r0 r12) fun x14 => vK (v_ldN 5 h.get x14) fun x15 => vK (v_iaS 5 r0 r12) fun x16 => wK (dStF 5 x16 x13 h) fun x17 h18 => vK (v_iaS 5 r0 r13) fun x19 => wK (dStF 5 x19 x15 h18) fun x20 h21 => vK (v_add r12 (ii 1)) fun x22 => vK (v_sub r13 (ii 1)) fun x23 => L178_6 E r0 r1 r4 FUEL x22 x23 h21)
def B178_4 (r0 r1 r4 r12 : DV) (i4 : DV → H → Ans) (r13 : DV) (h : H) : Ans := vK (v_leq r12 r13) fun x1 => gdK x1 true (fun kk => kk r4 h) h fun x2 h3 => gdK x1 true (fun kk => kk r0 h3) h3 fun x4 h5 => gdK x1 true (fun kk => kk r13 h5) h5 fun x6 h7 => gdK x1 true (fun kk => vK (v_iaS 5 x4 x6) fun v => kk v h7) h7 fun x8 h9 => gdK x1 true (fun kk => vK (v_ldN 5 h9.get x8) fun v => kk v h9) h9 fun x10 h11 => gdK x1 true (fun kk => kk r0 h11) h11 fun x12 h13 => gdK x1 true (fun kk => kk r1 h13) h13 fun x14 h15 => gdK x1 true (fun kk => vK (v_iaS 5 x12 x14) fun v => kk v h15) h15 fun x16 h17 => gdK x1 true (fun kk => vK (v_ldN 5 h17.get x16) fun v => kk v h17) h17 fun x18 h19 => gdK x1 true (fun kk => wK (c_val E x2 [x10, x18] h19) kk) h19 fun x20 h21 => gdK x1 true (fun kk => vK (v_lss x20 (ii 0)) fun v => kk v h21) h21 fun x22 h23 => gdK x1 true (fun kk => vK (v_not x22) fun v => kk v h23) h23 fun x24 h25 => vK (v_pick x1 x24 (.bool false)) fun x26 => bK x26 (vK (v_sub r13 (ii 1)) fun x27 => i4 x27 h25) (J178_3 E r0 r1 r4 r12 r13 h25)
def L178_4 (r0 r1 r4 r12 : DV) (n : Nat) : DV → H → Ans := Nat.rec (motive := fun _ => DV → H → Ans) (fun _ _ => none) (fun _ i => B178_4 E r0 r1 r4 r12 i) n
def J178_1 (r0 r1 r4 r12 r13 : DV) (h : H) : Ans := L178_4 E r0 r1 r4 r12 FUEL r13 h
def B178_2 (r0 r1 r4 r13 : DV) (i2 : DV → H → Ans) (r12 : DV) (h : H) : Ans := vK (v_leq r12 r13) fun x1 => gdK x1 true (fun kk => kk r4 h) h fun x2 h3 => gdK x1 true (fun kk => kk r0 h3) h3 fun x4 h5 => gdK x1 true (fun kk => kk r12 h5) h5 fun x6 h7 => gdK x1 true (fun kk => vK (v_iaS 5 x4 x6) fun v => kk v h7) h7 fun x8 h9 => gdK x1 true (fun kk => vK (v_ldN 5 h9.get x8) fun v => kk v h9) h9 fun x10 h11 => gdK x1 true (fun kk => kk r0 h11) h11 fun x12 h13 => gdK x1 true (fun kk => kk r1 h13) h13 fun x14 h15 => gdK x1 true (fun kk => vK (v_iaS 5 x12 x14) fun v => kk v h15) h15 fun x16 h17 => gdK x1 true (fun kk => vK (v_ldN 5 h17.get x16) fun v => kk v h17) h17 fun x18 h19 => gdK x1 true (fun kk => wK (c_val E x2 [x10, x18] h19) kk) h19 fun x20 h21 => gdK x1 true (fun kk => vK (v_lss x20 (ii 0)) fun v => kk v h21) h21 fun x22 h23 => vK (v_pick x1 x22 (.bool false)) fun x24 => bK x24 (vK (v_add r12 (ii 1)) fun x25 => i2 x25 h23) (J178_1 E r0 r1 r4 r12 r13 h23)
def L178_2 (r0 r1 r4 r13 : DV) (n : Nat) : DV → H → Ans := Nat.rec (motive := fun _ => DV → H → Ans) (fun _ _ => none) (fun _ i => B178_2 E r0 r1 r4 r13 i) n
def J178_0 (r0 r1 r2 r3 r4 : DV) (h : H) : Ans := vK (v_iaS 5 r0 r3) fun x1 => vK (v_ldN 5 h.get x1) fun x2 => vK (v_iaS 5 r0 r1) fun x3 => vK (v_ldN 5 h.get x3) fun x4 => vK (v_iaS 5 r0 r1) fun x5 => wK (dStF 5 x5 x2 h) fun x6 h7 => vK (v_iaS 5 r0 r3) fun x8 => wK (dStF 5 x8 x4 h7) fun x9 h10 => vK (v_add r1 (ii 1)) fun x11 => vK (v_sub r2 (ii 1)) fun x12 => L178_2 E r0 r1 r4 x12 FUEL x11 h10
theorem I178_5 : Is E C178_5 (retK3 D178.res) (fun σ h => J178_5 E (σ p0) (σ p1) (σ p13) h) := Is.rf
abbrev K178_11 : KT2 (DV × H) := (thenK3 (fun σ h => J178_5 E (σ p0) (σ p1) (σ p13) h) (retK3 D178.res))
abbrev K178_12 (n6 : Nat) : KT2 (DV × H) := (thenK3 (fun σ h => (L178_6 E (σ p0) (σ p1) (σ p4) n6) (σ p12) (σ p13) h) (blockK3 4 (K178_11 E)))
theorem I178_9 (n6 : Nat) : Is E C178_9 (blockK3 5 (K178_12 E n6)) (fun σ h => J178_9 E (L178_6 E (σ p0) (σ p1) (σ p4) n6) (σ p0) (σ p1) (σ p12) (σ p13) h) := Is.rf
abbrev K178_13 (n6 : Nat) : KT2 (DV × H) := (thenK3 (fun σ h => J178_9 E (L178_6 E (σ p0) (σ p1) (σ p4) n6) (σ p0) (σ p1) (σ p12) (σ p13) h) (blockK3 5 (K178_12 E n6)))
theorem I178_10 (n6 : Nat) : Is E C178_10 (blockK3 8 (K178_13 E n6)) (fun σ h => L178_10 E (L178_6 E (σ p0) (σ p1) (σ p4) n6) (σ p0) (σ p1) (σ p4) (σ p12) FUEL (σ p13) h) := Is.lp (fun n10 σ h => L178_10 E (L178_6 E (σ p0) (σ p1) (σ p4) n6) (σ p0) (σ p1) (σ p4) (σ p12) n10 (σ p13) h) fun n10 => Is.aq (Is.leaf _)
theorem I178_7 (n6 : Nat) : Is E C178_7 (blockK3 5 (K178_12 E n6)) (fun σ h => J178_7 E (L178_6 E (σ p0) (σ p1) (σ p4) n6) (σ p0) (σ p1) (σ p4) (σ p12) (σ p13) h) := Is.aq (Is.sq (I178_9 E n6) (Is.bk (I178_10 E n6)))
abbrev K178_14 (n6 : Nat) : KT2 (DV × H) := (thenK3 (fun σ h => J178_7 E (L178_6 E (σ p0) (σ p1) (σ p4) n6) (σ p0) (σ p1) (σ p4) (σ p12) (σ p13) h) (blockK3 5 (K178_12 E n6)))
theorem I178_8 (n6 : Nat) : Is E C178_8 (blockK3 6 (K178_14 E n6)) (fun σ h => L178_8 E (L178_6 E (σ p0) (σ p1) (σ p4) n6) (σ p0) (σ p1) (σ p4) (σ p13) FUEL (σ p12) h) := Is.lp (fun n8 σ h => L178_8 E (L178_6 E (σ p0) (σ p1) (σ p4) n6) (σ p0) (σ p1) (σ p4) (σ p13) n8 (σ p12) h) fun n8 => Is.aq (Is.leaf _)
theorem I178_6 : Is E C178_6 (blockK3 4 (K178_11 E)) (fun σ h => L178_6 E (σ p0) (σ p1) (σ p4) FUEL (σ p12) (σ p13) h) := Is.lp (fun n6 σ h => L178_6 E (σ p0) (σ p1) (σ p4) n6 (σ p12) (σ p13) h) fun n6 => Is.aq (Is.bk (Is.sq (I178_7 E n6) (Is.bk (I178_8 E n6))))
theorem I178_3 : Is E C178_3 (retK3 D178.res) (fun σ h => J178_3 E (σ p0) (σ p1) (σ p4) (σ p12) (σ p13) h) := Is.aq (Is.sq (Is.sq (Is.sq (Is.sq (Is.sq (I178_5 E) (Is.bk (I178_6 E))) (Is.leaf _)) (Is.leaf _)) (Is.leaf _)) (Is.leaf _))
abbrev K178_15 : KT2 (DV × H) := (thenK3 (fun σ h => J178_3 E (σ p0) (σ p1) (σ p4) (σ p12) (σ p13) h) (retK3 D178.res))
theorem I178_4 : Is E C178_4 (blockK3 2 (K178_15 E)) (fun σ h => L178_4 E (σ p0) (σ p1) (σ p4) (σ p12) FUEL (σ p13) h) := Is.lp (fun n4 σ h => L178_4 E (σ p0) (σ p1) (σ p4) (σ p12) n4 (σ p13) h) fun n4 => Is.aq (Is.leaf _)
theorem I178_1 : Is E C178_1 (retK3 D178.res) (fun σ h => J178_1 E (σ p0) (σ p1) (σ p4) (σ p12) (σ p13) h) := Is.aq (Is.sq (I178_3 E) (Is.bk (I178_4 E)))
abbrev K178_16 : KT2 (DV × H) := (thenK3 (fun σ h => J178_1 E (σ p0) (σ p1) (σ p4) (σ p12) (σ p13) h) (retK3 D178.res))
theorem I178_2 : Is E C178_2 (blockK3 0 (K178_16 E)) (fun σ h => L178_2 E (σ p0) (σ p1) (σ p4) (σ p13) FUEL (σ p12) h) := Is.lp (fun n2 σ h => L178_2 E (σ p0) (σ p1) (σ p4) (σ p13) n2 (σ p12) h) fun n2 => Is.aq (Is.leaf _)
theorem I178_0 : iB5 E D178 (J178_0 E) := Is.aq (Is.sq (Is.sq (Is.sq (Is.sq (I178_1 E) (Is.bk (I178_2 E))) (Is.leaf _)) (Is.leaf _)) (Is.leaf _))
def S178 : Fun := fA5 (J178_0 E)
theorem S178_eq : SQ D178 S178 := eB5 I178_0
def D179 := cm 179
def C179_1 := cr (cr D179.body)
def C179_2 := cr C179_1
def J179_2 (E : Env) (r0 r2 : DV) (h : H) : Ans := vK (v_conv .u8 r0) fun x1 => vK (v_ixS (.str [0, 1, 2, 2, 3, 3, 3, 3, 4, 4, 4, 4, 4, 4, 4, 4, 5, 5, 5, 5, 5, 5, 5, 5, 5, 5, 5, 5, 5, 5, 5, 5, 6, 6, 6, 6, 6, 6, 6, 6, 6, 6, 6, 6, 6, 6, 6, 6, 6, 6, 6, 6, 6, 6, 6, 6, 6, 6, 6, 6, 6, 6, 6, 6, 7, 7, 7, 7, 7, 7, 7, 7, 7, 7, 7, 7, 7, 7, 7, 7, 7, 7, 7, 7, 7, 7, 7, 7, 7, 7, 7, 7, 7, 7, 7, 7, 7, 7, 7, 7, 7, 7, 7, 7, 7, 7, 7, 7, 7, 7, 7, 7, 7, 7, 7, 7, 7, 7, 7, 7, 7, 7, 7, 7, 7, 7, 7, 7, 8, 8, 8, 8, 8, 8, 8, 8, 8, 8, 8, 8, 8, 8, 8, 8, 8, 8, 8, 8, 8, 8, 8, 8, 8, 8, 8, 8, 8, 8, 8, 8, 8, 8, 8, 8, 8, 8, 8, 8, 8, 8, 8, 8, 8, 8, 8, 8, 8, 8, 8, 8, 8, 8, 8, 8, 8, 8, 8, 8, 8, 8, 8, 8, 8, 8, 8, 8, 8, 8, 8, 8, 8, 8, 8, 8, 8, 8, 8, 8, 8, 8, 8, 8, 8, 8, 8, 8, 8, 8, 8, 8, 8, 8, 8, 8, 8, 8, 8, 8, 8, 8, 8, 8, 8, 8, 8, 8, 8, 8, 8, 8, 8, 8, 8, 8, 8, 8, 8, 8, 8, 8, 8, 8, 8, 8, 8, 8]) x1) fun x2 => vK (v_conv .i64 x2) fun x3 => vK (v_add r2 x3) fun x4 => some (x4, h)
def J179_1 (r0 r2 : DV) (h : H) : Ans := vK (v_geq r0 (.int .u32 (.ofNat 256))) fun x1 => bK x1 (vK (v_shr r0 (.int .u64 (.ofNat 8))) fun x2 => vK (v_add r2 (ii 8)) fun x3 => J179_2 E x2 x3 h) (J179_2 E r0 r2 h)
def J179_0 (r0 : DV) (h : H) : Ans := vK (v_geq r0 (.int .u32 (.ofNat 65536))) fun x1 => bK x1 (vK (v_shr r0 (.int .u64 (.ofNat 16))) fun x2 => J179_1 E x2 (ii 16) h) (J179_1 E r0 (ii 0) h)
theorem I179_2 : Is E C179_2 (retK3 D179.res) (fun σ h => J179_2 E (σ p0) (σ p2) h) := Is.rf
theorem I179_1 : Is E C179_1 (retK3 D179.res) (fun σ h => J179_1 E (σ p0) (σ p2) h) := Is.aq (Is.sq (I179_2 E) (Is.leaf _))
theorem I179_0 : iB1 E D179 (J179_0 E) := Is.aq (Is.sq (Is.sq (I179_1 E) (Is.leaf _)) (Is.leaf _))
def S179 : Fun := fA1 (J179_0 E)
theorem S179_eq : SQ D179 S179 := eB1 I179_0
def fs0 : List FD := [⟨3, D3, S3⟩, ⟨4, D4, S4⟩, ⟨5, D5, S5⟩, ⟨6, D6, S6⟩, ⟨7, D7, S7⟩, ⟨8, D8, S8⟩, ⟨9, D9, S9⟩, ⟨10, D10, S10⟩, ⟨11, D11, S11⟩, ⟨12, D12, S12⟩, ⟨13, D13, S13⟩, ⟨14, D14, S14⟩, ⟨15, D15, S15⟩, ⟨16, D16, S16⟩, ⟨17, D17, S17⟩, ⟨18, D18, S18⟩, ⟨19, D19, S19⟩, ⟨20, D20, S20⟩, ⟨21, D21, S21⟩, ⟨22, D22, S22⟩, ⟨23, D23, S23⟩, ⟨24, D24, S24⟩, ⟨25, D25, S25⟩, ⟨26, D26, S26⟩, ⟨27, D27, S27⟩, ⟨28, D28, S28⟩, ⟨29, D29, S29⟩, ⟨30, D30, S30⟩, ⟨31, D31, S31⟩, ⟨32, D32, S32⟩, ⟨34, D34, S34⟩, ⟨38, D38, S38⟩, ⟨39, D39, S39⟩, ⟨40, D40, S40⟩, ⟨41, D41, S41⟩, ⟨42, D42, S42⟩, ⟨43, D43, S43⟩, ⟨44, D44, S44⟩, ⟨45, D45, S45⟩, ⟨46, D46, S46⟩, ⟨47, D47, S47⟩, ⟨48, D48, S48⟩, ⟨50, D50, S50⟩, ⟨51, D51, S51⟩, ⟨52, D52, S52⟩, ⟨53, D53, S53⟩, ⟨54, D54, S54⟩, ⟨55, D55, S55⟩, ⟨56, D56, S56⟩, ⟨57, D57, S57⟩, ⟨58, D58, S58⟩, ⟨59, D59, S59⟩, ⟨63, D63, S63⟩, ⟨64, D64, S64⟩, ⟨65, D65, S65⟩, ⟨66, D66, S66⟩, ⟨67, D67, S67⟩, ⟨68, D68, S68⟩, ⟨69, D69, S69⟩, ⟨70, D70, S70⟩, ⟨71, D71, S71⟩, ⟨74, D74, S74⟩, ⟨75, D75, S75⟩, ⟨78, D78, S78⟩, ⟨79, D79, S79⟩, ⟨80, D80, S80⟩, ⟨83, D83, S83⟩, ⟨85, D85, S85⟩, ⟨86, D86, S86⟩, ⟨87, D87, S87⟩, ⟨88, D88, S88⟩, ⟨89, D89, S89⟩, ⟨90, D90, S90⟩, ⟨91, D91, S91⟩, ⟨92, D92, S92⟩, ⟨93, D93, S93⟩, ⟨94, D94, S94⟩, ⟨95, D95, S95⟩, ⟨101, D101, S101⟩, ⟨103, D103, S103⟩, ⟨105, D105, S105⟩, ⟨107, D107, S107⟩, ⟨109, D109, S109⟩, ⟨111, D111, S111⟩, ⟨112, D112, S112⟩, ⟨113, D113, S113⟩, ⟨114, D114, S114⟩, ⟨116, D116, S116⟩, ⟨122, D122, S122⟩, ⟨123, D123, S123⟩, ⟨124, D124, S124⟩, ⟨127, D127, S127⟩, ⟨130, D130, S130⟩, ⟨131, D131, S131⟩, ⟨133, D133, S133⟩, ⟨134, D134, S134⟩, ⟨135, D135, S135⟩, ⟨138, D138, S138⟩, ⟨140, D140, S140⟩, ⟨143, D143, S143⟩, ⟨144, D144, S144⟩, ⟨147, D147, S147⟩, ⟨153, D153, S153⟩, ⟨154, D154, S154⟩, ⟨155, D155, S155⟩, ⟨156, D156, S156⟩, ⟨157, D157, S157⟩, ⟨160, D160, S160⟩, ⟨161, D161, S161⟩, ⟨171, D171, S171⟩, ⟨172, D172, S172⟩, ⟨173, D173, S173⟩, ⟨174, D174, S174⟩, ⟨175, D175, S175⟩, ⟨176, D176, S176⟩, ⟨177, D177, S177⟩, ⟨178, D178, S178⟩, ⟨179, D179, S179⟩]
theorem fs0_eq : AllEq fs0 := ⟨S3_eq, ⟨S4_eq, ⟨S5_eq, ⟨S6_eq, ⟨S7_eq, ⟨S8_eq, ⟨S9_eq, ⟨S10_eq, ⟨S11_eq, ⟨S12_eq, ⟨S13_eq, ⟨S14_eq, ⟨S15_eq, ⟨S16_eq, ⟨S17_eq, ⟨S18_eq, ⟨S19_eq, ⟨S20_eq, ⟨S21_eq, ⟨S22_eq, ⟨S23_eq, ⟨S24_eq, ⟨S25_eq, ⟨S26_eq, ⟨S27_eq, ⟨S28_eq, ⟨S29_eq, ⟨S30_eq, ⟨S31_eq, ⟨S32_eq, ⟨S34_eq, ⟨S38_eq, ⟨S39_eq, ⟨S40_eq, ⟨S41_eq, ⟨S42_eq, ⟨S43_eq, ⟨S44_eq, ⟨S45_eq, ⟨S46_eq, ⟨S47_eq, ⟨S48_eq, ⟨S50_eq, ⟨S51_eq, ⟨S52_eq, ⟨S53_eq, ⟨S54_eq, ⟨S55_eq, ⟨S56_eq, ⟨S57_eq, ⟨S58_eq, ⟨S59_eq, ⟨S63_eq, ⟨S64_eq, ⟨S65_eq, ⟨S66_eq, ⟨S67_eq, ⟨S68_eq, ⟨S69_eq, ⟨S70_eq, ⟨S71_eq, ⟨S74_eq, ⟨S75_eq, ⟨S78_eq, ⟨S79_eq, ⟨S80_eq, ⟨S83_eq, ⟨S85_eq, ⟨S86_eq, ⟨S87_eq, ⟨S88_eq, ⟨S89_eq, ⟨S90_eq, ⟨S91_eq, ⟨S92_eq, ⟨S93_eq, ⟨S94_eq, ⟨S95_eq, ⟨S101_eq, ⟨S103_eq, ⟨S105_eq, ⟨S107_eq, ⟨S109_eq, ⟨S111_eq, ⟨S112_eq, ⟨S113_eq, ⟨S114_eq, ⟨S116_eq, ⟨S122_eq, ⟨S123_eq, ⟨S124_eq, ⟨S127_eq, ⟨S130_eq, ⟨S131_eq, ⟨S133_eq, ⟨S134_eq, ⟨S135_eq, ⟨S138_eq, ⟨S140_eq, ⟨S143_eq, ⟨S144_eq, ⟨S147_eq, ⟨S153_eq, ⟨S154_eq, ⟨S155_eq, ⟨S156_eq, ⟨S157_eq, ⟨S160_eq, ⟨S161_eq, ⟨S171_eq, ⟨S172_eq, ⟨S173_eq, ⟨S174_eq, ⟨S175_eq, ⟨S176_eq, ⟨S177_eq, ⟨S178_eq, ⟨S179_eq, trivial⟩⟩⟩⟩⟩⟩⟩⟩⟩⟩⟩⟩⟩⟩⟩⟩⟩⟩⟩⟩⟩⟩⟩⟩⟩⟩⟩⟩⟩⟩⟩⟩⟩⟩⟩⟩⟩⟩⟩⟩⟩⟩⟩⟩⟩⟩⟩⟩⟩⟩⟩⟩⟩⟩⟩⟩⟩⟩⟩⟩⟩⟩⟩⟩⟩⟩⟩⟩⟩⟩⟩⟩⟩⟩⟩⟩⟩⟩⟩⟩⟩⟩⟩⟩⟩⟩⟩⟩⟩⟩⟩⟩⟩⟩⟩⟩⟩⟩⟩⟩⟩⟩⟩⟩⟩⟩⟩⟩⟩⟩⟩⟩⟩⟩⟩⟩⟩⟩
end Go.Proofs.YtlofaapaahpjfaaGreatDoor
end

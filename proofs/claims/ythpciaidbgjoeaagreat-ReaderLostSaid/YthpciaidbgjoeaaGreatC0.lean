/- The functions of the program as D's and as plain Lean functions, and that both are the same. No condition. -/
import Derived.KernelRfl
import Derived.Test.YthpciaidbgjoeaaGreatDd
import Derived.Test.YthpciaidbgjoeaaGreatChecked
set_option linter.unusedVariables false
noncomputable section
namespace Go.Proofs.YthpciaidbgjoeaaGreat
open Go.DI
variable (E : bH)
def cm (f : Nat) : DF := cmF Tryz.prog f
attribute [irreducible] cm
def p0 : Pa := .h
def p1 : Pa := .l p0
def p2 : Pa := .r p0
def p3 : Pa := .l p1
def p4 : Pa := .r p1
def p5 : Pa := .l p2
def p6 : Pa := .r p2
def p7 : Pa := .l p3
def p8 : Pa := .r p3
def p9 : Pa := .l p4
def mC : Pa := .r p4
def tJ : Pa := .l p5
def tQ : Pa := .r p5
def tI : Pa := .l p6
def wN : Pa := .r p6
def p15 : Pa := .l p7
def p16 : Pa := .r p7
def p17 : Pa := .l p8
def p18 : Pa := .r p8
def p19 : Pa := .l p9
def p20 : Pa := .r p9
def p21 : Pa := .l mC
def p22 : Pa := .r mC
def p23 : Pa := .l tJ
def p24 : Pa := .r tJ
def p25 : Pa := .l tQ
def p26 : Pa := .r tQ
def p27 : Pa := .l tI
def p28 : Pa := .r tI
def p29 : Pa := .l wN
def p30 : Pa := .r wN
def p31 : Pa := .l p15
def p32 : Pa := .r p15
def p33 : Pa := .l p16
def p34 : Pa := .r p16
def p35 : Pa := .l p17
def p36 : Pa := .r p17
def p37 : Pa := .l p18
def p38 : Pa := .r p18
def p39 : Pa := .l p19
def p40 : Pa := .r p19
def p41 : Pa := .l p20
def p42 : Pa := .r p20
def p43 : Pa := .l p21
def p44 : Pa := .r p21
def p45 : Pa := .l p22
def p46 : Pa := .r p22
def p47 : Pa := .l p23
def p48 : Pa := .r p23
def p49 : Pa := .l p24
def p50 : Pa := .r p24
def p51 : Pa := .l p25
def p52 : Pa := .r p25
def p53 : Pa := .l p26
def p54 : Pa := .r p26
def p55 : Pa := .l p27
def p56 : Pa := .r p27
def p57 : Pa := .l p28
def p58 : Pa := .r p28
def p59 : Pa := .l p29
def p60 : Pa := .r p29
def p61 : Pa := .l p30
def p62 : Pa := .r p30
def p63 : Pa := .l p31
def p64 : Pa := .r p31
def p65 : Pa := .l p32
def p66 : Pa := .r p32
def p67 : Pa := .l p33
def p68 : Pa := .r p33
def p69 : Pa := .l p34
def p70 : Pa := .r p34
def p71 : Pa := .l p35
def p72 : Pa := .r p35
def p73 : Pa := .l p36
def p74 : Pa := .r p36
def p75 : Pa := .l p37
def p76 : Pa := .r p37
def p77 : Pa := .l p38
def p78 : Pa := .r p38
def p79 : Pa := .l p39
def p80 : Pa := .r p39
def p81 : Pa := .l p40
def p82 : Pa := .r p40
def p83 : Pa := .l p41
def p84 : Pa := .r p41
def p85 : Pa := .l p42
def p86 : Pa := .r p42
def p87 : Pa := .l p43
def p88 : Pa := .r p43
def p89 : Pa := .l p44
def p90 : Pa := .r p44
def p91 : Pa := .l p45
def p92 : Pa := .r p45
def p93 : Pa := .l p46
def p94 : Pa := .r p46
def p95 : Pa := .l p47
def p96 : Pa := .r p47
def p97 : Pa := .l p48
def p98 : Pa := .r p48
def p99 : Pa := .l p49
def p100 : Pa := .r p49
def p101 : Pa := .l p50
def p102 : Pa := .r p50
def p103 : Pa := .l p51
def p104 : Pa := .r p51
def p105 : Pa := .l p52
def p106 : Pa := .r p52
def p107 : Pa := .l p53
def p108 : Pa := .r p53
def p109 : Pa := .l p54
def p110 : Pa := .r p54
def p111 : Pa := .l p55
def p112 : Pa := .r p55
def p113 : Pa := .l p56
def p114 : Pa := .r p56
def p115 : Pa := .l p57
def p116 : Pa := .r p57
def p117 : Pa := .l p58
def p118 : Pa := .r p58
def p119 : Pa := .l p59
def p120 : Pa := .r p59
def p121 : Pa := .l p60
def p122 : Pa := .r p60
def p123 : Pa := .l p61
def p124 : Pa := .r p61
def p125 : Pa := .l p62
def p126 : Pa := .r p62
def p127 : Pa := .l p63
def p128 : Pa := .r p63
def p129 : Pa := .l p64
def p130 : Pa := .r p64
def D3 := cm 3
def aRF (r0 r1 r2 : DV) (h : H) : aV := vK (cR r0 (.str [])) λ x1 => aQ x1 false (λ kk => kk r0 h) h λ x2 h3 => aQ x1 false (λ kk => vK (eQ x2) λ v => kk v h3) h3 λ x4 h5 => aQ x1 false (λ kk => vK (dW x4 (ii 1536)) λ v => kk v h5) h5 λ x6 h7 => vK (aN x1 (.bool true) x6) λ x8 => bK x8 (wK (aC E 7 [] h7) λ x9 h10 => some (x9, h10)) (wK (aC E 8 [(ii 4), (ii 60), (ii 4), (ii 0)] h7) λ x11 h12 => wK (aC E 9 [x11, (ii 1), r0, (.int .i64 (.negSucc 0))] h12) λ x13 h14 => vK (aX 0 x13) λ x15 => vK (aX 1 x13) λ x16 => vK (dQ x16 (ii 0)) λ x17 => bK x17 (some ((.bool false), h14)) (vK (cS .u64 r1) λ x18 => vK (aCf x18 (.int .u64 (.ofNat 4))) λ x19 => vK (cS .i64 x19) λ x20 => vK (cS .u64 r2) λ x21 => vK (aCf x21 (.int .u64 (.ofNat 4))) λ x22 => vK (cS .i64 x22) λ x23 => wK (aC E 10 [x11] h14) λ x24 h25 => wK (aC E 11 [x24, x20, (.bool true)] h25) λ x26 h27 => wK (aC E 10 [x11] h27) λ x28 h29 => wK (aC E 11 [x28, x23, (.bool true)] h29) λ x30 h31 => wK (aC E 12 [x11, x15] h31) λ x32 h33 => vK (aX 0 x32) λ x34 => vK (aX 1 x32) λ x35 => vK (dQ x20 x23) λ x36 => aQ x36 true (λ kk => kk x35 h33) h33 λ x37 h38 => aQ x36 true (λ kk => vK (dQ x37 (ii 9)) λ v => kk v h38) h38 λ x39 h40 => aQ x36 true (λ kk => kk x39 h40) h40 λ x41 h42 => aQ x41 false (λ kk => kk x34 h42) h42 λ x43 h44 => aQ x41 false (λ kk => vK (dQ x43 (.str [])) λ v => kk v h44) h44 λ x45 h46 => aQ x36 true (λ kk => vK (aN x41 (.bool true) x45) λ v => kk v h46) h46 λ x47 h48 => vK (aN x36 x47 (.bool false)) λ x49 => aQ x49 false (λ kk => kk x20 h48) h48 λ x50 h51 => aQ x49 false (λ kk => kk x23 h51) h51 λ x52 h53 => aQ x49 false (λ kk => vK (cR x50 x52) λ v => kk v h53) h53 λ x54 h55 => aQ x49 false (λ kk => kk x54 h55) h55 λ x56 h57 => aQ x56 true (λ kk => kk x35 h57) h57 λ x58 h59 => aQ x56 true (λ kk => vK (dQ x58 (ii 0)) λ v => kk v h59) h59 λ x60 h61 => aQ x56 true (λ kk => kk x60 h61) h61 λ x62 h63 => aQ x62 false (λ kk => kk x34 h63) h63 λ x64 h65 => aQ x62 false (λ kk => kk r0 h65) h65 λ x66 h67 => aQ x62 false (λ kk => vK (dQ x64 x66) λ v => kk v h67) h67 λ x68 h69 => aQ x56 true (λ kk => vK (aN x62 (.bool true) x68) λ v => kk v h69) h69 λ x70 h71 => aQ x49 false (λ kk => vK (aN x56 x70 (.bool false)) λ v => kk v h71) h71 λ x72 h73 => vK (aN x49 (.bool true) x72) λ x74 => bK x74 (some ((.bool false), h73)) (wK (aC E 10 [x11] h73) λ x75 h76 => wK (aC E 11 [x75, x20, (.bool false)] h76) λ x77 h78 => wK (aC E 10 [x11] h78) λ x79 h80 => wK (aC E 11 [x79, x23, (.bool false)] h80) λ x81 h82 => wK (aC E 12 [x11, x15] h82) λ x83 h84 => vK (aX 0 x83) λ x85 => vK (aX 1 x83) λ x86 => vK (cR x86 (ii 0)) λ x87 => aQ x87 true (λ kk => kk x85 h84) h84 λ x88 h89 => aQ x87 true (λ kk => kk r0 h89) h89 λ x90 h91 => aQ x87 true (λ kk => vK (cR x88 x90) λ v => kk v h91) h91 λ x92 h93 => vK (aN x87 x92 (.bool false)) λ x94 => aQ x94 true (λ kk => kk x11 h93) h93 λ x95 h96 => aQ x94 true (λ kk => kk x15 h96) h96 λ x97 h98 => aQ x94 true (λ kk => wK (aC E 13 [x95, x97] h98) kk) h98 λ x99 h100 => aQ x94 true (λ kk => vK (cR x99 (ii 0)) λ v => kk v h100) h100 λ x101 h102 => vK (aN x94 x101 (.bool false)) λ x103 => aQ x103 true (λ kk => wK (aC E 7 [] h102) kk) h102 λ x104 h105 => vK (aN x103 x104 (.bool false)) λ x106 => some (x106, h105))))
theorem I3_0 : iB3 E D3 (aRF E) := Is.rf
def S3 : bQ := fA3 (aRF E)
theorem bMP : SQ D3 S3 := eB3 I3_0
def D7 := cm 7
def J7_0 (h : H) : aV := wK (aC E 8 [(ii 3), (ii 60), (ii 3), (ii 0)] h) λ x1 h2 => vK (dN .ptr false h2.get x1 .nilp) λ x3 => bK x3 (some ((.bool false), h2)) (wK (aC E 9 [x1, (ii 0), (.str [97, 98, 99, 100, 101, 102]), (.int .i64 (.negSucc 0))] h2) λ x4 h5 => wK (aC E 16 [x1, (ii 0), (ii 1), (ii 2)] h5) λ x6 h7 => vK (aX 0 x6) λ x8 => vK (aX 1 x6) λ x9 => vK (aX 2 x6) λ x10 => wK (aC E 10 [x1] h7) λ x11 h12 => wK (aC E 11 [x11, (ii 0), (.bool true)] h12) λ x13 h14 => wK (aC E 12 [x1, (ii 0)] h14) λ x15 h16 => vK (aX 0 x15) λ x17 => vK (aX 1 x15) λ x18 => wK (aC E 15 [x1, (ii 0)] h16) λ x19 h20 => wK (aC E 16 [x1, (ii 0), (ii 1), (ii 1)] h20) λ x21 h22 => vK (aX 0 x21) λ x23 => vK (aX 1 x21) λ x24 => vK (aX 2 x21) λ x25 => wK (aC E 10 [x1] h22) λ x26 h27 => wK (aC E 11 [x26, (ii 1), (.bool true)] h27) λ x28 h29 => wK (aC E 12 [x1, (ii 0)] h29) λ x30 h31 => vK (aX 0 x30) λ x32 => vK (aX 1 x30) λ x33 => wK (aC E 12 [x1, (ii 1)] h31) λ x34 h35 => vK (aX 0 x34) λ x36 => vK (aX 1 x34) λ x37 => vK (cR x8 (.str [98, 99])) λ x38 => aQ x38 true (λ kk => kk x9 h35) h35 λ x39 h40 => aQ x38 true (λ kk => vK (cR x39 (ii 1)) λ v => kk v h40) h40 λ x41 h42 => vK (aN x38 x41 (.bool false)) λ x43 => aQ x43 true (λ kk => kk x10 h42) h42 λ x44 h45 => aQ x43 true (λ kk => vK (cR x44 (ii 0)) λ v => kk v h45) h45 λ x46 h47 => vK (aN x43 x46 (.bool false)) λ x48 => aQ x48 true (λ kk => kk x17 h47) h47 λ x49 h50 => aQ x48 true (λ kk => vK (cR x49 (.str [97, 98, 99, 100, 101, 102])) λ v => kk v h50) h50 λ x51 h52 => vK (aN x48 x51 (.bool false)) λ x53 => aQ x53 true (λ kk => kk x18 h52) h52 λ x54 h55 => aQ x53 true (λ kk => vK (cR x54 (ii 0)) λ v => kk v h55) h55 λ x56 h57 => vK (aN x53 x56 (.bool false)) λ x58 => aQ x58 true (λ kk => kk x19 h57) h57 λ x59 h60 => aQ x58 true (λ kk => eM 1 1 [(ii 0)] [(0, 1, (ii 0))] h60 kk) h60 λ x61 h62 => aQ x58 true (λ kk => wK (aC E 24 [x59, x61] h62) kk) h62 λ x63 h64 => vK (aN x58 x63 (.bool false)) λ x65 => aQ x65 true (λ kk => kk x23 h64) h64 λ x66 h67 => aQ x65 true (λ kk => vK (cR x66 (.str [98])) λ v => kk v h67) h67 λ x68 h69 => vK (aN x65 x68 (.bool false)) λ x70 => aQ x70 true (λ kk => kk x24 h69) h69 λ x71 h72 => aQ x70 true (λ kk => vK (cR x71 (ii 3)) λ v => kk v h72) h72 λ x73 h74 => vK (aN x70 x73 (.bool false)) λ x75 => aQ x75 true (λ kk => kk x25 h74) h74 λ x76 h77 => aQ x75 true (λ kk => vK (cR x76 (ii 0)) λ v => kk v h77) h77 λ x78 h79 => vK (aN x75 x78 (.bool false)) λ x80 => aQ x80 true (λ kk => kk x33 h79) h79 λ x81 h82 => aQ x80 true (λ kk => vK (cR x81 (ii 9)) λ v => kk v h82) h82 λ x83 h84 => vK (aN x80 x83 (.bool false)) λ x85 => aQ x85 true (λ kk => kk x37 h84) h84 λ x86 h87 => aQ x85 true (λ kk => vK (cR x86 (ii 7)) λ v => kk v h87) h87 λ x88 h89 => vK (aN x85 x88 (.bool false)) λ x90 => aQ x90 true (λ kk => kk x1 h89) h89 λ x91 h92 => aQ x90 true (λ kk => wK (aC E 13 [x91, (ii 0)] h92) kk) h92 λ x93 h94 => aQ x90 true (λ kk => vK (cR x93 (ii 9)) λ v => kk v h94) h94 λ x95 h96 => vK (aN x90 x95 (.bool false)) λ x97 => some (x97, h96))
theorem I7_0 : iB0 E D7 (J7_0 E) := Is.rf
def S7 : bQ := fA0 (J7_0 E)
theorem bMq : SQ D7 S7 := eB0 I7_0
def D8 := cm 8
def bAD (r0 r1 r2 r3 : DV) (h : H) : aV := vK (bY r0 (ii 1)) λ x1 => aQ x1 false (λ kk => kk r0 h) h λ x2 h3 => aQ x1 false (λ kk => vK (dW x2 (ii 8)) λ v => kk v h3) h3 λ x4 h5 => vK (aN x1 (.bool true) x4) λ x6 => aQ x6 false (λ kk => kk r2 h5) h5 λ x7 h8 => aQ x6 false (λ kk => vK (bY x7 (ii 2)) λ v => kk v h8) h8 λ x9 h10 => vK (aN x6 (.bool true) x9) λ x11 => aQ x11 false (λ kk => kk r2 h10) h10 λ x12 h13 => aQ x11 false (λ kk => vK (dW x12 (ii 8)) λ v => kk v h13) h13 λ x14 h15 => vK (aN x11 (.bool true) x14) λ x16 => aQ x16 false (λ kk => kk r3 h15) h15 λ x17 h18 => aQ x16 false (λ kk => vK (bY x17 (ii 0)) λ v => kk v h18) h18 λ x19 h20 => vK (aN x16 (.bool true) x19) λ x21 => aQ x21 false (λ kk => kk r3 h20) h20 λ x22 h23 => aQ x21 false (λ kk => kk r0 h23) h23 λ x24 h25 => aQ x21 false (λ kk => kk r2 h25) h25 λ x26 h27 => aQ x21 false (λ kk => vK (jD x24 x26) λ v => kk v h27) h27 λ x28 h29 => aQ x21 false (λ kk => vK (dW x22 x28) λ v => kk v h29) h29 λ x30 h31 => vK (aN x21 (.bool true) x30) λ x32 => bK x32 (some (.nilp, h31)) (wK (aC E 25 [r0, r1] h31) λ x33 h34 => wK (aC E 27 [(ii 0), r2] h34) λ x35 h36 => wK (aC E 27 [r2, r3] h36) λ x37 h38 => wK (aC E 26 [x35, x37] h38) λ x39 h40 => vK (dO [.nilp, .nilp, (ii 0), (ii 0), (ii 0), (ii 0), (ii 0), (ii 0), (ii 0), (ii 0), (ii 0), (ii 0), (ii 0), (ii 0), (ii 0), (ii 0), (ii 0), (ii 0), (ii 0)] [(0, 1, x33), (1, 1, x39), (2, 1, r2)]) λ x41 => dJ x41 h40 λ x42 h43 => some (x42, h43))
theorem I8_0 : iB4 E D8 (bAD E) := Is.rf
def S8 : bQ := fA4 (bAD E)
theorem bMk : SQ D8 S8 := eB4 I8_0
def D9 := cm 9
def C9_1 := cr (cr (cr (cr (cr (cr (cr D9.body))))))
def bIz := cl (cr (cl (cr (cr (cr (cr (cr (cr D9.body))))))))
def C9_3 := cr (cr (cr (cl bIz)))
def C9_4 := cr (cr (cr (cr (cl (cl (cr (cr (cl bIz))))))))
def bAB (r0 r1 r3 r12 r13 : DV) (h : H) : aV := vK (cR r13 r3) λ x1 => bK x1 (some ((.tup [(ii 0), (ii 16)]), h)) (eM 1 1 [(ii 0)] [(0, 1, r12)] h λ x2 h3 => wK (aC E 29 [r0, r1, (ii 2), x2] h3) λ x4 h5 => vK (aX 0 x4) λ x6 => vK (aX 1 x4) λ x7 => vK (dQ x6 (ii 0)) λ x8 => bK x8 (some ((.tup [(ii 0), x6]), h5)) (some ((.tup [r12, (ii 0)]), h5)))
def bAA (E : bH) (i2 : DV → DV → DV → H → aV) (r13 r14 r71 : DV) (h : H) : aV := vK (cF r71 (ii 1)) λ x1 => i2 r13 r14 x1 h
def bAz (i2 : DV → DV → DV → H → aV) (r0 r1 r12 r13 r14 r71 : DV) (h : H) : aV := vK (dW r14 (ii 1)) λ x1 => bK x1 (eM 1 1 [(ii 0)] [(0, 1, r12)] h λ x2 h3 => wK (aC E 29 [r0, r1, (ii 3), x2] h3) λ x4 h5 => wK (aC E 32 [r0, r12] h5) λ x6 h7 => some ((.tup [(ii 0), (ii 9)]), h7)) (bAA E i2 r13 r14 r71 h)
def aXJ (r0 r1 r3 r12 r69 r70 : DV) (i2 : DV → DV → DV → H → aV) (r13 r14 r71 : DV) (h : H) : aV := vK (bY r71 r70) λ x1 => bK x1 (vK (cV 1 r69 r71) λ x2 => vK (aO h.get x2) λ x3 => vK (cR r13 r3) λ x4 => bK x4 (some ((.tup [(ii 0), (ii 16)]), h)) (vK (cF r13 (ii 1)) λ x5 => wK (aC E 31 [r0, r12, r71, x3] h) λ x6 h7 => vK (dQ x6 (ii 0)) λ x8 => bK x8 (vK (cF r14 (ii 1)) λ x9 => bAz E i2 r0 r1 r12 x5 x9 r71 h7) (bAz E i2 r0 r1 r12 x5 r14 r71 h7))) (bAB E r0 r1 r3 r12 r13 h)
def aEr (r0 r1 r3 r12 r69 r70 : DV) (n : Nat) : DV → DV → DV → H → aV := Nat.rec (motive := λ _ => DV → DV → DV → H → aV) (λ _ _ _ _ => none) (λ _ i => aXJ E r0 r1 r3 r12 r69 r70 i) n
def bAC (r0 r1 r2 r3 : DV) (h : H) : aV := vK (dN .ptr false h.get r0 .nilp) λ x1 => aQ x1 false (λ kk => kk r1 h) h λ x2 h3 => aQ x1 false (λ kk => vK (bY x2 (ii 0)) λ v => kk v h3) h3 λ x4 h5 => vK (aN x1 (.bool true) x4) λ x6 => aQ x6 false (λ kk => kk r1 h5) h5 λ x7 h8 => aQ x6 false (λ kk => vK (fK x7 (ii 16)) λ v => kk v h8) h8 λ x9 h10 => vK (aN x6 (.bool true) x9) λ x11 => bK x11 (some ((.tup [(ii 0), (ii 1)]), h10)) (vK (cR r2 (.str [])) λ x12 => aQ x12 false (λ kk => kk r2 h10) h10 λ x13 h14 => aQ x12 false (λ kk => vK (eQ x13) λ v => kk v h14) h14 λ x15 h16 => aQ x12 false (λ kk => kk r0 h16) h16 λ x17 h18 => aQ x12 false (λ kk => wK (aC E 28 [x17] h18) kk) h18 λ x19 h20 => aQ x12 false (λ kk => vK (dW x15 x19) λ v => kk v h20) h20 λ x21 h22 => vK (aN x12 (.bool true) x21) λ x23 => bK x23 (some ((.tup [(ii 0), (ii 2)]), h22)) (vK (cR r3 (ii 0)) λ x24 => bK x24 (some ((.tup [(ii 0), (ii 16)]), h22)) (vK (eQ r2) λ x25 => eM 1 1 [(ii 0)] [(0, 1, x25)] h22 λ x26 h27 => wK (aC E 29 [r0, r1, (ii 1), x26] h27) λ x28 h29 => vK (aX 0 x28) λ x30 => vK (aX 1 x28) λ x31 => vK (dQ x30 (ii 0)) λ x32 => bK x32 (some ((.tup [(ii 0), x30]), h29)) (vK (cV 1 x31 (ii 0)) λ x33 => vK (aO h29.get x33) λ x34 => vK (aD r0) λ x35 => vK (aP 2 x35) λ x36 => vK (aO h29.get x36) λ x37 => wK (aC E 30 [r2, x37] h29) λ x38 h39 => vK (aX 0 x38) λ x40 => vK (aX 1 x38) λ x41 => vK (bO x40) λ x42 => aEr E r0 r1 r3 x34 x40 x42 aT (ii 1) (ii 0) (ii 0) h39))))
theorem I9_1 : Is E C9_1 (bV D9.res) (λ σ h => bAB E (σ p0) (σ p1) (σ p3) (σ tQ) (σ tI) h) := Is.rf
abbrev K9_5 : iL (DV × H) := (cK (λ σ h => bAB E (σ p0) (σ p1) (σ p3) (σ tQ) (σ tI) h) (bV D9.res))
abbrev K9_6 (n2 : Nat) : iL (DV × H) := (cK (λ σ h => (aEr E (σ p0) (σ p1) (σ p3) (σ tQ) (σ p69) (σ p70) n2) (σ tI) (σ wN) (σ p71) h) (bZ 1 (K9_5 E)))
theorem I9_3 (n2 : Nat) : Is E C9_3 (K9_6 E n2) (λ σ h => bAA E (aEr E (σ p0) (σ p1) (σ p3) (σ tQ) (σ p69) (σ p70) n2) (σ tI) (σ wN) (σ p71) h) := Is.rf
abbrev K9_7 (n2 : Nat) : iL (DV × H) := (cK (λ σ h => bAA E (aEr E (σ p0) (σ p1) (σ p3) (σ tQ) (σ p69) (σ p70) n2) (σ tI) (σ wN) (σ p71) h) (K9_6 E n2))
theorem I9_4 (n2 : Nat) : Is E C9_4 (bZ 2 (K9_7 E n2)) (λ σ h => bAz E (aEr E (σ p0) (σ p1) (σ p3) (σ tQ) (σ p69) (σ p70) n2) (σ p0) (σ p1) (σ tQ) (σ tI) (σ wN) (σ p71) h) := Is.rf
theorem I9_2 : Is E bIz (bZ 1 (K9_5 E)) (λ σ h => aEr E (σ p0) (σ p1) (σ p3) (σ tQ) (σ p69) (σ p70) aT (σ tI) (σ wN) (σ p71) h) := Is.lp (λ n2 σ h => aEr E (σ p0) (σ p1) (σ p3) (σ tQ) (σ p69) (σ p70) n2 (σ tI) (σ wN) (σ p71) h) λ n2 => Is.aq (Is.sq (Is.sq (Is.sq (I9_3 E n2) (Is.bk (Is.sq (Is.sq (Is.sq (Is.sq (I9_4 E n2) (Is.leaf _)) (Is.leaf _)) (Is.leaf _)) (Is.leaf _)))) (Is.leaf _)) (Is.leaf _))
theorem I9_0 : iB4 E D9 (bAC E) := Is.aq (Is.sq (Is.sq (Is.sq (Is.sq (Is.sq (Is.sq (Is.sq (I9_1 E) (Is.sq (Is.bk (I9_2 E)) (Is.leaf _))) (Is.leaf _)) (Is.leaf _)) (Is.leaf _)) (Is.leaf _)) (Is.leaf _)) (Is.leaf _))
def S9 : bQ := fA4 (bAC E)
theorem bMe : SQ D9 S9 := eB4 I9_0
def D10 := cm 10
def aQe (E : bH) (r0 : DV) (h : H) : aV := vK (dN .ptr false h.get r0 .nilp) λ x1 => bK x1 (some (.nilp, h)) (vK (aD r0) λ x2 => vK (aP 0 x2) λ x3 => vK (aO h.get x3) λ x4 => some (x4, h))
theorem bPO : nE E D10 (aQe E) := Is.rf
def S10 : bQ := mX (aQe E)
theorem bFp : SQ D10 S10 := nK bPO
def D11 := cm 11
def aQd (r0 r1 r2 : DV) (h : H) : aV := wK (aC E 33 [r0, r1] h) λ x1 h2 => vK (dN .ptr false h2.get x1 .nilp) λ x3 => aQ x3 false (λ kk => kk x1 h2) h2 λ x4 h5 => aQ x3 false (λ kk => vK (aD x4) λ v => kk v h5) h5 λ x6 h7 => aQ x3 false (λ kk => vK (aP 3 x6) λ v => kk v h7) h7 λ x8 h9 => aQ x3 false (λ kk => vK (aO h9.get x8) λ v => kk v h9) h9 λ x10 h11 => vK (aN x3 (.bool true) x10) λ x12 => bK x12 (some ((.bool false), h11)) (vK (aD x1) λ x13 => vK (aP 2 x13) λ x14 => wK (eK 1 x14 r2 h11) λ x15 h16 => some ((.bool true), h16))
theorem bPN : iB3 E D11 (aQd E) := Is.rf
def S11 : bQ := fA3 (aQd E)
theorem bFo : SQ D11 S11 := eB3 bPN
def D12 := cm 12
def aQc (r0 r1 : DV) (h : H) : aV := wK (aC E 34 [r0, r1] h) λ x1 h2 => vK (aX 0 x1) λ x3 => vK (aX 1 x1) λ x4 => vK (dQ x4 (ii 0)) λ x5 => bK x5 (some ((.tup [(.str []), x4]), h2)) (wK (aC E 35 [x3] h2) λ x6 h7 => vK (aX 0 x6) λ x8 => vK (aX 1 x6) λ x9 => some ((.tup [x8, x9]), h7))
theorem bPM : mQ E D12 (aQc E) := Is.rf
def S12 : bQ := mG (aQc E)
theorem bFn : SQ D12 S12 := mZ bPM
def D13 := cm 13
def aQb (r0 r1 : DV) (h : H) : aV := wK (aC E 34 [r0, r1] h) λ x1 h2 => vK (aX 0 x1) λ x3 => vK (aX 1 x1) λ x4 => vK (dQ x4 (ii 0)) λ x5 => bK x5 (some (x4, h2)) (wK (aC E 36 [x3] h2) λ x6 h7 => vK (bO x6) λ x8 => vK (dW x8 (ii 0)) λ x9 => bK x9 (some ((ii 9), h7)) (vK (aD x3) λ x10 => vK (aP 8 x10) λ x11 => vK (aO h7.get x11) λ x12 => wK (aC E 37 [x12] h7) λ x13 h14 => vK (eT x13) λ x15 => bK x15 (some ((ii 4), h14)) (some ((ii 0), h14))))
theorem bPL : mQ E D13 (aQb E) := Is.rf
def S13 : bQ := mG (aQb E)
theorem bFm : SQ D13 S13 := mZ bPL
def D15 := cm 15
def bCE (r0 r1 : DV) (h : H) : aV := wK (aC E 34 [r0, r1] h) λ x1 h2 => vK (aX 0 x1) λ x3 => vK (aX 1 x1) λ x4 => vK (dQ x4 (ii 0)) λ x5 => bK x5 (some (.nils, h2)) (wK (aC E 36 [x3] h2) λ x6 h7 => some (x6, h7))
theorem bPK : mQ E D15 (bCE E) := Is.rf
def S15 : bQ := mG (bCE E)
theorem bFk : SQ D15 S15 := mZ bPK
def D16 := cm 16
def aKe := cr D16.body
def bRM := cr (cr (cr (cr (cr aKe))))
def bRL := cl (cr (cl (cr (cr (cr (cr aKe))))))
def bRO := cr (cr (cr (cr (cr (cr (cr (cl aKe)))))))
def bRN := cl (cr (cl (cr (cr (cr (cr (cr (cr (cl aKe)))))))))
def aWx (r11 r15 : DV) (h : H) : aV := vK (iT h.get r15) λ x1 => wK (aC E 38 [r11] h) λ x2 h3 => rK (rcK (iT h3.get r15) x1) <| some ((.tup [x1, x2, (ii 0)]), h3)
def bRT (i1 : DV → H → aV) (r11 r17 : DV) (i5 : DV → DV → H → aV) (r15 r16 : DV) (h : H) : aV := vK (bY r16 r17) λ x1 => bK x1 (vK (aD r11) λ x2 => vK (aP 7 x2) λ x3 => vK (aO h.get x3) λ x4 => vK (aCg r16 x4) λ x5 => wK (aC E 39 [r11, x5] h) λ x6 h7 => vK (eT x6) λ x8 => bK x8 (i1 (.bool true) h7) (vK (cF x5 (ii 1)) λ x9 => vK (aD r11) λ x10 => vK (aP 7 x10) λ x11 => vK (aO h7.get x11) λ x12 => vK (jM x9 x12) λ x13 => vK (aAf r17 x13) λ x14 => vK (aD r11) λ x15 => vK (aP 8 x15) λ x16 => vK (aO h7.get x16) λ x17 => vK (cV 1 x17 x5) λ x18 => vK (aO h7.get x18) λ x19 => vK (aD r11) λ x20 => vK (aP 7 x20) λ x21 => vK (aO h7.get x21) λ x22 => vK (jM x5 x22) λ x23 => vK (jD r16 x23) λ x24 => vK (aD r11) λ x25 => vK (aP 7 x25) λ x26 => vK (aO h7.get x26) λ x27 => vK (jM x5 x27) λ x28 => vK (jD x14 x28) λ x29 => vK (iM x19 (some x24) (some x29)) λ x30 => wK (cT 1 1 r15 x30 h7) λ x31 h32 => i5 x31 x14 h32)) (aWx E r11 r15 h)
def aVR (i1 : DV → H → aV) (r11 r17 : DV) (n : Nat) : DV → DV → H → aV := Nat.rec (motive := λ _ => DV → DV → H → aV) (λ _ _ _ => none) (λ _ i => bRT E i1 r11 r17 i) n
def bRV (r2 r3 r11 : DV) (i1 : DV → H → aV) (r13 : DV) (h : H) : aV := bK r13 (wK (aC E 35 [r11] h) λ x1 h2 => vK (aX 0 x1) λ x3 => vK (aX 1 x1) λ x4 => vK (dQ x4 (ii 0)) λ x5 => bK x5 (some ((.tup [(.str []), (ii 0), x4]), h2)) (vK (cF r2 r3) λ x6 => vK (iM x3 (some r2) (some x6)) λ x7 => wK (aC E 38 [r11] h2) λ x8 h9 => some ((.tup [x7, x8, (ii 0)]), h9))) (vK (cF r2 r3) λ x10 => aVR E i1 r11 x10 aT .nils r2 h)
def aFD (r2 r3 r11 : DV) (n : Nat) : DV → H → aV := Nat.rec (motive := λ _ => DV → H → aV) (λ _ _ => none) (λ _ i => bRV E r2 r3 r11 i) n
def aWy (r11 r15 : DV) (h : H) : aV := vK (iT h.get r15) λ x1 => wK (aC E 38 [r11] h) λ x2 h3 => rK (rcK (iT h3.get r15) x1) <| some ((.tup [x1, x2, (ii 0)]), h3)
def bRU (r2 r3 r11 r17 : DV) (i3 : DV → DV → H → aV) (r15 r16 : DV) (h : H) : aV := vK (bY r16 r17) λ x1 => bK x1 (vK (aD r11) λ x2 => vK (aP 7 x2) λ x3 => vK (aO h.get x3) λ x4 => vK (aCg r16 x4) λ x5 => wK (aC E 39 [r11, x5] h) λ x6 h7 => vK (eT x6) λ x8 => bK x8 (aFD E r2 r3 r11 aT (.bool true) h7) (vK (cF x5 (ii 1)) λ x9 => vK (aD r11) λ x10 => vK (aP 7 x10) λ x11 => vK (aO h7.get x11) λ x12 => vK (jM x9 x12) λ x13 => vK (aAf r17 x13) λ x14 => vK (aD r11) λ x15 => vK (aP 8 x15) λ x16 => vK (aO h7.get x16) λ x17 => vK (cV 1 x17 x5) λ x18 => vK (aO h7.get x18) λ x19 => vK (aD r11) λ x20 => vK (aP 7 x20) λ x21 => vK (aO h7.get x21) λ x22 => vK (jM x5 x22) λ x23 => vK (jD r16 x23) λ x24 => vK (aD r11) λ x25 => vK (aP 7 x25) λ x26 => vK (aO h7.get x26) λ x27 => vK (jM x5 x27) λ x28 => vK (jD x14 x28) λ x29 => vK (iM x19 (some x24) (some x29)) λ x30 => wK (cT 1 1 r15 x30 h7) λ x31 h32 => i3 x31 x14 h32)) (aWy E r11 r15 h)
def aVS (r2 r3 r11 r17 : DV) (n : Nat) : DV → DV → H → aV := Nat.rec (motive := λ _ => DV → DV → H → aV) (λ _ _ _ => none) (λ _ i => bRU E r2 r3 r11 r17 i) n
def bCC (r0 r1 r2 r3 : DV) (h : H) : aV := wK (aC E 34 [r0, r1] h) λ x1 h2 => vK (aX 0 x1) λ x3 => vK (aX 1 x1) λ x4 => vK (dQ x4 (ii 0)) λ x5 => bK x5 (some ((.tup [(.str []), (ii 0), x4]), h2)) (vK (bY r2 (ii 0)) λ x6 => aQ x6 false (λ kk => kk r3 h2) h2 λ x7 h8 => aQ x6 false (λ kk => vK (bY x7 (ii 0)) λ v => kk v h8) h8 λ x9 h10 => vK (aN x6 (.bool true) x9) λ x11 => aQ x11 false (λ kk => kk r2 h10) h10 λ x12 h13 => aQ x11 false (λ kk => kk x3 h13) h13 λ x14 h15 => aQ x11 false (λ kk => vK (aD x14) λ v => kk v h15) h15 λ x16 h17 => aQ x11 false (λ kk => vK (aP 1 x16) λ v => kk v h17) h17 λ x18 h19 => aQ x11 false (λ kk => vK (aP 4 x18) λ v => kk v h19) h19 λ x20 h21 => aQ x11 false (λ kk => vK (aO h21.get x20) λ v => kk v h21) h21 λ x22 h23 => aQ x11 false (λ kk => vK (dW x12 x22) λ v => kk v h23) h23 λ x24 h25 => vK (aN x11 (.bool true) x24) λ x26 => aQ x26 false (λ kk => kk r3 h25) h25 λ x27 h28 => aQ x26 false (λ kk => kk x3 h28) h28 λ x29 h30 => aQ x26 false (λ kk => vK (aD x29) λ v => kk v h30) h30 λ x31 h32 => aQ x26 false (λ kk => vK (aP 1 x31) λ v => kk v h32) h32 λ x33 h34 => aQ x26 false (λ kk => vK (aP 4 x33) λ v => kk v h34) h34 λ x35 h36 => aQ x26 false (λ kk => vK (aO h36.get x35) λ v => kk v h36) h36 λ x37 h38 => aQ x26 false (λ kk => kk r2 h38) h38 λ x39 h40 => aQ x26 false (λ kk => vK (jD x37 x39) λ v => kk v h40) h40 λ x41 h42 => aQ x26 false (λ kk => vK (dW x27 x41) λ v => kk v h42) h42 λ x43 h44 => vK (aN x26 (.bool true) x43) λ x45 => bK x45 (some ((.tup [(.str []), (ii 0), (ii 1)]), h44)) (bK (.bool false) (wK (aC E 35 [x3] h44) λ x46 h47 => vK (aX 0 x46) λ x48 => vK (aX 1 x46) λ x49 => vK (dQ x49 (ii 0)) λ x50 => bK x50 (some ((.tup [(.str []), (ii 0), x49]), h47)) (vK (cF r2 r3) λ x51 => vK (iM x48 (some r2) (some x51)) λ x52 => wK (aC E 38 [x3] h47) λ x53 h54 => some ((.tup [x52, x53, (ii 0)]), h54))) (vK (cF r2 r3) λ x55 => aVS E r2 r3 x3 x55 aT .nils r2 h44)))
def bCD (r0 r1 r2 r3 : DV) (h : H) : aV := bCC E r0 r1 r2 r3 h
abbrev bBZ (n1 : Nat) : iL (DV × H) := (sK 4294967296 (λ σ h => (aFD E (σ p2) (σ p3) (σ tJ) n1) (σ tI) h) (bV D16.res))
theorem bPF (n1 : Nat) : Is E bRM (bBZ E n1) (λ σ h => aWx E (σ tJ) (σ p15) h) := Is.rf
abbrev bNv (n1 : Nat) : iL (DV × H) := (cK (λ σ h => aWx E (σ tJ) (σ p15) h) (bBZ E n1))
theorem bPE (n1 : Nat) : Is E bRL (bZ 1 (bNv E n1)) (λ σ h => aVR E (aFD E (σ p2) (σ p3) (σ tJ) n1) (σ tJ) (σ p17) aT (σ p15) (σ p16) h) := Is.lp (λ n5 σ h => aVR E (aFD E (σ p2) (σ p3) (σ tJ) n1) (σ tJ) (σ p17) n5 (σ p15) (σ p16) h) λ n5 => Is.aq (Is.leaf _)
abbrev bBY : iL (DV × H) := (sK 4294967296 (λ σ h => aFD E (σ p2) (σ p3) (σ tJ) aT (σ tI) h) (bV D16.res))
theorem bPH : Is E bRO (bBY E) (λ σ h => aWy E (σ tJ) (σ p15) h) := Is.rf
abbrev bNu : iL (DV × H) := (cK (λ σ h => aWy E (σ tJ) (σ p15) h) (bBY E))
theorem bPG : Is E bRN (bZ 1 (bNu E)) (λ σ h => aVS E (σ p2) (σ p3) (σ tJ) (σ p17) aT (σ p15) (σ p16) h) := Is.lp (λ n3 σ h => aVS E (σ p2) (σ p3) (σ tJ) (σ p17) n3 (σ p15) (σ p16) h) λ n3 => Is.aq (Is.leaf _)
theorem bPI : Is E aKe (bV D16.res) (λ σ h => bCC E (σ p0) (σ p1) (σ p2) (σ p3) h) := Is.aq (Is.jm (g := 4294967296) (λ n1 σ h => aFD E (σ p2) (σ p3) (σ tJ) n1 (σ tI) h) (λ n1 => Is.aq (Is.sq (Is.sq (Is.sq (Is.sq (bPF E n1) (Is.sq (Is.bk (bPE E n1)) (Is.leaf _))) (Is.leaf _)) (Is.leaf _)) (Is.leaf _))) (Is.sq (Is.sq (Is.sq (Is.sq (Is.sq (Is.sq (Is.sq (bPH E) (Is.sq (Is.bk (bPG E)) (Is.leaf _))) (Is.leaf _)) (Is.leaf _)) (Is.leaf _)) (Is.leaf _)) (Is.leaf _)) (Is.leaf _)))
theorem bPJ : iB4 E D16 (bCD E) := Is.aq (Is.sq (bPI E) (Is.leaf _))
def S16 : bQ := fA4 (bCD E)
theorem bFj : SQ D16 S16 := eB4 bPJ
def D24 := cm 24
def bRK := cr (cr (cr D24.body))
def bRJ := cl (cr (cl (cr (cr D24.body))))
def aWl (E : bH) (h : H) : aV := some ((.bool true), h)
def bRS (r0 r1 : DV) (i2 : DV → H → aV) (r5 : DV) (h : H) : aV := vK (bO r0) λ x1 => vK (bY r5 x1) λ x2 => bK x2 (vK (cV 1 r0 r5) λ x3 => vK (aO h.get x3) λ x4 => vK (cV 1 r1 r5) λ x5 => vK (aO h.get x5) λ x6 => vK (dQ x4 x6) λ x7 => bK x7 (some ((.bool false), h)) (vK (cF r5 (ii 1)) λ x8 => i2 x8 h)) (aWl E h)
def aVQ (r0 r1 : DV) (n : Nat) : DV → H → aV := Nat.rec (motive := λ _ => DV → H → aV) (λ _ _ => none) (λ _ i => bRS E r0 r1 i) n
def bCB (r0 r1 : DV) (h : H) : aV := vK (bO r0) λ x1 => vK (bO r1) λ x2 => vK (dQ x1 x2) λ x3 => bK x3 (some ((.bool false), h)) (aVQ E r0 r1 aT (ii 0) h)
theorem bPC : Is E bRK (bV D24.res) (λ σ h => aWl E h) := Is.rf
abbrev bNt : iL (DV × H) := (bZ 0 (cK (λ σ h => aWl E h) (bV D24.res)))
theorem bPB : Is E bRJ (bNt E) (λ σ h => aVQ E (σ p0) (σ p1) aT (σ p5) h) := Is.lp (λ n2 σ h => aVQ E (σ p0) (σ p1) n2 (σ p5) h) λ n2 => Is.aq (Is.leaf _)
theorem bPD : mQ E D24 (bCB E) := Is.aq (Is.sq (Is.sq (Is.sq (bPC E) (Is.sq (Is.bk (bPB E)) (Is.leaf _))) (Is.leaf _)) (Is.leaf _))
def S24 : bQ := mG (bCB E)
theorem bFi : SQ D24 S24 := mZ bPD
def D25 := cm 25
def bRI := cr (cr (cr D25.body))
def bRH := cl (cr (cl (cr (cr D25.body))))
def aPZ (E : bH) (r5 : DV) (h : H) : aV := some (r5, h)
def aKq (r1 r5 r13 : DV) (i2 : DV → H → aV) (r14 : DV) (h : H) : aV := vK (bY r14 r13) λ x1 => bK x1 (vK (yC r1 (ii 9)) λ x2 => wK (aC E 45 [x2] h) λ x3 h4 => wK (aC E 46 [x3] h4) λ x5 h6 => vK (aX 0 x5) λ x7 => vK (aX 1 x5) λ x8 => vK (aD r5) λ x9 => vK (aP 0 x9) λ x10 => vK (aO h6.get x10) λ x11 => vK (dO [.nilp, .nilp, (.bool false), (.bool false)] [(0, 1, x3), (1, 1, x7)]) λ x12 => dJ x12 h6 λ x13 h14 => eM 1 1 [.nilp] [(0, 1, x13)] h14 λ x15 h16 => wK (cT 1 8 x11 x15 h16) λ x17 h18 => vK (aD r5) λ x19 => vK (aP 0 x19) λ x20 => wK (eK 1 x20 x17 h18) λ x21 h22 => vK (cF r14 (ii 1)) λ x23 => i2 x23 h22) (aPZ E r5 h)
def aFC (r1 r5 r13 : DV) (n : Nat) : DV → H → aV := Nat.rec (motive := λ _ => DV → H → aV) (λ _ _ => none) (λ _ i => aKq E r1 r5 r13 i) n
def aQa (r0 r1 : DV) (h : H) : aV := vK (dO [.nils] []) λ x1 => dJ x1 h λ x2 h3 => vK (yC r0 (ii 1)) λ x4 => vK (aAf x4 (ii 8)) λ x5 => aFC E r1 x2 x5 aT (ii 0) h3
theorem bPz : Is E bRI (bV D25.res) (λ σ h => aPZ E (σ p5) h) := Is.rf
abbrev bNs : iL (DV × H) := (cK (λ σ h => aPZ E (σ p5) h) (bV D25.res))
theorem bPy : Is E bRH (bZ 0 (bNs E)) (λ σ h => aFC E (σ p1) (σ p5) (σ tI) aT (σ wN) h) := Is.lp (λ n2 σ h => aFC E (σ p1) (σ p5) (σ tI) n2 (σ wN) h) λ n2 => Is.aq (Is.leaf _)
theorem bPA : mQ E D25 (aQa E) := Is.aq (Is.sq (Is.sq (Is.sq (bPz E) (Is.sq (Is.bk (bPy E)) (Is.leaf _))) (Is.leaf _)) (Is.leaf _))
def S25 : bQ := mG (aQa E)
theorem bFh : SQ D25 S25 := mZ bPA
def D26 := cm 26
def bCA (r0 r1 : DV) (h : H) : aV := wK (aC E 47 [r0, r1] h) λ x1 h2 => vK (dN .ptr false h2.get x1 .nilp) λ x3 => bK x3 (some (.nilp, h2)) (wK (aC E 48 [] h2) λ x4 h5 => wK (aC E 49 [] h5) λ x6 h7 => wK (aC E 50 [] h7) λ x8 h9 => wK (aC E 51 [] h9) λ x10 h11 => wK (aC E 52 [(ii 4)] h11) λ x12 h13 => vK (dO [.nilp, .nilp, .nilp, .nilp, .nilp, .nilp, (ii 0)] [(0, 1, x1), (1, 1, x4), (2, 1, x6), (3, 1, x8), (4, 1, x10), (5, 1, x12)]) λ x14 => dJ x14 h13 λ x15 h16 => some (x15, h16))
theorem bPx : mQ E D26 (bCA E) := Is.rf
def S26 : bQ := mG (bCA E)
theorem aVd : SQ D26 S26 := mZ bPx
def D27 := cm 27
def bRG := cr (cr (cr D27.body))
def bRF := cl (cr (cl (cr (cr D27.body))))
def aWk (E : bH) (r5 : DV) (h : H) : aV := some (r5, h)
def bRR (r0 r5 r10 : DV) (i2 : DV → H → aV) (r11 : DV) (h : H) : aV := vK (bY r11 r10) λ x1 => bK x1 (vK (cF r0 r11) λ x2 => vK (cV 1 r5 r11) λ x3 => wK (eK 1 x3 x2 h) λ x4 h5 => vK (cF r11 (ii 1)) λ x6 => i2 x6 h5) (aWk E r5 h)
def aVP (r0 r5 r10 : DV) (n : Nat) : DV → H → aV := Nat.rec (motive := λ _ => DV → H → aV) (λ _ _ => none) (λ _ i => bRR E r0 r5 r10 i) n
def bCz (r0 r1 : DV) (h : H) : aV := kI 1 8 (ii 0) r1 r1 h λ x1 h2 => vK (bO x1) λ x3 => aVP E r0 x1 x3 aT (ii 0) h2
theorem bPv : Is E bRG (bV D27.res) (λ σ h => aWk E (σ p5) h) := Is.rf
abbrev bNr : iL (DV × H) := (cK (λ σ h => aWk E (σ p5) h) (bV D27.res))
theorem bPu : Is E bRF (bZ 0 (bNr E)) (λ σ h => aVP E (σ p0) (σ p5) (σ mC) aT (σ tJ) h) := Is.lp (λ n2 σ h => aVP E (σ p0) (σ p5) (σ mC) n2 (σ tJ) h) λ n2 => Is.aq (Is.leaf _)
theorem bPw : mQ E D27 (bCz E) := Is.aq (Is.sq (Is.sq (Is.sq (bPv E) (Is.sq (Is.bk (bPu E)) (Is.leaf _))) (Is.leaf _)) (Is.leaf _))
def S27 : bQ := mG (bCz E)
theorem aVc : SQ D27 S27 := mZ bPw
def D28 := cm 28
def aPY (E : bH) (r0 : DV) (h : H) : aV := vK (dN .ptr false h.get r0 .nilp) λ x1 => bK x1 (some ((ii 0), h)) (vK (aD r0) λ x2 => vK (aP 2 x2) λ x3 => vK (aO h.get x3) λ x4 => vK (jD x4 (ii 1)) λ x5 => vK (jM (ii 512) x5) λ x6 => some (x6, h))
theorem bPt : nE E D28 (aPY E) := Is.rf
def S28 : bQ := mX (aPY E)
theorem bFg : SQ D28 S28 := nK bPt
def D29 := cm 29
def bRE := cr (cr (cr (cr D29.body)))
def bCQ := cl (cr (cl (cr (cr (cr D29.body)))))
def bRD := cr (cr (cr (cl bCQ)))
def aWj (r0 r1 r10 : DV) (h : H) : aV := vK (dD 8 h.get r10) λ x1 => wK (aC E 53 [x1] h) λ x2 h3 => vK (aX 0 x2) λ x4 => vK (aX 1 x2) λ x5 => vK (dQ x5 (ii 0)) λ x6 => bK x6 (some ((.tup [(ii 1), .nils]), h3)) (vK (aD r0) λ x7 => vK (aP 3 x7) λ x8 => vK (pL 16 1 x8 r1) λ x9 => vK (aO h3.get x9) λ x10 => vK (cF x10 (ii 1)) λ x11 => vK (aD r0) λ x12 => vK (aP 3 x12) λ x13 => vK (pL 16 1 x13 r1) λ x14 => wK (eK 1 x14 x11 h3) λ x15 h16 => vK (aD r0) λ x17 => vK (aP 1 x17) λ x18 => vK (aO h16.get x18) λ x19 => wK (aC E 55 [x19, x4] h16) λ x20 h21 => wK (aC E 54 [x20] h21) λ x22 h23 => vK (aX 0 x22) λ x24 => vK (aX 1 x22) λ x25 => vK (aX 2 x22) λ x26 => some ((.tup [x24, x25]), h23))
def aWi (E : bH) (i2 : DV → H → aV) (r44 : DV) (h : H) : aV := vK (cF r44 (ii 1)) λ x1 => i2 x1 h
def bRQ (r0 r1 r3 r10 r42 r43 : DV) (i2 : DV → H → aV) (r44 : DV) (h : H) : aV := vK (bY r44 r43) λ x1 => bK x1 (vK (cV 1 r42 r44) λ x2 => vK (aO h.get x2) λ x3 => vK (bO r3) λ x4 => vK (bY r44 x4) λ x5 => bK x5 (vK (cV 1 r3 r44) λ x6 => vK (aO h.get x6) λ x7 => vK (aD x3) λ x8 => wK (eK 1 x8 x7 h) λ x9 h10 => aWi E i2 r44 h10) (aWi E i2 r44 h)) (aWj E r0 r1 r10 h)
def aJW (r0 r1 r3 r10 r42 r43 : DV) (n : Nat) : DV → H → aV := Nat.rec (motive := λ _ => DV → H → aV) (λ _ _ => none) (λ _ i => bRQ E r0 r1 r3 r10 r42 r43 i) n
def bCy (r0 r1 r2 r3 : DV) (h : H) : aV := vK (dN .ptr false h.get r0 .nilp) λ x1 => aQ x1 false (λ kk => kk r1 h) h λ x2 h3 => aQ x1 false (λ kk => vK (bY x2 (ii 0)) λ v => kk v h3) h3 λ x4 h5 => vK (aN x1 (.bool true) x4) λ x6 => aQ x6 false (λ kk => kk r1 h5) h5 λ x7 h8 => aQ x6 false (λ kk => vK (fK x7 (ii 16)) λ v => kk v h8) h8 λ x9 h10 => vK (aN x6 (.bool true) x9) λ x11 => bK x11 (some ((.tup [(ii 1), .nils]), h10)) (vK (aD r0) λ x12 => vK (aP 3 x12) λ x13 => vK (pL 16 1 x13 r1) λ x14 => vK (aO h10.get x14) λ x15 => vK (dO [(ii 0), (ii 0), (ii 0), (ii 0), (ii 0), (ii 0), (ii 0), (ii 0)] [(0, 1, r1), (1, 1, x15), (2, 1, r2)]) λ x16 => jG 8 8 (.list [(ii 0), (ii 0), (ii 0), (ii 0), (ii 0), (ii 0), (ii 0), (ii 0)]) h10 λ x17 h18 => wK (eK 8 x17 x16 h18) λ x19 h20 => vK (aP 3 x17) λ x21 => vK (aP 4 x17) λ x22 => vK (aP 5 x17) λ x23 => vK (aP 6 x17) λ x24 => vK (aP 7 x17) λ x25 => eM 5 1 [.nilp] [(0, 1, x21), (1, 1, x22), (2, 1, x23), (3, 1, x24), (4, 1, x25)] h20 λ x26 h27 => vK (bO x26) λ x28 => aJW E r0 r1 r3 x17 x26 x28 aT (ii 0) h27)
theorem bPr : Is E bRE (bV D29.res) (λ σ h => aWj E (σ p0) (σ p1) (σ mC) h) := Is.rf
abbrev bBX : iL (DV × H) := (cK (λ σ h => aWj E (σ p0) (σ p1) (σ mC) h) (bV D29.res))
abbrev bNq (n2 : Nat) : iL (DV × H) := (cK (λ σ h => (aJW E (σ p0) (σ p1) (σ p3) (σ mC) (σ p42) (σ p43) n2) (σ p44) h) (bZ 0 (bBX E)))
theorem bPp (n2 : Nat) : Is E bRD (bNq E n2) (λ σ h => aWi E (aJW E (σ p0) (σ p1) (σ p3) (σ mC) (σ p42) (σ p43) n2) (σ p44) h) := Is.rf
theorem bPq : Is E bCQ (bZ 0 (bBX E)) (λ σ h => aJW E (σ p0) (σ p1) (σ p3) (σ mC) (σ p42) (σ p43) aT (σ p44) h) := Is.lp (λ n2 σ h => aJW E (σ p0) (σ p1) (σ p3) (σ mC) (σ p42) (σ p43) n2 (σ p44) h) λ n2 => Is.aq (Is.sq (Is.sq (Is.sq (bPp E n2) (Is.leaf _)) (Is.leaf _)) (Is.leaf _))
theorem bPs : iB4 E D29 (bCy E) := Is.aq (Is.sq (Is.sq (Is.sq (Is.sq (bPr E) (Is.sq (Is.bk (bPq E)) (Is.leaf _))) (Is.leaf _)) (Is.leaf _)) (Is.leaf _))
def S29 : bQ := fA4 (bCy E)
theorem aVb : SQ D29 S29 := eB4 bPs
def D30 := cm 30
def bRC := cr (cr (cr (cr (cr (cr (cr D30.body))))))
def bRB := cl (cl (cr (cr (cr (cr (cr (cr D30.body)))))))
def aPW (r7 : DV) (h : H) : aV := wK (aC E 60 [r7, (.int .i64 (.negSucc 0))] h) λ x1 h2 => vK (aX 0 x1) λ x3 => vK (aX 1 x1) λ x4 => wK (aC E 61 [x3] h2) λ x5 h6 => eM 1 1 [(.str [])] [(0, 1, x5)] h6 λ x7 h8 => wK (cT 1 16 r7 x7 h8) λ x9 h10 => some ((.tup [x9, (ii 0)]), h10)
def aKp (r1 r9 : DV) (i2 : DV → H → aV) (r7 : DV) (h : H) : aV := vK (bO r7) λ x1 => vK (jD r1 (ii 1)) λ x2 => vK (bY x1 x2) λ x3 => bK x3 (eM 1 1 [(.str [])] [(0, 1, r9)] h λ x4 h5 => wK (cT 1 16 r7 x4 h5) λ x6 h7 => i2 x6 h7) (aPW E r7 h)
def aFB (r1 r9 : DV) (n : Nat) : DV → H → aV := Nat.rec (motive := λ _ => DV → H → aV) (λ _ _ => none) (λ _ i => aKp E r1 r9 i) n
def aPX (r0 r1 : DV) (h : H) : aV := wK (aC E 56 [r1] h) λ x1 h2 => vK (eT x1) λ x3 => bK x3 (some ((.tup [.nils, (ii 1)]), h2)) (vK (eQ r0) λ x4 => wK (aC E 57 [x4, r1] h2) λ x5 h6 => vK (eQ r0) λ x7 => vK (dW x7 (ii 65536)) λ x8 => aQ x8 false (λ kk => kk x5 h6) h6 λ x9 h10 => aQ x8 false (λ kk => vK (dW x9 (ii 512)) λ v => kk v h10) h10 λ x11 h12 => vK (aN x8 (.bool true) x11) λ x13 => bK x13 (some ((.tup [.nils, (ii 2)]), h12)) (vK (yC x5 (ii 1)) λ x14 => wK (aC E 58 [r0, x14] h12) λ x15 h16 => vK (aX 0 x15) λ x17 => vK (aX 1 x15) λ x18 => wK (aC E 59 [(.str []), x5] h16) λ x19 h20 => vK (aX 0 x19) λ x21 => vK (aX 1 x19) λ x22 => aFB E r1 x21 aT x17 h20))
theorem bPn : Is E bRC (bV D30.res) (λ σ h => aPW E (σ p7) h) := Is.rf
abbrev bNp : iL (DV × H) := (cK (λ σ h => aPW E (σ p7) h) (bV D30.res))
theorem bPm : Is E bRB (bZ 0 (bNp E)) (λ σ h => aFB E (σ p1) (σ p9) aT (σ p7) h) := Is.lp (λ n2 σ h => aFB E (σ p1) (σ p9) n2 (σ p7) h) λ n2 => Is.aq (Is.leaf _)
theorem bPo : mQ E D30 (aPX E) := Is.aq (Is.sq (Is.sq (Is.sq (Is.sq (Is.sq (Is.sq (Is.sq (bPn E) (Is.bk (bPm E))) (Is.leaf _)) (Is.leaf _)) (Is.leaf _)) (Is.leaf _)) (Is.leaf _)) (Is.leaf _))
def S30 : bQ := mG (aPX E)
theorem bFf : SQ D30 S30 := mZ bPo
def D31 := cm 31
def aPV (r0 r1 r2 r3 : DV) (h : H) : aV := vK (dN .ptr false h.get r0 .nilp) λ x1 => bK x1 (some ((ii 1), h)) (wK (aC E 62 [r0, r1, r2] h) λ x2 h3 => vK (aX 0 x2) λ x4 => vK (aX 1 x2) λ x5 => vK (eT x5) λ x6 => bK x6 (some ((ii 7), h3)) (vK (aD r0) λ x7 => vK (aP 0 x7) λ x8 => vK (aO h3.get x8) λ x9 => vK (dO [(ii 0), (ii 0)] [(0, 1, r1), (1, 1, r2)]) λ x10 => wK (aC E 63 [x9, x4, x10, r3] h3) λ x11 h12 => some (x11, h12)))
theorem bPl : iB4 E D31 (aPV E) := Is.rf
def S31 : bQ := fA4 (aPV E)
theorem bFe : SQ D31 S31 := eB4 bPl
def D33 := cm 33
def aPU (E : bH) (r0 r1 : DV) (h : H) : aV := vK (dN .ptr false h.get r0 .nilp) λ x1 => aQ x1 false (λ kk => kk r1 h) h λ x2 h3 => aQ x1 false (λ kk => vK (bY x2 (ii 0)) λ v => kk v h3) h3 λ x4 h5 => vK (aN x1 (.bool true) x4) λ x6 => aQ x6 false (λ kk => kk r1 h5) h5 λ x7 h8 => aQ x6 false (λ kk => kk r0 h8) h8 λ x9 h10 => aQ x6 false (λ kk => vK (aD x9) λ v => kk v h10) h10 λ x11 h12 => aQ x6 false (λ kk => vK (aP 0 x11) λ v => kk v h12) h12 λ x13 h14 => aQ x6 false (λ kk => vK (aO h14.get x13) λ v => kk v h14) h14 λ x15 h16 => aQ x6 false (λ kk => vK (bO x15) λ v => kk v h16) h16 λ x17 h18 => aQ x6 false (λ kk => vK (fK x7 x17) λ v => kk v h18) h18 λ x19 h20 => vK (aN x6 (.bool true) x19) λ x21 => bK x21 (some (.nilp, h20)) (vK (aD r0) λ x22 => vK (aP 0 x22) λ x23 => vK (aO h20.get x23) λ x24 => vK (cV 1 x24 r1) λ x25 => vK (aO h20.get x25) λ x26 => some (x26, h20))
theorem bPk : mQ E D33 (aPU E) := Is.rf
def S33 : bQ := mG (aPU E)
theorem bFd : SQ D33 S33 := mZ bPk
def D34 := cm 34
def aPT (r0 r1 : DV) (h : H) : aV := vK (dN .ptr false h.get r0 .nilp) λ x1 => bK x1 (some ((.tup [.nilp, (ii 1)]), h)) (wK (aC E 41 [r0] h) λ x2 h3 => wK (aC E 65 [x2, r1] h3) λ x4 h5 => vK (aX 0 x4) λ x6 => vK (aX 1 x4) λ x7 => jG 6 6 (.list [(ii 0), (ii 0), (ii 0), (ii 0), (ii 0), .nils]) h5 λ x8 h9 => wK (eK 6 x8 x6 h9) λ x10 h11 => vK (eT x7) λ x12 => aQ x12 false (λ kk => vK (aP 1 x8) λ v => kk v h11) h11 λ x13 h14 => aQ x12 false (λ kk => vK (aO h14.get x13) λ v => kk v h14) h14 λ x15 h16 => aQ x12 false (λ kk => vK (dQ x15 (ii 2)) λ v => kk v h16) h16 λ x17 h18 => vK (aN x12 (.bool true) x17) λ x19 => bK x19 (some ((.tup [.nilp, (ii 7)]), h18)) (vK (aP 5 x8) λ x20 => vK (aO h18.get x20) λ x21 => vK (bO x21) λ x22 => vK (dD 6 h18.get x8) λ x23 => vK (aP 4 x8) λ x24 => vK (aO h18.get x24) λ x25 => kI 1 16 (.str []) x22 x22 h18 λ x26 h27 => kI 1 1 (.bool false) x22 x22 h27 λ x28 h29 => kI 1 1 (.bool false) x22 x22 h29 λ x30 h31 => wK (aC E 57 [x25, x22] h31) λ x32 h33 => rK (rcK (dD 6 h33.get x8) x23) <| vK (dO [.nilp, (ii 0), (ii 0), (ii 0), (ii 0), (ii 0), .nils, (ii 0), .nils, .nils, .nils] [(0, 1, r0), (1, 6, x23), (7, 1, x32), (8, 1, x26), (9, 1, x28), (10, 1, x30)]) λ x34 => dJ x34 h33 λ x35 h36 => some ((.tup [x35, (ii 0)]), h36)))
theorem bPj : mQ E D34 (aPT E) := Is.rf
def S34 : bQ := mG (aPT E)
theorem bFc : SQ D34 S34 := mZ bPj
def D35 := cm 35
def bRA := cr (cr (cr (cr D35.body)))
def bRz := cl (cr (cl (cr (cr (cr D35.body)))))
def aJZ (r0 : DV) (h : H) : aV := vK (aD r0) λ x1 => vK (aP 8 x1) λ x2 => vK (aO h.get x2) λ x3 => vK (aD r0) λ x4 => vK (aP 1 x4) λ x5 => vK (aP 4 x5) λ x6 => vK (aO h.get x6) λ x7 => wK (aC E 67 [x3, x7] h) λ x8 h9 => vK (aX 0 x8) λ x10 => vK (aX 1 x8) λ x11 => some ((.tup [x10, x11]), h9)
def aDS (r0 r12 r13 : DV) (i2 : DV → H → aV) (r14 : DV) (h : H) : aV := vK (bY r14 r13) λ x1 => bK x1 (vK (cV 1 r12 r14) λ x2 => vK (aO h.get x2) λ x3 => vK (aD r0) λ x4 => vK (aP 8 x4) λ x5 => vK (aO h.get x5) λ x6 => vK (aD r0) λ x7 => vK (aP 8 x7) λ x8 => vK (aO h.get x8) λ x9 => wK (aC E 66 [x9, x3] h) λ x10 h11 => rK (rcK (aO h11.get x5) x6) <| vK (aX 0 x10) λ x12 => vK (aX 1 x10) λ x13 => vK (cV 1 x6 x3) λ x14 => wK (eK 1 x14 x12 h11) λ x15 h16 => vK (cF r14 (ii 1)) λ x17 => i2 x17 h16) (aJZ E r0 h)
def aFA (r0 r12 r13 : DV) (n : Nat) : DV → H → aV := Nat.rec (motive := λ _ => DV → H → aV) (λ _ _ => none) (λ _ i => aDS E r0 r12 r13 i) n
def aPS (r0 : DV) (h : H) : aV := wK (aC E 36 [r0] h) λ x1 h2 => vK (bO x1) λ x3 => vK (dW x3 (ii 1)) λ x4 => bK x4 (some ((.tup [(.str []), (ii 9)]), h2)) (vK (bO x1) λ x5 => aFA E r0 x1 x5 aT (ii 0) h2)
theorem bPh : Is E bRA (bV D35.res) (λ σ h => aJZ E (σ p0) h) := Is.rf
abbrev bNo : iL (DV × H) := (cK (λ σ h => aJZ E (σ p0) h) (bV D35.res))
theorem bPg : Is E bRz (bZ 0 (bNo E)) (λ σ h => aFA E (σ p0) (σ tQ) (σ tI) aT (σ wN) h) := Is.lp (λ n2 σ h => aFA E (σ p0) (σ tQ) (σ tI) n2 (σ wN) h) λ n2 => Is.aq (Is.leaf _)
theorem bPi : nE E D35 (aPS E) := Is.aq (Is.sq (Is.sq (Is.sq (Is.sq (bPh E) (Is.sq (Is.bk (bPg E)) (Is.leaf _))) (Is.leaf _)) (Is.leaf _)) (Is.leaf _))
def S35 : bQ := mX (aPS E)
theorem bFb : SQ D35 S35 := nK bPi
def D36 := cm 36
def bRy := cr (cr (cr D36.body))
def bCP := cl (cr (cl (cr (cr D36.body))))
def bRx := cr (cr (cr (cl bCP)))
def aPQ (E : bH) (r3 : DV) (h : H) : aV := some (r3, h)
def aPP (E : bH) (i2 : DV → DV → H → aV) (r3 r10 : DV) (h : H) : aV := vK (cF r10 (ii 1)) λ x1 => i2 r3 x1 h
def aKo (r0 r9 : DV) (i2 : DV → DV → H → aV) (r3 r10 : DV) (h : H) : aV := vK (bY r10 r9) λ x1 => bK x1 (wK (aC E 39 [r0, r10] h) λ x2 h3 => vK (eT x2) λ x4 => bK x4 (eM 1 1 [(ii 0)] [(0, 1, r10)] h3 λ x5 h6 => wK (cT 1 8 r3 x5 h6) λ x7 h8 => aPP E i2 x7 r10 h8) (aPP E i2 r3 r10 h3)) (aPQ E r3 h)
def aBA (r0 r9 : DV) (n : Nat) : DV → DV → H → aV := Nat.rec (motive := λ _ => DV → DV → H → aV) (λ _ _ _ => none) (λ _ i => aKo E r0 r9 i) n
def aPR (r0 : DV) (h : H) : aV := vK (aD r0) λ x1 => vK (aP 8 x1) λ x2 => vK (aO h.get x2) λ x3 => vK (bO x3) λ x4 => aBA E r0 x4 aT .nils (ii 0) h
theorem bPe : Is E bRy (bV D36.res) (λ σ h => aPQ E (σ p3) h) := Is.rf
abbrev bBW : iL (DV × H) := (cK (λ σ h => aPQ E (σ p3) h) (bV D36.res))
abbrev bNn (n2 : Nat) : iL (DV × H) := (cK (λ σ h => (aBA E (σ p0) (σ p9) n2) (σ p3) (σ mC) h) (bZ 0 (bBW E)))
theorem bPc (n2 : Nat) : Is E bRx (bNn E n2) (λ σ h => aPP E (aBA E (σ p0) (σ p9) n2) (σ p3) (σ mC) h) := Is.rf
theorem bPd : Is E bCP (bZ 0 (bBW E)) (λ σ h => aBA E (σ p0) (σ p9) aT (σ p3) (σ mC) h) := Is.lp (λ n2 σ h => aBA E (σ p0) (σ p9) n2 (σ p3) (σ mC) h) λ n2 => Is.aq (Is.sq (Is.sq (Is.sq (bPc E n2) (Is.leaf _)) (Is.leaf _)) (Is.leaf _))
theorem bPf : nE E D36 (aPR E) := Is.aq (Is.sq (Is.sq (Is.sq (bPe E) (Is.sq (Is.bk (bPd E)) (Is.leaf _))) (Is.leaf _)) (Is.leaf _))
def S36 : bQ := mX (aPR E)
theorem bFa : SQ D36 S36 := nK bPf
def D37 := cm 37
def aPO (r0 : DV) (h : H) : aV := vK (bO r0) λ x1 => wK (aC E 56 [x1] h) λ x2 h3 => vK (eT x2) λ x4 => bK x4 (some ((.bool false), h3)) (wK (aC E 60 [r0, (.int .i64 (.negSucc 0))] h3) λ x5 h6 => vK (aX 0 x5) λ x7 => vK (aX 1 x5) λ x8 => aQ x8 true (λ kk => kk x7 h6) h6 λ x9 h10 => aQ x8 true (λ kk => vK (aD x9) λ v => kk v h10) h10 λ x11 h12 => aQ x8 true (λ kk => vK (dD 513 h12.get x11) λ v => kk v h12) h12 λ x13 h14 => aQ x8 true (λ kk => kk x7 h14) h14 λ x15 h16 => aQ x8 true (λ kk => vK (aD x15) λ v => kk v h16) h16 λ x17 h18 => aQ x8 true (λ kk => vK (aP 512 x17) λ v => kk v h18) h18 λ x19 h20 => aQ x8 true (λ kk => vK (aO h20.get x19) λ v => kk v h20) h20 λ x21 h22 => aQ x8 true (λ kk => vK (dO (zR [(.int .u8 (.ofNat 0))] 512 ++ [(ii 0)]) [(512, 1, x21)]) λ v => kk v h22) h22 λ x23 h24 => aQ x8 true (λ kk => vK (uA false (.arr .int 0 512 (.leaf .int 512 .nil)) h24.get x13 x23) λ v => kk v h24) h24 λ x25 h26 => vK (aN x8 x25 (.bool false)) λ x27 => some (x27, h26))
theorem bPb : nE E D37 (aPO E) := Is.rf
def S37 : bQ := mX (aPO E)
theorem bEZ : SQ D37 S37 := nK bPb
def D38 := cm 38
def bRw := cr (cr (cr D38.body))
def bCO := cl (cr (cl (cr (cr D38.body))))
def bRv := cr (cr (cr (cl bCO)))
def aWh (E : bH) (r3 : DV) (h : H) : aV := some (r3, h)
def aWg (E : bH) (i2 : DV → DV → H → aV) (r3 r11 : DV) (h : H) : aV := vK (cF r11 (ii 1)) λ x1 => i2 r3 x1 h
def bRP (r9 r10 : DV) (i2 : DV → DV → H → aV) (r3 r11 : DV) (h : H) : aV := vK (bY r11 r10) λ x1 => bK x1 (vK (cV 1 r9 r11) λ x2 => vK (aO h.get x2) λ x3 => bK x3 (vK (cF r3 (ii 1)) λ x4 => aWg E i2 x4 r11 h) (aWg E i2 r3 r11 h)) (aWh E r3 h)
def aJV (r9 r10 : DV) (n : Nat) : DV → DV → H → aV := Nat.rec (motive := λ _ => DV → DV → H → aV) (λ _ _ _ => none) (λ _ i => bRP E r9 r10 i) n
def bCx (r0 : DV) (h : H) : aV := vK (aD r0) λ x1 => vK (aP 9 x1) λ x2 => vK (aO h.get x2) λ x3 => vK (bO x3) λ x4 => aJV E x3 x4 aT (ii 0) (ii 0) h
theorem bOZ : Is E bRw (bV D38.res) (λ σ h => aWh E (σ p3) h) := Is.rf
abbrev bBV : iL (DV × H) := (cK (λ σ h => aWh E (σ p3) h) (bV D38.res))
abbrev bNm (n2 : Nat) : iL (DV × H) := (cK (λ σ h => (aJV E (σ p9) (σ mC) n2) (σ p3) (σ tJ) h) (bZ 0 (bBV E)))
theorem bOX (n2 : Nat) : Is E bRv (bNm E n2) (λ σ h => aWg E (aJV E (σ p9) (σ mC) n2) (σ p3) (σ tJ) h) := Is.rf
theorem bOY : Is E bCO (bZ 0 (bBV E)) (λ σ h => aJV E (σ p9) (σ mC) aT (σ p3) (σ tJ) h) := Is.lp (λ n2 σ h => aJV E (σ p9) (σ mC) n2 (σ p3) (σ tJ) h) λ n2 => Is.aq (Is.sq (Is.sq (Is.sq (bOX E n2) (Is.leaf _)) (Is.leaf _)) (Is.leaf _))
theorem bPa : nE E D38 (bCx E) := Is.aq (Is.sq (Is.sq (Is.sq (bOZ E) (Is.sq (Is.bk (bOY E)) (Is.leaf _))) (Is.leaf _)) (Is.leaf _))
def S38 : bQ := mX (bCx E)
theorem bEY : SQ D38 S38 := nK bPa
def D39 := cm 39
def bRu := cr (cr D39.body)
def aPM (E : bH) (r0 r1 : DV) (h : H) : aV := vK (aD r0) λ x1 => vK (aP 10 x1) λ x2 => vK (aO h.get x2) λ x3 => vK (cV 1 x3 r1) λ x4 => vK (aO h.get x4) λ x5 => some (x5, h)
def aPN (r0 r1 : DV) (h : H) : aV := vK (aD r0) λ x1 => vK (aP 9 x1) λ x2 => vK (aO h.get x2) λ x3 => vK (cV 1 x3 r1) λ x4 => vK (aO h.get x4) λ x5 => vK (eT x5) λ x6 => bK x6 (vK (aD r0) λ x7 => vK (aP 0 x7) λ x8 => vK (aO h.get x8) λ x9 => vK (aD r0) λ x10 => vK (aP 1 x10) λ x11 => vK (aP 0 x11) λ x12 => vK (aO h.get x12) λ x13 => wK (aC E 68 [x9, x13, r1] h) λ x14 h15 => vK (aX 0 x14) λ x16 => vK (aX 1 x14) λ x17 => vK (aD r0) λ x18 => vK (aP 8 x18) λ x19 => vK (aO h15.get x19) λ x20 => vK (aD r0) λ x21 => vK (aP 9 x21) λ x22 => vK (aO h15.get x22) λ x23 => vK (cV 1 x20 r1) λ x24 => wK (eK 1 x24 x16 h15) λ x25 h26 => vK (cV 1 x23 r1) λ x27 => wK (eK 1 x27 (.bool true) h26) λ x28 h29 => vK (aD r0) λ x30 => vK (aP 10 x30) λ x31 => vK (aO h29.get x31) λ x32 => vK (cR x17 (ii 0)) λ x33 => aQ x33 true (λ kk => kk x16 h29) h29 λ x34 h35 => aQ x33 true (λ kk => vK (eQ x34) λ v => kk v h35) h35 λ x36 h37 => aQ x33 true (λ kk => kk r0 h37) h37 λ x38 h39 => aQ x33 true (λ kk => vK (aD x38) λ v => kk v h39) h39 λ x40 h41 => aQ x33 true (λ kk => vK (aP 7 x40) λ v => kk v h41) h41 λ x42 h43 => aQ x33 true (λ kk => vK (aO h43.get x42) λ v => kk v h43) h43 λ x44 h45 => aQ x33 true (λ kk => vK (cR x36 x44) λ v => kk v h45) h45 λ x46 h47 => vK (aN x33 x46 (.bool false)) λ x48 => vK (cV 1 x32 r1) λ x49 => wK (eK 1 x49 x48 h47) λ x50 h51 => aPM E r0 r1 h51) (aPM E r0 r1 h)
theorem bOV : Is E bRu (bV D39.res) (λ σ h => aPM E (σ p0) (σ p1) h) := Is.rf
theorem bOW : mQ E D39 (aPN E) := Is.aq (Is.sq (Is.sq (bOV E) (Is.leaf _)) (Is.leaf _))
def S39 : bQ := mG (aPN E)
theorem bEX : SQ D39 S39 := mZ bOW
def D41 := cm 41
def aPL (E : bH) (r0 : DV) (h : H) : aV := vK (dN .ptr false h.get r0 .nilp) λ x1 => bK x1 (some (.nilp, h)) (vK (aD r0) λ x2 => vK (aP 1 x2) λ x3 => vK (aO h.get x3) λ x4 => some (x4, h))
theorem bOU : nE E D41 (aPL E) := Is.rf
def S41 : bQ := mX (aPL E)
theorem aUZ : SQ D41 S41 := nK bOU
def D45 := cm 45
def bRt := cr (cr (cr (cr D45.body)))
def bRs := cl (cr (cl (cr (cr (cr D45.body)))))
def aWf (E : bH) (r3 : DV) (h : H) : aV := some (r3, h)
def aKn (r3 r4 r19 : DV) (i2 : DV → H → aV) (r20 : DV) (h : H) : aV := vK (bY r20 r19) λ x1 => bK x1 (vK (aD r3) λ x2 => vK (aP 0 x2) λ x3 => vK (aO h.get x3) λ x4 => vK (cV 1 x4 r20) λ x5 => wK (eK 1 x5 r4 h) λ x6 h7 => vK (cF r20 (ii 1)) λ x8 => i2 x8 h7) (aWf E r3 h)
def aFz (r3 r4 r19 : DV) (n : Nat) : DV → H → aV := Nat.rec (motive := λ _ => DV → H → aV) (λ _ _ => none) (λ _ i => aKn E r3 r4 r19 i) n
def aPK (r0 : DV) (h : H) : aV := aBk h λ x1 h2 => vK (yC r0 (ii 1)) λ x3 => vK (aAf x3 (ii 4096)) λ x4 => kI 1 16 (.str []) x4 x4 h2 λ x5 h6 => vK (dO [.nils, .nilm, (.bool false)] [(1, 1, x1), (0, 1, x5)]) λ x7 => dJ x7 h6 λ x8 h9 => kI 1 1 (.int .u8 (.ofNat 0)) (ii 64) (ii 64) h9 λ x10 h11 => vK (iT h11.get x10) λ x12 => vK (aD x8) λ x13 => vK (aP 0 x13) λ x14 => vK (aO h11.get x14) λ x15 => vK (bO x15) λ x16 => aFz E x8 x12 x16 aT (ii 0) h11
theorem bOS : Is E bRt (bV D45.res) (λ σ h => aWf E (σ p3) h) := Is.rf
abbrev bNl : iL (DV × H) := (cK (λ σ h => aWf E (σ p3) h) (bV D45.res))
theorem bOR : Is E bRs (bZ 0 (bNl E)) (λ σ h => aFz E (σ p3) (σ p4) (σ p19) aT (σ p20) h) := Is.lp (λ n2 σ h => aFz E (σ p3) (σ p4) (σ p19) n2 (σ p20) h) λ n2 => Is.aq (Is.leaf _)
theorem bOT : nE E D45 (aPK E) := Is.aq (Is.sq (Is.sq (Is.sq (Is.sq (bOS E) (Is.sq (Is.bk (bOR E)) (Is.leaf _))) (Is.leaf _)) (Is.leaf _)) (Is.leaf _))
def S45 : bQ := mX (aPK E)
theorem bEW : SQ D45 S45 := nK bOT
def D46 := cm 46
def bRr := cr (cr (cr (cr (cr (cl (cr D46.body))))))
def aXI := cl (cr (cl (cr (cr (cr (cr (cl (cr D46.body))))))))
def bRq := cr (cr (cr (cl aXI)))
def bRp := cr (cr (cr (cr (cr (cl (cl (cr (cr (cl aXI)))))))))
def aJY (E : bH) (r6 : DV) (h : H) : aV := some ((.tup [r6, (ii 0)]), h)
def aPI (E : bH) (i2 : DV → H → aV) (r24 : DV) (h : H) : aV := vK (cF r24 (ii 1)) λ x1 => i2 x1 h
def aPH (i2 : DV → H → aV) (r6 r10 r24 : DV) (h : H) : aV := vK (aD r6) λ x1 => vK (aP 1 x1) λ x2 => vK (aO h.get x2) λ x3 => vK (dD 4 h.get r10) λ x4 => eM 1 4 [(.bool false), (ii 0), (ii 0), (ii 0)] [(0, 4, x4)] h λ x5 h6 => wK (cT 4 32 x3 x5 h6) λ x7 h8 => vK (aD r6) λ x9 => vK (aP 1 x9) λ x10 => wK (eK 1 x10 x7 h8) λ x11 h12 => aPI E i2 r24 h12
def aKm (r0 r6 : DV) (i2 : DV → H → aV) (r24 : DV) (h : H) : aV := vK (bY r24 (ii 256)) λ x1 => bK x1 (vK (jM r24 (ii 9)) λ x2 => wK (aC E 73 [r0, x2, (ii 9)] h) λ x3 h4 => vK (aX 0 x3) λ x5 => vK (aX 1 x3) λ x6 => vK (cR x6 (ii 0)) λ x7 => bK x7 (wK (aC E 74 [x5] h4) λ x8 h9 => jG 4 4 (.list [(.bool false), (ii 0), (ii 0), (ii 0)]) h9 λ x10 h11 => wK (eK 4 x10 x8 h11) λ x12 h13 => vK (aP 0 x10) λ x14 => vK (aO h13.get x14) λ x15 => aQ x15 true (λ kk => kk r6 h13) h13 λ x16 h17 => aQ x15 true (λ kk => vK (aP 1 x10) λ v => kk v h17) h17 λ x18 h19 => aQ x15 true (λ kk => vK (dD 2 h19.get x18) λ v => kk v h19) h19 λ x20 h21 => aQ x15 true (λ kk => wK (aC E 75 [x16, x20] h21) kk) h21 λ x22 h23 => aQ x15 true (λ kk => vK (fK x22 (ii 0)) λ v => kk v h23) h23 λ x24 h25 => vK (aN x15 x24 (.bool false)) λ x26 => bK x26 (vK (dO [(.bool false), (ii 0), (ii 0), (ii 0)] []) λ x27 => wK (eK 4 x10 x27 h25) λ x28 h29 => aPH E i2 r6 x10 r24 h29) (aPH E i2 r6 x10 r24 h25)) (vK (cR x6 (ii 5)) λ x30 => bK x30 (aJY E r6 h4) (some ((.tup [.nilp, x6]), h4)))) (aJY E r6 h)
def wU (r0 r6 : DV) (n : Nat) : DV → H → aV := Nat.rec (motive := λ _ => DV → H → aV) (λ _ _ => none) (λ _ i => aKm E r0 r6 i) n
def aPJ (r0 : DV) (h : H) : aV := vK (dN .ptr false h.get r0 .nilp) λ x1 => bK x1 (some ((.tup [.nilp, (ii 1)]), h)) (wK (aC E 73 [r0, (ii 0), (ii 1)] h) λ x2 h3 => vK (aX 0 x2) λ x4 => vK (aX 1 x2) λ x5 => vK (dQ x5 (ii 0)) λ x6 => bK x6 (some ((.tup [.nilp, x5]), h3)) (vK (dO [.nilp, .nils, (.bool false)] [(0, 1, r0)]) λ x7 => dJ x7 h3 λ x8 h9 => wU E r0 x8 aT (ii 0) h9))
theorem bOP : Is E bRr (yJ (bV D46.res)) (λ σ h => aJY E (σ p6) h) := Is.rf
abbrev bBU : iL (DV × H) := (cK (λ σ h => aJY E (σ p6) h) (yJ (bV D46.res)))
abbrev bBT (n2 : Nat) : iL (DV × H) := (cK (λ σ h => (wU E (σ p0) (σ p6) n2) (σ p24) h) (bZ 0 (bBU E)))
theorem bON (n2 : Nat) : Is E bRq (bBT E n2) (λ σ h => aPI E (wU E (σ p0) (σ p6) n2) (σ p24) h) := Is.rf
abbrev bNk (n2 : Nat) : iL (DV × H) := (cK (λ σ h => aPI E (wU E (σ p0) (σ p6) n2) (σ p24) h) (bBT E n2))
theorem bOM (n2 : Nat) : Is E bRp (bZ 1 (bNk E n2)) (λ σ h => aPH E (wU E (σ p0) (σ p6) n2) (σ p6) (σ mC) (σ p24) h) := Is.rf
theorem bOO : Is E aXI (bZ 0 (bBU E)) (λ σ h => wU E (σ p0) (σ p6) aT (σ p24) h) := Is.lp (λ n2 σ h => wU E (σ p0) (σ p6) n2 (σ p24) h) λ n2 => Is.aq (Is.sq (Is.sq (Is.sq (bON E n2) (Is.bk (Is.sq (Is.sq (Is.sq (Is.sq (Is.sq (bOM E n2) (Is.leaf _)) (Is.leaf _)) (Is.leaf _)) (Is.leaf _)) (Is.leaf _)))) (Is.leaf _)) (Is.leaf _))
theorem bOQ : nE E D46 (aPJ E) := Is.aq (Is.sq (Is.sc (Is.sq (Is.sq (Is.sq (Is.sq (Is.sq (bOP E) (Is.sq (Is.bk (bOO E)) (Is.leaf _))) (Is.leaf _)) (Is.leaf _)) (Is.leaf _)) (Is.leaf _))) (Is.leaf _))
def S46 : bQ := mX (aPJ E)
theorem bEV : SQ D46 S46 := nK bOQ
def D47 := cm 47
def bCw (r0 r1 : DV) (h : H) : aV := wK (aC E 76 [r0, r1] h) λ x1 h2 => vK (eT x1) λ x3 => bK x3 (some (.nilp, h2)) (wK (aC E 77 [r0] h2) λ x4 h5 => wK (aC E 77 [r1] h5) λ x6 h7 => vK (dO [.nils, .nils, (ii 0), (ii 0), (.bool false), (ii 0)] [(0, 1, x4), (1, 1, x6), (2, 1, (ii 1)), (3, 1, (.int .i64 (.negSucc 0))), (5, 1, (.int .i64 (.negSucc 0)))]) λ x8 => dJ x8 h7 λ x9 h10 => some (x9, h10))
theorem bOL : mQ E D47 (bCw E) := Is.rf
def S47 : bQ := mG (bCw E)
theorem aUY : SQ D47 S47 := mZ bOL
def D48 := cm 48
def bCv (E : bH) (h : H) : aV := vK (dO [.nils, (ii 0)] []) λ x1 => dJ x1 h λ x2 h3 => some (x2, h3)
theorem bOK : iB0 E D48 (bCv E) := Is.rf
def S48 : bQ := fA0 (bCv E)
theorem aUX : SQ D48 S48 := eB0 bOK
def D49 := cm 49
def bCu (E : bH) (h : H) : aV := vK (dO (zR [(ii 0)] 1024 ++ []) []) λ x1 => dJ x1 h λ x2 h3 => some (x2, h3)
theorem bOJ : iB0 E D49 (bCu E) := Is.rf
def S49 : bQ := fA0 (bCu E)
theorem aUW : SQ D49 S49 := eB0 bOJ
def D50 := cm 50
def bCt (E : bH) (h : H) : aV := vK (dO [.nils] []) λ x1 => dJ x1 h λ x2 h3 => some (x2, h3)
theorem bOI : iB0 E D50 (bCt E) := Is.rf
def S50 : bQ := fA0 (bCt E)
theorem aUV : SQ D50 S50 := eB0 bOI
def D51 := cm 51
def bCs (E : bH) (h : H) : aV := aBk h λ x1 h2 => vK (dO [.nilm, (ii 0)] [(0, 1, x1)]) λ x3 => dJ x3 h2 λ x4 h5 => some (x4, h5)
theorem bOH : iB0 E D51 (bCs E) := Is.rf
def S51 : bQ := fA0 (bCs E)
theorem aUU : SQ D51 S51 := eB0 bOH
def D52 := cm 52
def bCr (E : bH) (r0 : DV) (h : H) : aV := vK (yC r0 (ii 1)) λ x1 => vK (aAf x1 (ii 16)) λ x2 => aBk h λ x3 h4 => vK (dO [(ii 0), .nilm] [(0, 1, x2), (1, 1, x3)]) λ x5 => dJ x5 h4 λ x6 h7 => some (x6, h7)
theorem bOG : nE E D52 (bCr E) := Is.rf
def S52 : bQ := mX (bCr E)
theorem aUT : SQ D52 S52 := nK bOG
def D53 := cm 53
def bRo := cr (cr (cr (cr D53.body)))
def bRn := cl (cr (cl (cr (cr (cr D53.body)))))
def aPF (r4 : DV) (h : H) : aV := wK (aC E 81 [r4] h) λ x1 h2 => vK (aX 0 x1) λ x3 => vK (aX 1 x1) λ x4 => some ((.tup [x3, x4]), h2)
def aKl (r4 r36 r37 : DV) (i2 : DV → H → aV) (r38 : DV) (h : H) : aV := vK (bY r38 r37) λ x1 => bK x1 (vK (cV 1 r36 r38) λ x2 => vK (aO h.get x2) λ x3 => vK (aD x3) λ x4 => vK (aO h.get x4) λ x5 => wK (aC E 80 [r4, x5] h) λ x6 h7 => vK (cF r38 (ii 1)) λ x8 => i2 x8 h7) (aPF E r4 h)
def aFy (r4 r36 r37 : DV) (n : Nat) : DV → H → aV := Nat.rec (motive := λ _ => DV → H → aV) (λ _ _ => none) (λ _ i => aKl E r4 r36 r37 i) n
def aPG (r0 : DV) (h : H) : aV := dJ r0 h λ x1 h2 => vK (aP 0 x1) λ x3 => vK (aO h2.get x3) λ x4 => vK (bY x4 (ii 0)) λ x5 => aQ x5 false (λ kk => vK (aP 0 x1) λ v => kk v h2) h2 λ x6 h7 => aQ x5 false (λ kk => vK (aO h7.get x6) λ v => kk v h7) h7 λ x8 h9 => aQ x5 false (λ kk => vK (fK x8 (ii 16)) λ v => kk v h9) h9 λ x10 h11 => vK (aN x5 (.bool true) x10) λ x12 => aQ x12 false (λ kk => vK (aP 1 x1) λ v => kk v h11) h11 λ x13 h14 => aQ x12 false (λ kk => vK (aO h14.get x13) λ v => kk v h14) h14 λ x15 h16 => aQ x12 false (λ kk => vK (bY x15 (ii 0)) λ v => kk v h16) h16 λ x17 h18 => vK (aN x12 (.bool true) x17) λ x19 => aQ x19 false (λ kk => vK (aP 1 x1) λ v => kk v h18) h18 λ x20 h21 => aQ x19 false (λ kk => vK (aO h21.get x20) λ v => kk v h21) h21 λ x22 h23 => aQ x19 false (λ kk => vK (fK x22 (ii 2147483648)) λ v => kk v h23) h23 λ x24 h25 => vK (aN x19 (.bool true) x24) λ x26 => aQ x26 false (λ kk => vK (aP 2 x1) λ v => kk v h25) h25 λ x27 h28 => aQ x26 false (λ kk => vK (aO h28.get x27) λ v => kk v h28) h28 λ x29 h30 => aQ x26 false (λ kk => vK (bY x29 (ii 1)) λ v => kk v h30) h30 λ x31 h32 => vK (aN x26 (.bool true) x31) λ x33 => aQ x33 false (λ kk => vK (aP 2 x1) λ v => kk v h32) h32 λ x34 h35 => aQ x33 false (λ kk => vK (aO h35.get x34) λ v => kk v h35) h35 λ x36 h37 => aQ x33 false (λ kk => vK (dW x36 (ii 9)) λ v => kk v h37) h37 λ x38 h39 => vK (aN x33 (.bool true) x38) λ x40 => bK x40 (some ((.tup [(.str []), (ii 1)]), h39)) (wK (aC E 78 [(ii 65536)] h39) λ x41 h42 => wK (aC E 79 [x1] h42) λ x43 h44 => vK (bO x43) λ x45 => aFy E x41 x43 x45 aT (ii 0) h44)
theorem bOE : Is E bRo (bV D53.res) (λ σ h => aPF E (σ p4) h) := Is.rf
abbrev bNj : iL (DV × H) := (cK (λ σ h => aPF E (σ p4) h) (bV D53.res))
theorem bOD : Is E bRn (bZ 0 (bNj E)) (λ σ h => aFy E (σ p4) (σ p36) (σ p37) aT (σ p38) h) := Is.lp (λ n2 σ h => aFy E (σ p4) (σ p36) (σ p37) n2 (σ p38) h) λ n2 => Is.aq (Is.leaf _)
theorem bOF : nE E D53 (aPG E) := Is.aq (Is.sq (Is.sq (Is.sq (Is.sq (bOE E) (Is.sq (Is.bk (bOD E)) (Is.leaf _))) (Is.leaf _)) (Is.leaf _)) (Is.leaf _))
def S53 : bQ := mX (aPG E)
theorem aUS : SQ D53 S53 := nK bOF
def D54 := cm 54
def bCq (r0 : DV) (h : H) : aV := wK (aC E 82 [r0] h) λ x1 h2 => wK (aC E 83 [x1] h2) λ x3 h4 => wK (aC E 84 [x1] h4) λ x5 h6 => wK (aC E 85 [x1] h6) λ x7 h8 => vK (dQ x7 (ii 0)) λ x9 => bK x9 (some ((.tup [(ii 0), .nils, (ii 3)]), h8)) (some ((.tup [x3, x5, (ii 0)]), h8))
theorem bOC : nE E D54 (bCq E) := Is.rf
def S54 : bQ := mX (bCq E)
theorem aUR : SQ D54 S54 := nK bOC
def D55 := cm 55
def bCp (r0 r1 : DV) (h : H) : aV := vK (dN .ptr false h.get r0 .nilp) λ x1 => bK x1 (wK (aC E 86 [.nils, (ii 1)] h) λ x2 h3 => some (x2, h3)) (wK (aC E 87 [r1] h) λ x4 h5 => vK (aX 0 x4) λ x6 => vK (aX 1 x4) λ x7 => jG 8 8 (.list [(ii 0), (ii 0), (ii 0), (ii 0), (ii 0), (ii 0), (ii 0), (ii 0)]) h5 λ x8 h9 => wK (eK 8 x8 x6 h9) λ x10 h11 => vK (dQ x7 (ii 0)) λ x12 => bK x12 (wK (aC E 86 [.nils, x7] h11) λ x13 h14 => some (x13, h14)) (vK (aD r0) λ x15 => vK (aP 5 x15) λ x16 => vK (aO h11.get x16) λ x17 => vK (aP 0 x8) λ x18 => vK (aO h11.get x18) λ x19 => vK (aP 1 x8) λ x20 => vK (aO h11.get x20) λ x21 => wK (aC E 88 [x17, x19, x21] h11) λ x22 h23 => vK (aX 0 x22) λ x24 => vK (aX 1 x22) λ x25 => vK (cR x24 (ii 2)) λ x26 => bK x26 (some (x25, h23)) (vK (cR x24 (ii 1)) λ x27 => bK x27 (vK (aP 2 x8) λ x28 => vK (aO h23.get x28) λ x29 => vK (dD 8 h23.get x8) λ x30 => wK (aC E 89 [x29] h23) λ x31 h32 => rK (rcK (dD 8 h32.get x8) x30) <| wK (lU E x31 [r0, x30] h32) λ x33 h34 => vK (aX 0 x33) λ x35 => vK (aX 1 x33) λ x36 => wK (aC E 86 [x35, x36] h34) λ x37 h38 => vK (aD r0) λ x39 => vK (aP 5 x39) λ x40 => vK (aO h38.get x40) λ x41 => vK (aP 0 x8) λ x42 => vK (aO h38.get x42) λ x43 => vK (aP 1 x8) λ x44 => vK (aO h38.get x44) λ x45 => wK (aC E 90 [x41, x43, x45, x37] h38) λ x46 h47 => some (x37, h47)) (wK (aC E 86 [.nils, (ii 16)] h23) λ x48 h49 => some (x48, h49)))))
theorem bOB : mQ E D55 (bCp E) := Is.rf
def S55 : bQ := mG (bCp E)
theorem aUQ : SQ D55 S55 := mZ bOB
def D56 := cm 56
def aPE (E : bH) (r0 : DV) (h : H) : aV := vK (fK r0 (ii 2)) λ x1 => aQ x1 true (λ kk => kk r0 h) h λ x2 h3 => aQ x1 true (λ kk => vK (tY x2 (ii 8)) λ v => kk v h3) h3 λ x4 h5 => vK (aN x1 x4 (.bool false)) λ x6 => some (x6, h5)
theorem bOA : nE E D56 (aPE E) := Is.rf
def S56 : bQ := mX (aPE E)
theorem bET : SQ D56 S56 := nK bOA
def D57 := cm 57
def aPD (r0 r1 : DV) (h : H) : aV := vK (bY r0 (ii 0)) λ x1 => aQ x1 false (λ kk => kk r0 h) h λ x2 h3 => aQ x1 false (λ kk => vK (dW x2 (ii 65536)) λ v => kk v h3) h3 λ x4 h5 => vK (aN x1 (.bool true) x4) λ x6 => aQ x6 false (λ kk => kk r1 h5) h5 λ x7 h8 => aQ x6 false (λ kk => wK (aC E 56 [x7] h8) kk) h8 λ x9 h10 => aQ x6 false (λ kk => vK (eT x9) λ v => kk v h10) h10 λ x11 h12 => vK (aN x6 (.bool true) x11) λ x13 => bK x13 (some ((ii 0), h12)) (vK (cF r0 r1) λ x14 => vK (jD x14 (ii 2)) λ x15 => vK (jD r1 (ii 1)) λ x16 => vK (aCg x15 x16) λ x17 => some (x17, h12))
theorem bOz : mQ E D57 (aPD E) := Is.rf
def S57 : bQ := mG (aPD E)
theorem bES : SQ D57 S57 := mZ bOz
def D58 := cm 58
def bCN := cr (cr (cr (cr D58.body)))
def bRl := cr bCN
def bRm := cl (cl (cr (cr (cr D58.body))))
def aWe (E : bH) (r6 : DV) (h : H) : aV := some ((.tup [r6, (ii 0)]), h)
def aJX (r0 r1 r6 : DV) (h : H) : aV := vK (dQ r0 (.str [])) λ x1 => bK x1 (vK (eQ r0) λ x2 => vK (jD r1 x2) λ x3 => wK (aC E 91 [x3] h) λ x4 h5 => vK (cF r0 x4) λ x6 => eM 1 1 [(.str [])] [(0, 1, x6)] h5 λ x7 h8 => wK (cT 1 16 r6 x7 h8) λ x9 h10 => aWe E x9 h10) (aWe E r6 h)
def aKk (r1 : DV) (i2 : DV → DV → H → aV) (r0 r6 : DV) (h : H) : aV := vK (eQ r0) λ x1 => vK (dW x1 r1) λ x2 => bK x2 (vK (iM r0 none (some r1)) λ x3 => eM 1 1 [(.str [])] [(0, 1, x3)] h λ x4 h5 => wK (cT 1 16 r6 x4 h5) λ x6 h7 => vK (iM r0 (some r1) none) λ x8 => i2 x8 x6 h7) (aJX E r0 r1 r6 h)
def aFx (r1 : DV) (n : Nat) : DV → DV → H → aV := Nat.rec (motive := λ _ => DV → DV → H → aV) (λ _ _ _ => none) (λ _ i => aKk E r1 i) n
def aPC (r0 r1 : DV) (h : H) : aV := vK (bY r1 (ii 1)) λ x1 => aQ x1 false (λ kk => kk r1 h) h λ x2 h3 => aQ x1 false (λ kk => vK (dW x2 (ii 65536)) λ v => kk v h3) h3 λ x4 h5 => vK (aN x1 (.bool true) x4) λ x6 => bK x6 (some ((.tup [.nils, (ii 1)]), h5)) (aFx E r1 aT r0 .nils h5)
theorem bOv : Is E bRl (bV D58.res) (λ σ h => aWe E (σ p6) h) := Is.rf
theorem bOx : Is E bCN (bV D58.res) (λ σ h => aJX E (σ p0) (σ p1) (σ p6) h) := Is.aq (Is.sq (bOv E) (Is.leaf _))
abbrev bNi : iL (DV × H) := (cK (λ σ h => aJX E (σ p0) (σ p1) (σ p6) h) (bV D58.res))
theorem bOw : Is E bRm (bZ 0 (bNi E)) (λ σ h => aFx E (σ p1) aT (σ p0) (σ p6) h) := Is.lp (λ n2 σ h => aFx E (σ p1) n2 (σ p0) (σ p6) h) λ n2 => Is.aq (Is.leaf _)
theorem bOy : mQ E D58 (aPC E) := Is.aq (Is.sq (Is.sq (Is.sq (Is.sq (bOx E) (Is.bk (bOw E))) (Is.leaf _)) (Is.leaf _)) (Is.leaf _))
def S58 : bQ := mG (aPC E)
theorem bER : SQ D58 S58 := mZ bOy
def D59 := cm 59
def aFG (r0 r1 : DV) (h : H) : aV := vK (bY r1 (ii 0)) λ x1 => aQ x1 false (λ kk => kk r1 h) h λ x2 h3 => aQ x1 false (λ kk => vK (dW x2 (ii 65536)) λ v => kk v h3) h3 λ x4 h5 => vK (aN x1 (.bool true) x4) λ x6 => bK x6 (some ((.tup [(.str []), (ii 1)]), h5)) (vK (eQ r0) λ x7 => vK (dW x7 r1) λ x8 => bK x8 (some ((.tup [(.str []), (ii 2)]), h5)) (vK (eQ r0) λ x9 => vK (jD r1 x9) λ x10 => wK (aC E 91 [x10] h5) λ x11 h12 => vK (cF r0 x11) λ x13 => some ((.tup [x13, (ii 0)]), h12)))
theorem bOu : mQ E D59 (aFG E) := Is.rf
def S59 : bQ := mG (aFG E)
theorem bEQ : SQ D59 S59 := mZ bOu
def D60 := cm 60
def bRk := cr (cr (cr D60.body))
def bCM := cl (cr (cl (cr (cr D60.body))))
def bRj := cr (cr (cr (cl bCM)))
def aWd (E : bH) (r6 : DV) (h : H) : aV := some ((.tup [r6, (.bool true)]), h)
def aPA (E : bH) (i2 : DV → DV → H → aV) (r7 r14 : DV) (h : H) : aV := vK (cF r14 (ii 1)) λ x1 => i2 r7 x1 h
def aKj (r1 r6 r12 r13 : DV) (i2 : DV → DV → H → aV) (r7 r14 : DV) (h : H) : aV := vK (bY r14 r13) λ x1 => bK x1 (vK (cV 1 r12 r14) λ x2 => vK (aO h.get x2) λ x3 => vK (cR r14 r1) λ x4 => bK x4 (aPA E i2 r7 r14 h) (wK (aC E 92 [r6, x3, r7] h) λ x5 h6 => vK (eT x5) λ x7 => bK x7 (some ((.tup [.nilp, (.bool false)]), h6)) (aPA E i2 (.bool false) r14 h6))) (aWd E r6 h)
def zW (r1 r6 r12 r13 : DV) (n : Nat) : DV → DV → H → aV := Nat.rec (motive := λ _ => DV → DV → H → aV) (λ _ _ _ => none) (λ _ i => aKj E r1 r6 r12 r13 i) n
def aPB (r0 r1 : DV) (h : H) : aV := vK (dO (zR [(.int .u8 (.ofNat 0))] 512 ++ [(ii 0)]) []) λ x1 => dJ x1 h λ x2 h3 => vK (bO r0) λ x4 => zW E r1 x2 r0 x4 aT (.bool true) (ii 0) h3
theorem bOs : Is E bRk (bV D60.res) (λ σ h => aWd E (σ p6) h) := Is.rf
abbrev bBS : iL (DV × H) := (cK (λ σ h => aWd E (σ p6) h) (bV D60.res))
abbrev bNh (n2 : Nat) : iL (DV × H) := (cK (λ σ h => (zW E (σ p1) (σ p6) (σ tQ) (σ tI) n2) (σ p7) (σ wN) h) (bZ 0 (bBS E)))
theorem bOq (n2 : Nat) : Is E bRj (bNh E n2) (λ σ h => aPA E (zW E (σ p1) (σ p6) (σ tQ) (σ tI) n2) (σ p7) (σ wN) h) := Is.rf
theorem bOr : Is E bCM (bZ 0 (bBS E)) (λ σ h => zW E (σ p1) (σ p6) (σ tQ) (σ tI) aT (σ p7) (σ wN) h) := Is.lp (λ n2 σ h => zW E (σ p1) (σ p6) (σ tQ) (σ tI) n2 (σ p7) (σ wN) h) λ n2 => Is.aq (Is.sq (Is.sq (Is.sq (bOq E n2) (Is.leaf _)) (Is.leaf _)) (Is.leaf _))
theorem bOt : mQ E D60 (aPB E) := Is.aq (Is.sq (Is.sq (Is.sq (bOs E) (Is.sq (Is.bk (bOr E)) (Is.leaf _))) (Is.leaf _)) (Is.leaf _))
def S60 : bQ := mG (aPB E)
theorem bEP : SQ D60 S60 := mZ bOt
def D61 := cm 61
def aPz (E : bH) (r0 : DV) (h : H) : aV := vK (aD r0) λ x1 => vK (aP 0 x1) λ x2 => vK (aD r0) λ x3 => vK (aP 512 x3) λ x4 => vK (aO h.get x4) λ x5 => vK (aCe 512 1 x2 none (some x5)) λ x6 => vK (iT h.get x6) λ x7 => some (x7, h)
theorem bOp : nE E D61 (aPz E) := Is.rf
def S61 : bQ := mX (aPz E)
theorem bEO : SQ D61 S61 := nK bOp
def D62 := cm 62
def bCo (r0 r1 r2 : DV) (h : H) : aV := vK (aD r0) λ x1 => vK (aP 1 x1) λ x2 => vK (aO h.get x2) λ x3 => wK (aC E 65 [x3, r1] h) λ x4 h5 => vK (aX 0 x4) λ x6 => vK (aX 1 x4) λ x7 => jG 6 6 (.list [(ii 0), (ii 0), (ii 0), (ii 0), (ii 0), .nils]) h5 λ x8 h9 => wK (eK 6 x8 x6 h9) λ x10 h11 => vK (eT x7) λ x12 => bK x12 (some ((.tup [(ii 0), (.bool false)]), h11)) (vK (aP 5 x8) λ x13 => vK (aO h11.get x13) λ x14 => wK (aC E 93 [x14, r1, r2] h11) λ x15 h16 => vK (aX 0 x15) λ x17 => vK (aX 1 x15) λ x18 => vK (cR x18 (ii 0)) λ x19 => some ((.tup [x17, x19]), h16))
theorem bOo : iB3 E D62 (bCo E) := Is.rf
def S62 : bQ := fA3 (bCo E)
theorem aUP : SQ D62 S62 := eB3 bOo
def D63 := cm 63
def bCn (E : bH) (r2 : DV) (h : H) : aV := dJ r2 h λ x1 h2 => jG 1 1 (.list [(ii 0)]) h2 λ x3 h4 => none
theorem bOn : iB4 E D63 (λ _ _ r2 _ h => bCn E r2 h) := Is.rf
def S63 : bQ := fA4 (λ _ _ r2 _ h => bCn E r2 h)
theorem bEN : SQ D63 S63 := eB4 bOn
def D65 := cm 65
def bCm (r0 r1 : DV) (h : H) : aV := jG 6 6 (.list [(ii 0), (ii 0), (ii 0), (ii 0), (ii 0), .nils]) h λ x1 h2 => vK (dN .ptr false h2.get r0 .nilp) λ x3 => bK x3 (vK (dO [(ii 0), (ii 0), (ii 0), (ii 0), (ii 0), .nils] []) λ x4 => wK (eK 6 x1 x4 h2) λ x5 h6 => vK (dD 6 h6.get x1) λ x7 => some ((.tup [x7, (.bool false)]), h6)) (vK (aD r0) λ x8 => vK (aP 1 x8) λ x9 => vK (aO h2.get x9) λ x10 => wK (aC E 100 [x10, r1] h2) λ x11 h12 => vK (aX 0 x11) λ x13 => vK (aX 1 x11) λ x14 => wK (eK 6 x1 x13 h12) λ x15 h16 => vK (dD 6 h16.get x1) λ x17 => some ((.tup [x17, x14]), h16))
theorem bOm : mQ E D65 (bCm E) := Is.rf
def S65 : bQ := mG (bCm E)
theorem aUO : SQ D65 S65 := mZ bOm
def D66 := cm 66
def aPy (r0 r1 : DV) (h : H) : aV := vK (bO r0) λ x1 => wK (aC E 56 [x1] h) λ x2 h3 => vK (eT x2) λ x4 => aQ x4 false (λ kk => kk r1 h3) h3 λ x5 h6 => aQ x4 false (λ kk => vK (bY x5 (ii 0)) λ v => kk v h6) h6 λ x7 h8 => vK (aN x4 (.bool true) x7) λ x9 => aQ x9 false (λ kk => kk r1 h8) h8 λ x10 h11 => aQ x9 false (λ kk => kk r0 h11) h11 λ x12 h13 => aQ x9 false (λ kk => vK (bO x12) λ v => kk v h13) h13 λ x14 h15 => aQ x9 false (λ kk => vK (fK x10 x14) λ v => kk v h15) h15 λ x16 h17 => vK (aN x9 (.bool true) x16) λ x18 => bK x18 (some ((.tup [(.str []), (ii 1)]), h17)) (wK (aC E 60 [r0, r1] h17) λ x19 h20 => vK (aX 0 x19) λ x21 => vK (aX 1 x19) λ x22 => vK (eT x22) λ x23 => bK x23 (some ((.tup [(.str []), (ii 2)]), h20)) (wK (aC E 61 [x21] h20) λ x24 h25 => some ((.tup [x24, (ii 0)]), h25)))
theorem bOl : mQ E D66 (aPy E) := Is.rf
def S66 : bQ := mG (aPy E)
theorem bEM : SQ D66 S66 := mZ bOl
def D67 := cm 67
def bRi := cr (cr (cr (cr (cr (cr D67.body)))))
def bRh := cl (cr (cl (cr (cr (cr (cr (cr D67.body)))))))
def aPw (E : bH) (r1 r7 : DV) (h : H) : aV := vK (fF 1 r7 none (some r1)) λ x1 => vK (iT h.get x1) λ x2 => some ((.tup [x2, (ii 0)]), h)
def aKi (r1 r6 r33 r34 : DV) (i2 : DV → DV → H → aV) (r7 r35 : DV) (h : H) : aV := vK (bY r35 r34) λ x1 => bK x1 (vK (cV 1 r33 r35) λ x2 => vK (aO h.get x2) λ x3 => vK (eQ x3) λ x4 => vK (dQ x4 r6) λ x5 => bK x5 (some ((.tup [(.str []), (ii 2)]), h)) (wK (cT 1 1 r7 x3 h) λ x6 h7 => vK (cF r35 (ii 1)) λ x8 => i2 x6 x8 h7)) (aPw E r1 r7 h)
def aFw (r1 r6 r33 r34 : DV) (n : Nat) : DV → DV → H → aV := Nat.rec (motive := λ _ => DV → DV → H → aV) (λ _ _ _ => none) (λ _ i => aKi E r1 r6 r33 r34 i) n
def aPx (r0 r1 : DV) (h : H) : aV := vK (bO r0) λ x1 => wK (aC E 56 [x1] h) λ x2 h3 => vK (eT x2) λ x4 => bK x4 (some ((.tup [(.str []), (ii 1)]), h3)) (vK (bO r0) λ x5 => wK (aC E 57 [r1, x5] h3) λ x6 h7 => vK (bY r1 (ii 0)) λ x8 => aQ x8 false (λ kk => kk r1 h7) h7 λ x9 h10 => aQ x8 false (λ kk => vK (dW x9 (ii 65536)) λ v => kk v h10) h10 λ x11 h12 => vK (aN x8 (.bool true) x11) λ x13 => aQ x13 false (λ kk => kk x6 h12) h12 λ x14 h15 => aQ x13 false (λ kk => vK (dW x14 (ii 512)) λ v => kk v h15) h15 λ x16 h17 => vK (aN x13 (.bool true) x16) λ x18 => bK x18 (some ((.tup [(.str []), (ii 2)]), h17)) (vK (bO r0) λ x19 => vK (jM x6 x19) λ x20 => kI 1 1 (.int .u8 (.ofNat 0)) (ii 0) x20 h17 λ x21 h22 => vK (bO r0) λ x23 => aFw E r1 x6 r0 x23 aT x21 (ii 0) h22))
theorem bOj : Is E bRi (bV D67.res) (λ σ h => aPw E (σ p1) (σ p7) h) := Is.rf
abbrev bNg : iL (DV × H) := (cK (λ σ h => aPw E (σ p1) (σ p7) h) (bV D67.res))
theorem bOi : Is E bRh (bZ 0 (bNg E)) (λ σ h => aFw E (σ p1) (σ p6) (σ p33) (σ p34) aT (σ p7) (σ p35) h) := Is.lp (λ n2 σ h => aFw E (σ p1) (σ p6) (σ p33) (σ p34) n2 (σ p7) (σ p35) h) λ n2 => Is.aq (Is.leaf _)
theorem bOk : mQ E D67 (aPx E) := Is.aq (Is.sq (Is.sq (Is.sq (Is.sq (Is.sq (Is.sq (bOj E) (Is.sq (Is.bk (bOi E)) (Is.leaf _))) (Is.leaf _)) (Is.leaf _)) (Is.leaf _)) (Is.leaf _)) (Is.leaf _))
def S67 : bQ := mG (aPx E)
theorem bEL : SQ D67 S67 := mZ bOk
def D68 := cm 68
def aPv (r0 r1 r2 : DV) (h : H) : aV := vK (dN .ptr false h.get r0 .nilp) λ x1 => bK x1 (some ((.tup [(.str []), (ii 1)]), h)) (wK (aC E 62 [r0, r1, r2] h) λ x2 h3 => vK (aX 0 x2) λ x4 => vK (aX 1 x2) λ x5 => vK (eT x5) λ x6 => bK x6 (some ((.tup [(.str []), (ii 7)]), h3)) (vK (aD r0) λ x7 => vK (aP 0 x7) λ x8 => vK (aO h3.get x8) λ x9 => vK (dO [(ii 0), (ii 0)] [(0, 1, r1), (1, 1, r2)]) λ x10 => wK (aC E 101 [x9, x4, x10] h3) λ x11 h12 => vK (aX 0 x11) λ x13 => vK (aX 1 x11) λ x14 => some ((.tup [x13, x14]), h12)))
theorem bOh : iB3 E D68 (aPv E) := Is.rf
def S68 : bQ := fA3 (aPv E)
theorem bEK : SQ D68 S68 := eB3 bOh
def D72 := cm 72
def bCl (r0 r1 : DV) (h : H) : aV := wK (aC E 106 [r0, r1] h) λ x1 h2 => vK (fK x1 (ii 0)) λ x3 => some (x3, h2)
theorem bOg : mQ E D72 (bCl E) := Is.rf
def S72 : bQ := mG (bCl E)
theorem aUN : SQ D72 S72 := mZ bOg
def D73 := cm 73
def bRg := cr (cr (cr (cr D73.body)))
def bRf := cl (cr (cl (cr (cr (cr D73.body)))))
def aPu (E : bH) (r9 : DV) (h : H) : aV := vK (iT h.get r9) λ x1 => some ((.tup [x1, (ii 0)]), h)
def aKh (r30 r31 : DV) (i2 : DV → DV → H → aV) (r9 r32 : DV) (h : H) : aV := vK (bY r32 r31) λ x1 => bK x1 (vK (cV 1 r30 r32) λ x2 => vK (aO h.get x2) λ x3 => wK (cT 1 1 r9 x3 h) λ x4 h5 => vK (cF r32 (ii 1)) λ x6 => i2 x4 x6 h5) (aPu E r9 h)
def aFv (r30 r31 : DV) (n : Nat) : DV → DV → H → aV := Nat.rec (motive := λ _ => DV → DV → H → aV) (λ _ _ _ => none) (λ _ i => aKh E r30 r31 i) n
def aFF (r0 r1 r2 : DV) (h : H) : aV := wK (aC E 107 [r0, r1, r2, (.bool true)] h) λ x1 h2 => vK (dQ x1 (ii 0)) λ x3 => bK x3 (some ((.tup [(.str []), x1]), h2)) (vK (jM r2 (ii 64)) λ x4 => kI 1 1 (.int .u8 (.ofNat 0)) (ii 0) x4 h2 λ x5 h6 => vK (aD r0) λ x7 => vK (aP 0 x7) λ x8 => vK (aO h6.get x8) λ x9 => vK (cF r1 r2) λ x10 => vK (fF 1 x9 (some r1) (some x10)) λ x11 => vK (bO x11) λ x12 => aFv E x11 x12 aT x5 (ii 0) h6)
theorem bOe : Is E bRg (bV D73.res) (λ σ h => aPu E (σ p9) h) := Is.rf
abbrev bNf : iL (DV × H) := (cK (λ σ h => aPu E (σ p9) h) (bV D73.res))
theorem bOd : Is E bRf (bZ 0 (bNf E)) (λ σ h => aFv E (σ p30) (σ p31) aT (σ p9) (σ p32) h) := Is.lp (λ n2 σ h => aFv E (σ p30) (σ p31) n2 (σ p9) (σ p32) h) λ n2 => Is.aq (Is.leaf _)
theorem bOf : iB3 E D73 (aFF E) := Is.aq (Is.sq (Is.sq (Is.sq (Is.sq (bOe E) (Is.sq (Is.bk (bOd E)) (Is.leaf _))) (Is.leaf _)) (Is.leaf _)) (Is.leaf _))
def S73 : bQ := fA3 (aFF E)
theorem bEJ : SQ D73 S73 := eB3 bOf
def D74 := cm 74
def aPt (r0 : DV) (h : H) : aV := jG 4 4 (.list [(.bool false), (ii 0), (ii 0), (ii 0)]) h λ x1 h2 => vK (iM r0 none (some (ii 64))) λ x3 => vK (iM r0 (some (ii 64)) none) λ x4 => vK (iM x3 (some (ii 4)) none) λ x5 => vK (iM x3 (some (ii 8)) none) λ x6 => vK (iM x3 (some (ii 12)) none) λ x7 => jG 4 4 (.list [(.bool false), (ii 0), (ii 0), (ii 0)]) h2 λ x8 h9 => wK (aC E 108 [x5] h9) λ x10 h11 => wK (aC E 108 [x6] h11) λ x12 h13 => vK (dO [(ii 0), (ii 0)] [(0, 1, x10), (1, 1, x12)]) λ x14 => wK (aC E 108 [x7] h13) λ x15 h16 => vK (dO [(.bool false), (ii 0), (ii 0), (ii 0)] [(0, 1, (.bool true)), (1, 2, x14), (3, 1, x15)]) λ x17 => wK (eK 4 x8 x17 h16) λ x18 h19 => vK (aP 1 x8) λ x20 => vK (dD 2 h19.get x20) λ x21 => wK (aC E 109 [x21] h19) λ x22 h23 => vK (eT x22) λ x24 => aQ x24 false (λ kk => vK (aP 3 x8) λ v => kk v h23) h23 λ x25 h26 => aQ x24 false (λ kk => vK (aO h26.get x25) λ v => kk v h26) h26 λ x27 h28 => aQ x24 false (λ kk => vK (dW x27 (ii 512)) λ v => kk v h28) h28 λ x29 h30 => vK (aN x24 (.bool true) x29) λ x31 => aQ x31 false (λ kk => vK (aP 1 x8) λ v => kk v h30) h30 λ x32 h33 => aQ x31 false (λ kk => vK (dD 2 h33.get x32) λ v => kk v h33) h33 λ x34 h35 => aQ x31 false (λ kk => kk x4 h35) h35 λ x36 h37 => aQ x31 false (λ kk => vK (aP 3 x8) λ v => kk v h37) h37 λ x38 h39 => aQ x31 false (λ kk => vK (aO h39.get x38) λ v => kk v h39) h39 λ x40 h41 => aQ x31 false (λ kk => vK (iM x36 none (some x40)) λ v => kk v h41) h41 λ x42 h43 => aQ x31 false (λ kk => kk x3 h43) h43 λ x44 h45 => aQ x31 false (λ kk => wK (aC E 110 [x34, x42] h45) kk) h45 λ x46 h47 => aQ x31 false (λ kk => vK (dQ x46 x44) λ v => kk v h47) h47 λ x48 h49 => vK (aN x31 (.bool true) x48) λ x50 => bK x50 (vK (dO [(.bool false), (ii 0), (ii 0), (ii 0)] []) λ x51 => wK (eK 4 x1 x51 h49) λ x52 h53 => vK (dD 4 h53.get x1) λ x54 => some (x54, h53)) (vK (dD 4 h49.get x8) λ x55 => wK (eK 4 x1 x55 h49) λ x56 h57 => vK (dD 4 h57.get x1) λ x58 => some (x58, h57))
theorem bOc : nE E D74 (aPt E) := Is.rf
def S74 : bQ := mX (aPt E)
theorem bEI : SQ D74 S74 := nK bOc
def D75 := cm 75
def aPs (r0 r1 : DV) (h : H) : aV := dJ r1 h λ x1 h2 => vK (aD r0) λ x3 => vK (aP 1 x3) λ x4 => vK (aO h2.get x4) λ x5 => wK (aC E 111 [x5, (.fn (.func 112) [] [x1])] h2) λ x6 h7 => some (x6, h7)
theorem bOb : mQ E D75 (aPs E) := Is.rf
def S75 : bQ := mG (aPs E)
theorem bEH : SQ D75 S75 := mZ bOb
def D76 := cm 76
def bCk (r0 r1 : DV) (h : H) : aV := vK (bO r0) λ x1 => vK (fK x1 (ii 2)) λ x2 => aQ x2 true (λ kk => kk r0 h) h λ x3 h4 => aQ x2 true (λ kk => vK (bO x3) λ v => kk v h4) h4 λ x5 h6 => aQ x2 true (λ kk => vK (tY x5 (ii 8)) λ v => kk v h6) h6 λ x7 h8 => vK (aN x2 x7 (.bool false)) λ x9 => aQ x9 true (λ kk => kk r0 h8) h8 λ x10 h11 => aQ x9 true (λ kk => kk r1 h11) h11 λ x12 h13 => aQ x9 true (λ kk => eM 2 1 [.nils] [(0, 1, x10), (1, 1, x12)] h13 kk) h13 λ x14 h15 => aQ x9 true (λ kk => wK (aC E 113 [x14] h15) kk) h15 λ x16 h17 => vK (aN x9 x16 (.bool false)) λ x18 => some (x18, h17)
theorem bOa : mQ E D76 (bCk E) := Is.rf
def S76 : bQ := mG (bCk E)
theorem aUM : SQ D76 S76 := mZ bOa
def D77 := cm 77
def bCj (E : bH) (r0 : DV) (h : H) : aV := vK (bO r0) λ x1 => kI 1 8 (ii 0) x1 x1 h λ x2 h3 => wK (lC 1 x2 r0 h3) λ x4 h5 => some (x2, h5)
theorem bNZ : nE E D77 (bCj E) := Is.rf
def S77 : bQ := mX (bCj E)
theorem aUL : SQ D77 S77 := nK bNZ
def D78 := cm 78
def aPr (E : bH) (r0 : DV) (h : H) : aV := vK (yC r0 (ii 0)) λ x1 => vK (aAf x1 (ii 65536)) λ x2 => vK (dO [(ii 0), .nils, (ii 0)] [(0, 1, x2)]) λ x3 => dJ x3 h λ x4 h5 => some (x4, h5)
theorem bNY : nE E D78 (aPr E) := Is.rf
def S78 : bQ := mX (aPr E)
theorem aUK : SQ D78 S78 := nK bNY
def D79 := cm 79
def aPq (E : bH) (r0 : DV) (h : H) : aV := vK (aD r0) λ x1 => vK (aP 0 x1) λ x2 => vK (aD r0) λ x3 => vK (aP 1 x3) λ x4 => vK (aD r0) λ x5 => vK (aP 2 x5) λ x6 => vK (aD r0) λ x7 => vK (aP 3 x7) λ x8 => vK (aD r0) λ x9 => vK (aP 4 x9) λ x10 => vK (aD r0) λ x11 => vK (aP 5 x11) λ x12 => vK (aD r0) λ x13 => vK (aP 6 x13) λ x14 => vK (aD r0) λ x15 => vK (aP 7 x15) λ x16 => eM 8 1 [.nilp] [(0, 1, x2), (1, 1, x4), (2, 1, x6), (3, 1, x8), (4, 1, x10), (5, 1, x12), (6, 1, x14), (7, 1, x16)] h λ x17 h18 => some (x17, h18)
theorem bNX : nE E D79 (aPq E) := Is.rf
def S79 : bQ := mX (aPq E)
theorem aUJ : SQ D79 S79 := nK bNX
def D80 := cm 80
def aPp (r0 r1 : DV) (h : H) : aV := dJ r1 h λ x1 h2 => wK (aC E 114 [r0, (.fn (.func 115) [] [x1])] h2) λ x3 h4 => some ((.tup []), h4)
theorem bNW : mQ E D80 (aPp E) := Is.rf
def S80 : bQ := mG (aPp E)
theorem aUI : SQ D80 S80 := mZ bNW
def D81 := cm 81
def aPo (E : bH) (r0 : DV) (h : H) : aV := vK (dN .ptr false h.get r0 .nilp) λ x1 => bK x1 (some ((.tup [(.str []), (ii 1)]), h)) (vK (aD r0) λ x2 => vK (aP 2 x2) λ x3 => vK (aO h.get x3) λ x4 => vK (dQ x4 (ii 0)) λ x5 => bK x5 (vK (aD r0) λ x6 => vK (aP 2 x6) λ x7 => vK (aO h.get x7) λ x8 => some ((.tup [(.str []), x8]), h)) (vK (aD r0) λ x9 => vK (aP 1 x9) λ x10 => vK (aO h.get x10) λ x11 => vK (iT h.get x11) λ x12 => some ((.tup [x12, (ii 0)]), h)))
theorem bNV : nE E D81 (aPo E) := Is.rf
def S81 : bQ := mX (aPo E)
theorem aUH : SQ D81 S81 := nK bNV
def D82 := cm 82
def aPn (E : bH) (r0 : DV) (h : H) : aV := vK (dO [(.str []), (.bool false)] [(0, 1, r0)]) λ x1 => dJ x1 h λ x2 h3 => some (x2, h3)
theorem bNU : nE E D82 (aPn E) := Is.rf
def S82 : bQ := mX (aPn E)
theorem aUG : SQ D82 S82 := nK bNU
def D83 := cm 83
def bCi (r0 : DV) (h : H) : aV := wK (aC E 117 [r0, (ii 1)] h) λ x1 h2 => vK (aX 0 x1) λ x3 => vK (aX 1 x1) λ x4 => bK x4 (vK (oL x3 (ii 0)) λ x5 => vK (cS .i64 x5) λ x6 => some (x6, h2)) (some ((ii 0), h2))
theorem bNT : nE E D83 (bCi E) := Is.rf
def S83 : bQ := mX (bCi E)
theorem aUF : SQ D83 S83 := nK bNT
def D84 := cm 84
def bCh (r0 : DV) (h : H) : aV := wK (aC E 119 [r0, (.fn (.func 118) [r0] [])] h) λ x1 h2 => some (x1, h2)
theorem bNS : nE E D84 (bCh E) := Is.rf
def S84 : bQ := mX (bCh E)
theorem aUE : SQ D84 S84 := nK bNS
def D85 := cm 85
def aPm (E : bH) (r0 : DV) (h : H) : aV := vK (dN .ptr false h.get r0 .nilp) λ x1 => bK x1 (some ((ii 1), h)) (vK (aD r0) λ x2 => vK (aP 1 x2) λ x3 => vK (aO h.get x3) λ x4 => aQ x4 false (λ kk => kk r0 h) h λ x5 h6 => aQ x4 false (λ kk => vK (aD x5) λ v => kk v h6) h6 λ x7 h8 => aQ x4 false (λ kk => vK (aP 0 x7) λ v => kk v h8) h8 λ x9 h10 => aQ x4 false (λ kk => vK (aO h10.get x9) λ v => kk v h10) h10 λ x11 h12 => aQ x4 false (λ kk => vK (dQ x11 (.str [])) λ v => kk v h12) h12 λ x13 h14 => vK (aN x4 (.bool true) x13) λ x15 => bK x15 (some ((ii 3), h14)) (some ((ii 0), h14)))
theorem bNR : nE E D85 (aPm E) := Is.rf
def S85 : bQ := mX (aPm E)
theorem aUD : SQ D85 S85 := nK bNR
def D86 := cm 86
def bRe := cr (cr D86.body)
def aWc (r0 r1 : DV) (h : H) : aV := wK (aC E 78 [(ii 65536)] h) λ x1 h2 => wK (aC E 120 [x1, r1] h2) λ x3 h4 => wK (aC E 121 [x1, r0] h4) λ x5 h6 => wK (aC E 81 [x1] h6) λ x7 h8 => vK (aX 0 x7) λ x9 => vK (aX 1 x7) λ x10 => some (x9, h8)
def bCg (r0 r1 : DV) (h : H) : aV := vK (dQ r1 (ii 0)) λ x1 => bK x1 (aWc E .nils r1 h) (aWc E r0 r1 h)
theorem bNP : Is E bRe (bV D86.res) (λ σ h => aWc E (σ p0) (σ p1) h) := Is.rf
theorem bNQ : mQ E D86 (bCg E) := Is.aq (Is.sq (Is.sq (bNP E) (Is.leaf _)) (Is.leaf _))
def S86 : bQ := mG (bCg E)
theorem aUC : SQ D86 S86 := mZ bNQ
def D87 := cm 87
def bRd := cr (cr (cr D87.body))
def bRc := cl (cr (cl (cr (cr D87.body))))
def aPk (r2 r4 r5 : DV) (h : H) : aV := vK (dD 8 h.get r5) λ x1 => wK (aC E 53 [x1] h) λ x2 h3 => vK (aX 0 x2) λ x4 => vK (aX 1 x2) λ x5 => vK (dQ x5 (ii 0)) λ x6 => aQ x6 false (λ kk => kk r4 h3) h3 λ x7 h8 => aQ x6 false (λ kk => wK (aC E 85 [x7] h8) kk) h8 λ x9 h10 => aQ x6 false (λ kk => vK (dQ x9 (ii 0)) λ v => kk v h10) h10 λ x11 h12 => vK (aN x6 (.bool true) x11) λ x13 => bK x13 (vK (dO [(ii 0), (ii 0), (ii 0), (ii 0), (ii 0), (ii 0), (ii 0), (ii 0)] []) λ x14 => wK (eK 8 r2 x14 h12) λ x15 h16 => vK (dD 8 h16.get r2) λ x17 => some ((.tup [x17, (ii 3)]), h16)) (vK (dD 8 h12.get r5) λ x18 => wK (eK 8 r2 x18 h12) λ x19 h20 => vK (dD 8 h20.get r2) λ x21 => some ((.tup [x21, (ii 0)]), h20))
def aKg (r2 r4 r5 r13 r14 : DV) (i2 : DV → H → aV) (r15 : DV) (h : H) : aV := vK (bY r15 r14) λ x1 => bK x1 (vK (cV 1 r13 r15) λ x2 => vK (aO h.get x2) λ x3 => wK (aC E 118 [r4] h) λ x4 h5 => vK (aD x3) λ x6 => wK (eK 1 x6 x4 h5) λ x7 h8 => vK (cF r15 (ii 1)) λ x9 => i2 x9 h8) (aPk E r2 r4 r5 h)
def aFu (r2 r4 r5 r13 r14 : DV) (n : Nat) : DV → H → aV := Nat.rec (motive := λ _ => DV → H → aV) (λ _ _ => none) (λ _ i => aKg E r2 r4 r5 r13 r14 i) n
def aPl (r0 : DV) (h : H) : aV := jG 8 8 (.list [(ii 0), (ii 0), (ii 0), (ii 0), (ii 0), (ii 0), (ii 0), (ii 0)]) h λ x1 h2 => wK (aC E 82 [r0] h2) λ x3 h4 => vK (dO [(ii 0), (ii 0), (ii 0), (ii 0), (ii 0), (ii 0), (ii 0), (ii 0)] []) λ x5 => jG 8 8 (.list [(ii 0), (ii 0), (ii 0), (ii 0), (ii 0), (ii 0), (ii 0), (ii 0)]) h4 λ x6 h7 => wK (eK 8 x6 x5 h7) λ x8 h9 => wK (aC E 79 [x6] h9) λ x10 h11 => vK (bO x10) λ x12 => aFu E x1 x3 x6 x10 x12 aT (ii 0) h11
theorem bNN : Is E bRd (bV D87.res) (λ σ h => aPk E (σ p2) (σ p4) (σ p5) h) := Is.rf
abbrev bNe : iL (DV × H) := (cK (λ σ h => aPk E (σ p2) (σ p4) (σ p5) h) (bV D87.res))
theorem bNM : Is E bRc (bZ 0 (bNe E)) (λ σ h => aFu E (σ p2) (σ p4) (σ p5) (σ tI) (σ wN) aT (σ p15) h) := Is.lp (λ n2 σ h => aFu E (σ p2) (σ p4) (σ p5) (σ tI) (σ wN) n2 (σ p15) h) λ n2 => Is.aq (Is.leaf _)
theorem bNO : nE E D87 (aPl E) := Is.aq (Is.sq (Is.sq (Is.sq (bNN E) (Is.sq (Is.bk (bNM E)) (Is.leaf _))) (Is.leaf _)) (Is.leaf _))
def S87 : bQ := mX (aPl E)
theorem aUB : SQ D87 S87 := nK bNO
def D88 := cm 88
def bCf (r0 r1 r2 : DV) (h : H) : aV := vK (dN .ptr false h.get r0 .nilp) λ x1 => aQ x1 false (λ kk => kk r1 h) h λ x2 h3 => aQ x1 false (λ kk => kk r2 h3) h3 λ x4 h5 => aQ x1 false (λ kk => wK (aC E 122 [x2, x4] h5) kk) h5 λ x6 h7 => aQ x1 false (λ kk => vK (eT x6) λ v => kk v h7) h7 λ x8 h9 => vK (aN x1 (.bool true) x8) λ x10 => bK x10 (some ((.tup [(ii 0), (.str [])]), h9)) (wK (aC E 123 [r0, r1, r2] h9) λ x11 h12 => vK (aX 0 x11) λ x13 => vK (aX 1 x11) λ x14 => vK (aD r0) λ x15 => vK (aP 1 x15) λ x16 => vK (aO h12.get x16) λ x17 => vK (tX .int .nils false h12.get x17 r1) λ x18 => aQ x14 true (λ kk => kk x18 h12) h12 λ x19 h20 => aQ x14 true (λ kk => kk x13 h20) h20 λ x21 h22 => aQ x14 true (λ kk => vK (cV 3 x19 x21) λ v => kk v h22) h22 λ x23 h24 => aQ x14 true (λ kk => vK (aP 1 x23) λ v => kk v h24) h24 λ x25 h26 => aQ x14 true (λ kk => vK (aO h26.get x25) λ v => kk v h26) h26 λ x27 h28 => vK (aN x14 x27 (.bool false)) λ x29 => bK x29 (some ((.tup [(ii 3), (.str [])]), h28)) (bK x14 (vK (cV 3 x18 x13) λ x30 => vK (aP 2 x30) λ x31 => vK (aO h28.get x31) λ x32 => some ((.tup [(ii 2), x32]), h28)) (vK (bO x18) λ x33 => vK (aD r0) λ x34 => vK (aP 0 x34) λ x35 => vK (aO h28.get x35) λ x36 => vK (cR x33 x36) λ x37 => aQ x37 true (λ kk => kk x13 h28) h28 λ x38 h39 => aQ x37 true (λ kk => vK (cR x38 (ii 0)) λ v => kk v h39) h39 λ x40 h41 => vK (aN x37 x40 (.bool false)) λ x42 => bK x42 (some ((.tup [(ii 4), (.str [])]), h41)) (vK (dO [(ii 0), (.bool false), (.str [])] [(0, 1, r2), (1, 1, (.bool true))]) λ x43 => eM 1 3 [(ii 0), (.bool false), (.str [])] [(0, 3, x43)] h41 λ x44 h45 => wK (aC E 124 [x18, x13, x44] h45) λ x46 h47 => vK (aD r0) λ x48 => vK (aP 1 x48) λ x49 => vK (aO h47.get x49) λ x50 => vK (bO x46) λ x51 => vK (aD r0) λ x52 => vK (aP 0 x52) λ x53 => vK (aO h47.get x53) λ x54 => vK (jD x51 x54) λ x55 => vK (yC x55 (ii 0)) λ x56 => vK (fF 3 x46 (some x56) none) λ x57 => wK (aBE .int x50 r1 x57 h47) λ x58 h59 => some ((.tup [(ii 1), (.str [])]), h59)))))
theorem bNL : iB3 E D88 (bCf E) := Is.rf
def S88 : bQ := fA3 (bCf E)
theorem aUA : SQ D88 S88 := eB3 bNL
def D89 := cm 89
def bCe (E : bH) (r0 : DV) (h : H) : aV := vK (cR r0 (ii 1)) λ x1 => bK x1 (some ((.fn (.func 125) [] []), h)) (vK (cR r0 (ii 2)) λ x2 => bK x2 (some ((.fn (.func 126) [] []), h)) (vK (cR r0 (ii 3)) λ x3 => bK x3 (some ((.fn (.func 127) [] []), h)) (vK (cR r0 (ii 4)) λ x4 => bK x4 (some ((.fn (.func 128) [] []), h)) (vK (cR r0 (ii 5)) λ x5 => bK x5 (some ((.fn (.func 129) [] []), h)) (vK (cR r0 (ii 6)) λ x6 => bK x6 (some ((.fn (.func 130) [] []), h)) (vK (cR r0 (ii 7)) λ x7 => bK x7 (some ((.fn (.func 131) [] []), h)) (vK (cR r0 (ii 8)) λ x8 => bK x8 (some ((.fn (.func 132) [] []), h)) (some ((.fn (.func 133) [] []), h)))))))))
theorem bNK : nE E D89 (bCe E) := Is.rf
def S89 : bQ := mX (bCe E)
theorem aUz : SQ D89 S89 := nK bNK
def D90 := cm 90
def bCd (r0 r1 r2 r3 : DV) (h : H) : aV := vK (dN .ptr false h.get r0 .nilp) λ x1 => aQ x1 false (λ kk => kk r1 h) h λ x2 h3 => aQ x1 false (λ kk => kk r2 h3) h3 λ x4 h5 => aQ x1 false (λ kk => wK (aC E 122 [x2, x4] h5) kk) h5 λ x6 h7 => aQ x1 false (λ kk => vK (eT x6) λ v => kk v h7) h7 λ x8 h9 => vK (aN x1 (.bool true) x8) λ x10 => aQ x10 false (λ kk => kk r3 h9) h9 λ x11 h12 => aQ x10 false (λ kk => vK (eQ x11) λ v => kk v h12) h12 λ x13 h14 => aQ x10 false (λ kk => vK (dW x13 (ii 4096)) λ v => kk v h14) h14 λ x15 h16 => vK (aN x10 (.bool true) x15) λ x17 => bK x17 (some ((.bool false), h16)) (wK (aC E 123 [r0, r1, r2] h16) λ x18 h19 => vK (aX 0 x18) λ x20 => vK (aX 1 x18) λ x21 => vK (eT x21) λ x22 => aQ x22 false (λ kk => kk r0 h19) h19 λ x23 h24 => aQ x22 false (λ kk => vK (aD x23) λ v => kk v h24) h24 λ x25 h26 => aQ x22 false (λ kk => vK (aP 1 x25) λ v => kk v h26) h26 λ x27 h28 => aQ x22 false (λ kk => vK (aO h28.get x27) λ v => kk v h28) h28 λ x29 h30 => aQ x22 false (λ kk => kk r1 h30) h30 λ x31 h32 => aQ x22 false (λ kk => vK (tX .int .nils false h32.get x29 x31) λ v => kk v h32) h32 λ x33 h34 => aQ x22 false (λ kk => kk x20 h34) h34 λ x35 h36 => aQ x22 false (λ kk => vK (cV 3 x33 x35) λ v => kk v h36) h36 λ x37 h38 => aQ x22 false (λ kk => vK (aP 1 x37) λ v => kk v h38) h38 λ x39 h40 => aQ x22 false (λ kk => vK (aO h40.get x39) λ v => kk v h40) h40 λ x41 h42 => aQ x22 false (λ kk => vK (eT x41) λ v => kk v h42) h42 λ x43 h44 => vK (aN x22 (.bool true) x43) λ x45 => bK x45 (some ((.bool false), h44)) (vK (aD r0) λ x46 => vK (aP 1 x46) λ x47 => vK (aO h44.get x47) λ x48 => vK (tX .int .nils false h44.get x48 r1) λ x49 => vK (dO [(ii 0), (.bool false), (.str [])] [(0, 1, r2), (2, 1, r3)]) λ x50 => vK (cV 3 x49 x20) λ x51 => wK (eK 3 x51 x50 h44) λ x52 h53 => some ((.bool true), h53)))
theorem bNJ : iB4 E D90 (bCd E) := Is.rf
def S90 : bQ := fA4 (bCd E)
theorem aUy : SQ D90 S90 := eB4 bNJ
def D91 := cm 91
def aPj (r0 : DV) (h : H) : aV := wK (aC E 134 [(.str [0]), r0] h) λ x1 h2 => some (x1, h2)
theorem bNI : nE E D91 (aPj E) := Is.rf
def S91 : bQ := mX (aPj E)
theorem bEz : SQ D91 S91 := nK bNI
def D92 := cm 92
def bRb := cr (cr (cr (cr D92.body)))
def bRa := cl (cr (cl (cr (cr (cr D92.body)))))
def aWb (E : bH) (h : H) : aV := some ((.bool true), h)
def aKf (r0 r1 r32 : DV) (i2 : DV → H → aV) (r33 : DV) (h : H) : aV := vK (bY r33 r32) λ x1 => bK x1 (vK (aD r0) λ x2 => vK (aP 0 x2) λ x3 => vK (pL 512 1 x3 r33) λ x4 => vK (aO h.get x4) λ x5 => vK (oL r1 r33) λ x6 => vK (pK x5 x6) λ x7 => vK (aD r0) λ x8 => vK (aP 0 x8) λ x9 => vK (pL 512 1 x9 r33) λ x10 => wK (eK 1 x10 x7 h) λ x11 h12 => vK (cF r33 (ii 1)) λ x13 => i2 x13 h12) (aWb E h)
def aFt (r0 r1 r32 : DV) (n : Nat) : DV → H → aV := Nat.rec (motive := λ _ => DV → H → aV) (λ _ _ => none) (λ _ i => aKf E r0 r1 r32 i) n
def aPi (r0 r1 r2 : DV) (h : H) : aV := vK (eQ r1) λ x1 => vK (dW x1 (ii 512)) λ x2 => aQ x2 false (λ kk => kk r2 h) h λ x3 h4 => aQ x2 false (λ kk => vK (eT x3) λ v => kk v h4) h4 λ x5 h6 => aQ x2 false (λ kk => kk x5 h6) h6 λ x7 h8 => aQ x7 true (λ kk => kk r1 h8) h8 λ x9 h10 => aQ x7 true (λ kk => vK (eQ x9) λ v => kk v h10) h10 λ x11 h12 => aQ x7 true (λ kk => kk r0 h12) h12 λ x13 h14 => aQ x7 true (λ kk => vK (aD x13) λ v => kk v h14) h14 λ x15 h16 => aQ x7 true (λ kk => vK (aP 512 x15) λ v => kk v h16) h16 λ x17 h18 => aQ x7 true (λ kk => vK (aO h18.get x17) λ v => kk v h18) h18 λ x19 h20 => aQ x7 true (λ kk => vK (dQ x11 x19) λ v => kk v h20) h20 λ x21 h22 => aQ x2 false (λ kk => vK (aN x7 x21 (.bool false)) λ v => kk v h22) h22 λ x23 h24 => vK (aN x2 (.bool true) x23) λ x25 => bK x25 (some ((.bool false), h24)) (vK (eQ r1) λ x26 => vK (aD r0) λ x27 => vK (aP 512 x27) λ x28 => wK (eK 1 x28 x26 h24) λ x29 h30 => vK (aD r0) λ x31 => vK (aP 512 x31) λ x32 => vK (aO h30.get x32) λ x33 => aFt E r0 r1 x33 aT (ii 0) h30)
theorem bNG : Is E bRb (bV D92.res) (λ σ h => aWb E h) := Is.rf
abbrev bNd : iL (DV × H) := (bZ 0 (cK (λ σ h => aWb E h) (bV D92.res)))
theorem bNF : Is E bRa (bNd E) (λ σ h => aFt E (σ p0) (σ p1) (σ p32) aT (σ p33) h) := Is.lp (λ n2 σ h => aFt E (σ p0) (σ p1) (σ p32) n2 (σ p33) h) λ n2 => Is.aq (Is.leaf _)
theorem bNH : iB3 E D92 (aPi E) := Is.aq (Is.sq (Is.sq (Is.sq (Is.sq (bNG E) (Is.sq (Is.bk (bNF E)) (Is.leaf _))) (Is.leaf _)) (Is.leaf _)) (Is.leaf _))
def S92 : bQ := fA3 (aPi E)
theorem bEy : SQ D92 S92 := eB3 bNH
def D93 := cm 93
def bCc (r0 r1 r2 : DV) (h : H) : aV := wK (aC E 105 [r0, r1] h) λ x1 h2 => vK (aX 0 x1) λ x3 => vK (aX 1 x1) λ x4 => vK (dQ x4 (ii 0)) λ x5 => aQ x5 false (λ kk => kk r2 h2) h2 λ x6 h7 => aQ x5 false (λ kk => vK (bY x6 (ii 0)) λ v => kk v h7) h7 λ x8 h9 => vK (aN x5 (.bool true) x8) λ x10 => aQ x10 false (λ kk => kk r2 h9) h9 λ x11 h12 => aQ x10 false (λ kk => kk x3 h12) h12 λ x13 h14 => aQ x10 false (λ kk => vK (bO x13) λ v => kk v h14) h14 λ x15 h16 => aQ x10 false (λ kk => vK (fK x11 x15) λ v => kk v h16) h16 λ x17 h18 => vK (aN x10 (.bool true) x17) λ x19 => bK x19 (some ((.tup [(ii 0), (ii 1)]), h18)) (vK (cV 1 x3 r2) λ x20 => vK (aO h18.get x20) λ x21 => some ((.tup [x21, (ii 0)]), h18))
theorem bNE : iB3 E D93 (bCc E) := Is.rf
def S93 : bQ := fA3 (bCc E)
theorem aUx : SQ D93 S93 := eB3 bNE
def D94 := cm 94
def bCb (E : bH) (h : H) : aV := none
theorem bND : nE E D94 (λ _ h => bCb E h) := Is.rf
def S94 : bQ := mX (λ _ h => bCb E h)
theorem bEx : SQ D94 S94 := nK bND
def D95 := cm 95
def bCa (E : bH) (r0 : DV) (h : H) : aV := vK (aEt 25 (ii 0) true r0) λ x1 => vK (aX 0 x1) λ x2 => vK (aX 1 x1) λ x3 => some (x2, h)
theorem bNC : nE E D95 (bCa E) := Is.rf
def S95 : bQ := mX (bCa E)
theorem bEw : SQ D95 S95 := nK bNC
def D96 := cm 96
def bCL := cr (cr (cr D96.body))
def bQZ := cr bCL
def aWa (E : bH) (r5 : DV) (h : H) : aV := vK (aD r5) λ x1 => vK (aP 1 x1) λ x2 => vK (aO h.get x2) λ x3 => some (x3, h)
def aPh (r5 : DV) (h : H) : aV := vK (aD r5) λ x1 => vK (aP 2 x1) λ x2 => vK (aO h.get x2) λ x3 => aQ x3 false (λ kk => kk r5 h) h λ x4 h5 => aQ x3 false (λ kk => vK (aD x4) λ v => kk v h5) h5 λ x6 h7 => aQ x3 false (λ kk => vK (aP 3 x6) λ v => kk v h7) h7 λ x8 h9 => aQ x3 false (λ kk => vK (aO h9.get x8) λ v => kk v h9) h9 λ x10 h11 => vK (aN x3 (.bool true) x10) λ x12 => bK x12 (none) (aWa E r5 h11)
def aFE (r0 r1 : DV) (h : H) : aV := wK (aC E 33 [r0, r1] h) λ x1 h2 => vK (dN .ptr false h2.get x1 .nilp) λ x3 => bK x3 (none) (aPh E x1 h2)
theorem bNz : Is E bQZ (bV D96.res) (λ σ h => aWa E (σ p5) h) := Is.rf
theorem bNA : Is E bCL (bV D96.res) (λ σ h => aPh E (σ p5) h) := Is.aq (Is.sq (bNz E) (Is.leaf _))
theorem bNB : mQ E D96 (aFE E) := Is.aq (Is.sq (Is.sq (Is.sq (bNA E) (Is.leaf _)) (Is.leaf _)) (Is.leaf _))
def S96 : bQ := mG (aFE E)
theorem bEv : SQ D96 S96 := mZ bNB
def D97 := cm 97
def bQY := cr (cr (cr (cr (cr (cr D97.body)))))
def aVZ (E : bH) (r12 : DV) (h : H) : aV := some (r12, h)
def aPg (r0 r1 r2 r3 : DV) (h : H) : aV := dJ r1 h λ x1 h2 => vK (dN .ptr false h2.get r0 .nilp) λ x3 => aQ x3 false (λ kk => vK (dD 2 h2.get x1) λ v => kk v h2) h2 λ x4 h5 => aQ x3 false (λ kk => wK (aC E 109 [x4] h5) kk) h5 λ x6 h7 => aQ x3 false (λ kk => vK (eT x6) λ v => kk v h7) h7 λ x8 h9 => vK (aN x3 (.bool true) x8) λ x10 => bK x10 (some ((ii 1), h9)) (vK (eQ r2) λ x11 => vK (dW x11 (ii 512)) λ x12 => bK x12 (some ((ii 2), h9)) (wK (aC E 135 [r0] h9) λ x13 h14 => vK (bY x13 (ii 0)) λ x15 => bK x15 (some ((ii 5), h14)) (vK (dD 2 h14.get x1) λ x16 => wK (aC E 75 [r0, x16] h14) λ x17 h18 => vK (fK x17 (ii 0)) λ x19 => bK x19 (some ((ii 6), h18)) (vK (aD r0) λ x20 => vK (aP 2 x20) λ x21 => vK (aO h18.get x21) λ x22 => bK x22 (some ((ii 16), h18)) (wK (aC E 135 [r0] h18) λ x23 h24 => wK (aC E 59 [r2, (ii 512)] h24) λ x25 h26 => vK (aX 0 x25) λ x27 => vK (aX 1 x25) λ x28 => vK (jM x23 (ii 9)) λ x29 => vK (cF x29 (ii 1)) λ x30 => vK (jM x23 (ii 9)) λ x31 => vK (dD 2 h26.get x1) λ x32 => wK (aC E 137 [r0, x30, x27] h26) λ x33 h34 => rK (rcK (dD 2 h34.get x1) x32) <| wK (aC E 110 [x32, r2] h34) λ x35 h36 => wK (aC E 137 [r0, x31, x35] h36) λ x37 h38 => eM 4 1 [.nilf] [(0, 1, x33), (1, 1, (.fn (.func 138) [r0] [])), (2, 1, x37), (3, 1, (.fn (.func 138) [r0] []))] h38 λ x39 h40 => wK (aC E 136 [r0, r3, x39] h40) λ x41 h42 => vK (cR x41 (ii 0)) λ x43 => bK x43 (vK (aD r0) λ x44 => vK (aP 1 x44) λ x45 => vK (aO h42.get x45) λ x46 => vK (dD 2 h42.get x1) λ x47 => vK (eQ r2) λ x48 => vK (dO [(.bool false), (ii 0), (ii 0), (ii 0)] [(0, 1, (.bool true)), (1, 2, x47), (3, 1, x48)]) λ x49 => vK (cV 4 x46 x23) λ x50 => wK (eK 4 x50 x49 h42) λ x51 h52 => aVZ E x41 h52) (aVZ E x41 h42))))))
theorem bNx : Is E bQY (bV D97.res) (λ σ h => aVZ E (σ tQ) h) := Is.rf
theorem bNy : iB4 E D97 (aPg E) := Is.aq (Is.sq (Is.sq (Is.sq (Is.sq (Is.sq (Is.sq (bNx E) (Is.leaf _)) (Is.leaf _)) (Is.leaf _)) (Is.leaf _)) (Is.leaf _)) (Is.leaf _))
def S97 : bQ := fA4 (aPg E)
theorem bEu : SQ D97 S97 := eB4 bNy
def aXH := cm 100
def aWY (r0 r1 : DV) (h : H) : aV := jG 6 6 (.list [(ii 0), (ii 0), (ii 0), (ii 0), (ii 0), .nils]) h λ x1 h2 => wK (aC E 139 [r0, r1] h2) λ x3 h4 => vK (dN .ptr false h4.get x3 .nilp) λ x5 => bK x5 (vK (dO [(ii 0), (ii 0), (ii 0), (ii 0), (ii 0), .nils] []) λ x6 => wK (eK 6 x1 x6 h4) λ x7 h8 => vK (dD 6 h8.get x1) λ x9 => some ((.tup [x9, (.bool false)]), h8)) (vK (aD x3) λ x10 => vK (dD 6 h4.get x10) λ x11 => jG 6 6 (.list [(ii 0), (ii 0), (ii 0), (ii 0), (ii 0), .nils]) h4 λ x12 h13 => wK (eK 6 x12 x11 h13) λ x14 h15 => vK (aP 5 x12) λ x16 => vK (aO h15.get x16) λ x17 => wK (aC E 140 [x17] h15) λ x18 h19 => vK (aP 5 x12) λ x20 => wK (eK 1 x20 x18 h19) λ x21 h22 => vK (dD 6 h22.get x12) λ x23 => wK (eK 6 x1 x23 h22) λ x24 h25 => vK (dD 6 h25.get x1) λ x26 => some ((.tup [x26, (.bool true)]), h25))
theorem bHG : mQ E aXH (aWY E) := Is.rf
def aVM : bQ := mG (aWY E)
theorem aPd : SQ aXH aVM := mZ bHG
def bIy := cm 101
def aWX (E : bH) (r2 : DV) (h : H) : aV := dJ r2 h λ x1 h2 => jG 1 1 (.list [(.str [])]) h2 λ x3 h4 => jG 1 1 (.list [(ii 0)]) h4 λ x5 h6 => none
theorem bHF : iB3 E bIy (λ _ _ r2 h => aWX E r2 h) := Is.rf
def bFq : bQ := fA3 (λ _ _ r2 h => aWX E r2 h)
theorem bAw : SQ bIy bFq := eB3 bHF
def aXG := cm 102
def aWW (E : bH) (r0 : DV) (h : H) : aV := vK (dN .ptr false h.get r0 .nilp) λ x1 => bK x1 (some ((ii 0), h)) (vK (aD r0) λ x2 => vK (aP 2 x2) λ x3 => vK (aO h.get x3) λ x4 => some (x4, h))
theorem bHE : nE E aXG (aWW E) := Is.rf
def aVL : bQ := mX (aWW E)
theorem aPc : SQ aXG aVL := nK bHE
def aHI := cm 105
def bJj := cr (cr (cr (cr aHI.body)))
def bJi := cl (cr (cl (cr (cr (cr aHI.body)))))
def aMt (E : bH) (r6 : DV) (h : H) : aV := some ((.tup [r6, (ii 0)]), h)
def bJt (r0 r1 r6 r23 : DV) (i2 : DV → H → aV) (r24 : DV) (h : H) : aV := vK (bY r24 r23) λ x1 => bK x1 (wK (aC E 144 [r0, r1, r24] h) λ x2 h3 => vK (cV 1 r0 x2) λ x4 => vK (aO h3.get x4) λ x5 => vK (cV 1 r6 r24) λ x6 => wK (eK 1 x6 x5 h3) λ x7 h8 => vK (cF r24 (ii 1)) λ x9 => i2 x9 h8) (aMt E r6 h)
def aMe (r0 r1 r6 r23 : DV) (n : Nat) : DV → H → aV := Nat.rec (motive := λ _ => DV → H → aV) (λ _ _ => none) (λ _ i => bJt E r0 r1 r6 r23 i) n
def aWV (r0 r1 : DV) (h : H) : aV := wK (aC E 143 [r0] h) λ x1 h2 => vK (eT x1) λ x3 => aQ x3 false (λ kk => kk r1 h2) h2 λ x4 h5 => aQ x3 false (λ kk => vK (bY x4 (ii 0)) λ v => kk v h5) h5 λ x6 h7 => vK (aN x3 (.bool true) x6) λ x8 => aQ x8 false (λ kk => kk r1 h7) h7 λ x9 h10 => aQ x8 false (λ kk => vK (fK x9 (ii 4096)) λ v => kk v h10) h10 λ x11 h12 => vK (aN x8 (.bool true) x11) λ x13 => bK x13 (some ((.tup [.nils, (ii 1)]), h12)) (vK (bO r0) λ x14 => kI 1 8 (ii 0) x14 x14 h12 λ x15 h16 => vK (bO r0) λ x17 => aMe E r0 r1 x15 x17 aT (ii 0) h16)
theorem bHC : Is E bJj (bV aHI.res) (λ σ h => aMt E (σ p6) h) := Is.rf
abbrev bFF : iL (DV × H) := (cK (λ σ h => aMt E (σ p6) h) (bV aHI.res))
theorem bHB : Is E bJi (bZ 0 (bFF E)) (λ σ h => aMe E (σ p0) (σ p1) (σ p6) (σ p23) aT (σ p24) h) := Is.lp (λ n2 σ h => aMe E (σ p0) (σ p1) (σ p6) (σ p23) n2 (σ p24) h) λ n2 => Is.aq (Is.leaf _)
theorem bHD : mQ E aHI (aWV E) := Is.aq (Is.sq (Is.sq (Is.sq (Is.sq (bHC E) (Is.sq (Is.bk (bHB E)) (Is.leaf _))) (Is.leaf _)) (Is.leaf _)) (Is.leaf _))
def aVK : bQ := mG (aWV E)
theorem aPb : SQ aHI aVK := mZ bHD
def aHH := cm 106
def bJh := cr (cr aHH.body)
def bJg := cl (cr (cl (cr aHH.body)))
def aMs (E : bH) (h : H) : aV := some ((.int .i64 (.negSucc 0)), h)
def bJs (r0 r1 r7 : DV) (i2 : DV → H → aV) (r8 : DV) (h : H) : aV := vK (bY r8 r7) λ x1 => bK x1 (vK (cV 1 r0 r8) λ x2 => vK (aO h.get x2) λ x3 => vK (cR r1 x3) λ x4 => bK x4 (some (r8, h)) (vK (cF r8 (ii 1)) λ x5 => i2 x5 h)) (aMs E h)
def aMd (r0 r1 r7 : DV) (n : Nat) : DV → H → aV := Nat.rec (motive := λ _ => DV → H → aV) (λ _ _ => none) (λ _ i => bJs E r0 r1 r7 i) n
def aWU (r0 r1 : DV) (h : H) : aV := vK (bO r0) λ x1 => aMd E r0 r1 x1 aT (ii 0) h
theorem bHz : Is E bJh (bV aHH.res) (λ σ h => aMs E h) := Is.rf
abbrev bFE : iL (DV × H) := (bZ 0 (cK (λ σ h => aMs E h) (bV aHH.res)))
theorem bHy : Is E bJg (bFE E) (λ σ h => aMd E (σ p0) (σ p1) (σ p7) aT (σ p8) h) := Is.lp (λ n2 σ h => aMd E (σ p0) (σ p1) (σ p7) n2 (σ p8) h) λ n2 => Is.aq (Is.leaf _)
theorem bHA : mQ E aHH (aWU E) := Is.aq (Is.sq (Is.sq (bHz E) (Is.sq (Is.bk (bHy E)) (Is.leaf _))) (Is.leaf _))
def aVJ : bQ := mG (aWU E)
theorem aPa : SQ aHH aVJ := mZ bHA
def bIx := cm 107
def aAO (E : bH) (r0 r1 r2 r3 : DV) (h : H) : aV := vK (dN .ptr false h.get r0 .nilp) λ x1 => aQ x1 false (λ kk => kk r1 h) h λ x2 h3 => aQ x1 false (λ kk => vK (bY x2 (ii 0)) λ v => kk v h3) h3 λ x4 h5 => vK (aN x1 (.bool true) x4) λ x6 => aQ x6 false (λ kk => kk r2 h5) h5 λ x7 h8 => aQ x6 false (λ kk => vK (bY x7 (ii 1)) λ v => kk v h8) h8 λ x9 h10 => vK (aN x6 (.bool true) x9) λ x11 => aQ x11 false (λ kk => kk r3 h10) h10 λ x12 h13 => aQ x11 false (λ kk => vK (eT x12) λ v => kk v h13) h13 λ x14 h15 => vK (aN x11 (.bool true) x14) λ x16 => bK x16 (some ((ii 1), h15)) (vK (aD r0) λ x17 => vK (aP 0 x17) λ x18 => vK (aO h15.get x18) λ x19 => vK (bO x19) λ x20 => vK (dW r1 x20) λ x21 => aQ x21 false (λ kk => kk r2 h15) h15 λ x22 h23 => aQ x21 false (λ kk => kk r0 h23) h23 λ x24 h25 => aQ x21 false (λ kk => vK (aD x24) λ v => kk v h25) h25 λ x26 h27 => aQ x21 false (λ kk => vK (aP 0 x26) λ v => kk v h27) h27 λ x28 h29 => aQ x21 false (λ kk => vK (aO h29.get x28) λ v => kk v h29) h29 λ x30 h31 => aQ x21 false (λ kk => vK (bO x30) λ v => kk v h31) h31 λ x32 h33 => aQ x21 false (λ kk => kk r1 h33) h33 λ x34 h35 => aQ x21 false (λ kk => vK (jD x32 x34) λ v => kk v h35) h35 λ x36 h37 => aQ x21 false (λ kk => vK (dW x22 x36) λ v => kk v h37) h37 λ x38 h39 => vK (aN x21 (.bool true) x38) λ x40 => bK x40 (some ((ii 5), h39)) (vK (aD r0) λ x41 => vK (aP 2 x41) λ x42 => vK (aO h39.get x42) λ x43 => bK x43 (some ((ii 8), h39)) (some ((ii 0), h39))))
theorem bHx : iB4 E bIx (aAO E) := Is.rf
def aDH : bQ := fA4 (aAO E)
theorem bAv : SQ bIx aDH := eB4 bHx
def bIw := cm 108
def aHu (E : bH) (r0 : DV) (h : H) : aV := vK (oL r0 (ii 0)) λ x1 => vK (cS .i64 x1) λ x2 => vK (oL r0 (ii 1)) λ x3 => vK (cS .i64 x3) λ x4 => vK (tW x4 (.int .u64 (.ofNat 8))) λ x5 => vK (aEd x2 x5) λ x6 => vK (oL r0 (ii 2)) λ x7 => vK (cS .i64 x7) λ x8 => vK (tW x8 (.int .u64 (.ofNat 16))) λ x9 => vK (aEd x6 x9) λ x10 => vK (oL r0 (ii 3)) λ x11 => vK (cS .i64 x11) λ x12 => vK (tW x12 (.int .u64 (.ofNat 24))) λ x13 => vK (aEd x10 x13) λ x14 => some (x14, h)
theorem bHw : nE E bIw (aHu E) := Is.rf
def aLU : bQ := mX (aHu E)
theorem bAu : SQ bIw aLU := nK bHw
def bIv := cm 109
def aHt (E : bH) (r0 : DV) (h : H) : aV := dJ r0 h λ x1 h2 => vK (aP 0 x1) λ x3 => vK (aO h2.get x3) λ x4 => vK (fK x4 (ii 0)) λ x5 => aQ x5 true (λ kk => vK (aP 0 x1) λ v => kk v h2) h2 λ x6 h7 => aQ x5 true (λ kk => vK (aO h7.get x6) λ v => kk v h7) h7 λ x8 h9 => aQ x5 true (λ kk => vK (bY x8 (ii 2147483648)) λ v => kk v h9) h9 λ x10 h11 => vK (aN x5 x10 (.bool false)) λ x12 => aQ x12 true (λ kk => vK (aP 1 x1) λ v => kk v h11) h11 λ x13 h14 => aQ x12 true (λ kk => vK (aO h14.get x13) λ v => kk v h14) h14 λ x15 h16 => aQ x12 true (λ kk => vK (fK x15 (ii 0)) λ v => kk v h16) h16 λ x17 h18 => vK (aN x12 x17 (.bool false)) λ x19 => aQ x19 true (λ kk => vK (aP 1 x1) λ v => kk v h18) h18 λ x20 h21 => aQ x19 true (λ kk => vK (aO h21.get x20) λ v => kk v h21) h21 λ x22 h23 => aQ x19 true (λ kk => vK (bY x22 (ii 8)) λ v => kk v h23) h23 λ x24 h25 => vK (aN x19 x24 (.bool false)) λ x26 => some (x26, h25)
theorem bHv : nE E bIv (aHt E) := Is.rf
def aRE : bQ := mX (aHt E)
theorem bAt : SQ bIv aRE := nK bHv
def bIu := cm 110
def aHs (r0 r1 : DV) (h : H) : aV := dJ r0 h λ x1 h2 => vK (aP 0 x1) λ x3 => vK (aO h2.get x3) λ x4 => vK (cS .u32 x4) λ x5 => vK (aP 1 x1) λ x6 => vK (aO h2.get x6) λ x7 => vK (cS .u32 x7) λ x8 => vK (eQ r1) λ x9 => vK (cS .u32 x9) λ x10 => wK (aC E 145 [x5] h2) λ x11 h12 => rK (rcK (aO h12.get x6) x7) <| vK (cF (.str [72, 70, 82, 71]) x11) λ x13 => wK (aC E 145 [x8] h12) λ x14 h15 => vK (cF x13 x14) λ x16 => wK (aC E 145 [x10] h15) λ x17 h18 => vK (cF x16 x17) λ x19 => wK (aC E 146 [r1] h18) λ x20 h21 => wK (aC E 145 [x20] h21) λ x22 h23 => vK (cF x19 x22) λ x24 => wK (aC E 59 [x24, (ii 60)] h23) λ x25 h26 => vK (aX 0 x25) λ x27 => vK (aX 1 x25) λ x28 => wK (aC E 147 [x27] h26) λ x29 h30 => some (x29, h30)
theorem bHu : mQ E bIu (aHs E) := Is.rf
def aRD : bQ := mG (aHs E)
theorem bAs : SQ bIu aRD := mZ bHu
def aMI := cm 111
def bJf := cr (cr aMI.body)
def bJe := cl (cr (cl (cr aMI.body)))
def aMr (E : bH) (h : H) : aV := some ((.int .i64 (.negSucc 0)), h)
def aAR (r0 r1 r7 : DV) (i2 : DV → H → aV) (r8 : DV) (h : H) : aV := vK (bY r8 r7) λ x1 => bK x1 (vK (cV 4 r0 r8) λ x2 => vK (dD 4 h.get x2) λ x3 => wK (lU E r1 [x3] h) λ x4 h5 => bK x4 (some (r8, h5)) (vK (cF r8 (ii 1)) λ x6 => i2 x6 h5)) (aMr E h)
def xT (r0 r1 r7 : DV) (n : Nat) : DV → H → aV := Nat.rec (motive := λ _ => DV → H → aV) (λ _ _ => none) (λ _ i => aAR E r0 r1 r7 i) n
def aHr (r0 r1 : DV) (h : H) : aV := vK (bO r0) λ x1 => xT E r0 r1 x1 aT (ii 0) h
theorem bHs : Is E bJf (bV aMI.res) (λ σ h => aMr E h) := Is.rf
abbrev bFD : iL (DV × H) := (bZ 0 (cK (λ σ h => aMr E h) (bV aMI.res)))
theorem bHr : Is E bJe (bFD E) (λ σ h => xT E (σ p0) (σ p1) (σ p7) aT (σ p8) h) := Is.lp (λ n2 σ h => xT E (σ p0) (σ p1) (σ p7) n2 (σ p8) h) λ n2 => Is.aq (Is.leaf _)
theorem bHt : mQ E aMI (aHr E) := Is.aq (Is.sq (Is.sq (bHs E) (Is.sq (Is.bk (bHr E)) (Is.leaf _))) (Is.leaf _))
def aJS : bQ := mG (aHr E)
theorem bAr : SQ aMI aJS := mZ bHt
def bIt := cm 112
def aHq (E : bH) (r0 r1 : DV) (h : H) : aV := dJ r0 h λ x1 h2 => vK (aP 0 x1) λ x3 => vK (aO h2.get x3) λ x4 => aQ x4 true (λ kk => vK (aP 1 x1) λ v => kk v h2) h2 λ x5 h6 => aQ x4 true (λ kk => vK (dD 2 h6.get x5) λ v => kk v h6) h6 λ x7 h8 => aQ x4 true (λ kk => vK (dD 2 h8.get r1) λ v => kk v h8) h8 λ x9 h10 => aQ x4 true (λ kk => vK (uA false (.leaf .int 0 (.leaf .int 1 .nil)) h10.get x7 x9) λ v => kk v h10) h10 λ x11 h12 => vK (aN x4 x11 (.bool false)) λ x13 => some (x13, h12)
theorem bHq : mQ E bIt (aHq E) := Is.rf
def aRC : bQ := mG (aHq E)
theorem bAq : SQ bIt aRC := mZ bHq
def aHG := cm 113
def bJd := cr (cr (cr aHG.body))
def aMM := cl (cr (cl (cr (cr aHG.body))))
def bJc := cr (cr (cr (cl aMM)))
def bJb := cl (cr (cr (cl (cl (cr (cr (cl aMM)))))))
def aMq (E : bH) (h : H) : aV := some ((.bool true), h)
def aMp (E : bH) (i2 : DV → H → aV) (r10 : DV) (h : H) : aV := vK (cF r10 (ii 1)) λ x1 => i2 x1 h
def bJq (i2 : DV → H → aV) (r3 r10 r14 r15 : DV) (i4 : DV → H → aV) (r16 : DV) (h : H) : aV := vK (bY r16 r15) λ x1 => bK x1 (vK (cV 1 r14 r16) λ x2 => vK (aO h.get x2) λ x3 => vK (bY x3 (ii 0)) λ x4 => aQ x4 false (λ kk => kk x3 h) h λ x5 h6 => aQ x4 false (λ kk => vK (fK x5 (ii 64)) λ v => kk v h6) h6 λ x7 h8 => vK (aN x4 (.bool true) x7) λ x9 => aQ x9 false (λ kk => kk x3 h8) h8 λ x10 h11 => aQ x9 false (λ kk => vK (pL 64 1 r3 x10) λ v => kk v h11) h11 λ x12 h13 => aQ x9 false (λ kk => vK (aO h13.get x12) λ v => kk v h13) h13 λ x14 h15 => vK (aN x9 (.bool true) x14) λ x16 => bK x16 (some ((.bool false), h15)) (vK (pL 64 1 r3 x3) λ x17 => wK (eK 1 x17 (.bool true) h15) λ x18 h19 => vK (cF r16 (ii 1)) λ x20 => i4 x20 h19)) (aMp E i2 r10 h)
def aMc (i2 : DV → H → aV) (r3 r10 r14 r15 : DV) (n : Nat) : DV → H → aV := Nat.rec (motive := λ _ => DV → H → aV) (λ _ _ => none) (λ _ i => bJq E i2 r3 r10 r14 r15 i) n
def bJr (r3 r8 r9 : DV) (i2 : DV → H → aV) (r10 : DV) (h : H) : aV := vK (bY r10 r9) λ x1 => bK x1 (vK (cV 1 r8 r10) λ x2 => vK (aO h.get x2) λ x3 => vK (bO x3) λ x4 => aMc E i2 r3 r10 x3 x4 aT (ii 0) h) (aMq E h)
def vA (r3 r8 r9 : DV) (n : Nat) : DV → H → aV := Nat.rec (motive := λ _ => DV → H → aV) (λ _ _ => none) (λ _ i => bJr E r3 r8 r9 i) n
def aWT (r0 : DV) (h : H) : aV := jG 64 64 (.full 64 (.bool false)) h λ x1 h2 => vK (bO r0) λ x3 => vA E x1 r0 x3 aT (ii 0) h2
theorem bHo : Is E bJd (bV aHG.res) (λ σ h => aMq E h) := Is.rf
abbrev aVY : iL (DV × H) := (bZ 0 (cK (λ σ h => aMq E h) (bV aHG.res)))
abbrev aVX (n2 : Nat) : iL (DV × H) := (cK (λ σ h => (vA E (σ p3) (σ p8) (σ p9) n2) (σ mC) h) (aVY E))
theorem bHm (n2 : Nat) : Is E bJc (aVX E n2) (λ σ h => aMp E (vA E (σ p3) (σ p8) (σ p9) n2) (σ mC) h) := Is.rf
abbrev bFC (n2 : Nat) : iL (DV × H) := (cK (λ σ h => aMp E (vA E (σ p3) (σ p8) (σ p9) n2) (σ mC) h) (aVX E n2))
theorem bHl (n2 : Nat) : Is E bJb (bZ 2 (bZ 1 (bFC E n2))) (λ σ h => aMc E (vA E (σ p3) (σ p8) (σ p9) n2) (σ p3) (σ mC) (σ wN) (σ p15) aT (σ p16) h) := Is.lp (λ n4 σ h => aMc E (vA E (σ p3) (σ p8) (σ p9) n2) (σ p3) (σ mC) (σ wN) (σ p15) n4 (σ p16) h) λ n4 => Is.aq (Is.leaf _)
theorem bHn : Is E aMM (aVY E) (λ σ h => vA E (σ p3) (σ p8) (σ p9) aT (σ mC) h) := Is.lp (λ n2 σ h => vA E (σ p3) (σ p8) (σ p9) n2 (σ mC) h) λ n2 => Is.aq (Is.sq (Is.sq (Is.sq (bHm E n2) (Is.bk (Is.sq (Is.sq (Is.bk (bHl E n2)) (Is.leaf _)) (Is.leaf _)))) (Is.leaf _)) (Is.leaf _))
theorem bHp : nE E aHG (aWT E) := Is.aq (Is.sq (Is.sq (Is.sq (bHo E) (Is.sq (Is.bk (bHn E)) (Is.leaf _))) (Is.leaf _)) (Is.leaf _))
def aVI : bQ := mX (aWT E)
theorem aOZ : SQ aHG aVI := nK bHp
def aXF := cm 114
def aHp (r0 r1 : DV) (h : H) : aV := vK (dN .ptr false h.get r0 .nilp) λ x1 => aQ x1 false (λ kk => kk r0 h) h λ x2 h3 => aQ x1 false (λ kk => vK (aD x2) λ v => kk v h3) h3 λ x4 h5 => aQ x1 false (λ kk => vK (aP 2 x4) λ v => kk v h5) h5 λ x6 h7 => aQ x1 false (λ kk => vK (aO h7.get x6) λ v => kk v h7) h7 λ x8 h9 => aQ x1 false (λ kk => vK (dQ x8 (ii 0)) λ v => kk v h9) h9 λ x10 h11 => vK (aN x1 (.bool true) x10) λ x12 => bK x12 (some ((.tup []), h11)) (vK (aD r0) λ x13 => vK (aP 1 x13) λ x14 => vK (aO h11.get x14) λ x15 => vK (aD r0) λ x16 => vK (aP 1 x16) λ x17 => vK (aO h11.get x17) λ x18 => vK (bO x18) λ x19 => vK (aD r0) λ x20 => vK (aP 1 x20) λ x21 => vK (aO h11.get x21) λ x22 => vK (bO x22) λ x23 => vK (aCd 1 x15 none x19 x23) λ x24 => wK (lU E r1 [x24] h11) λ x25 h26 => vK (bO x25) λ x27 => vK (aD r0) λ x28 => vK (aP 0 x28) λ x29 => vK (aO h26.get x29) λ x30 => vK (dW x27 x30) λ x31 => bK x31 (vK (aD r0) λ x32 => vK (aP 2 x32) λ x33 => wK (eK 1 x33 (ii 2) h26) λ x34 h35 => some ((.tup []), h35)) (vK (aD r0) λ x36 => vK (aP 1 x36) λ x37 => wK (eK 1 x37 x25 h26) λ x38 h39 => some ((.tup []), h39)))
theorem bHk : mQ E aXF (aHp E) := Is.rf
def aJR : bQ := mG (aHp E)
theorem aOY : SQ aXF aJR := mZ bHk
def aXE := cm 115
def aHo (r0 r1 : DV) (h : H) : aV := vK (aO h.get r1) λ x1 => wK (aC E 116 [r0, x1] h) λ x2 h3 => some (x2, h3)
theorem bHj : mQ E aXE (aHo E) := Is.rf
def aLT : bQ := mG (aHo E)
theorem aOX : SQ aXE aLT := mZ bHj
def aHF := cm 116
def bJa := cr (cr (cr aHF.body))
def bIZ := cl (cl (cr (cr aHF.body)))
def aDM (E : bH) (r0 r5 : DV) (h : H) : aV := vK (cS .u8 r5) λ x1 => eM 1 1 [(.int .u8 (.ofNat 0))] [(0, 1, x1)] h λ x2 h3 => wK (cT 1 1 r0 x2 h3) λ x4 h5 => some (x4, h5)
def aDX (i2 : DV → DV → H → aV) (r0 r5 : DV) (h : H) : aV := vK (fK r5 (.int .u64 (.ofNat 128))) λ x1 => bK x1 (vK (cS .u8 r5) λ x2 => vK (aEd x2 (.int .u8 (.ofNat 128))) λ x3 => eM 1 1 [(.int .u8 (.ofNat 0))] [(0, 1, x3)] h λ x4 h5 => wK (cT 1 1 r0 x4 h5) λ x6 h7 => vK (lI r5 (.int .u64 (.ofNat 7))) λ x8 => i2 x6 x8 h7) (aDM E r0 r5 h)
def aAM (n : Nat) : DV → DV → H → aV := Nat.rec (motive := λ _ => DV → DV → H → aV) (λ _ _ _ => none) (λ _ i => aDX E i) n
def aHn (r0 r1 : DV) (h : H) : aV := vK (cS .u64 r1) λ x1 => vK (tW x1 (.int .u64 (.ofNat 1))) λ x2 => vK (lI r1 (.int .u64 (.ofNat 63))) λ x3 => vK (cS .u64 x3) λ x4 => vK (pK x2 x4) λ x5 => aAM E aT r0 x5 h
theorem bHh : Is E bJa (bV aHF.res) (λ σ h => aDM E (σ p0) (σ p5) h) := Is.rf
abbrev bFB : iL (DV × H) := (cK (λ σ h => aDM E (σ p0) (σ p5) h) (bV aHF.res))
theorem bHg : Is E bIZ (bZ 0 (bFB E)) (λ σ h => aAM E aT (σ p0) (σ p5) h) := Is.lp (λ n2 σ h => aAM E n2 (σ p0) (σ p5) h) λ n2 => Is.aq (Is.leaf _)
theorem bHi : mQ E aHF (aHn E) := Is.aq (Is.sq (Is.sq (Is.sq (bHh E) (Is.bk (bHg E))) (Is.leaf _)) (Is.leaf _))
def aLS : bQ := mG (aHn E)
theorem aOW : SQ aHF aLS := mZ bHi
def aXD := cm 117
def aHm (r0 r1 : DV) (h : H) : aV := vK (dN .ptr false h.get r0 .nilp) λ x1 => aQ x1 false (λ kk => kk r0 h) h λ x2 h3 => aQ x1 false (λ kk => vK (aD x2) λ v => kk v h3) h3 λ x4 h5 => aQ x1 false (λ kk => vK (aP 1 x4) λ v => kk v h5) h5 λ x6 h7 => aQ x1 false (λ kk => vK (aO h7.get x6) λ v => kk v h7) h7 λ x8 h9 => vK (aN x1 (.bool true) x8) λ x10 => aQ x10 false (λ kk => kk r1 h9) h9 λ x11 h12 => aQ x10 false (λ kk => vK (bY x11 (ii 0)) λ v => kk v h12) h12 λ x13 h14 => vK (aN x10 (.bool true) x13) λ x15 => aQ x15 false (λ kk => kk r1 h14) h14 λ x16 h17 => aQ x15 false (λ kk => kk r0 h17) h17 λ x18 h19 => aQ x15 false (λ kk => vK (aD x18) λ v => kk v h19) h19 λ x20 h21 => aQ x15 false (λ kk => vK (aP 0 x20) λ v => kk v h21) h21 λ x22 h23 => aQ x15 false (λ kk => vK (aO h23.get x22) λ v => kk v h23) h23 λ x24 h25 => aQ x15 false (λ kk => vK (eQ x24) λ v => kk v h25) h25 λ x26 h27 => aQ x15 false (λ kk => vK (dW x16 x26) λ v => kk v h27) h27 λ x28 h29 => vK (aN x15 (.bool true) x28) λ x30 => bK x30 (wK (aC E 148 [r0] h29) λ x31 h32 => some ((.tup [(.str []), (.bool false)]), h32)) (vK (aD r0) λ x33 => vK (aP 0 x33) λ x34 => vK (aO h29.get x34) λ x35 => vK (iM x35 none (some r1)) λ x36 => vK (aD r0) λ x37 => vK (aP 0 x37) λ x38 => vK (aO h29.get x38) λ x39 => vK (iM x39 (some r1) none) λ x40 => vK (aD r0) λ x41 => vK (aP 0 x41) λ x42 => wK (eK 1 x42 x40 h29) λ x43 h44 => some ((.tup [x36, (.bool true)]), h44))
theorem bHf : mQ E aXD (aHm E) := Is.rf
def aLR : bQ := mG (aHm E)
theorem aOV : SQ aXD aLR := mZ bHf
def aXC := cm 118
def aHl (r0 : DV) (h : H) : aV := vK (dN .ptr false h.get r0 .nilp) λ x1 => bK x1 (some ((ii 0), h)) (vK (aD r0) λ x2 => vK (aP 0 x2) λ x3 => vK (aO h.get x3) λ x4 => wK (aC E 149 [x4] h) λ x5 h6 => vK (aX 0 x5) λ x7 => vK (aX 1 x5) λ x8 => vK (cR x8 (ii 0)) λ x9 => bK x9 (wK (aC E 148 [r0] h6) λ x10 h11 => some ((ii 0), h11)) (wK (aC E 117 [r0, x8] h6) λ x12 h13 => vK (lI x7 (.int .u64 (.ofNat 1))) λ x14 => vK (cS .i64 x14) λ x15 => vK (qP x7 (.int .u64 (.ofNat 1))) λ x16 => vK (cS .i64 x16) λ x17 => vK (wL x17) λ x18 => vK (pK x15 x18) λ x19 => some (x19, h13)))
theorem bHe : nE E aXC (aHl E) := Is.rf
def aLQ : bQ := mX (aHl E)
theorem aOU : SQ aXC aLQ := nK bHe
def aHE := cm 119
def bIY := cr (cr (cr (cr (cr aHE.body))))
def bIX := cl (cr (cl (cr (cr (cr (cr aHE.body))))))
def aMo (E : bH) (r6 : DV) (h : H) : aV := some (r6, h)
def bJp (r0 r1 r26 : DV) (i2 : DV → DV → H → aV) (r6 r27 : DV) (h : H) : aV := vK (bY r27 r26) λ x1 => bK x1 (wK (lU E r1 [] h) λ x2 h3 => eM 1 1 [(ii 0)] [(0, 1, x2)] h3 λ x4 h5 => wK (cT 1 8 r6 x4 h5) λ x6 h7 => vK (aD r0) λ x8 => vK (aP 1 x8) λ x9 => vK (aO h7.get x9) λ x10 => bK x10 (some (.nils, h7)) (vK (cF r27 (ii 1)) λ x11 => i2 x6 x11 h7)) (aMo E r6 h)
def aMb (r0 r1 r26 : DV) (n : Nat) : DV → DV → H → aV := Nat.rec (motive := λ _ => DV → DV → H → aV) (λ _ _ _ => none) (λ _ i => bJp E r0 r1 r26 i) n
def aWS (r0 r1 : DV) (h : H) : aV := wK (aC E 118 [r0] h) λ x1 h2 => vK (dN .ptr false h2.get r0 .nilp) λ x3 => aQ x3 false (λ kk => kk x1 h2) h2 λ x4 h5 => aQ x3 false (λ kk => vK (bY x4 (ii 0)) λ v => kk v h5) h5 λ x6 h7 => vK (aN x3 (.bool true) x6) λ x8 => aQ x8 false (λ kk => kk x1 h7) h7 λ x9 h10 => aQ x8 false (λ kk => kk r0 h10) h10 λ x11 h12 => aQ x8 false (λ kk => vK (aD x11) λ v => kk v h12) h12 λ x13 h14 => aQ x8 false (λ kk => vK (aP 0 x13) λ v => kk v h14) h14 λ x15 h16 => aQ x8 false (λ kk => vK (aO h16.get x15) λ v => kk v h16) h16 λ x17 h18 => aQ x8 false (λ kk => vK (eQ x17) λ v => kk v h18) h18 λ x19 h20 => aQ x8 false (λ kk => vK (dW x9 x19) λ v => kk v h20) h20 λ x21 h22 => vK (aN x8 (.bool true) x21) λ x23 => bK x23 (wK (aC E 148 [r0] h22) λ x24 h25 => some (.nils, h25)) (aMb E r0 r1 x1 aT .nils (ii 0) h22)
theorem bHc : Is E bIY (bV aHE.res) (λ σ h => aMo E (σ p6) h) := Is.rf
abbrev bFA : iL (DV × H) := (cK (λ σ h => aMo E (σ p6) h) (bV aHE.res))
theorem bHb : Is E bIX (bZ 0 (bFA E)) (λ σ h => aMb E (σ p0) (σ p1) (σ p26) aT (σ p6) (σ p27) h) := Is.lp (λ n2 σ h => aMb E (σ p0) (σ p1) (σ p26) n2 (σ p6) (σ p27) h) λ n2 => Is.aq (Is.leaf _)
theorem bHd : mQ E aHE (aWS E) := Is.aq (Is.sq (Is.sq (Is.sq (Is.sq (Is.sq (bHc E) (Is.sq (Is.bk (bHb E)) (Is.leaf _))) (Is.leaf _)) (Is.leaf _)) (Is.leaf _)) (Is.leaf _))
def aVH : bQ := mG (aWS E)
theorem aOT : SQ aHE aVH := mZ bHd
def aMH := cm 120
def bIW := cr (cr aMH.body)
def aMn (r0 r3 : DV) (h : H) : aV := wK (aC E 114 [r0, (.fn (.func 150) [] [r3])] h) λ x1 h2 => some ((.tup []), h2)
def aWR (r0 r1 : DV) (h : H) : aV := dJ r1 h λ x1 h2 => vK (dN .ptr true h2.get r0 .nilp) λ x3 => aQ x3 true (λ kk => kk r0 h2) h2 λ x4 h5 => aQ x3 true (λ kk => vK (aD x4) λ v => kk v h5) h5 λ x6 h7 => aQ x3 true (λ kk => vK (aP 2 x6) λ v => kk v h7) h7 λ x8 h9 => aQ x3 true (λ kk => vK (aO h9.get x8) λ v => kk v h9) h9 λ x10 h11 => aQ x3 true (λ kk => vK (cR x10 (ii 0)) λ v => kk v h11) h11 λ x12 h13 => vK (aN x3 x12 (.bool false)) λ x14 => aQ x14 true (λ kk => vK (aO h13.get x1) λ v => kk v h13) h13 λ x15 h16 => aQ x14 true (λ kk => vK (bY x15 (ii 0)) λ v => kk v h16) h16 λ x17 h18 => aQ x14 true (λ kk => kk x17 h18) h18 λ x19 h20 => aQ x19 false (λ kk => vK (aO h20.get x1) λ v => kk v h20) h20 λ x21 h22 => aQ x19 false (λ kk => vK (dW x21 (ii 255)) λ v => kk v h22) h22 λ x23 h24 => aQ x14 true (λ kk => vK (aN x19 (.bool true) x23) λ v => kk v h24) h24 λ x25 h26 => vK (aN x14 x25 (.bool false)) λ x27 => bK x27 (vK (aD r0) λ x28 => vK (aP 2 x28) λ x29 => wK (eK 1 x29 (ii 1) h26) λ x30 h31 => aMn E r0 x1 h31) (aMn E r0 x1 h26)
theorem bGZ : Is E bIW (bV aMH.res) (λ σ h => aMn E (σ p0) (σ p3) h) := Is.rf
theorem bHa : mQ E aMH (aWR E) := Is.aq (Is.sq (Is.sq (bGZ E) (Is.leaf _)) (Is.leaf _))
def aVG : bQ := mG (aWR E)
theorem aOS : SQ aMH aVG := mZ bHa
def aXB := cm 121
def aWQ (r0 r1 : DV) (h : H) : aV := dJ r1 h λ x1 h2 => wK (aC E 114 [r0, (.fn (.func 151) [] [x1])] h2) λ x3 h4 => some ((.tup []), h4)
theorem bGY : mQ E aXB (aWQ E) := Is.rf
def aVF : bQ := mG (aWQ E)
theorem aOR : SQ aXB aVF := mZ bGY
def aXA := cm 122
def aWP (E : bH) (r0 r1 : DV) (h : H) : aV := vK (fK r0 (ii 0)) λ x1 => aQ x1 true (λ kk => kk r0 h) h λ x2 h3 => aQ x1 true (λ kk => vK (bY x2 (ii 64)) λ v => kk v h3) h3 λ x4 h5 => vK (aN x1 x4 (.bool false)) λ x6 => aQ x6 true (λ kk => kk r1 h5) h5 λ x7 h8 => aQ x6 true (λ kk => vK (fK x7 (ii 0)) λ v => kk v h8) h8 λ x9 h10 => vK (aN x6 x9 (.bool false)) λ x11 => aQ x11 true (λ kk => kk r1 h10) h10 λ x12 h13 => aQ x11 true (λ kk => vK (bY x12 (ii 2147483648)) λ v => kk v h13) h13 λ x14 h15 => vK (aN x11 x14 (.bool false)) λ x16 => some (x16, h15)
theorem bGX : mQ E aXA (aWP E) := Is.rf
def aVE : bQ := mG (aWP E)
theorem aOQ : SQ aXA aVE := mZ bGX
def aXz := cm 123
def aWO (r0 r1 r2 : DV) (h : H) : aV := vK (aD r0) λ x1 => vK (aP 1 x1) λ x2 => vK (aO h.get x2) λ x3 => vK (tX .int .nils false h.get x3 r1) λ x4 => wK (aC E 152 [x4, r2, (.fn (.func 153) [] [])] h) λ x5 h6 => vK (aX 0 x5) λ x7 => vK (aX 1 x5) λ x8 => some ((.tup [x7, x8]), h6)
theorem bGW : iB3 E aXz (aWO E) := Is.rf
def aVD : bQ := fA3 (aWO E)
theorem aOP : SQ aXz aVD := eB3 bGW
def aXy := cm 124
def aWN (r0 r1 r2 : DV) (h : H) : aV := vK (fF 3 r0 (some r1) none) λ x1 => vK (bO r2) λ x2 => vK (cR x2 (ii 0)) λ x3 => bK x3 (some (r0, h)) (vK (bO r0) λ x4 => vK (cR r1 x4) λ x5 => bK x5 (wK (cT 3 32 r0 r2 h) λ x6 h7 => some (x6, h7)) (vK (cF x4 x2) λ x8 => vK (aCh r0) λ x9 => vK (dW x8 x9) λ x10 => bK x10 (vK (fF 3 r0 none (some r1)) λ x11 => vK (cF x4 x2) λ x12 => vK (jD x12 r1) λ x13 => wK (aEn 3 32 [(ii 0), (.bool false), (.str [])] x11 x13 h) λ x14 h15 => vK (fF 3 x14 (some r1) none) λ x16 => wK (lC 3 x16 r2 h15) λ x17 h18 => vK (cF r1 x2) λ x19 => vK (fF 3 x14 (some x19) none) λ x20 => vK (fF 3 r0 (some r1) none) λ x21 => wK (lC 3 x20 x21 h18) λ x22 h23 => some (x14, h23)) (vK (cF x4 x2) λ x24 => vK (fF 3 r0 none (some x24)) λ x25 => vK (cF r1 x2) λ x26 => vK (fF 3 x25 (some x26) none) λ x27 => vK (aHQ h.get r2 x27) λ x28 => vK (eT x28) λ x29 => bK x29 (vK (cF r1 x2) λ x30 => vK (fF 3 x25 (some x30) none) λ x31 => vK (fF 3 x25 (some r1) none) λ x32 => wK (lC 3 x31 x32 h) λ x33 h34 => vK (fF 3 x25 (some r1) none) λ x35 => wK (lC 3 x35 r2 h34) λ x36 h37 => some (x25, h37)) (vK (fF 3 x25 (some x4) none) λ x38 => wK (lC 3 x38 r2 h) λ x39 h40 => vK (fF 3 x25 (some r1) none) λ x41 => wK (aC E 155 [x41, x2] h40) λ x42 h43 => some (x25, h43)))))
theorem bGV : iB3 E aXy (aWN E) := Is.rf
def aVC : bQ := fA3 (aWN E)
theorem aOO : SQ aXy aVC := eB3 bGV
def aXx := cm 125
def aWM (r0 r1 : DV) (h : H) : aV := dJ r1 h λ x1 h2 => vK (aD r0) λ x3 => vK (aP 1 x3) λ x4 => vK (aO h2.get x4) λ x5 => vK (aP 0 x1) λ x6 => vK (aO h2.get x6) λ x7 => vK (aD r0) λ x8 => vK (aP 0 x8) λ x9 => vK (aO h2.get x9) λ x10 => vK (aP 3 x1) λ x11 => vK (aO h2.get x11) λ x12 => vK (aD r0) λ x13 => vK (aP 0 x13) λ x14 => vK (aO h2.get x14) λ x15 => wK (aC E 102 [x10] h2) λ x16 h17 => rK (rcK (aO h17.get x14) x15) <| rK (rcK (aO h17.get x11) x12) <| rK (rcK (aO h17.get x6) x7) <| rK (rcK (aO h17.get x4) x5) <| wK (aC E 157 [x15] h17) λ x18 h19 => rK (rcK (aO h19.get x11) x12) <| rK (rcK (aO h19.get x6) x7) <| rK (rcK (aO h19.get x4) x5) <| wK (aC E 156 [x5, x7, x16, x12, x18] h19) λ x20 h21 => vK (aX 0 x20) λ x22 => vK (aX 1 x20) λ x23 => vK (aD r0) λ x24 => vK (aP 0 x24) λ x25 => vK (aO h21.get x25) λ x26 => wK (aC E 102 [x26] h21) λ x27 h28 => eM 2 1 [(ii 0)] [(0, 1, x22), (1, 1, x27)] h28 λ x29 h30 => some ((.tup [x29, x23]), h30)
theorem bGU : mQ E aXx (aWM E) := Is.rf
def aVB : bQ := mG (aWM E)
theorem aON : SQ aXx aVB := mZ bGU
def aMG := cm 126
def bIV := cr (cr (cr (cr (cr aMG.body))))
def aHj (E : bH) (r8 : DV) (h : H) : aV := some ((.tup [.nils, r8]), h)
def aHk (r0 r1 : DV) (h : H) : aV := dJ r1 h λ x1 h2 => vK (aD r0) λ x3 => vK (aP 1 x3) λ x4 => vK (aO h2.get x4) λ x5 => vK (aP 3 x1) λ x6 => vK (aO h2.get x6) λ x7 => jG 6 6 (.list [(ii 0), (ii 0), (ii 0), (ii 0), (ii 0), .nils]) h2 λ x8 h9 => wK (aC E 100 [x5, x7] h9) λ x10 h11 => vK (aX 0 x10) λ x12 => vK (aX 1 x10) λ x13 => wK (eK 6 x8 x12 h11) λ x14 h15 => aQ x13 true (λ kk => vK (aP 1 x8) λ v => kk v h15) h15 λ x16 h17 => aQ x13 true (λ kk => vK (aO h17.get x16) λ v => kk v h17) h17 λ x18 h19 => aQ x13 true (λ kk => vK (cR x18 (ii 1)) λ v => kk v h19) h19 λ x20 h21 => vK (aN x13 x20 (.bool false)) λ x22 => aQ x22 true (λ kk => vK (aP 2 x8) λ v => kk v h21) h21 λ x23 h24 => aQ x22 true (λ kk => vK (aO h24.get x23) λ v => kk v h24) h24 λ x25 h26 => aQ x22 true (λ kk => vK (aP 0 x1) λ v => kk v h26) h26 λ x27 h28 => aQ x22 true (λ kk => vK (aO h28.get x27) λ v => kk v h28) h28 λ x29 h30 => aQ x22 true (λ kk => vK (cR x25 x29) λ v => kk v h30) h30 λ x31 h32 => vK (aN x22 x31 (.bool false)) λ x33 => aQ x33 true (λ kk => vK (aP 3 x8) λ v => kk v h32) h32 λ x34 h35 => aQ x33 true (λ kk => vK (aO h35.get x34) λ v => kk v h35) h35 λ x36 h37 => aQ x33 true (λ kk => kk r0 h37) h37 λ x38 h39 => aQ x33 true (λ kk => vK (aD x38) λ v => kk v h39) h39 λ x40 h41 => aQ x33 true (λ kk => vK (aP 0 x40) λ v => kk v h41) h41 λ x42 h43 => aQ x33 true (λ kk => vK (aO h43.get x42) λ v => kk v h43) h43 λ x44 h45 => aQ x33 true (λ kk => wK (aC E 102 [x44] h45) kk) h45 λ x46 h47 => rK (gB x33 true (rcK (aO h47.get x34) x36)) <| aQ x33 true (λ kk => vK (dQ x36 x46) λ v => kk v h47) h47 λ x48 h49 => vK (aN x33 x48 (.bool false)) λ x50 => bK x50 (some ((.tup [.nils, (ii 10)]), h49)) (vK (aD r0) λ x51 => vK (aP 1 x51) λ x52 => vK (aO h49.get x52) λ x53 => vK (aP 3 x1) λ x54 => vK (aO h49.get x54) λ x55 => vK (aP 0 x1) λ x56 => vK (aO h49.get x56) λ x57 => wK (aC E 158 [x53, x55, x57] h49) λ x58 h59 => vK (cR x58 (ii 0)) λ x60 => aQ x60 true (λ kk => vK (aP 4 x8) λ v => kk v h59) h59 λ x61 h62 => aQ x60 true (λ kk => vK (aO h62.get x61) λ v => kk v h62) h62 λ x63 h64 => aQ x60 true (λ kk => vK (dW x63 (ii 0)) λ v => kk v h64) h64 λ x65 h66 => vK (aN x60 x65 (.bool false)) λ x67 => bK x67 (vK (aD r0) λ x68 => vK (aP 3 x68) λ x69 => vK (aO h66.get x69) λ x70 => vK (aP 3 x1) λ x71 => vK (aO h66.get x71) λ x72 => vK (aP 4 x8) λ x73 => vK (aO h66.get x73) λ x74 => vK (aP 4 x8) λ x75 => vK (aO h66.get x75) λ x76 => wK (aC E 159 [x70, x72, x74, x76, (ii 0)] h66) λ x77 h78 => aHj E x58 h78) (aHj E x58 h66))
theorem bGS : Is E bIV (bV aMG.res) (λ σ h => aHj E (σ p8) h) := Is.rf
theorem bGT : mQ E aMG (aHk E) := Is.aq (Is.sq (Is.sq (Is.sq (Is.sq (Is.sq (bGS E) (Is.leaf _)) (Is.leaf _)) (Is.leaf _)) (Is.leaf _)) (Is.leaf _))
def aLP : bQ := mG (aHk E)
theorem aOM : SQ aMG aLP := mZ bGT
def bIs := cm 135
def aHi (r0 : DV) (h : H) : aV := vK (aD r0) λ x1 => vK (aP 1 x1) λ x2 => vK (aO h.get x2) λ x3 => wK (aC E 111 [x3, (.fn (.func 178) [] [])] h) λ x4 h5 => some (x4, h5)
theorem bGR : nE E bIs (aHi E) := Is.rf
def aVA : bQ := mX (aHi E)
theorem bAp : SQ bIs aVA := nK bGR
def aMF := cm 136
def bIU := cr (cr aMF.body)
def aML := cl (cr (cl (cr aMF.body)))
def bIT := cr (cr (cr (cl aML)))
def bIS := cr (cr (cr (cl (cl (cr (cr (cl aML)))))))
def aMm (E : bH) (h : H) : aV := some ((ii 0), h)
def aHg (E : bH) (i2 : DV → H → aV) (r12 : DV) (h : H) : aV := vK (cF r12 (ii 1)) λ x1 => i2 x1 h
def aHf (i2 : DV → H → aV) (r0 r9 r12 : DV) (h : H) : aV := vK (dQ r9 (ii 0)) λ x1 => bK x1 (vK (aD r0) λ x2 => vK (aP 2 x2) λ x3 => wK (eK 1 x3 (.bool true) h) λ x4 h5 => some (r9, h5)) (aHg E i2 r12 h)
def aDW (r0 r1 r10 r11 : DV) (i2 : DV → H → aV) (r12 : DV) (h : H) : aV := vK (bY r12 r11) λ x1 => bK x1 (vK (cV 1 r10 r12) λ x2 => vK (aO h.get x2) λ x3 => vK (bY r1 (ii 0)) λ x4 => aQ x4 false (λ kk => kk r12 h) h λ x5 h6 => aQ x4 false (λ kk => kk r1 h6) h6 λ x7 h8 => aQ x4 false (λ kk => vK (bY x5 x7) λ v => kk v h8) h8 λ x9 h10 => vK (aN x4 (.bool true) x9) λ x11 => bK x11 (wK (lU E x3 [] h10) λ x12 h13 => aHf E i2 r0 x12 r12 h13) (aHf E i2 r0 (ii 16) r12 h10)) (aMm E h)
def nN (r0 r1 r10 r11 : DV) (n : Nat) : DV → H → aV := Nat.rec (motive := λ _ => DV → H → aV) (λ _ _ => none) (λ _ i => aDW E r0 r1 r10 r11 i) n
def aHh (r0 r1 r2 : DV) (h : H) : aV := vK (bO r2) λ x1 => nN E r0 r1 r2 x1 aT (ii 0) h
theorem bGP : Is E bIU (bV aMF.res) (λ σ h => aMm E h) := Is.rf
abbrev aVW : iL (DV × H) := (bZ 0 (cK (λ σ h => aMm E h) (bV aMF.res)))
abbrev aVV (n2 : Nat) : iL (DV × H) := (cK (λ σ h => (nN E (σ p0) (σ p1) (σ mC) (σ tJ) n2) (σ tQ) h) (aVW E))
theorem bGN (n2 : Nat) : Is E bIT (aVV E n2) (λ σ h => aHg E (nN E (σ p0) (σ p1) (σ mC) (σ tJ) n2) (σ tQ) h) := Is.rf
abbrev bFz (n2 : Nat) : iL (DV × H) := (cK (λ σ h => aHg E (nN E (σ p0) (σ p1) (σ mC) (σ tJ) n2) (σ tQ) h) (aVV E n2))
theorem bGM (n2 : Nat) : Is E bIS (bZ 1 (bFz E n2)) (λ σ h => aHf E (nN E (σ p0) (σ p1) (σ mC) (σ tJ) n2) (σ p0) (σ p9) (σ tQ) h) := Is.rf
theorem bGO : Is E aML (aVW E) (λ σ h => nN E (σ p0) (σ p1) (σ mC) (σ tJ) aT (σ tQ) h) := Is.lp (λ n2 σ h => nN E (σ p0) (σ p1) (σ mC) (σ tJ) n2 (σ tQ) h) λ n2 => Is.aq (Is.sq (Is.sq (Is.sq (bGN E n2) (Is.bk (Is.sq (Is.sq (Is.sq (bGM E n2) (Is.leaf _)) (Is.leaf _)) (Is.leaf _)))) (Is.leaf _)) (Is.leaf _))
theorem bGQ : iB3 E aMF (aHh E) := Is.aq (Is.sq (Is.sq (bGP E) (Is.sq (Is.bk (bGO E)) (Is.leaf _))) (Is.leaf _))
def aRB : bQ := fA3 (aHh E)
theorem bAo : SQ aMF aRB := eB3 bGQ
def bIr := cm 137
def aHe (E : bH) (r0 r1 r2 : DV) (h : H) : aV := dJ r0 h λ x1 h2 => dJ r1 h2 λ x3 h4 => dJ r2 h4 λ x5 h6 => some ((.fn (.func 179) [] [x1, x3, x5]), h6)
theorem bGL : iB3 E bIr (aHe E) := Is.rf
def aRA : bQ := fA3 (aHe E)
theorem bAn : SQ bIr aRA := eB3 bGL
def bIq := cm 138
def aHd (r0 : DV) (h : H) : aV := vK (aD r0) λ x1 => vK (aP 0 x1) λ x2 => vK (aO h.get x2) λ x3 => wK (aC E 181 [x3] h) λ x4 h5 => some ((ii 0), h5)
theorem bGK : nE E bIq (aHd E) := Is.rf
def aLO : bQ := mX (aHd E)
theorem bAm : SQ bIq aLO := nK bGK
def aXw := cm 139
def aWL (E : bH) (r0 r1 : DV) (h : H) : aV := vK (dN .ptr false h.get r0 .nilp) λ x1 => aQ x1 false (λ kk => kk r1 h) h λ x2 h3 => aQ x1 false (λ kk => vK (bY x2 (ii 0)) λ v => kk v h3) h3 λ x4 h5 => vK (aN x1 (.bool true) x4) λ x6 => aQ x6 false (λ kk => kk r1 h5) h5 λ x7 h8 => aQ x6 false (λ kk => kk r0 h8) h8 λ x9 h10 => aQ x6 false (λ kk => vK (aD x9) λ v => kk v h10) h10 λ x11 h12 => aQ x6 false (λ kk => vK (aP 0 x11) λ v => kk v h12) h12 λ x13 h14 => aQ x6 false (λ kk => vK (aO h14.get x13) λ v => kk v h14) h14 λ x15 h16 => aQ x6 false (λ kk => vK (bO x15) λ v => kk v h16) h16 λ x17 h18 => aQ x6 false (λ kk => vK (fK x7 x17) λ v => kk v h18) h18 λ x19 h20 => vK (aN x6 (.bool true) x19) λ x21 => bK x21 (some (.nilp, h20)) (vK (aD r0) λ x22 => vK (aP 0 x22) λ x23 => vK (aO h20.get x23) λ x24 => vK (cV 6 x24 r1) λ x25 => some (x25, h20))
theorem bGJ : mQ E aXw (aWL E) := Is.rf
def aVz : bQ := mG (aWL E)
theorem aOL : SQ aXw aVz := mZ bGJ
def aXv := cm 140
def aWK (E : bH) (r0 : DV) (h : H) : aV := vK (dN .nilL false h.get r0 .nils) λ x1 => bK x1 (some (.nils, h)) (eM 0 1 [(ii 0)] [] h λ x2 h3 => wK (cT 1 8 x2 r0 h3) λ x4 h5 => some (x4, h5))
theorem bGI : nE E aXv (aWK E) := Is.rf
def aVy : bQ := mX (aWK E)
theorem aOK : SQ aXv aVy := nK bGI
def bIp := cm 141
def aWJ (E : bH) (h : H) : aV := none
theorem bGH : mQ E bIp (λ _ _ h => aWJ E h) := Is.rf
def bFl : bQ := mG (λ _ _ h => aWJ E h)
theorem bAl : SQ bIp bFl := mZ bGH
def bIo := cm 142
def aAN (r0 r1 : DV) (h : H) : aV := dJ r1 h λ x1 h2 => vK (dN .ptr false h2.get r0 .nilp) λ x3 => bK x3 (some ((.tup [(.str []), (ii 1)]), h2)) (vK (dD 2 h2.get x1) λ x4 => wK (aC E 75 [r0, x4] h2) λ x5 h6 => vK (bY x5 (ii 0)) λ x7 => bK x7 (some ((.tup [(.str []), (ii 7)]), h6)) (vK (aD r0) λ x8 => vK (aP 2 x8) λ x9 => vK (aO h6.get x9) λ x10 => bK x10 (some ((.tup [(.str []), (ii 16)]), h6)) (vK (aD r0) λ x11 => vK (aP 0 x11) λ x12 => vK (aO h6.get x12) λ x13 => vK (jM x5 (ii 9)) λ x14 => vK (cF x14 (ii 1)) λ x15 => wK (aC E 73 [x13, x15, (ii 8)] h6) λ x16 h17 => vK (aX 0 x16) λ x18 => vK (aX 1 x16) λ x19 => vK (dQ x19 (ii 0)) λ x20 => bK x20 (some ((.tup [(.str []), x19]), h17)) (vK (aD r0) λ x21 => vK (aP 1 x21) λ x22 => vK (aO h17.get x22) λ x23 => vK (cV 4 x23 x5) λ x24 => vK (aP 3 x24) λ x25 => vK (aO h17.get x25) λ x26 => vK (iM x18 none (some x26)) λ x27 => some ((.tup [x27, (ii 0)]), h17)))))
theorem bGG : mQ E bIo (aAN E) := Is.rf
def aVx : bQ := mG (aAN E)
theorem bAk : SQ bIo aVx := mZ bGG
def aHD := cm 143
def bIR := cr (cr (cr aHD.body))
def bIQ := cl (cr (cl (cr (cr aHD.body))))
def aMl (E : bH) (h : H) : aV := some ((.bool true), h)
def bJo (r0 r13 r14 : DV) (i2 : DV → H → aV) (r15 : DV) (h : H) : aV := vK (bY r15 r14) λ x1 => bK x1 (vK (cV 1 r13 r15) λ x2 => vK (aO h.get x2) λ x3 => vK (bY x3 (ii 0)) λ x4 => aQ x4 false (λ kk => kk x3 h) h λ x5 h6 => aQ x4 false (λ kk => vK (dW x5 (ii 63)) λ v => kk v h6) h6 λ x7 h8 => vK (aN x4 (.bool true) x7) λ x9 => aQ x9 false (λ kk => kk r0 h8) h8 λ x10 h11 => aQ x9 false (λ kk => kk r15 h11) h11 λ x12 h13 => aQ x9 false (λ kk => vK (fF 1 x10 none (some x12)) λ v => kk v h13) h13 λ x14 h15 => aQ x9 false (λ kk => kk x3 h15) h15 λ x16 h17 => aQ x9 false (λ kk => wK (aC E 72 [x14, x16] h17) kk) h17 λ x18 h19 => vK (aN x9 (.bool true) x18) λ x20 => bK x20 (some ((.bool false), h19)) (vK (cF r15 (ii 1)) λ x21 => i2 x21 h19)) (aMl E h)
def aMa (r0 r13 r14 : DV) (n : Nat) : DV → H → aV := Nat.rec (motive := λ _ => DV → H → aV) (λ _ _ => none) (λ _ i => bJo E r0 r13 r14 i) n
def aWI (r0 : DV) (h : H) : aV := vK (bO r0) λ x1 => vK (bY x1 (ii 2)) λ x2 => aQ x2 false (λ kk => kk r0 h) h λ x3 h4 => aQ x2 false (λ kk => vK (bO x3) λ v => kk v h4) h4 λ x5 h6 => aQ x2 false (λ kk => vK (dW x5 (ii 8)) λ v => kk v h6) h6 λ x7 h8 => vK (aN x2 (.bool true) x7) λ x9 => bK x9 (some ((.bool false), h8)) (vK (bO r0) λ x10 => aMa E r0 r0 x10 aT (ii 0) h8)
theorem bGE : Is E bIR (bV aHD.res) (λ σ h => aMl E h) := Is.rf
abbrev bFy : iL (DV × H) := (bZ 0 (cK (λ σ h => aMl E h) (bV aHD.res)))
theorem bGD : Is E bIQ (bFy E) (λ σ h => aMa E (σ p0) (σ tI) (σ wN) aT (σ p15) h) := Is.lp (λ n2 σ h => aMa E (σ p0) (σ tI) (σ wN) n2 (σ p15) h) λ n2 => Is.aq (Is.leaf _)
theorem bGF : nE E aHD (aWI E) := Is.aq (Is.sq (Is.sq (Is.sq (bGE E) (Is.sq (Is.bk (bGD E)) (Is.leaf _))) (Is.leaf _)) (Is.leaf _))
def aVw : bQ := mX (aWI E)
theorem aOJ : SQ aHD aVw := nK bGF
def aXu := cm 144
def aWH (E : bH) (r0 r1 r2 : DV) (h : H) : aV := vK (cF r2 r1) λ x1 => vK (bO r0) λ x2 => vK (aCf x1 x2) λ x3 => some (x3, h)
theorem bGC : iB3 E aXu (aWH E) := Is.rf
def aVv : bQ := fA3 (aWH E)
theorem aOI : SQ aXu aVv := eB3 bGC
def bIn := cm 145
def aHc (E : bH) (r0 : DV) (h : H) : aV := vK (cS .u8 r0) λ x1 => vK (lI r0 (.int .u64 (.ofNat 8))) λ x2 => vK (cS .u8 x2) λ x3 => vK (lI r0 (.int .u64 (.ofNat 16))) λ x4 => vK (cS .u8 x4) λ x5 => vK (lI r0 (.int .u64 (.ofNat 24))) λ x6 => vK (cS .u8 x6) λ x7 => eM 4 1 [(.int .u8 (.ofNat 0))] [(0, 1, x1), (1, 1, x3), (2, 1, x5), (3, 1, x7)] h λ x8 h9 => vK (iT h9.get x8) λ x10 => some (x10, h9)
theorem bGB : nE E bIn (aHc E) := Is.rf
def aJQ : bQ := mX (aHc E)
theorem bAj : SQ bIn aJQ := nK bGB
def bIm := cm 146
def aHb (r0 : DV) (h : H) : aV := wK (aC E 182 [(.int .u32 (.ofNat 0)), r0] h) λ x1 h2 => some (x1, h2)
theorem bGA : nE E bIm (aHb E) := Is.rf
def aEq : bQ := mX (aHb E)
theorem bAi : SQ bIm aEq := nK bGA
def bIl := cm 147
def aHa (r0 : DV) (h : H) : aV := wK (aC E 146 [r0] h) λ x1 h2 => wK (aC E 183 [x1] h2) λ x3 h4 => vK (cF r0 x3) λ x5 => some (x5, h4)
theorem bGz : nE E bIl (aHa E) := Is.rf
def aRz : bQ := mX (aHa E)
theorem bAh : SQ bIl aRz := nK bGz
def aXt := cm 148
def aGZ (E : bH) (r0 : DV) (h : H) : aV := vK (dN .ptr true h.get r0 .nilp) λ x1 => bK x1 (vK (aD r0) λ x2 => vK (aP 0 x2) λ x3 => wK (eK 1 x3 (.str []) h) λ x4 h5 => vK (aD r0) λ x6 => vK (aP 1 x6) λ x7 => wK (eK 1 x7 (.bool true) h5) λ x8 h9 => some ((.tup []), h9)) (some ((.tup []), h))
theorem bGy : nE E aXt (aGZ E) := Is.rf
def aLN : bQ := mX (aGZ E)
theorem aOH : SQ aXt aLN := nK bGy
def aHC := cm 149
def bIP := cr (cr (cr aHC.body))
def bIO := cl (cr (cl (cr (cr aHC.body))))
def aDL (E : bH) (h : H) : aV := some ((.tup [(.int .u64 (.ofNat 0)), (ii 0)]), h)
def aDV (r0 r9 : DV) (i2 : DV → DV → H → aV) (r4 r10 : DV) (h : H) : aV := vK (bY r10 r9) λ x1 => bK x1 (vK (oL r0 r10) λ x2 => vK (cS .u64 x2) λ x3 => vK (qP x3 (.int .u64 (.ofNat 127))) λ x4 => vK (jM (ii 7) r10) λ x5 => vK (tW x4 x5) λ x6 => vK (aEd r4 x6) λ x7 => vK (fK x3 (.int .u64 (.ofNat 128))) λ x8 => bK x8 (vK (cF r10 (ii 1)) λ x9 => i2 x7 x9 h) (vK (dW r10 (ii 0)) λ x10 => aQ x10 true (λ kk => kk x3 h) h λ x11 h12 => aQ x10 true (λ kk => vK (cR x11 (.int .u64 (.ofNat 0))) λ v => kk v h12) h12 λ x13 h14 => vK (aN x10 x13 (.bool false)) λ x15 => aQ x15 false (λ kk => kk r10 h14) h14 λ x16 h17 => aQ x15 false (λ kk => vK (cR x16 (ii 9)) λ v => kk v h17) h17 λ x18 h19 => aQ x15 false (λ kk => kk x18 h19) h19 λ x20 h21 => aQ x20 true (λ kk => kk x3 h21) h21 λ x22 h23 => aQ x20 true (λ kk => vK (dW x22 (.int .u64 (.ofNat 1))) λ v => kk v h23) h23 λ x24 h25 => aQ x15 false (λ kk => vK (aN x20 x24 (.bool false)) λ v => kk v h25) h25 λ x26 h27 => vK (aN x15 (.bool true) x26) λ x28 => bK x28 (some ((.tup [(.int .u64 (.ofNat 0)), (ii 0)]), h27)) (vK (cF r10 (ii 1)) λ x29 => some ((.tup [x7, x29]), h27)))) (aDL E h)
def aAL (r0 r9 : DV) (n : Nat) : DV → DV → H → aV := Nat.rec (motive := λ _ => DV → DV → H → aV) (λ _ _ _ => none) (λ _ i => aDV E r0 r9 i) n
def aGY (r0 : DV) (h : H) : aV := vK (eQ r0) λ x1 => vK (aAf x1 (ii 10)) λ x2 => aAL E r0 x2 aT (.int .u64 (.ofNat 0)) (ii 0) h
theorem bGw : Is E bIP (bV aHC.res) (λ σ h => aDL E h) := Is.rf
abbrev bFx : iL (DV × H) := (bZ 0 (cK (λ σ h => aDL E h) (bV aHC.res)))
theorem bGv : Is E bIO (bFx E) (λ σ h => aAL E (σ p0) (σ p9) aT (σ p4) (σ mC) h) := Is.lp (λ n2 σ h => aAL E (σ p0) (σ p9) n2 (σ p4) (σ mC) h) λ n2 => Is.aq (Is.leaf _)
theorem bGx : nE E aHC (aGY E) := Is.aq (Is.sq (Is.sq (Is.sq (bGw E) (Is.sq (Is.bk (bGv E)) (Is.leaf _))) (Is.leaf _)) (Is.leaf _))
def aLM : bQ := mX (aGY E)
theorem aOG : SQ aHC aLM := nK bGx
def aXs := cm 150
def aWG (E : bH) (r0 r1 : DV) (h : H) : aV := vK (aO h.get r1) λ x1 => vK (cS .u8 x1) λ x2 => eM 1 1 [(.int .u8 (.ofNat 0))] [(0, 1, x2)] h λ x3 h4 => wK (cT 1 1 r0 x3 h4) λ x5 h6 => some (x5, h6)
theorem bGu : mQ E aXs (aWG E) := Is.rf
def aVu : bQ := mG (aWG E)
theorem aOF : SQ aXs aVu := mZ bGu
def aHB := cm 151
def bIN := cr (cr (cr aHB.body))
def bIM := cl (cr (cl (cr (cr aHB.body))))
def aMk (E : bH) (r0 : DV) (h : H) : aV := some (r0, h)
def bJn (r10 r11 : DV) (i2 : DV → DV → H → aV) (r0 r12 : DV) (h : H) : aV := vK (bY r12 r11) λ x1 => bK x1 (vK (cV 1 r10 r12) λ x2 => vK (aO h.get x2) λ x3 => wK (aC E 116 [r0, x3] h) λ x4 h5 => vK (cF r12 (ii 1)) λ x6 => i2 x4 x6 h5) (aMk E r0 h)
def aLZ (r10 r11 : DV) (n : Nat) : DV → DV → H → aV := Nat.rec (motive := λ _ => DV → DV → H → aV) (λ _ _ _ => none) (λ _ i => bJn E r10 r11 i) n
def aWF (r0 r1 : DV) (h : H) : aV := vK (aO h.get r1) λ x1 => vK (bO x1) λ x2 => wK (aC E 116 [r0, x2] h) λ x3 h4 => vK (aO h4.get r1) λ x5 => vK (bO x5) λ x6 => aLZ E x5 x6 aT x3 (ii 0) h4
theorem bGs : Is E bIN (bV aHB.res) (λ σ h => aMk E (σ p0) h) := Is.rf
abbrev bFw : iL (DV × H) := (cK (λ σ h => aMk E (σ p0) h) (bV aHB.res))
theorem bGr : Is E bIM (bZ 0 (bFw E)) (λ σ h => aLZ E (σ mC) (σ tJ) aT (σ p0) (σ tQ) h) := Is.lp (λ n2 σ h => aLZ E (σ mC) (σ tJ) n2 (σ p0) (σ tQ) h) λ n2 => Is.aq (Is.leaf _)
theorem bGt : mQ E aHB (aWF E) := Is.aq (Is.sq (Is.sq (Is.sq (bGs E) (Is.sq (Is.bk (bGr E)) (Is.leaf _))) (Is.leaf _)) (Is.leaf _))
def aVt : bQ := mG (aWF E)
theorem aOE : SQ aHB aVt := mZ bGt
def aHA := cm 152
def bIL := cr (cr (cr (cr aHA.body)))
def bIK := cl (cl (cr (cr (cr aHA.body))))
def aMj (r0 r1 r2 r8 r9 : DV) (h : H) : aV := vK (bY r9 r8) λ x1 => aQ x1 true (λ kk => kk r2 h) h λ x2 h3 => aQ x1 true (λ kk => kk r0 h3) h3 λ x4 h5 => aQ x1 true (λ kk => kk r9 h5) h5 λ x6 h7 => aQ x1 true (λ kk => vK (cV 3 x4 x6) λ v => kk v h7) h7 λ x8 h9 => aQ x1 true (λ kk => vK (dD 3 h9.get x8) λ v => kk v h9) h9 λ x10 h11 => aQ x1 true (λ kk => kk r1 h11) h11 λ x12 h13 => aQ x1 true (λ kk => wK (lU E x2 [x10, x12] h13) kk) h13 λ x14 h15 => aQ x1 true (λ kk => vK (cR x14 (ii 0)) λ v => kk v h15) h15 λ x16 h17 => vK (aN x1 x16 (.bool false)) λ x18 => some ((.tup [r9, x18]), h17)
def bJm (r0 r1 r2 r8 : DV) (i2 : DV → DV → H → aV) (r9 r10 : DV) (h : H) : aV := vK (bY r9 r10) λ x1 => bK x1 (vK (cF r9 r10) λ x2 => vK (cS .u64 x2) λ x3 => vK (lI x3 (.int .u64 (.ofNat 1))) λ x4 => vK (cS .i64 x4) λ x5 => vK (cV 3 r0 x5) λ x6 => vK (dD 3 h.get x6) λ x7 => wK (lU E r2 [x7, r1] h) λ x8 h9 => vK (bY x8 (ii 0)) λ x10 => bK x10 (vK (cF x5 (ii 1)) λ x11 => i2 x11 r10 h9) (i2 r9 x5 h9)) (aMj E r0 r1 r2 r8 r9 h)
def aLY (r0 r1 r2 r8 : DV) (n : Nat) : DV → DV → H → aV := Nat.rec (motive := λ _ => DV → DV → H → aV) (λ _ _ _ => none) (λ _ i => bJm E r0 r1 r2 r8 i) n
def aWE (r0 r1 r2 : DV) (h : H) : aV := vK (bO r0) λ x1 => aLY E r0 r1 r2 x1 aT (ii 0) x1 h
theorem bGp : Is E bIL (bV aHA.res) (λ σ h => aMj E (σ p0) (σ p1) (σ p2) (σ p8) (σ p9) h) := Is.rf
abbrev bFv : iL (DV × H) := (cK (λ σ h => aMj E (σ p0) (σ p1) (σ p2) (σ p8) (σ p9) h) (bV aHA.res))
theorem bGo : Is E bIK (bZ 0 (bFv E)) (λ σ h => aLY E (σ p0) (σ p1) (σ p2) (σ p8) aT (σ p9) (σ mC) h) := Is.lp (λ n2 σ h => aLY E (σ p0) (σ p1) (σ p2) (σ p8) n2 (σ p9) (σ mC) h) λ n2 => Is.aq (Is.leaf _)
theorem bGq : iB3 E aHA (aWE E) := Is.aq (Is.sq (Is.sq (Is.sq (Is.sq (bGp E) (Is.bk (bGo E))) (Is.leaf _)) (Is.leaf _)) (Is.leaf _))
def aVs : bQ := fA3 (aWE E)
theorem aOD : SQ aHA aVs := eB3 bGq
def aXr := cm 153
def aWD (E : bH) (r0 r1 : DV) (h : H) : aV := dJ r0 h λ x1 h2 => vK (aP 0 x1) λ x3 => vK (aO h2.get x3) λ x4 => vK (jD x4 r1) λ x5 => some (x5, h2)
theorem bGn : mQ E aXr (aWD E) := Is.rf
def aVr : bQ := mG (aWD E)
theorem aOC : SQ aXr aVr := mZ bGn
def aXq := cm 156
def aWC (r0 r1 r2 r3 r4 : DV) (h : H) : aV := wK (aC E 140 [r4] h) λ x1 h2 => vK (dO [(ii 0), (ii 0), (ii 0), (ii 0), (ii 0), .nils] [(1, 1, (ii 1)), (2, 1, r1), (3, 1, r2), (4, 1, r3), (5, 1, x1)]) λ x3 => jG 6 6 (.list [(ii 0), (ii 0), (ii 0), (ii 0), (ii 0), .nils]) h2 λ x4 h5 => wK (eK 6 x4 x3 h5) λ x6 h7 => vK (dN .ptr false h7.get r0 .nilp) λ x8 => aQ x8 false (λ kk => vK (dD 6 h7.get x4) λ v => kk v h7) h7 λ x9 h10 => aQ x8 false (λ kk => wK (aC E 185 [x9] h10) kk) h10 λ x11 h12 => aQ x8 false (λ kk => vK (eT x11) λ v => kk v h12) h12 λ x13 h14 => vK (aN x8 (.bool true) x13) λ x15 => bK x15 (some ((.tup [(ii 0), (ii 1)]), h14)) (vK (aD r0) λ x16 => vK (aP 1 x16) λ x17 => vK (aO h14.get x17) λ x18 => vK (fK x18 (ii 256)) λ x19 => aQ x19 false (λ kk => kk r0 h14) h14 λ x20 h21 => aQ x19 false (λ kk => vK (aD x20) λ v => kk v h21) h21 λ x22 h23 => aQ x19 false (λ kk => vK (aP 0 x22) λ v => kk v h23) h23 λ x24 h25 => aQ x19 false (λ kk => vK (aO h25.get x24) λ v => kk v h25) h25 λ x26 h27 => aQ x19 false (λ kk => vK (bO x26) λ v => kk v h27) h27 λ x28 h29 => aQ x19 false (λ kk => vK (fK x28 (ii 4096)) λ v => kk v h29) h29 λ x30 h31 => vK (aN x19 (.bool true) x30) λ x32 => bK x32 (some ((.tup [(ii 0), (ii 5)]), h31)) (vK (aD r0) λ x33 => vK (aP 0 x33) λ x34 => vK (aO h31.get x34) λ x35 => vK (bO x35) λ x36 => vK (aP 0 x4) λ x37 => wK (eK 1 x37 x36 h31) λ x38 h39 => vK (aD r0) λ x40 => vK (aP 0 x40) λ x41 => vK (aO h39.get x41) λ x42 => vK (dD 6 h39.get x4) λ x43 => eM 1 6 [(ii 0), (ii 0), (ii 0), (ii 0), (ii 0), .nils] [(0, 6, x43)] h39 λ x44 h45 => wK (cT 6 64 x42 x44 h45) λ x46 h47 => vK (aD r0) λ x48 => vK (aP 0 x48) λ x49 => wK (eK 1 x49 x46 h47) λ x50 h51 => vK (aD r0) λ x52 => vK (aP 1 x52) λ x53 => vK (aO h51.get x53) λ x54 => vK (cF x54 (ii 1)) λ x55 => vK (aD r0) λ x56 => vK (aP 1 x56) λ x57 => wK (eK 1 x57 x55 h51) λ x58 h59 => vK (aP 0 x4) λ x60 => vK (aO h59.get x60) λ x61 => some ((.tup [x61, (ii 0)]), h59)))
theorem bGm : iB5 E aXq (aWC E) := Is.rf
def aVq : bQ := fA5 (aWC E)
theorem aOB : SQ aXq aVq := eB5 bGm
def aXp := cm 157
def aWB (r0 : DV) (h : H) : aV := vK (dN .ptr false h.get r0 .nilp) λ x1 => bK x1 (some (.nils, h)) (vK (aD r0) λ x2 => vK (aP 0 x2) λ x3 => vK (aO h.get x3) λ x4 => wK (aC E 77 [x4] h) λ x5 h6 => some (x5, h6))
theorem bGl : nE E aXp (aWB E) := Is.rf
def aVp : bQ := mX (aWB E)
theorem aOA : SQ aXp aVp := nK bGl
def fs0 : List FD := [⟨3, D3, S3⟩, ⟨7, D7, S7⟩, ⟨8, D8, S8⟩, ⟨9, D9, S9⟩, ⟨10, D10, S10⟩, ⟨11, D11, S11⟩, ⟨12, D12, S12⟩, ⟨13, D13, S13⟩, ⟨15, D15, S15⟩, ⟨16, D16, S16⟩, ⟨24, D24, S24⟩, ⟨25, D25, S25⟩, ⟨26, D26, S26⟩, ⟨27, D27, S27⟩, ⟨28, D28, S28⟩, ⟨29, D29, S29⟩, ⟨30, D30, S30⟩, ⟨31, D31, S31⟩, ⟨33, D33, S33⟩, ⟨34, D34, S34⟩, ⟨35, D35, S35⟩, ⟨36, D36, S36⟩, ⟨37, D37, S37⟩, ⟨38, D38, S38⟩, ⟨39, D39, S39⟩, ⟨41, D41, S41⟩, ⟨45, D45, S45⟩, ⟨46, D46, S46⟩, ⟨47, D47, S47⟩, ⟨48, D48, S48⟩, ⟨49, D49, S49⟩, ⟨50, D50, S50⟩, ⟨51, D51, S51⟩, ⟨52, D52, S52⟩, ⟨53, D53, S53⟩, ⟨54, D54, S54⟩, ⟨55, D55, S55⟩, ⟨56, D56, S56⟩, ⟨57, D57, S57⟩, ⟨58, D58, S58⟩, ⟨59, D59, S59⟩, ⟨60, D60, S60⟩, ⟨61, D61, S61⟩, ⟨62, D62, S62⟩, ⟨63, D63, S63⟩, ⟨65, D65, S65⟩, ⟨66, D66, S66⟩, ⟨67, D67, S67⟩, ⟨68, D68, S68⟩, ⟨72, D72, S72⟩, ⟨73, D73, S73⟩, ⟨74, D74, S74⟩, ⟨75, D75, S75⟩, ⟨76, D76, S76⟩, ⟨77, D77, S77⟩, ⟨78, D78, S78⟩, ⟨79, D79, S79⟩, ⟨80, D80, S80⟩, ⟨81, D81, S81⟩, ⟨82, D82, S82⟩, ⟨83, D83, S83⟩, ⟨84, D84, S84⟩, ⟨85, D85, S85⟩, ⟨86, D86, S86⟩, ⟨87, D87, S87⟩, ⟨88, D88, S88⟩, ⟨89, D89, S89⟩, ⟨90, D90, S90⟩, ⟨91, D91, S91⟩, ⟨92, D92, S92⟩, ⟨93, D93, S93⟩, ⟨94, D94, S94⟩, ⟨95, D95, S95⟩, ⟨96, D96, S96⟩, ⟨97, D97, S97⟩, ⟨100, aXH, aVM⟩, ⟨101, bIy, bFq⟩, ⟨102, aXG, aVL⟩, ⟨105, aHI, aVK⟩, ⟨106, aHH, aVJ⟩, ⟨107, bIx, aDH⟩, ⟨108, bIw, aLU⟩, ⟨109, bIv, aRE⟩, ⟨110, bIu, aRD⟩, ⟨111, aMI, aJS⟩, ⟨112, bIt, aRC⟩, ⟨113, aHG, aVI⟩, ⟨114, aXF, aJR⟩, ⟨115, aXE, aLT⟩, ⟨116, aHF, aLS⟩, ⟨117, aXD, aLR⟩, ⟨118, aXC, aLQ⟩, ⟨119, aHE, aVH⟩, ⟨120, aMH, aVG⟩, ⟨121, aXB, aVF⟩, ⟨122, aXA, aVE⟩, ⟨123, aXz, aVD⟩, ⟨124, aXy, aVC⟩, ⟨125, aXx, aVB⟩, ⟨126, aMG, aLP⟩, ⟨135, bIs, aVA⟩, ⟨136, aMF, aRB⟩, ⟨137, bIr, aRA⟩, ⟨138, bIq, aLO⟩, ⟨139, aXw, aVz⟩, ⟨140, aXv, aVy⟩, ⟨141, bIp, bFl⟩, ⟨142, bIo, aVx⟩, ⟨143, aHD, aVw⟩, ⟨144, aXu, aVv⟩, ⟨145, bIn, aJQ⟩, ⟨146, bIm, aEq⟩, ⟨147, bIl, aRz⟩, ⟨148, aXt, aLN⟩, ⟨149, aHC, aLM⟩, ⟨150, aXs, aVu⟩, ⟨151, aHB, aVt⟩, ⟨152, aHA, aVs⟩, ⟨153, aXr, aVr⟩, ⟨156, aXq, aVq⟩, ⟨157, aXp, aVp⟩]
theorem bDJ : rJ fs0 := ⟨bMP, ⟨bMq, ⟨bMk, ⟨bMe, ⟨bFp, ⟨bFo, ⟨bFn, ⟨bFm, ⟨bFk, ⟨bFj, ⟨bFi, ⟨bFh, ⟨aVd, ⟨aVc, ⟨bFg, ⟨aVb, ⟨bFf, ⟨bFe, ⟨bFd, ⟨bFc, ⟨bFb, ⟨bFa, ⟨bEZ, ⟨bEY, ⟨bEX, ⟨aUZ, ⟨bEW, ⟨bEV, ⟨aUY, ⟨aUX, ⟨aUW, ⟨aUV, ⟨aUU, ⟨aUT, ⟨aUS, ⟨aUR, ⟨aUQ, ⟨bET, ⟨bES, ⟨bER, ⟨bEQ, ⟨bEP, ⟨bEO, ⟨aUP, ⟨bEN, ⟨aUO, ⟨bEM, ⟨bEL, ⟨bEK, ⟨aUN, ⟨bEJ, ⟨bEI, ⟨bEH, ⟨aUM, ⟨aUL, ⟨aUK, ⟨aUJ, ⟨aUI, ⟨aUH, ⟨aUG, ⟨aUF, ⟨aUE, ⟨aUD, ⟨aUC, ⟨aUB, ⟨aUA, ⟨aUz, ⟨aUy, ⟨bEz, ⟨bEy, ⟨aUx, ⟨bEx, ⟨bEw, ⟨bEv, ⟨bEu, ⟨aPd, ⟨bAw, ⟨aPc, ⟨aPb, ⟨aPa, ⟨bAv, ⟨bAu, ⟨bAt, ⟨bAs, ⟨bAr, ⟨bAq, ⟨aOZ, ⟨aOY, ⟨aOX, ⟨aOW, ⟨aOV, ⟨aOU, ⟨aOT, ⟨aOS, ⟨aOR, ⟨aOQ, ⟨aOP, ⟨aOO, ⟨aON, ⟨aOM, ⟨bAp, ⟨bAo, ⟨bAn, ⟨bAm, ⟨aOL, ⟨aOK, ⟨bAl, ⟨bAk, ⟨aOJ, ⟨aOI, ⟨bAj, ⟨bAi, ⟨bAh, ⟨aOH, ⟨aOG, ⟨aOF, ⟨aOE, ⟨aOD, ⟨aOC, ⟨aOB, ⟨aOA, trivial⟩⟩⟩⟩⟩⟩⟩⟩⟩⟩⟩⟩⟩⟩⟩⟩⟩⟩⟩⟩⟩⟩⟩⟩⟩⟩⟩⟩⟩⟩⟩⟩⟩⟩⟩⟩⟩⟩⟩⟩⟩⟩⟩⟩⟩⟩⟩⟩⟩⟩⟩⟩⟩⟩⟩⟩⟩⟩⟩⟩⟩⟩⟩⟩⟩⟩⟩⟩⟩⟩⟩⟩⟩⟩⟩⟩⟩⟩⟩⟩⟩⟩⟩⟩⟩⟩⟩⟩⟩⟩⟩⟩⟩⟩⟩⟩⟩⟩⟩⟩⟩⟩⟩⟩⟩⟩⟩⟩⟩⟩⟩⟩⟩⟩⟩⟩⟩⟩⟩⟩⟩
end Go.Proofs.YthpciaidbgjoeaaGreat
end

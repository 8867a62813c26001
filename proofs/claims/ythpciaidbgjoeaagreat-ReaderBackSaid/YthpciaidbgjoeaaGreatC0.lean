/- The functions of the program as D's and as plain Lean functions, and that both are the same. No condition. -/
import Derived.KernelRfl
import Derived.Test.YthpciaidbgjoeaaGreatDd
import Derived.Test.YthpciaidbgjoeaaGreatChecked
set_option linter.unusedVariables false
noncomputable section
namespace Go.Proofs.YthpciaidbgjoeaaGreat
open Go.DI
variable (E : bF)
def cm (f : Nat) : DF := cmF Tryz.prog f
attribute [irreducible] cm
def p0 : Pa := .h
def p1 : Pa := .l p0
def p2 : Pa := .r p0
def p3 : Pa := .l p1
def p4 : Pa := .r p1
def p5 : Pa := .l p2
def p6 : Pa := .r p2
def p7 : Pa := .l p3
def p8 : Pa := .r p3
def p9 : Pa := .l p4
def mJ : Pa := .r p4
def tW : Pa := .l p5
def uC : Pa := .r p5
def tV : Pa := .l p6
def xC : Pa := .r p6
def p15 : Pa := .l p7
def p16 : Pa := .r p7
def p17 : Pa := .l p8
def p18 : Pa := .r p8
def p19 : Pa := .l p9
def p20 : Pa := .r p9
def p21 : Pa := .l mJ
def p22 : Pa := .r mJ
def p23 : Pa := .l tW
def p24 : Pa := .r tW
def p25 : Pa := .l uC
def p26 : Pa := .r uC
def p27 : Pa := .l tV
def p28 : Pa := .r tV
def p29 : Pa := .l xC
def p30 : Pa := .r xC
def p31 : Pa := .l p15
def p32 : Pa := .r p15
def p33 : Pa := .l p16
def p34 : Pa := .r p16
def p35 : Pa := .l p17
def p36 : Pa := .r p17
def p37 : Pa := .l p18
def p38 : Pa := .r p18
def p39 : Pa := .l p19
def p40 : Pa := .r p19
def p41 : Pa := .l p20
def p42 : Pa := .r p20
def p43 : Pa := .l p21
def p44 : Pa := .r p21
def p45 : Pa := .l p22
def p46 : Pa := .r p22
def p47 : Pa := .l p23
def p48 : Pa := .r p23
def p49 : Pa := .l p24
def p50 : Pa := .r p24
def p51 : Pa := .l p25
def p52 : Pa := .r p25
def p53 : Pa := .l p26
def p54 : Pa := .r p26
def p55 : Pa := .l p27
def p56 : Pa := .r p27
def p57 : Pa := .l p28
def p58 : Pa := .r p28
def p59 : Pa := .l p29
def p60 : Pa := .r p29
def p61 : Pa := .l p30
def p62 : Pa := .r p30
def p63 : Pa := .l p31
def p64 : Pa := .r p31
def p65 : Pa := .l p32
def p66 : Pa := .r p32
def p67 : Pa := .l p33
def p68 : Pa := .r p33
def p69 : Pa := .l p34
def p70 : Pa := .r p34
def p71 : Pa := .l p35
def p72 : Pa := .r p35
def p73 : Pa := .l p36
def p74 : Pa := .r p36
def p75 : Pa := .l p37
def p76 : Pa := .r p37
def p77 : Pa := .l p38
def p78 : Pa := .r p38
def p79 : Pa := .l p39
def p80 : Pa := .r p39
def p81 : Pa := .l p40
def p82 : Pa := .r p40
def p83 : Pa := .l p41
def p84 : Pa := .r p41
def p85 : Pa := .l p42
def p86 : Pa := .r p42
def p87 : Pa := .l p43
def p88 : Pa := .r p43
def p89 : Pa := .l p44
def p90 : Pa := .r p44
def p91 : Pa := .l p45
def p92 : Pa := .r p45
def p93 : Pa := .l p46
def p94 : Pa := .r p46
def p95 : Pa := .l p47
def p96 : Pa := .r p47
def p97 : Pa := .l p48
def p98 : Pa := .r p48
def p99 : Pa := .l p49
def p100 : Pa := .r p49
def p101 : Pa := .l p50
def p102 : Pa := .r p50
def p103 : Pa := .l p51
def p104 : Pa := .r p51
def p105 : Pa := .l p52
def p106 : Pa := .r p52
def p107 : Pa := .l p53
def p108 : Pa := .r p53
def p109 : Pa := .l p54
def p110 : Pa := .r p54
def p111 : Pa := .l p55
def p112 : Pa := .r p55
def p113 : Pa := .l p56
def p114 : Pa := .r p56
def p115 : Pa := .l p57
def p116 : Pa := .r p57
def p117 : Pa := .l p58
def p118 : Pa := .r p58
def p119 : Pa := .l p59
def p120 : Pa := .r p59
def p121 : Pa := .l p60
def p122 : Pa := .r p60
def p123 : Pa := .l p61
def p124 : Pa := .r p61
def p125 : Pa := .l p62
def p126 : Pa := .r p62
def p127 : Pa := .l p63
def p128 : Pa := .r p63
def p129 : Pa := .l p64
def p130 : Pa := .r p64
def D4 := cm 4
def C4_1 := cr (cr (cr D4.body))
def bJh := cl (cr (cl (cr (cr D4.body))))
def C4_3 := cr (cr (cl bJh))
def C4_4 := cr (cr (cr (cr (cl (cl (cr (cl bJh)))))))
def bBl (h : H) : aV := wK (aC E 7 [] h) λ x1 h2 => some (x1, h2)
def aWV (E : bF) (i2 : DV → H → aV) (r7 : DV) (h : H) : aV := vK (cG r7 (ii 1)) λ x1 => i2 x1 h
def aWU (i2 : DV → H → aV) (r0 r1 r2 r7 r8 r9 : DV) (h : H) : aV := wK (aC E 12 [r8, r9] h) λ x1 h2 => vK (aX 0 x1) λ x3 => vK (aX 1 x1) λ x4 => vK (dR x4 (ii 0)) λ x5 => aQ x5 false (λ kk => kk x3 h2) h2 λ x6 h7 => aQ x5 false (λ kk => kk r0 h7) h7 λ x8 h9 => aQ x5 false (λ kk => vK (dR x6 x8) λ v => kk v h9) h9 λ x10 h11 => vK (aN x5 (.bool true) x10) λ x12 => aQ x12 false (λ kk => kk r8 h11) h11 λ x13 h14 => aQ x12 false (λ kk => kk r9 h14) h14 λ x15 h16 => aQ x12 false (λ kk => wK (aC E 15 [x13, x15] h16) kk) h16 λ x17 h18 => aQ x12 false (λ kk => vK (bH x17) λ v => kk v h18) h18 λ x19 h20 => aQ x12 false (λ kk => vK (dS x19 (ii 1)) λ v => kk v h20) h20 λ x21 h22 => vK (aN x12 (.bool true) x21) λ x23 => bK x23 (some ((.bool false), h22)) (wK (aC E 16 [r8, r9, r1, r2] h22) λ x24 h25 => vK (aX 0 x24) λ x26 => vK (aX 1 x24) λ x27 => vK (aX 2 x24) λ x28 => vK (bV r1 (ii 0)) λ x29 => aQ x29 false (λ kk => kk r2 h25) h25 λ x30 h31 => aQ x29 false (λ kk => vK (bV x30 (ii 0)) λ v => kk v h31) h31 λ x32 h33 => vK (aN x29 (.bool true) x32) λ x34 => aQ x34 false (λ kk => kk r1 h33) h33 λ x35 h36 => aQ x34 false (λ kk => kk r0 h36) h36 λ x37 h38 => aQ x34 false (λ kk => vK (eO x37) λ v => kk v h38) h38 λ x39 h40 => aQ x34 false (λ kk => vK (dS x35 x39) λ v => kk v h40) h40 λ x41 h42 => vK (aN x34 (.bool true) x41) λ x43 => aQ x43 false (λ kk => kk r2 h42) h42 λ x44 h45 => aQ x43 false (λ kk => kk r0 h45) h45 λ x46 h47 => aQ x43 false (λ kk => vK (eO x46) λ v => kk v h47) h47 λ x48 h49 => aQ x43 false (λ kk => kk r1 h49) h49 λ x50 h51 => aQ x43 false (λ kk => vK (iX x48 x50) λ v => kk v h51) h51 λ x52 h53 => aQ x43 false (λ kk => vK (dS x44 x52) λ v => kk v h53) h53 λ x54 h55 => vK (aN x43 (.bool true) x54) λ x56 => bK x56 (vK (dR x28 (ii 1)) λ x57 => aQ x57 false (λ kk => kk x26 h55) h55 λ x58 h59 => aQ x57 false (λ kk => vK (dR x58 (.str [])) λ v => kk v h59) h59 λ x60 h61 => vK (aN x57 (.bool true) x60) λ x62 => bK x62 (some ((.bool false), h61)) (aWV E i2 r7 h61)) (vK (dR x28 (ii 0)) λ x63 => aQ x63 false (λ kk => kk x26 h55) h55 λ x64 h65 => aQ x63 false (λ kk => kk r0 h65) h65 λ x66 h67 => aQ x63 false (λ kk => kk r1 h67) h67 λ x68 h69 => aQ x63 false (λ kk => kk r1 h69) h69 λ x70 h71 => aQ x63 false (λ kk => kk r2 h71) h71 λ x72 h73 => aQ x63 false (λ kk => vK (cG x70 x72) λ v => kk v h73) h73 λ x74 h75 => aQ x63 false (λ kk => vK (iP x66 (some x68) (some x74)) λ v => kk v h75) h75 λ x76 h77 => aQ x63 false (λ kk => vK (dR x64 x76) λ v => kk v h77) h77 λ x78 h79 => vK (aN x63 (.bool true) x78) λ x80 => bK x80 (some ((.bool false), h79)) (aWV E i2 r7 h79)))
def aBZ (r0 r1 r2 : DV) (i2 : DV → H → aV) (r7 : DV) (h : H) : aV := vK (bV r7 (ii 4)) λ x1 => bK x1 (wK (aC E 8 [(ii 4), (ii 60), (ii 4), (ii 0)] h) λ x2 h3 => wK (aC E 9 [x2, (ii 1), r0, (.int .i64 (.negSucc 0))] h3) λ x4 h5 => vK (aX 0 x4) λ x6 => vK (aX 1 x4) λ x7 => vK (dR x7 (ii 0)) λ x8 => bK x8 (vK (cU r0 (.str [])) λ x9 => aQ x9 false (λ kk => kk r0 h5) h5 λ x10 h11 => aQ x9 false (λ kk => vK (eO x10) λ v => kk v h11) h11 λ x12 h13 => aQ x9 false (λ kk => vK (dS x12 (ii 1536)) λ v => kk v h13) h13 λ x14 h15 => vK (aN x9 (.bool true) x14) λ x16 => aQ x16 true (λ kk => wK (aC E 7 [] h15) kk) h15 λ x17 h18 => vK (aN x16 x17 (.bool false)) λ x19 => some (x19, h18)) (vK (nX r1 (ii 1)) λ x20 => vK (cU x20 (ii 0)) λ x21 => bK x21 (wK (aC E 10 [x2] h5) λ x22 h23 => wK (aC E 11 [x22, r7, (.bool true)] h23) λ x24 h25 => aWU E i2 r0 r1 r2 r7 x2 x6 h25) (wK (aC E 10 [x2] h5) λ x26 h27 => wK (aC E 14 [x26, r7] h27) λ x28 h29 => aWU E i2 r0 r1 r2 r7 x2 x6 h29))) (bBl E h)
def aAk (r0 r1 r2 : DV) (n : Nat) : DV → H → aV := Nat.rec (motive := λ _ => DV → H → aV) (λ _ _ => none) (λ _ i => aBZ E r0 r1 r2 i) n
def aKz (r0 r1 r2 : DV) (h : H) : aV := vK (eO r0) λ x1 => vK (dS x1 (ii 3000)) λ x2 => bK x2 (wK (aC E 7 [] h) λ x3 h4 => some (x3, h4)) (aAk E r0 r1 r2 aT (.int .i64 (.negSucc 0)) h)
theorem I4_1 : Is E C4_1 (bQ D4.res) (λ σ h => bBl E h) := Is.rf
abbrev K4_5 : iL (DV × H) := (cE 0 (cJ (λ σ h => bBl E h) (bQ D4.res)))
abbrev K4_6 (n2 : Nat) : iL (DV × H) := (cJ (λ σ h => (aAk E (σ p0) (σ p1) (σ p2) n2) (σ p7) h) (K4_5 E))
theorem I4_3 (n2 : Nat) : Is E C4_3 (K4_6 E n2) (λ σ h => aWV E (aAk E (σ p0) (σ p1) (σ p2) n2) (σ p7) h) := Is.rf
abbrev K4_7 (n2 : Nat) : iL (DV × H) := (cJ (λ σ h => aWV E (aAk E (σ p0) (σ p1) (σ p2) n2) (σ p7) h) (K4_6 E n2))
theorem I4_4 (n2 : Nat) : Is E C4_4 (cE 1 (K4_7 E n2)) (λ σ h => aWU E (aAk E (σ p0) (σ p1) (σ p2) n2) (σ p0) (σ p1) (σ p2) (σ p7) (σ p8) (σ p9) h) := Is.rf
theorem I4_2 : Is E bJh (K4_5 E) (λ σ h => aAk E (σ p0) (σ p1) (σ p2) aT (σ p7) h) := Is.lp (λ n2 σ h => aAk E (σ p0) (σ p1) (σ p2) n2 (σ p7) h) λ n2 => Is.aq (Is.sq (Is.sq (I4_3 E n2) (Is.bk (Is.sq (Is.sq (Is.sq (Is.sq (I4_4 E n2) (Is.leaf _)) (Is.leaf _)) (Is.leaf _)) (Is.leaf _)))) (Is.leaf _))
theorem I4_0 : iB3 E D4 (aKz E) := Is.aq (Is.sq (Is.sq (Is.sq (I4_1 E) (Is.sq (Is.bk (I4_2 E)) (Is.leaf _))) (Is.leaf _)) (Is.leaf _))
def S4 : bU := fA3 (aKz E)
theorem bNs : SQ D4 S4 := eB3 I4_0
def D7 := cm 7
def J7_0 (h : H) : aV := wK (aC E 8 [(ii 3), (ii 60), (ii 3), (ii 0)] h) λ x1 h2 => vK (dM .ptr false h2.get x1 .nilp) λ x3 => bK x3 (some ((.bool false), h2)) (wK (aC E 9 [x1, (ii 0), (.str [97, 98, 99, 100, 101, 102]), (.int .i64 (.negSucc 0))] h2) λ x4 h5 => wK (aC E 16 [x1, (ii 0), (ii 1), (ii 2)] h5) λ x6 h7 => vK (aX 0 x6) λ x8 => vK (aX 1 x6) λ x9 => vK (aX 2 x6) λ x10 => wK (aC E 10 [x1] h7) λ x11 h12 => wK (aC E 11 [x11, (ii 0), (.bool true)] h12) λ x13 h14 => wK (aC E 12 [x1, (ii 0)] h14) λ x15 h16 => vK (aX 0 x15) λ x17 => vK (aX 1 x15) λ x18 => wK (aC E 15 [x1, (ii 0)] h16) λ x19 h20 => wK (aC E 16 [x1, (ii 0), (ii 1), (ii 1)] h20) λ x21 h22 => vK (aX 0 x21) λ x23 => vK (aX 1 x21) λ x24 => vK (aX 2 x21) λ x25 => wK (aC E 10 [x1] h22) λ x26 h27 => wK (aC E 11 [x26, (ii 1), (.bool true)] h27) λ x28 h29 => wK (aC E 12 [x1, (ii 0)] h29) λ x30 h31 => vK (aX 0 x30) λ x32 => vK (aX 1 x30) λ x33 => wK (aC E 12 [x1, (ii 1)] h31) λ x34 h35 => vK (aX 0 x34) λ x36 => vK (aX 1 x34) λ x37 => vK (cU x8 (.str [98, 99])) λ x38 => aQ x38 true (λ kk => kk x9 h35) h35 λ x39 h40 => aQ x38 true (λ kk => vK (cU x39 (ii 1)) λ v => kk v h40) h40 λ x41 h42 => vK (aN x38 x41 (.bool false)) λ x43 => aQ x43 true (λ kk => kk x10 h42) h42 λ x44 h45 => aQ x43 true (λ kk => vK (cU x44 (ii 0)) λ v => kk v h45) h45 λ x46 h47 => vK (aN x43 x46 (.bool false)) λ x48 => aQ x48 true (λ kk => kk x17 h47) h47 λ x49 h50 => aQ x48 true (λ kk => vK (cU x49 (.str [97, 98, 99, 100, 101, 102])) λ v => kk v h50) h50 λ x51 h52 => vK (aN x48 x51 (.bool false)) λ x53 => aQ x53 true (λ kk => kk x18 h52) h52 λ x54 h55 => aQ x53 true (λ kk => vK (cU x54 (ii 0)) λ v => kk v h55) h55 λ x56 h57 => vK (aN x53 x56 (.bool false)) λ x58 => aQ x58 true (λ kk => kk x19 h57) h57 λ x59 h60 => aQ x58 true (λ kk => eX 1 1 [(ii 0)] [(0, 1, (ii 0))] h60 kk) h60 λ x61 h62 => aQ x58 true (λ kk => wK (aC E 24 [x59, x61] h62) kk) h62 λ x63 h64 => vK (aN x58 x63 (.bool false)) λ x65 => aQ x65 true (λ kk => kk x23 h64) h64 λ x66 h67 => aQ x65 true (λ kk => vK (cU x66 (.str [98])) λ v => kk v h67) h67 λ x68 h69 => vK (aN x65 x68 (.bool false)) λ x70 => aQ x70 true (λ kk => kk x24 h69) h69 λ x71 h72 => aQ x70 true (λ kk => vK (cU x71 (ii 3)) λ v => kk v h72) h72 λ x73 h74 => vK (aN x70 x73 (.bool false)) λ x75 => aQ x75 true (λ kk => kk x25 h74) h74 λ x76 h77 => aQ x75 true (λ kk => vK (cU x76 (ii 0)) λ v => kk v h77) h77 λ x78 h79 => vK (aN x75 x78 (.bool false)) λ x80 => aQ x80 true (λ kk => kk x33 h79) h79 λ x81 h82 => aQ x80 true (λ kk => vK (cU x81 (ii 9)) λ v => kk v h82) h82 λ x83 h84 => vK (aN x80 x83 (.bool false)) λ x85 => aQ x85 true (λ kk => kk x37 h84) h84 λ x86 h87 => aQ x85 true (λ kk => vK (cU x86 (ii 7)) λ v => kk v h87) h87 λ x88 h89 => vK (aN x85 x88 (.bool false)) λ x90 => aQ x90 true (λ kk => kk x1 h89) h89 λ x91 h92 => aQ x90 true (λ kk => wK (aC E 13 [x91, (ii 0)] h92) kk) h92 λ x93 h94 => aQ x90 true (λ kk => vK (cU x93 (ii 9)) λ v => kk v h94) h94 λ x95 h96 => vK (aN x90 x95 (.bool false)) λ x97 => some (x97, h96))
theorem I7_0 : iB0 E D7 (J7_0 E) := Is.rf
def S7 : bU := fA0 (J7_0 E)
theorem bMY : SQ D7 S7 := eB0 I7_0
def D8 := cm 8
def bBk (r0 r1 r2 r3 : DV) (h : H) : aV := vK (bV r0 (ii 1)) λ x1 => aQ x1 false (λ kk => kk r0 h) h λ x2 h3 => aQ x1 false (λ kk => vK (dS x2 (ii 8)) λ v => kk v h3) h3 λ x4 h5 => vK (aN x1 (.bool true) x4) λ x6 => aQ x6 false (λ kk => kk r2 h5) h5 λ x7 h8 => aQ x6 false (λ kk => vK (bV x7 (ii 2)) λ v => kk v h8) h8 λ x9 h10 => vK (aN x6 (.bool true) x9) λ x11 => aQ x11 false (λ kk => kk r2 h10) h10 λ x12 h13 => aQ x11 false (λ kk => vK (dS x12 (ii 8)) λ v => kk v h13) h13 λ x14 h15 => vK (aN x11 (.bool true) x14) λ x16 => aQ x16 false (λ kk => kk r3 h15) h15 λ x17 h18 => aQ x16 false (λ kk => vK (bV x17 (ii 0)) λ v => kk v h18) h18 λ x19 h20 => vK (aN x16 (.bool true) x19) λ x21 => aQ x21 false (λ kk => kk r3 h20) h20 λ x22 h23 => aQ x21 false (λ kk => kk r0 h23) h23 λ x24 h25 => aQ x21 false (λ kk => kk r2 h25) h25 λ x26 h27 => aQ x21 false (λ kk => vK (iX x24 x26) λ v => kk v h27) h27 λ x28 h29 => aQ x21 false (λ kk => vK (dS x22 x28) λ v => kk v h29) h29 λ x30 h31 => vK (aN x21 (.bool true) x30) λ x32 => bK x32 (some (.nilp, h31)) (wK (aC E 25 [r0, r1] h31) λ x33 h34 => wK (aC E 27 [(ii 0), r2] h34) λ x35 h36 => wK (aC E 27 [r2, r3] h36) λ x37 h38 => wK (aC E 26 [x35, x37] h38) λ x39 h40 => vK (dT [.nilp, .nilp, (ii 0), (ii 0), (ii 0), (ii 0), (ii 0), (ii 0), (ii 0), (ii 0), (ii 0), (ii 0), (ii 0), (ii 0), (ii 0), (ii 0), (ii 0), (ii 0), (ii 0)] [(0, 1, x33), (1, 1, x39), (2, 1, r2)]) λ x41 => dN x41 h40 λ x42 h43 => some (x42, h43))
theorem I8_0 : iB4 E D8 (bBk E) := Is.rf
def S8 : bU := fA4 (bBk E)
theorem bMS : SQ D8 S8 := eB4 I8_0
def D9 := cm 9
def C9_1 := cr (cr (cr (cr (cr (cr (cr D9.body))))))
def bJg := cl (cr (cl (cr (cr (cr (cr (cr (cr D9.body))))))))
def C9_3 := cr (cr (cr (cl bJg)))
def C9_4 := cr (cr (cr (cr (cl (cl (cr (cr (cl bJg))))))))
def bBj (r0 r1 r3 r12 r13 : DV) (h : H) : aV := vK (cU r13 r3) λ x1 => bK x1 (some ((.tup [(ii 0), (ii 16)]), h)) (eX 1 1 [(ii 0)] [(0, 1, r12)] h λ x2 h3 => wK (aC E 29 [r0, r1, (ii 2), x2] h3) λ x4 h5 => vK (aX 0 x4) λ x6 => vK (aX 1 x4) λ x7 => vK (dR x6 (ii 0)) λ x8 => bK x8 (some ((.tup [(ii 0), x6]), h5)) (some ((.tup [r12, (ii 0)]), h5)))
def bBi (E : bF) (i2 : DV → DV → DV → H → aV) (r13 r14 r71 : DV) (h : H) : aV := vK (cG r71 (ii 1)) λ x1 => i2 r13 r14 x1 h
def bBh (i2 : DV → DV → DV → H → aV) (r0 r1 r12 r13 r14 r71 : DV) (h : H) : aV := vK (dS r14 (ii 1)) λ x1 => bK x1 (eX 1 1 [(ii 0)] [(0, 1, r12)] h λ x2 h3 => wK (aC E 29 [r0, r1, (ii 3), x2] h3) λ x4 h5 => wK (aC E 32 [r0, r12] h5) λ x6 h7 => some ((.tup [(ii 0), (ii 9)]), h7)) (bBi E i2 r13 r14 r71 h)
def aYx (r0 r1 r3 r12 r69 r70 : DV) (i2 : DV → DV → DV → H → aV) (r13 r14 r71 : DV) (h : H) : aV := vK (bV r71 r70) λ x1 => bK x1 (vK (cW 1 r69 r71) λ x2 => vK (aO h.get x2) λ x3 => vK (cU r13 r3) λ x4 => bK x4 (some ((.tup [(ii 0), (ii 16)]), h)) (vK (cG r13 (ii 1)) λ x5 => wK (aC E 31 [r0, r12, r71, x3] h) λ x6 h7 => vK (dR x6 (ii 0)) λ x8 => bK x8 (vK (cG r14 (ii 1)) λ x9 => bBh E i2 r0 r1 r12 x5 x9 r71 h7) (bBh E i2 r0 r1 r12 x5 r14 r71 h7))) (bBj E r0 r1 r3 r12 r13 h)
def aEI (r0 r1 r3 r12 r69 r70 : DV) (n : Nat) : DV → DV → DV → H → aV := Nat.rec (motive := λ _ => DV → DV → DV → H → aV) (λ _ _ _ _ => none) (λ _ i => aYx E r0 r1 r3 r12 r69 r70 i) n
def aSu (r0 r1 r2 r3 : DV) (h : H) : aV := vK (dM .ptr false h.get r0 .nilp) λ x1 => aQ x1 false (λ kk => kk r1 h) h λ x2 h3 => aQ x1 false (λ kk => vK (bV x2 (ii 0)) λ v => kk v h3) h3 λ x4 h5 => vK (aN x1 (.bool true) x4) λ x6 => aQ x6 false (λ kk => kk r1 h5) h5 λ x7 h8 => aQ x6 false (λ kk => vK (fV x7 (ii 16)) λ v => kk v h8) h8 λ x9 h10 => vK (aN x6 (.bool true) x9) λ x11 => bK x11 (some ((.tup [(ii 0), (ii 1)]), h10)) (vK (cU r2 (.str [])) λ x12 => aQ x12 false (λ kk => kk r2 h10) h10 λ x13 h14 => aQ x12 false (λ kk => vK (eO x13) λ v => kk v h14) h14 λ x15 h16 => aQ x12 false (λ kk => kk r0 h16) h16 λ x17 h18 => aQ x12 false (λ kk => wK (aC E 28 [x17] h18) kk) h18 λ x19 h20 => aQ x12 false (λ kk => vK (dS x15 x19) λ v => kk v h20) h20 λ x21 h22 => vK (aN x12 (.bool true) x21) λ x23 => bK x23 (some ((.tup [(ii 0), (ii 2)]), h22)) (vK (cU r3 (ii 0)) λ x24 => bK x24 (some ((.tup [(ii 0), (ii 16)]), h22)) (vK (eO r2) λ x25 => eX 1 1 [(ii 0)] [(0, 1, x25)] h22 λ x26 h27 => wK (aC E 29 [r0, r1, (ii 1), x26] h27) λ x28 h29 => vK (aX 0 x28) λ x30 => vK (aX 1 x28) λ x31 => vK (dR x30 (ii 0)) λ x32 => bK x32 (some ((.tup [(ii 0), x30]), h29)) (vK (cW 1 x31 (ii 0)) λ x33 => vK (aO h29.get x33) λ x34 => vK (aH r0) λ x35 => vK (aP 2 x35) λ x36 => vK (aO h29.get x36) λ x37 => wK (aC E 30 [r2, x37] h29) λ x38 h39 => vK (aX 0 x38) λ x40 => vK (aX 1 x38) λ x41 => vK (bH x40) λ x42 => aEI E r0 r1 r3 x34 x40 x42 aT (ii 1) (ii 0) (ii 0) h39))))
theorem I9_1 : Is E C9_1 (bQ D9.res) (λ σ h => bBj E (σ p0) (σ p1) (σ p3) (σ uC) (σ tV) h) := Is.rf
abbrev K9_5 : iL (DV × H) := (cJ (λ σ h => bBj E (σ p0) (σ p1) (σ p3) (σ uC) (σ tV) h) (bQ D9.res))
abbrev K9_6 (n2 : Nat) : iL (DV × H) := (cJ (λ σ h => (aEI E (σ p0) (σ p1) (σ p3) (σ uC) (σ p69) (σ p70) n2) (σ tV) (σ xC) (σ p71) h) (cE 1 (K9_5 E)))
theorem I9_3 (n2 : Nat) : Is E C9_3 (K9_6 E n2) (λ σ h => bBi E (aEI E (σ p0) (σ p1) (σ p3) (σ uC) (σ p69) (σ p70) n2) (σ tV) (σ xC) (σ p71) h) := Is.rf
abbrev K9_7 (n2 : Nat) : iL (DV × H) := (cJ (λ σ h => bBi E (aEI E (σ p0) (σ p1) (σ p3) (σ uC) (σ p69) (σ p70) n2) (σ tV) (σ xC) (σ p71) h) (K9_6 E n2))
theorem I9_4 (n2 : Nat) : Is E C9_4 (cE 2 (K9_7 E n2)) (λ σ h => bBh E (aEI E (σ p0) (σ p1) (σ p3) (σ uC) (σ p69) (σ p70) n2) (σ p0) (σ p1) (σ uC) (σ tV) (σ xC) (σ p71) h) := Is.rf
theorem I9_2 : Is E bJg (cE 1 (K9_5 E)) (λ σ h => aEI E (σ p0) (σ p1) (σ p3) (σ uC) (σ p69) (σ p70) aT (σ tV) (σ xC) (σ p71) h) := Is.lp (λ n2 σ h => aEI E (σ p0) (σ p1) (σ p3) (σ uC) (σ p69) (σ p70) n2 (σ tV) (σ xC) (σ p71) h) λ n2 => Is.aq (Is.sq (Is.sq (Is.sq (I9_3 E n2) (Is.bk (Is.sq (Is.sq (Is.sq (Is.sq (I9_4 E n2) (Is.leaf _)) (Is.leaf _)) (Is.leaf _)) (Is.leaf _)))) (Is.leaf _)) (Is.leaf _))
theorem I9_0 : iB4 E D9 (aSu E) := Is.aq (Is.sq (Is.sq (Is.sq (Is.sq (Is.sq (Is.sq (Is.sq (I9_1 E) (Is.sq (Is.bk (I9_2 E)) (Is.leaf _))) (Is.leaf _)) (Is.leaf _)) (Is.leaf _)) (Is.leaf _)) (Is.leaf _)) (Is.leaf _))
def S9 : bU := fA4 (aSu E)
theorem bMM : SQ D9 S9 := eB4 I9_0
def D10 := cm 10
def aQP (E : bF) (r0 : DV) (h : H) : aV := vK (dM .ptr false h.get r0 .nilp) λ x1 => bK x1 (some (.nilp, h)) (vK (aH r0) λ x2 => vK (aP 0 x2) λ x3 => vK (aO h.get x3) λ x4 => some (x4, h))
theorem bQz : nN E D10 (aQP E) := Is.rf
def S10 : bU := nG (aQP E)
theorem bFW : SQ D10 S10 := nR bQz
def D11 := cm 11
def aGb (r0 r1 r2 : DV) (h : H) : aV := wK (aC E 33 [r0, r1] h) λ x1 h2 => vK (dM .ptr false h2.get x1 .nilp) λ x3 => aQ x3 false (λ kk => kk x1 h2) h2 λ x4 h5 => aQ x3 false (λ kk => vK (aH x4) λ v => kk v h5) h5 λ x6 h7 => aQ x3 false (λ kk => vK (aP 3 x6) λ v => kk v h7) h7 λ x8 h9 => aQ x3 false (λ kk => vK (aO h9.get x8) λ v => kk v h9) h9 λ x10 h11 => vK (aN x3 (.bool true) x10) λ x12 => bK x12 (some ((.bool false), h11)) (vK (aH x1) λ x13 => vK (aP 2 x13) λ x14 => wK (eU 1 x14 r2 h11) λ x15 h16 => some ((.bool true), h16))
theorem bQy : iB3 E D11 (aGb E) := Is.rf
def S11 : bU := fA3 (aGb E)
theorem bFU : SQ D11 S11 := eB3 bQy
def D12 := cm 12
def aQO (r0 r1 : DV) (h : H) : aV := wK (aC E 34 [r0, r1] h) λ x1 h2 => vK (aX 0 x1) λ x3 => vK (aX 1 x1) λ x4 => vK (dR x4 (ii 0)) λ x5 => bK x5 (some ((.tup [(.str []), x4]), h2)) (wK (aC E 35 [x3] h2) λ x6 h7 => vK (aX 0 x6) λ x8 => vK (aX 1 x6) λ x9 => some ((.tup [x8, x9]), h7))
theorem bQx : mO E D12 (aQO E) := Is.rf
def S12 : bU := mD (aQO E)
theorem bFT : SQ D12 S12 := mZ bQx
def D13 := cm 13
def aQN (r0 r1 : DV) (h : H) : aV := wK (aC E 34 [r0, r1] h) λ x1 h2 => vK (aX 0 x1) λ x3 => vK (aX 1 x1) λ x4 => vK (dR x4 (ii 0)) λ x5 => bK x5 (some (x4, h2)) (wK (aC E 36 [x3] h2) λ x6 h7 => vK (bH x6) λ x8 => vK (dS x8 (ii 0)) λ x9 => bK x9 (some ((ii 9), h7)) (vK (aH x3) λ x10 => vK (aP 8 x10) λ x11 => vK (aO h7.get x11) λ x12 => wK (aC E 37 [x12] h7) λ x13 h14 => vK (fH x13) λ x15 => bK x15 (some ((ii 4), h14)) (some ((ii 0), h14))))
theorem bQw : mO E D13 (aQN E) := Is.rf
def S13 : bU := mD (aQN E)
theorem bFS : SQ D13 S13 := mZ bQw
def D14 := cm 14
def bSB := cr (cr (cr D14.body))
def aKD (E : bF) (r5 : DV) (h : H) : aV := vK (dM .ptr true h.get r5 .nilp) λ x1 => some (x1, h)
def aGa (r0 r1 : DV) (h : H) : aV := wK (aC E 33 [r0, r1] h) λ x1 h2 => vK (dM .ptr true h2.get x1 .nilp) λ x3 => bK x3 (vK (aH x1) λ x4 => vK (aP 3 x4) λ x5 => wK (eU 1 x5 (.bool true) h2) λ x6 h7 => aKD E x1 h7) (aKD E x1 h2)
theorem bQu : Is E bSB (bQ D14.res) (λ σ h => aKD E (σ p5) h) := Is.rf
theorem bQv : mO E D14 (aGa E) := Is.aq (Is.sq (Is.sq (Is.sq (bQu E) (Is.leaf _)) (Is.leaf _)) (Is.leaf _))
def S14 : bU := mD (aGa E)
theorem bFP : SQ D14 S14 := mZ bQv
def D15 := cm 15
def aQM (r0 r1 : DV) (h : H) : aV := wK (aC E 34 [r0, r1] h) λ x1 h2 => vK (aX 0 x1) λ x3 => vK (aX 1 x1) λ x4 => vK (dR x4 (ii 0)) λ x5 => bK x5 (some (.nils, h2)) (wK (aC E 36 [x3] h2) λ x6 h7 => some (x6, h7))
theorem bQt : mO E D15 (aQM E) := Is.rf
def S15 : bU := mD (aQM E)
theorem bFO : SQ D15 S15 := mZ bQt
def D16 := cm 16
def aKI := cr D16.body
def bSy := cr (cr (cr (cr (cr aKI))))
def bSx := cl (cr (cl (cr (cr (cr (cr aKI))))))
def bSA := cr (cr (cr (cr (cr (cr (cr (cl aKI)))))))
def bSz := cl (cr (cl (cr (cr (cr (cr (cr (cr (cl aKI)))))))))
def aXm (r11 r15 : DV) (h : H) : aV := vK (iQ h.get r15) λ x1 => wK (aC E 38 [r11] h) λ x2 h3 => rK (rcK (iQ h3.get r15) x1) <| some ((.tup [x1, x2, (ii 0)]), h3)
def bSF (i1 : DV → H → aV) (r11 r17 : DV) (i5 : DV → DV → H → aV) (r15 r16 : DV) (h : H) : aV := vK (bV r16 r17) λ x1 => bK x1 (vK (aH r11) λ x2 => vK (aP 7 x2) λ x3 => vK (aO h.get x3) λ x4 => vK (aBi r16 x4) λ x5 => wK (aC E 39 [r11, x5] h) λ x6 h7 => vK (fH x6) λ x8 => bK x8 (i1 (.bool true) h7) (vK (cG x5 (ii 1)) λ x9 => vK (aH r11) λ x10 => vK (aP 7 x10) λ x11 => vK (aO h7.get x11) λ x12 => vK (jP x9 x12) λ x13 => vK (aAt r17 x13) λ x14 => vK (aH r11) λ x15 => vK (aP 8 x15) λ x16 => vK (aO h7.get x16) λ x17 => vK (cW 1 x17 x5) λ x18 => vK (aO h7.get x18) λ x19 => vK (aH r11) λ x20 => vK (aP 7 x20) λ x21 => vK (aO h7.get x21) λ x22 => vK (jP x5 x22) λ x23 => vK (iX r16 x23) λ x24 => vK (aH r11) λ x25 => vK (aP 7 x25) λ x26 => vK (aO h7.get x26) λ x27 => vK (jP x5 x27) λ x28 => vK (iX x14 x28) λ x29 => vK (iP x19 (some x24) (some x29)) λ x30 => wK (cT 1 1 r15 x30 h7) λ x31 h32 => i5 x31 x14 h32)) (aXm E r11 r15 h)
def aWH (i1 : DV → H → aV) (r11 r17 : DV) (n : Nat) : DV → DV → H → aV := Nat.rec (motive := λ _ => DV → DV → H → aV) (λ _ _ _ => none) (λ _ i => bSF E i1 r11 r17 i) n
def aYy (r2 r3 r11 : DV) (i1 : DV → H → aV) (r13 : DV) (h : H) : aV := bK r13 (wK (aC E 35 [r11] h) λ x1 h2 => vK (aX 0 x1) λ x3 => vK (aX 1 x1) λ x4 => vK (dR x4 (ii 0)) λ x5 => bK x5 (some ((.tup [(.str []), (ii 0), x4]), h2)) (vK (cG r2 r3) λ x6 => vK (iP x3 (some r2) (some x6)) λ x7 => wK (aC E 38 [r11] h2) λ x8 h9 => some ((.tup [x7, x8, (ii 0)]), h9))) (vK (cG r2 r3) λ x10 => aWH E i1 r11 x10 aT .nils r2 h)
def aBP (r2 r3 r11 : DV) (n : Nat) : DV → H → aV := Nat.rec (motive := λ _ => DV → H → aV) (λ _ _ => none) (λ _ i => aYy E r2 r3 r11 i) n
def aKC (r11 r15 : DV) (h : H) : aV := vK (iQ h.get r15) λ x1 => wK (aC E 38 [r11] h) λ x2 h3 => rK (rcK (iQ h3.get r15) x1) <| some ((.tup [x1, x2, (ii 0)]), h3)
def aKW (r2 r3 r11 r17 : DV) (i3 : DV → DV → H → aV) (r15 r16 : DV) (h : H) : aV := vK (bV r16 r17) λ x1 => bK x1 (vK (aH r11) λ x2 => vK (aP 7 x2) λ x3 => vK (aO h.get x3) λ x4 => vK (aBi r16 x4) λ x5 => wK (aC E 39 [r11, x5] h) λ x6 h7 => vK (fH x6) λ x8 => bK x8 (aBP E r2 r3 r11 aT (.bool true) h7) (vK (cG x5 (ii 1)) λ x9 => vK (aH r11) λ x10 => vK (aP 7 x10) λ x11 => vK (aO h7.get x11) λ x12 => vK (jP x9 x12) λ x13 => vK (aAt r17 x13) λ x14 => vK (aH r11) λ x15 => vK (aP 8 x15) λ x16 => vK (aO h7.get x16) λ x17 => vK (cW 1 x17 x5) λ x18 => vK (aO h7.get x18) λ x19 => vK (aH r11) λ x20 => vK (aP 7 x20) λ x21 => vK (aO h7.get x21) λ x22 => vK (jP x5 x22) λ x23 => vK (iX r16 x23) λ x24 => vK (aH r11) λ x25 => vK (aP 7 x25) λ x26 => vK (aO h7.get x26) λ x27 => vK (jP x5 x27) λ x28 => vK (iX x14 x28) λ x29 => vK (iP x19 (some x24) (some x29)) λ x30 => wK (cT 1 1 r15 x30 h7) λ x31 h32 => i3 x31 x14 h32)) (aKC E r11 r15 h)
def aFU (r2 r3 r11 r17 : DV) (n : Nat) : DV → DV → H → aV := Nat.rec (motive := λ _ => DV → DV → H → aV) (λ _ _ _ => none) (λ _ i => aKW E r2 r3 r11 r17 i) n
def aFZ (r0 r1 r2 r3 : DV) (h : H) : aV := wK (aC E 34 [r0, r1] h) λ x1 h2 => vK (aX 0 x1) λ x3 => vK (aX 1 x1) λ x4 => vK (dR x4 (ii 0)) λ x5 => bK x5 (some ((.tup [(.str []), (ii 0), x4]), h2)) (vK (bV r2 (ii 0)) λ x6 => aQ x6 false (λ kk => kk r3 h2) h2 λ x7 h8 => aQ x6 false (λ kk => vK (bV x7 (ii 0)) λ v => kk v h8) h8 λ x9 h10 => vK (aN x6 (.bool true) x9) λ x11 => aQ x11 false (λ kk => kk r2 h10) h10 λ x12 h13 => aQ x11 false (λ kk => kk x3 h13) h13 λ x14 h15 => aQ x11 false (λ kk => vK (aH x14) λ v => kk v h15) h15 λ x16 h17 => aQ x11 false (λ kk => vK (aP 1 x16) λ v => kk v h17) h17 λ x18 h19 => aQ x11 false (λ kk => vK (aP 4 x18) λ v => kk v h19) h19 λ x20 h21 => aQ x11 false (λ kk => vK (aO h21.get x20) λ v => kk v h21) h21 λ x22 h23 => aQ x11 false (λ kk => vK (dS x12 x22) λ v => kk v h23) h23 λ x24 h25 => vK (aN x11 (.bool true) x24) λ x26 => aQ x26 false (λ kk => kk r3 h25) h25 λ x27 h28 => aQ x26 false (λ kk => kk x3 h28) h28 λ x29 h30 => aQ x26 false (λ kk => vK (aH x29) λ v => kk v h30) h30 λ x31 h32 => aQ x26 false (λ kk => vK (aP 1 x31) λ v => kk v h32) h32 λ x33 h34 => aQ x26 false (λ kk => vK (aP 4 x33) λ v => kk v h34) h34 λ x35 h36 => aQ x26 false (λ kk => vK (aO h36.get x35) λ v => kk v h36) h36 λ x37 h38 => aQ x26 false (λ kk => kk r2 h38) h38 λ x39 h40 => aQ x26 false (λ kk => vK (iX x37 x39) λ v => kk v h40) h40 λ x41 h42 => aQ x26 false (λ kk => vK (dS x27 x41) λ v => kk v h42) h42 λ x43 h44 => vK (aN x26 (.bool true) x43) λ x45 => bK x45 (some ((.tup [(.str []), (ii 0), (ii 1)]), h44)) (bK (.bool false) (wK (aC E 35 [x3] h44) λ x46 h47 => vK (aX 0 x46) λ x48 => vK (aX 1 x46) λ x49 => vK (dR x49 (ii 0)) λ x50 => bK x50 (some ((.tup [(.str []), (ii 0), x49]), h47)) (vK (cG r2 r3) λ x51 => vK (iP x48 (some r2) (some x51)) λ x52 => wK (aC E 38 [x3] h47) λ x53 h54 => some ((.tup [x52, x53, (ii 0)]), h54))) (vK (cG r2 r3) λ x55 => aFU E r2 r3 x3 x55 aT .nils r2 h44)))
def bDj (r0 r1 r2 r3 : DV) (h : H) : aV := aFZ E r0 r1 r2 r3 h
abbrev bCH (n1 : Nat) : iL (DV × H) := (tE 4294967296 (λ σ h => (aBP E (σ p2) (σ p3) (σ tW) n1) (σ tV) h) (bQ D16.res))
theorem bQo (n1 : Nat) : Is E bSy (bCH E n1) (λ σ h => aXm E (σ tW) (σ p15) h) := Is.rf
abbrev bOe (n1 : Nat) : iL (DV × H) := (cJ (λ σ h => aXm E (σ tW) (σ p15) h) (bCH E n1))
theorem bQn (n1 : Nat) : Is E bSx (cE 1 (bOe E n1)) (λ σ h => aWH E (aBP E (σ p2) (σ p3) (σ tW) n1) (σ tW) (σ p17) aT (σ p15) (σ p16) h) := Is.lp (λ n5 σ h => aWH E (aBP E (σ p2) (σ p3) (σ tW) n1) (σ tW) (σ p17) n5 (σ p15) (σ p16) h) λ n5 => Is.aq (Is.leaf _)
abbrev bCG : iL (DV × H) := (tE 4294967296 (λ σ h => aBP E (σ p2) (σ p3) (σ tW) aT (σ tV) h) (bQ D16.res))
theorem bQq : Is E bSA (bCG E) (λ σ h => aKC E (σ tW) (σ p15) h) := Is.rf
abbrev bOd : iL (DV × H) := (cJ (λ σ h => aKC E (σ tW) (σ p15) h) (bCG E))
theorem bQp : Is E bSz (cE 1 (bOd E)) (λ σ h => aFU E (σ p2) (σ p3) (σ tW) (σ p17) aT (σ p15) (σ p16) h) := Is.lp (λ n3 σ h => aFU E (σ p2) (σ p3) (σ tW) (σ p17) n3 (σ p15) (σ p16) h) λ n3 => Is.aq (Is.leaf _)
theorem bQr : Is E aKI (bQ D16.res) (λ σ h => aFZ E (σ p0) (σ p1) (σ p2) (σ p3) h) := Is.aq (Is.jm (g := 4294967296) (λ n1 σ h => aBP E (σ p2) (σ p3) (σ tW) n1 (σ tV) h) (λ n1 => Is.aq (Is.sq (Is.sq (Is.sq (Is.sq (bQo E n1) (Is.sq (Is.bk (bQn E n1)) (Is.leaf _))) (Is.leaf _)) (Is.leaf _)) (Is.leaf _))) (Is.sq (Is.sq (Is.sq (Is.sq (Is.sq (Is.sq (Is.sq (bQq E) (Is.sq (Is.bk (bQp E)) (Is.leaf _))) (Is.leaf _)) (Is.leaf _)) (Is.leaf _)) (Is.leaf _)) (Is.leaf _)) (Is.leaf _)))
theorem bQs : iB4 E D16 (bDj E) := Is.aq (Is.sq (bQr E) (Is.leaf _))
def S16 : bU := fA4 (bDj E)
theorem bFM : SQ D16 S16 := eB4 bQs
def D24 := cm 24
def bSw := cr (cr (cr D24.body))
def bSv := cl (cr (cl (cr (cr D24.body))))
def aXa (E : bF) (h : H) : aV := some ((.bool true), h)
def bSE (r0 r1 : DV) (i2 : DV → H → aV) (r5 : DV) (h : H) : aV := vK (bH r0) λ x1 => vK (bV r5 x1) λ x2 => bK x2 (vK (cW 1 r0 r5) λ x3 => vK (aO h.get x3) λ x4 => vK (cW 1 r1 r5) λ x5 => vK (aO h.get x5) λ x6 => vK (dR x4 x6) λ x7 => bK x7 (some ((.bool false), h)) (vK (cG r5 (ii 1)) λ x8 => i2 x8 h)) (aXa E h)
def aWG (r0 r1 : DV) (n : Nat) : DV → H → aV := Nat.rec (motive := λ _ => DV → H → aV) (λ _ _ => none) (λ _ i => bSE E r0 r1 i) n
def bDi (r0 r1 : DV) (h : H) : aV := vK (bH r0) λ x1 => vK (bH r1) λ x2 => vK (dR x1 x2) λ x3 => bK x3 (some ((.bool false), h)) (aWG E r0 r1 aT (ii 0) h)
theorem bQl : Is E bSw (bQ D24.res) (λ σ h => aXa E h) := Is.rf
abbrev bOc : iL (DV × H) := (cE 0 (cJ (λ σ h => aXa E h) (bQ D24.res)))
theorem bQk : Is E bSv (bOc E) (λ σ h => aWG E (σ p0) (σ p1) aT (σ p5) h) := Is.lp (λ n2 σ h => aWG E (σ p0) (σ p1) n2 (σ p5) h) λ n2 => Is.aq (Is.leaf _)
theorem bQm : mO E D24 (bDi E) := Is.aq (Is.sq (Is.sq (Is.sq (bQl E) (Is.sq (Is.bk (bQk E)) (Is.leaf _))) (Is.leaf _)) (Is.leaf _))
def S24 : bU := mD (bDi E)
theorem bFL : SQ D24 S24 := mZ bQm
def D25 := cm 25
def bSu := cr (cr (cr D25.body))
def bSt := cl (cr (cl (cr (cr D25.body))))
def aQK (E : bF) (r5 : DV) (h : H) : aV := some (r5, h)
def aKV (r1 r5 r13 : DV) (i2 : DV → H → aV) (r14 : DV) (h : H) : aV := vK (bV r14 r13) λ x1 => bK x1 (vK (yP r1 (ii 9)) λ x2 => wK (aC E 45 [x2] h) λ x3 h4 => wK (aC E 46 [x3] h4) λ x5 h6 => vK (aX 0 x5) λ x7 => vK (aX 1 x5) λ x8 => vK (aH r5) λ x9 => vK (aP 0 x9) λ x10 => vK (aO h6.get x10) λ x11 => vK (dT [.nilp, .nilp, (.bool false), (.bool false)] [(0, 1, x3), (1, 1, x7)]) λ x12 => dN x12 h6 λ x13 h14 => eX 1 1 [.nilp] [(0, 1, x13)] h14 λ x15 h16 => wK (cT 1 8 x11 x15 h16) λ x17 h18 => vK (aH r5) λ x19 => vK (aP 0 x19) λ x20 => wK (eU 1 x20 x17 h18) λ x21 h22 => vK (cG r14 (ii 1)) λ x23 => i2 x23 h22) (aQK E r5 h)
def aFT (r1 r5 r13 : DV) (n : Nat) : DV → H → aV := Nat.rec (motive := λ _ => DV → H → aV) (λ _ _ => none) (λ _ i => aKV E r1 r5 r13 i) n
def aQL (r0 r1 : DV) (h : H) : aV := vK (dT [.nils] []) λ x1 => dN x1 h λ x2 h3 => vK (yP r0 (ii 1)) λ x4 => vK (aAt x4 (ii 8)) λ x5 => aFT E r1 x2 x5 aT (ii 0) h3
theorem bQi : Is E bSu (bQ D25.res) (λ σ h => aQK E (σ p5) h) := Is.rf
abbrev bOb : iL (DV × H) := (cJ (λ σ h => aQK E (σ p5) h) (bQ D25.res))
theorem bQh : Is E bSt (cE 0 (bOb E)) (λ σ h => aFT E (σ p1) (σ p5) (σ tV) aT (σ xC) h) := Is.lp (λ n2 σ h => aFT E (σ p1) (σ p5) (σ tV) n2 (σ xC) h) λ n2 => Is.aq (Is.leaf _)
theorem bQj : mO E D25 (aQL E) := Is.aq (Is.sq (Is.sq (Is.sq (bQi E) (Is.sq (Is.bk (bQh E)) (Is.leaf _))) (Is.leaf _)) (Is.leaf _))
def S25 : bU := mD (aQL E)
theorem bFK : SQ D25 S25 := mZ bQj
def D26 := cm 26
def bDh (r0 r1 : DV) (h : H) : aV := wK (aC E 47 [r0, r1] h) λ x1 h2 => vK (dM .ptr false h2.get x1 .nilp) λ x3 => bK x3 (some (.nilp, h2)) (wK (aC E 48 [] h2) λ x4 h5 => wK (aC E 49 [] h5) λ x6 h7 => wK (aC E 50 [] h7) λ x8 h9 => wK (aC E 51 [] h9) λ x10 h11 => wK (aC E 52 [(ii 4)] h11) λ x12 h13 => vK (dT [.nilp, .nilp, .nilp, .nilp, .nilp, .nilp, (ii 0)] [(0, 1, x1), (1, 1, x4), (2, 1, x6), (3, 1, x8), (4, 1, x10), (5, 1, x12)]) λ x14 => dN x14 h13 λ x15 h16 => some (x15, h16))
theorem bQg : mO E D26 (bDh E) := Is.rf
def S26 : bU := mD (bDh E)
theorem aVT : SQ D26 S26 := mZ bQg
def D27 := cm 27
def bSs := cr (cr (cr D27.body))
def bSr := cl (cr (cl (cr (cr D27.body))))
def aWZ (E : bF) (r5 : DV) (h : H) : aV := some (r5, h)
def bSD (r0 r5 r10 : DV) (i2 : DV → H → aV) (r11 : DV) (h : H) : aV := vK (bV r11 r10) λ x1 => bK x1 (vK (cG r0 r11) λ x2 => vK (cW 1 r5 r11) λ x3 => wK (eU 1 x3 x2 h) λ x4 h5 => vK (cG r11 (ii 1)) λ x6 => i2 x6 h5) (aWZ E r5 h)
def aWF (r0 r5 r10 : DV) (n : Nat) : DV → H → aV := Nat.rec (motive := λ _ => DV → H → aV) (λ _ _ => none) (λ _ i => bSD E r0 r5 r10 i) n
def bDg (r0 r1 : DV) (h : H) : aV := kL 1 8 (ii 0) r1 r1 h λ x1 h2 => vK (bH x1) λ x3 => aWF E r0 x1 x3 aT (ii 0) h2
theorem bQe : Is E bSs (bQ D27.res) (λ σ h => aWZ E (σ p5) h) := Is.rf
abbrev bOa : iL (DV × H) := (cJ (λ σ h => aWZ E (σ p5) h) (bQ D27.res))
theorem bQd : Is E bSr (cE 0 (bOa E)) (λ σ h => aWF E (σ p0) (σ p5) (σ mJ) aT (σ tW) h) := Is.lp (λ n2 σ h => aWF E (σ p0) (σ p5) (σ mJ) n2 (σ tW) h) λ n2 => Is.aq (Is.leaf _)
theorem bQf : mO E D27 (bDg E) := Is.aq (Is.sq (Is.sq (Is.sq (bQe E) (Is.sq (Is.bk (bQd E)) (Is.leaf _))) (Is.leaf _)) (Is.leaf _))
def S27 : bU := mD (bDg E)
theorem aVS : SQ D27 S27 := mZ bQf
def D28 := cm 28
def aQJ (E : bF) (r0 : DV) (h : H) : aV := vK (dM .ptr false h.get r0 .nilp) λ x1 => bK x1 (some ((ii 0), h)) (vK (aH r0) λ x2 => vK (aP 2 x2) λ x3 => vK (aO h.get x3) λ x4 => vK (iX x4 (ii 1)) λ x5 => vK (jP (ii 512) x5) λ x6 => some (x6, h))
theorem bQc : nN E D28 (aQJ E) := Is.rf
def S28 : bU := nG (aQJ E)
theorem bFJ : SQ D28 S28 := nR bQc
def D29 := cm 29
def bSq := cr (cr (cr (cr D29.body)))
def bDv := cl (cr (cl (cr (cr (cr D29.body)))))
def bSp := cr (cr (cr (cl bDv)))
def aWY (r0 r1 r10 : DV) (h : H) : aV := vK (dE 8 h.get r10) λ x1 => wK (aC E 53 [x1] h) λ x2 h3 => vK (aX 0 x2) λ x4 => vK (aX 1 x2) λ x5 => vK (dR x5 (ii 0)) λ x6 => bK x6 (some ((.tup [(ii 1), .nils]), h3)) (vK (aH r0) λ x7 => vK (aP 3 x7) λ x8 => vK (pU 16 1 x8 r1) λ x9 => vK (aO h3.get x9) λ x10 => vK (cG x10 (ii 1)) λ x11 => vK (aH r0) λ x12 => vK (aP 3 x12) λ x13 => vK (pU 16 1 x13 r1) λ x14 => wK (eU 1 x14 x11 h3) λ x15 h16 => vK (aH r0) λ x17 => vK (aP 1 x17) λ x18 => vK (aO h16.get x18) λ x19 => wK (aC E 55 [x19, x4] h16) λ x20 h21 => wK (aC E 54 [x20] h21) λ x22 h23 => vK (aX 0 x22) λ x24 => vK (aX 1 x22) λ x25 => vK (aX 2 x22) λ x26 => some ((.tup [x24, x25]), h23))
def aWX (E : bF) (i2 : DV → H → aV) (r44 : DV) (h : H) : aV := vK (cG r44 (ii 1)) λ x1 => i2 x1 h
def bSC (r0 r1 r3 r10 r42 r43 : DV) (i2 : DV → H → aV) (r44 : DV) (h : H) : aV := vK (bV r44 r43) λ x1 => bK x1 (vK (cW 1 r42 r44) λ x2 => vK (aO h.get x2) λ x3 => vK (bH r3) λ x4 => vK (bV r44 x4) λ x5 => bK x5 (vK (cW 1 r3 r44) λ x6 => vK (aO h.get x6) λ x7 => vK (aH x3) λ x8 => wK (eU 1 x8 x7 h) λ x9 h10 => aWX E i2 r44 h10) (aWX E i2 r44 h)) (aWY E r0 r1 r10 h)
def aKx (r0 r1 r3 r10 r42 r43 : DV) (n : Nat) : DV → H → aV := Nat.rec (motive := λ _ => DV → H → aV) (λ _ _ => none) (λ _ i => bSC E r0 r1 r3 r10 r42 r43 i) n
def bDf (r0 r1 r2 r3 : DV) (h : H) : aV := vK (dM .ptr false h.get r0 .nilp) λ x1 => aQ x1 false (λ kk => kk r1 h) h λ x2 h3 => aQ x1 false (λ kk => vK (bV x2 (ii 0)) λ v => kk v h3) h3 λ x4 h5 => vK (aN x1 (.bool true) x4) λ x6 => aQ x6 false (λ kk => kk r1 h5) h5 λ x7 h8 => aQ x6 false (λ kk => vK (fV x7 (ii 16)) λ v => kk v h8) h8 λ x9 h10 => vK (aN x6 (.bool true) x9) λ x11 => bK x11 (some ((.tup [(ii 1), .nils]), h10)) (vK (aH r0) λ x12 => vK (aP 3 x12) λ x13 => vK (pU 16 1 x13 r1) λ x14 => vK (aO h10.get x14) λ x15 => vK (dT [(ii 0), (ii 0), (ii 0), (ii 0), (ii 0), (ii 0), (ii 0), (ii 0)] [(0, 1, r1), (1, 1, x15), (2, 1, r2)]) λ x16 => jJ 8 8 (.list [(ii 0), (ii 0), (ii 0), (ii 0), (ii 0), (ii 0), (ii 0), (ii 0)]) h10 λ x17 h18 => wK (eU 8 x17 x16 h18) λ x19 h20 => vK (aP 3 x17) λ x21 => vK (aP 4 x17) λ x22 => vK (aP 5 x17) λ x23 => vK (aP 6 x17) λ x24 => vK (aP 7 x17) λ x25 => eX 5 1 [.nilp] [(0, 1, x21), (1, 1, x22), (2, 1, x23), (3, 1, x24), (4, 1, x25)] h20 λ x26 h27 => vK (bH x26) λ x28 => aKx E r0 r1 r3 x17 x26 x28 aT (ii 0) h27)
theorem bQa : Is E bSq (bQ D29.res) (λ σ h => aWY E (σ p0) (σ p1) (σ mJ) h) := Is.rf
abbrev bCF : iL (DV × H) := (cJ (λ σ h => aWY E (σ p0) (σ p1) (σ mJ) h) (bQ D29.res))
abbrev bNZ (n2 : Nat) : iL (DV × H) := (cJ (λ σ h => (aKx E (σ p0) (σ p1) (σ p3) (σ mJ) (σ p42) (σ p43) n2) (σ p44) h) (cE 0 (bCF E)))
theorem bPY (n2 : Nat) : Is E bSp (bNZ E n2) (λ σ h => aWX E (aKx E (σ p0) (σ p1) (σ p3) (σ mJ) (σ p42) (σ p43) n2) (σ p44) h) := Is.rf
theorem bPZ : Is E bDv (cE 0 (bCF E)) (λ σ h => aKx E (σ p0) (σ p1) (σ p3) (σ mJ) (σ p42) (σ p43) aT (σ p44) h) := Is.lp (λ n2 σ h => aKx E (σ p0) (σ p1) (σ p3) (σ mJ) (σ p42) (σ p43) n2 (σ p44) h) λ n2 => Is.aq (Is.sq (Is.sq (Is.sq (bPY E n2) (Is.leaf _)) (Is.leaf _)) (Is.leaf _))
theorem bQb : iB4 E D29 (bDf E) := Is.aq (Is.sq (Is.sq (Is.sq (Is.sq (bQa E) (Is.sq (Is.bk (bPZ E)) (Is.leaf _))) (Is.leaf _)) (Is.leaf _)) (Is.leaf _))
def S29 : bU := fA4 (bDf E)
theorem aVR : SQ D29 S29 := eB4 bQb
def D30 := cm 30
def bSo := cr (cr (cr (cr (cr (cr (cr D30.body))))))
def bSn := cl (cl (cr (cr (cr (cr (cr (cr D30.body)))))))
def aQH (r7 : DV) (h : H) : aV := wK (aC E 60 [r7, (.int .i64 (.negSucc 0))] h) λ x1 h2 => vK (aX 0 x1) λ x3 => vK (aX 1 x1) λ x4 => wK (aC E 61 [x3] h2) λ x5 h6 => eX 1 1 [(.str [])] [(0, 1, x5)] h6 λ x7 h8 => wK (cT 1 16 r7 x7 h8) λ x9 h10 => some ((.tup [x9, (ii 0)]), h10)
def aKU (r1 r9 : DV) (i2 : DV → H → aV) (r7 : DV) (h : H) : aV := vK (bH r7) λ x1 => vK (iX r1 (ii 1)) λ x2 => vK (bV x1 x2) λ x3 => bK x3 (eX 1 1 [(.str [])] [(0, 1, r9)] h λ x4 h5 => wK (cT 1 16 r7 x4 h5) λ x6 h7 => i2 x6 h7) (aQH E r7 h)
def aFS (r1 r9 : DV) (n : Nat) : DV → H → aV := Nat.rec (motive := λ _ => DV → H → aV) (λ _ _ => none) (λ _ i => aKU E r1 r9 i) n
def aQI (r0 r1 : DV) (h : H) : aV := wK (aC E 56 [r1] h) λ x1 h2 => vK (fH x1) λ x3 => bK x3 (some ((.tup [.nils, (ii 1)]), h2)) (vK (eO r0) λ x4 => wK (aC E 57 [x4, r1] h2) λ x5 h6 => vK (eO r0) λ x7 => vK (dS x7 (ii 65536)) λ x8 => aQ x8 false (λ kk => kk x5 h6) h6 λ x9 h10 => aQ x8 false (λ kk => vK (dS x9 (ii 512)) λ v => kk v h10) h10 λ x11 h12 => vK (aN x8 (.bool true) x11) λ x13 => bK x13 (some ((.tup [.nils, (ii 2)]), h12)) (vK (yP x5 (ii 1)) λ x14 => wK (aC E 58 [r0, x14] h12) λ x15 h16 => vK (aX 0 x15) λ x17 => vK (aX 1 x15) λ x18 => wK (aC E 59 [(.str []), x5] h16) λ x19 h20 => vK (aX 0 x19) λ x21 => vK (aX 1 x19) λ x22 => aFS E r1 x21 aT x17 h20))
theorem bPW : Is E bSo (bQ D30.res) (λ σ h => aQH E (σ p7) h) := Is.rf
abbrev bNY : iL (DV × H) := (cJ (λ σ h => aQH E (σ p7) h) (bQ D30.res))
theorem bPV : Is E bSn (cE 0 (bNY E)) (λ σ h => aFS E (σ p1) (σ p9) aT (σ p7) h) := Is.lp (λ n2 σ h => aFS E (σ p1) (σ p9) n2 (σ p7) h) λ n2 => Is.aq (Is.leaf _)
theorem bPX : mO E D30 (aQI E) := Is.aq (Is.sq (Is.sq (Is.sq (Is.sq (Is.sq (Is.sq (Is.sq (bPW E) (Is.bk (bPV E))) (Is.leaf _)) (Is.leaf _)) (Is.leaf _)) (Is.leaf _)) (Is.leaf _)) (Is.leaf _))
def S30 : bU := mD (aQI E)
theorem bFI : SQ D30 S30 := mZ bPX
def D31 := cm 31
def aQG (r0 r1 r2 r3 : DV) (h : H) : aV := vK (dM .ptr false h.get r0 .nilp) λ x1 => bK x1 (some ((ii 1), h)) (wK (aC E 62 [r0, r1, r2] h) λ x2 h3 => vK (aX 0 x2) λ x4 => vK (aX 1 x2) λ x5 => vK (fH x5) λ x6 => bK x6 (some ((ii 7), h3)) (vK (aH r0) λ x7 => vK (aP 0 x7) λ x8 => vK (aO h3.get x8) λ x9 => vK (dT [(ii 0), (ii 0)] [(0, 1, r1), (1, 1, r2)]) λ x10 => wK (aC E 63 [x9, x4, x10, r3] h3) λ x11 h12 => some (x11, h12)))
theorem bPU : iB4 E D31 (aQG E) := Is.rf
def S31 : bU := fA4 (aQG E)
theorem bFH : SQ D31 S31 := eB4 bPU
def D33 := cm 33
def aFY (E : bF) (r0 r1 : DV) (h : H) : aV := vK (dM .ptr false h.get r0 .nilp) λ x1 => aQ x1 false (λ kk => kk r1 h) h λ x2 h3 => aQ x1 false (λ kk => vK (bV x2 (ii 0)) λ v => kk v h3) h3 λ x4 h5 => vK (aN x1 (.bool true) x4) λ x6 => aQ x6 false (λ kk => kk r1 h5) h5 λ x7 h8 => aQ x6 false (λ kk => kk r0 h8) h8 λ x9 h10 => aQ x6 false (λ kk => vK (aH x9) λ v => kk v h10) h10 λ x11 h12 => aQ x6 false (λ kk => vK (aP 0 x11) λ v => kk v h12) h12 λ x13 h14 => aQ x6 false (λ kk => vK (aO h14.get x13) λ v => kk v h14) h14 λ x15 h16 => aQ x6 false (λ kk => vK (bH x15) λ v => kk v h16) h16 λ x17 h18 => aQ x6 false (λ kk => vK (fV x7 x17) λ v => kk v h18) h18 λ x19 h20 => vK (aN x6 (.bool true) x19) λ x21 => bK x21 (some (.nilp, h20)) (vK (aH r0) λ x22 => vK (aP 0 x22) λ x23 => vK (aO h20.get x23) λ x24 => vK (cW 1 x24 r1) λ x25 => vK (aO h20.get x25) λ x26 => some (x26, h20))
theorem bPT : mO E D33 (aFY E) := Is.rf
def S33 : bU := mD (aFY E)
theorem bFG : SQ D33 S33 := mZ bPT
def D34 := cm 34
def aQF (r0 r1 : DV) (h : H) : aV := vK (dM .ptr false h.get r0 .nilp) λ x1 => bK x1 (some ((.tup [.nilp, (ii 1)]), h)) (wK (aC E 41 [r0] h) λ x2 h3 => wK (aC E 65 [x2, r1] h3) λ x4 h5 => vK (aX 0 x4) λ x6 => vK (aX 1 x4) λ x7 => jJ 6 6 (.list [(ii 0), (ii 0), (ii 0), (ii 0), (ii 0), .nils]) h5 λ x8 h9 => wK (eU 6 x8 x6 h9) λ x10 h11 => vK (fH x7) λ x12 => aQ x12 false (λ kk => vK (aP 1 x8) λ v => kk v h11) h11 λ x13 h14 => aQ x12 false (λ kk => vK (aO h14.get x13) λ v => kk v h14) h14 λ x15 h16 => aQ x12 false (λ kk => vK (dR x15 (ii 2)) λ v => kk v h16) h16 λ x17 h18 => vK (aN x12 (.bool true) x17) λ x19 => bK x19 (some ((.tup [.nilp, (ii 7)]), h18)) (vK (aP 5 x8) λ x20 => vK (aO h18.get x20) λ x21 => vK (bH x21) λ x22 => vK (dE 6 h18.get x8) λ x23 => vK (aP 4 x8) λ x24 => vK (aO h18.get x24) λ x25 => kL 1 16 (.str []) x22 x22 h18 λ x26 h27 => kL 1 1 (.bool false) x22 x22 h27 λ x28 h29 => kL 1 1 (.bool false) x22 x22 h29 λ x30 h31 => wK (aC E 57 [x25, x22] h31) λ x32 h33 => rK (rcK (dE 6 h33.get x8) x23) <| vK (dT [.nilp, (ii 0), (ii 0), (ii 0), (ii 0), (ii 0), .nils, (ii 0), .nils, .nils, .nils] [(0, 1, r0), (1, 6, x23), (7, 1, x32), (8, 1, x26), (9, 1, x28), (10, 1, x30)]) λ x34 => dN x34 h33 λ x35 h36 => some ((.tup [x35, (ii 0)]), h36)))
theorem bPS : mO E D34 (aQF E) := Is.rf
def S34 : bU := mD (aQF E)
theorem bFF : SQ D34 S34 := mZ bPS
def D35 := cm 35
def bSm := cr (cr (cr (cr D35.body)))
def bSl := cl (cr (cl (cr (cr (cr D35.body)))))
def aKB (r0 : DV) (h : H) : aV := vK (aH r0) λ x1 => vK (aP 8 x1) λ x2 => vK (aO h.get x2) λ x3 => vK (aH r0) λ x4 => vK (aP 1 x4) λ x5 => vK (aP 4 x5) λ x6 => vK (aO h.get x6) λ x7 => wK (aC E 67 [x3, x7] h) λ x8 h9 => vK (aX 0 x8) λ x10 => vK (aX 1 x8) λ x11 => some ((.tup [x10, x11]), h9)
def aEl (r0 r12 r13 : DV) (i2 : DV → H → aV) (r14 : DV) (h : H) : aV := vK (bV r14 r13) λ x1 => bK x1 (vK (cW 1 r12 r14) λ x2 => vK (aO h.get x2) λ x3 => vK (aH r0) λ x4 => vK (aP 8 x4) λ x5 => vK (aO h.get x5) λ x6 => vK (aH r0) λ x7 => vK (aP 8 x7) λ x8 => vK (aO h.get x8) λ x9 => wK (aC E 66 [x9, x3] h) λ x10 h11 => rK (rcK (aO h11.get x5) x6) <| vK (aX 0 x10) λ x12 => vK (aX 1 x10) λ x13 => vK (cW 1 x6 x3) λ x14 => wK (eU 1 x14 x12 h11) λ x15 h16 => vK (cG r14 (ii 1)) λ x17 => i2 x17 h16) (aKB E r0 h)
def aFR (r0 r12 r13 : DV) (n : Nat) : DV → H → aV := Nat.rec (motive := λ _ => DV → H → aV) (λ _ _ => none) (λ _ i => aEl E r0 r12 r13 i) n
def aQE (r0 : DV) (h : H) : aV := wK (aC E 36 [r0] h) λ x1 h2 => vK (bH x1) λ x3 => vK (dS x3 (ii 1)) λ x4 => bK x4 (some ((.tup [(.str []), (ii 9)]), h2)) (vK (bH x1) λ x5 => aFR E r0 x1 x5 aT (ii 0) h2)
theorem bPQ : Is E bSm (bQ D35.res) (λ σ h => aKB E (σ p0) h) := Is.rf
abbrev bNX : iL (DV × H) := (cJ (λ σ h => aKB E (σ p0) h) (bQ D35.res))
theorem bPP : Is E bSl (cE 0 (bNX E)) (λ σ h => aFR E (σ p0) (σ uC) (σ tV) aT (σ xC) h) := Is.lp (λ n2 σ h => aFR E (σ p0) (σ uC) (σ tV) n2 (σ xC) h) λ n2 => Is.aq (Is.leaf _)
theorem bPR : nN E D35 (aQE E) := Is.aq (Is.sq (Is.sq (Is.sq (Is.sq (bPQ E) (Is.sq (Is.bk (bPP E)) (Is.leaf _))) (Is.leaf _)) (Is.leaf _)) (Is.leaf _))
def S35 : bU := nG (aQE E)
theorem bFE : SQ D35 S35 := nR bPR
def D36 := cm 36
def bSk := cr (cr (cr D36.body))
def bDu := cl (cr (cl (cr (cr D36.body))))
def bSj := cr (cr (cr (cl bDu)))
def aQC (E : bF) (r3 : DV) (h : H) : aV := some (r3, h)
def aQB (E : bF) (i2 : DV → DV → H → aV) (r3 r10 : DV) (h : H) : aV := vK (cG r10 (ii 1)) λ x1 => i2 r3 x1 h
def aKT (r0 r9 : DV) (i2 : DV → DV → H → aV) (r3 r10 : DV) (h : H) : aV := vK (bV r10 r9) λ x1 => bK x1 (wK (aC E 39 [r0, r10] h) λ x2 h3 => vK (fH x2) λ x4 => bK x4 (eX 1 1 [(ii 0)] [(0, 1, r10)] h3 λ x5 h6 => wK (cT 1 8 r3 x5 h6) λ x7 h8 => aQB E i2 x7 r10 h8) (aQB E i2 r3 r10 h3)) (aQC E r3 h)
def aBO (r0 r9 : DV) (n : Nat) : DV → DV → H → aV := Nat.rec (motive := λ _ => DV → DV → H → aV) (λ _ _ _ => none) (λ _ i => aKT E r0 r9 i) n
def aQD (r0 : DV) (h : H) : aV := vK (aH r0) λ x1 => vK (aP 8 x1) λ x2 => vK (aO h.get x2) λ x3 => vK (bH x3) λ x4 => aBO E r0 x4 aT .nils (ii 0) h
theorem bPN : Is E bSk (bQ D36.res) (λ σ h => aQC E (σ p3) h) := Is.rf
abbrev bCE : iL (DV × H) := (cJ (λ σ h => aQC E (σ p3) h) (bQ D36.res))
abbrev bNW (n2 : Nat) : iL (DV × H) := (cJ (λ σ h => (aBO E (σ p0) (σ p9) n2) (σ p3) (σ mJ) h) (cE 0 (bCE E)))
theorem bPL (n2 : Nat) : Is E bSj (bNW E n2) (λ σ h => aQB E (aBO E (σ p0) (σ p9) n2) (σ p3) (σ mJ) h) := Is.rf
theorem bPM : Is E bDu (cE 0 (bCE E)) (λ σ h => aBO E (σ p0) (σ p9) aT (σ p3) (σ mJ) h) := Is.lp (λ n2 σ h => aBO E (σ p0) (σ p9) n2 (σ p3) (σ mJ) h) λ n2 => Is.aq (Is.sq (Is.sq (Is.sq (bPL E n2) (Is.leaf _)) (Is.leaf _)) (Is.leaf _))
theorem bPO : nN E D36 (aQD E) := Is.aq (Is.sq (Is.sq (Is.sq (bPN E) (Is.sq (Is.bk (bPM E)) (Is.leaf _))) (Is.leaf _)) (Is.leaf _))
def S36 : bU := nG (aQD E)
theorem bFD : SQ D36 S36 := nR bPO
def D37 := cm 37
def aQA (r0 : DV) (h : H) : aV := vK (bH r0) λ x1 => wK (aC E 56 [x1] h) λ x2 h3 => vK (fH x2) λ x4 => bK x4 (some ((.bool false), h3)) (wK (aC E 60 [r0, (.int .i64 (.negSucc 0))] h3) λ x5 h6 => vK (aX 0 x5) λ x7 => vK (aX 1 x5) λ x8 => aQ x8 true (λ kk => kk x7 h6) h6 λ x9 h10 => aQ x8 true (λ kk => vK (aH x9) λ v => kk v h10) h10 λ x11 h12 => aQ x8 true (λ kk => vK (dE 513 h12.get x11) λ v => kk v h12) h12 λ x13 h14 => aQ x8 true (λ kk => kk x7 h14) h14 λ x15 h16 => aQ x8 true (λ kk => vK (aH x15) λ v => kk v h16) h16 λ x17 h18 => aQ x8 true (λ kk => vK (aP 512 x17) λ v => kk v h18) h18 λ x19 h20 => aQ x8 true (λ kk => vK (aO h20.get x19) λ v => kk v h20) h20 λ x21 h22 => aQ x8 true (λ kk => vK (dT (zR [(.int .u8 (.ofNat 0))] 512 ++ [(ii 0)]) [(512, 1, x21)]) λ v => kk v h22) h22 λ x23 h24 => aQ x8 true (λ kk => vK (uL false (.arr .int 0 512 (.leaf .int 512 .nil)) h24.get x13 x23) λ v => kk v h24) h24 λ x25 h26 => vK (aN x8 x25 (.bool false)) λ x27 => some (x27, h26))
theorem bPK : nN E D37 (aQA E) := Is.rf
def S37 : bU := nG (aQA E)
theorem bFC : SQ D37 S37 := nR bPK
def D38 := cm 38
def bSi := cr (cr (cr D38.body))
def bDt := cl (cr (cl (cr (cr D38.body))))
def bSh := cr (cr (cr (cl bDt)))
def aQy (E : bF) (r3 : DV) (h : H) : aV := some (r3, h)
def aQx (E : bF) (i2 : DV → DV → H → aV) (r3 r11 : DV) (h : H) : aV := vK (cG r11 (ii 1)) λ x1 => i2 r3 x1 h
def aKS (r9 r10 : DV) (i2 : DV → DV → H → aV) (r3 r11 : DV) (h : H) : aV := vK (bV r11 r10) λ x1 => bK x1 (vK (cW 1 r9 r11) λ x2 => vK (aO h.get x2) λ x3 => bK x3 (vK (cG r3 (ii 1)) λ x4 => aQx E i2 x4 r11 h) (aQx E i2 r3 r11 h)) (aQy E r3 h)
def aBN (r9 r10 : DV) (n : Nat) : DV → DV → H → aV := Nat.rec (motive := λ _ => DV → DV → H → aV) (λ _ _ _ => none) (λ _ i => aKS E r9 r10 i) n
def aQz (r0 : DV) (h : H) : aV := vK (aH r0) λ x1 => vK (aP 9 x1) λ x2 => vK (aO h.get x2) λ x3 => vK (bH x3) λ x4 => aBN E x3 x4 aT (ii 0) (ii 0) h
theorem bPI : Is E bSi (bQ D38.res) (λ σ h => aQy E (σ p3) h) := Is.rf
abbrev bCD : iL (DV × H) := (cJ (λ σ h => aQy E (σ p3) h) (bQ D38.res))
abbrev bNV (n2 : Nat) : iL (DV × H) := (cJ (λ σ h => (aBN E (σ p9) (σ mJ) n2) (σ p3) (σ tW) h) (cE 0 (bCD E)))
theorem bPG (n2 : Nat) : Is E bSh (bNV E n2) (λ σ h => aQx E (aBN E (σ p9) (σ mJ) n2) (σ p3) (σ tW) h) := Is.rf
theorem bPH : Is E bDt (cE 0 (bCD E)) (λ σ h => aBN E (σ p9) (σ mJ) aT (σ p3) (σ tW) h) := Is.lp (λ n2 σ h => aBN E (σ p9) (σ mJ) n2 (σ p3) (σ tW) h) λ n2 => Is.aq (Is.sq (Is.sq (Is.sq (bPG E n2) (Is.leaf _)) (Is.leaf _)) (Is.leaf _))
theorem bPJ : nN E D38 (aQz E) := Is.aq (Is.sq (Is.sq (Is.sq (bPI E) (Is.sq (Is.bk (bPH E)) (Is.leaf _))) (Is.leaf _)) (Is.leaf _))
def S38 : bU := nG (aQz E)
theorem bFB : SQ D38 S38 := nR bPJ
def D39 := cm 39
def bSg := cr (cr D39.body)
def aQv (E : bF) (r0 r1 : DV) (h : H) : aV := vK (aH r0) λ x1 => vK (aP 10 x1) λ x2 => vK (aO h.get x2) λ x3 => vK (cW 1 x3 r1) λ x4 => vK (aO h.get x4) λ x5 => some (x5, h)
def aQw (r0 r1 : DV) (h : H) : aV := vK (aH r0) λ x1 => vK (aP 9 x1) λ x2 => vK (aO h.get x2) λ x3 => vK (cW 1 x3 r1) λ x4 => vK (aO h.get x4) λ x5 => vK (fH x5) λ x6 => bK x6 (vK (aH r0) λ x7 => vK (aP 0 x7) λ x8 => vK (aO h.get x8) λ x9 => vK (aH r0) λ x10 => vK (aP 1 x10) λ x11 => vK (aP 0 x11) λ x12 => vK (aO h.get x12) λ x13 => wK (aC E 68 [x9, x13, r1] h) λ x14 h15 => vK (aX 0 x14) λ x16 => vK (aX 1 x14) λ x17 => vK (aH r0) λ x18 => vK (aP 8 x18) λ x19 => vK (aO h15.get x19) λ x20 => vK (aH r0) λ x21 => vK (aP 9 x21) λ x22 => vK (aO h15.get x22) λ x23 => vK (cW 1 x20 r1) λ x24 => wK (eU 1 x24 x16 h15) λ x25 h26 => vK (cW 1 x23 r1) λ x27 => wK (eU 1 x27 (.bool true) h26) λ x28 h29 => vK (aH r0) λ x30 => vK (aP 10 x30) λ x31 => vK (aO h29.get x31) λ x32 => vK (cU x17 (ii 0)) λ x33 => aQ x33 true (λ kk => kk x16 h29) h29 λ x34 h35 => aQ x33 true (λ kk => vK (eO x34) λ v => kk v h35) h35 λ x36 h37 => aQ x33 true (λ kk => kk r0 h37) h37 λ x38 h39 => aQ x33 true (λ kk => vK (aH x38) λ v => kk v h39) h39 λ x40 h41 => aQ x33 true (λ kk => vK (aP 7 x40) λ v => kk v h41) h41 λ x42 h43 => aQ x33 true (λ kk => vK (aO h43.get x42) λ v => kk v h43) h43 λ x44 h45 => aQ x33 true (λ kk => vK (cU x36 x44) λ v => kk v h45) h45 λ x46 h47 => vK (aN x33 x46 (.bool false)) λ x48 => vK (cW 1 x32 r1) λ x49 => wK (eU 1 x49 x48 h47) λ x50 h51 => aQv E r0 r1 h51) (aQv E r0 r1 h)
theorem bPE : Is E bSg (bQ D39.res) (λ σ h => aQv E (σ p0) (σ p1) h) := Is.rf
theorem bPF : mO E D39 (aQw E) := Is.aq (Is.sq (Is.sq (bPE E) (Is.leaf _)) (Is.leaf _))
def S39 : bU := mD (aQw E)
theorem bFA : SQ D39 S39 := mZ bPF
def D41 := cm 41
def aQu (E : bF) (r0 : DV) (h : H) : aV := vK (dM .ptr false h.get r0 .nilp) λ x1 => bK x1 (some (.nilp, h)) (vK (aH r0) λ x2 => vK (aP 1 x2) λ x3 => vK (aO h.get x3) λ x4 => some (x4, h))
theorem bPD : nN E D41 (aQu E) := Is.rf
def S41 : bU := nG (aQu E)
theorem aVQ : SQ D41 S41 := nR bPD
def D45 := cm 45
def bSf := cr (cr (cr (cr D45.body)))
def bSe := cl (cr (cl (cr (cr (cr D45.body)))))
def aWW (E : bF) (r3 : DV) (h : H) : aV := some (r3, h)
def aKR (r3 r4 r19 : DV) (i2 : DV → H → aV) (r20 : DV) (h : H) : aV := vK (bV r20 r19) λ x1 => bK x1 (vK (aH r3) λ x2 => vK (aP 0 x2) λ x3 => vK (aO h.get x3) λ x4 => vK (cW 1 x4 r20) λ x5 => wK (eU 1 x5 r4 h) λ x6 h7 => vK (cG r20 (ii 1)) λ x8 => i2 x8 h7) (aWW E r3 h)
def aFQ (r3 r4 r19 : DV) (n : Nat) : DV → H → aV := Nat.rec (motive := λ _ => DV → H → aV) (λ _ _ => none) (λ _ i => aKR E r3 r4 r19 i) n
def aQt (r0 : DV) (h : H) : aV := aBx h λ x1 h2 => vK (yP r0 (ii 1)) λ x3 => vK (aAt x3 (ii 4096)) λ x4 => kL 1 16 (.str []) x4 x4 h2 λ x5 h6 => vK (dT [.nils, .nilm, (.bool false)] [(1, 1, x1), (0, 1, x5)]) λ x7 => dN x7 h6 λ x8 h9 => kL 1 1 (.int .u8 (.ofNat 0)) (ii 64) (ii 64) h9 λ x10 h11 => vK (iQ h11.get x10) λ x12 => vK (aH x8) λ x13 => vK (aP 0 x13) λ x14 => vK (aO h11.get x14) λ x15 => vK (bH x15) λ x16 => aFQ E x8 x12 x16 aT (ii 0) h11
theorem bPB : Is E bSf (bQ D45.res) (λ σ h => aWW E (σ p3) h) := Is.rf
abbrev bNU : iL (DV × H) := (cJ (λ σ h => aWW E (σ p3) h) (bQ D45.res))
theorem bPA : Is E bSe (cE 0 (bNU E)) (λ σ h => aFQ E (σ p3) (σ p4) (σ p19) aT (σ p20) h) := Is.lp (λ n2 σ h => aFQ E (σ p3) (σ p4) (σ p19) n2 (σ p20) h) λ n2 => Is.aq (Is.leaf _)
theorem bPC : nN E D45 (aQt E) := Is.aq (Is.sq (Is.sq (Is.sq (Is.sq (bPB E) (Is.sq (Is.bk (bPA E)) (Is.leaf _))) (Is.leaf _)) (Is.leaf _)) (Is.leaf _))
def S45 : bU := nG (aQt E)
theorem bFz : SQ D45 S45 := nR bPC
def D46 := cm 46
def bSd := cr (cr (cr (cr (cr (cl (cr D46.body))))))
def aYw := cl (cr (cl (cr (cr (cr (cr (cl (cr D46.body))))))))
def bSc := cr (cr (cr (cl aYw)))
def bSb := cr (cr (cr (cr (cr (cl (cl (cr (cr (cl aYw)))))))))
def aKA (E : bF) (r6 : DV) (h : H) : aV := some ((.tup [r6, (ii 0)]), h)
def aQr (E : bF) (i2 : DV → H → aV) (r24 : DV) (h : H) : aV := vK (cG r24 (ii 1)) λ x1 => i2 x1 h
def aQq (i2 : DV → H → aV) (r6 r10 r24 : DV) (h : H) : aV := vK (aH r6) λ x1 => vK (aP 1 x1) λ x2 => vK (aO h.get x2) λ x3 => vK (dE 4 h.get r10) λ x4 => eX 1 4 [(.bool false), (ii 0), (ii 0), (ii 0)] [(0, 4, x4)] h λ x5 h6 => wK (cT 4 32 x3 x5 h6) λ x7 h8 => vK (aH r6) λ x9 => vK (aP 1 x9) λ x10 => wK (eU 1 x10 x7 h8) λ x11 h12 => aQr E i2 r24 h12
def aKQ (r0 r6 : DV) (i2 : DV → H → aV) (r24 : DV) (h : H) : aV := vK (bV r24 (ii 256)) λ x1 => bK x1 (vK (jP r24 (ii 9)) λ x2 => wK (aC E 73 [r0, x2, (ii 9)] h) λ x3 h4 => vK (aX 0 x3) λ x5 => vK (aX 1 x3) λ x6 => vK (cU x6 (ii 0)) λ x7 => bK x7 (wK (aC E 74 [x5] h4) λ x8 h9 => jJ 4 4 (.list [(.bool false), (ii 0), (ii 0), (ii 0)]) h9 λ x10 h11 => wK (eU 4 x10 x8 h11) λ x12 h13 => vK (aP 0 x10) λ x14 => vK (aO h13.get x14) λ x15 => aQ x15 true (λ kk => kk r6 h13) h13 λ x16 h17 => aQ x15 true (λ kk => vK (aP 1 x10) λ v => kk v h17) h17 λ x18 h19 => aQ x15 true (λ kk => vK (dE 2 h19.get x18) λ v => kk v h19) h19 λ x20 h21 => aQ x15 true (λ kk => wK (aC E 75 [x16, x20] h21) kk) h21 λ x22 h23 => aQ x15 true (λ kk => vK (fV x22 (ii 0)) λ v => kk v h23) h23 λ x24 h25 => vK (aN x15 x24 (.bool false)) λ x26 => bK x26 (vK (dT [(.bool false), (ii 0), (ii 0), (ii 0)] []) λ x27 => wK (eU 4 x10 x27 h25) λ x28 h29 => aQq E i2 r6 x10 r24 h29) (aQq E i2 r6 x10 r24 h25)) (vK (cU x6 (ii 5)) λ x30 => bK x30 (aKA E r6 h4) (some ((.tup [.nilp, x6]), h4)))) (aKA E r6 h)
def xI (r0 r6 : DV) (n : Nat) : DV → H → aV := Nat.rec (motive := λ _ => DV → H → aV) (λ _ _ => none) (λ _ i => aKQ E r0 r6 i) n
def aQs (r0 : DV) (h : H) : aV := vK (dM .ptr false h.get r0 .nilp) λ x1 => bK x1 (some ((.tup [.nilp, (ii 1)]), h)) (wK (aC E 73 [r0, (ii 0), (ii 1)] h) λ x2 h3 => vK (aX 0 x2) λ x4 => vK (aX 1 x2) λ x5 => vK (dR x5 (ii 0)) λ x6 => bK x6 (some ((.tup [.nilp, x5]), h3)) (vK (dT [.nilp, .nils, (.bool false)] [(0, 1, r0)]) λ x7 => dN x7 h3 λ x8 h9 => xI E r0 x8 aT (ii 0) h9))
theorem bPy : Is E bSd (yV (bQ D46.res)) (λ σ h => aKA E (σ p6) h) := Is.rf
abbrev bCC : iL (DV × H) := (cJ (λ σ h => aKA E (σ p6) h) (yV (bQ D46.res)))
abbrev bCB (n2 : Nat) : iL (DV × H) := (cJ (λ σ h => (xI E (σ p0) (σ p6) n2) (σ p24) h) (cE 0 (bCC E)))
theorem bPw (n2 : Nat) : Is E bSc (bCB E n2) (λ σ h => aQr E (xI E (σ p0) (σ p6) n2) (σ p24) h) := Is.rf
abbrev bNT (n2 : Nat) : iL (DV × H) := (cJ (λ σ h => aQr E (xI E (σ p0) (σ p6) n2) (σ p24) h) (bCB E n2))
theorem bPv (n2 : Nat) : Is E bSb (cE 1 (bNT E n2)) (λ σ h => aQq E (xI E (σ p0) (σ p6) n2) (σ p6) (σ mJ) (σ p24) h) := Is.rf
theorem bPx : Is E aYw (cE 0 (bCC E)) (λ σ h => xI E (σ p0) (σ p6) aT (σ p24) h) := Is.lp (λ n2 σ h => xI E (σ p0) (σ p6) n2 (σ p24) h) λ n2 => Is.aq (Is.sq (Is.sq (Is.sq (bPw E n2) (Is.bk (Is.sq (Is.sq (Is.sq (Is.sq (Is.sq (bPv E n2) (Is.leaf _)) (Is.leaf _)) (Is.leaf _)) (Is.leaf _)) (Is.leaf _)))) (Is.leaf _)) (Is.leaf _))
theorem bPz : nN E D46 (aQs E) := Is.aq (Is.sq (Is.sc (Is.sq (Is.sq (Is.sq (Is.sq (Is.sq (bPy E) (Is.sq (Is.bk (bPx E)) (Is.leaf _))) (Is.leaf _)) (Is.leaf _)) (Is.leaf _)) (Is.leaf _))) (Is.leaf _))
def S46 : bU := nG (aQs E)
theorem bFy : SQ D46 S46 := nR bPz
def D47 := cm 47
def bDe (r0 r1 : DV) (h : H) : aV := wK (aC E 76 [r0, r1] h) λ x1 h2 => vK (fH x1) λ x3 => bK x3 (some (.nilp, h2)) (wK (aC E 77 [r0] h2) λ x4 h5 => wK (aC E 77 [r1] h5) λ x6 h7 => vK (dT [.nils, .nils, (ii 0), (ii 0), (.bool false), (ii 0)] [(0, 1, x4), (1, 1, x6), (2, 1, (ii 1)), (3, 1, (.int .i64 (.negSucc 0))), (5, 1, (.int .i64 (.negSucc 0)))]) λ x8 => dN x8 h7 λ x9 h10 => some (x9, h10))
theorem bPu : mO E D47 (bDe E) := Is.rf
def S47 : bU := mD (bDe E)
theorem aVP : SQ D47 S47 := mZ bPu
def D48 := cm 48
def bDd (E : bF) (h : H) : aV := vK (dT [.nils, (ii 0)] []) λ x1 => dN x1 h λ x2 h3 => some (x2, h3)
theorem bPt : iB0 E D48 (bDd E) := Is.rf
def S48 : bU := fA0 (bDd E)
theorem aVO : SQ D48 S48 := eB0 bPt
def D49 := cm 49
def bDc (E : bF) (h : H) : aV := vK (dT (zR [(ii 0)] 1024 ++ []) []) λ x1 => dN x1 h λ x2 h3 => some (x2, h3)
theorem bPs : iB0 E D49 (bDc E) := Is.rf
def S49 : bU := fA0 (bDc E)
theorem aVN : SQ D49 S49 := eB0 bPs
def D50 := cm 50
def bDb (E : bF) (h : H) : aV := vK (dT [.nils] []) λ x1 => dN x1 h λ x2 h3 => some (x2, h3)
theorem bPr : iB0 E D50 (bDb E) := Is.rf
def S50 : bU := fA0 (bDb E)
theorem aVM : SQ D50 S50 := eB0 bPr
def D51 := cm 51
def bDa (E : bF) (h : H) : aV := aBx h λ x1 h2 => vK (dT [.nilm, (ii 0)] [(0, 1, x1)]) λ x3 => dN x3 h2 λ x4 h5 => some (x4, h5)
theorem bPq : iB0 E D51 (bDa E) := Is.rf
def S51 : bU := fA0 (bDa E)
theorem aVL : SQ D51 S51 := eB0 bPq
def D52 := cm 52
def bCZ (E : bF) (r0 : DV) (h : H) : aV := vK (yP r0 (ii 1)) λ x1 => vK (aAt x1 (ii 16)) λ x2 => aBx h λ x3 h4 => vK (dT [(ii 0), .nilm] [(0, 1, x2), (1, 1, x3)]) λ x5 => dN x5 h4 λ x6 h7 => some (x6, h7)
theorem bPp : nN E D52 (bCZ E) := Is.rf
def S52 : bU := nG (bCZ E)
theorem aVK : SQ D52 S52 := nR bPp
def D53 := cm 53
def bSa := cr (cr (cr (cr D53.body)))
def bRZ := cl (cr (cl (cr (cr (cr D53.body)))))
def aQo (r4 : DV) (h : H) : aV := wK (aC E 81 [r4] h) λ x1 h2 => vK (aX 0 x1) λ x3 => vK (aX 1 x1) λ x4 => some ((.tup [x3, x4]), h2)
def aKP (r4 r36 r37 : DV) (i2 : DV → H → aV) (r38 : DV) (h : H) : aV := vK (bV r38 r37) λ x1 => bK x1 (vK (cW 1 r36 r38) λ x2 => vK (aO h.get x2) λ x3 => vK (aH x3) λ x4 => vK (aO h.get x4) λ x5 => wK (aC E 80 [r4, x5] h) λ x6 h7 => vK (cG r38 (ii 1)) λ x8 => i2 x8 h7) (aQo E r4 h)
def aFP (r4 r36 r37 : DV) (n : Nat) : DV → H → aV := Nat.rec (motive := λ _ => DV → H → aV) (λ _ _ => none) (λ _ i => aKP E r4 r36 r37 i) n
def aQp (r0 : DV) (h : H) : aV := dN r0 h λ x1 h2 => vK (aP 0 x1) λ x3 => vK (aO h2.get x3) λ x4 => vK (bV x4 (ii 0)) λ x5 => aQ x5 false (λ kk => vK (aP 0 x1) λ v => kk v h2) h2 λ x6 h7 => aQ x5 false (λ kk => vK (aO h7.get x6) λ v => kk v h7) h7 λ x8 h9 => aQ x5 false (λ kk => vK (fV x8 (ii 16)) λ v => kk v h9) h9 λ x10 h11 => vK (aN x5 (.bool true) x10) λ x12 => aQ x12 false (λ kk => vK (aP 1 x1) λ v => kk v h11) h11 λ x13 h14 => aQ x12 false (λ kk => vK (aO h14.get x13) λ v => kk v h14) h14 λ x15 h16 => aQ x12 false (λ kk => vK (bV x15 (ii 0)) λ v => kk v h16) h16 λ x17 h18 => vK (aN x12 (.bool true) x17) λ x19 => aQ x19 false (λ kk => vK (aP 1 x1) λ v => kk v h18) h18 λ x20 h21 => aQ x19 false (λ kk => vK (aO h21.get x20) λ v => kk v h21) h21 λ x22 h23 => aQ x19 false (λ kk => vK (fV x22 (ii 2147483648)) λ v => kk v h23) h23 λ x24 h25 => vK (aN x19 (.bool true) x24) λ x26 => aQ x26 false (λ kk => vK (aP 2 x1) λ v => kk v h25) h25 λ x27 h28 => aQ x26 false (λ kk => vK (aO h28.get x27) λ v => kk v h28) h28 λ x29 h30 => aQ x26 false (λ kk => vK (bV x29 (ii 1)) λ v => kk v h30) h30 λ x31 h32 => vK (aN x26 (.bool true) x31) λ x33 => aQ x33 false (λ kk => vK (aP 2 x1) λ v => kk v h32) h32 λ x34 h35 => aQ x33 false (λ kk => vK (aO h35.get x34) λ v => kk v h35) h35 λ x36 h37 => aQ x33 false (λ kk => vK (dS x36 (ii 9)) λ v => kk v h37) h37 λ x38 h39 => vK (aN x33 (.bool true) x38) λ x40 => bK x40 (some ((.tup [(.str []), (ii 1)]), h39)) (wK (aC E 78 [(ii 65536)] h39) λ x41 h42 => wK (aC E 79 [x1] h42) λ x43 h44 => vK (bH x43) λ x45 => aFP E x41 x43 x45 aT (ii 0) h44)
theorem bPn : Is E bSa (bQ D53.res) (λ σ h => aQo E (σ p4) h) := Is.rf
abbrev bNQ : iL (DV × H) := (cJ (λ σ h => aQo E (σ p4) h) (bQ D53.res))
theorem bPm : Is E bRZ (cE 0 (bNQ E)) (λ σ h => aFP E (σ p4) (σ p36) (σ p37) aT (σ p38) h) := Is.lp (λ n2 σ h => aFP E (σ p4) (σ p36) (σ p37) n2 (σ p38) h) λ n2 => Is.aq (Is.leaf _)
theorem bPo : nN E D53 (aQp E) := Is.aq (Is.sq (Is.sq (Is.sq (Is.sq (bPn E) (Is.sq (Is.bk (bPm E)) (Is.leaf _))) (Is.leaf _)) (Is.leaf _)) (Is.leaf _))
def S53 : bU := nG (aQp E)
theorem aVJ : SQ D53 S53 := nR bPo
def D54 := cm 54
def bCY (r0 : DV) (h : H) : aV := wK (aC E 82 [r0] h) λ x1 h2 => wK (aC E 83 [x1] h2) λ x3 h4 => wK (aC E 84 [x1] h4) λ x5 h6 => wK (aC E 85 [x1] h6) λ x7 h8 => vK (dR x7 (ii 0)) λ x9 => bK x9 (some ((.tup [(ii 0), .nils, (ii 3)]), h8)) (some ((.tup [x3, x5, (ii 0)]), h8))
theorem bPl : nN E D54 (bCY E) := Is.rf
def S54 : bU := nG (bCY E)
theorem aVI : SQ D54 S54 := nR bPl
def D55 := cm 55
def bCX (r0 r1 : DV) (h : H) : aV := vK (dM .ptr false h.get r0 .nilp) λ x1 => bK x1 (wK (aC E 86 [.nils, (ii 1)] h) λ x2 h3 => some (x2, h3)) (wK (aC E 87 [r1] h) λ x4 h5 => vK (aX 0 x4) λ x6 => vK (aX 1 x4) λ x7 => jJ 8 8 (.list [(ii 0), (ii 0), (ii 0), (ii 0), (ii 0), (ii 0), (ii 0), (ii 0)]) h5 λ x8 h9 => wK (eU 8 x8 x6 h9) λ x10 h11 => vK (dR x7 (ii 0)) λ x12 => bK x12 (wK (aC E 86 [.nils, x7] h11) λ x13 h14 => some (x13, h14)) (vK (aH r0) λ x15 => vK (aP 5 x15) λ x16 => vK (aO h11.get x16) λ x17 => vK (aP 0 x8) λ x18 => vK (aO h11.get x18) λ x19 => vK (aP 1 x8) λ x20 => vK (aO h11.get x20) λ x21 => wK (aC E 88 [x17, x19, x21] h11) λ x22 h23 => vK (aX 0 x22) λ x24 => vK (aX 1 x22) λ x25 => vK (cU x24 (ii 2)) λ x26 => bK x26 (some (x25, h23)) (vK (cU x24 (ii 1)) λ x27 => bK x27 (vK (aP 2 x8) λ x28 => vK (aO h23.get x28) λ x29 => vK (dE 8 h23.get x8) λ x30 => wK (aC E 89 [x29] h23) λ x31 h32 => rK (rcK (dE 8 h32.get x8) x30) <| wK (lY E x31 [r0, x30] h32) λ x33 h34 => vK (aX 0 x33) λ x35 => vK (aX 1 x33) λ x36 => wK (aC E 86 [x35, x36] h34) λ x37 h38 => vK (aH r0) λ x39 => vK (aP 5 x39) λ x40 => vK (aO h38.get x40) λ x41 => vK (aP 0 x8) λ x42 => vK (aO h38.get x42) λ x43 => vK (aP 1 x8) λ x44 => vK (aO h38.get x44) λ x45 => wK (aC E 90 [x41, x43, x45, x37] h38) λ x46 h47 => some (x37, h47)) (wK (aC E 86 [.nils, (ii 16)] h23) λ x48 h49 => some (x48, h49)))))
theorem bPk : mO E D55 (bCX E) := Is.rf
def S55 : bU := mD (bCX E)
theorem aVH : SQ D55 S55 := mZ bPk
def D56 := cm 56
def aQn (E : bF) (r0 : DV) (h : H) : aV := vK (fV r0 (ii 2)) λ x1 => aQ x1 true (λ kk => kk r0 h) h λ x2 h3 => aQ x1 true (λ kk => vK (uJ x2 (ii 8)) λ v => kk v h3) h3 λ x4 h5 => vK (aN x1 x4 (.bool false)) λ x6 => some (x6, h5)
theorem bPj : nN E D56 (aQn E) := Is.rf
def S56 : bU := nG (aQn E)
theorem bFw : SQ D56 S56 := nR bPj
def D57 := cm 57
def aQm (r0 r1 : DV) (h : H) : aV := vK (bV r0 (ii 0)) λ x1 => aQ x1 false (λ kk => kk r0 h) h λ x2 h3 => aQ x1 false (λ kk => vK (dS x2 (ii 65536)) λ v => kk v h3) h3 λ x4 h5 => vK (aN x1 (.bool true) x4) λ x6 => aQ x6 false (λ kk => kk r1 h5) h5 λ x7 h8 => aQ x6 false (λ kk => wK (aC E 56 [x7] h8) kk) h8 λ x9 h10 => aQ x6 false (λ kk => vK (fH x9) λ v => kk v h10) h10 λ x11 h12 => vK (aN x6 (.bool true) x11) λ x13 => bK x13 (some ((ii 0), h12)) (vK (cG r0 r1) λ x14 => vK (iX x14 (ii 2)) λ x15 => vK (iX r1 (ii 1)) λ x16 => vK (aBi x15 x16) λ x17 => some (x17, h12))
theorem bPi : mO E D57 (aQm E) := Is.rf
def S57 : bU := mD (aQm E)
theorem bFv : SQ D57 S57 := mZ bPi
def D58 := cm 58
def bDs := cr (cr (cr (cr D58.body)))
def bRX := cr bDs
def bRY := cl (cl (cr (cr (cr D58.body))))
def aWT (E : bF) (r6 : DV) (h : H) : aV := some ((.tup [r6, (ii 0)]), h)
def aKy (r0 r1 r6 : DV) (h : H) : aV := vK (dR r0 (.str [])) λ x1 => bK x1 (vK (eO r0) λ x2 => vK (iX r1 x2) λ x3 => wK (aC E 91 [x3] h) λ x4 h5 => vK (cG r0 x4) λ x6 => eX 1 1 [(.str [])] [(0, 1, x6)] h5 λ x7 h8 => wK (cT 1 16 r6 x7 h8) λ x9 h10 => aWT E x9 h10) (aWT E r6 h)
def aKO (r1 : DV) (i2 : DV → DV → H → aV) (r0 r6 : DV) (h : H) : aV := vK (eO r0) λ x1 => vK (dS x1 r1) λ x2 => bK x2 (vK (iP r0 none (some r1)) λ x3 => eX 1 1 [(.str [])] [(0, 1, x3)] h λ x4 h5 => wK (cT 1 16 r6 x4 h5) λ x6 h7 => vK (iP r0 (some r1) none) λ x8 => i2 x8 x6 h7) (aKy E r0 r1 r6 h)
def aFO (r1 : DV) (n : Nat) : DV → DV → H → aV := Nat.rec (motive := λ _ => DV → DV → H → aV) (λ _ _ _ => none) (λ _ i => aKO E r1 i) n
def aQl (r0 r1 : DV) (h : H) : aV := vK (bV r1 (ii 1)) λ x1 => aQ x1 false (λ kk => kk r1 h) h λ x2 h3 => aQ x1 false (λ kk => vK (dS x2 (ii 65536)) λ v => kk v h3) h3 λ x4 h5 => vK (aN x1 (.bool true) x4) λ x6 => bK x6 (some ((.tup [.nils, (ii 1)]), h5)) (aFO E r1 aT r0 .nils h5)
theorem bPe : Is E bRX (bQ D58.res) (λ σ h => aWT E (σ p6) h) := Is.rf
theorem bPg : Is E bDs (bQ D58.res) (λ σ h => aKy E (σ p0) (σ p1) (σ p6) h) := Is.aq (Is.sq (bPe E) (Is.leaf _))
abbrev bNP : iL (DV × H) := (cJ (λ σ h => aKy E (σ p0) (σ p1) (σ p6) h) (bQ D58.res))
theorem bPf : Is E bRY (cE 0 (bNP E)) (λ σ h => aFO E (σ p1) aT (σ p0) (σ p6) h) := Is.lp (λ n2 σ h => aFO E (σ p1) n2 (σ p0) (σ p6) h) λ n2 => Is.aq (Is.leaf _)
theorem bPh : mO E D58 (aQl E) := Is.aq (Is.sq (Is.sq (Is.sq (Is.sq (bPg E) (Is.bk (bPf E))) (Is.leaf _)) (Is.leaf _)) (Is.leaf _))
def S58 : bU := mD (aQl E)
theorem bFu : SQ D58 S58 := mZ bPh
def D59 := cm 59
def aFX (r0 r1 : DV) (h : H) : aV := vK (bV r1 (ii 0)) λ x1 => aQ x1 false (λ kk => kk r1 h) h λ x2 h3 => aQ x1 false (λ kk => vK (dS x2 (ii 65536)) λ v => kk v h3) h3 λ x4 h5 => vK (aN x1 (.bool true) x4) λ x6 => bK x6 (some ((.tup [(.str []), (ii 1)]), h5)) (vK (eO r0) λ x7 => vK (dS x7 r1) λ x8 => bK x8 (some ((.tup [(.str []), (ii 2)]), h5)) (vK (eO r0) λ x9 => vK (iX r1 x9) λ x10 => wK (aC E 91 [x10] h5) λ x11 h12 => vK (cG r0 x11) λ x13 => some ((.tup [x13, (ii 0)]), h12)))
theorem bPd : mO E D59 (aFX E) := Is.rf
def S59 : bU := mD (aFX E)
theorem bFt : SQ D59 S59 := mZ bPd
def D60 := cm 60
def bRW := cr (cr (cr D60.body))
def bDr := cl (cr (cl (cr (cr D60.body))))
def bRV := cr (cr (cr (cl bDr)))
def aWS (E : bF) (r6 : DV) (h : H) : aV := some ((.tup [r6, (.bool true)]), h)
def aQj (E : bF) (i2 : DV → DV → H → aV) (r7 r14 : DV) (h : H) : aV := vK (cG r14 (ii 1)) λ x1 => i2 r7 x1 h
def aKN (r1 r6 r12 r13 : DV) (i2 : DV → DV → H → aV) (r7 r14 : DV) (h : H) : aV := vK (bV r14 r13) λ x1 => bK x1 (vK (cW 1 r12 r14) λ x2 => vK (aO h.get x2) λ x3 => vK (cU r14 r1) λ x4 => bK x4 (aQj E i2 r7 r14 h) (wK (aC E 92 [r6, x3, r7] h) λ x5 h6 => vK (fH x5) λ x7 => bK x7 (some ((.tup [.nilp, (.bool false)]), h6)) (aQj E i2 (.bool false) r14 h6))) (aWS E r6 h)
def aAj (r1 r6 r12 r13 : DV) (n : Nat) : DV → DV → H → aV := Nat.rec (motive := λ _ => DV → DV → H → aV) (λ _ _ _ => none) (λ _ i => aKN E r1 r6 r12 r13 i) n
def aQk (r0 r1 : DV) (h : H) : aV := vK (dT (zR [(.int .u8 (.ofNat 0))] 512 ++ [(ii 0)]) []) λ x1 => dN x1 h λ x2 h3 => vK (bH r0) λ x4 => aAj E r1 x2 r0 x4 aT (.bool true) (ii 0) h3
theorem bPb : Is E bRW (bQ D60.res) (λ σ h => aWS E (σ p6) h) := Is.rf
abbrev bCA : iL (DV × H) := (cJ (λ σ h => aWS E (σ p6) h) (bQ D60.res))
abbrev bNO (n2 : Nat) : iL (DV × H) := (cJ (λ σ h => (aAj E (σ p1) (σ p6) (σ uC) (σ tV) n2) (σ p7) (σ xC) h) (cE 0 (bCA E)))
theorem bOZ (n2 : Nat) : Is E bRV (bNO E n2) (λ σ h => aQj E (aAj E (σ p1) (σ p6) (σ uC) (σ tV) n2) (σ p7) (σ xC) h) := Is.rf
theorem bPa : Is E bDr (cE 0 (bCA E)) (λ σ h => aAj E (σ p1) (σ p6) (σ uC) (σ tV) aT (σ p7) (σ xC) h) := Is.lp (λ n2 σ h => aAj E (σ p1) (σ p6) (σ uC) (σ tV) n2 (σ p7) (σ xC) h) λ n2 => Is.aq (Is.sq (Is.sq (Is.sq (bOZ E n2) (Is.leaf _)) (Is.leaf _)) (Is.leaf _))
theorem bPc : mO E D60 (aQk E) := Is.aq (Is.sq (Is.sq (Is.sq (bPb E) (Is.sq (Is.bk (bPa E)) (Is.leaf _))) (Is.leaf _)) (Is.leaf _))
def S60 : bU := mD (aQk E)
theorem bFs : SQ D60 S60 := mZ bPc
def D61 := cm 61
def aQi (E : bF) (r0 : DV) (h : H) : aV := vK (aH r0) λ x1 => vK (aP 0 x1) λ x2 => vK (aH r0) λ x3 => vK (aP 512 x3) λ x4 => vK (aO h.get x4) λ x5 => vK (aCy 512 1 x2 none (some x5)) λ x6 => vK (iQ h.get x6) λ x7 => some (x7, h)
theorem bOY : nN E D61 (aQi E) := Is.rf
def S61 : bU := nG (aQi E)
theorem bFr : SQ D61 S61 := nR bOY
def D62 := cm 62
def bCW (r0 r1 r2 : DV) (h : H) : aV := vK (aH r0) λ x1 => vK (aP 1 x1) λ x2 => vK (aO h.get x2) λ x3 => wK (aC E 65 [x3, r1] h) λ x4 h5 => vK (aX 0 x4) λ x6 => vK (aX 1 x4) λ x7 => jJ 6 6 (.list [(ii 0), (ii 0), (ii 0), (ii 0), (ii 0), .nils]) h5 λ x8 h9 => wK (eU 6 x8 x6 h9) λ x10 h11 => vK (fH x7) λ x12 => bK x12 (some ((.tup [(ii 0), (.bool false)]), h11)) (vK (aP 5 x8) λ x13 => vK (aO h11.get x13) λ x14 => wK (aC E 93 [x14, r1, r2] h11) λ x15 h16 => vK (aX 0 x15) λ x17 => vK (aX 1 x15) λ x18 => vK (cU x18 (ii 0)) λ x19 => some ((.tup [x17, x19]), h16))
theorem bOX : iB3 E D62 (bCW E) := Is.rf
def S62 : bU := fA3 (bCW E)
theorem aVG : SQ D62 S62 := eB3 bOX
def D63 := cm 63
def bCV (E : bF) (r2 : DV) (h : H) : aV := dN r2 h λ x1 h2 => jJ 1 1 (.list [(ii 0)]) h2 λ x3 h4 => none
theorem bOW : iB4 E D63 (λ _ _ r2 _ h => bCV E r2 h) := Is.rf
def S63 : bU := fA4 (λ _ _ r2 _ h => bCV E r2 h)
theorem bFq : SQ D63 S63 := eB4 bOW
def D65 := cm 65
def bCU (r0 r1 : DV) (h : H) : aV := jJ 6 6 (.list [(ii 0), (ii 0), (ii 0), (ii 0), (ii 0), .nils]) h λ x1 h2 => vK (dM .ptr false h2.get r0 .nilp) λ x3 => bK x3 (vK (dT [(ii 0), (ii 0), (ii 0), (ii 0), (ii 0), .nils] []) λ x4 => wK (eU 6 x1 x4 h2) λ x5 h6 => vK (dE 6 h6.get x1) λ x7 => some ((.tup [x7, (.bool false)]), h6)) (vK (aH r0) λ x8 => vK (aP 1 x8) λ x9 => vK (aO h2.get x9) λ x10 => wK (aC E 100 [x10, r1] h2) λ x11 h12 => vK (aX 0 x11) λ x13 => vK (aX 1 x11) λ x14 => wK (eU 6 x1 x13 h12) λ x15 h16 => vK (dE 6 h16.get x1) λ x17 => some ((.tup [x17, x14]), h16))
theorem bOV : mO E D65 (bCU E) := Is.rf
def S65 : bU := mD (bCU E)
theorem aVF : SQ D65 S65 := mZ bOV
def D66 := cm 66
def aQh (r0 r1 : DV) (h : H) : aV := vK (bH r0) λ x1 => wK (aC E 56 [x1] h) λ x2 h3 => vK (fH x2) λ x4 => aQ x4 false (λ kk => kk r1 h3) h3 λ x5 h6 => aQ x4 false (λ kk => vK (bV x5 (ii 0)) λ v => kk v h6) h6 λ x7 h8 => vK (aN x4 (.bool true) x7) λ x9 => aQ x9 false (λ kk => kk r1 h8) h8 λ x10 h11 => aQ x9 false (λ kk => kk r0 h11) h11 λ x12 h13 => aQ x9 false (λ kk => vK (bH x12) λ v => kk v h13) h13 λ x14 h15 => aQ x9 false (λ kk => vK (fV x10 x14) λ v => kk v h15) h15 λ x16 h17 => vK (aN x9 (.bool true) x16) λ x18 => bK x18 (some ((.tup [(.str []), (ii 1)]), h17)) (wK (aC E 60 [r0, r1] h17) λ x19 h20 => vK (aX 0 x19) λ x21 => vK (aX 1 x19) λ x22 => vK (fH x22) λ x23 => bK x23 (some ((.tup [(.str []), (ii 2)]), h20)) (wK (aC E 61 [x21] h20) λ x24 h25 => some ((.tup [x24, (ii 0)]), h25)))
theorem bOU : mO E D66 (aQh E) := Is.rf
def S66 : bU := mD (aQh E)
theorem bFp : SQ D66 S66 := mZ bOU
def D67 := cm 67
def bRU := cr (cr (cr (cr (cr (cr D67.body)))))
def bRT := cl (cr (cl (cr (cr (cr (cr (cr D67.body)))))))
def aQf (E : bF) (r1 r7 : DV) (h : H) : aV := vK (fQ 1 r7 none (some r1)) λ x1 => vK (iQ h.get x1) λ x2 => some ((.tup [x2, (ii 0)]), h)
def aKM (r1 r6 r33 r34 : DV) (i2 : DV → DV → H → aV) (r7 r35 : DV) (h : H) : aV := vK (bV r35 r34) λ x1 => bK x1 (vK (cW 1 r33 r35) λ x2 => vK (aO h.get x2) λ x3 => vK (eO x3) λ x4 => vK (dR x4 r6) λ x5 => bK x5 (some ((.tup [(.str []), (ii 2)]), h)) (wK (cT 1 1 r7 x3 h) λ x6 h7 => vK (cG r35 (ii 1)) λ x8 => i2 x6 x8 h7)) (aQf E r1 r7 h)
def aFN (r1 r6 r33 r34 : DV) (n : Nat) : DV → DV → H → aV := Nat.rec (motive := λ _ => DV → DV → H → aV) (λ _ _ _ => none) (λ _ i => aKM E r1 r6 r33 r34 i) n
def aQg (r0 r1 : DV) (h : H) : aV := vK (bH r0) λ x1 => wK (aC E 56 [x1] h) λ x2 h3 => vK (fH x2) λ x4 => bK x4 (some ((.tup [(.str []), (ii 1)]), h3)) (vK (bH r0) λ x5 => wK (aC E 57 [r1, x5] h3) λ x6 h7 => vK (bV r1 (ii 0)) λ x8 => aQ x8 false (λ kk => kk r1 h7) h7 λ x9 h10 => aQ x8 false (λ kk => vK (dS x9 (ii 65536)) λ v => kk v h10) h10 λ x11 h12 => vK (aN x8 (.bool true) x11) λ x13 => aQ x13 false (λ kk => kk x6 h12) h12 λ x14 h15 => aQ x13 false (λ kk => vK (dS x14 (ii 512)) λ v => kk v h15) h15 λ x16 h17 => vK (aN x13 (.bool true) x16) λ x18 => bK x18 (some ((.tup [(.str []), (ii 2)]), h17)) (vK (bH r0) λ x19 => vK (jP x6 x19) λ x20 => kL 1 1 (.int .u8 (.ofNat 0)) (ii 0) x20 h17 λ x21 h22 => vK (bH r0) λ x23 => aFN E r1 x6 r0 x23 aT x21 (ii 0) h22))
theorem bOS : Is E bRU (bQ D67.res) (λ σ h => aQf E (σ p1) (σ p7) h) := Is.rf
abbrev bNN : iL (DV × H) := (cJ (λ σ h => aQf E (σ p1) (σ p7) h) (bQ D67.res))
theorem bOR : Is E bRT (cE 0 (bNN E)) (λ σ h => aFN E (σ p1) (σ p6) (σ p33) (σ p34) aT (σ p7) (σ p35) h) := Is.lp (λ n2 σ h => aFN E (σ p1) (σ p6) (σ p33) (σ p34) n2 (σ p7) (σ p35) h) λ n2 => Is.aq (Is.leaf _)
theorem bOT : mO E D67 (aQg E) := Is.aq (Is.sq (Is.sq (Is.sq (Is.sq (Is.sq (Is.sq (bOS E) (Is.sq (Is.bk (bOR E)) (Is.leaf _))) (Is.leaf _)) (Is.leaf _)) (Is.leaf _)) (Is.leaf _)) (Is.leaf _))
def S67 : bU := mD (aQg E)
theorem bFo : SQ D67 S67 := mZ bOT
def D68 := cm 68
def aQe (r0 r1 r2 : DV) (h : H) : aV := vK (dM .ptr false h.get r0 .nilp) λ x1 => bK x1 (some ((.tup [(.str []), (ii 1)]), h)) (wK (aC E 62 [r0, r1, r2] h) λ x2 h3 => vK (aX 0 x2) λ x4 => vK (aX 1 x2) λ x5 => vK (fH x5) λ x6 => bK x6 (some ((.tup [(.str []), (ii 7)]), h3)) (vK (aH r0) λ x7 => vK (aP 0 x7) λ x8 => vK (aO h3.get x8) λ x9 => vK (dT [(ii 0), (ii 0)] [(0, 1, r1), (1, 1, r2)]) λ x10 => wK (aC E 101 [x9, x4, x10] h3) λ x11 h12 => vK (aX 0 x11) λ x13 => vK (aX 1 x11) λ x14 => some ((.tup [x13, x14]), h12)))
theorem bOQ : iB3 E D68 (aQe E) := Is.rf
def S68 : bU := fA3 (aQe E)
theorem bFn : SQ D68 S68 := eB3 bOQ
def D72 := cm 72
def bCT (r0 r1 : DV) (h : H) : aV := wK (aC E 106 [r0, r1] h) λ x1 h2 => vK (fV x1 (ii 0)) λ x3 => some (x3, h2)
theorem bOP : mO E D72 (bCT E) := Is.rf
def S72 : bU := mD (bCT E)
theorem aVE : SQ D72 S72 := mZ bOP
def D73 := cm 73
def bRS := cr (cr (cr (cr D73.body)))
def bRR := cl (cr (cl (cr (cr (cr D73.body)))))
def aQd (E : bF) (r9 : DV) (h : H) : aV := vK (iQ h.get r9) λ x1 => some ((.tup [x1, (ii 0)]), h)
def aKL (r30 r31 : DV) (i2 : DV → DV → H → aV) (r9 r32 : DV) (h : H) : aV := vK (bV r32 r31) λ x1 => bK x1 (vK (cW 1 r30 r32) λ x2 => vK (aO h.get x2) λ x3 => wK (cT 1 1 r9 x3 h) λ x4 h5 => vK (cG r32 (ii 1)) λ x6 => i2 x4 x6 h5) (aQd E r9 h)
def aFM (r30 r31 : DV) (n : Nat) : DV → DV → H → aV := Nat.rec (motive := λ _ => DV → DV → H → aV) (λ _ _ _ => none) (λ _ i => aKL E r30 r31 i) n
def aFW (r0 r1 r2 : DV) (h : H) : aV := wK (aC E 107 [r0, r1, r2, (.bool true)] h) λ x1 h2 => vK (dR x1 (ii 0)) λ x3 => bK x3 (some ((.tup [(.str []), x1]), h2)) (vK (jP r2 (ii 64)) λ x4 => kL 1 1 (.int .u8 (.ofNat 0)) (ii 0) x4 h2 λ x5 h6 => vK (aH r0) λ x7 => vK (aP 0 x7) λ x8 => vK (aO h6.get x8) λ x9 => vK (cG r1 r2) λ x10 => vK (fQ 1 x9 (some r1) (some x10)) λ x11 => vK (bH x11) λ x12 => aFM E x11 x12 aT x5 (ii 0) h6)
theorem bON : Is E bRS (bQ D73.res) (λ σ h => aQd E (σ p9) h) := Is.rf
abbrev bNM : iL (DV × H) := (cJ (λ σ h => aQd E (σ p9) h) (bQ D73.res))
theorem bOM : Is E bRR (cE 0 (bNM E)) (λ σ h => aFM E (σ p30) (σ p31) aT (σ p9) (σ p32) h) := Is.lp (λ n2 σ h => aFM E (σ p30) (σ p31) n2 (σ p9) (σ p32) h) λ n2 => Is.aq (Is.leaf _)
theorem bOO : iB3 E D73 (aFW E) := Is.aq (Is.sq (Is.sq (Is.sq (Is.sq (bON E) (Is.sq (Is.bk (bOM E)) (Is.leaf _))) (Is.leaf _)) (Is.leaf _)) (Is.leaf _))
def S73 : bU := fA3 (aFW E)
theorem bFm : SQ D73 S73 := eB3 bOO
def D74 := cm 74
def aQc (r0 : DV) (h : H) : aV := jJ 4 4 (.list [(.bool false), (ii 0), (ii 0), (ii 0)]) h λ x1 h2 => vK (iP r0 none (some (ii 64))) λ x3 => vK (iP r0 (some (ii 64)) none) λ x4 => vK (iP x3 (some (ii 4)) none) λ x5 => vK (iP x3 (some (ii 8)) none) λ x6 => vK (iP x3 (some (ii 12)) none) λ x7 => jJ 4 4 (.list [(.bool false), (ii 0), (ii 0), (ii 0)]) h2 λ x8 h9 => wK (aC E 108 [x5] h9) λ x10 h11 => wK (aC E 108 [x6] h11) λ x12 h13 => vK (dT [(ii 0), (ii 0)] [(0, 1, x10), (1, 1, x12)]) λ x14 => wK (aC E 108 [x7] h13) λ x15 h16 => vK (dT [(.bool false), (ii 0), (ii 0), (ii 0)] [(0, 1, (.bool true)), (1, 2, x14), (3, 1, x15)]) λ x17 => wK (eU 4 x8 x17 h16) λ x18 h19 => vK (aP 1 x8) λ x20 => vK (dE 2 h19.get x20) λ x21 => wK (aC E 109 [x21] h19) λ x22 h23 => vK (fH x22) λ x24 => aQ x24 false (λ kk => vK (aP 3 x8) λ v => kk v h23) h23 λ x25 h26 => aQ x24 false (λ kk => vK (aO h26.get x25) λ v => kk v h26) h26 λ x27 h28 => aQ x24 false (λ kk => vK (dS x27 (ii 512)) λ v => kk v h28) h28 λ x29 h30 => vK (aN x24 (.bool true) x29) λ x31 => aQ x31 false (λ kk => vK (aP 1 x8) λ v => kk v h30) h30 λ x32 h33 => aQ x31 false (λ kk => vK (dE 2 h33.get x32) λ v => kk v h33) h33 λ x34 h35 => aQ x31 false (λ kk => kk x4 h35) h35 λ x36 h37 => aQ x31 false (λ kk => vK (aP 3 x8) λ v => kk v h37) h37 λ x38 h39 => aQ x31 false (λ kk => vK (aO h39.get x38) λ v => kk v h39) h39 λ x40 h41 => aQ x31 false (λ kk => vK (iP x36 none (some x40)) λ v => kk v h41) h41 λ x42 h43 => aQ x31 false (λ kk => kk x3 h43) h43 λ x44 h45 => aQ x31 false (λ kk => wK (aC E 110 [x34, x42] h45) kk) h45 λ x46 h47 => aQ x31 false (λ kk => vK (dR x46 x44) λ v => kk v h47) h47 λ x48 h49 => vK (aN x31 (.bool true) x48) λ x50 => bK x50 (vK (dT [(.bool false), (ii 0), (ii 0), (ii 0)] []) λ x51 => wK (eU 4 x1 x51 h49) λ x52 h53 => vK (dE 4 h53.get x1) λ x54 => some (x54, h53)) (vK (dE 4 h49.get x8) λ x55 => wK (eU 4 x1 x55 h49) λ x56 h57 => vK (dE 4 h57.get x1) λ x58 => some (x58, h57))
theorem bOL : nN E D74 (aQc E) := Is.rf
def S74 : bU := nG (aQc E)
theorem bFl : SQ D74 S74 := nR bOL
def D75 := cm 75
def aQb (r0 r1 : DV) (h : H) : aV := dN r1 h λ x1 h2 => vK (aH r0) λ x3 => vK (aP 1 x3) λ x4 => vK (aO h2.get x4) λ x5 => wK (aC E 111 [x5, (.fn (.func 112) [] [x1])] h2) λ x6 h7 => some (x6, h7)
theorem bOK : mO E D75 (aQb E) := Is.rf
def S75 : bU := mD (aQb E)
theorem bFk : SQ D75 S75 := mZ bOK
def D76 := cm 76
def bCS (r0 r1 : DV) (h : H) : aV := vK (bH r0) λ x1 => vK (fV x1 (ii 2)) λ x2 => aQ x2 true (λ kk => kk r0 h) h λ x3 h4 => aQ x2 true (λ kk => vK (bH x3) λ v => kk v h4) h4 λ x5 h6 => aQ x2 true (λ kk => vK (uJ x5 (ii 8)) λ v => kk v h6) h6 λ x7 h8 => vK (aN x2 x7 (.bool false)) λ x9 => aQ x9 true (λ kk => kk r0 h8) h8 λ x10 h11 => aQ x9 true (λ kk => kk r1 h11) h11 λ x12 h13 => aQ x9 true (λ kk => eX 2 1 [.nils] [(0, 1, x10), (1, 1, x12)] h13 kk) h13 λ x14 h15 => aQ x9 true (λ kk => wK (aC E 113 [x14] h15) kk) h15 λ x16 h17 => vK (aN x9 x16 (.bool false)) λ x18 => some (x18, h17)
theorem bOJ : mO E D76 (bCS E) := Is.rf
def S76 : bU := mD (bCS E)
theorem aVD : SQ D76 S76 := mZ bOJ
def D77 := cm 77
def bCR (E : bF) (r0 : DV) (h : H) : aV := vK (bH r0) λ x1 => kL 1 8 (ii 0) x1 x1 h λ x2 h3 => wK (lF 1 x2 r0 h3) λ x4 h5 => some (x2, h5)
theorem bOI : nN E D77 (bCR E) := Is.rf
def S77 : bU := nG (bCR E)
theorem aVC : SQ D77 S77 := nR bOI
def D78 := cm 78
def aQa (E : bF) (r0 : DV) (h : H) : aV := vK (yP r0 (ii 0)) λ x1 => vK (aAt x1 (ii 65536)) λ x2 => vK (dT [(ii 0), .nils, (ii 0)] [(0, 1, x2)]) λ x3 => dN x3 h λ x4 h5 => some (x4, h5)
theorem bOH : nN E D78 (aQa E) := Is.rf
def S78 : bU := nG (aQa E)
theorem aVB : SQ D78 S78 := nR bOH
def D79 := cm 79
def aPZ (E : bF) (r0 : DV) (h : H) : aV := vK (aH r0) λ x1 => vK (aP 0 x1) λ x2 => vK (aH r0) λ x3 => vK (aP 1 x3) λ x4 => vK (aH r0) λ x5 => vK (aP 2 x5) λ x6 => vK (aH r0) λ x7 => vK (aP 3 x7) λ x8 => vK (aH r0) λ x9 => vK (aP 4 x9) λ x10 => vK (aH r0) λ x11 => vK (aP 5 x11) λ x12 => vK (aH r0) λ x13 => vK (aP 6 x13) λ x14 => vK (aH r0) λ x15 => vK (aP 7 x15) λ x16 => eX 8 1 [.nilp] [(0, 1, x2), (1, 1, x4), (2, 1, x6), (3, 1, x8), (4, 1, x10), (5, 1, x12), (6, 1, x14), (7, 1, x16)] h λ x17 h18 => some (x17, h18)
theorem bOG : nN E D79 (aPZ E) := Is.rf
def S79 : bU := nG (aPZ E)
theorem aVA : SQ D79 S79 := nR bOG
def D80 := cm 80
def aPY (r0 r1 : DV) (h : H) : aV := dN r1 h λ x1 h2 => wK (aC E 114 [r0, (.fn (.func 115) [] [x1])] h2) λ x3 h4 => some ((.tup []), h4)
theorem bOF : mO E D80 (aPY E) := Is.rf
def S80 : bU := mD (aPY E)
theorem aVz : SQ D80 S80 := mZ bOF
def D81 := cm 81
def aPX (E : bF) (r0 : DV) (h : H) : aV := vK (dM .ptr false h.get r0 .nilp) λ x1 => bK x1 (some ((.tup [(.str []), (ii 1)]), h)) (vK (aH r0) λ x2 => vK (aP 2 x2) λ x3 => vK (aO h.get x3) λ x4 => vK (dR x4 (ii 0)) λ x5 => bK x5 (vK (aH r0) λ x6 => vK (aP 2 x6) λ x7 => vK (aO h.get x7) λ x8 => some ((.tup [(.str []), x8]), h)) (vK (aH r0) λ x9 => vK (aP 1 x9) λ x10 => vK (aO h.get x10) λ x11 => vK (iQ h.get x11) λ x12 => some ((.tup [x12, (ii 0)]), h)))
theorem bOE : nN E D81 (aPX E) := Is.rf
def S81 : bU := nG (aPX E)
theorem aVy : SQ D81 S81 := nR bOE
def D82 := cm 82
def aPW (E : bF) (r0 : DV) (h : H) : aV := vK (dT [(.str []), (.bool false)] [(0, 1, r0)]) λ x1 => dN x1 h λ x2 h3 => some (x2, h3)
theorem bOD : nN E D82 (aPW E) := Is.rf
def S82 : bU := nG (aPW E)
theorem aVx : SQ D82 S82 := nR bOD
def D83 := cm 83
def bCQ (r0 : DV) (h : H) : aV := wK (aC E 117 [r0, (ii 1)] h) λ x1 h2 => vK (aX 0 x1) λ x3 => vK (aX 1 x1) λ x4 => bK x4 (vK (oV x3 (ii 0)) λ x5 => vK (dF .i64 x5) λ x6 => some (x6, h2)) (some ((ii 0), h2))
theorem bOC : nN E D83 (bCQ E) := Is.rf
def S83 : bU := nG (bCQ E)
theorem aVw : SQ D83 S83 := nR bOC
def D84 := cm 84
def bCP (r0 : DV) (h : H) : aV := wK (aC E 119 [r0, (.fn (.func 118) [r0] [])] h) λ x1 h2 => some (x1, h2)
theorem bOB : nN E D84 (bCP E) := Is.rf
def S84 : bU := nG (bCP E)
theorem aVv : SQ D84 S84 := nR bOB
def D85 := cm 85
def aPV (E : bF) (r0 : DV) (h : H) : aV := vK (dM .ptr false h.get r0 .nilp) λ x1 => bK x1 (some ((ii 1), h)) (vK (aH r0) λ x2 => vK (aP 1 x2) λ x3 => vK (aO h.get x3) λ x4 => aQ x4 false (λ kk => kk r0 h) h λ x5 h6 => aQ x4 false (λ kk => vK (aH x5) λ v => kk v h6) h6 λ x7 h8 => aQ x4 false (λ kk => vK (aP 0 x7) λ v => kk v h8) h8 λ x9 h10 => aQ x4 false (λ kk => vK (aO h10.get x9) λ v => kk v h10) h10 λ x11 h12 => aQ x4 false (λ kk => vK (dR x11 (.str [])) λ v => kk v h12) h12 λ x13 h14 => vK (aN x4 (.bool true) x13) λ x15 => bK x15 (some ((ii 3), h14)) (some ((ii 0), h14)))
theorem bOA : nN E D85 (aPV E) := Is.rf
def S85 : bU := nG (aPV E)
theorem aVu : SQ D85 S85 := nR bOA
def D86 := cm 86
def bRQ := cr (cr D86.body)
def aWR (r0 r1 : DV) (h : H) : aV := wK (aC E 78 [(ii 65536)] h) λ x1 h2 => wK (aC E 120 [x1, r1] h2) λ x3 h4 => wK (aC E 121 [x1, r0] h4) λ x5 h6 => wK (aC E 81 [x1] h6) λ x7 h8 => vK (aX 0 x7) λ x9 => vK (aX 1 x7) λ x10 => some (x9, h8)
def bCO (r0 r1 : DV) (h : H) : aV := vK (dR r1 (ii 0)) λ x1 => bK x1 (aWR E .nils r1 h) (aWR E r0 r1 h)
theorem bOy : Is E bRQ (bQ D86.res) (λ σ h => aWR E (σ p0) (σ p1) h) := Is.rf
theorem bOz : mO E D86 (bCO E) := Is.aq (Is.sq (Is.sq (bOy E) (Is.leaf _)) (Is.leaf _))
def S86 : bU := mD (bCO E)
theorem aVt : SQ D86 S86 := mZ bOz
def D87 := cm 87
def bRP := cr (cr (cr D87.body))
def bRO := cl (cr (cl (cr (cr D87.body))))
def aPT (r2 r4 r5 : DV) (h : H) : aV := vK (dE 8 h.get r5) λ x1 => wK (aC E 53 [x1] h) λ x2 h3 => vK (aX 0 x2) λ x4 => vK (aX 1 x2) λ x5 => vK (dR x5 (ii 0)) λ x6 => aQ x6 false (λ kk => kk r4 h3) h3 λ x7 h8 => aQ x6 false (λ kk => wK (aC E 85 [x7] h8) kk) h8 λ x9 h10 => aQ x6 false (λ kk => vK (dR x9 (ii 0)) λ v => kk v h10) h10 λ x11 h12 => vK (aN x6 (.bool true) x11) λ x13 => bK x13 (vK (dT [(ii 0), (ii 0), (ii 0), (ii 0), (ii 0), (ii 0), (ii 0), (ii 0)] []) λ x14 => wK (eU 8 r2 x14 h12) λ x15 h16 => vK (dE 8 h16.get r2) λ x17 => some ((.tup [x17, (ii 3)]), h16)) (vK (dE 8 h12.get r5) λ x18 => wK (eU 8 r2 x18 h12) λ x19 h20 => vK (dE 8 h20.get r2) λ x21 => some ((.tup [x21, (ii 0)]), h20))
def aKK (r2 r4 r5 r13 r14 : DV) (i2 : DV → H → aV) (r15 : DV) (h : H) : aV := vK (bV r15 r14) λ x1 => bK x1 (vK (cW 1 r13 r15) λ x2 => vK (aO h.get x2) λ x3 => wK (aC E 118 [r4] h) λ x4 h5 => vK (aH x3) λ x6 => wK (eU 1 x6 x4 h5) λ x7 h8 => vK (cG r15 (ii 1)) λ x9 => i2 x9 h8) (aPT E r2 r4 r5 h)
def aFL (r2 r4 r5 r13 r14 : DV) (n : Nat) : DV → H → aV := Nat.rec (motive := λ _ => DV → H → aV) (λ _ _ => none) (λ _ i => aKK E r2 r4 r5 r13 r14 i) n
def aPU (r0 : DV) (h : H) : aV := jJ 8 8 (.list [(ii 0), (ii 0), (ii 0), (ii 0), (ii 0), (ii 0), (ii 0), (ii 0)]) h λ x1 h2 => wK (aC E 82 [r0] h2) λ x3 h4 => vK (dT [(ii 0), (ii 0), (ii 0), (ii 0), (ii 0), (ii 0), (ii 0), (ii 0)] []) λ x5 => jJ 8 8 (.list [(ii 0), (ii 0), (ii 0), (ii 0), (ii 0), (ii 0), (ii 0), (ii 0)]) h4 λ x6 h7 => wK (eU 8 x6 x5 h7) λ x8 h9 => wK (aC E 79 [x6] h9) λ x10 h11 => vK (bH x10) λ x12 => aFL E x1 x3 x6 x10 x12 aT (ii 0) h11
theorem bOw : Is E bRP (bQ D87.res) (λ σ h => aPT E (σ p2) (σ p4) (σ p5) h) := Is.rf
abbrev bNL : iL (DV × H) := (cJ (λ σ h => aPT E (σ p2) (σ p4) (σ p5) h) (bQ D87.res))
theorem bOv : Is E bRO (cE 0 (bNL E)) (λ σ h => aFL E (σ p2) (σ p4) (σ p5) (σ tV) (σ xC) aT (σ p15) h) := Is.lp (λ n2 σ h => aFL E (σ p2) (σ p4) (σ p5) (σ tV) (σ xC) n2 (σ p15) h) λ n2 => Is.aq (Is.leaf _)
theorem bOx : nN E D87 (aPU E) := Is.aq (Is.sq (Is.sq (Is.sq (bOw E) (Is.sq (Is.bk (bOv E)) (Is.leaf _))) (Is.leaf _)) (Is.leaf _))
def S87 : bU := nG (aPU E)
theorem aVs : SQ D87 S87 := nR bOx
def D88 := cm 88
def bCN (r0 r1 r2 : DV) (h : H) : aV := vK (dM .ptr false h.get r0 .nilp) λ x1 => aQ x1 false (λ kk => kk r1 h) h λ x2 h3 => aQ x1 false (λ kk => kk r2 h3) h3 λ x4 h5 => aQ x1 false (λ kk => wK (aC E 122 [x2, x4] h5) kk) h5 λ x6 h7 => aQ x1 false (λ kk => vK (fH x6) λ v => kk v h7) h7 λ x8 h9 => vK (aN x1 (.bool true) x8) λ x10 => bK x10 (some ((.tup [(ii 0), (.str [])]), h9)) (wK (aC E 123 [r0, r1, r2] h9) λ x11 h12 => vK (aX 0 x11) λ x13 => vK (aX 1 x11) λ x14 => vK (aH r0) λ x15 => vK (aP 1 x15) λ x16 => vK (aO h12.get x16) λ x17 => vK (uI .int .nils false h12.get x17 r1) λ x18 => aQ x14 true (λ kk => kk x18 h12) h12 λ x19 h20 => aQ x14 true (λ kk => kk x13 h20) h20 λ x21 h22 => aQ x14 true (λ kk => vK (cW 3 x19 x21) λ v => kk v h22) h22 λ x23 h24 => aQ x14 true (λ kk => vK (aP 1 x23) λ v => kk v h24) h24 λ x25 h26 => aQ x14 true (λ kk => vK (aO h26.get x25) λ v => kk v h26) h26 λ x27 h28 => vK (aN x14 x27 (.bool false)) λ x29 => bK x29 (some ((.tup [(ii 3), (.str [])]), h28)) (bK x14 (vK (cW 3 x18 x13) λ x30 => vK (aP 2 x30) λ x31 => vK (aO h28.get x31) λ x32 => some ((.tup [(ii 2), x32]), h28)) (vK (bH x18) λ x33 => vK (aH r0) λ x34 => vK (aP 0 x34) λ x35 => vK (aO h28.get x35) λ x36 => vK (cU x33 x36) λ x37 => aQ x37 true (λ kk => kk x13 h28) h28 λ x38 h39 => aQ x37 true (λ kk => vK (cU x38 (ii 0)) λ v => kk v h39) h39 λ x40 h41 => vK (aN x37 x40 (.bool false)) λ x42 => bK x42 (some ((.tup [(ii 4), (.str [])]), h41)) (vK (dT [(ii 0), (.bool false), (.str [])] [(0, 1, r2), (1, 1, (.bool true))]) λ x43 => eX 1 3 [(ii 0), (.bool false), (.str [])] [(0, 3, x43)] h41 λ x44 h45 => wK (aC E 124 [x18, x13, x44] h45) λ x46 h47 => vK (aH r0) λ x48 => vK (aP 1 x48) λ x49 => vK (aO h47.get x49) λ x50 => vK (bH x46) λ x51 => vK (aH r0) λ x52 => vK (aP 0 x52) λ x53 => vK (aO h47.get x53) λ x54 => vK (iX x51 x54) λ x55 => vK (yP x55 (ii 0)) λ x56 => vK (fQ 3 x46 (some x56) none) λ x57 => wK (aBV .int x50 r1 x57 h47) λ x58 h59 => some ((.tup [(ii 1), (.str [])]), h59)))))
theorem bOu : iB3 E D88 (bCN E) := Is.rf
def S88 : bU := fA3 (bCN E)
theorem aVr : SQ D88 S88 := eB3 bOu
def D89 := cm 89
def bCM (E : bF) (r0 : DV) (h : H) : aV := vK (cU r0 (ii 1)) λ x1 => bK x1 (some ((.fn (.func 125) [] []), h)) (vK (cU r0 (ii 2)) λ x2 => bK x2 (some ((.fn (.func 126) [] []), h)) (vK (cU r0 (ii 3)) λ x3 => bK x3 (some ((.fn (.func 127) [] []), h)) (vK (cU r0 (ii 4)) λ x4 => bK x4 (some ((.fn (.func 128) [] []), h)) (vK (cU r0 (ii 5)) λ x5 => bK x5 (some ((.fn (.func 129) [] []), h)) (vK (cU r0 (ii 6)) λ x6 => bK x6 (some ((.fn (.func 130) [] []), h)) (vK (cU r0 (ii 7)) λ x7 => bK x7 (some ((.fn (.func 131) [] []), h)) (vK (cU r0 (ii 8)) λ x8 => bK x8 (some ((.fn (.func 132) [] []), h)) (some ((.fn (.func 133) [] []), h)))))))))
theorem bOt : nN E D89 (bCM E) := Is.rf
def S89 : bU := nG (bCM E)
theorem aVq : SQ D89 S89 := nR bOt
def D90 := cm 90
def bCL (r0 r1 r2 r3 : DV) (h : H) : aV := vK (dM .ptr false h.get r0 .nilp) λ x1 => aQ x1 false (λ kk => kk r1 h) h λ x2 h3 => aQ x1 false (λ kk => kk r2 h3) h3 λ x4 h5 => aQ x1 false (λ kk => wK (aC E 122 [x2, x4] h5) kk) h5 λ x6 h7 => aQ x1 false (λ kk => vK (fH x6) λ v => kk v h7) h7 λ x8 h9 => vK (aN x1 (.bool true) x8) λ x10 => aQ x10 false (λ kk => kk r3 h9) h9 λ x11 h12 => aQ x10 false (λ kk => vK (eO x11) λ v => kk v h12) h12 λ x13 h14 => aQ x10 false (λ kk => vK (dS x13 (ii 4096)) λ v => kk v h14) h14 λ x15 h16 => vK (aN x10 (.bool true) x15) λ x17 => bK x17 (some ((.bool false), h16)) (wK (aC E 123 [r0, r1, r2] h16) λ x18 h19 => vK (aX 0 x18) λ x20 => vK (aX 1 x18) λ x21 => vK (fH x21) λ x22 => aQ x22 false (λ kk => kk r0 h19) h19 λ x23 h24 => aQ x22 false (λ kk => vK (aH x23) λ v => kk v h24) h24 λ x25 h26 => aQ x22 false (λ kk => vK (aP 1 x25) λ v => kk v h26) h26 λ x27 h28 => aQ x22 false (λ kk => vK (aO h28.get x27) λ v => kk v h28) h28 λ x29 h30 => aQ x22 false (λ kk => kk r1 h30) h30 λ x31 h32 => aQ x22 false (λ kk => vK (uI .int .nils false h32.get x29 x31) λ v => kk v h32) h32 λ x33 h34 => aQ x22 false (λ kk => kk x20 h34) h34 λ x35 h36 => aQ x22 false (λ kk => vK (cW 3 x33 x35) λ v => kk v h36) h36 λ x37 h38 => aQ x22 false (λ kk => vK (aP 1 x37) λ v => kk v h38) h38 λ x39 h40 => aQ x22 false (λ kk => vK (aO h40.get x39) λ v => kk v h40) h40 λ x41 h42 => aQ x22 false (λ kk => vK (fH x41) λ v => kk v h42) h42 λ x43 h44 => vK (aN x22 (.bool true) x43) λ x45 => bK x45 (some ((.bool false), h44)) (vK (aH r0) λ x46 => vK (aP 1 x46) λ x47 => vK (aO h44.get x47) λ x48 => vK (uI .int .nils false h44.get x48 r1) λ x49 => vK (dT [(ii 0), (.bool false), (.str [])] [(0, 1, r2), (2, 1, r3)]) λ x50 => vK (cW 3 x49 x20) λ x51 => wK (eU 3 x51 x50 h44) λ x52 h53 => some ((.bool true), h53)))
theorem bOs : iB4 E D90 (bCL E) := Is.rf
def S90 : bU := fA4 (bCL E)
theorem aVp : SQ D90 S90 := eB4 bOs
def D91 := cm 91
def aPS (r0 : DV) (h : H) : aV := wK (aC E 134 [(.str [0]), r0] h) λ x1 h2 => some (x1, h2)
theorem bOr : nN E D91 (aPS E) := Is.rf
def S91 : bU := nG (aPS E)
theorem bFc : SQ D91 S91 := nR bOr
def D92 := cm 92
def bRN := cr (cr (cr (cr D92.body)))
def bRM := cl (cr (cl (cr (cr (cr D92.body)))))
def aWQ (E : bF) (h : H) : aV := some ((.bool true), h)
def aKJ (r0 r1 r32 : DV) (i2 : DV → H → aV) (r33 : DV) (h : H) : aV := vK (bV r33 r32) λ x1 => bK x1 (vK (aH r0) λ x2 => vK (aP 0 x2) λ x3 => vK (pU 512 1 x3 r33) λ x4 => vK (aO h.get x4) λ x5 => vK (oV r1 r33) λ x6 => vK (pT x5 x6) λ x7 => vK (aH r0) λ x8 => vK (aP 0 x8) λ x9 => vK (pU 512 1 x9 r33) λ x10 => wK (eU 1 x10 x7 h) λ x11 h12 => vK (cG r33 (ii 1)) λ x13 => i2 x13 h12) (aWQ E h)
def aFK (r0 r1 r32 : DV) (n : Nat) : DV → H → aV := Nat.rec (motive := λ _ => DV → H → aV) (λ _ _ => none) (λ _ i => aKJ E r0 r1 r32 i) n
def aPR (r0 r1 r2 : DV) (h : H) : aV := vK (eO r1) λ x1 => vK (dS x1 (ii 512)) λ x2 => aQ x2 false (λ kk => kk r2 h) h λ x3 h4 => aQ x2 false (λ kk => vK (fH x3) λ v => kk v h4) h4 λ x5 h6 => aQ x2 false (λ kk => kk x5 h6) h6 λ x7 h8 => aQ x7 true (λ kk => kk r1 h8) h8 λ x9 h10 => aQ x7 true (λ kk => vK (eO x9) λ v => kk v h10) h10 λ x11 h12 => aQ x7 true (λ kk => kk r0 h12) h12 λ x13 h14 => aQ x7 true (λ kk => vK (aH x13) λ v => kk v h14) h14 λ x15 h16 => aQ x7 true (λ kk => vK (aP 512 x15) λ v => kk v h16) h16 λ x17 h18 => aQ x7 true (λ kk => vK (aO h18.get x17) λ v => kk v h18) h18 λ x19 h20 => aQ x7 true (λ kk => vK (dR x11 x19) λ v => kk v h20) h20 λ x21 h22 => aQ x2 false (λ kk => vK (aN x7 x21 (.bool false)) λ v => kk v h22) h22 λ x23 h24 => vK (aN x2 (.bool true) x23) λ x25 => bK x25 (some ((.bool false), h24)) (vK (eO r1) λ x26 => vK (aH r0) λ x27 => vK (aP 512 x27) λ x28 => wK (eU 1 x28 x26 h24) λ x29 h30 => vK (aH r0) λ x31 => vK (aP 512 x31) λ x32 => vK (aO h30.get x32) λ x33 => aFK E r0 r1 x33 aT (ii 0) h30)
theorem bOp : Is E bRN (bQ D92.res) (λ σ h => aWQ E h) := Is.rf
abbrev bNK : iL (DV × H) := (cE 0 (cJ (λ σ h => aWQ E h) (bQ D92.res)))
theorem bOo : Is E bRM (bNK E) (λ σ h => aFK E (σ p0) (σ p1) (σ p32) aT (σ p33) h) := Is.lp (λ n2 σ h => aFK E (σ p0) (σ p1) (σ p32) n2 (σ p33) h) λ n2 => Is.aq (Is.leaf _)
theorem bOq : iB3 E D92 (aPR E) := Is.aq (Is.sq (Is.sq (Is.sq (Is.sq (bOp E) (Is.sq (Is.bk (bOo E)) (Is.leaf _))) (Is.leaf _)) (Is.leaf _)) (Is.leaf _))
def S92 : bU := fA3 (aPR E)
theorem bFb : SQ D92 S92 := eB3 bOq
def D93 := cm 93
def bCK (r0 r1 r2 : DV) (h : H) : aV := wK (aC E 105 [r0, r1] h) λ x1 h2 => vK (aX 0 x1) λ x3 => vK (aX 1 x1) λ x4 => vK (dR x4 (ii 0)) λ x5 => aQ x5 false (λ kk => kk r2 h2) h2 λ x6 h7 => aQ x5 false (λ kk => vK (bV x6 (ii 0)) λ v => kk v h7) h7 λ x8 h9 => vK (aN x5 (.bool true) x8) λ x10 => aQ x10 false (λ kk => kk r2 h9) h9 λ x11 h12 => aQ x10 false (λ kk => kk x3 h12) h12 λ x13 h14 => aQ x10 false (λ kk => vK (bH x13) λ v => kk v h14) h14 λ x15 h16 => aQ x10 false (λ kk => vK (fV x11 x15) λ v => kk v h16) h16 λ x17 h18 => vK (aN x10 (.bool true) x17) λ x19 => bK x19 (some ((.tup [(ii 0), (ii 1)]), h18)) (vK (cW 1 x3 r2) λ x20 => vK (aO h18.get x20) λ x21 => some ((.tup [x21, (ii 0)]), h18))
theorem bOn : iB3 E D93 (bCK E) := Is.rf
def S93 : bU := fA3 (bCK E)
theorem aVo : SQ D93 S93 := eB3 bOn
def D94 := cm 94
def bCJ (E : bF) (h : H) : aV := none
theorem bOm : nN E D94 (λ _ h => bCJ E h) := Is.rf
def S94 : bU := nG (λ _ h => bCJ E h)
theorem bFa : SQ D94 S94 := nR bOm
def D95 := cm 95
def bCI (E : bF) (r0 : DV) (h : H) : aV := vK (aEL 25 (ii 0) true r0) λ x1 => vK (aX 0 x1) λ x2 => vK (aX 1 x1) λ x3 => some (x2, h)
theorem bOl : nN E D95 (bCI E) := Is.rf
def S95 : bU := nG (bCI E)
theorem bEZ : SQ D95 S95 := nR bOl
def D96 := cm 96
def bDq := cr (cr (cr D96.body))
def bRL := cr bDq
def aWP (E : bF) (r5 : DV) (h : H) : aV := vK (aH r5) λ x1 => vK (aP 1 x1) λ x2 => vK (aO h.get x2) λ x3 => some (x3, h)
def aPQ (r5 : DV) (h : H) : aV := vK (aH r5) λ x1 => vK (aP 2 x1) λ x2 => vK (aO h.get x2) λ x3 => aQ x3 false (λ kk => kk r5 h) h λ x4 h5 => aQ x3 false (λ kk => vK (aH x4) λ v => kk v h5) h5 λ x6 h7 => aQ x3 false (λ kk => vK (aP 3 x6) λ v => kk v h7) h7 λ x8 h9 => aQ x3 false (λ kk => vK (aO h9.get x8) λ v => kk v h9) h9 λ x10 h11 => vK (aN x3 (.bool true) x10) λ x12 => bK x12 (none) (aWP E r5 h11)
def aFV (r0 r1 : DV) (h : H) : aV := wK (aC E 33 [r0, r1] h) λ x1 h2 => vK (dM .ptr false h2.get x1 .nilp) λ x3 => bK x3 (none) (aPQ E x1 h2)
theorem bOi : Is E bRL (bQ D96.res) (λ σ h => aWP E (σ p5) h) := Is.rf
theorem bOj : Is E bDq (bQ D96.res) (λ σ h => aPQ E (σ p5) h) := Is.aq (Is.sq (bOi E) (Is.leaf _))
theorem bOk : mO E D96 (aFV E) := Is.aq (Is.sq (Is.sq (Is.sq (bOj E) (Is.leaf _)) (Is.leaf _)) (Is.leaf _))
def S96 : bU := mD (aFV E)
theorem bEY : SQ D96 S96 := mZ bOk
def D97 := cm 97
def bRK := cr (cr (cr (cr (cr (cr D97.body)))))
def aWO (E : bF) (r12 : DV) (h : H) : aV := some (r12, h)
def aPP (r0 r1 r2 r3 : DV) (h : H) : aV := dN r1 h λ x1 h2 => vK (dM .ptr false h2.get r0 .nilp) λ x3 => aQ x3 false (λ kk => vK (dE 2 h2.get x1) λ v => kk v h2) h2 λ x4 h5 => aQ x3 false (λ kk => wK (aC E 109 [x4] h5) kk) h5 λ x6 h7 => aQ x3 false (λ kk => vK (fH x6) λ v => kk v h7) h7 λ x8 h9 => vK (aN x3 (.bool true) x8) λ x10 => bK x10 (some ((ii 1), h9)) (vK (eO r2) λ x11 => vK (dS x11 (ii 512)) λ x12 => bK x12 (some ((ii 2), h9)) (wK (aC E 135 [r0] h9) λ x13 h14 => vK (bV x13 (ii 0)) λ x15 => bK x15 (some ((ii 5), h14)) (vK (dE 2 h14.get x1) λ x16 => wK (aC E 75 [r0, x16] h14) λ x17 h18 => vK (fV x17 (ii 0)) λ x19 => bK x19 (some ((ii 6), h18)) (vK (aH r0) λ x20 => vK (aP 2 x20) λ x21 => vK (aO h18.get x21) λ x22 => bK x22 (some ((ii 16), h18)) (wK (aC E 135 [r0] h18) λ x23 h24 => wK (aC E 59 [r2, (ii 512)] h24) λ x25 h26 => vK (aX 0 x25) λ x27 => vK (aX 1 x25) λ x28 => vK (jP x23 (ii 9)) λ x29 => vK (cG x29 (ii 1)) λ x30 => vK (jP x23 (ii 9)) λ x31 => vK (dE 2 h26.get x1) λ x32 => wK (aC E 137 [r0, x30, x27] h26) λ x33 h34 => rK (rcK (dE 2 h34.get x1) x32) <| wK (aC E 110 [x32, r2] h34) λ x35 h36 => wK (aC E 137 [r0, x31, x35] h36) λ x37 h38 => eX 4 1 [.nilf] [(0, 1, x33), (1, 1, (.fn (.func 138) [r0] [])), (2, 1, x37), (3, 1, (.fn (.func 138) [r0] []))] h38 λ x39 h40 => wK (aC E 136 [r0, r3, x39] h40) λ x41 h42 => vK (cU x41 (ii 0)) λ x43 => bK x43 (vK (aH r0) λ x44 => vK (aP 1 x44) λ x45 => vK (aO h42.get x45) λ x46 => vK (dE 2 h42.get x1) λ x47 => vK (eO r2) λ x48 => vK (dT [(.bool false), (ii 0), (ii 0), (ii 0)] [(0, 1, (.bool true)), (1, 2, x47), (3, 1, x48)]) λ x49 => vK (cW 4 x46 x23) λ x50 => wK (eU 4 x50 x49 h42) λ x51 h52 => aWO E x41 h52) (aWO E x41 h42))))))
theorem bOg : Is E bRK (bQ D97.res) (λ σ h => aWO E (σ uC) h) := Is.rf
theorem bOh : iB4 E D97 (aPP E) := Is.aq (Is.sq (Is.sq (Is.sq (Is.sq (Is.sq (Is.sq (bOg E) (Is.leaf _)) (Is.leaf _)) (Is.leaf _)) (Is.leaf _)) (Is.leaf _)) (Is.leaf _))
def S97 : bU := fA4 (aPP E)
theorem bEX : SQ D97 S97 := eB4 bOh
def aYv := cm 100
def aXM (r0 r1 : DV) (h : H) : aV := jJ 6 6 (.list [(ii 0), (ii 0), (ii 0), (ii 0), (ii 0), .nils]) h λ x1 h2 => wK (aC E 139 [r0, r1] h2) λ x3 h4 => vK (dM .ptr false h4.get x3 .nilp) λ x5 => bK x5 (vK (dT [(ii 0), (ii 0), (ii 0), (ii 0), (ii 0), .nils] []) λ x6 => wK (eU 6 x1 x6 h4) λ x7 h8 => vK (dE 6 h8.get x1) λ x9 => some ((.tup [x9, (.bool false)]), h8)) (vK (aH x3) λ x10 => vK (dE 6 h4.get x10) λ x11 => jJ 6 6 (.list [(ii 0), (ii 0), (ii 0), (ii 0), (ii 0), .nils]) h4 λ x12 h13 => wK (eU 6 x12 x11 h13) λ x14 h15 => vK (aP 5 x12) λ x16 => vK (aO h15.get x16) λ x17 => wK (aC E 140 [x17] h15) λ x18 h19 => vK (aP 5 x12) λ x20 => wK (eU 1 x20 x18 h19) λ x21 h22 => vK (dE 6 h22.get x12) λ x23 => wK (eU 6 x1 x23 h22) λ x24 h25 => vK (dE 6 h25.get x1) λ x26 => some ((.tup [x26, (.bool true)]), h25))
theorem bIn : mO E aYv (aXM E) := Is.rf
def aWC : bU := mD (aXM E)
theorem aPN : SQ aYv aWC := mZ bIn
def bJf := cm 101
def aXL (E : bF) (r2 : DV) (h : H) : aV := dN r2 h λ x1 h2 => jJ 1 1 (.list [(.str [])]) h2 λ x3 h4 => jJ 1 1 (.list [(ii 0)]) h4 λ x5 h6 => none
theorem bIm : iB3 E bJf (λ _ _ r2 h => aXL E r2 h) := Is.rf
def bFX : bU := fA3 (λ _ _ r2 h => aXL E r2 h)
theorem bBc : SQ bJf bFX := eB3 bIm
def aYu := cm 102
def aXK (E : bF) (r0 : DV) (h : H) : aV := vK (dM .ptr false h.get r0 .nilp) λ x1 => bK x1 (some ((ii 0), h)) (vK (aH r0) λ x2 => vK (aP 2 x2) λ x3 => vK (aO h.get x3) λ x4 => some (x4, h))
theorem bIl : nN E aYu (aXK E) := Is.rf
def aWB : bU := nG (aXK E)
theorem aPM : SQ aYu aWB := nR bIl
def aIb := cm 105
def bJR := cr (cr (cr (cr aIb.body)))
def bJQ := cl (cr (cl (cr (cr (cr aIb.body)))))
def aNa (E : bF) (r6 : DV) (h : H) : aV := some ((.tup [r6, (ii 0)]), h)
def bKb (r0 r1 r6 r23 : DV) (i2 : DV → H → aV) (r24 : DV) (h : H) : aV := vK (bV r24 r23) λ x1 => bK x1 (wK (aC E 144 [r0, r1, r24] h) λ x2 h3 => vK (cW 1 r0 x2) λ x4 => vK (aO h3.get x4) λ x5 => vK (cW 1 r6 r24) λ x6 => wK (eU 1 x6 x5 h3) λ x7 h8 => vK (cG r24 (ii 1)) λ x9 => i2 x9 h8) (aNa E r6 h)
def aML (r0 r1 r6 r23 : DV) (n : Nat) : DV → H → aV := Nat.rec (motive := λ _ => DV → H → aV) (λ _ _ => none) (λ _ i => bKb E r0 r1 r6 r23 i) n
def aXJ (r0 r1 : DV) (h : H) : aV := wK (aC E 143 [r0] h) λ x1 h2 => vK (fH x1) λ x3 => aQ x3 false (λ kk => kk r1 h2) h2 λ x4 h5 => aQ x3 false (λ kk => vK (bV x4 (ii 0)) λ v => kk v h5) h5 λ x6 h7 => vK (aN x3 (.bool true) x6) λ x8 => aQ x8 false (λ kk => kk r1 h7) h7 λ x9 h10 => aQ x8 false (λ kk => vK (fV x9 (ii 4096)) λ v => kk v h10) h10 λ x11 h12 => vK (aN x8 (.bool true) x11) λ x13 => bK x13 (some ((.tup [.nils, (ii 1)]), h12)) (vK (bH r0) λ x14 => kL 1 8 (ii 0) x14 x14 h12 λ x15 h16 => vK (bH r0) λ x17 => aML E r0 r1 x15 x17 aT (ii 0) h16)
theorem bIj : Is E bJR (bQ aIb.res) (λ σ h => aNa E (σ p6) h) := Is.rf
abbrev bGm : iL (DV × H) := (cJ (λ σ h => aNa E (σ p6) h) (bQ aIb.res))
theorem bIi : Is E bJQ (cE 0 (bGm E)) (λ σ h => aML E (σ p0) (σ p1) (σ p6) (σ p23) aT (σ p24) h) := Is.lp (λ n2 σ h => aML E (σ p0) (σ p1) (σ p6) (σ p23) n2 (σ p24) h) λ n2 => Is.aq (Is.leaf _)
theorem bIk : mO E aIb (aXJ E) := Is.aq (Is.sq (Is.sq (Is.sq (Is.sq (bIj E) (Is.sq (Is.bk (bIi E)) (Is.leaf _))) (Is.leaf _)) (Is.leaf _)) (Is.leaf _))
def aWA : bU := mD (aXJ E)
theorem aPL : SQ aIb aWA := mZ bIk
def aIa := cm 106
def bJP := cr (cr aIa.body)
def bJO := cl (cr (cl (cr aIa.body)))
def aMZ (E : bF) (h : H) : aV := some ((.int .i64 (.negSucc 0)), h)
def bKa (r0 r1 r7 : DV) (i2 : DV → H → aV) (r8 : DV) (h : H) : aV := vK (bV r8 r7) λ x1 => bK x1 (vK (cW 1 r0 r8) λ x2 => vK (aO h.get x2) λ x3 => vK (cU r1 x3) λ x4 => bK x4 (some (r8, h)) (vK (cG r8 (ii 1)) λ x5 => i2 x5 h)) (aMZ E h)
def aMK (r0 r1 r7 : DV) (n : Nat) : DV → H → aV := Nat.rec (motive := λ _ => DV → H → aV) (λ _ _ => none) (λ _ i => bKa E r0 r1 r7 i) n
def aXI (r0 r1 : DV) (h : H) : aV := vK (bH r0) λ x1 => aMK E r0 r1 x1 aT (ii 0) h
theorem bIg : Is E bJP (bQ aIa.res) (λ σ h => aMZ E h) := Is.rf
abbrev bGl : iL (DV × H) := (cE 0 (cJ (λ σ h => aMZ E h) (bQ aIa.res)))
theorem bIf : Is E bJO (bGl E) (λ σ h => aMK E (σ p0) (σ p1) (σ p7) aT (σ p8) h) := Is.lp (λ n2 σ h => aMK E (σ p0) (σ p1) (σ p7) n2 (σ p8) h) λ n2 => Is.aq (Is.leaf _)
theorem bIh : mO E aIa (aXI E) := Is.aq (Is.sq (Is.sq (bIg E) (Is.sq (Is.bk (bIf E)) (Is.leaf _))) (Is.leaf _))
def aWz : bU := mD (aXI E)
theorem aPK : SQ aIa aWz := mZ bIh
def bJe := cm 107
def aBc (E : bF) (r0 r1 r2 r3 : DV) (h : H) : aV := vK (dM .ptr false h.get r0 .nilp) λ x1 => aQ x1 false (λ kk => kk r1 h) h λ x2 h3 => aQ x1 false (λ kk => vK (bV x2 (ii 0)) λ v => kk v h3) h3 λ x4 h5 => vK (aN x1 (.bool true) x4) λ x6 => aQ x6 false (λ kk => kk r2 h5) h5 λ x7 h8 => aQ x6 false (λ kk => vK (bV x7 (ii 1)) λ v => kk v h8) h8 λ x9 h10 => vK (aN x6 (.bool true) x9) λ x11 => aQ x11 false (λ kk => kk r3 h10) h10 λ x12 h13 => aQ x11 false (λ kk => vK (fH x12) λ v => kk v h13) h13 λ x14 h15 => vK (aN x11 (.bool true) x14) λ x16 => bK x16 (some ((ii 1), h15)) (vK (aH r0) λ x17 => vK (aP 0 x17) λ x18 => vK (aO h15.get x18) λ x19 => vK (bH x19) λ x20 => vK (dS r1 x20) λ x21 => aQ x21 false (λ kk => kk r2 h15) h15 λ x22 h23 => aQ x21 false (λ kk => kk r0 h23) h23 λ x24 h25 => aQ x21 false (λ kk => vK (aH x24) λ v => kk v h25) h25 λ x26 h27 => aQ x21 false (λ kk => vK (aP 0 x26) λ v => kk v h27) h27 λ x28 h29 => aQ x21 false (λ kk => vK (aO h29.get x28) λ v => kk v h29) h29 λ x30 h31 => aQ x21 false (λ kk => vK (bH x30) λ v => kk v h31) h31 λ x32 h33 => aQ x21 false (λ kk => kk r1 h33) h33 λ x34 h35 => aQ x21 false (λ kk => vK (iX x32 x34) λ v => kk v h35) h35 λ x36 h37 => aQ x21 false (λ kk => vK (dS x22 x36) λ v => kk v h37) h37 λ x38 h39 => vK (aN x21 (.bool true) x38) λ x40 => bK x40 (some ((ii 5), h39)) (vK (aH r0) λ x41 => vK (aP 2 x41) λ x42 => vK (aO h39.get x42) λ x43 => bK x43 (some ((ii 8), h39)) (some ((ii 0), h39))))
theorem bIe : iB4 E bJe (aBc E) := Is.rf
def aEa : bU := fA4 (aBc E)
theorem bBb : SQ bJe aEa := eB4 bIe
def bJd := cm 108
def aHN (E : bF) (r0 : DV) (h : H) : aV := vK (oV r0 (ii 0)) λ x1 => vK (dF .i64 x1) λ x2 => vK (oV r0 (ii 1)) λ x3 => vK (dF .i64 x3) λ x4 => vK (uH x4 (.int .u64 (.ofNat 8))) λ x5 => vK (aEv x2 x5) λ x6 => vK (oV r0 (ii 2)) λ x7 => vK (dF .i64 x7) λ x8 => vK (uH x8 (.int .u64 (.ofNat 16))) λ x9 => vK (aEv x6 x9) λ x10 => vK (oV r0 (ii 3)) λ x11 => vK (dF .i64 x11) λ x12 => vK (uH x12 (.int .u64 (.ofNat 24))) λ x13 => vK (aEv x10 x13) λ x14 => some (x14, h)
theorem bId : nN E bJd (aHN E) := Is.rf
def aMB : bU := nG (aHN E)
theorem bBa : SQ bJd aMB := nR bId
def bJc := cm 109
def aHM (E : bF) (r0 : DV) (h : H) : aV := dN r0 h λ x1 h2 => vK (aP 0 x1) λ x3 => vK (aO h2.get x3) λ x4 => vK (fV x4 (ii 0)) λ x5 => aQ x5 true (λ kk => vK (aP 0 x1) λ v => kk v h2) h2 λ x6 h7 => aQ x5 true (λ kk => vK (aO h7.get x6) λ v => kk v h7) h7 λ x8 h9 => aQ x5 true (λ kk => vK (bV x8 (ii 2147483648)) λ v => kk v h9) h9 λ x10 h11 => vK (aN x5 x10 (.bool false)) λ x12 => aQ x12 true (λ kk => vK (aP 1 x1) λ v => kk v h11) h11 λ x13 h14 => aQ x12 true (λ kk => vK (aO h14.get x13) λ v => kk v h14) h14 λ x15 h16 => aQ x12 true (λ kk => vK (fV x15 (ii 0)) λ v => kk v h16) h16 λ x17 h18 => vK (aN x12 x17 (.bool false)) λ x19 => aQ x19 true (λ kk => vK (aP 1 x1) λ v => kk v h18) h18 λ x20 h21 => aQ x19 true (λ kk => vK (aO h21.get x20) λ v => kk v h21) h21 λ x22 h23 => aQ x19 true (λ kk => vK (bV x22 (ii 8)) λ v => kk v h23) h23 λ x24 h25 => vK (aN x19 x24 (.bool false)) λ x26 => some (x26, h25)
theorem bIc : nN E bJc (aHM E) := Is.rf
def aSt : bU := nG (aHM E)
theorem bAZ : SQ bJc aSt := nR bIc
def bJb := cm 110
def aHL (r0 r1 : DV) (h : H) : aV := dN r0 h λ x1 h2 => vK (aP 0 x1) λ x3 => vK (aO h2.get x3) λ x4 => vK (dF .u32 x4) λ x5 => vK (aP 1 x1) λ x6 => vK (aO h2.get x6) λ x7 => vK (dF .u32 x7) λ x8 => vK (eO r1) λ x9 => vK (dF .u32 x9) λ x10 => wK (aC E 145 [x5] h2) λ x11 h12 => rK (rcK (aO h12.get x6) x7) <| vK (cG (.str [72, 70, 82, 71]) x11) λ x13 => wK (aC E 145 [x8] h12) λ x14 h15 => vK (cG x13 x14) λ x16 => wK (aC E 145 [x10] h15) λ x17 h18 => vK (cG x16 x17) λ x19 => wK (aC E 146 [r1] h18) λ x20 h21 => wK (aC E 145 [x20] h21) λ x22 h23 => vK (cG x19 x22) λ x24 => wK (aC E 59 [x24, (ii 60)] h23) λ x25 h26 => vK (aX 0 x25) λ x27 => vK (aX 1 x25) λ x28 => wK (aC E 147 [x27] h26) λ x29 h30 => some (x29, h30)
theorem bIb : mO E bJb (aHL E) := Is.rf
def aSs : bU := mD (aHL E)
theorem bAY : SQ bJb aSs := mZ bIb
def aNp := cm 111
def bJN := cr (cr aNp.body)
def bJM := cl (cr (cl (cr aNp.body)))
def aMY (E : bF) (h : H) : aV := some ((.int .i64 (.negSucc 0)), h)
def aBf (r0 r1 r7 : DV) (i2 : DV → H → aV) (r8 : DV) (h : H) : aV := vK (bV r8 r7) λ x1 => bK x1 (vK (cW 4 r0 r8) λ x2 => vK (dE 4 h.get x2) λ x3 => wK (lY E r1 [x3] h) λ x4 h5 => bK x4 (some (r8, h5)) (vK (cG r8 (ii 1)) λ x6 => i2 x6 h5)) (aMY E h)
def yH (r0 r1 r7 : DV) (n : Nat) : DV → H → aV := Nat.rec (motive := λ _ => DV → H → aV) (λ _ _ => none) (λ _ i => aBf E r0 r1 r7 i) n
def aHK (r0 r1 : DV) (h : H) : aV := vK (bH r0) λ x1 => yH E r0 r1 x1 aT (ii 0) h
theorem bHZ : Is E bJN (bQ aNp.res) (λ σ h => aMY E h) := Is.rf
abbrev bGk : iL (DV × H) := (cE 0 (cJ (λ σ h => aMY E h) (bQ aNp.res)))
theorem bHY : Is E bJM (bGk E) (λ σ h => yH E (σ p0) (σ p1) (σ p7) aT (σ p8) h) := Is.lp (λ n2 σ h => yH E (σ p0) (σ p1) (σ p7) n2 (σ p8) h) λ n2 => Is.aq (Is.leaf _)
theorem bIa : mO E aNp (aHK E) := Is.aq (Is.sq (Is.sq (bHZ E) (Is.sq (Is.bk (bHY E)) (Is.leaf _))) (Is.leaf _))
def aKu : bU := mD (aHK E)
theorem bAX : SQ aNp aKu := mZ bIa
def bJa := cm 112
def aHJ (E : bF) (r0 r1 : DV) (h : H) : aV := dN r0 h λ x1 h2 => vK (aP 0 x1) λ x3 => vK (aO h2.get x3) λ x4 => aQ x4 true (λ kk => vK (aP 1 x1) λ v => kk v h2) h2 λ x5 h6 => aQ x4 true (λ kk => vK (dE 2 h6.get x5) λ v => kk v h6) h6 λ x7 h8 => aQ x4 true (λ kk => vK (dE 2 h8.get r1) λ v => kk v h8) h8 λ x9 h10 => aQ x4 true (λ kk => vK (uL false (.leaf .int 0 (.leaf .int 1 .nil)) h10.get x7 x9) λ v => kk v h10) h10 λ x11 h12 => vK (aN x4 x11 (.bool false)) λ x13 => some (x13, h12)
theorem bHX : mO E bJa (aHJ E) := Is.rf
def aSr : bU := mD (aHJ E)
theorem bAW : SQ bJa aSr := mZ bHX
def aHZ := cm 113
def bJL := cr (cr (cr aHZ.body))
def aNt := cl (cr (cl (cr (cr aHZ.body))))
def bJK := cr (cr (cr (cl aNt)))
def bJJ := cl (cr (cr (cl (cl (cr (cr (cl aNt)))))))
def aMX (E : bF) (h : H) : aV := some ((.bool true), h)
def aMW (E : bF) (i2 : DV → H → aV) (r10 : DV) (h : H) : aV := vK (cG r10 (ii 1)) λ x1 => i2 x1 h
def bJY (i2 : DV → H → aV) (r3 r10 r14 r15 : DV) (i4 : DV → H → aV) (r16 : DV) (h : H) : aV := vK (bV r16 r15) λ x1 => bK x1 (vK (cW 1 r14 r16) λ x2 => vK (aO h.get x2) λ x3 => vK (bV x3 (ii 0)) λ x4 => aQ x4 false (λ kk => kk x3 h) h λ x5 h6 => aQ x4 false (λ kk => vK (fV x5 (ii 64)) λ v => kk v h6) h6 λ x7 h8 => vK (aN x4 (.bool true) x7) λ x9 => aQ x9 false (λ kk => kk x3 h8) h8 λ x10 h11 => aQ x9 false (λ kk => vK (pU 64 1 r3 x10) λ v => kk v h11) h11 λ x12 h13 => aQ x9 false (λ kk => vK (aO h13.get x12) λ v => kk v h13) h13 λ x14 h15 => vK (aN x9 (.bool true) x14) λ x16 => bK x16 (some ((.bool false), h15)) (vK (pU 64 1 r3 x3) λ x17 => wK (eU 1 x17 (.bool true) h15) λ x18 h19 => vK (cG r16 (ii 1)) λ x20 => i4 x20 h19)) (aMW E i2 r10 h)
def aMJ (i2 : DV → H → aV) (r3 r10 r14 r15 : DV) (n : Nat) : DV → H → aV := Nat.rec (motive := λ _ => DV → H → aV) (λ _ _ => none) (λ _ i => bJY E i2 r3 r10 r14 r15 i) n
def bJZ (r3 r8 r9 : DV) (i2 : DV → H → aV) (r10 : DV) (h : H) : aV := vK (bV r10 r9) λ x1 => bK x1 (vK (cW 1 r8 r10) λ x2 => vK (aO h.get x2) λ x3 => vK (bH x3) λ x4 => aMJ E i2 r3 r10 x3 x4 aT (ii 0) h) (aMX E h)
def vO (r3 r8 r9 : DV) (n : Nat) : DV → H → aV := Nat.rec (motive := λ _ => DV → H → aV) (λ _ _ => none) (λ _ i => bJZ E r3 r8 r9 i) n
def aXH (r0 : DV) (h : H) : aV := jJ 64 64 (.full 64 (.bool false)) h λ x1 h2 => vK (bH r0) λ x3 => vO E x1 r0 x3 aT (ii 0) h2
theorem bHV : Is E bJL (bQ aHZ.res) (λ σ h => aMX E h) := Is.rf
abbrev aWN : iL (DV × H) := (cE 0 (cJ (λ σ h => aMX E h) (bQ aHZ.res)))
abbrev aWM (n2 : Nat) : iL (DV × H) := (cJ (λ σ h => (vO E (σ p3) (σ p8) (σ p9) n2) (σ mJ) h) (aWN E))
theorem bHT (n2 : Nat) : Is E bJK (aWM E n2) (λ σ h => aMW E (vO E (σ p3) (σ p8) (σ p9) n2) (σ mJ) h) := Is.rf
abbrev bGj (n2 : Nat) : iL (DV × H) := (cJ (λ σ h => aMW E (vO E (σ p3) (σ p8) (σ p9) n2) (σ mJ) h) (aWM E n2))
theorem bHS (n2 : Nat) : Is E bJJ (cE 2 (cE 1 (bGj E n2))) (λ σ h => aMJ E (vO E (σ p3) (σ p8) (σ p9) n2) (σ p3) (σ mJ) (σ xC) (σ p15) aT (σ p16) h) := Is.lp (λ n4 σ h => aMJ E (vO E (σ p3) (σ p8) (σ p9) n2) (σ p3) (σ mJ) (σ xC) (σ p15) n4 (σ p16) h) λ n4 => Is.aq (Is.leaf _)
theorem bHU : Is E aNt (aWN E) (λ σ h => vO E (σ p3) (σ p8) (σ p9) aT (σ mJ) h) := Is.lp (λ n2 σ h => vO E (σ p3) (σ p8) (σ p9) n2 (σ mJ) h) λ n2 => Is.aq (Is.sq (Is.sq (Is.sq (bHT E n2) (Is.bk (Is.sq (Is.sq (Is.bk (bHS E n2)) (Is.leaf _)) (Is.leaf _)))) (Is.leaf _)) (Is.leaf _))
theorem bHW : nN E aHZ (aXH E) := Is.aq (Is.sq (Is.sq (Is.sq (bHV E) (Is.sq (Is.bk (bHU E)) (Is.leaf _))) (Is.leaf _)) (Is.leaf _))
def aWy : bU := nG (aXH E)
theorem aPJ : SQ aHZ aWy := nR bHW
def aYt := cm 114
def aHI (r0 r1 : DV) (h : H) : aV := vK (dM .ptr false h.get r0 .nilp) λ x1 => aQ x1 false (λ kk => kk r0 h) h λ x2 h3 => aQ x1 false (λ kk => vK (aH x2) λ v => kk v h3) h3 λ x4 h5 => aQ x1 false (λ kk => vK (aP 2 x4) λ v => kk v h5) h5 λ x6 h7 => aQ x1 false (λ kk => vK (aO h7.get x6) λ v => kk v h7) h7 λ x8 h9 => aQ x1 false (λ kk => vK (dR x8 (ii 0)) λ v => kk v h9) h9 λ x10 h11 => vK (aN x1 (.bool true) x10) λ x12 => bK x12 (some ((.tup []), h11)) (vK (aH r0) λ x13 => vK (aP 1 x13) λ x14 => vK (aO h11.get x14) λ x15 => vK (aH r0) λ x16 => vK (aP 1 x16) λ x17 => vK (aO h11.get x17) λ x18 => vK (bH x18) λ x19 => vK (aH r0) λ x20 => vK (aP 1 x20) λ x21 => vK (aO h11.get x21) λ x22 => vK (bH x22) λ x23 => vK (aCx 1 x15 none x19 x23) λ x24 => wK (lY E r1 [x24] h11) λ x25 h26 => vK (bH x25) λ x27 => vK (aH r0) λ x28 => vK (aP 0 x28) λ x29 => vK (aO h26.get x29) λ x30 => vK (dS x27 x30) λ x31 => bK x31 (vK (aH r0) λ x32 => vK (aP 2 x32) λ x33 => wK (eU 1 x33 (ii 2) h26) λ x34 h35 => some ((.tup []), h35)) (vK (aH r0) λ x36 => vK (aP 1 x36) λ x37 => wK (eU 1 x37 x25 h26) λ x38 h39 => some ((.tup []), h39)))
theorem bHR : mO E aYt (aHI E) := Is.rf
def aKt : bU := mD (aHI E)
theorem aPI : SQ aYt aKt := mZ bHR
def aYs := cm 115
def aHH (r0 r1 : DV) (h : H) : aV := vK (aO h.get r1) λ x1 => wK (aC E 116 [r0, x1] h) λ x2 h3 => some (x2, h3)
theorem bHQ : mO E aYs (aHH E) := Is.rf
def aMA : bU := mD (aHH E)
theorem aPH : SQ aYs aMA := mZ bHQ
def aHY := cm 116
def bJI := cr (cr (cr aHY.body))
def bJH := cl (cl (cr (cr aHY.body)))
def aEf (E : bF) (r0 r5 : DV) (h : H) : aV := vK (dF .u8 r5) λ x1 => eX 1 1 [(.int .u8 (.ofNat 0))] [(0, 1, x1)] h λ x2 h3 => wK (cT 1 1 r0 x2 h3) λ x4 h5 => some (x4, h5)
def aEq (i2 : DV → DV → H → aV) (r0 r5 : DV) (h : H) : aV := vK (fV r5 (.int .u64 (.ofNat 128))) λ x1 => bK x1 (vK (dF .u8 r5) λ x2 => vK (aEv x2 (.int .u8 (.ofNat 128))) λ x3 => eX 1 1 [(.int .u8 (.ofNat 0))] [(0, 1, x3)] h λ x4 h5 => wK (cT 1 1 r0 x4 h5) λ x6 h7 => vK (lL r5 (.int .u64 (.ofNat 7))) λ x8 => i2 x6 x8 h7) (aEf E r0 r5 h)
def aBa (n : Nat) : DV → DV → H → aV := Nat.rec (motive := λ _ => DV → DV → H → aV) (λ _ _ _ => none) (λ _ i => aEq E i) n
def aHG (r0 r1 : DV) (h : H) : aV := vK (dF .u64 r1) λ x1 => vK (uH x1 (.int .u64 (.ofNat 1))) λ x2 => vK (lL r1 (.int .u64 (.ofNat 63))) λ x3 => vK (dF .u64 x3) λ x4 => vK (pT x2 x4) λ x5 => aBa E aT r0 x5 h
theorem bHO : Is E bJI (bQ aHY.res) (λ σ h => aEf E (σ p0) (σ p5) h) := Is.rf
abbrev bGi : iL (DV × H) := (cJ (λ σ h => aEf E (σ p0) (σ p5) h) (bQ aHY.res))
theorem bHN : Is E bJH (cE 0 (bGi E)) (λ σ h => aBa E aT (σ p0) (σ p5) h) := Is.lp (λ n2 σ h => aBa E n2 (σ p0) (σ p5) h) λ n2 => Is.aq (Is.leaf _)
theorem bHP : mO E aHY (aHG E) := Is.aq (Is.sq (Is.sq (Is.sq (bHO E) (Is.bk (bHN E))) (Is.leaf _)) (Is.leaf _))
def aMz : bU := mD (aHG E)
theorem aPG : SQ aHY aMz := mZ bHP
def aYr := cm 117
def aHF (r0 r1 : DV) (h : H) : aV := vK (dM .ptr false h.get r0 .nilp) λ x1 => aQ x1 false (λ kk => kk r0 h) h λ x2 h3 => aQ x1 false (λ kk => vK (aH x2) λ v => kk v h3) h3 λ x4 h5 => aQ x1 false (λ kk => vK (aP 1 x4) λ v => kk v h5) h5 λ x6 h7 => aQ x1 false (λ kk => vK (aO h7.get x6) λ v => kk v h7) h7 λ x8 h9 => vK (aN x1 (.bool true) x8) λ x10 => aQ x10 false (λ kk => kk r1 h9) h9 λ x11 h12 => aQ x10 false (λ kk => vK (bV x11 (ii 0)) λ v => kk v h12) h12 λ x13 h14 => vK (aN x10 (.bool true) x13) λ x15 => aQ x15 false (λ kk => kk r1 h14) h14 λ x16 h17 => aQ x15 false (λ kk => kk r0 h17) h17 λ x18 h19 => aQ x15 false (λ kk => vK (aH x18) λ v => kk v h19) h19 λ x20 h21 => aQ x15 false (λ kk => vK (aP 0 x20) λ v => kk v h21) h21 λ x22 h23 => aQ x15 false (λ kk => vK (aO h23.get x22) λ v => kk v h23) h23 λ x24 h25 => aQ x15 false (λ kk => vK (eO x24) λ v => kk v h25) h25 λ x26 h27 => aQ x15 false (λ kk => vK (dS x16 x26) λ v => kk v h27) h27 λ x28 h29 => vK (aN x15 (.bool true) x28) λ x30 => bK x30 (wK (aC E 148 [r0] h29) λ x31 h32 => some ((.tup [(.str []), (.bool false)]), h32)) (vK (aH r0) λ x33 => vK (aP 0 x33) λ x34 => vK (aO h29.get x34) λ x35 => vK (iP x35 none (some r1)) λ x36 => vK (aH r0) λ x37 => vK (aP 0 x37) λ x38 => vK (aO h29.get x38) λ x39 => vK (iP x39 (some r1) none) λ x40 => vK (aH r0) λ x41 => vK (aP 0 x41) λ x42 => wK (eU 1 x42 x40 h29) λ x43 h44 => some ((.tup [x36, (.bool true)]), h44))
theorem bHM : mO E aYr (aHF E) := Is.rf
def aMy : bU := mD (aHF E)
theorem aPF : SQ aYr aMy := mZ bHM
def aYq := cm 118
def aHE (r0 : DV) (h : H) : aV := vK (dM .ptr false h.get r0 .nilp) λ x1 => bK x1 (some ((ii 0), h)) (vK (aH r0) λ x2 => vK (aP 0 x2) λ x3 => vK (aO h.get x3) λ x4 => wK (aC E 149 [x4] h) λ x5 h6 => vK (aX 0 x5) λ x7 => vK (aX 1 x5) λ x8 => vK (cU x8 (ii 0)) λ x9 => bK x9 (wK (aC E 148 [r0] h6) λ x10 h11 => some ((ii 0), h11)) (wK (aC E 117 [r0, x8] h6) λ x12 h13 => vK (lL x7 (.int .u64 (.ofNat 1))) λ x14 => vK (dF .i64 x14) λ x15 => vK (nX x7 (.int .u64 (.ofNat 1))) λ x16 => vK (dF .i64 x16) λ x17 => vK (xA x17) λ x18 => vK (pT x15 x18) λ x19 => some (x19, h13)))
theorem bHL : nN E aYq (aHE E) := Is.rf
def aMx : bU := nG (aHE E)
theorem aPE : SQ aYq aMx := nR bHL
def aHX := cm 119
def bJG := cr (cr (cr (cr (cr aHX.body))))
def bJF := cl (cr (cl (cr (cr (cr (cr aHX.body))))))
def aMV (E : bF) (r6 : DV) (h : H) : aV := some (r6, h)
def bJX (r0 r1 r26 : DV) (i2 : DV → DV → H → aV) (r6 r27 : DV) (h : H) : aV := vK (bV r27 r26) λ x1 => bK x1 (wK (lY E r1 [] h) λ x2 h3 => eX 1 1 [(ii 0)] [(0, 1, x2)] h3 λ x4 h5 => wK (cT 1 8 r6 x4 h5) λ x6 h7 => vK (aH r0) λ x8 => vK (aP 1 x8) λ x9 => vK (aO h7.get x9) λ x10 => bK x10 (some (.nils, h7)) (vK (cG r27 (ii 1)) λ x11 => i2 x6 x11 h7)) (aMV E r6 h)
def aMI (r0 r1 r26 : DV) (n : Nat) : DV → DV → H → aV := Nat.rec (motive := λ _ => DV → DV → H → aV) (λ _ _ _ => none) (λ _ i => bJX E r0 r1 r26 i) n
def aXG (r0 r1 : DV) (h : H) : aV := wK (aC E 118 [r0] h) λ x1 h2 => vK (dM .ptr false h2.get r0 .nilp) λ x3 => aQ x3 false (λ kk => kk x1 h2) h2 λ x4 h5 => aQ x3 false (λ kk => vK (bV x4 (ii 0)) λ v => kk v h5) h5 λ x6 h7 => vK (aN x3 (.bool true) x6) λ x8 => aQ x8 false (λ kk => kk x1 h7) h7 λ x9 h10 => aQ x8 false (λ kk => kk r0 h10) h10 λ x11 h12 => aQ x8 false (λ kk => vK (aH x11) λ v => kk v h12) h12 λ x13 h14 => aQ x8 false (λ kk => vK (aP 0 x13) λ v => kk v h14) h14 λ x15 h16 => aQ x8 false (λ kk => vK (aO h16.get x15) λ v => kk v h16) h16 λ x17 h18 => aQ x8 false (λ kk => vK (eO x17) λ v => kk v h18) h18 λ x19 h20 => aQ x8 false (λ kk => vK (dS x9 x19) λ v => kk v h20) h20 λ x21 h22 => vK (aN x8 (.bool true) x21) λ x23 => bK x23 (wK (aC E 148 [r0] h22) λ x24 h25 => some (.nils, h25)) (aMI E r0 r1 x1 aT .nils (ii 0) h22)
theorem bHJ : Is E bJG (bQ aHX.res) (λ σ h => aMV E (σ p6) h) := Is.rf
abbrev bGh : iL (DV × H) := (cJ (λ σ h => aMV E (σ p6) h) (bQ aHX.res))
theorem bHI : Is E bJF (cE 0 (bGh E)) (λ σ h => aMI E (σ p0) (σ p1) (σ p26) aT (σ p6) (σ p27) h) := Is.lp (λ n2 σ h => aMI E (σ p0) (σ p1) (σ p26) n2 (σ p6) (σ p27) h) λ n2 => Is.aq (Is.leaf _)
theorem bHK : mO E aHX (aXG E) := Is.aq (Is.sq (Is.sq (Is.sq (Is.sq (Is.sq (bHJ E) (Is.sq (Is.bk (bHI E)) (Is.leaf _))) (Is.leaf _)) (Is.leaf _)) (Is.leaf _)) (Is.leaf _))
def aWx : bU := mD (aXG E)
theorem aPD : SQ aHX aWx := mZ bHK
def aNo := cm 120
def bJE := cr (cr aNo.body)
def aMU (r0 r3 : DV) (h : H) : aV := wK (aC E 114 [r0, (.fn (.func 150) [] [r3])] h) λ x1 h2 => some ((.tup []), h2)
def aXF (r0 r1 : DV) (h : H) : aV := dN r1 h λ x1 h2 => vK (dM .ptr true h2.get r0 .nilp) λ x3 => aQ x3 true (λ kk => kk r0 h2) h2 λ x4 h5 => aQ x3 true (λ kk => vK (aH x4) λ v => kk v h5) h5 λ x6 h7 => aQ x3 true (λ kk => vK (aP 2 x6) λ v => kk v h7) h7 λ x8 h9 => aQ x3 true (λ kk => vK (aO h9.get x8) λ v => kk v h9) h9 λ x10 h11 => aQ x3 true (λ kk => vK (cU x10 (ii 0)) λ v => kk v h11) h11 λ x12 h13 => vK (aN x3 x12 (.bool false)) λ x14 => aQ x14 true (λ kk => vK (aO h13.get x1) λ v => kk v h13) h13 λ x15 h16 => aQ x14 true (λ kk => vK (bV x15 (ii 0)) λ v => kk v h16) h16 λ x17 h18 => aQ x14 true (λ kk => kk x17 h18) h18 λ x19 h20 => aQ x19 false (λ kk => vK (aO h20.get x1) λ v => kk v h20) h20 λ x21 h22 => aQ x19 false (λ kk => vK (dS x21 (ii 255)) λ v => kk v h22) h22 λ x23 h24 => aQ x14 true (λ kk => vK (aN x19 (.bool true) x23) λ v => kk v h24) h24 λ x25 h26 => vK (aN x14 x25 (.bool false)) λ x27 => bK x27 (vK (aH r0) λ x28 => vK (aP 2 x28) λ x29 => wK (eU 1 x29 (ii 1) h26) λ x30 h31 => aMU E r0 x1 h31) (aMU E r0 x1 h26)
theorem bHG : Is E bJE (bQ aNo.res) (λ σ h => aMU E (σ p0) (σ p3) h) := Is.rf
theorem bHH : mO E aNo (aXF E) := Is.aq (Is.sq (Is.sq (bHG E) (Is.leaf _)) (Is.leaf _))
def aWw : bU := mD (aXF E)
theorem aPC : SQ aNo aWw := mZ bHH
def aYp := cm 121
def aXE (r0 r1 : DV) (h : H) : aV := dN r1 h λ x1 h2 => wK (aC E 114 [r0, (.fn (.func 151) [] [x1])] h2) λ x3 h4 => some ((.tup []), h4)
theorem bHF : mO E aYp (aXE E) := Is.rf
def aWv : bU := mD (aXE E)
theorem aPB : SQ aYp aWv := mZ bHF
def aYo := cm 122
def aXD (E : bF) (r0 r1 : DV) (h : H) : aV := vK (fV r0 (ii 0)) λ x1 => aQ x1 true (λ kk => kk r0 h) h λ x2 h3 => aQ x1 true (λ kk => vK (bV x2 (ii 64)) λ v => kk v h3) h3 λ x4 h5 => vK (aN x1 x4 (.bool false)) λ x6 => aQ x6 true (λ kk => kk r1 h5) h5 λ x7 h8 => aQ x6 true (λ kk => vK (fV x7 (ii 0)) λ v => kk v h8) h8 λ x9 h10 => vK (aN x6 x9 (.bool false)) λ x11 => aQ x11 true (λ kk => kk r1 h10) h10 λ x12 h13 => aQ x11 true (λ kk => vK (bV x12 (ii 2147483648)) λ v => kk v h13) h13 λ x14 h15 => vK (aN x11 x14 (.bool false)) λ x16 => some (x16, h15)
theorem bHE : mO E aYo (aXD E) := Is.rf
def aWu : bU := mD (aXD E)
theorem aPA : SQ aYo aWu := mZ bHE
def aYn := cm 123
def aXC (r0 r1 r2 : DV) (h : H) : aV := vK (aH r0) λ x1 => vK (aP 1 x1) λ x2 => vK (aO h.get x2) λ x3 => vK (uI .int .nils false h.get x3 r1) λ x4 => wK (aC E 152 [x4, r2, (.fn (.func 153) [] [])] h) λ x5 h6 => vK (aX 0 x5) λ x7 => vK (aX 1 x5) λ x8 => some ((.tup [x7, x8]), h6)
theorem bHD : iB3 E aYn (aXC E) := Is.rf
def aWt : bU := fA3 (aXC E)
theorem aPz : SQ aYn aWt := eB3 bHD
def aYm := cm 124
def aXB (r0 r1 r2 : DV) (h : H) : aV := vK (fQ 3 r0 (some r1) none) λ x1 => vK (bH r2) λ x2 => vK (cU x2 (ii 0)) λ x3 => bK x3 (some (r0, h)) (vK (bH r0) λ x4 => vK (cU r1 x4) λ x5 => bK x5 (wK (cT 3 32 r0 r2 h) λ x6 h7 => some (x6, h7)) (vK (cG x4 x2) λ x8 => vK (aCz r0) λ x9 => vK (dS x8 x9) λ x10 => bK x10 (vK (fQ 3 r0 none (some r1)) λ x11 => vK (cG x4 x2) λ x12 => vK (iX x12 r1) λ x13 => wK (aEF 3 32 [(ii 0), (.bool false), (.str [])] x11 x13 h) λ x14 h15 => vK (fQ 3 x14 (some r1) none) λ x16 => wK (lF 3 x16 r2 h15) λ x17 h18 => vK (cG r1 x2) λ x19 => vK (fQ 3 x14 (some x19) none) λ x20 => vK (fQ 3 r0 (some r1) none) λ x21 => wK (lF 3 x20 x21 h18) λ x22 h23 => some (x14, h23)) (vK (cG x4 x2) λ x24 => vK (fQ 3 r0 none (some x24)) λ x25 => vK (cG r1 x2) λ x26 => vK (fQ 3 x25 (some x26) none) λ x27 => vK (aIk h.get r2 x27) λ x28 => vK (fH x28) λ x29 => bK x29 (vK (cG r1 x2) λ x30 => vK (fQ 3 x25 (some x30) none) λ x31 => vK (fQ 3 x25 (some r1) none) λ x32 => wK (lF 3 x31 x32 h) λ x33 h34 => vK (fQ 3 x25 (some r1) none) λ x35 => wK (lF 3 x35 r2 h34) λ x36 h37 => some (x25, h37)) (vK (fQ 3 x25 (some x4) none) λ x38 => wK (lF 3 x38 r2 h) λ x39 h40 => vK (fQ 3 x25 (some r1) none) λ x41 => wK (aC E 155 [x41, x2] h40) λ x42 h43 => some (x25, h43)))))
theorem bHC : iB3 E aYm (aXB E) := Is.rf
def aWs : bU := fA3 (aXB E)
theorem aPy : SQ aYm aWs := eB3 bHC
def aYl := cm 125
def aXA (r0 r1 : DV) (h : H) : aV := dN r1 h λ x1 h2 => vK (aH r0) λ x3 => vK (aP 1 x3) λ x4 => vK (aO h2.get x4) λ x5 => vK (aP 0 x1) λ x6 => vK (aO h2.get x6) λ x7 => vK (aH r0) λ x8 => vK (aP 0 x8) λ x9 => vK (aO h2.get x9) λ x10 => vK (aP 3 x1) λ x11 => vK (aO h2.get x11) λ x12 => vK (aH r0) λ x13 => vK (aP 0 x13) λ x14 => vK (aO h2.get x14) λ x15 => wK (aC E 102 [x10] h2) λ x16 h17 => rK (rcK (aO h17.get x14) x15) <| rK (rcK (aO h17.get x11) x12) <| rK (rcK (aO h17.get x6) x7) <| rK (rcK (aO h17.get x4) x5) <| wK (aC E 157 [x15] h17) λ x18 h19 => rK (rcK (aO h19.get x11) x12) <| rK (rcK (aO h19.get x6) x7) <| rK (rcK (aO h19.get x4) x5) <| wK (aC E 156 [x5, x7, x16, x12, x18] h19) λ x20 h21 => vK (aX 0 x20) λ x22 => vK (aX 1 x20) λ x23 => vK (aH r0) λ x24 => vK (aP 0 x24) λ x25 => vK (aO h21.get x25) λ x26 => wK (aC E 102 [x26] h21) λ x27 h28 => eX 2 1 [(ii 0)] [(0, 1, x22), (1, 1, x27)] h28 λ x29 h30 => some ((.tup [x29, x23]), h30)
theorem bHB : mO E aYl (aXA E) := Is.rf
def aWr : bU := mD (aXA E)
theorem aPx : SQ aYl aWr := mZ bHB
def aNn := cm 126
def bJD := cr (cr (cr (cr (cr aNn.body))))
def aHC (E : bF) (r8 : DV) (h : H) : aV := some ((.tup [.nils, r8]), h)
def aHD (r0 r1 : DV) (h : H) : aV := dN r1 h λ x1 h2 => vK (aH r0) λ x3 => vK (aP 1 x3) λ x4 => vK (aO h2.get x4) λ x5 => vK (aP 3 x1) λ x6 => vK (aO h2.get x6) λ x7 => jJ 6 6 (.list [(ii 0), (ii 0), (ii 0), (ii 0), (ii 0), .nils]) h2 λ x8 h9 => wK (aC E 100 [x5, x7] h9) λ x10 h11 => vK (aX 0 x10) λ x12 => vK (aX 1 x10) λ x13 => wK (eU 6 x8 x12 h11) λ x14 h15 => aQ x13 true (λ kk => vK (aP 1 x8) λ v => kk v h15) h15 λ x16 h17 => aQ x13 true (λ kk => vK (aO h17.get x16) λ v => kk v h17) h17 λ x18 h19 => aQ x13 true (λ kk => vK (cU x18 (ii 1)) λ v => kk v h19) h19 λ x20 h21 => vK (aN x13 x20 (.bool false)) λ x22 => aQ x22 true (λ kk => vK (aP 2 x8) λ v => kk v h21) h21 λ x23 h24 => aQ x22 true (λ kk => vK (aO h24.get x23) λ v => kk v h24) h24 λ x25 h26 => aQ x22 true (λ kk => vK (aP 0 x1) λ v => kk v h26) h26 λ x27 h28 => aQ x22 true (λ kk => vK (aO h28.get x27) λ v => kk v h28) h28 λ x29 h30 => aQ x22 true (λ kk => vK (cU x25 x29) λ v => kk v h30) h30 λ x31 h32 => vK (aN x22 x31 (.bool false)) λ x33 => aQ x33 true (λ kk => vK (aP 3 x8) λ v => kk v h32) h32 λ x34 h35 => aQ x33 true (λ kk => vK (aO h35.get x34) λ v => kk v h35) h35 λ x36 h37 => aQ x33 true (λ kk => kk r0 h37) h37 λ x38 h39 => aQ x33 true (λ kk => vK (aH x38) λ v => kk v h39) h39 λ x40 h41 => aQ x33 true (λ kk => vK (aP 0 x40) λ v => kk v h41) h41 λ x42 h43 => aQ x33 true (λ kk => vK (aO h43.get x42) λ v => kk v h43) h43 λ x44 h45 => aQ x33 true (λ kk => wK (aC E 102 [x44] h45) kk) h45 λ x46 h47 => rK (gB x33 true (rcK (aO h47.get x34) x36)) <| aQ x33 true (λ kk => vK (dR x36 x46) λ v => kk v h47) h47 λ x48 h49 => vK (aN x33 x48 (.bool false)) λ x50 => bK x50 (some ((.tup [.nils, (ii 10)]), h49)) (vK (aH r0) λ x51 => vK (aP 1 x51) λ x52 => vK (aO h49.get x52) λ x53 => vK (aP 3 x1) λ x54 => vK (aO h49.get x54) λ x55 => vK (aP 0 x1) λ x56 => vK (aO h49.get x56) λ x57 => wK (aC E 158 [x53, x55, x57] h49) λ x58 h59 => vK (cU x58 (ii 0)) λ x60 => aQ x60 true (λ kk => vK (aP 4 x8) λ v => kk v h59) h59 λ x61 h62 => aQ x60 true (λ kk => vK (aO h62.get x61) λ v => kk v h62) h62 λ x63 h64 => aQ x60 true (λ kk => vK (dS x63 (ii 0)) λ v => kk v h64) h64 λ x65 h66 => vK (aN x60 x65 (.bool false)) λ x67 => bK x67 (vK (aH r0) λ x68 => vK (aP 3 x68) λ x69 => vK (aO h66.get x69) λ x70 => vK (aP 3 x1) λ x71 => vK (aO h66.get x71) λ x72 => vK (aP 4 x8) λ x73 => vK (aO h66.get x73) λ x74 => vK (aP 4 x8) λ x75 => vK (aO h66.get x75) λ x76 => wK (aC E 159 [x70, x72, x74, x76, (ii 0)] h66) λ x77 h78 => aHC E x58 h78) (aHC E x58 h66))
theorem bHz : Is E bJD (bQ aNn.res) (λ σ h => aHC E (σ p8) h) := Is.rf
theorem bHA : mO E aNn (aHD E) := Is.aq (Is.sq (Is.sq (Is.sq (Is.sq (Is.sq (bHz E) (Is.leaf _)) (Is.leaf _)) (Is.leaf _)) (Is.leaf _)) (Is.leaf _))
def aMw : bU := mD (aHD E)
theorem aPw : SQ aNn aMw := mZ bHA
def bIZ := cm 135
def aHB (r0 : DV) (h : H) : aV := vK (aH r0) λ x1 => vK (aP 1 x1) λ x2 => vK (aO h.get x2) λ x3 => wK (aC E 111 [x3, (.fn (.func 178) [] [])] h) λ x4 h5 => some (x4, h5)
theorem bHy : nN E bIZ (aHB E) := Is.rf
def aWq : bU := nG (aHB E)
theorem bAV : SQ bIZ aWq := nR bHy
def aNm := cm 136
def bJC := cr (cr aNm.body)
def aNs := cl (cr (cl (cr aNm.body)))
def bJB := cr (cr (cr (cl aNs)))
def bJA := cr (cr (cr (cl (cl (cr (cr (cl aNs)))))))
def aMT (E : bF) (h : H) : aV := some ((ii 0), h)
def aHz (E : bF) (i2 : DV → H → aV) (r12 : DV) (h : H) : aV := vK (cG r12 (ii 1)) λ x1 => i2 x1 h
def aHy (i2 : DV → H → aV) (r0 r9 r12 : DV) (h : H) : aV := vK (dR r9 (ii 0)) λ x1 => bK x1 (vK (aH r0) λ x2 => vK (aP 2 x2) λ x3 => wK (eU 1 x3 (.bool true) h) λ x4 h5 => some (r9, h5)) (aHz E i2 r12 h)
def aEp (r0 r1 r10 r11 : DV) (i2 : DV → H → aV) (r12 : DV) (h : H) : aV := vK (bV r12 r11) λ x1 => bK x1 (vK (cW 1 r10 r12) λ x2 => vK (aO h.get x2) λ x3 => vK (bV r1 (ii 0)) λ x4 => aQ x4 false (λ kk => kk r12 h) h λ x5 h6 => aQ x4 false (λ kk => kk r1 h6) h6 λ x7 h8 => aQ x4 false (λ kk => vK (bV x5 x7) λ v => kk v h8) h8 λ x9 h10 => vK (aN x4 (.bool true) x9) λ x11 => bK x11 (wK (lY E x3 [] h10) λ x12 h13 => aHy E i2 r0 x12 r12 h13) (aHy E i2 r0 (ii 16) r12 h10)) (aMT E h)
def nV (r0 r1 r10 r11 : DV) (n : Nat) : DV → H → aV := Nat.rec (motive := λ _ => DV → H → aV) (λ _ _ => none) (λ _ i => aEp E r0 r1 r10 r11 i) n
def aHA (r0 r1 r2 : DV) (h : H) : aV := vK (bH r2) λ x1 => nV E r0 r1 r2 x1 aT (ii 0) h
theorem bHw : Is E bJC (bQ aNm.res) (λ σ h => aMT E h) := Is.rf
abbrev aWL : iL (DV × H) := (cE 0 (cJ (λ σ h => aMT E h) (bQ aNm.res)))
abbrev aWK (n2 : Nat) : iL (DV × H) := (cJ (λ σ h => (nV E (σ p0) (σ p1) (σ mJ) (σ tW) n2) (σ uC) h) (aWL E))
theorem bHu (n2 : Nat) : Is E bJB (aWK E n2) (λ σ h => aHz E (nV E (σ p0) (σ p1) (σ mJ) (σ tW) n2) (σ uC) h) := Is.rf
abbrev bGg (n2 : Nat) : iL (DV × H) := (cJ (λ σ h => aHz E (nV E (σ p0) (σ p1) (σ mJ) (σ tW) n2) (σ uC) h) (aWK E n2))
theorem bHt (n2 : Nat) : Is E bJA (cE 1 (bGg E n2)) (λ σ h => aHy E (nV E (σ p0) (σ p1) (σ mJ) (σ tW) n2) (σ p0) (σ p9) (σ uC) h) := Is.rf
theorem bHv : Is E aNs (aWL E) (λ σ h => nV E (σ p0) (σ p1) (σ mJ) (σ tW) aT (σ uC) h) := Is.lp (λ n2 σ h => nV E (σ p0) (σ p1) (σ mJ) (σ tW) n2 (σ uC) h) λ n2 => Is.aq (Is.sq (Is.sq (Is.sq (bHu E n2) (Is.bk (Is.sq (Is.sq (Is.sq (bHt E n2) (Is.leaf _)) (Is.leaf _)) (Is.leaf _)))) (Is.leaf _)) (Is.leaf _))
theorem bHx : iB3 E aNm (aHA E) := Is.aq (Is.sq (Is.sq (bHw E) (Is.sq (Is.bk (bHv E)) (Is.leaf _))) (Is.leaf _))
def aSq : bU := fA3 (aHA E)
theorem bAU : SQ aNm aSq := eB3 bHx
def bIY := cm 137
def aHx (E : bF) (r0 r1 r2 : DV) (h : H) : aV := dN r0 h λ x1 h2 => dN r1 h2 λ x3 h4 => dN r2 h4 λ x5 h6 => some ((.fn (.func 179) [] [x1, x3, x5]), h6)
theorem bHs : iB3 E bIY (aHx E) := Is.rf
def aSp : bU := fA3 (aHx E)
theorem bAT : SQ bIY aSp := eB3 bHs
def bIX := cm 138
def aHw (r0 : DV) (h : H) : aV := vK (aH r0) λ x1 => vK (aP 0 x1) λ x2 => vK (aO h.get x2) λ x3 => wK (aC E 181 [x3] h) λ x4 h5 => some ((ii 0), h5)
theorem bHr : nN E bIX (aHw E) := Is.rf
def aMv : bU := nG (aHw E)
theorem bAS : SQ bIX aMv := nR bHr
def aYk := cm 139
def aXz (E : bF) (r0 r1 : DV) (h : H) : aV := vK (dM .ptr false h.get r0 .nilp) λ x1 => aQ x1 false (λ kk => kk r1 h) h λ x2 h3 => aQ x1 false (λ kk => vK (bV x2 (ii 0)) λ v => kk v h3) h3 λ x4 h5 => vK (aN x1 (.bool true) x4) λ x6 => aQ x6 false (λ kk => kk r1 h5) h5 λ x7 h8 => aQ x6 false (λ kk => kk r0 h8) h8 λ x9 h10 => aQ x6 false (λ kk => vK (aH x9) λ v => kk v h10) h10 λ x11 h12 => aQ x6 false (λ kk => vK (aP 0 x11) λ v => kk v h12) h12 λ x13 h14 => aQ x6 false (λ kk => vK (aO h14.get x13) λ v => kk v h14) h14 λ x15 h16 => aQ x6 false (λ kk => vK (bH x15) λ v => kk v h16) h16 λ x17 h18 => aQ x6 false (λ kk => vK (fV x7 x17) λ v => kk v h18) h18 λ x19 h20 => vK (aN x6 (.bool true) x19) λ x21 => bK x21 (some (.nilp, h20)) (vK (aH r0) λ x22 => vK (aP 0 x22) λ x23 => vK (aO h20.get x23) λ x24 => vK (cW 6 x24 r1) λ x25 => some (x25, h20))
theorem bHq : mO E aYk (aXz E) := Is.rf
def aWp : bU := mD (aXz E)
theorem aPv : SQ aYk aWp := mZ bHq
def aYj := cm 140
def aXy (E : bF) (r0 : DV) (h : H) : aV := vK (dM .nilL false h.get r0 .nils) λ x1 => bK x1 (some (.nils, h)) (eX 0 1 [(ii 0)] [] h λ x2 h3 => wK (cT 1 8 x2 r0 h3) λ x4 h5 => some (x4, h5))
theorem bHp : nN E aYj (aXy E) := Is.rf
def aWo : bU := nG (aXy E)
theorem aPu : SQ aYj aWo := nR bHp
def bIW := cm 141
def aXx (E : bF) (h : H) : aV := none
theorem bHo : mO E bIW (λ _ _ h => aXx E h) := Is.rf
def bFQ : bU := mD (λ _ _ h => aXx E h)
theorem bAR : SQ bIW bFQ := mZ bHo
def bIV := cm 142
def aBb (r0 r1 : DV) (h : H) : aV := dN r1 h λ x1 h2 => vK (dM .ptr false h2.get r0 .nilp) λ x3 => bK x3 (some ((.tup [(.str []), (ii 1)]), h2)) (vK (dE 2 h2.get x1) λ x4 => wK (aC E 75 [r0, x4] h2) λ x5 h6 => vK (bV x5 (ii 0)) λ x7 => bK x7 (some ((.tup [(.str []), (ii 7)]), h6)) (vK (aH r0) λ x8 => vK (aP 2 x8) λ x9 => vK (aO h6.get x9) λ x10 => bK x10 (some ((.tup [(.str []), (ii 16)]), h6)) (vK (aH r0) λ x11 => vK (aP 0 x11) λ x12 => vK (aO h6.get x12) λ x13 => vK (jP x5 (ii 9)) λ x14 => vK (cG x14 (ii 1)) λ x15 => wK (aC E 73 [x13, x15, (ii 8)] h6) λ x16 h17 => vK (aX 0 x16) λ x18 => vK (aX 1 x16) λ x19 => vK (dR x19 (ii 0)) λ x20 => bK x20 (some ((.tup [(.str []), x19]), h17)) (vK (aH r0) λ x21 => vK (aP 1 x21) λ x22 => vK (aO h17.get x22) λ x23 => vK (cW 4 x23 x5) λ x24 => vK (aP 3 x24) λ x25 => vK (aO h17.get x25) λ x26 => vK (iP x18 none (some x26)) λ x27 => some ((.tup [x27, (ii 0)]), h17)))))
theorem bHn : mO E bIV (aBb E) := Is.rf
def aWn : bU := mD (aBb E)
theorem bAQ : SQ bIV aWn := mZ bHn
def aHW := cm 143
def bJz := cr (cr (cr aHW.body))
def bJy := cl (cr (cl (cr (cr aHW.body))))
def aMS (E : bF) (h : H) : aV := some ((.bool true), h)
def bJW (r0 r13 r14 : DV) (i2 : DV → H → aV) (r15 : DV) (h : H) : aV := vK (bV r15 r14) λ x1 => bK x1 (vK (cW 1 r13 r15) λ x2 => vK (aO h.get x2) λ x3 => vK (bV x3 (ii 0)) λ x4 => aQ x4 false (λ kk => kk x3 h) h λ x5 h6 => aQ x4 false (λ kk => vK (dS x5 (ii 63)) λ v => kk v h6) h6 λ x7 h8 => vK (aN x4 (.bool true) x7) λ x9 => aQ x9 false (λ kk => kk r0 h8) h8 λ x10 h11 => aQ x9 false (λ kk => kk r15 h11) h11 λ x12 h13 => aQ x9 false (λ kk => vK (fQ 1 x10 none (some x12)) λ v => kk v h13) h13 λ x14 h15 => aQ x9 false (λ kk => kk x3 h15) h15 λ x16 h17 => aQ x9 false (λ kk => wK (aC E 72 [x14, x16] h17) kk) h17 λ x18 h19 => vK (aN x9 (.bool true) x18) λ x20 => bK x20 (some ((.bool false), h19)) (vK (cG r15 (ii 1)) λ x21 => i2 x21 h19)) (aMS E h)
def aMH (r0 r13 r14 : DV) (n : Nat) : DV → H → aV := Nat.rec (motive := λ _ => DV → H → aV) (λ _ _ => none) (λ _ i => bJW E r0 r13 r14 i) n
def aXw (r0 : DV) (h : H) : aV := vK (bH r0) λ x1 => vK (bV x1 (ii 2)) λ x2 => aQ x2 false (λ kk => kk r0 h) h λ x3 h4 => aQ x2 false (λ kk => vK (bH x3) λ v => kk v h4) h4 λ x5 h6 => aQ x2 false (λ kk => vK (dS x5 (ii 8)) λ v => kk v h6) h6 λ x7 h8 => vK (aN x2 (.bool true) x7) λ x9 => bK x9 (some ((.bool false), h8)) (vK (bH r0) λ x10 => aMH E r0 r0 x10 aT (ii 0) h8)
theorem bHl : Is E bJz (bQ aHW.res) (λ σ h => aMS E h) := Is.rf
abbrev bGf : iL (DV × H) := (cE 0 (cJ (λ σ h => aMS E h) (bQ aHW.res)))
theorem bHk : Is E bJy (bGf E) (λ σ h => aMH E (σ p0) (σ tV) (σ xC) aT (σ p15) h) := Is.lp (λ n2 σ h => aMH E (σ p0) (σ tV) (σ xC) n2 (σ p15) h) λ n2 => Is.aq (Is.leaf _)
theorem bHm : nN E aHW (aXw E) := Is.aq (Is.sq (Is.sq (Is.sq (bHl E) (Is.sq (Is.bk (bHk E)) (Is.leaf _))) (Is.leaf _)) (Is.leaf _))
def aWm : bU := nG (aXw E)
theorem aPt : SQ aHW aWm := nR bHm
def aYi := cm 144
def aXv (E : bF) (r0 r1 r2 : DV) (h : H) : aV := vK (cG r2 r1) λ x1 => vK (bH r0) λ x2 => vK (aNv x1 x2) λ x3 => some (x3, h)
theorem bHj : iB3 E aYi (aXv E) := Is.rf
def aWl : bU := fA3 (aXv E)
theorem aPs : SQ aYi aWl := eB3 bHj
def bIU := cm 145
def aHv (E : bF) (r0 : DV) (h : H) : aV := vK (dF .u8 r0) λ x1 => vK (lL r0 (.int .u64 (.ofNat 8))) λ x2 => vK (dF .u8 x2) λ x3 => vK (lL r0 (.int .u64 (.ofNat 16))) λ x4 => vK (dF .u8 x4) λ x5 => vK (lL r0 (.int .u64 (.ofNat 24))) λ x6 => vK (dF .u8 x6) λ x7 => eX 4 1 [(.int .u8 (.ofNat 0))] [(0, 1, x1), (1, 1, x3), (2, 1, x5), (3, 1, x7)] h λ x8 h9 => vK (iQ h9.get x8) λ x10 => some (x10, h9)
theorem bHi : nN E bIU (aHv E) := Is.rf
def aKs : bU := nG (aHv E)
theorem bAP : SQ bIU aKs := nR bHi
def bIT := cm 146
def aHu (r0 : DV) (h : H) : aV := wK (aC E 182 [(.int .u32 (.ofNat 0)), r0] h) λ x1 h2 => some (x1, h2)
theorem bHh : nN E bIT (aHu E) := Is.rf
def aEH : bU := nG (aHu E)
theorem bAO : SQ bIT aEH := nR bHh
def bIS := cm 147
def aHt (r0 : DV) (h : H) : aV := wK (aC E 146 [r0] h) λ x1 h2 => wK (aC E 183 [x1] h2) λ x3 h4 => vK (cG r0 x3) λ x5 => some (x5, h4)
theorem bHg : nN E bIS (aHt E) := Is.rf
def aSo : bU := nG (aHt E)
theorem bAN : SQ bIS aSo := nR bHg
def aYh := cm 148
def aHs (E : bF) (r0 : DV) (h : H) : aV := vK (dM .ptr true h.get r0 .nilp) λ x1 => bK x1 (vK (aH r0) λ x2 => vK (aP 0 x2) λ x3 => wK (eU 1 x3 (.str []) h) λ x4 h5 => vK (aH r0) λ x6 => vK (aP 1 x6) λ x7 => wK (eU 1 x7 (.bool true) h5) λ x8 h9 => some ((.tup []), h9)) (some ((.tup []), h))
theorem bHf : nN E aYh (aHs E) := Is.rf
def aMu : bU := nG (aHs E)
theorem aPr : SQ aYh aMu := nR bHf
def aHV := cm 149
def bJx := cr (cr (cr aHV.body))
def bJw := cl (cr (cl (cr (cr aHV.body))))
def aEe (E : bF) (h : H) : aV := some ((.tup [(.int .u64 (.ofNat 0)), (ii 0)]), h)
def aEo (r0 r9 : DV) (i2 : DV → DV → H → aV) (r4 r10 : DV) (h : H) : aV := vK (bV r10 r9) λ x1 => bK x1 (vK (oV r0 r10) λ x2 => vK (dF .u64 x2) λ x3 => vK (nX x3 (.int .u64 (.ofNat 127))) λ x4 => vK (jP (ii 7) r10) λ x5 => vK (uH x4 x5) λ x6 => vK (aEv r4 x6) λ x7 => vK (fV x3 (.int .u64 (.ofNat 128))) λ x8 => bK x8 (vK (cG r10 (ii 1)) λ x9 => i2 x7 x9 h) (vK (dS r10 (ii 0)) λ x10 => aQ x10 true (λ kk => kk x3 h) h λ x11 h12 => aQ x10 true (λ kk => vK (cU x11 (.int .u64 (.ofNat 0))) λ v => kk v h12) h12 λ x13 h14 => vK (aN x10 x13 (.bool false)) λ x15 => aQ x15 false (λ kk => kk r10 h14) h14 λ x16 h17 => aQ x15 false (λ kk => vK (cU x16 (ii 9)) λ v => kk v h17) h17 λ x18 h19 => aQ x15 false (λ kk => kk x18 h19) h19 λ x20 h21 => aQ x20 true (λ kk => kk x3 h21) h21 λ x22 h23 => aQ x20 true (λ kk => vK (dS x22 (.int .u64 (.ofNat 1))) λ v => kk v h23) h23 λ x24 h25 => aQ x15 false (λ kk => vK (aN x20 x24 (.bool false)) λ v => kk v h25) h25 λ x26 h27 => vK (aN x15 (.bool true) x26) λ x28 => bK x28 (some ((.tup [(.int .u64 (.ofNat 0)), (ii 0)]), h27)) (vK (cG r10 (ii 1)) λ x29 => some ((.tup [x7, x29]), h27)))) (aEe E h)
def aAZ (r0 r9 : DV) (n : Nat) : DV → DV → H → aV := Nat.rec (motive := λ _ => DV → DV → H → aV) (λ _ _ _ => none) (λ _ i => aEo E r0 r9 i) n
def aHr (r0 : DV) (h : H) : aV := vK (eO r0) λ x1 => vK (aAt x1 (ii 10)) λ x2 => aAZ E r0 x2 aT (.int .u64 (.ofNat 0)) (ii 0) h
theorem bHd : Is E bJx (bQ aHV.res) (λ σ h => aEe E h) := Is.rf
abbrev bGe : iL (DV × H) := (cE 0 (cJ (λ σ h => aEe E h) (bQ aHV.res)))
theorem bHc : Is E bJw (bGe E) (λ σ h => aAZ E (σ p0) (σ p9) aT (σ p4) (σ mJ) h) := Is.lp (λ n2 σ h => aAZ E (σ p0) (σ p9) n2 (σ p4) (σ mJ) h) λ n2 => Is.aq (Is.leaf _)
theorem bHe : nN E aHV (aHr E) := Is.aq (Is.sq (Is.sq (Is.sq (bHd E) (Is.sq (Is.bk (bHc E)) (Is.leaf _))) (Is.leaf _)) (Is.leaf _))
def aMt : bU := nG (aHr E)
theorem aPq : SQ aHV aMt := nR bHe
def aYg := cm 150
def aXu (E : bF) (r0 r1 : DV) (h : H) : aV := vK (aO h.get r1) λ x1 => vK (dF .u8 x1) λ x2 => eX 1 1 [(.int .u8 (.ofNat 0))] [(0, 1, x2)] h λ x3 h4 => wK (cT 1 1 r0 x3 h4) λ x5 h6 => some (x5, h6)
theorem bHb : mO E aYg (aXu E) := Is.rf
def aWk : bU := mD (aXu E)
theorem aPp : SQ aYg aWk := mZ bHb
def aHU := cm 151
def bJv := cr (cr (cr aHU.body))
def bJu := cl (cr (cl (cr (cr aHU.body))))
def aMR (E : bF) (r0 : DV) (h : H) : aV := some (r0, h)
def bJV (r10 r11 : DV) (i2 : DV → DV → H → aV) (r0 r12 : DV) (h : H) : aV := vK (bV r12 r11) λ x1 => bK x1 (vK (cW 1 r10 r12) λ x2 => vK (aO h.get x2) λ x3 => wK (aC E 116 [r0, x3] h) λ x4 h5 => vK (cG r12 (ii 1)) λ x6 => i2 x4 x6 h5) (aMR E r0 h)
def aMG (r10 r11 : DV) (n : Nat) : DV → DV → H → aV := Nat.rec (motive := λ _ => DV → DV → H → aV) (λ _ _ _ => none) (λ _ i => bJV E r10 r11 i) n
def aXt (r0 r1 : DV) (h : H) : aV := vK (aO h.get r1) λ x1 => vK (bH x1) λ x2 => wK (aC E 116 [r0, x2] h) λ x3 h4 => vK (aO h4.get r1) λ x5 => vK (bH x5) λ x6 => aMG E x5 x6 aT x3 (ii 0) h4
theorem bGZ : Is E bJv (bQ aHU.res) (λ σ h => aMR E (σ p0) h) := Is.rf
abbrev bGd : iL (DV × H) := (cJ (λ σ h => aMR E (σ p0) h) (bQ aHU.res))
theorem bGY : Is E bJu (cE 0 (bGd E)) (λ σ h => aMG E (σ mJ) (σ tW) aT (σ p0) (σ uC) h) := Is.lp (λ n2 σ h => aMG E (σ mJ) (σ tW) n2 (σ p0) (σ uC) h) λ n2 => Is.aq (Is.leaf _)
theorem bHa : mO E aHU (aXt E) := Is.aq (Is.sq (Is.sq (Is.sq (bGZ E) (Is.sq (Is.bk (bGY E)) (Is.leaf _))) (Is.leaf _)) (Is.leaf _))
def aWj : bU := mD (aXt E)
theorem aPo : SQ aHU aWj := mZ bHa
def aHT := cm 152
def bJt := cr (cr (cr (cr aHT.body)))
def bJs := cl (cl (cr (cr (cr aHT.body))))
def aMQ (r0 r1 r2 r8 r9 : DV) (h : H) : aV := vK (bV r9 r8) λ x1 => aQ x1 true (λ kk => kk r2 h) h λ x2 h3 => aQ x1 true (λ kk => kk r0 h3) h3 λ x4 h5 => aQ x1 true (λ kk => kk r9 h5) h5 λ x6 h7 => aQ x1 true (λ kk => vK (cW 3 x4 x6) λ v => kk v h7) h7 λ x8 h9 => aQ x1 true (λ kk => vK (dE 3 h9.get x8) λ v => kk v h9) h9 λ x10 h11 => aQ x1 true (λ kk => kk r1 h11) h11 λ x12 h13 => aQ x1 true (λ kk => wK (lY E x2 [x10, x12] h13) kk) h13 λ x14 h15 => aQ x1 true (λ kk => vK (cU x14 (ii 0)) λ v => kk v h15) h15 λ x16 h17 => vK (aN x1 x16 (.bool false)) λ x18 => some ((.tup [r9, x18]), h17)
def bJU (r0 r1 r2 r8 : DV) (i2 : DV → DV → H → aV) (r9 r10 : DV) (h : H) : aV := vK (bV r9 r10) λ x1 => bK x1 (vK (cG r9 r10) λ x2 => vK (dF .u64 x2) λ x3 => vK (lL x3 (.int .u64 (.ofNat 1))) λ x4 => vK (dF .i64 x4) λ x5 => vK (cW 3 r0 x5) λ x6 => vK (dE 3 h.get x6) λ x7 => wK (lY E r2 [x7, r1] h) λ x8 h9 => vK (bV x8 (ii 0)) λ x10 => bK x10 (vK (cG x5 (ii 1)) λ x11 => i2 x11 r10 h9) (i2 r9 x5 h9)) (aMQ E r0 r1 r2 r8 r9 h)
def aMF (r0 r1 r2 r8 : DV) (n : Nat) : DV → DV → H → aV := Nat.rec (motive := λ _ => DV → DV → H → aV) (λ _ _ _ => none) (λ _ i => bJU E r0 r1 r2 r8 i) n
def aXs (r0 r1 r2 : DV) (h : H) : aV := vK (bH r0) λ x1 => aMF E r0 r1 r2 x1 aT (ii 0) x1 h
theorem bGW : Is E bJt (bQ aHT.res) (λ σ h => aMQ E (σ p0) (σ p1) (σ p2) (σ p8) (σ p9) h) := Is.rf
abbrev bGc : iL (DV × H) := (cJ (λ σ h => aMQ E (σ p0) (σ p1) (σ p2) (σ p8) (σ p9) h) (bQ aHT.res))
theorem bGV : Is E bJs (cE 0 (bGc E)) (λ σ h => aMF E (σ p0) (σ p1) (σ p2) (σ p8) aT (σ p9) (σ mJ) h) := Is.lp (λ n2 σ h => aMF E (σ p0) (σ p1) (σ p2) (σ p8) n2 (σ p9) (σ mJ) h) λ n2 => Is.aq (Is.leaf _)
theorem bGX : iB3 E aHT (aXs E) := Is.aq (Is.sq (Is.sq (Is.sq (Is.sq (bGW E) (Is.bk (bGV E))) (Is.leaf _)) (Is.leaf _)) (Is.leaf _))
def aWi : bU := fA3 (aXs E)
theorem aPn : SQ aHT aWi := eB3 bGX
def aYf := cm 153
def aXr (E : bF) (r0 r1 : DV) (h : H) : aV := dN r0 h λ x1 h2 => vK (aP 0 x1) λ x3 => vK (aO h2.get x3) λ x4 => vK (iX x4 r1) λ x5 => some (x5, h2)
theorem bGU : mO E aYf (aXr E) := Is.rf
def aWh : bU := mD (aXr E)
theorem aPm : SQ aYf aWh := mZ bGU
def fs0 : List FD := [⟨4, D4, S4⟩, ⟨7, D7, S7⟩, ⟨8, D8, S8⟩, ⟨9, D9, S9⟩, ⟨10, D10, S10⟩, ⟨11, D11, S11⟩, ⟨12, D12, S12⟩, ⟨13, D13, S13⟩, ⟨14, D14, S14⟩, ⟨15, D15, S15⟩, ⟨16, D16, S16⟩, ⟨24, D24, S24⟩, ⟨25, D25, S25⟩, ⟨26, D26, S26⟩, ⟨27, D27, S27⟩, ⟨28, D28, S28⟩, ⟨29, D29, S29⟩, ⟨30, D30, S30⟩, ⟨31, D31, S31⟩, ⟨33, D33, S33⟩, ⟨34, D34, S34⟩, ⟨35, D35, S35⟩, ⟨36, D36, S36⟩, ⟨37, D37, S37⟩, ⟨38, D38, S38⟩, ⟨39, D39, S39⟩, ⟨41, D41, S41⟩, ⟨45, D45, S45⟩, ⟨46, D46, S46⟩, ⟨47, D47, S47⟩, ⟨48, D48, S48⟩, ⟨49, D49, S49⟩, ⟨50, D50, S50⟩, ⟨51, D51, S51⟩, ⟨52, D52, S52⟩, ⟨53, D53, S53⟩, ⟨54, D54, S54⟩, ⟨55, D55, S55⟩, ⟨56, D56, S56⟩, ⟨57, D57, S57⟩, ⟨58, D58, S58⟩, ⟨59, D59, S59⟩, ⟨60, D60, S60⟩, ⟨61, D61, S61⟩, ⟨62, D62, S62⟩, ⟨63, D63, S63⟩, ⟨65, D65, S65⟩, ⟨66, D66, S66⟩, ⟨67, D67, S67⟩, ⟨68, D68, S68⟩, ⟨72, D72, S72⟩, ⟨73, D73, S73⟩, ⟨74, D74, S74⟩, ⟨75, D75, S75⟩, ⟨76, D76, S76⟩, ⟨77, D77, S77⟩, ⟨78, D78, S78⟩, ⟨79, D79, S79⟩, ⟨80, D80, S80⟩, ⟨81, D81, S81⟩, ⟨82, D82, S82⟩, ⟨83, D83, S83⟩, ⟨84, D84, S84⟩, ⟨85, D85, S85⟩, ⟨86, D86, S86⟩, ⟨87, D87, S87⟩, ⟨88, D88, S88⟩, ⟨89, D89, S89⟩, ⟨90, D90, S90⟩, ⟨91, D91, S91⟩, ⟨92, D92, S92⟩, ⟨93, D93, S93⟩, ⟨94, D94, S94⟩, ⟨95, D95, S95⟩, ⟨96, D96, S96⟩, ⟨97, D97, S97⟩, ⟨100, aYv, aWC⟩, ⟨101, bJf, bFX⟩, ⟨102, aYu, aWB⟩, ⟨105, aIb, aWA⟩, ⟨106, aIa, aWz⟩, ⟨107, bJe, aEa⟩, ⟨108, bJd, aMB⟩, ⟨109, bJc, aSt⟩, ⟨110, bJb, aSs⟩, ⟨111, aNp, aKu⟩, ⟨112, bJa, aSr⟩, ⟨113, aHZ, aWy⟩, ⟨114, aYt, aKt⟩, ⟨115, aYs, aMA⟩, ⟨116, aHY, aMz⟩, ⟨117, aYr, aMy⟩, ⟨118, aYq, aMx⟩, ⟨119, aHX, aWx⟩, ⟨120, aNo, aWw⟩, ⟨121, aYp, aWv⟩, ⟨122, aYo, aWu⟩, ⟨123, aYn, aWt⟩, ⟨124, aYm, aWs⟩, ⟨125, aYl, aWr⟩, ⟨126, aNn, aMw⟩, ⟨135, bIZ, aWq⟩, ⟨136, aNm, aSq⟩, ⟨137, bIY, aSp⟩, ⟨138, bIX, aMv⟩, ⟨139, aYk, aWp⟩, ⟨140, aYj, aWo⟩, ⟨141, bIW, bFQ⟩, ⟨142, bIV, aWn⟩, ⟨143, aHW, aWm⟩, ⟨144, aYi, aWl⟩, ⟨145, bIU, aKs⟩, ⟨146, bIT, aEH⟩, ⟨147, bIS, aSo⟩, ⟨148, aYh, aMu⟩, ⟨149, aHV, aMt⟩, ⟨150, aYg, aWk⟩, ⟨151, aHU, aWj⟩, ⟨152, aHT, aWi⟩, ⟨153, aYf, aWh⟩]
theorem bEm : rS fs0 := ⟨bNs, ⟨bMY, ⟨bMS, ⟨bMM, ⟨bFW, ⟨bFU, ⟨bFT, ⟨bFS, ⟨bFP, ⟨bFO, ⟨bFM, ⟨bFL, ⟨bFK, ⟨aVT, ⟨aVS, ⟨bFJ, ⟨aVR, ⟨bFI, ⟨bFH, ⟨bFG, ⟨bFF, ⟨bFE, ⟨bFD, ⟨bFC, ⟨bFB, ⟨bFA, ⟨aVQ, ⟨bFz, ⟨bFy, ⟨aVP, ⟨aVO, ⟨aVN, ⟨aVM, ⟨aVL, ⟨aVK, ⟨aVJ, ⟨aVI, ⟨aVH, ⟨bFw, ⟨bFv, ⟨bFu, ⟨bFt, ⟨bFs, ⟨bFr, ⟨aVG, ⟨bFq, ⟨aVF, ⟨bFp, ⟨bFo, ⟨bFn, ⟨aVE, ⟨bFm, ⟨bFl, ⟨bFk, ⟨aVD, ⟨aVC, ⟨aVB, ⟨aVA, ⟨aVz, ⟨aVy, ⟨aVx, ⟨aVw, ⟨aVv, ⟨aVu, ⟨aVt, ⟨aVs, ⟨aVr, ⟨aVq, ⟨aVp, ⟨bFc, ⟨bFb, ⟨aVo, ⟨bFa, ⟨bEZ, ⟨bEY, ⟨bEX, ⟨aPN, ⟨bBc, ⟨aPM, ⟨aPL, ⟨aPK, ⟨bBb, ⟨bBa, ⟨bAZ, ⟨bAY, ⟨bAX, ⟨bAW, ⟨aPJ, ⟨aPI, ⟨aPH, ⟨aPG, ⟨aPF, ⟨aPE, ⟨aPD, ⟨aPC, ⟨aPB, ⟨aPA, ⟨aPz, ⟨aPy, ⟨aPx, ⟨aPw, ⟨bAV, ⟨bAU, ⟨bAT, ⟨bAS, ⟨aPv, ⟨aPu, ⟨bAR, ⟨bAQ, ⟨aPt, ⟨aPs, ⟨bAP, ⟨bAO, ⟨bAN, ⟨aPr, ⟨aPq, ⟨aPp, ⟨aPo, ⟨aPn, ⟨aPm, trivial⟩⟩⟩⟩⟩⟩⟩⟩⟩⟩⟩⟩⟩⟩⟩⟩⟩⟩⟩⟩⟩⟩⟩⟩⟩⟩⟩⟩⟩⟩⟩⟩⟩⟩⟩⟩⟩⟩⟩⟩⟩⟩⟩⟩⟩⟩⟩⟩⟩⟩⟩⟩⟩⟩⟩⟩⟩⟩⟩⟩⟩⟩⟩⟩⟩⟩⟩⟩⟩⟩⟩⟩⟩⟩⟩⟩⟩⟩⟩⟩⟩⟩⟩⟩⟩⟩⟩⟩⟩⟩⟩⟩⟩⟩⟩⟩⟩⟩⟩⟩⟩⟩⟩⟩⟩⟩⟩⟩⟩⟩⟩⟩⟩⟩⟩⟩⟩⟩⟩⟩
end Go.Proofs.YthpciaidbgjoeaaGreat
end

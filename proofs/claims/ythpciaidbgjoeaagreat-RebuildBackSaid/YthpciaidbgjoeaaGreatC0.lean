/- The functions of the program as D's and as plain Lean functions, and that both are the same. No condition. -/
import Derived.KernelRfl
import Derived.Test.YthpciaidbgjoeaaGreatDd
import Derived.Test.YthpciaidbgjoeaaGreatChecked
set_option linter.unusedVariables false
noncomputable section
namespace Go.Proofs.YthpciaidbgjoeaaGreat
open Go.DI
variable (E : aQ)
def cm (f : Nat) : DF := cmF Tryz.prog f
attribute [irreducible] cm
def p0 : Pa := .h
def p1 : Pa := .l p0
def p2 : Pa := .r p0
def p3 : Pa := .l p1
def p4 : Pa := .r p1
def p5 : Pa := .l p2
def p6 : Pa := .r p2
def p7 : Pa := .l p3
def p8 : Pa := .r p3
def p9 : Pa := .l p4
def nI : Pa := .r p4
def p11 : Pa := .l p5
def nN : Pa := .r p5
def sU : Pa := .l p6
def tW : Pa := .r p6
def xW : Pa := .l p7
def p16 : Pa := .r p7
def p17 : Pa := .l p8
def p18 : Pa := .r p8
def p19 : Pa := .l p9
def p20 : Pa := .r p9
def p21 : Pa := .l nI
def p22 : Pa := .r nI
def p23 : Pa := .l p11
def p24 : Pa := .r p11
def p25 : Pa := .l nN
def p26 : Pa := .r nN
def p27 : Pa := .l sU
def p28 : Pa := .r sU
def p29 : Pa := .l tW
def p30 : Pa := .r tW
def p31 : Pa := .l xW
def p32 : Pa := .r xW
def p33 : Pa := .l p16
def p34 : Pa := .r p16
def p35 : Pa := .l p17
def p36 : Pa := .r p17
def p37 : Pa := .l p18
def p38 : Pa := .r p18
def p39 : Pa := .l p19
def p40 : Pa := .r p19
def p41 : Pa := .l p20
def p42 : Pa := .r p20
def p43 : Pa := .l p21
def p44 : Pa := .r p21
def p45 : Pa := .l p22
def p46 : Pa := .r p22
def p47 : Pa := .l p23
def p48 : Pa := .r p23
def p49 : Pa := .l p24
def p50 : Pa := .r p24
def p51 : Pa := .l p25
def p52 : Pa := .r p25
def p53 : Pa := .l p26
def p54 : Pa := .r p26
def p55 : Pa := .l p27
def p56 : Pa := .r p27
def p57 : Pa := .l p28
def p58 : Pa := .r p28
def p59 : Pa := .l p29
def p60 : Pa := .r p29
def p61 : Pa := .l p30
def p62 : Pa := .r p30
def p63 : Pa := .l p31
def p64 : Pa := .r p31
def p65 : Pa := .l p32
def p66 : Pa := .r p32
def p67 : Pa := .l p33
def p68 : Pa := .r p33
def p69 : Pa := .l p34
def p70 : Pa := .r p34
def p71 : Pa := .l p35
def p72 : Pa := .r p35
def p73 : Pa := .l p36
def p74 : Pa := .r p36
def p75 : Pa := .l p37
def p76 : Pa := .r p37
def p77 : Pa := .l p38
def p78 : Pa := .r p38
def p79 : Pa := .l p39
def p80 : Pa := .r p39
def p81 : Pa := .l p40
def p82 : Pa := .r p40
def p83 : Pa := .l p41
def p84 : Pa := .r p41
def p85 : Pa := .l p42
def p86 : Pa := .r p42
def p87 : Pa := .l p43
def p88 : Pa := .r p43
def p89 : Pa := .l p44
def p90 : Pa := .r p44
def p91 : Pa := .l p45
def p92 : Pa := .r p45
def p93 : Pa := .l p46
def p94 : Pa := .r p46
def p95 : Pa := .l p47
def p96 : Pa := .r p47
def p97 : Pa := .l p48
def p98 : Pa := .r p48
def p99 : Pa := .l p49
def p100 : Pa := .r p49
def p101 : Pa := .l p50
def p102 : Pa := .r p50
def p103 : Pa := .l p51
def p104 : Pa := .r p51
def p105 : Pa := .l p52
def p106 : Pa := .r p52
def p107 : Pa := .l p53
def p108 : Pa := .r p53
def p109 : Pa := .l p54
def p110 : Pa := .r p54
def p111 : Pa := .l p55
def p112 : Pa := .r p55
def p113 : Pa := .l p56
def p114 : Pa := .r p56
def p115 : Pa := .l p57
def p116 : Pa := .r p57
def p117 : Pa := .l p58
def p118 : Pa := .r p58
def p119 : Pa := .l p59
def p120 : Pa := .r p59
def p121 : Pa := .l p60
def p122 : Pa := .r p60
def p123 : Pa := .l p61
def p124 : Pa := .r p61
def p125 : Pa := .l p62
def p126 : Pa := .r p62
def p127 : Pa := .l p63
def p128 : Pa := .r p63
def p129 : Pa := .l p64
def p130 : Pa := .r p64
def p131 : Pa := .l p65
def p132 : Pa := .r p65
def p133 : Pa := .l p66
def p134 : Pa := .r p66
def p135 : Pa := .l p67
def p136 : Pa := .r p67
def p137 : Pa := .l p68
def p138 : Pa := .r p68
def p139 : Pa := .l p69
def p140 : Pa := .r p69
def p141 : Pa := .l p70
def p142 : Pa := .r p70
def p143 : Pa := .l p71
def p144 : Pa := .r p71
def p145 : Pa := .l p72
def p146 : Pa := .r p72
def p147 : Pa := .l p73
def p148 : Pa := .r p73
def p149 : Pa := .l p74
def p150 : Pa := .r p74
def p151 : Pa := .l p75
def p152 : Pa := .r p75
def p153 : Pa := .l p76
def p154 : Pa := .r p76
def p155 : Pa := .l p77
def p156 : Pa := .r p77
def p157 : Pa := .l p78
def p158 : Pa := .r p78
def p159 : Pa := .l p79
def p160 : Pa := .r p79
def p161 : Pa := .l p80
def p162 : Pa := .r p80
def p163 : Pa := .l p81
def p164 : Pa := .r p81
def p165 : Pa := .l p82
def p166 : Pa := .r p82
def p167 : Pa := .l p83
def p168 : Pa := .r p83
def p169 : Pa := .l p84
def p170 : Pa := .r p84
def p171 : Pa := .l p85
def p172 : Pa := .r p85
def p173 : Pa := .l p86
def p174 : Pa := .r p86
def p175 : Pa := .l p87
def p176 : Pa := .r p87
def p177 : Pa := .l p88
def p178 : Pa := .r p88
def p179 : Pa := .l p89
def D6 := cm 6
def bMS := cr (cr (cr (cr (cr D6.body))))
def bMR := cr (cr (cr (cr bMS)))
def C6_8 := cr (cr (cr bMR))
def C6_9 := cl (cr (cl (cr (cr bMR))))
def bEa := cl (cr (cl (cr (cr (cr bMS)))))
def C6_5 := cr (cr (cl bEa))
def C6_6 := cr (cl (cl (cr (cl bEa))))
def C6_7 := cl (cr (cl (cl (cl (cr (cl bEa))))))
def C6_2 := cl (cr (cl (cr (cr (cr (cr D6.body))))))
def bDR (h : H) : aL := wK (aB E 17 [] h) λ x1 h2 => some (x1, h2)
def bAy (r0 r7 r8 : DV) (i9 : DV → H → aL) (r21 : DV) (h : H) : aL := vK (aO r8) λ x1 => vK (bO r21 x1) λ x2 => bK x2 (vK (bY 1 r8 r21) λ x3 => vK (aF h.get x3) λ x4 => wK (aB E 12 [r7, x4] h) λ x5 h6 => vK (aN 0 x5) λ x7 => vK (aN 1 x5) λ x8 => vK (cW x8 (ii 0)) λ x9 => aJ x9 false (λ kk => kk x7 h6) h6 λ x10 h11 => aJ x9 false (λ kk => kk r0 h11) h11 λ x12 h13 => aJ x9 false (λ kk => kk r21 h13) h13 λ x14 h15 => aJ x9 false (λ kk => vK (bY 1 x12 x14) λ v => kk v h15) h15 λ x16 h17 => aJ x9 false (λ kk => vK (aF h17.get x16) λ v => kk v h17) h17 λ x18 h19 => aJ x9 false (λ kk => vK (cW x10 x18) λ v => kk v h19) h19 λ x20 h21 => vK (aH x9 (.bool true) x20) λ x22 => bK x22 (some ((.bool false), h21)) (vK (bW r21 (ii 1)) λ x23 => i9 x23 h21)) (bDR E h)
def aTw (r0 r7 r8 : DV) (n : Nat) : DV → H → aL := Nat.rec (motive := λ _ => DV → H → aL) (λ _ _ => none) (λ _ i => bAy E r0 r7 r8 i) n
def aTA (r0 r2 r7 r8 r12 : DV) (h : H) : aL := wK (aB E 22 [r12] h) λ x1 h2 => vK (cW x1 (ii 0)) λ x3 => bK x3 (some ((.bool false), h2)) (wK (aB E 10 [r7] h2) λ x4 h5 => vK (cN .u64 r2) λ x6 => vK (aCz x6 (.int .u64 (.ofNat 5))) λ x7 => vK (cN .i64 x7) λ x8 => wK (aB E 11 [x4, x8, (.bool true)] h5) λ x9 h10 => aTw E r0 r7 r8 aK (ii 0) h10)
def bDS (E : aQ) (i4 : DV → H → aL) (r15 : DV) (h : H) : aL := vK (bW r15 (ii 1)) λ x1 => i4 x1 h
def aYD (i4 : DV → H → aL) (r8 r12 r15 : DV) (h : H) : aL := wK (aB E 23 [r12, (ii 1)] h) λ x1 h2 => vK (aN 0 x1) λ x3 => vK (aN 1 x1) λ x4 => vK (cW x4 (ii 0)) λ x5 => aJ x5 false (λ kk => kk x3 h2) h2 λ x6 h7 => aJ x5 false (λ kk => kk r8 h7) h7 λ x8 h9 => aJ x5 false (λ kk => vK (aO x8) λ v => kk v h9) h9 λ x10 h11 => aJ x5 false (λ kk => kk r15 h11) h11 λ x12 h13 => aJ x5 false (λ kk => vK (kI x10 x12) λ v => kk v h13) h13 λ x14 h15 => aJ x5 false (λ kk => vK (xM x14 (ii 1)) λ v => kk v h15) h15 λ x16 h17 => aJ x5 false (λ kk => vK (cW x6 x16) λ v => kk v h17) h17 λ x18 h19 => vK (aH x5 (.bool true) x18) λ x20 => bK x20 (some ((.bool false), h19)) (bDS E i4 r15 h19)
def bAz (i4 : DV → H → aL) (r0 r7 r8 r12 r15 : DV) (i7 : DV → H → aL) (r16 : DV) (h : H) : aL := vK (aO r8) λ x1 => vK (bO r16 x1) λ x2 => bK x2 (vK (bY 1 r8 r16) λ x3 => vK (aF h.get x3) λ x4 => wK (aB E 12 [r7, x4] h) λ x5 h6 => vK (aN 0 x5) λ x7 => vK (aN 1 x5) λ x8 => vK (cW x8 (ii 0)) λ x9 => aJ x9 false (λ kk => kk x7 h6) h6 λ x10 h11 => aJ x9 false (λ kk => kk r0 h11) h11 λ x12 h13 => aJ x9 false (λ kk => kk r16 h13) h13 λ x14 h15 => aJ x9 false (λ kk => vK (bY 1 x12 x14) λ v => kk v h15) h15 λ x16 h17 => aJ x9 false (λ kk => vK (aF h17.get x16) λ v => kk v h17) h17 λ x18 h19 => aJ x9 false (λ kk => vK (cW x10 x18) λ v => kk v h19) h19 λ x20 h21 => vK (aH x9 (.bool true) x20) λ x22 => bK x22 (some ((.bool false), h21)) (vK (bW r16 (ii 1)) λ x23 => i7 x23 h21)) (aYD E i4 r8 r12 r15 h)
def aTx (i4 : DV → H → aL) (r0 r7 r8 r12 r15 : DV) (n : Nat) : DV → H → aL := Nat.rec (motive := λ _ => DV → H → aL) (λ _ _ => none) (λ _ i => bAz E i4 r0 r7 r8 r12 r15 i) n
def bAA (r0 r2 r7 r8 r12 : DV) (i4 : DV → H → aL) (r15 : DV) (h : H) : aL := vK (aO r8) λ x1 => vK (tM r15 x1) λ x2 => bK x2 (aTx E i4 r0 r7 r8 r12 r15 aK (ii 0) h) (aTA E r0 r2 r7 r8 r12 h)
def aAl (r0 r2 r7 r8 r12 : DV) (n : Nat) : DV → H → aL := Nat.rec (motive := λ _ => DV → H → aL) (λ _ _ => none) (λ _ i => bAA E r0 r2 r7 r8 r12 i) n
def aTB (r0 r1 r2 r7 r8 : DV) (h : H) : aL := wK (aB E 18 [r7] h) λ x1 h2 => vK (cN .u64 r1) λ x3 => vK (aCz x3 (.int .u64 (.ofNat 4))) λ x4 => vK (cN .i64 x4) λ x5 => wK (aB E 19 [x1, x5] h2) λ x6 h7 => vK (cW x6 (ii 0)) λ x8 => bK x8 (some ((.bool false), h7)) (wK (aB E 20 [x1] h7) λ x9 h10 => vK (aN 0 x9) λ x11 => vK (aN 1 x9) λ x12 => vK (cW x12 (ii 0)) λ x13 => aJ x13 false (λ kk => kk x1 h10) h10 λ x14 h15 => aJ x13 false (λ kk => wK (aB E 21 [x14] h15) kk) h15 λ x16 h17 => aJ x13 false (λ kk => vK (aO x16) λ v => kk v h17) h17 λ x18 h19 => aJ x13 false (λ kk => kk r8 h19) h19 λ x20 h21 => aJ x13 false (λ kk => vK (aO x20) λ v => kk v h21) h21 λ x22 h23 => aJ x13 false (λ kk => vK (cW x18 x22) λ v => kk v h23) h23 λ x24 h25 => vK (aH x13 (.bool true) x24) λ x26 => bK x26 (some ((.bool false), h25)) (aAl E r0 r2 r7 r8 x1 aK (ii 0) h25))
def bAB (r0 r1 r2 r7 : DV) (i2 : DV → DV → H → aL) (r8 r9 : DV) (h : H) : aL := vK (aO r0) λ x1 => vK (bO r9 x1) λ x2 => bK x2 (vK (bY 1 r0 r9) λ x3 => vK (aF h.get x3) λ x4 => vK (eI x4) λ x5 => vK (dO x5 (ii 3000)) λ x6 => bK x6 (wK (aB E 17 [] h) λ x7 h8 => some (x7, h8)) (vK (bY 1 r0 r9) λ x9 => vK (aF h.get x9) λ x10 => wK (aB E 9 [r7, (ii 0), x10, (.int .i64 (.negSucc 0))] h) λ x11 h12 => vK (aN 0 x11) λ x13 => vK (aN 1 x11) λ x14 => vK (cW x14 (ii 0)) λ x15 => bK x15 (vK (bY 1 r0 r9) λ x16 => vK (aF h12.get x16) λ x17 => vK (cF x17 (.str [])) λ x18 => aJ x18 false (λ kk => kk r0 h12) h12 λ x19 h20 => aJ x18 false (λ kk => kk r9 h20) h20 λ x21 h22 => aJ x18 false (λ kk => vK (bY 1 x19 x21) λ v => kk v h22) h22 λ x23 h24 => aJ x18 false (λ kk => vK (aF h24.get x23) λ v => kk v h24) h24 λ x25 h26 => aJ x18 false (λ kk => vK (eI x25) λ v => kk v h26) h26 λ x27 h28 => aJ x18 false (λ kk => vK (dO x27 (ii 1536)) λ v => kk v h28) h28 λ x29 h30 => vK (aH x18 (.bool true) x29) λ x31 => aJ x31 true (λ kk => wK (aB E 17 [] h30) kk) h30 λ x32 h33 => vK (aH x31 x32 (.bool false)) λ x34 => some (x34, h33)) (dI 1 1 [(ii 0)] [(0, 1, x13)] h12 λ x35 h36 => wK (cJ 1 8 r8 x35 h36) λ x37 h38 => vK (bW r9 (ii 1)) λ x39 => i2 x37 x39 h38))) (aTB E r0 r1 r2 r7 r8 h)
def aTy (r0 r1 r2 r7 : DV) (n : Nat) : DV → DV → H → aL := Nat.rec (motive := λ _ => DV → DV → H → aL) (λ _ _ _ => none) (λ _ i => bAB E r0 r1 r2 r7 i) n
def bDT (r0 r1 r2 : DV) (h : H) : aL := vK (aO r0) λ x1 => vK (dO x1 (ii 6)) λ x2 => bK x2 (wK (aB E 17 [] h) λ x3 h4 => some (x3, h4)) (wK (aB E 8 [(ii 5), (ii 90), (ii 4), (ii 1)] h) λ x5 h6 => aTy E r0 r1 r2 x5 aK .nils (ii 0) h6)
theorem I6_8 : Is E C6_8 (bB D6.res) (λ σ h => bDR E h) := Is.rf
abbrev bSk : gS (DV × H) := (bF 6 (bU (λ σ h => bDR E h) (bB D6.res)))
theorem I6_9 : Is E C6_9 (bSk E) (λ σ h => aTw E (σ p0) (σ p7) (σ p8) aK (σ p21) h) := Is.lp (λ n9 σ h => aTw E (σ p0) (σ p7) (σ p8) n9 (σ p21) h) λ n9 => Is.aq (Is.leaf _)
theorem I6_3 : Is E bMR (bB D6.res) (λ σ h => aTA E (σ p0) (σ p2) (σ p7) (σ p8) (σ nN) h) := Is.aq (Is.sq (Is.sq (Is.sq (I6_8 E) (Is.sq (Is.bk (I6_9 E)) (Is.leaf _))) (Is.leaf _)) (Is.leaf _))
abbrev bFq : gS (DV × H) := (bU (λ σ h => aTA E (σ p0) (σ p2) (σ p7) (σ p8) (σ nN) h) (bB D6.res))
abbrev bFp (n4 : Nat) : gS (DV × H) := (bU (λ σ h => (aAl E (σ p0) (σ p2) (σ p7) (σ p8) (σ nN) n4) (σ xW) h) (bF 2 (bFq E)))
theorem I6_5 (n4 : Nat) : Is E C6_5 (bFp E n4) (λ σ h => bDS E (aAl E (σ p0) (σ p2) (σ p7) (σ p8) (σ nN) n4) (σ xW) h) := Is.rf
abbrev bFo (n4 : Nat) : gS (DV × H) := (bU (λ σ h => bDS E (aAl E (σ p0) (σ p2) (σ p7) (σ p8) (σ nN) n4) (σ xW) h) (bFp E n4))
theorem I6_6 (n4 : Nat) : Is E C6_6 (bF 3 (bFo E n4)) (λ σ h => aYD E (aAl E (σ p0) (σ p2) (σ p7) (σ p8) (σ nN) n4) (σ p8) (σ nN) (σ xW) h) := Is.rf
abbrev bSj (n4 : Nat) : gS (DV × H) := (bU (λ σ h => aYD E (aAl E (σ p0) (σ p2) (σ p7) (σ p8) (σ nN) n4) (σ p8) (σ nN) (σ xW) h) (bF 3 (bFo E n4)))
theorem I6_7 (n4 : Nat) : Is E C6_7 (bF 4 (bSj E n4)) (λ σ h => aTx E (aAl E (σ p0) (σ p2) (σ p7) (σ p8) (σ nN) n4) (σ p0) (σ p7) (σ p8) (σ nN) (σ xW) aK (σ p16) h) := Is.lp (λ n7 σ h => aTx E (aAl E (σ p0) (σ p2) (σ p7) (σ p8) (σ nN) n4) (σ p0) (σ p7) (σ p8) (σ nN) (σ xW) n7 (σ p16) h) λ n7 => Is.aq (Is.leaf _)
theorem I6_4 : Is E bEa (bF 2 (bFq E)) (λ σ h => aAl E (σ p0) (σ p2) (σ p7) (σ p8) (σ nN) aK (σ xW) h) := Is.lp (λ n4 σ h => aAl E (σ p0) (σ p2) (σ p7) (σ p8) (σ nN) n4 (σ xW) h) λ n4 => Is.aq (Is.sq (Is.sq (I6_5 E n4) (Is.bk (Is.sq (I6_6 E n4) (Is.sq (Is.bk (I6_7 E n4)) (Is.leaf _))))) (Is.leaf _))
theorem I6_1 : Is E bMS (bB D6.res) (λ σ h => aTB E (σ p0) (σ p1) (σ p2) (σ p7) (σ p8) h) := Is.aq (Is.sq (Is.sq (Is.sq (Is.sq (I6_3 E) (Is.sq (Is.bk (I6_4 E)) (Is.leaf _))) (Is.leaf _)) (Is.leaf _)) (Is.leaf _))
abbrev bSi : gS (DV × H) := (bU (λ σ h => aTB E (σ p0) (σ p1) (σ p2) (σ p7) (σ p8) h) (bB D6.res))
theorem I6_2 : Is E C6_2 (bF 0 (bSi E)) (λ σ h => aTy E (σ p0) (σ p1) (σ p2) (σ p7) aK (σ p8) (σ p9) h) := Is.lp (λ n2 σ h => aTy E (σ p0) (σ p1) (σ p2) (σ p7) n2 (σ p8) (σ p9) h) λ n2 => Is.aq (Is.leaf _)
theorem I6_0 : iB3 E D6 (bDT E) := Is.aq (Is.sq (Is.sq (Is.sq (Is.sq (Is.sq (I6_1 E) (Is.sq (Is.bk (I6_2 E)) (Is.leaf _))) (Is.leaf _)) (Is.leaf _)) (Is.leaf _)) (Is.leaf _))
def S6 : bC := fA3 (bDT E)
theorem bRs : SQ D6 S6 := eB3 I6_0
def D8 := cm 8
def bDQ (r0 r1 r2 r3 : DV) (h : H) : aL := vK (bO r0 (ii 1)) λ x1 => aJ x1 false (λ kk => kk r0 h) h λ x2 h3 => aJ x1 false (λ kk => vK (dO x2 (ii 8)) λ v => kk v h3) h3 λ x4 h5 => vK (aH x1 (.bool true) x4) λ x6 => aJ x6 false (λ kk => kk r2 h5) h5 λ x7 h8 => aJ x6 false (λ kk => vK (bO x7 (ii 2)) λ v => kk v h8) h8 λ x9 h10 => vK (aH x6 (.bool true) x9) λ x11 => aJ x11 false (λ kk => kk r2 h10) h10 λ x12 h13 => aJ x11 false (λ kk => vK (dO x12 (ii 8)) λ v => kk v h13) h13 λ x14 h15 => vK (aH x11 (.bool true) x14) λ x16 => aJ x16 false (λ kk => kk r3 h15) h15 λ x17 h18 => aJ x16 false (λ kk => vK (bO x17 (ii 0)) λ v => kk v h18) h18 λ x19 h20 => vK (aH x16 (.bool true) x19) λ x21 => aJ x21 false (λ kk => kk r3 h20) h20 λ x22 h23 => aJ x21 false (λ kk => kk r0 h23) h23 λ x24 h25 => aJ x21 false (λ kk => kk r2 h25) h25 λ x26 h27 => aJ x21 false (λ kk => vK (kI x24 x26) λ v => kk v h27) h27 λ x28 h29 => aJ x21 false (λ kk => vK (dO x22 x28) λ v => kk v h29) h29 λ x30 h31 => vK (aH x21 (.bool true) x30) λ x32 => bK x32 (some (.nilp, h31)) (wK (aB E 25 [r0, r1] h31) λ x33 h34 => wK (aB E 27 [(ii 0), r2] h34) λ x35 h36 => wK (aB E 27 [r2, r3] h36) λ x37 h38 => wK (aB E 26 [x35, x37] h38) λ x39 h40 => vK (dH [.nilp, .nilp, (ii 0), (ii 0), (ii 0), (ii 0), (ii 0), (ii 0), (ii 0), (ii 0), (ii 0), (ii 0), (ii 0), (ii 0), (ii 0), (ii 0), (ii 0), (ii 0), (ii 0)] [(0, 1, x33), (1, 1, x39), (2, 1, r2)]) λ x41 => cY x41 h40 λ x42 h43 => some (x42, h43))
theorem I8_0 : iB4 E D8 (bDQ E) := Is.rf
def S8 : bC := fA4 (bDQ E)
theorem bRg : SQ D8 S8 := eB4 I8_0
def D9 := cm 9
def C9_1 := cr (cr (cr (cr (cr (cr (cr D9.body))))))
def bMQ := cl (cr (cl (cr (cr (cr (cr (cr (cr D9.body))))))))
def C9_3 := cr (cr (cr (cl bMQ)))
def C9_4 := cr (cr (cr (cr (cl (cl (cr (cr (cl bMQ))))))))
def bDP (r0 r1 r3 r12 r13 : DV) (h : H) : aL := vK (cF r13 r3) λ x1 => bK x1 (some ((.tup [(ii 0), (ii 16)]), h)) (dI 1 1 [(ii 0)] [(0, 1, r12)] h λ x2 h3 => wK (aB E 29 [r0, r1, (ii 2), x2] h3) λ x4 h5 => vK (aN 0 x4) λ x6 => vK (aN 1 x4) λ x7 => vK (cW x6 (ii 0)) λ x8 => bK x8 (some ((.tup [(ii 0), x6]), h5)) (some ((.tup [r12, (ii 0)]), h5)))
def bDO (E : aQ) (i2 : DV → DV → DV → H → aL) (r13 r14 r71 : DV) (h : H) : aL := vK (bW r71 (ii 1)) λ x1 => i2 r13 r14 x1 h
def bDN (i2 : DV → DV → DV → H → aL) (r0 r1 r12 r13 r14 r71 : DV) (h : H) : aL := vK (dO r14 (ii 1)) λ x1 => bK x1 (dI 1 1 [(ii 0)] [(0, 1, r12)] h λ x2 h3 => wK (aB E 29 [r0, r1, (ii 3), x2] h3) λ x4 h5 => wK (aB E 32 [r0, r12] h5) λ x6 h7 => some ((.tup [(ii 0), (ii 9)]), h7)) (bDO E i2 r13 r14 r71 h)
def bAx (r0 r1 r3 r12 r69 r70 : DV) (i2 : DV → DV → DV → H → aL) (r13 r14 r71 : DV) (h : H) : aL := vK (bO r71 r70) λ x1 => bK x1 (vK (bY 1 r69 r71) λ x2 => vK (aF h.get x2) λ x3 => vK (cF r13 r3) λ x4 => bK x4 (some ((.tup [(ii 0), (ii 16)]), h)) (vK (bW r13 (ii 1)) λ x5 => wK (aB E 31 [r0, r12, r71, x3] h) λ x6 h7 => vK (cW x6 (ii 0)) λ x8 => bK x8 (vK (bW r14 (ii 1)) λ x9 => bDN E i2 r0 r1 r12 x5 x9 r71 h7) (bDN E i2 r0 r1 r12 x5 r14 r71 h7))) (bDP E r0 r1 r3 r12 r13 h)
def aEQ (r0 r1 r3 r12 r69 r70 : DV) (n : Nat) : DV → DV → DV → H → aL := Nat.rec (motive := λ _ => DV → DV → DV → H → aL) (λ _ _ _ _ => none) (λ _ i => bAx E r0 r1 r3 r12 r69 r70 i) n
def aTz (r0 r1 r2 r3 : DV) (h : H) : aL := vK (cM .ptr false h.get r0 .nilp) λ x1 => aJ x1 false (λ kk => kk r1 h) h λ x2 h3 => aJ x1 false (λ kk => vK (bO x2 (ii 0)) λ v => kk v h3) h3 λ x4 h5 => vK (aH x1 (.bool true) x4) λ x6 => aJ x6 false (λ kk => kk r1 h5) h5 λ x7 h8 => aJ x6 false (λ kk => vK (eQ x7 (ii 16)) λ v => kk v h8) h8 λ x9 h10 => vK (aH x6 (.bool true) x9) λ x11 => bK x11 (some ((.tup [(ii 0), (ii 1)]), h10)) (vK (cF r2 (.str [])) λ x12 => aJ x12 false (λ kk => kk r2 h10) h10 λ x13 h14 => aJ x12 false (λ kk => vK (eI x13) λ v => kk v h14) h14 λ x15 h16 => aJ x12 false (λ kk => kk r0 h16) h16 λ x17 h18 => aJ x12 false (λ kk => wK (aB E 28 [x17] h18) kk) h18 λ x19 h20 => aJ x12 false (λ kk => vK (dO x15 x19) λ v => kk v h20) h20 λ x21 h22 => vK (aH x12 (.bool true) x21) λ x23 => bK x23 (some ((.tup [(ii 0), (ii 2)]), h22)) (vK (cF r3 (ii 0)) λ x24 => bK x24 (some ((.tup [(ii 0), (ii 16)]), h22)) (vK (eI r2) λ x25 => dI 1 1 [(ii 0)] [(0, 1, x25)] h22 λ x26 h27 => wK (aB E 29 [r0, r1, (ii 1), x26] h27) λ x28 h29 => vK (aN 0 x28) λ x30 => vK (aN 1 x28) λ x31 => vK (cW x30 (ii 0)) λ x32 => bK x32 (some ((.tup [(ii 0), x30]), h29)) (vK (bY 1 x31 (ii 0)) λ x33 => vK (aF h29.get x33) λ x34 => vK (aC r0) λ x35 => vK (aG 2 x35) λ x36 => vK (aF h29.get x36) λ x37 => wK (aB E 30 [r2, x37] h29) λ x38 h39 => vK (aN 0 x38) λ x40 => vK (aN 1 x38) λ x41 => vK (aO x40) λ x42 => aEQ E r0 r1 r3 x34 x40 x42 aK (ii 1) (ii 0) (ii 0) h39))))
theorem I9_1 : Is E C9_1 (bB D9.res) (λ σ h => bDP E (σ p0) (σ p1) (σ p3) (σ nN) (σ sU) h) := Is.rf
abbrev K9_5 : gS (DV × H) := (bU (λ σ h => bDP E (σ p0) (σ p1) (σ p3) (σ nN) (σ sU) h) (bB D9.res))
abbrev K9_6 (n2 : Nat) : gS (DV × H) := (bU (λ σ h => (aEQ E (σ p0) (σ p1) (σ p3) (σ nN) (σ p69) (σ p70) n2) (σ sU) (σ tW) (σ p71) h) (bF 1 (K9_5 E)))
theorem I9_3 (n2 : Nat) : Is E C9_3 (K9_6 E n2) (λ σ h => bDO E (aEQ E (σ p0) (σ p1) (σ p3) (σ nN) (σ p69) (σ p70) n2) (σ sU) (σ tW) (σ p71) h) := Is.rf
abbrev K9_7 (n2 : Nat) : gS (DV × H) := (bU (λ σ h => bDO E (aEQ E (σ p0) (σ p1) (σ p3) (σ nN) (σ p69) (σ p70) n2) (σ sU) (σ tW) (σ p71) h) (K9_6 E n2))
theorem I9_4 (n2 : Nat) : Is E C9_4 (bF 2 (K9_7 E n2)) (λ σ h => bDN E (aEQ E (σ p0) (σ p1) (σ p3) (σ nN) (σ p69) (σ p70) n2) (σ p0) (σ p1) (σ nN) (σ sU) (σ tW) (σ p71) h) := Is.rf
theorem I9_2 : Is E bMQ (bF 1 (K9_5 E)) (λ σ h => aEQ E (σ p0) (σ p1) (σ p3) (σ nN) (σ p69) (σ p70) aK (σ sU) (σ tW) (σ p71) h) := Is.lp (λ n2 σ h => aEQ E (σ p0) (σ p1) (σ p3) (σ nN) (σ p69) (σ p70) n2 (σ sU) (σ tW) (σ p71) h) λ n2 => Is.aq (Is.sq (Is.sq (Is.sq (I9_3 E n2) (Is.bk (Is.sq (Is.sq (Is.sq (Is.sq (I9_4 E n2) (Is.leaf _)) (Is.leaf _)) (Is.leaf _)) (Is.leaf _)))) (Is.leaf _)) (Is.leaf _))
theorem I9_0 : iB4 E D9 (aTz E) := Is.aq (Is.sq (Is.sq (Is.sq (Is.sq (Is.sq (Is.sq (Is.sq (I9_1 E) (Is.sq (Is.bk (I9_2 E)) (Is.leaf _))) (Is.leaf _)) (Is.leaf _)) (Is.leaf _)) (Is.leaf _)) (Is.leaf _)) (Is.leaf _))
def S9 : bC := fA4 (aTz E)
theorem bRa : SQ D9 S9 := eB4 I9_0
def D10 := cm 10
def aGj (E : aQ) (r0 : DV) (h : H) : aL := vK (cM .ptr false h.get r0 .nilp) λ x1 => bK x1 (some (.nilp, h)) (vK (aC r0) λ x2 => vK (aG 0 x2) λ x3 => vK (aF h.get x3) λ x4 => some (x4, h))
theorem bVc : lZ E D10 (aGj E) := Is.rf
def S10 : bC := lY (aGj E)
theorem bJl : SQ D10 S10 := mD bVc
def D11 := cm 11
def aGi (r0 r1 r2 : DV) (h : H) : aL := wK (aB E 33 [r0, r1] h) λ x1 h2 => vK (cM .ptr false h2.get x1 .nilp) λ x3 => aJ x3 false (λ kk => kk x1 h2) h2 λ x4 h5 => aJ x3 false (λ kk => vK (aC x4) λ v => kk v h5) h5 λ x6 h7 => aJ x3 false (λ kk => vK (aG 3 x6) λ v => kk v h7) h7 λ x8 h9 => aJ x3 false (λ kk => vK (aF h9.get x8) λ v => kk v h9) h9 λ x10 h11 => vK (aH x3 (.bool true) x10) λ x12 => bK x12 (some ((.bool false), h11)) (vK (aC x1) λ x13 => vK (aG 2 x13) λ x14 => wK (dD 1 x14 r2 h11) λ x15 h16 => some ((.bool true), h16))
theorem bVb : iB3 E D11 (aGi E) := Is.rf
def S11 : bC := fA3 (aGi E)
theorem bJj : SQ D11 S11 := eB3 bVb
def D12 := cm 12
def aRQ (r0 r1 : DV) (h : H) : aL := wK (aB E 34 [r0, r1] h) λ x1 h2 => vK (aN 0 x1) λ x3 => vK (aN 1 x1) λ x4 => vK (cW x4 (ii 0)) λ x5 => bK x5 (some ((.tup [(.str []), x4]), h2)) (wK (aB E 35 [x3] h2) λ x6 h7 => vK (aN 0 x6) λ x8 => vK (aN 1 x6) λ x9 => some ((.tup [x8, x9]), h7))
theorem bVa : jY E D12 (aRQ E) := Is.rf
def S12 : bC := jU (aRQ E)
theorem bJi : SQ D12 S12 := kG bVa
def D13 := cm 13
def bGc (r0 r1 : DV) (h : H) : aL := wK (aB E 34 [r0, r1] h) λ x1 h2 => vK (aN 0 x1) λ x3 => vK (aN 1 x1) λ x4 => vK (cW x4 (ii 0)) λ x5 => bK x5 (some (x4, h2)) (wK (aB E 36 [x3] h2) λ x6 h7 => vK (aO x6) λ x8 => vK (dO x8 (ii 0)) λ x9 => bK x9 (some ((ii 9), h7)) (vK (aC x3) λ x10 => vK (aG 8 x10) λ x11 => vK (aF h7.get x11) λ x12 => wK (aB E 37 [x12] h7) λ x13 h14 => vK (eN x13) λ x15 => bK x15 (some ((ii 4), h14)) (some ((ii 0), h14))))
theorem bUZ : jY E D13 (bGc E) := Is.rf
def S13 : bC := jU (bGc E)
theorem bJh : SQ D13 S13 := kG bUZ
def D14 := cm 14
def bXj := cr (cr (cr D14.body))
def aRO (E : aQ) (r5 : DV) (h : H) : aL := vK (cM .ptr true h.get r5 .nilp) λ x1 => some (x1, h)
def aRP (r0 r1 : DV) (h : H) : aL := wK (aB E 33 [r0, r1] h) λ x1 h2 => vK (cM .ptr true h2.get x1 .nilp) λ x3 => bK x3 (vK (aC x1) λ x4 => vK (aG 3 x4) λ x5 => wK (dD 1 x5 (.bool true) h2) λ x6 h7 => aRO E x1 h7) (aRO E x1 h2)
theorem bUX : Is E bXj (bB D14.res) (λ σ h => aRO E (σ p5) h) := Is.rf
theorem bUY : jY E D14 (aRP E) := Is.aq (Is.sq (Is.sq (Is.sq (bUX E) (Is.leaf _)) (Is.leaf _)) (Is.leaf _))
def S14 : bC := jU (aRP E)
theorem bJf : SQ D14 S14 := kG bUY
def D15 := cm 15
def aRN (r0 r1 : DV) (h : H) : aL := wK (aB E 34 [r0, r1] h) λ x1 h2 => vK (aN 0 x1) λ x3 => vK (aN 1 x1) λ x4 => vK (cW x4 (ii 0)) λ x5 => bK x5 (some (.nils, h2)) (wK (aB E 36 [x3] h2) λ x6 h7 => some (x6, h7))
theorem bUW : jY E D15 (aRN E) := Is.rf
def S15 : bC := jU (aRN E)
theorem bJe : SQ D15 S15 := kG bUW
def D17 := cm 17
def bGb (h : H) : aL := wK (aB E 8 [(ii 4), (ii 60), (ii 3), (ii 1)] h) λ x1 h2 => wK (aB E 18 [x1] h2) λ x3 h4 => vK (cM .ptr false h4.get x1 .nilp) λ x5 => aJ x5 false (λ kk => kk x3 h4) h4 λ x6 h7 => aJ x5 false (λ kk => vK (cM .ptr false h7.get x6 .nilp) λ v => kk v h7) h7 λ x8 h9 => vK (aH x5 (.bool true) x8) λ x10 => aJ x10 false (λ kk => wK (aB E 18 [.nilp] h9) kk) h9 λ x11 h12 => aJ x10 false (λ kk => vK (cM .ptr true h12.get x11 .nilp) λ v => kk v h12) h12 λ x13 h14 => vK (aH x10 (.bool true) x13) λ x15 => bK x15 (some ((.bool false), h14)) (wK (aB E 9 [x1, (ii 0), (.str [97]), (.int .i64 (.negSucc 0))] h14) λ x16 h17 => wK (aB E 9 [x1, (ii 0), (.str [98, 98]), (.int .i64 (.negSucc 0))] h17) λ x18 h19 => wK (aB E 9 [x1, (ii 0), (.str [99, 99, 99]), (.int .i64 (.negSucc 0))] h19) λ x20 h21 => wK (aB E 22 [x3] h21) λ x22 h23 => wK (aB E 19 [x3, (ii 1)] h23) λ x24 h25 => wK (aB E 20 [x3] h25) λ x26 h27 => vK (aN 0 x26) λ x28 => vK (aN 1 x26) λ x29 => wK (aB E 23 [x3, (ii 2)] h27) λ x30 h31 => vK (aN 0 x30) λ x32 => vK (aN 1 x30) λ x33 => wK (aB E 22 [x3] h31) λ x34 h35 => wK (aB E 23 [x3, (ii 2)] h35) λ x36 h37 => vK (aN 0 x36) λ x38 => vK (aN 1 x36) λ x39 => wK (aB E 22 [x3] h37) λ x40 h41 => wK (aB E 12 [x1, (ii 2)] h41) λ x42 h43 => vK (aN 0 x42) λ x44 => vK (aN 1 x42) λ x45 => vK (cF x22 (ii 16)) λ x46 => aJ x46 true (λ kk => kk x24 h43) h43 λ x47 h48 => aJ x46 true (λ kk => vK (cF x47 (ii 0)) λ v => kk v h48) h48 λ x49 h50 => vK (aH x46 x49 (.bool false)) λ x51 => aJ x51 true (λ kk => kk x28 h50) h50 λ x52 h53 => aJ x51 true (λ kk => vK (cF x52 (ii 3)) λ v => kk v h53) h53 λ x54 h55 => vK (aH x51 x54 (.bool false)) λ x56 => aJ x56 true (λ kk => kk x29 h55) h55 λ x57 h58 => aJ x56 true (λ kk => vK (cF x57 (ii 0)) λ v => kk v h58) h58 λ x59 h60 => vK (aH x56 x59 (.bool false)) λ x61 => aJ x61 true (λ kk => kk x32 h60) h60 λ x62 h63 => aJ x61 true (λ kk => vK (cF x62 (ii 2)) λ v => kk v h63) h63 λ x64 h65 => vK (aH x61 x64 (.bool false)) λ x66 => aJ x66 true (λ kk => kk x33 h65) h65 λ x67 h68 => aJ x66 true (λ kk => vK (cF x67 (ii 0)) λ v => kk v h68) h68 λ x69 h70 => vK (aH x66 x69 (.bool false)) λ x71 => aJ x71 true (λ kk => kk x34 h70) h70 λ x72 h73 => aJ x71 true (λ kk => vK (cF x72 (ii 16)) λ v => kk v h73) h73 λ x74 h75 => vK (aH x71 x74 (.bool false)) λ x76 => aJ x76 true (λ kk => kk x38 h75) h75 λ x77 h78 => aJ x76 true (λ kk => vK (cF x77 (ii 1)) λ v => kk v h78) h78 λ x79 h80 => vK (aH x76 x79 (.bool false)) λ x81 => aJ x81 true (λ kk => kk x39 h80) h80 λ x82 h83 => aJ x81 true (λ kk => vK (cF x82 (ii 0)) λ v => kk v h83) h83 λ x84 h85 => vK (aH x81 x84 (.bool false)) λ x86 => aJ x86 true (λ kk => kk x40 h85) h85 λ x87 h88 => aJ x86 true (λ kk => vK (cF x87 (ii 0)) λ v => kk v h88) h88 λ x89 h90 => vK (aH x86 x89 (.bool false)) λ x91 => aJ x91 true (λ kk => kk x44 h90) h90 λ x92 h93 => aJ x91 true (λ kk => vK (cF x92 (.str [99, 99, 99])) λ v => kk v h93) h93 λ x94 h95 => vK (aH x91 x94 (.bool false)) λ x96 => aJ x96 true (λ kk => kk x45 h95) h95 λ x97 h98 => aJ x96 true (λ kk => vK (cF x97 (ii 0)) λ v => kk v h98) h98 λ x99 h100 => vK (aH x96 x99 (.bool false)) λ x101 => aJ x101 true (λ kk => kk x1 h100) h100 λ x102 h103 => aJ x101 true (λ kk => wK (aB E 13 [x102, (ii 0)] h103) kk) h103 λ x104 h105 => aJ x101 true (λ kk => vK (cF x104 (ii 0)) λ v => kk v h105) h105 λ x106 h107 => vK (aH x101 x106 (.bool false)) λ x108 => some (x108, h107))
theorem bUV : iB0 E D17 (bGb E) := Is.rf
def S17 : bC := fA0 (bGb E)
theorem bJd : SQ D17 S17 := eB0 bUV
def D18 := cm 18
def aRM (E : aQ) (r0 : DV) (h : H) : aL := vK (cM .ptr false h.get r0 .nilp) λ x1 => bK x1 (some (.nilp, h)) (vK (dH [.nilp, (ii 0)] [(0, 1, r0), (1, 1, (.int .i64 (.negSucc 0)))]) λ x2 => cY x2 h λ x3 h4 => some (x3, h4))
theorem bUU : lZ E D18 (aRM E) := Is.rf
def S18 : bC := lY (aRM E)
theorem bJc : SQ D18 S18 := mD bUU
def D19 := cm 19
def bXi := cr (cr (cr (cr D19.body)))
def aRK (E : aQ) (r5 : DV) (h : H) : aL := some (r5, h)
def aRL (r0 r1 : DV) (h : H) : aL := vK (cM .ptr false h.get r0 .nilp) λ x1 => bK x1 (some ((ii 1), h)) (vK (aC r0) λ x2 => vK (aG 0 x2) λ x3 => vK (aF h.get x3) λ x4 => wK (aB E 40 [r0] h) λ x5 h6 => rK (rcK (aF h6.get x3) x4) <| dI 2 1 [(ii 0)] [(0, 1, r1), (1, 1, x5)] h6 λ x7 h8 => wK (aB E 29 [x4, (ii 15), (ii 5), x7] h8) λ x9 h10 => vK (aN 0 x9) λ x11 => vK (aN 1 x9) λ x12 => vK (cF x11 (ii 0)) λ x13 => bK x13 (vK (aC r0) λ x14 => vK (aG 0 x14) λ x15 => vK (aF h10.get x15) λ x16 => wK (aB E 10 [x16] h10) λ x17 h18 => wK (aB E 14 [x17, r1] h18) λ x19 h20 => aRK E x11 h20) (aRK E x11 h10))
theorem bUS : Is E bXi (bB D19.res) (λ σ h => aRK E (σ p5) h) := Is.rf
theorem bUT : jY E D19 (aRL E) := Is.aq (Is.sq (Is.sq (Is.sq (Is.sq (bUS E) (Is.leaf _)) (Is.leaf _)) (Is.leaf _)) (Is.leaf _))
def S19 : bC := jU (aRL E)
theorem bJb : SQ D19 S19 := kG bUT
def D20 := cm 20
def aRJ (r0 : DV) (h : H) : aL := vK (cM .ptr false h.get r0 .nilp) λ x1 => bK x1 (some ((.tup [(ii 0), (ii 1)]), h)) (vK (aC r0) λ x2 => vK (aG 0 x2) λ x3 => vK (aF h.get x3) λ x4 => wK (aB E 40 [r0] h) λ x5 h6 => rK (rcK (aF h6.get x3) x4) <| dI 1 1 [(ii 0)] [(0, 1, x5)] h6 λ x7 h8 => wK (aB E 29 [x4, (ii 15), (ii 6), x7] h8) λ x9 h10 => vK (aN 0 x9) λ x11 => vK (aN 1 x9) λ x12 => vK (cW x11 (ii 0)) λ x13 => bK x13 (some ((.tup [(ii 0), x11]), h10)) (vK (bY 1 x12 (ii 0)) λ x14 => vK (aF h10.get x14) λ x15 => vK (aC r0) λ x16 => vK (aG 1 x16) λ x17 => wK (dD 1 x17 x15 h10) λ x18 h19 => vK (aC r0) λ x20 => vK (aG 1 x20) λ x21 => vK (aF h19.get x21) λ x22 => some ((.tup [x22, (ii 0)]), h19)))
theorem bUR : lZ E D20 (aRJ E) := Is.rf
def S20 : bC := lY (aRJ E)
theorem bJa : SQ D20 S20 := mD bUR
def D21 := cm 21
def bXh := cr (cr (cr (cr D21.body)))
def bGl := cl (cr (cl (cr (cr (cr D21.body)))))
def bXg := cr (cr (cr (cl bGl)))
def aRH (E : aQ) (r3 : DV) (h : H) : aL := some (r3, h)
def aRG (E : aQ) (i2 : DV → DV → H → aL) (r3 r22 : DV) (h : H) : aL := vK (bW r22 (ii 1)) λ x1 => i2 r3 x1 h
def aLk (r0 r20 r21 : DV) (i2 : DV → DV → H → aL) (r3 r22 : DV) (h : H) : aL := vK (bO r22 r21) λ x1 => bK x1 (vK (bY 1 r20 r22) λ x2 => vK (aF h.get x2) λ x3 => wK (aB E 43 [r0, x3] h) λ x4 h5 => vK (dH [(ii 0), (ii 0)] [(1, 1, (.int .i64 (.negSucc 0)))]) λ x6 => vK (wZ true (.leaf .int 0 (.leaf .int 1 .nil)) h5.get x4 x6) λ x7 => bK x7 (dI 1 1 [(ii 0)] [(0, 1, x3)] h5 λ x8 h9 => wK (cJ 1 8 r3 x8 h9) λ x10 h11 => aRG E i2 x10 r22 h11) (aRG E i2 r3 r22 h5)) (aRH E r3 h)
def aBM (r0 r20 r21 : DV) (n : Nat) : DV → DV → H → aL := Nat.rec (motive := λ _ => DV → DV → H → aL) (λ _ _ _ => none) (λ _ i => aLk E r0 r20 r21 i) n
def aRI (r0 : DV) (h : H) : aL := vK (cM .ptr false h.get r0 .nilp) λ x1 => aJ x1 false (λ kk => kk r0 h) h λ x2 h3 => aJ x1 false (λ kk => vK (aC x2) λ v => kk v h3) h3 λ x4 h5 => aJ x1 false (λ kk => vK (aG 1 x4) λ v => kk v h5) h5 λ x6 h7 => aJ x1 false (λ kk => vK (aF h7.get x6) λ v => kk v h7) h7 λ x8 h9 => aJ x1 false (λ kk => vK (cF x8 (.int .i64 (.negSucc 0))) λ v => kk v h9) h9 λ x10 h11 => vK (aH x1 (.bool true) x10) λ x12 => bK x12 (some (.nils, h11)) (vK (aC r0) λ x13 => vK (aG 0 x13) λ x14 => vK (aF h11.get x14) λ x15 => wK (aB E 41 [x15] h11) λ x16 h17 => wK (aB E 42 [x16, (ii 2)] h17) λ x18 h19 => vK (aO x18) λ x20 => aBM E r0 x18 x20 aK .nils (ii 0) h19)
theorem bUP : Is E bXh (bB D21.res) (λ σ h => aRH E (σ p3) h) := Is.rf
abbrev bFw : gS (DV × H) := (bU (λ σ h => aRH E (σ p3) h) (bB D21.res))
abbrev bSz (n2 : Nat) : gS (DV × H) := (bU (λ σ h => (aBM E (σ p0) (σ p20) (σ p21) n2) (σ p3) (σ p22) h) (bF 0 (bFw E)))
theorem bUN (n2 : Nat) : Is E bXg (bSz E n2) (λ σ h => aRG E (aBM E (σ p0) (σ p20) (σ p21) n2) (σ p3) (σ p22) h) := Is.rf
theorem bUO : Is E bGl (bF 0 (bFw E)) (λ σ h => aBM E (σ p0) (σ p20) (σ p21) aK (σ p3) (σ p22) h) := Is.lp (λ n2 σ h => aBM E (σ p0) (σ p20) (σ p21) n2 (σ p3) (σ p22) h) λ n2 => Is.aq (Is.sq (Is.sq (Is.sq (bUN E n2) (Is.leaf _)) (Is.leaf _)) (Is.leaf _))
theorem bUQ : lZ E D21 (aRI E) := Is.aq (Is.sq (Is.sq (Is.sq (Is.sq (bUP E) (Is.sq (Is.bk (bUO E)) (Is.leaf _))) (Is.leaf _)) (Is.leaf _)) (Is.leaf _))
def S21 : bC := lY (aRI E)
theorem bIZ : SQ D21 S21 := mD bUQ
def D22 := cm 22
def aRF (r0 : DV) (h : H) : aL := vK (cM .ptr false h.get r0 .nilp) λ x1 => bK x1 (some ((ii 1), h)) (vK (aC r0) λ x2 => vK (aG 1 x2) λ x3 => vK (aF h.get x3) λ x4 => vK (cF x4 (.int .i64 (.negSucc 0))) λ x5 => aJ x5 false (λ kk => kk r0 h) h λ x6 h7 => aJ x5 false (λ kk => wK (aB E 21 [x6] h7) kk) h7 λ x8 h9 => aJ x5 false (λ kk => vK (aO x8) λ v => kk v h9) h9 λ x10 h11 => aJ x5 false (λ kk => vK (dO x10 (ii 0)) λ v => kk v h11) h11 λ x12 h13 => vK (aH x5 (.bool true) x12) λ x14 => bK x14 (some ((ii 16), h13)) (vK (aC r0) λ x15 => vK (aG 0 x15) λ x16 => vK (aF h13.get x16) λ x17 => wK (aB E 40 [r0] h13) λ x18 h19 => rK (rcK (aF h19.get x16) x17) <| dI 1 1 [(ii 0)] [(0, 1, x18)] h19 λ x20 h21 => wK (aB E 29 [x17, (ii 15), (ii 7), x20] h21) λ x22 h23 => vK (aN 0 x22) λ x24 => vK (aN 1 x22) λ x25 => some (x24, h23)))
theorem bUM : lZ E D22 (aRF E) := Is.rf
def S22 : bC := lY (aRF E)
theorem bIY : SQ D22 S22 := mD bUM
def D23 := cm 23
def bXf := cr (cr (cr (cr D23.body)))
def bXe := cl (cr (cl (cr (cr (cr D23.body)))))
def aKQ (E : aQ) (r1 r6 : DV) (h : H) : aL := vK (wP r1 (ii 0)) λ x1 => vK (aO r6) λ x2 => vK (xM x1 x2) λ x3 => some ((.tup [x3, (ii 0)]), h)
def aEt (r0 r1 r6 r17 : DV) (i2 : DV → H → aL) (r18 : DV) (h : H) : aL := vK (bO r18 r17) λ x1 => bK x1 (vK (bY 1 r6 r18) λ x2 => vK (aF h.get x2) λ x3 => wK (aB E 43 [r0, x3] h) λ x4 h5 => wK (aB E 44 [r0, x4] h5) λ x6 h7 => vK (cW x6 (ii 0)) λ x8 => bK x8 (some ((.tup [r18, x6]), h7)) (vK (bW r18 (ii 1)) λ x9 => i2 x9 h7)) (aKQ E r1 r6 h)
def aGc (r0 r1 r6 r17 : DV) (n : Nat) : DV → H → aL := Nat.rec (motive := λ _ => DV → H → aL) (λ _ _ => none) (λ _ i => aEt E r0 r1 r6 r17 i) n
def aRE (r0 r1 : DV) (h : H) : aL := vK (cM .ptr false h.get r0 .nilp) λ x1 => bK x1 (some ((.tup [(ii 0), (ii 1)]), h)) (wK (aB E 21 [r0] h) λ x2 h3 => vK (wP r1 (ii 0)) λ x4 => vK (aO x2) λ x5 => vK (xM x4 x5) λ x6 => aGc E r0 r1 x2 x6 aK (ii 0) h3)
theorem bUK : Is E bXf (bB D23.res) (λ σ h => aKQ E (σ p1) (σ p6) h) := Is.rf
abbrev bSy : gS (DV × H) := (bU (λ σ h => aKQ E (σ p1) (σ p6) h) (bB D23.res))
theorem bUJ : Is E bXe (bF 0 (bSy E)) (λ σ h => aGc E (σ p0) (σ p1) (σ p6) (σ p17) aK (σ p18) h) := Is.lp (λ n2 σ h => aGc E (σ p0) (σ p1) (σ p6) (σ p17) n2 (σ p18) h) λ n2 => Is.aq (Is.leaf _)
theorem bUL : jY E D23 (aRE E) := Is.aq (Is.sq (Is.sq (Is.sq (Is.sq (bUK E) (Is.sq (Is.bk (bUJ E)) (Is.leaf _))) (Is.leaf _)) (Is.leaf _)) (Is.leaf _))
def S23 : bC := jU (aRE E)
theorem bIX : SQ D23 S23 := kG bUL
def D25 := cm 25
def bXd := cr (cr (cr D25.body))
def bXc := cl (cr (cl (cr (cr D25.body))))
def aRC (E : aQ) (r5 : DV) (h : H) : aL := some (r5, h)
def aLj (r1 r5 r13 : DV) (i2 : DV → H → aL) (r14 : DV) (h : H) : aL := vK (bO r14 r13) λ x1 => bK x1 (vK (wP r1 (ii 9)) λ x2 => wK (aB E 45 [x2] h) λ x3 h4 => wK (aB E 46 [x3] h4) λ x5 h6 => vK (aN 0 x5) λ x7 => vK (aN 1 x5) λ x8 => vK (aC r5) λ x9 => vK (aG 0 x9) λ x10 => vK (aF h6.get x10) λ x11 => vK (dH [.nilp, .nilp, (.bool false), (.bool false)] [(0, 1, x3), (1, 1, x7)]) λ x12 => cY x12 h6 λ x13 h14 => dI 1 1 [.nilp] [(0, 1, x13)] h14 λ x15 h16 => wK (cJ 1 8 x11 x15 h16) λ x17 h18 => vK (aC r5) λ x19 => vK (aG 0 x19) λ x20 => wK (dD 1 x20 x17 h18) λ x21 h22 => vK (bW r14 (ii 1)) λ x23 => i2 x23 h22) (aRC E r5 h)
def aGb (r1 r5 r13 : DV) (n : Nat) : DV → H → aL := Nat.rec (motive := λ _ => DV → H → aL) (λ _ _ => none) (λ _ i => aLj E r1 r5 r13 i) n
def aRD (r0 r1 : DV) (h : H) : aL := vK (dH [.nils] []) λ x1 => cY x1 h λ x2 h3 => vK (wP r0 (ii 1)) λ x4 => vK (xM x4 (ii 8)) λ x5 => aGb E r1 x2 x5 aK (ii 0) h3
theorem bUH : Is E bXd (bB D25.res) (λ σ h => aRC E (σ p5) h) := Is.rf
abbrev bSx : gS (DV × H) := (bU (λ σ h => aRC E (σ p5) h) (bB D25.res))
theorem bUG : Is E bXc (bF 0 (bSx E)) (λ σ h => aGb E (σ p1) (σ p5) (σ sU) aK (σ tW) h) := Is.lp (λ n2 σ h => aGb E (σ p1) (σ p5) (σ sU) n2 (σ tW) h) λ n2 => Is.aq (Is.leaf _)
theorem bUI : jY E D25 (aRD E) := Is.aq (Is.sq (Is.sq (Is.sq (bUH E) (Is.sq (Is.bk (bUG E)) (Is.leaf _))) (Is.leaf _)) (Is.leaf _))
def S25 : bC := jU (aRD E)
theorem bIW : SQ D25 S25 := kG bUI
def D26 := cm 26
def bGa (r0 r1 : DV) (h : H) : aL := wK (aB E 47 [r0, r1] h) λ x1 h2 => vK (cM .ptr false h2.get x1 .nilp) λ x3 => bK x3 (some (.nilp, h2)) (wK (aB E 48 [] h2) λ x4 h5 => wK (aB E 49 [] h5) λ x6 h7 => wK (aB E 50 [] h7) λ x8 h9 => wK (aB E 51 [] h9) λ x10 h11 => wK (aB E 52 [(ii 4)] h11) λ x12 h13 => vK (dH [.nilp, .nilp, .nilp, .nilp, .nilp, .nilp, (ii 0)] [(0, 1, x1), (1, 1, x4), (2, 1, x6), (3, 1, x8), (4, 1, x10), (5, 1, x12)]) λ x14 => cY x14 h13 λ x15 h16 => some (x15, h16))
theorem bUF : jY E D26 (bGa E) := Is.rf
def S26 : bC := jU (bGa E)
theorem aXv : SQ D26 S26 := kG bUF
def D27 := cm 27
def bXb := cr (cr (cr D27.body))
def bXa := cl (cr (cl (cr (cr D27.body))))
def aYJ (E : aQ) (r5 : DV) (h : H) : aL := some (r5, h)
def bXl (r0 r5 r10 : DV) (i2 : DV → H → aL) (r11 : DV) (h : H) : aL := vK (bO r11 r10) λ x1 => bK x1 (vK (bW r0 r11) λ x2 => vK (bY 1 r5 r11) λ x3 => wK (dD 1 x3 x2 h) λ x4 h5 => vK (bW r11 (ii 1)) λ x6 => i2 x6 h5) (aYJ E r5 h)
def aYr (r0 r5 r10 : DV) (n : Nat) : DV → H → aL := Nat.rec (motive := λ _ => DV → H → aL) (λ _ _ => none) (λ _ i => bXl E r0 r5 r10 i) n
def bFZ (r0 r1 : DV) (h : H) : aL := jN 1 8 (ii 0) r1 r1 h λ x1 h2 => vK (aO x1) λ x3 => aYr E r0 x1 x3 aK (ii 0) h2
theorem bUD : Is E bXb (bB D27.res) (λ σ h => aYJ E (σ p5) h) := Is.rf
abbrev bSw : gS (DV × H) := (bU (λ σ h => aYJ E (σ p5) h) (bB D27.res))
theorem bUC : Is E bXa (bF 0 (bSw E)) (λ σ h => aYr E (σ p0) (σ p5) (σ nI) aK (σ p11) h) := Is.lp (λ n2 σ h => aYr E (σ p0) (σ p5) (σ nI) n2 (σ p11) h) λ n2 => Is.aq (Is.leaf _)
theorem bUE : jY E D27 (bFZ E) := Is.aq (Is.sq (Is.sq (Is.sq (bUD E) (Is.sq (Is.bk (bUC E)) (Is.leaf _))) (Is.leaf _)) (Is.leaf _))
def S27 : bC := jU (bFZ E)
theorem aXu : SQ D27 S27 := kG bUE
def D28 := cm 28
def aGh (E : aQ) (r0 : DV) (h : H) : aL := vK (cM .ptr false h.get r0 .nilp) λ x1 => bK x1 (some ((ii 0), h)) (vK (aC r0) λ x2 => vK (aG 2 x2) λ x3 => vK (aF h.get x3) λ x4 => vK (kI x4 (ii 1)) λ x5 => vK (mB (ii 512) x5) λ x6 => some (x6, h))
theorem bUB : lZ E D28 (aGh E) := Is.rf
def S28 : bC := lY (aGh E)
theorem bIV : SQ D28 S28 := mD bUB
def D29 := cm 29
def bWZ := cr (cr (cr (cr D29.body)))
def bGk := cl (cr (cl (cr (cr (cr D29.body)))))
def bWY := cr (cr (cr (cl bGk)))
def aYI (r0 r1 r10 : DV) (h : H) : aL := vK (cX 8 h.get r10) λ x1 => wK (aB E 53 [x1] h) λ x2 h3 => vK (aN 0 x2) λ x4 => vK (aN 1 x2) λ x5 => vK (cW x5 (ii 0)) λ x6 => bK x6 (some ((.tup [(ii 1), .nils]), h3)) (vK (aC r0) λ x7 => vK (aG 3 x7) λ x8 => vK (pT 16 1 x8 r1) λ x9 => vK (aF h3.get x9) λ x10 => vK (bW x10 (ii 1)) λ x11 => vK (aC r0) λ x12 => vK (aG 3 x12) λ x13 => vK (pT 16 1 x13 r1) λ x14 => wK (dD 1 x14 x11 h3) λ x15 h16 => vK (aC r0) λ x17 => vK (aG 1 x17) λ x18 => vK (aF h16.get x18) λ x19 => wK (aB E 55 [x19, x4] h16) λ x20 h21 => wK (aB E 54 [x20] h21) λ x22 h23 => vK (aN 0 x22) λ x24 => vK (aN 1 x22) λ x25 => vK (aN 2 x22) λ x26 => some ((.tup [x24, x25]), h23))
def aYH (E : aQ) (i2 : DV → H → aL) (r44 : DV) (h : H) : aL := vK (bW r44 (ii 1)) λ x1 => i2 x1 h
def bXk (r0 r1 r3 r10 r42 r43 : DV) (i2 : DV → H → aL) (r44 : DV) (h : H) : aL := vK (bO r44 r43) λ x1 => bK x1 (vK (bY 1 r42 r44) λ x2 => vK (aF h.get x2) λ x3 => vK (aO r3) λ x4 => vK (bO r44 x4) λ x5 => bK x5 (vK (bY 1 r3 r44) λ x6 => vK (aF h.get x6) λ x7 => vK (aC x3) λ x8 => wK (dD 1 x8 x7 h) λ x9 h10 => aYH E i2 r44 h10) (aYH E i2 r44 h)) (aYI E r0 r1 r10 h)
def aKL (r0 r1 r3 r10 r42 r43 : DV) (n : Nat) : DV → H → aL := Nat.rec (motive := λ _ => DV → H → aL) (λ _ _ => none) (λ _ i => bXk E r0 r1 r3 r10 r42 r43 i) n
def bFY (r0 r1 r2 r3 : DV) (h : H) : aL := vK (cM .ptr false h.get r0 .nilp) λ x1 => aJ x1 false (λ kk => kk r1 h) h λ x2 h3 => aJ x1 false (λ kk => vK (bO x2 (ii 0)) λ v => kk v h3) h3 λ x4 h5 => vK (aH x1 (.bool true) x4) λ x6 => aJ x6 false (λ kk => kk r1 h5) h5 λ x7 h8 => aJ x6 false (λ kk => vK (eQ x7 (ii 16)) λ v => kk v h8) h8 λ x9 h10 => vK (aH x6 (.bool true) x9) λ x11 => bK x11 (some ((.tup [(ii 1), .nils]), h10)) (vK (aC r0) λ x12 => vK (aG 3 x12) λ x13 => vK (pT 16 1 x13 r1) λ x14 => vK (aF h10.get x14) λ x15 => vK (dH [(ii 0), (ii 0), (ii 0), (ii 0), (ii 0), (ii 0), (ii 0), (ii 0)] [(0, 1, r1), (1, 1, x15), (2, 1, r2)]) λ x16 => gR 8 8 (.list [(ii 0), (ii 0), (ii 0), (ii 0), (ii 0), (ii 0), (ii 0), (ii 0)]) h10 λ x17 h18 => wK (dD 8 x17 x16 h18) λ x19 h20 => vK (aG 3 x17) λ x21 => vK (aG 4 x17) λ x22 => vK (aG 5 x17) λ x23 => vK (aG 6 x17) λ x24 => vK (aG 7 x17) λ x25 => dI 5 1 [.nilp] [(0, 1, x21), (1, 1, x22), (2, 1, x23), (3, 1, x24), (4, 1, x25)] h20 λ x26 h27 => vK (aO x26) λ x28 => aKL E r0 r1 r3 x17 x26 x28 aK (ii 0) h27)
theorem bUz : Is E bWZ (bB D29.res) (λ σ h => aYI E (σ p0) (σ p1) (σ nI) h) := Is.rf
abbrev bFv : gS (DV × H) := (bU (λ σ h => aYI E (σ p0) (σ p1) (σ nI) h) (bB D29.res))
abbrev bSv (n2 : Nat) : gS (DV × H) := (bU (λ σ h => (aKL E (σ p0) (σ p1) (σ p3) (σ nI) (σ p42) (σ p43) n2) (σ p44) h) (bF 0 (bFv E)))
theorem bUx (n2 : Nat) : Is E bWY (bSv E n2) (λ σ h => aYH E (aKL E (σ p0) (σ p1) (σ p3) (σ nI) (σ p42) (σ p43) n2) (σ p44) h) := Is.rf
theorem bUy : Is E bGk (bF 0 (bFv E)) (λ σ h => aKL E (σ p0) (σ p1) (σ p3) (σ nI) (σ p42) (σ p43) aK (σ p44) h) := Is.lp (λ n2 σ h => aKL E (σ p0) (σ p1) (σ p3) (σ nI) (σ p42) (σ p43) n2 (σ p44) h) λ n2 => Is.aq (Is.sq (Is.sq (Is.sq (bUx E n2) (Is.leaf _)) (Is.leaf _)) (Is.leaf _))
theorem bUA : iB4 E D29 (bFY E) := Is.aq (Is.sq (Is.sq (Is.sq (Is.sq (bUz E) (Is.sq (Is.bk (bUy E)) (Is.leaf _))) (Is.leaf _)) (Is.leaf _)) (Is.leaf _))
def S29 : bC := fA4 (bFY E)
theorem aXt : SQ D29 S29 := eB4 bUA
def D30 := cm 30
def bWX := cr (cr (cr (cr (cr (cr (cr D30.body))))))
def bWW := cl (cl (cr (cr (cr (cr (cr (cr D30.body)))))))
def aRA (r7 : DV) (h : H) : aL := wK (aB E 60 [r7, (.int .i64 (.negSucc 0))] h) λ x1 h2 => vK (aN 0 x1) λ x3 => vK (aN 1 x1) λ x4 => wK (aB E 61 [x3] h2) λ x5 h6 => dI 1 1 [(.str [])] [(0, 1, x5)] h6 λ x7 h8 => wK (cJ 1 16 r7 x7 h8) λ x9 h10 => some ((.tup [x9, (ii 0)]), h10)
def aLi (r1 r9 : DV) (i2 : DV → H → aL) (r7 : DV) (h : H) : aL := vK (aO r7) λ x1 => vK (kI r1 (ii 1)) λ x2 => vK (bO x1 x2) λ x3 => bK x3 (dI 1 1 [(.str [])] [(0, 1, r9)] h λ x4 h5 => wK (cJ 1 16 r7 x4 h5) λ x6 h7 => i2 x6 h7) (aRA E r7 h)
def aGa (r1 r9 : DV) (n : Nat) : DV → H → aL := Nat.rec (motive := λ _ => DV → H → aL) (λ _ _ => none) (λ _ i => aLi E r1 r9 i) n
def aRB (r0 r1 : DV) (h : H) : aL := wK (aB E 56 [r1] h) λ x1 h2 => vK (eN x1) λ x3 => bK x3 (some ((.tup [.nils, (ii 1)]), h2)) (vK (eI r0) λ x4 => wK (aB E 57 [x4, r1] h2) λ x5 h6 => vK (eI r0) λ x7 => vK (dO x7 (ii 65536)) λ x8 => aJ x8 false (λ kk => kk x5 h6) h6 λ x9 h10 => aJ x8 false (λ kk => vK (dO x9 (ii 512)) λ v => kk v h10) h10 λ x11 h12 => vK (aH x8 (.bool true) x11) λ x13 => bK x13 (some ((.tup [.nils, (ii 2)]), h12)) (vK (wP x5 (ii 1)) λ x14 => wK (aB E 58 [r0, x14] h12) λ x15 h16 => vK (aN 0 x15) λ x17 => vK (aN 1 x15) λ x18 => wK (aB E 59 [(.str []), x5] h16) λ x19 h20 => vK (aN 0 x19) λ x21 => vK (aN 1 x19) λ x22 => aGa E r1 x21 aK x17 h20))
theorem bUv : Is E bWX (bB D30.res) (λ σ h => aRA E (σ p7) h) := Is.rf
abbrev bSu : gS (DV × H) := (bU (λ σ h => aRA E (σ p7) h) (bB D30.res))
theorem bUu : Is E bWW (bF 0 (bSu E)) (λ σ h => aGa E (σ p1) (σ p9) aK (σ p7) h) := Is.lp (λ n2 σ h => aGa E (σ p1) (σ p9) n2 (σ p7) h) λ n2 => Is.aq (Is.leaf _)
theorem bUw : jY E D30 (aRB E) := Is.aq (Is.sq (Is.sq (Is.sq (Is.sq (Is.sq (Is.sq (Is.sq (bUv E) (Is.bk (bUu E))) (Is.leaf _)) (Is.leaf _)) (Is.leaf _)) (Is.leaf _)) (Is.leaf _)) (Is.leaf _))
def S30 : bC := jU (aRB E)
theorem bIU : SQ D30 S30 := kG bUw
def D31 := cm 31
def aRz (r0 r1 r2 r3 : DV) (h : H) : aL := vK (cM .ptr false h.get r0 .nilp) λ x1 => bK x1 (some ((ii 1), h)) (wK (aB E 62 [r0, r1, r2] h) λ x2 h3 => vK (aN 0 x2) λ x4 => vK (aN 1 x2) λ x5 => vK (eN x5) λ x6 => bK x6 (some ((ii 7), h3)) (vK (aC r0) λ x7 => vK (aG 0 x7) λ x8 => vK (aF h3.get x8) λ x9 => vK (dH [(ii 0), (ii 0)] [(0, 1, r1), (1, 1, r2)]) λ x10 => wK (aB E 63 [x9, x4, x10, r3] h3) λ x11 h12 => some (x11, h12)))
theorem bUt : iB4 E D31 (aRz E) := Is.rf
def S31 : bC := fA4 (aRz E)
theorem bIT : SQ D31 S31 := eB4 bUt
def D33 := cm 33
def aRy (E : aQ) (r0 r1 : DV) (h : H) : aL := vK (cM .ptr false h.get r0 .nilp) λ x1 => aJ x1 false (λ kk => kk r1 h) h λ x2 h3 => aJ x1 false (λ kk => vK (bO x2 (ii 0)) λ v => kk v h3) h3 λ x4 h5 => vK (aH x1 (.bool true) x4) λ x6 => aJ x6 false (λ kk => kk r1 h5) h5 λ x7 h8 => aJ x6 false (λ kk => kk r0 h8) h8 λ x9 h10 => aJ x6 false (λ kk => vK (aC x9) λ v => kk v h10) h10 λ x11 h12 => aJ x6 false (λ kk => vK (aG 0 x11) λ v => kk v h12) h12 λ x13 h14 => aJ x6 false (λ kk => vK (aF h14.get x13) λ v => kk v h14) h14 λ x15 h16 => aJ x6 false (λ kk => vK (aO x15) λ v => kk v h16) h16 λ x17 h18 => aJ x6 false (λ kk => vK (eQ x7 x17) λ v => kk v h18) h18 λ x19 h20 => vK (aH x6 (.bool true) x19) λ x21 => bK x21 (some (.nilp, h20)) (vK (aC r0) λ x22 => vK (aG 0 x22) λ x23 => vK (aF h20.get x23) λ x24 => vK (bY 1 x24 r1) λ x25 => vK (aF h20.get x25) λ x26 => some (x26, h20))
theorem bUs : jY E D33 (aRy E) := Is.rf
def S33 : bC := jU (aRy E)
theorem bIS : SQ D33 S33 := kG bUs
def D34 := cm 34
def aRx (r0 r1 : DV) (h : H) : aL := vK (cM .ptr false h.get r0 .nilp) λ x1 => bK x1 (some ((.tup [.nilp, (ii 1)]), h)) (wK (aB E 41 [r0] h) λ x2 h3 => wK (aB E 65 [x2, r1] h3) λ x4 h5 => vK (aN 0 x4) λ x6 => vK (aN 1 x4) λ x7 => gR 6 6 (.list [(ii 0), (ii 0), (ii 0), (ii 0), (ii 0), .nils]) h5 λ x8 h9 => wK (dD 6 x8 x6 h9) λ x10 h11 => vK (eN x7) λ x12 => aJ x12 false (λ kk => vK (aG 1 x8) λ v => kk v h11) h11 λ x13 h14 => aJ x12 false (λ kk => vK (aF h14.get x13) λ v => kk v h14) h14 λ x15 h16 => aJ x12 false (λ kk => vK (cW x15 (ii 2)) λ v => kk v h16) h16 λ x17 h18 => vK (aH x12 (.bool true) x17) λ x19 => bK x19 (some ((.tup [.nilp, (ii 7)]), h18)) (vK (aG 5 x8) λ x20 => vK (aF h18.get x20) λ x21 => vK (aO x21) λ x22 => vK (cX 6 h18.get x8) λ x23 => vK (aG 4 x8) λ x24 => vK (aF h18.get x24) λ x25 => jN 1 16 (.str []) x22 x22 h18 λ x26 h27 => jN 1 1 (.bool false) x22 x22 h27 λ x28 h29 => jN 1 1 (.bool false) x22 x22 h29 λ x30 h31 => wK (aB E 57 [x25, x22] h31) λ x32 h33 => rK (rcK (cX 6 h33.get x8) x23) <| vK (dH [.nilp, (ii 0), (ii 0), (ii 0), (ii 0), (ii 0), .nils, (ii 0), .nils, .nils, .nils] [(0, 1, r0), (1, 6, x23), (7, 1, x32), (8, 1, x26), (9, 1, x28), (10, 1, x30)]) λ x34 => cY x34 h33 λ x35 h36 => some ((.tup [x35, (ii 0)]), h36)))
theorem bUr : jY E D34 (aRx E) := Is.rf
def S34 : bC := jU (aRx E)
theorem bIR : SQ D34 S34 := kG bUr
def D35 := cm 35
def bWV := cr (cr (cr (cr D35.body)))
def bWU := cl (cr (cl (cr (cr (cr D35.body)))))
def aKP (r0 : DV) (h : H) : aL := vK (aC r0) λ x1 => vK (aG 8 x1) λ x2 => vK (aF h.get x2) λ x3 => vK (aC r0) λ x4 => vK (aG 1 x4) λ x5 => vK (aG 4 x5) λ x6 => vK (aF h.get x6) λ x7 => wK (aB E 67 [x3, x7] h) λ x8 h9 => vK (aN 0 x8) λ x10 => vK (aN 1 x8) λ x11 => some ((.tup [x10, x11]), h9)
def aEs (r0 r12 r13 : DV) (i2 : DV → H → aL) (r14 : DV) (h : H) : aL := vK (bO r14 r13) λ x1 => bK x1 (vK (bY 1 r12 r14) λ x2 => vK (aF h.get x2) λ x3 => vK (aC r0) λ x4 => vK (aG 8 x4) λ x5 => vK (aF h.get x5) λ x6 => vK (aC r0) λ x7 => vK (aG 8 x7) λ x8 => vK (aF h.get x8) λ x9 => wK (aB E 66 [x9, x3] h) λ x10 h11 => rK (rcK (aF h11.get x5) x6) <| vK (aN 0 x10) λ x12 => vK (aN 1 x10) λ x13 => vK (bY 1 x6 x3) λ x14 => wK (dD 1 x14 x12 h11) λ x15 h16 => vK (bW r14 (ii 1)) λ x17 => i2 x17 h16) (aKP E r0 h)
def aFZ (r0 r12 r13 : DV) (n : Nat) : DV → H → aL := Nat.rec (motive := λ _ => DV → H → aL) (λ _ _ => none) (λ _ i => aEs E r0 r12 r13 i) n
def aRw (r0 : DV) (h : H) : aL := wK (aB E 36 [r0] h) λ x1 h2 => vK (aO x1) λ x3 => vK (dO x3 (ii 1)) λ x4 => bK x4 (some ((.tup [(.str []), (ii 9)]), h2)) (vK (aO x1) λ x5 => aFZ E r0 x1 x5 aK (ii 0) h2)
theorem bUp : Is E bWV (bB D35.res) (λ σ h => aKP E (σ p0) h) := Is.rf
abbrev bSt : gS (DV × H) := (bU (λ σ h => aKP E (σ p0) h) (bB D35.res))
theorem bUo : Is E bWU (bF 0 (bSt E)) (λ σ h => aFZ E (σ p0) (σ nN) (σ sU) aK (σ tW) h) := Is.lp (λ n2 σ h => aFZ E (σ p0) (σ nN) (σ sU) n2 (σ tW) h) λ n2 => Is.aq (Is.leaf _)
theorem bUq : lZ E D35 (aRw E) := Is.aq (Is.sq (Is.sq (Is.sq (Is.sq (bUp E) (Is.sq (Is.bk (bUo E)) (Is.leaf _))) (Is.leaf _)) (Is.leaf _)) (Is.leaf _))
def S35 : bC := lY (aRw E)
theorem bIQ : SQ D35 S35 := mD bUq
def D36 := cm 36
def bWT := cr (cr (cr D36.body))
def bGj := cl (cr (cl (cr (cr D36.body))))
def bWS := cr (cr (cr (cl bGj)))
def aRu (E : aQ) (r3 : DV) (h : H) : aL := some (r3, h)
def aRt (E : aQ) (i2 : DV → DV → H → aL) (r3 r10 : DV) (h : H) : aL := vK (bW r10 (ii 1)) λ x1 => i2 r3 x1 h
def aLh (r0 r9 : DV) (i2 : DV → DV → H → aL) (r3 r10 : DV) (h : H) : aL := vK (bO r10 r9) λ x1 => bK x1 (wK (aB E 39 [r0, r10] h) λ x2 h3 => vK (eN x2) λ x4 => bK x4 (dI 1 1 [(ii 0)] [(0, 1, r10)] h3 λ x5 h6 => wK (cJ 1 8 r3 x5 h6) λ x7 h8 => aRt E i2 x7 r10 h8) (aRt E i2 r3 r10 h3)) (aRu E r3 h)
def aBL (r0 r9 : DV) (n : Nat) : DV → DV → H → aL := Nat.rec (motive := λ _ => DV → DV → H → aL) (λ _ _ _ => none) (λ _ i => aLh E r0 r9 i) n
def aRv (r0 : DV) (h : H) : aL := vK (aC r0) λ x1 => vK (aG 8 x1) λ x2 => vK (aF h.get x2) λ x3 => vK (aO x3) λ x4 => aBL E r0 x4 aK .nils (ii 0) h
theorem bUm : Is E bWT (bB D36.res) (λ σ h => aRu E (σ p3) h) := Is.rf
abbrev bFu : gS (DV × H) := (bU (λ σ h => aRu E (σ p3) h) (bB D36.res))
abbrev bSs (n2 : Nat) : gS (DV × H) := (bU (λ σ h => (aBL E (σ p0) (σ p9) n2) (σ p3) (σ nI) h) (bF 0 (bFu E)))
theorem bUk (n2 : Nat) : Is E bWS (bSs E n2) (λ σ h => aRt E (aBL E (σ p0) (σ p9) n2) (σ p3) (σ nI) h) := Is.rf
theorem bUl : Is E bGj (bF 0 (bFu E)) (λ σ h => aBL E (σ p0) (σ p9) aK (σ p3) (σ nI) h) := Is.lp (λ n2 σ h => aBL E (σ p0) (σ p9) n2 (σ p3) (σ nI) h) λ n2 => Is.aq (Is.sq (Is.sq (Is.sq (bUk E n2) (Is.leaf _)) (Is.leaf _)) (Is.leaf _))
theorem bUn : lZ E D36 (aRv E) := Is.aq (Is.sq (Is.sq (Is.sq (bUm E) (Is.sq (Is.bk (bUl E)) (Is.leaf _))) (Is.leaf _)) (Is.leaf _))
def S36 : bC := lY (aRv E)
theorem bIP : SQ D36 S36 := mD bUn
def D37 := cm 37
def bFX (r0 : DV) (h : H) : aL := vK (aO r0) λ x1 => wK (aB E 56 [x1] h) λ x2 h3 => vK (eN x2) λ x4 => bK x4 (some ((.bool false), h3)) (wK (aB E 60 [r0, (.int .i64 (.negSucc 0))] h3) λ x5 h6 => vK (aN 0 x5) λ x7 => vK (aN 1 x5) λ x8 => aJ x8 true (λ kk => kk x7 h6) h6 λ x9 h10 => aJ x8 true (λ kk => vK (aC x9) λ v => kk v h10) h10 λ x11 h12 => aJ x8 true (λ kk => vK (cX 513 h12.get x11) λ v => kk v h12) h12 λ x13 h14 => aJ x8 true (λ kk => kk x7 h14) h14 λ x15 h16 => aJ x8 true (λ kk => vK (aC x15) λ v => kk v h16) h16 λ x17 h18 => aJ x8 true (λ kk => vK (aG 512 x17) λ v => kk v h18) h18 λ x19 h20 => aJ x8 true (λ kk => vK (aF h20.get x19) λ v => kk v h20) h20 λ x21 h22 => aJ x8 true (λ kk => vK (dH (zR [(.int .u8 (.ofNat 0))] 512 ++ [(ii 0)]) [(512, 1, x21)]) λ v => kk v h22) h22 λ x23 h24 => aJ x8 true (λ kk => vK (wZ false (.arr .int 0 512 (.leaf .int 512 .nil)) h24.get x13 x23) λ v => kk v h24) h24 λ x25 h26 => vK (aH x8 x25 (.bool false)) λ x27 => some (x27, h26))
theorem bUj : lZ E D37 (bFX E) := Is.rf
def S37 : bC := lY (bFX E)
theorem bIO : SQ D37 S37 := mD bUj
def D39 := cm 39
def bWR := cr (cr D39.body)
def aRr (E : aQ) (r0 r1 : DV) (h : H) : aL := vK (aC r0) λ x1 => vK (aG 10 x1) λ x2 => vK (aF h.get x2) λ x3 => vK (bY 1 x3 r1) λ x4 => vK (aF h.get x4) λ x5 => some (x5, h)
def aRs (r0 r1 : DV) (h : H) : aL := vK (aC r0) λ x1 => vK (aG 9 x1) λ x2 => vK (aF h.get x2) λ x3 => vK (bY 1 x3 r1) λ x4 => vK (aF h.get x4) λ x5 => vK (eN x5) λ x6 => bK x6 (vK (aC r0) λ x7 => vK (aG 0 x7) λ x8 => vK (aF h.get x8) λ x9 => vK (aC r0) λ x10 => vK (aG 1 x10) λ x11 => vK (aG 0 x11) λ x12 => vK (aF h.get x12) λ x13 => wK (aB E 68 [x9, x13, r1] h) λ x14 h15 => vK (aN 0 x14) λ x16 => vK (aN 1 x14) λ x17 => vK (aC r0) λ x18 => vK (aG 8 x18) λ x19 => vK (aF h15.get x19) λ x20 => vK (aC r0) λ x21 => vK (aG 9 x21) λ x22 => vK (aF h15.get x22) λ x23 => vK (bY 1 x20 r1) λ x24 => wK (dD 1 x24 x16 h15) λ x25 h26 => vK (bY 1 x23 r1) λ x27 => wK (dD 1 x27 (.bool true) h26) λ x28 h29 => vK (aC r0) λ x30 => vK (aG 10 x30) λ x31 => vK (aF h29.get x31) λ x32 => vK (cF x17 (ii 0)) λ x33 => aJ x33 true (λ kk => kk x16 h29) h29 λ x34 h35 => aJ x33 true (λ kk => vK (eI x34) λ v => kk v h35) h35 λ x36 h37 => aJ x33 true (λ kk => kk r0 h37) h37 λ x38 h39 => aJ x33 true (λ kk => vK (aC x38) λ v => kk v h39) h39 λ x40 h41 => aJ x33 true (λ kk => vK (aG 7 x40) λ v => kk v h41) h41 λ x42 h43 => aJ x33 true (λ kk => vK (aF h43.get x42) λ v => kk v h43) h43 λ x44 h45 => aJ x33 true (λ kk => vK (cF x36 x44) λ v => kk v h45) h45 λ x46 h47 => vK (aH x33 x46 (.bool false)) λ x48 => vK (bY 1 x32 r1) λ x49 => wK (dD 1 x49 x48 h47) λ x50 h51 => aRr E r0 r1 h51) (aRr E r0 r1 h)
theorem bUh : Is E bWR (bB D39.res) (λ σ h => aRr E (σ p0) (σ p1) h) := Is.rf
theorem bUi : jY E D39 (aRs E) := Is.aq (Is.sq (Is.sq (bUh E) (Is.leaf _)) (Is.leaf _))
def S39 : bC := jU (aRs E)
theorem bIN : SQ D39 S39 := kG bUi
def D40 := cm 40
def aRq (r0 : DV) (h : H) : aL := vK (aC r0) λ x1 => vK (aG 0 x1) λ x2 => vK (aF h.get x2) λ x3 => wK (aB E 41 [x3] h) λ x4 h5 => wK (aB E 69 [x4] h5) λ x6 h7 => some (x6, h7)
theorem bUg : lZ E D40 (aRq E) := Is.rf
def S40 : bC := lY (aRq E)
theorem bIM : SQ D40 S40 := mD bUg
def D41 := cm 41
def aRp (E : aQ) (r0 : DV) (h : H) : aL := vK (cM .ptr false h.get r0 .nilp) λ x1 => bK x1 (some (.nilp, h)) (vK (aC r0) λ x2 => vK (aG 1 x2) λ x3 => vK (aF h.get x3) λ x4 => some (x4, h))
theorem bUf : lZ E D41 (aRp E) := Is.rf
def S41 : bC := lY (aRp E)
theorem aXr : SQ D41 S41 := mD bUf
def D42 := cm 42
def bFW (r0 r1 : DV) (h : H) : aL := vK (cM .ptr false h.get r0 .nilp) λ x1 => bK x1 (some (.nils, h)) (vK (aC r0) λ x2 => vK (aG 1 x2) λ x3 => vK (aF h.get x3) λ x4 => wK (aB E 70 [x4, r1] h) λ x5 h6 => some (x5, h6))
theorem bUe : jY E D42 (bFW E) := Is.rf
def S42 : bC := jU (bFW E)
theorem aXq : SQ D42 S42 := kG bUe
def D43 := cm 43
def aRo (r0 r1 : DV) (h : H) : aL := gR 2 2 (.list [(ii 0), (ii 0)]) h λ x1 h2 => vK (aC r0) λ x3 => vK (aG 0 x3) λ x4 => vK (aF h2.get x4) λ x5 => wK (aB E 41 [x5] h2) λ x6 h7 => wK (aB E 65 [x6, r1] h7) λ x8 h9 => vK (aN 0 x8) λ x10 => vK (aN 1 x8) λ x11 => gR 6 6 (.list [(ii 0), (ii 0), (ii 0), (ii 0), (ii 0), .nils]) h9 λ x12 h13 => wK (dD 6 x12 x10 h13) λ x14 h15 => vK (aG 5 x12) λ x16 => vK (aF h15.get x16) λ x17 => vK (aC r0) λ x18 => vK (aG 1 x18) λ x19 => vK (aF h15.get x19) λ x20 => wK (aB E 71 [x17, r1, x20] h15) λ x21 h22 => vK (aN 0 x21) λ x23 => vK (aN 1 x21) λ x24 => vK (cW x24 (ii 0)) λ x25 => aJ x25 false (λ kk => kk r0 h22) h22 λ x26 h27 => aJ x25 false (λ kk => vK (aC x26) λ v => kk v h27) h27 λ x28 h29 => aJ x25 false (λ kk => vK (aG 0 x28) λ v => kk v h29) h29 λ x30 h31 => aJ x25 false (λ kk => vK (aF h31.get x30) λ v => kk v h31) h31 λ x32 h33 => aJ x25 false (λ kk => kk r1 h33) h33 λ x34 h35 => aJ x25 false (λ kk => wK (aB E 15 [x32, x34] h35) kk) h35 λ x36 h37 => aJ x25 false (λ kk => kk x23 h37) h37 λ x38 h39 => aJ x25 false (λ kk => wK (aB E 72 [x36, x38] h39) kk) h39 λ x40 h41 => aJ x25 false (λ kk => vK (eN x40) λ v => kk v h41) h41 λ x42 h43 => vK (aH x25 (.bool true) x42) λ x44 => bK x44 (vK (dH [(ii 0), (ii 0)] [(1, 1, (.int .i64 (.negSucc 0)))]) λ x45 => wK (dD 2 x1 x45 h43) λ x46 h47 => vK (cX 2 h47.get x1) λ x48 => some (x48, h47)) (vK (dH [(ii 0), (ii 0)] [(0, 1, r1), (1, 1, x23)]) λ x49 => wK (dD 2 x1 x49 h43) λ x50 h51 => vK (cX 2 h51.get x1) λ x52 => some (x52, h51))
theorem bUd : jY E D43 (aRo E) := Is.rf
def S43 : bC := jU (aRo E)
theorem bIL : SQ D43 S43 := kG bUd
def D44 := cm 44
def bWQ := cr (cr (cr (cr (cr D44.body))))
def bWP := cl (cr (cl (cr (cr (cr (cr D44.body))))))
def aKO (r0 r3 r7 : DV) (h : H) : aL := vK (aG 1 r3) λ x1 => vK (aF h.get x1) λ x2 => wK (aB E 66 [r7, x2] h) λ x3 h4 => vK (aN 0 x3) λ x5 => vK (aN 1 x3) λ x6 => vK (cW x6 (ii 0)) λ x7 => bK x7 (some ((ii 9), h4)) (vK (aC r0) λ x8 => vK (aG 0 x8) λ x9 => vK (aF h4.get x9) λ x10 => vK (aG 0 r3) λ x11 => vK (aF h4.get x11) λ x12 => vK (aG 1 r3) λ x13 => vK (aF h4.get x13) λ x14 => wK (aB E 31 [x10, x12, x14, x5] h4) λ x15 h16 => some (x15, h16))
def aLg (r0 r3 r7 r36 : DV) (i2 : DV → H → aL) (r37 : DV) (h : H) : aL := vK (bO r37 r36) λ x1 => bK x1 (vK (aC r0) λ x2 => vK (aG 0 x2) λ x3 => vK (aF h.get x3) λ x4 => vK (aG 0 r3) λ x5 => vK (aF h.get x5) λ x6 => wK (aB E 68 [x4, x6, r37] h) λ x7 h8 => vK (aN 0 x7) λ x9 => vK (aN 1 x7) λ x10 => vK (bY 1 r7 r37) λ x11 => wK (dD 1 x11 x9 h8) λ x12 h13 => vK (bW r37 (ii 1)) λ x14 => i2 x14 h13) (aKO E r0 r3 r7 h)
def aFY (r0 r3 r7 r36 : DV) (n : Nat) : DV → H → aL := Nat.rec (motive := λ _ => DV → H → aL) (λ _ _ => none) (λ _ i => aLg E r0 r3 r7 r36 i) n
def aRn (r0 r1 : DV) (h : H) : aL := cY r1 h λ x1 h2 => vK (aC r0) λ x3 => vK (aG 0 x3) λ x4 => vK (aF h2.get x4) λ x5 => vK (aG 0 x1) λ x6 => vK (aF h2.get x6) λ x7 => wK (aB E 15 [x5, x7] h2) λ x8 h9 => vK (aO x8) λ x10 => vK (dO x10 (ii 1)) λ x11 => bK x11 (some ((ii 9), h9)) (vK (aC r0) λ x12 => vK (aG 0 x12) λ x13 => vK (aF h9.get x13) λ x14 => vK (aG 0 x1) λ x15 => vK (aF h9.get x15) λ x16 => gR 6 6 (.list [(ii 0), (ii 0), (ii 0), (ii 0), (ii 0), .nils]) h9 λ x17 h18 => wK (aB E 41 [x14] h18) λ x19 h20 => rK (rcK (aF h20.get x15) x16) <| wK (aB E 65 [x19, x16] h20) λ x21 h22 => vK (aN 0 x21) λ x23 => vK (aN 1 x21) λ x24 => wK (dD 6 x17 x23 h22) λ x25 h26 => vK (aG 5 x17) λ x27 => vK (aF h26.get x27) λ x28 => vK (aO x28) λ x29 => jN 1 16 (.str []) x29 x29 h26 λ x30 h31 => vK (aO x30) λ x32 => aFY E r0 x1 x30 x32 aK (ii 0) h31)
theorem bUb : Is E bWQ (bB D44.res) (λ σ h => aKO E (σ p0) (σ p3) (σ p7) h) := Is.rf
abbrev bSr : gS (DV × H) := (bU (λ σ h => aKO E (σ p0) (σ p3) (σ p7) h) (bB D44.res))
theorem bUa : Is E bWP (bF 0 (bSr E)) (λ σ h => aFY E (σ p0) (σ p3) (σ p7) (σ p36) aK (σ p37) h) := Is.lp (λ n2 σ h => aFY E (σ p0) (σ p3) (σ p7) (σ p36) n2 (σ p37) h) λ n2 => Is.aq (Is.leaf _)
theorem bUc : jY E D44 (aRn E) := Is.aq (Is.sq (Is.sq (Is.sq (Is.sq (Is.sq (bUb E) (Is.sq (Is.bk (bUa E)) (Is.leaf _))) (Is.leaf _)) (Is.leaf _)) (Is.leaf _)) (Is.leaf _))
def S44 : bC := jU (aRn E)
theorem bIK : SQ D44 S44 := kG bUc
def D45 := cm 45
def bWO := cr (cr (cr (cr D45.body)))
def bWN := cl (cr (cl (cr (cr (cr D45.body)))))
def aYG (E : aQ) (r3 : DV) (h : H) : aL := some (r3, h)
def aLf (r3 r4 r19 : DV) (i2 : DV → H → aL) (r20 : DV) (h : H) : aL := vK (bO r20 r19) λ x1 => bK x1 (vK (aC r3) λ x2 => vK (aG 0 x2) λ x3 => vK (aF h.get x3) λ x4 => vK (bY 1 x4 r20) λ x5 => wK (dD 1 x5 r4 h) λ x6 h7 => vK (bW r20 (ii 1)) λ x8 => i2 x8 h7) (aYG E r3 h)
def aFX (r3 r4 r19 : DV) (n : Nat) : DV → H → aL := Nat.rec (motive := λ _ => DV → H → aL) (λ _ _ => none) (λ _ i => aLf E r3 r4 r19 i) n
def aRm (r0 : DV) (h : H) : aL := aBw h λ x1 h2 => vK (wP r0 (ii 1)) λ x3 => vK (xM x3 (ii 4096)) λ x4 => jN 1 16 (.str []) x4 x4 h2 λ x5 h6 => vK (dH [.nils, .nilm, (.bool false)] [(1, 1, x1), (0, 1, x5)]) λ x7 => cY x7 h6 λ x8 h9 => jN 1 1 (.int .u8 (.ofNat 0)) (ii 64) (ii 64) h9 λ x10 h11 => vK (kF h11.get x10) λ x12 => vK (aC x8) λ x13 => vK (aG 0 x13) λ x14 => vK (aF h11.get x14) λ x15 => vK (aO x15) λ x16 => aFX E x8 x12 x16 aK (ii 0) h11
theorem bTY : Is E bWO (bB D45.res) (λ σ h => aYG E (σ p3) h) := Is.rf
abbrev bSq : gS (DV × H) := (bU (λ σ h => aYG E (σ p3) h) (bB D45.res))
theorem bTX : Is E bWN (bF 0 (bSq E)) (λ σ h => aFX E (σ p3) (σ p4) (σ p19) aK (σ p20) h) := Is.lp (λ n2 σ h => aFX E (σ p3) (σ p4) (σ p19) n2 (σ p20) h) λ n2 => Is.aq (Is.leaf _)
theorem bTZ : lZ E D45 (aRm E) := Is.aq (Is.sq (Is.sq (Is.sq (Is.sq (bTY E) (Is.sq (Is.bk (bTX E)) (Is.leaf _))) (Is.leaf _)) (Is.leaf _)) (Is.leaf _))
def S45 : bC := lY (aRm E)
theorem bIJ : SQ D45 S45 := mD bTZ
def D46 := cm 46
def bWM := cr (cr (cr (cr (cr (cl (cr D46.body))))))
def bAv := cl (cr (cl (cr (cr (cr (cr (cl (cr D46.body))))))))
def bWL := cr (cr (cr (cl bAv)))
def bWK := cr (cr (cr (cr (cr (cl (cl (cr (cr (cl bAv)))))))))
def aKN (E : aQ) (r6 : DV) (h : H) : aL := some ((.tup [r6, (ii 0)]), h)
def aRk (E : aQ) (i2 : DV → H → aL) (r24 : DV) (h : H) : aL := vK (bW r24 (ii 1)) λ x1 => i2 x1 h
def aRj (i2 : DV → H → aL) (r6 r10 r24 : DV) (h : H) : aL := vK (aC r6) λ x1 => vK (aG 1 x1) λ x2 => vK (aF h.get x2) λ x3 => vK (cX 4 h.get r10) λ x4 => dI 1 4 [(.bool false), (ii 0), (ii 0), (ii 0)] [(0, 4, x4)] h λ x5 h6 => wK (cJ 4 32 x3 x5 h6) λ x7 h8 => vK (aC r6) λ x9 => vK (aG 1 x9) λ x10 => wK (dD 1 x10 x7 h8) λ x11 h12 => aRk E i2 r24 h12
def aLe (r0 r6 : DV) (i2 : DV → H → aL) (r24 : DV) (h : H) : aL := vK (bO r24 (ii 256)) λ x1 => bK x1 (vK (mB r24 (ii 9)) λ x2 => wK (aB E 73 [r0, x2, (ii 9)] h) λ x3 h4 => vK (aN 0 x3) λ x5 => vK (aN 1 x3) λ x6 => vK (cF x6 (ii 0)) λ x7 => bK x7 (wK (aB E 74 [x5] h4) λ x8 h9 => gR 4 4 (.list [(.bool false), (ii 0), (ii 0), (ii 0)]) h9 λ x10 h11 => wK (dD 4 x10 x8 h11) λ x12 h13 => vK (aG 0 x10) λ x14 => vK (aF h13.get x14) λ x15 => aJ x15 true (λ kk => kk r6 h13) h13 λ x16 h17 => aJ x15 true (λ kk => vK (aG 1 x10) λ v => kk v h17) h17 λ x18 h19 => aJ x15 true (λ kk => vK (cX 2 h19.get x18) λ v => kk v h19) h19 λ x20 h21 => aJ x15 true (λ kk => wK (aB E 75 [x16, x20] h21) kk) h21 λ x22 h23 => aJ x15 true (λ kk => vK (eQ x22 (ii 0)) λ v => kk v h23) h23 λ x24 h25 => vK (aH x15 x24 (.bool false)) λ x26 => bK x26 (vK (dH [(.bool false), (ii 0), (ii 0), (ii 0)] []) λ x27 => wK (dD 4 x10 x27 h25) λ x28 h29 => aRj E i2 r6 x10 r24 h29) (aRj E i2 r6 x10 r24 h25)) (vK (cF x6 (ii 5)) λ x30 => bK x30 (aKN E r6 h4) (some ((.tup [.nilp, x6]), h4)))) (aKN E r6 h)
def xI (r0 r6 : DV) (n : Nat) : DV → H → aL := Nat.rec (motive := λ _ => DV → H → aL) (λ _ _ => none) (λ _ i => aLe E r0 r6 i) n
def aRl (r0 : DV) (h : H) : aL := vK (cM .ptr false h.get r0 .nilp) λ x1 => bK x1 (some ((.tup [.nilp, (ii 1)]), h)) (wK (aB E 73 [r0, (ii 0), (ii 1)] h) λ x2 h3 => vK (aN 0 x2) λ x4 => vK (aN 1 x2) λ x5 => vK (cW x5 (ii 0)) λ x6 => bK x6 (some ((.tup [.nilp, x5]), h3)) (vK (dH [.nilp, .nils, (.bool false)] [(0, 1, r0)]) λ x7 => cY x7 h3 λ x8 h9 => xI E r0 x8 aK (ii 0) h9))
theorem bTV : Is E bWM (yZ (bB D46.res)) (λ σ h => aKN E (σ p6) h) := Is.rf
abbrev bFt : gS (DV × H) := (bU (λ σ h => aKN E (σ p6) h) (yZ (bB D46.res)))
abbrev bFs (n2 : Nat) : gS (DV × H) := (bU (λ σ h => (xI E (σ p0) (σ p6) n2) (σ p24) h) (bF 0 (bFt E)))
theorem bTT (n2 : Nat) : Is E bWL (bFs E n2) (λ σ h => aRk E (xI E (σ p0) (σ p6) n2) (σ p24) h) := Is.rf
abbrev bSp (n2 : Nat) : gS (DV × H) := (bU (λ σ h => aRk E (xI E (σ p0) (σ p6) n2) (σ p24) h) (bFs E n2))
theorem bTS (n2 : Nat) : Is E bWK (bF 1 (bSp E n2)) (λ σ h => aRj E (xI E (σ p0) (σ p6) n2) (σ p6) (σ nI) (σ p24) h) := Is.rf
theorem bTU : Is E bAv (bF 0 (bFt E)) (λ σ h => xI E (σ p0) (σ p6) aK (σ p24) h) := Is.lp (λ n2 σ h => xI E (σ p0) (σ p6) n2 (σ p24) h) λ n2 => Is.aq (Is.sq (Is.sq (Is.sq (bTT E n2) (Is.bk (Is.sq (Is.sq (Is.sq (Is.sq (Is.sq (bTS E n2) (Is.leaf _)) (Is.leaf _)) (Is.leaf _)) (Is.leaf _)) (Is.leaf _)))) (Is.leaf _)) (Is.leaf _))
theorem bTW : lZ E D46 (aRl E) := Is.aq (Is.sq (Is.sc (Is.sq (Is.sq (Is.sq (Is.sq (Is.sq (bTV E) (Is.sq (Is.bk (bTU E)) (Is.leaf _))) (Is.leaf _)) (Is.leaf _)) (Is.leaf _)) (Is.leaf _))) (Is.leaf _))
def S46 : bC := lY (aRl E)
theorem bII : SQ D46 S46 := mD bTW
def D47 := cm 47
def bFV (r0 r1 : DV) (h : H) : aL := wK (aB E 76 [r0, r1] h) λ x1 h2 => vK (eN x1) λ x3 => bK x3 (some (.nilp, h2)) (wK (aB E 77 [r0] h2) λ x4 h5 => wK (aB E 77 [r1] h5) λ x6 h7 => vK (dH [.nils, .nils, (ii 0), (ii 0), (.bool false), (ii 0)] [(0, 1, x4), (1, 1, x6), (2, 1, (ii 1)), (3, 1, (.int .i64 (.negSucc 0))), (5, 1, (.int .i64 (.negSucc 0)))]) λ x8 => cY x8 h7 λ x9 h10 => some (x9, h10))
theorem bTR : jY E D47 (bFV E) := Is.rf
def S47 : bC := jU (bFV E)
theorem aXp : SQ D47 S47 := kG bTR
def D48 := cm 48
def bFU (E : aQ) (h : H) : aL := vK (dH [.nils, (ii 0)] []) λ x1 => cY x1 h λ x2 h3 => some (x2, h3)
theorem bTQ : iB0 E D48 (bFU E) := Is.rf
def S48 : bC := fA0 (bFU E)
theorem aXo : SQ D48 S48 := eB0 bTQ
def D49 := cm 49
def bFT (E : aQ) (h : H) : aL := vK (dH (zR [(ii 0)] 1024 ++ []) []) λ x1 => cY x1 h λ x2 h3 => some (x2, h3)
theorem bTP : iB0 E D49 (bFT E) := Is.rf
def S49 : bC := fA0 (bFT E)
theorem aXn : SQ D49 S49 := eB0 bTP
def D50 := cm 50
def bFS (E : aQ) (h : H) : aL := vK (dH [.nils] []) λ x1 => cY x1 h λ x2 h3 => some (x2, h3)
theorem bTO : iB0 E D50 (bFS E) := Is.rf
def S50 : bC := fA0 (bFS E)
theorem aXm : SQ D50 S50 := eB0 bTO
def D51 := cm 51
def bFR (E : aQ) (h : H) : aL := aBw h λ x1 h2 => vK (dH [.nilm, (ii 0)] [(0, 1, x1)]) λ x3 => cY x3 h2 λ x4 h5 => some (x4, h5)
theorem bTN : iB0 E D51 (bFR E) := Is.rf
def S51 : bC := fA0 (bFR E)
theorem aXl : SQ D51 S51 := eB0 bTN
def D52 := cm 52
def bFQ (E : aQ) (r0 : DV) (h : H) : aL := vK (wP r0 (ii 1)) λ x1 => vK (xM x1 (ii 16)) λ x2 => aBw h λ x3 h4 => vK (dH [(ii 0), .nilm] [(0, 1, x2), (1, 1, x3)]) λ x5 => cY x5 h4 λ x6 h7 => some (x6, h7)
theorem bTM : lZ E D52 (bFQ E) := Is.rf
def S52 : bC := lY (bFQ E)
theorem aXk : SQ D52 S52 := mD bTM
def D53 := cm 53
def bWJ := cr (cr (cr (cr D53.body)))
def bWI := cl (cr (cl (cr (cr (cr D53.body)))))
def aRh (r4 : DV) (h : H) : aL := wK (aB E 81 [r4] h) λ x1 h2 => vK (aN 0 x1) λ x3 => vK (aN 1 x1) λ x4 => some ((.tup [x3, x4]), h2)
def aLd (r4 r36 r37 : DV) (i2 : DV → H → aL) (r38 : DV) (h : H) : aL := vK (bO r38 r37) λ x1 => bK x1 (vK (bY 1 r36 r38) λ x2 => vK (aF h.get x2) λ x3 => vK (aC x3) λ x4 => vK (aF h.get x4) λ x5 => wK (aB E 80 [r4, x5] h) λ x6 h7 => vK (bW r38 (ii 1)) λ x8 => i2 x8 h7) (aRh E r4 h)
def aFW (r4 r36 r37 : DV) (n : Nat) : DV → H → aL := Nat.rec (motive := λ _ => DV → H → aL) (λ _ _ => none) (λ _ i => aLd E r4 r36 r37 i) n
def aRi (r0 : DV) (h : H) : aL := cY r0 h λ x1 h2 => vK (aG 0 x1) λ x3 => vK (aF h2.get x3) λ x4 => vK (bO x4 (ii 0)) λ x5 => aJ x5 false (λ kk => vK (aG 0 x1) λ v => kk v h2) h2 λ x6 h7 => aJ x5 false (λ kk => vK (aF h7.get x6) λ v => kk v h7) h7 λ x8 h9 => aJ x5 false (λ kk => vK (eQ x8 (ii 16)) λ v => kk v h9) h9 λ x10 h11 => vK (aH x5 (.bool true) x10) λ x12 => aJ x12 false (λ kk => vK (aG 1 x1) λ v => kk v h11) h11 λ x13 h14 => aJ x12 false (λ kk => vK (aF h14.get x13) λ v => kk v h14) h14 λ x15 h16 => aJ x12 false (λ kk => vK (bO x15 (ii 0)) λ v => kk v h16) h16 λ x17 h18 => vK (aH x12 (.bool true) x17) λ x19 => aJ x19 false (λ kk => vK (aG 1 x1) λ v => kk v h18) h18 λ x20 h21 => aJ x19 false (λ kk => vK (aF h21.get x20) λ v => kk v h21) h21 λ x22 h23 => aJ x19 false (λ kk => vK (eQ x22 (ii 2147483648)) λ v => kk v h23) h23 λ x24 h25 => vK (aH x19 (.bool true) x24) λ x26 => aJ x26 false (λ kk => vK (aG 2 x1) λ v => kk v h25) h25 λ x27 h28 => aJ x26 false (λ kk => vK (aF h28.get x27) λ v => kk v h28) h28 λ x29 h30 => aJ x26 false (λ kk => vK (bO x29 (ii 1)) λ v => kk v h30) h30 λ x31 h32 => vK (aH x26 (.bool true) x31) λ x33 => aJ x33 false (λ kk => vK (aG 2 x1) λ v => kk v h32) h32 λ x34 h35 => aJ x33 false (λ kk => vK (aF h35.get x34) λ v => kk v h35) h35 λ x36 h37 => aJ x33 false (λ kk => vK (dO x36 (ii 9)) λ v => kk v h37) h37 λ x38 h39 => vK (aH x33 (.bool true) x38) λ x40 => bK x40 (some ((.tup [(.str []), (ii 1)]), h39)) (wK (aB E 78 [(ii 65536)] h39) λ x41 h42 => wK (aB E 79 [x1] h42) λ x43 h44 => vK (aO x43) λ x45 => aFW E x41 x43 x45 aK (ii 0) h44)
theorem bTK : Is E bWJ (bB D53.res) (λ σ h => aRh E (σ p4) h) := Is.rf
abbrev bSo : gS (DV × H) := (bU (λ σ h => aRh E (σ p4) h) (bB D53.res))
theorem bTJ : Is E bWI (bF 0 (bSo E)) (λ σ h => aFW E (σ p4) (σ p36) (σ p37) aK (σ p38) h) := Is.lp (λ n2 σ h => aFW E (σ p4) (σ p36) (σ p37) n2 (σ p38) h) λ n2 => Is.aq (Is.leaf _)
theorem bTL : lZ E D53 (aRi E) := Is.aq (Is.sq (Is.sq (Is.sq (Is.sq (bTK E) (Is.sq (Is.bk (bTJ E)) (Is.leaf _))) (Is.leaf _)) (Is.leaf _)) (Is.leaf _))
def S53 : bC := lY (aRi E)
theorem aXj : SQ D53 S53 := mD bTL
def D54 := cm 54
def bFP (r0 : DV) (h : H) : aL := wK (aB E 82 [r0] h) λ x1 h2 => wK (aB E 83 [x1] h2) λ x3 h4 => wK (aB E 84 [x1] h4) λ x5 h6 => wK (aB E 85 [x1] h6) λ x7 h8 => vK (cW x7 (ii 0)) λ x9 => bK x9 (some ((.tup [(ii 0), .nils, (ii 3)]), h8)) (some ((.tup [x3, x5, (ii 0)]), h8))
theorem bTI : lZ E D54 (bFP E) := Is.rf
def S54 : bC := lY (bFP E)
theorem aXi : SQ D54 S54 := mD bTI
def D55 := cm 55
def bFO (r0 r1 : DV) (h : H) : aL := vK (cM .ptr false h.get r0 .nilp) λ x1 => bK x1 (wK (aB E 86 [.nils, (ii 1)] h) λ x2 h3 => some (x2, h3)) (wK (aB E 87 [r1] h) λ x4 h5 => vK (aN 0 x4) λ x6 => vK (aN 1 x4) λ x7 => gR 8 8 (.list [(ii 0), (ii 0), (ii 0), (ii 0), (ii 0), (ii 0), (ii 0), (ii 0)]) h5 λ x8 h9 => wK (dD 8 x8 x6 h9) λ x10 h11 => vK (cW x7 (ii 0)) λ x12 => bK x12 (wK (aB E 86 [.nils, x7] h11) λ x13 h14 => some (x13, h14)) (vK (aC r0) λ x15 => vK (aG 5 x15) λ x16 => vK (aF h11.get x16) λ x17 => vK (aG 0 x8) λ x18 => vK (aF h11.get x18) λ x19 => vK (aG 1 x8) λ x20 => vK (aF h11.get x20) λ x21 => wK (aB E 88 [x17, x19, x21] h11) λ x22 h23 => vK (aN 0 x22) λ x24 => vK (aN 1 x22) λ x25 => vK (cF x24 (ii 2)) λ x26 => bK x26 (some (x25, h23)) (vK (cF x24 (ii 1)) λ x27 => bK x27 (vK (aG 2 x8) λ x28 => vK (aF h23.get x28) λ x29 => vK (cX 8 h23.get x8) λ x30 => wK (aB E 89 [x29] h23) λ x31 h32 => rK (rcK (cX 8 h32.get x8) x30) <| wK (lK E x31 [r0, x30] h32) λ x33 h34 => vK (aN 0 x33) λ x35 => vK (aN 1 x33) λ x36 => wK (aB E 86 [x35, x36] h34) λ x37 h38 => vK (aC r0) λ x39 => vK (aG 5 x39) λ x40 => vK (aF h38.get x40) λ x41 => vK (aG 0 x8) λ x42 => vK (aF h38.get x42) λ x43 => vK (aG 1 x8) λ x44 => vK (aF h38.get x44) λ x45 => wK (aB E 90 [x41, x43, x45, x37] h38) λ x46 h47 => some (x37, h47)) (wK (aB E 86 [.nils, (ii 16)] h23) λ x48 h49 => some (x48, h49)))))
theorem bTH : jY E D55 (bFO E) := Is.rf
def S55 : bC := jU (bFO E)
theorem aXh : SQ D55 S55 := kG bTH
def D56 := cm 56
def aRg (E : aQ) (r0 : DV) (h : H) : aL := vK (eQ r0 (ii 2)) λ x1 => aJ x1 true (λ kk => kk r0 h) h λ x2 h3 => aJ x1 true (λ kk => vK (tM x2 (ii 8)) λ v => kk v h3) h3 λ x4 h5 => vK (aH x1 x4 (.bool false)) λ x6 => some (x6, h5)
theorem bTG : lZ E D56 (aRg E) := Is.rf
def S56 : bC := lY (aRg E)
theorem bIG : SQ D56 S56 := mD bTG
def D57 := cm 57
def aRf (r0 r1 : DV) (h : H) : aL := vK (bO r0 (ii 0)) λ x1 => aJ x1 false (λ kk => kk r0 h) h λ x2 h3 => aJ x1 false (λ kk => vK (dO x2 (ii 65536)) λ v => kk v h3) h3 λ x4 h5 => vK (aH x1 (.bool true) x4) λ x6 => aJ x6 false (λ kk => kk r1 h5) h5 λ x7 h8 => aJ x6 false (λ kk => wK (aB E 56 [x7] h8) kk) h8 λ x9 h10 => aJ x6 false (λ kk => vK (eN x9) λ v => kk v h10) h10 λ x11 h12 => vK (aH x6 (.bool true) x11) λ x13 => bK x13 (some ((ii 0), h12)) (vK (bW r0 r1) λ x14 => vK (kI x14 (ii 2)) λ x15 => vK (kI r1 (ii 1)) λ x16 => vK (aID x15 x16) λ x17 => some (x17, h12))
theorem bTF : jY E D57 (aRf E) := Is.rf
def S57 : bC := jU (aRf E)
theorem bIF : SQ D57 S57 := kG bTF
def D58 := cm 58
def bGi := cr (cr (cr (cr D58.body)))
def bWG := cr bGi
def bWH := cl (cl (cr (cr (cr D58.body))))
def aYF (E : aQ) (r6 : DV) (h : H) : aL := some ((.tup [r6, (ii 0)]), h)
def aKM (r0 r1 r6 : DV) (h : H) : aL := vK (cW r0 (.str [])) λ x1 => bK x1 (vK (eI r0) λ x2 => vK (kI r1 x2) λ x3 => wK (aB E 91 [x3] h) λ x4 h5 => vK (bW r0 x4) λ x6 => dI 1 1 [(.str [])] [(0, 1, x6)] h5 λ x7 h8 => wK (cJ 1 16 r6 x7 h8) λ x9 h10 => aYF E x9 h10) (aYF E r6 h)
def aLc (r1 : DV) (i2 : DV → DV → H → aL) (r0 r6 : DV) (h : H) : aL := vK (eI r0) λ x1 => vK (dO x1 r1) λ x2 => bK x2 (vK (jH r0 none (some r1)) λ x3 => dI 1 1 [(.str [])] [(0, 1, x3)] h λ x4 h5 => wK (cJ 1 16 r6 x4 h5) λ x6 h7 => vK (jH r0 (some r1) none) λ x8 => i2 x8 x6 h7) (aKM E r0 r1 r6 h)
def aFV (r1 : DV) (n : Nat) : DV → DV → H → aL := Nat.rec (motive := λ _ => DV → DV → H → aL) (λ _ _ _ => none) (λ _ i => aLc E r1 i) n
def aRe (r0 r1 : DV) (h : H) : aL := vK (bO r1 (ii 1)) λ x1 => aJ x1 false (λ kk => kk r1 h) h λ x2 h3 => aJ x1 false (λ kk => vK (dO x2 (ii 65536)) λ v => kk v h3) h3 λ x4 h5 => vK (aH x1 (.bool true) x4) λ x6 => bK x6 (some ((.tup [.nils, (ii 1)]), h5)) (aFV E r1 aK r0 .nils h5)
theorem bTB : Is E bWG (bB D58.res) (λ σ h => aYF E (σ p6) h) := Is.rf
theorem bTD : Is E bGi (bB D58.res) (λ σ h => aKM E (σ p0) (σ p1) (σ p6) h) := Is.aq (Is.sq (bTB E) (Is.leaf _))
abbrev bSn : gS (DV × H) := (bU (λ σ h => aKM E (σ p0) (σ p1) (σ p6) h) (bB D58.res))
theorem bTC : Is E bWH (bF 0 (bSn E)) (λ σ h => aFV E (σ p1) aK (σ p0) (σ p6) h) := Is.lp (λ n2 σ h => aFV E (σ p1) n2 (σ p0) (σ p6) h) λ n2 => Is.aq (Is.leaf _)
theorem bTE : jY E D58 (aRe E) := Is.aq (Is.sq (Is.sq (Is.sq (Is.sq (bTD E) (Is.bk (bTC E))) (Is.leaf _)) (Is.leaf _)) (Is.leaf _))
def S58 : bC := jU (aRe E)
theorem bIE : SQ D58 S58 := kG bTE
def D59 := cm 59
def aGg (r0 r1 : DV) (h : H) : aL := vK (bO r1 (ii 0)) λ x1 => aJ x1 false (λ kk => kk r1 h) h λ x2 h3 => aJ x1 false (λ kk => vK (dO x2 (ii 65536)) λ v => kk v h3) h3 λ x4 h5 => vK (aH x1 (.bool true) x4) λ x6 => bK x6 (some ((.tup [(.str []), (ii 1)]), h5)) (vK (eI r0) λ x7 => vK (dO x7 r1) λ x8 => bK x8 (some ((.tup [(.str []), (ii 2)]), h5)) (vK (eI r0) λ x9 => vK (kI r1 x9) λ x10 => wK (aB E 91 [x10] h5) λ x11 h12 => vK (bW r0 x11) λ x13 => some ((.tup [x13, (ii 0)]), h12)))
theorem bTA : jY E D59 (aGg E) := Is.rf
def S59 : bC := jU (aGg E)
theorem bID : SQ D59 S59 := kG bTA
def D60 := cm 60
def bWF := cr (cr (cr D60.body))
def bGh := cl (cr (cl (cr (cr D60.body))))
def bWE := cr (cr (cr (cl bGh)))
def aYE (E : aQ) (r6 : DV) (h : H) : aL := some ((.tup [r6, (.bool true)]), h)
def aRc (E : aQ) (i2 : DV → DV → H → aL) (r7 r14 : DV) (h : H) : aL := vK (bW r14 (ii 1)) λ x1 => i2 r7 x1 h
def aLb (r1 r6 r12 r13 : DV) (i2 : DV → DV → H → aL) (r7 r14 : DV) (h : H) : aL := vK (bO r14 r13) λ x1 => bK x1 (vK (bY 1 r12 r14) λ x2 => vK (aF h.get x2) λ x3 => vK (cF r14 r1) λ x4 => bK x4 (aRc E i2 r7 r14 h) (wK (aB E 92 [r6, x3, r7] h) λ x5 h6 => vK (eN x5) λ x7 => bK x7 (some ((.tup [.nilp, (.bool false)]), h6)) (aRc E i2 (.bool false) r14 h6))) (aYE E r6 h)
def aAm (r1 r6 r12 r13 : DV) (n : Nat) : DV → DV → H → aL := Nat.rec (motive := λ _ => DV → DV → H → aL) (λ _ _ _ => none) (λ _ i => aLb E r1 r6 r12 r13 i) n
def aRd (r0 r1 : DV) (h : H) : aL := vK (dH (zR [(.int .u8 (.ofNat 0))] 512 ++ [(ii 0)]) []) λ x1 => cY x1 h λ x2 h3 => vK (aO r0) λ x4 => aAm E r1 x2 r0 x4 aK (.bool true) (ii 0) h3
theorem bTy : Is E bWF (bB D60.res) (λ σ h => aYE E (σ p6) h) := Is.rf
abbrev bFr : gS (DV × H) := (bU (λ σ h => aYE E (σ p6) h) (bB D60.res))
abbrev bSm (n2 : Nat) : gS (DV × H) := (bU (λ σ h => (aAm E (σ p1) (σ p6) (σ nN) (σ sU) n2) (σ p7) (σ tW) h) (bF 0 (bFr E)))
theorem bTw (n2 : Nat) : Is E bWE (bSm E n2) (λ σ h => aRc E (aAm E (σ p1) (σ p6) (σ nN) (σ sU) n2) (σ p7) (σ tW) h) := Is.rf
theorem bTx : Is E bGh (bF 0 (bFr E)) (λ σ h => aAm E (σ p1) (σ p6) (σ nN) (σ sU) aK (σ p7) (σ tW) h) := Is.lp (λ n2 σ h => aAm E (σ p1) (σ p6) (σ nN) (σ sU) n2 (σ p7) (σ tW) h) λ n2 => Is.aq (Is.sq (Is.sq (Is.sq (bTw E n2) (Is.leaf _)) (Is.leaf _)) (Is.leaf _))
theorem bTz : jY E D60 (aRd E) := Is.aq (Is.sq (Is.sq (Is.sq (bTy E) (Is.sq (Is.bk (bTx E)) (Is.leaf _))) (Is.leaf _)) (Is.leaf _))
def S60 : bC := jU (aRd E)
theorem bIC : SQ D60 S60 := kG bTz
def D61 := cm 61
def aRb (E : aQ) (r0 : DV) (h : H) : aL := vK (aC r0) λ x1 => vK (aG 0 x1) λ x2 => vK (aC r0) λ x3 => vK (aG 512 x3) λ x4 => vK (aF h.get x4) λ x5 => vK (aCy 512 1 x2 none (some x5)) λ x6 => vK (kF h.get x6) λ x7 => some (x7, h)
theorem bTv : lZ E D61 (aRb E) := Is.rf
def S61 : bC := lY (aRb E)
theorem bIB : SQ D61 S61 := mD bTv
def D62 := cm 62
def bFN (r0 r1 r2 : DV) (h : H) : aL := vK (aC r0) λ x1 => vK (aG 1 x1) λ x2 => vK (aF h.get x2) λ x3 => wK (aB E 65 [x3, r1] h) λ x4 h5 => vK (aN 0 x4) λ x6 => vK (aN 1 x4) λ x7 => gR 6 6 (.list [(ii 0), (ii 0), (ii 0), (ii 0), (ii 0), .nils]) h5 λ x8 h9 => wK (dD 6 x8 x6 h9) λ x10 h11 => vK (eN x7) λ x12 => bK x12 (some ((.tup [(ii 0), (.bool false)]), h11)) (vK (aG 5 x8) λ x13 => vK (aF h11.get x13) λ x14 => wK (aB E 93 [x14, r1, r2] h11) λ x15 h16 => vK (aN 0 x15) λ x17 => vK (aN 1 x15) λ x18 => vK (cF x18 (ii 0)) λ x19 => some ((.tup [x17, x19]), h16))
theorem bTu : iB3 E D62 (bFN E) := Is.rf
def S62 : bC := fA3 (bFN E)
theorem aXg : SQ D62 S62 := eB3 bTu
def D63 := cm 63
def bFM (E : aQ) (r2 : DV) (h : H) : aL := cY r2 h λ x1 h2 => gR 1 1 (.list [(ii 0)]) h2 λ x3 h4 => none
theorem bTt : iB4 E D63 (λ _ _ r2 _ h => bFM E r2 h) := Is.rf
def S63 : bC := fA4 (λ _ _ r2 _ h => bFM E r2 h)
theorem bIA : SQ D63 S63 := eB4 bTt
def D65 := cm 65
def bFL (r0 r1 : DV) (h : H) : aL := gR 6 6 (.list [(ii 0), (ii 0), (ii 0), (ii 0), (ii 0), .nils]) h λ x1 h2 => vK (cM .ptr false h2.get r0 .nilp) λ x3 => bK x3 (vK (dH [(ii 0), (ii 0), (ii 0), (ii 0), (ii 0), .nils] []) λ x4 => wK (dD 6 x1 x4 h2) λ x5 h6 => vK (cX 6 h6.get x1) λ x7 => some ((.tup [x7, (.bool false)]), h6)) (vK (aC r0) λ x8 => vK (aG 1 x8) λ x9 => vK (aF h2.get x9) λ x10 => wK (aB E 100 [x10, r1] h2) λ x11 h12 => vK (aN 0 x11) λ x13 => vK (aN 1 x11) λ x14 => wK (dD 6 x1 x13 h12) λ x15 h16 => vK (cX 6 h16.get x1) λ x17 => some ((.tup [x17, x14]), h16))
theorem bTs : jY E D65 (bFL E) := Is.rf
def S65 : bC := jU (bFL E)
theorem aXf : SQ D65 S65 := kG bTs
def D66 := cm 66
def aRa (r0 r1 : DV) (h : H) : aL := vK (aO r0) λ x1 => wK (aB E 56 [x1] h) λ x2 h3 => vK (eN x2) λ x4 => aJ x4 false (λ kk => kk r1 h3) h3 λ x5 h6 => aJ x4 false (λ kk => vK (bO x5 (ii 0)) λ v => kk v h6) h6 λ x7 h8 => vK (aH x4 (.bool true) x7) λ x9 => aJ x9 false (λ kk => kk r1 h8) h8 λ x10 h11 => aJ x9 false (λ kk => kk r0 h11) h11 λ x12 h13 => aJ x9 false (λ kk => vK (aO x12) λ v => kk v h13) h13 λ x14 h15 => aJ x9 false (λ kk => vK (eQ x10 x14) λ v => kk v h15) h15 λ x16 h17 => vK (aH x9 (.bool true) x16) λ x18 => bK x18 (some ((.tup [(.str []), (ii 1)]), h17)) (wK (aB E 60 [r0, r1] h17) λ x19 h20 => vK (aN 0 x19) λ x21 => vK (aN 1 x19) λ x22 => vK (eN x22) λ x23 => bK x23 (some ((.tup [(.str []), (ii 2)]), h20)) (wK (aB E 61 [x21] h20) λ x24 h25 => some ((.tup [x24, (ii 0)]), h25)))
theorem bTr : jY E D66 (aRa E) := Is.rf
def S66 : bC := jU (aRa E)
theorem bIz : SQ D66 S66 := kG bTr
def D67 := cm 67
def bWD := cr (cr (cr (cr (cr (cr D67.body)))))
def bWC := cl (cr (cl (cr (cr (cr (cr (cr D67.body)))))))
def aQY (E : aQ) (r1 r7 : DV) (h : H) : aL := vK (eV 1 r7 none (some r1)) λ x1 => vK (kF h.get x1) λ x2 => some ((.tup [x2, (ii 0)]), h)
def aLa (r1 r6 r33 r34 : DV) (i2 : DV → DV → H → aL) (r7 r35 : DV) (h : H) : aL := vK (bO r35 r34) λ x1 => bK x1 (vK (bY 1 r33 r35) λ x2 => vK (aF h.get x2) λ x3 => vK (eI x3) λ x4 => vK (cW x4 r6) λ x5 => bK x5 (some ((.tup [(.str []), (ii 2)]), h)) (wK (cJ 1 1 r7 x3 h) λ x6 h7 => vK (bW r35 (ii 1)) λ x8 => i2 x6 x8 h7)) (aQY E r1 r7 h)
def aFU (r1 r6 r33 r34 : DV) (n : Nat) : DV → DV → H → aL := Nat.rec (motive := λ _ => DV → DV → H → aL) (λ _ _ _ => none) (λ _ i => aLa E r1 r6 r33 r34 i) n
def aQZ (r0 r1 : DV) (h : H) : aL := vK (aO r0) λ x1 => wK (aB E 56 [x1] h) λ x2 h3 => vK (eN x2) λ x4 => bK x4 (some ((.tup [(.str []), (ii 1)]), h3)) (vK (aO r0) λ x5 => wK (aB E 57 [r1, x5] h3) λ x6 h7 => vK (bO r1 (ii 0)) λ x8 => aJ x8 false (λ kk => kk r1 h7) h7 λ x9 h10 => aJ x8 false (λ kk => vK (dO x9 (ii 65536)) λ v => kk v h10) h10 λ x11 h12 => vK (aH x8 (.bool true) x11) λ x13 => aJ x13 false (λ kk => kk x6 h12) h12 λ x14 h15 => aJ x13 false (λ kk => vK (dO x14 (ii 512)) λ v => kk v h15) h15 λ x16 h17 => vK (aH x13 (.bool true) x16) λ x18 => bK x18 (some ((.tup [(.str []), (ii 2)]), h17)) (vK (aO r0) λ x19 => vK (mB x6 x19) λ x20 => jN 1 1 (.int .u8 (.ofNat 0)) (ii 0) x20 h17 λ x21 h22 => vK (aO r0) λ x23 => aFU E r1 x6 r0 x23 aK x21 (ii 0) h22))
theorem bTp : Is E bWD (bB D67.res) (λ σ h => aQY E (σ p1) (σ p7) h) := Is.rf
abbrev bSl : gS (DV × H) := (bU (λ σ h => aQY E (σ p1) (σ p7) h) (bB D67.res))
theorem bTo : Is E bWC (bF 0 (bSl E)) (λ σ h => aFU E (σ p1) (σ p6) (σ p33) (σ p34) aK (σ p7) (σ p35) h) := Is.lp (λ n2 σ h => aFU E (σ p1) (σ p6) (σ p33) (σ p34) n2 (σ p7) (σ p35) h) λ n2 => Is.aq (Is.leaf _)
theorem bTq : jY E D67 (aQZ E) := Is.aq (Is.sq (Is.sq (Is.sq (Is.sq (Is.sq (Is.sq (bTp E) (Is.sq (Is.bk (bTo E)) (Is.leaf _))) (Is.leaf _)) (Is.leaf _)) (Is.leaf _)) (Is.leaf _)) (Is.leaf _))
def S67 : bC := jU (aQZ E)
theorem bIy : SQ D67 S67 := kG bTq
def D68 := cm 68
def aQX (r0 r1 r2 : DV) (h : H) : aL := vK (cM .ptr false h.get r0 .nilp) λ x1 => bK x1 (some ((.tup [(.str []), (ii 1)]), h)) (wK (aB E 62 [r0, r1, r2] h) λ x2 h3 => vK (aN 0 x2) λ x4 => vK (aN 1 x2) λ x5 => vK (eN x5) λ x6 => bK x6 (some ((.tup [(.str []), (ii 7)]), h3)) (vK (aC r0) λ x7 => vK (aG 0 x7) λ x8 => vK (aF h3.get x8) λ x9 => vK (dH [(ii 0), (ii 0)] [(0, 1, r1), (1, 1, r2)]) λ x10 => wK (aB E 101 [x9, x4, x10] h3) λ x11 h12 => vK (aN 0 x11) λ x13 => vK (aN 1 x11) λ x14 => some ((.tup [x13, x14]), h12)))
theorem bTn : iB3 E D68 (aQX E) := Is.rf
def S68 : bC := fA3 (aQX E)
theorem bIx : SQ D68 S68 := eB3 bTn
def D69 := cm 69
def bFK (r0 : DV) (h : H) : aL := vK (cM .ptr false h.get r0 .nilp) λ x1 => bK x1 (some ((ii 0), h)) (vK (aC r0) λ x2 => vK (aG 0 x2) λ x3 => vK (aF h.get x3) λ x4 => wK (aB E 102 [x4] h) λ x5 h6 => some (x5, h6))
theorem bTm : lZ E D69 (bFK E) := Is.rf
def S69 : bC := lY (bFK E)
theorem aXe : SQ D69 S69 := mD bTm
def D70 := cm 70
def bFJ (r0 r1 : DV) (h : H) : aL := cY r1 h λ x1 h2 => wK (aB E 103 [r0, (.fn (.func 104) [] [x1])] h2) λ x3 h4 => some (x3, h4)
theorem bTl : jY E D70 (bFJ E) := Is.rf
def S70 : bC := jU (bFJ E)
theorem aXd : SQ D70 S70 := kG bTl
def D71 := cm 71
def bFI (r0 r1 r2 : DV) (h : H) : aL := wK (aB E 105 [r0, r1] h) λ x1 h2 => vK (aN 0 x1) λ x3 => vK (aN 1 x1) λ x4 => vK (cW x4 (ii 0)) λ x5 => bK x5 (some ((.tup [(ii 0), x4]), h2)) (wK (aB E 106 [x3, r2] h2) λ x6 h7 => vK (bO x6 (ii 0)) λ x8 => bK x8 (some ((.tup [(ii 0), (ii 7)]), h7)) (some ((.tup [x6, (ii 0)]), h7)))
theorem bTk : iB3 E D71 (bFI E) := Is.rf
def S71 : bC := fA3 (bFI E)
theorem aXc : SQ D71 S71 := eB3 bTk
def D72 := cm 72
def aGf (r0 r1 : DV) (h : H) : aL := wK (aB E 106 [r0, r1] h) λ x1 h2 => vK (eQ x1 (ii 0)) λ x3 => some (x3, h2)
theorem bTj : jY E D72 (aGf E) := Is.rf
def S72 : bC := jU (aGf E)
theorem aXb : SQ D72 S72 := kG bTj
def D73 := cm 73
def bWB := cr (cr (cr (cr D73.body)))
def bWA := cl (cr (cl (cr (cr (cr D73.body)))))
def aQW (E : aQ) (r9 : DV) (h : H) : aL := vK (kF h.get r9) λ x1 => some ((.tup [x1, (ii 0)]), h)
def aKZ (r30 r31 : DV) (i2 : DV → DV → H → aL) (r9 r32 : DV) (h : H) : aL := vK (bO r32 r31) λ x1 => bK x1 (vK (bY 1 r30 r32) λ x2 => vK (aF h.get x2) λ x3 => wK (cJ 1 1 r9 x3 h) λ x4 h5 => vK (bW r32 (ii 1)) λ x6 => i2 x4 x6 h5) (aQW E r9 h)
def aFT (r30 r31 : DV) (n : Nat) : DV → DV → H → aL := Nat.rec (motive := λ _ => DV → DV → H → aL) (λ _ _ _ => none) (λ _ i => aKZ E r30 r31 i) n
def aGe (r0 r1 r2 : DV) (h : H) : aL := wK (aB E 107 [r0, r1, r2, (.bool true)] h) λ x1 h2 => vK (cW x1 (ii 0)) λ x3 => bK x3 (some ((.tup [(.str []), x1]), h2)) (vK (mB r2 (ii 64)) λ x4 => jN 1 1 (.int .u8 (.ofNat 0)) (ii 0) x4 h2 λ x5 h6 => vK (aC r0) λ x7 => vK (aG 0 x7) λ x8 => vK (aF h6.get x8) λ x9 => vK (bW r1 r2) λ x10 => vK (eV 1 x9 (some r1) (some x10)) λ x11 => vK (aO x11) λ x12 => aFT E x11 x12 aK x5 (ii 0) h6)
theorem bTh : Is E bWB (bB D73.res) (λ σ h => aQW E (σ p9) h) := Is.rf
abbrev bSh : gS (DV × H) := (bU (λ σ h => aQW E (σ p9) h) (bB D73.res))
theorem bTg : Is E bWA (bF 0 (bSh E)) (λ σ h => aFT E (σ p30) (σ p31) aK (σ p9) (σ p32) h) := Is.lp (λ n2 σ h => aFT E (σ p30) (σ p31) n2 (σ p9) (σ p32) h) λ n2 => Is.aq (Is.leaf _)
theorem bTi : iB3 E D73 (aGe E) := Is.aq (Is.sq (Is.sq (Is.sq (Is.sq (bTh E) (Is.sq (Is.bk (bTg E)) (Is.leaf _))) (Is.leaf _)) (Is.leaf _)) (Is.leaf _))
def S73 : bC := fA3 (aGe E)
theorem bIw : SQ D73 S73 := eB3 bTi
def D74 := cm 74
def aQV (r0 : DV) (h : H) : aL := gR 4 4 (.list [(.bool false), (ii 0), (ii 0), (ii 0)]) h λ x1 h2 => vK (jH r0 none (some (ii 64))) λ x3 => vK (jH r0 (some (ii 64)) none) λ x4 => vK (jH x3 (some (ii 4)) none) λ x5 => vK (jH x3 (some (ii 8)) none) λ x6 => vK (jH x3 (some (ii 12)) none) λ x7 => gR 4 4 (.list [(.bool false), (ii 0), (ii 0), (ii 0)]) h2 λ x8 h9 => wK (aB E 108 [x5] h9) λ x10 h11 => wK (aB E 108 [x6] h11) λ x12 h13 => vK (dH [(ii 0), (ii 0)] [(0, 1, x10), (1, 1, x12)]) λ x14 => wK (aB E 108 [x7] h13) λ x15 h16 => vK (dH [(.bool false), (ii 0), (ii 0), (ii 0)] [(0, 1, (.bool true)), (1, 2, x14), (3, 1, x15)]) λ x17 => wK (dD 4 x8 x17 h16) λ x18 h19 => vK (aG 1 x8) λ x20 => vK (cX 2 h19.get x20) λ x21 => wK (aB E 109 [x21] h19) λ x22 h23 => vK (eN x22) λ x24 => aJ x24 false (λ kk => vK (aG 3 x8) λ v => kk v h23) h23 λ x25 h26 => aJ x24 false (λ kk => vK (aF h26.get x25) λ v => kk v h26) h26 λ x27 h28 => aJ x24 false (λ kk => vK (dO x27 (ii 512)) λ v => kk v h28) h28 λ x29 h30 => vK (aH x24 (.bool true) x29) λ x31 => aJ x31 false (λ kk => vK (aG 1 x8) λ v => kk v h30) h30 λ x32 h33 => aJ x31 false (λ kk => vK (cX 2 h33.get x32) λ v => kk v h33) h33 λ x34 h35 => aJ x31 false (λ kk => kk x4 h35) h35 λ x36 h37 => aJ x31 false (λ kk => vK (aG 3 x8) λ v => kk v h37) h37 λ x38 h39 => aJ x31 false (λ kk => vK (aF h39.get x38) λ v => kk v h39) h39 λ x40 h41 => aJ x31 false (λ kk => vK (jH x36 none (some x40)) λ v => kk v h41) h41 λ x42 h43 => aJ x31 false (λ kk => kk x3 h43) h43 λ x44 h45 => aJ x31 false (λ kk => wK (aB E 110 [x34, x42] h45) kk) h45 λ x46 h47 => aJ x31 false (λ kk => vK (cW x46 x44) λ v => kk v h47) h47 λ x48 h49 => vK (aH x31 (.bool true) x48) λ x50 => bK x50 (vK (dH [(.bool false), (ii 0), (ii 0), (ii 0)] []) λ x51 => wK (dD 4 x1 x51 h49) λ x52 h53 => vK (cX 4 h53.get x1) λ x54 => some (x54, h53)) (vK (cX 4 h49.get x8) λ x55 => wK (dD 4 x1 x55 h49) λ x56 h57 => vK (cX 4 h57.get x1) λ x58 => some (x58, h57))
theorem bTf : lZ E D74 (aQV E) := Is.rf
def S74 : bC := lY (aQV E)
theorem bIv : SQ D74 S74 := mD bTf
def D75 := cm 75
def aQU (r0 r1 : DV) (h : H) : aL := cY r1 h λ x1 h2 => vK (aC r0) λ x3 => vK (aG 1 x3) λ x4 => vK (aF h2.get x4) λ x5 => wK (aB E 111 [x5, (.fn (.func 112) [] [x1])] h2) λ x6 h7 => some (x6, h7)
theorem bTe : jY E D75 (aQU E) := Is.rf
def S75 : bC := jU (aQU E)
theorem bIu : SQ D75 S75 := kG bTe
def D76 := cm 76
def bFH (r0 r1 : DV) (h : H) : aL := vK (aO r0) λ x1 => vK (eQ x1 (ii 2)) λ x2 => aJ x2 true (λ kk => kk r0 h) h λ x3 h4 => aJ x2 true (λ kk => vK (aO x3) λ v => kk v h4) h4 λ x5 h6 => aJ x2 true (λ kk => vK (tM x5 (ii 8)) λ v => kk v h6) h6 λ x7 h8 => vK (aH x2 x7 (.bool false)) λ x9 => aJ x9 true (λ kk => kk r0 h8) h8 λ x10 h11 => aJ x9 true (λ kk => kk r1 h11) h11 λ x12 h13 => aJ x9 true (λ kk => dI 2 1 [.nils] [(0, 1, x10), (1, 1, x12)] h13 kk) h13 λ x14 h15 => aJ x9 true (λ kk => wK (aB E 113 [x14] h15) kk) h15 λ x16 h17 => vK (aH x9 x16 (.bool false)) λ x18 => some (x18, h17)
theorem bTd : jY E D76 (bFH E) := Is.rf
def S76 : bC := jU (bFH E)
theorem aXa : SQ D76 S76 := kG bTd
def D77 := cm 77
def bFG (E : aQ) (r0 : DV) (h : H) : aL := vK (aO r0) λ x1 => jN 1 8 (ii 0) x1 x1 h λ x2 h3 => wK (lE 1 x2 r0 h3) λ x4 h5 => some (x2, h5)
theorem bTc : lZ E D77 (bFG E) := Is.rf
def S77 : bC := lY (bFG E)
theorem aWZ : SQ D77 S77 := mD bTc
def D78 := cm 78
def aQT (E : aQ) (r0 : DV) (h : H) : aL := vK (wP r0 (ii 0)) λ x1 => vK (xM x1 (ii 65536)) λ x2 => vK (dH [(ii 0), .nils, (ii 0)] [(0, 1, x2)]) λ x3 => cY x3 h λ x4 h5 => some (x4, h5)
theorem bTb : lZ E D78 (aQT E) := Is.rf
def S78 : bC := lY (aQT E)
theorem aWY : SQ D78 S78 := mD bTb
def D79 := cm 79
def aQS (E : aQ) (r0 : DV) (h : H) : aL := vK (aC r0) λ x1 => vK (aG 0 x1) λ x2 => vK (aC r0) λ x3 => vK (aG 1 x3) λ x4 => vK (aC r0) λ x5 => vK (aG 2 x5) λ x6 => vK (aC r0) λ x7 => vK (aG 3 x7) λ x8 => vK (aC r0) λ x9 => vK (aG 4 x9) λ x10 => vK (aC r0) λ x11 => vK (aG 5 x11) λ x12 => vK (aC r0) λ x13 => vK (aG 6 x13) λ x14 => vK (aC r0) λ x15 => vK (aG 7 x15) λ x16 => dI 8 1 [.nilp] [(0, 1, x2), (1, 1, x4), (2, 1, x6), (3, 1, x8), (4, 1, x10), (5, 1, x12), (6, 1, x14), (7, 1, x16)] h λ x17 h18 => some (x17, h18)
theorem bTa : lZ E D79 (aQS E) := Is.rf
def S79 : bC := lY (aQS E)
theorem aWX : SQ D79 S79 := mD bTa
def D80 := cm 80
def aQR (r0 r1 : DV) (h : H) : aL := cY r1 h λ x1 h2 => wK (aB E 114 [r0, (.fn (.func 115) [] [x1])] h2) λ x3 h4 => some ((.tup []), h4)
theorem bSZ : jY E D80 (aQR E) := Is.rf
def S80 : bC := jU (aQR E)
theorem aWW : SQ D80 S80 := kG bSZ
def D81 := cm 81
def aQQ (E : aQ) (r0 : DV) (h : H) : aL := vK (cM .ptr false h.get r0 .nilp) λ x1 => bK x1 (some ((.tup [(.str []), (ii 1)]), h)) (vK (aC r0) λ x2 => vK (aG 2 x2) λ x3 => vK (aF h.get x3) λ x4 => vK (cW x4 (ii 0)) λ x5 => bK x5 (vK (aC r0) λ x6 => vK (aG 2 x6) λ x7 => vK (aF h.get x7) λ x8 => some ((.tup [(.str []), x8]), h)) (vK (aC r0) λ x9 => vK (aG 1 x9) λ x10 => vK (aF h.get x10) λ x11 => vK (kF h.get x11) λ x12 => some ((.tup [x12, (ii 0)]), h)))
theorem bSY : lZ E D81 (aQQ E) := Is.rf
def S81 : bC := lY (aQQ E)
theorem aWV : SQ D81 S81 := mD bSY
def D82 := cm 82
def aQP (E : aQ) (r0 : DV) (h : H) : aL := vK (dH [(.str []), (.bool false)] [(0, 1, r0)]) λ x1 => cY x1 h λ x2 h3 => some (x2, h3)
theorem bSX : lZ E D82 (aQP E) := Is.rf
def S82 : bC := lY (aQP E)
theorem aWU : SQ D82 S82 := mD bSX
def D83 := cm 83
def bFF (r0 : DV) (h : H) : aL := wK (aB E 117 [r0, (ii 1)] h) λ x1 h2 => vK (aN 0 x1) λ x3 => vK (aN 1 x1) λ x4 => bK x4 (vK (oP x3 (ii 0)) λ x5 => vK (cN .i64 x5) λ x6 => some (x6, h2)) (some ((ii 0), h2))
theorem bSW : lZ E D83 (bFF E) := Is.rf
def S83 : bC := lY (bFF E)
theorem aWT : SQ D83 S83 := mD bSW
def D84 := cm 84
def bFE (r0 : DV) (h : H) : aL := wK (aB E 119 [r0, (.fn (.func 118) [r0] [])] h) λ x1 h2 => some (x1, h2)
theorem bSV : lZ E D84 (bFE E) := Is.rf
def S84 : bC := lY (bFE E)
theorem aWS : SQ D84 S84 := mD bSV
def D85 := cm 85
def aQO (E : aQ) (r0 : DV) (h : H) : aL := vK (cM .ptr false h.get r0 .nilp) λ x1 => bK x1 (some ((ii 1), h)) (vK (aC r0) λ x2 => vK (aG 1 x2) λ x3 => vK (aF h.get x3) λ x4 => aJ x4 false (λ kk => kk r0 h) h λ x5 h6 => aJ x4 false (λ kk => vK (aC x5) λ v => kk v h6) h6 λ x7 h8 => aJ x4 false (λ kk => vK (aG 0 x7) λ v => kk v h8) h8 λ x9 h10 => aJ x4 false (λ kk => vK (aF h10.get x9) λ v => kk v h10) h10 λ x11 h12 => aJ x4 false (λ kk => vK (cW x11 (.str [])) λ v => kk v h12) h12 λ x13 h14 => vK (aH x4 (.bool true) x13) λ x15 => bK x15 (some ((ii 3), h14)) (some ((ii 0), h14)))
theorem bSU : lZ E D85 (aQO E) := Is.rf
def S85 : bC := lY (aQO E)
theorem aWR : SQ D85 S85 := mD bSU
def D86 := cm 86
def bWz := cr (cr D86.body)
def aYC (r0 r1 : DV) (h : H) : aL := wK (aB E 78 [(ii 65536)] h) λ x1 h2 => wK (aB E 120 [x1, r1] h2) λ x3 h4 => wK (aB E 121 [x1, r0] h4) λ x5 h6 => wK (aB E 81 [x1] h6) λ x7 h8 => vK (aN 0 x7) λ x9 => vK (aN 1 x7) λ x10 => some (x9, h8)
def bFD (r0 r1 : DV) (h : H) : aL := vK (cW r1 (ii 0)) λ x1 => bK x1 (aYC E .nils r1 h) (aYC E r0 r1 h)
theorem bSS : Is E bWz (bB D86.res) (λ σ h => aYC E (σ p0) (σ p1) h) := Is.rf
theorem bST : jY E D86 (bFD E) := Is.aq (Is.sq (Is.sq (bSS E) (Is.leaf _)) (Is.leaf _))
def S86 : bC := jU (bFD E)
theorem aWQ : SQ D86 S86 := kG bST
def D87 := cm 87
def bWy := cr (cr (cr D87.body))
def bWx := cl (cr (cl (cr (cr D87.body))))
def aQM (r2 r4 r5 : DV) (h : H) : aL := vK (cX 8 h.get r5) λ x1 => wK (aB E 53 [x1] h) λ x2 h3 => vK (aN 0 x2) λ x4 => vK (aN 1 x2) λ x5 => vK (cW x5 (ii 0)) λ x6 => aJ x6 false (λ kk => kk r4 h3) h3 λ x7 h8 => aJ x6 false (λ kk => wK (aB E 85 [x7] h8) kk) h8 λ x9 h10 => aJ x6 false (λ kk => vK (cW x9 (ii 0)) λ v => kk v h10) h10 λ x11 h12 => vK (aH x6 (.bool true) x11) λ x13 => bK x13 (vK (dH [(ii 0), (ii 0), (ii 0), (ii 0), (ii 0), (ii 0), (ii 0), (ii 0)] []) λ x14 => wK (dD 8 r2 x14 h12) λ x15 h16 => vK (cX 8 h16.get r2) λ x17 => some ((.tup [x17, (ii 3)]), h16)) (vK (cX 8 h12.get r5) λ x18 => wK (dD 8 r2 x18 h12) λ x19 h20 => vK (cX 8 h20.get r2) λ x21 => some ((.tup [x21, (ii 0)]), h20))
def aKY (r2 r4 r5 r13 r14 : DV) (i2 : DV → H → aL) (r15 : DV) (h : H) : aL := vK (bO r15 r14) λ x1 => bK x1 (vK (bY 1 r13 r15) λ x2 => vK (aF h.get x2) λ x3 => wK (aB E 118 [r4] h) λ x4 h5 => vK (aC x3) λ x6 => wK (dD 1 x6 x4 h5) λ x7 h8 => vK (bW r15 (ii 1)) λ x9 => i2 x9 h8) (aQM E r2 r4 r5 h)
def aFS (r2 r4 r5 r13 r14 : DV) (n : Nat) : DV → H → aL := Nat.rec (motive := λ _ => DV → H → aL) (λ _ _ => none) (λ _ i => aKY E r2 r4 r5 r13 r14 i) n
def aQN (r0 : DV) (h : H) : aL := gR 8 8 (.list [(ii 0), (ii 0), (ii 0), (ii 0), (ii 0), (ii 0), (ii 0), (ii 0)]) h λ x1 h2 => wK (aB E 82 [r0] h2) λ x3 h4 => vK (dH [(ii 0), (ii 0), (ii 0), (ii 0), (ii 0), (ii 0), (ii 0), (ii 0)] []) λ x5 => gR 8 8 (.list [(ii 0), (ii 0), (ii 0), (ii 0), (ii 0), (ii 0), (ii 0), (ii 0)]) h4 λ x6 h7 => wK (dD 8 x6 x5 h7) λ x8 h9 => wK (aB E 79 [x6] h9) λ x10 h11 => vK (aO x10) λ x12 => aFS E x1 x3 x6 x10 x12 aK (ii 0) h11
theorem bSQ : Is E bWy (bB D87.res) (λ σ h => aQM E (σ p2) (σ p4) (σ p5) h) := Is.rf
abbrev bSg : gS (DV × H) := (bU (λ σ h => aQM E (σ p2) (σ p4) (σ p5) h) (bB D87.res))
theorem bSP : Is E bWx (bF 0 (bSg E)) (λ σ h => aFS E (σ p2) (σ p4) (σ p5) (σ sU) (σ tW) aK (σ xW) h) := Is.lp (λ n2 σ h => aFS E (σ p2) (σ p4) (σ p5) (σ sU) (σ tW) n2 (σ xW) h) λ n2 => Is.aq (Is.leaf _)
theorem bSR : lZ E D87 (aQN E) := Is.aq (Is.sq (Is.sq (Is.sq (bSQ E) (Is.sq (Is.bk (bSP E)) (Is.leaf _))) (Is.leaf _)) (Is.leaf _))
def S87 : bC := lY (aQN E)
theorem aWP : SQ D87 S87 := mD bSR
def D88 := cm 88
def bFC (r0 r1 r2 : DV) (h : H) : aL := vK (cM .ptr false h.get r0 .nilp) λ x1 => aJ x1 false (λ kk => kk r1 h) h λ x2 h3 => aJ x1 false (λ kk => kk r2 h3) h3 λ x4 h5 => aJ x1 false (λ kk => wK (aB E 122 [x2, x4] h5) kk) h5 λ x6 h7 => aJ x1 false (λ kk => vK (eN x6) λ v => kk v h7) h7 λ x8 h9 => vK (aH x1 (.bool true) x8) λ x10 => bK x10 (some ((.tup [(ii 0), (.str [])]), h9)) (wK (aB E 123 [r0, r1, r2] h9) λ x11 h12 => vK (aN 0 x11) λ x13 => vK (aN 1 x11) λ x14 => vK (aC r0) λ x15 => vK (aG 1 x15) λ x16 => vK (aF h12.get x16) λ x17 => vK (uD .int .nils false h12.get x17 r1) λ x18 => aJ x14 true (λ kk => kk x18 h12) h12 λ x19 h20 => aJ x14 true (λ kk => kk x13 h20) h20 λ x21 h22 => aJ x14 true (λ kk => vK (bY 3 x19 x21) λ v => kk v h22) h22 λ x23 h24 => aJ x14 true (λ kk => vK (aG 1 x23) λ v => kk v h24) h24 λ x25 h26 => aJ x14 true (λ kk => vK (aF h26.get x25) λ v => kk v h26) h26 λ x27 h28 => vK (aH x14 x27 (.bool false)) λ x29 => bK x29 (some ((.tup [(ii 3), (.str [])]), h28)) (bK x14 (vK (bY 3 x18 x13) λ x30 => vK (aG 2 x30) λ x31 => vK (aF h28.get x31) λ x32 => some ((.tup [(ii 2), x32]), h28)) (vK (aO x18) λ x33 => vK (aC r0) λ x34 => vK (aG 0 x34) λ x35 => vK (aF h28.get x35) λ x36 => vK (cF x33 x36) λ x37 => aJ x37 true (λ kk => kk x13 h28) h28 λ x38 h39 => aJ x37 true (λ kk => vK (cF x38 (ii 0)) λ v => kk v h39) h39 λ x40 h41 => vK (aH x37 x40 (.bool false)) λ x42 => bK x42 (some ((.tup [(ii 4), (.str [])]), h41)) (vK (dH [(ii 0), (.bool false), (.str [])] [(0, 1, r2), (1, 1, (.bool true))]) λ x43 => dI 1 3 [(ii 0), (.bool false), (.str [])] [(0, 3, x43)] h41 λ x44 h45 => wK (aB E 124 [x18, x13, x44] h45) λ x46 h47 => vK (aC r0) λ x48 => vK (aG 1 x48) λ x49 => vK (aF h47.get x49) λ x50 => vK (aO x46) λ x51 => vK (aC r0) λ x52 => vK (aG 0 x52) λ x53 => vK (aF h47.get x53) λ x54 => vK (kI x51 x54) λ x55 => vK (wP x55 (ii 0)) λ x56 => vK (eV 3 x46 (some x56) none) λ x57 => wK (aBS .int x50 r1 x57 h47) λ x58 h59 => some ((.tup [(ii 1), (.str [])]), h59)))))
theorem bSO : iB3 E D88 (bFC E) := Is.rf
def S88 : bC := fA3 (bFC E)
theorem aWO : SQ D88 S88 := eB3 bSO
def D89 := cm 89
def bFB (E : aQ) (r0 : DV) (h : H) : aL := vK (cF r0 (ii 1)) λ x1 => bK x1 (some ((.fn (.func 125) [] []), h)) (vK (cF r0 (ii 2)) λ x2 => bK x2 (some ((.fn (.func 126) [] []), h)) (vK (cF r0 (ii 3)) λ x3 => bK x3 (some ((.fn (.func 127) [] []), h)) (vK (cF r0 (ii 4)) λ x4 => bK x4 (some ((.fn (.func 128) [] []), h)) (vK (cF r0 (ii 5)) λ x5 => bK x5 (some ((.fn (.func 129) [] []), h)) (vK (cF r0 (ii 6)) λ x6 => bK x6 (some ((.fn (.func 130) [] []), h)) (vK (cF r0 (ii 7)) λ x7 => bK x7 (some ((.fn (.func 131) [] []), h)) (vK (cF r0 (ii 8)) λ x8 => bK x8 (some ((.fn (.func 132) [] []), h)) (some ((.fn (.func 133) [] []), h)))))))))
theorem bSN : lZ E D89 (bFB E) := Is.rf
def S89 : bC := lY (bFB E)
theorem aWN : SQ D89 S89 := mD bSN
def D90 := cm 90
def bFA (r0 r1 r2 r3 : DV) (h : H) : aL := vK (cM .ptr false h.get r0 .nilp) λ x1 => aJ x1 false (λ kk => kk r1 h) h λ x2 h3 => aJ x1 false (λ kk => kk r2 h3) h3 λ x4 h5 => aJ x1 false (λ kk => wK (aB E 122 [x2, x4] h5) kk) h5 λ x6 h7 => aJ x1 false (λ kk => vK (eN x6) λ v => kk v h7) h7 λ x8 h9 => vK (aH x1 (.bool true) x8) λ x10 => aJ x10 false (λ kk => kk r3 h9) h9 λ x11 h12 => aJ x10 false (λ kk => vK (eI x11) λ v => kk v h12) h12 λ x13 h14 => aJ x10 false (λ kk => vK (dO x13 (ii 4096)) λ v => kk v h14) h14 λ x15 h16 => vK (aH x10 (.bool true) x15) λ x17 => bK x17 (some ((.bool false), h16)) (wK (aB E 123 [r0, r1, r2] h16) λ x18 h19 => vK (aN 0 x18) λ x20 => vK (aN 1 x18) λ x21 => vK (eN x21) λ x22 => aJ x22 false (λ kk => kk r0 h19) h19 λ x23 h24 => aJ x22 false (λ kk => vK (aC x23) λ v => kk v h24) h24 λ x25 h26 => aJ x22 false (λ kk => vK (aG 1 x25) λ v => kk v h26) h26 λ x27 h28 => aJ x22 false (λ kk => vK (aF h28.get x27) λ v => kk v h28) h28 λ x29 h30 => aJ x22 false (λ kk => kk r1 h30) h30 λ x31 h32 => aJ x22 false (λ kk => vK (uD .int .nils false h32.get x29 x31) λ v => kk v h32) h32 λ x33 h34 => aJ x22 false (λ kk => kk x20 h34) h34 λ x35 h36 => aJ x22 false (λ kk => vK (bY 3 x33 x35) λ v => kk v h36) h36 λ x37 h38 => aJ x22 false (λ kk => vK (aG 1 x37) λ v => kk v h38) h38 λ x39 h40 => aJ x22 false (λ kk => vK (aF h40.get x39) λ v => kk v h40) h40 λ x41 h42 => aJ x22 false (λ kk => vK (eN x41) λ v => kk v h42) h42 λ x43 h44 => vK (aH x22 (.bool true) x43) λ x45 => bK x45 (some ((.bool false), h44)) (vK (aC r0) λ x46 => vK (aG 1 x46) λ x47 => vK (aF h44.get x47) λ x48 => vK (uD .int .nils false h44.get x48 r1) λ x49 => vK (dH [(ii 0), (.bool false), (.str [])] [(0, 1, r2), (2, 1, r3)]) λ x50 => vK (bY 3 x49 x20) λ x51 => wK (dD 3 x51 x50 h44) λ x52 h53 => some ((.bool true), h53)))
theorem bSM : iB4 E D90 (bFA E) := Is.rf
def S90 : bC := fA4 (bFA E)
theorem aWM : SQ D90 S90 := eB4 bSM
def D91 := cm 91
def aQL (r0 : DV) (h : H) : aL := wK (aB E 134 [(.str [0]), r0] h) λ x1 h2 => some (x1, h2)
theorem bSL : lZ E D91 (aQL E) := Is.rf
def S91 : bC := lY (aQL E)
theorem bIm : SQ D91 S91 := mD bSL
def D92 := cm 92
def bWw := cr (cr (cr (cr D92.body)))
def bWv := cl (cr (cl (cr (cr (cr D92.body)))))
def aYB (E : aQ) (h : H) : aL := some ((.bool true), h)
def aKX (r0 r1 r32 : DV) (i2 : DV → H → aL) (r33 : DV) (h : H) : aL := vK (bO r33 r32) λ x1 => bK x1 (vK (aC r0) λ x2 => vK (aG 0 x2) λ x3 => vK (pT 512 1 x3 r33) λ x4 => vK (aF h.get x4) λ x5 => vK (oP r1 r33) λ x6 => vK (pS x5 x6) λ x7 => vK (aC r0) λ x8 => vK (aG 0 x8) λ x9 => vK (pT 512 1 x9 r33) λ x10 => wK (dD 1 x10 x7 h) λ x11 h12 => vK (bW r33 (ii 1)) λ x13 => i2 x13 h12) (aYB E h)
def aFR (r0 r1 r32 : DV) (n : Nat) : DV → H → aL := Nat.rec (motive := λ _ => DV → H → aL) (λ _ _ => none) (λ _ i => aKX E r0 r1 r32 i) n
def aQK (r0 r1 r2 : DV) (h : H) : aL := vK (eI r1) λ x1 => vK (dO x1 (ii 512)) λ x2 => aJ x2 false (λ kk => kk r2 h) h λ x3 h4 => aJ x2 false (λ kk => vK (eN x3) λ v => kk v h4) h4 λ x5 h6 => aJ x2 false (λ kk => kk x5 h6) h6 λ x7 h8 => aJ x7 true (λ kk => kk r1 h8) h8 λ x9 h10 => aJ x7 true (λ kk => vK (eI x9) λ v => kk v h10) h10 λ x11 h12 => aJ x7 true (λ kk => kk r0 h12) h12 λ x13 h14 => aJ x7 true (λ kk => vK (aC x13) λ v => kk v h14) h14 λ x15 h16 => aJ x7 true (λ kk => vK (aG 512 x15) λ v => kk v h16) h16 λ x17 h18 => aJ x7 true (λ kk => vK (aF h18.get x17) λ v => kk v h18) h18 λ x19 h20 => aJ x7 true (λ kk => vK (cW x11 x19) λ v => kk v h20) h20 λ x21 h22 => aJ x2 false (λ kk => vK (aH x7 x21 (.bool false)) λ v => kk v h22) h22 λ x23 h24 => vK (aH x2 (.bool true) x23) λ x25 => bK x25 (some ((.bool false), h24)) (vK (eI r1) λ x26 => vK (aC r0) λ x27 => vK (aG 512 x27) λ x28 => wK (dD 1 x28 x26 h24) λ x29 h30 => vK (aC r0) λ x31 => vK (aG 512 x31) λ x32 => vK (aF h30.get x32) λ x33 => aFR E r0 r1 x33 aK (ii 0) h30)
theorem bSJ : Is E bWw (bB D92.res) (λ σ h => aYB E h) := Is.rf
abbrev bSf : gS (DV × H) := (bF 0 (bU (λ σ h => aYB E h) (bB D92.res)))
theorem bSI : Is E bWv (bSf E) (λ σ h => aFR E (σ p0) (σ p1) (σ p32) aK (σ p33) h) := Is.lp (λ n2 σ h => aFR E (σ p0) (σ p1) (σ p32) n2 (σ p33) h) λ n2 => Is.aq (Is.leaf _)
theorem bSK : iB3 E D92 (aQK E) := Is.aq (Is.sq (Is.sq (Is.sq (Is.sq (bSJ E) (Is.sq (Is.bk (bSI E)) (Is.leaf _))) (Is.leaf _)) (Is.leaf _)) (Is.leaf _))
def S92 : bC := fA3 (aQK E)
theorem bIl : SQ D92 S92 := eB3 bSK
def D93 := cm 93
def bFz (r0 r1 r2 : DV) (h : H) : aL := wK (aB E 105 [r0, r1] h) λ x1 h2 => vK (aN 0 x1) λ x3 => vK (aN 1 x1) λ x4 => vK (cW x4 (ii 0)) λ x5 => aJ x5 false (λ kk => kk r2 h2) h2 λ x6 h7 => aJ x5 false (λ kk => vK (bO x6 (ii 0)) λ v => kk v h7) h7 λ x8 h9 => vK (aH x5 (.bool true) x8) λ x10 => aJ x10 false (λ kk => kk r2 h9) h9 λ x11 h12 => aJ x10 false (λ kk => kk x3 h12) h12 λ x13 h14 => aJ x10 false (λ kk => vK (aO x13) λ v => kk v h14) h14 λ x15 h16 => aJ x10 false (λ kk => vK (eQ x11 x15) λ v => kk v h16) h16 λ x17 h18 => vK (aH x10 (.bool true) x17) λ x19 => bK x19 (some ((.tup [(ii 0), (ii 1)]), h18)) (vK (bY 1 x3 r2) λ x20 => vK (aF h18.get x20) λ x21 => some ((.tup [x21, (ii 0)]), h18))
theorem bSH : iB3 E D93 (bFz E) := Is.rf
def S93 : bC := fA3 (bFz E)
theorem aWL : SQ D93 S93 := eB3 bSH
def D94 := cm 94
def bFy (E : aQ) (h : H) : aL := none
theorem bSG : lZ E D94 (λ _ h => bFy E h) := Is.rf
def S94 : bC := lY (λ _ h => bFy E h)
theorem bIk : SQ D94 S94 := mD bSG
def D95 := cm 95
def bFx (E : aQ) (r0 : DV) (h : H) : aL := vK (aES 25 (ii 0) true r0) λ x1 => vK (aN 0 x1) λ x2 => vK (aN 1 x1) λ x3 => some (x2, h)
theorem bSF : lZ E D95 (bFx E) := Is.rf
def S95 : bC := lY (bFx E)
theorem bIj : SQ D95 S95 := mD bSF
def D96 := cm 96
def bGg := cr (cr (cr D96.body))
def bWu := cr bGg
def aYA (E : aQ) (r5 : DV) (h : H) : aL := vK (aC r5) λ x1 => vK (aG 1 x1) λ x2 => vK (aF h.get x2) λ x3 => some (x3, h)
def aQJ (r5 : DV) (h : H) : aL := vK (aC r5) λ x1 => vK (aG 2 x1) λ x2 => vK (aF h.get x2) λ x3 => aJ x3 false (λ kk => kk r5 h) h λ x4 h5 => aJ x3 false (λ kk => vK (aC x4) λ v => kk v h5) h5 λ x6 h7 => aJ x3 false (λ kk => vK (aG 3 x6) λ v => kk v h7) h7 λ x8 h9 => aJ x3 false (λ kk => vK (aF h9.get x8) λ v => kk v h9) h9 λ x10 h11 => vK (aH x3 (.bool true) x10) λ x12 => bK x12 (none) (aYA E r5 h11)
def aGd (r0 r1 : DV) (h : H) : aL := wK (aB E 33 [r0, r1] h) λ x1 h2 => vK (cM .ptr false h2.get x1 .nilp) λ x3 => bK x3 (none) (aQJ E x1 h2)
theorem bSC : Is E bWu (bB D96.res) (λ σ h => aYA E (σ p5) h) := Is.rf
theorem bSD : Is E bGg (bB D96.res) (λ σ h => aQJ E (σ p5) h) := Is.aq (Is.sq (bSC E) (Is.leaf _))
theorem bSE : jY E D96 (aGd E) := Is.aq (Is.sq (Is.sq (Is.sq (bSD E) (Is.leaf _)) (Is.leaf _)) (Is.leaf _))
def S96 : bC := jU (aGd E)
theorem bIi : SQ D96 S96 := kG bSE
def D97 := cm 97
def bWt := cr (cr (cr (cr (cr (cr D97.body)))))
def aYz (E : aQ) (r12 : DV) (h : H) : aL := some (r12, h)
def aQI (r0 r1 r2 r3 : DV) (h : H) : aL := cY r1 h λ x1 h2 => vK (cM .ptr false h2.get r0 .nilp) λ x3 => aJ x3 false (λ kk => vK (cX 2 h2.get x1) λ v => kk v h2) h2 λ x4 h5 => aJ x3 false (λ kk => wK (aB E 109 [x4] h5) kk) h5 λ x6 h7 => aJ x3 false (λ kk => vK (eN x6) λ v => kk v h7) h7 λ x8 h9 => vK (aH x3 (.bool true) x8) λ x10 => bK x10 (some ((ii 1), h9)) (vK (eI r2) λ x11 => vK (dO x11 (ii 512)) λ x12 => bK x12 (some ((ii 2), h9)) (wK (aB E 135 [r0] h9) λ x13 h14 => vK (bO x13 (ii 0)) λ x15 => bK x15 (some ((ii 5), h14)) (vK (cX 2 h14.get x1) λ x16 => wK (aB E 75 [r0, x16] h14) λ x17 h18 => vK (eQ x17 (ii 0)) λ x19 => bK x19 (some ((ii 6), h18)) (vK (aC r0) λ x20 => vK (aG 2 x20) λ x21 => vK (aF h18.get x21) λ x22 => bK x22 (some ((ii 16), h18)) (wK (aB E 135 [r0] h18) λ x23 h24 => wK (aB E 59 [r2, (ii 512)] h24) λ x25 h26 => vK (aN 0 x25) λ x27 => vK (aN 1 x25) λ x28 => vK (mB x23 (ii 9)) λ x29 => vK (bW x29 (ii 1)) λ x30 => vK (mB x23 (ii 9)) λ x31 => vK (cX 2 h26.get x1) λ x32 => wK (aB E 137 [r0, x30, x27] h26) λ x33 h34 => rK (rcK (cX 2 h34.get x1) x32) <| wK (aB E 110 [x32, r2] h34) λ x35 h36 => wK (aB E 137 [r0, x31, x35] h36) λ x37 h38 => dI 4 1 [.nilf] [(0, 1, x33), (1, 1, (.fn (.func 138) [r0] [])), (2, 1, x37), (3, 1, (.fn (.func 138) [r0] []))] h38 λ x39 h40 => wK (aB E 136 [r0, r3, x39] h40) λ x41 h42 => vK (cF x41 (ii 0)) λ x43 => bK x43 (vK (aC r0) λ x44 => vK (aG 1 x44) λ x45 => vK (aF h42.get x45) λ x46 => vK (cX 2 h42.get x1) λ x47 => vK (eI r2) λ x48 => vK (dH [(.bool false), (ii 0), (ii 0), (ii 0)] [(0, 1, (.bool true)), (1, 2, x47), (3, 1, x48)]) λ x49 => vK (bY 4 x46 x23) λ x50 => wK (dD 4 x50 x49 h42) λ x51 h52 => aYz E x41 h52) (aYz E x41 h42))))))
theorem bSA : Is E bWt (bB D97.res) (λ σ h => aYz E (σ nN) h) := Is.rf
theorem bSB : iB4 E D97 (aQI E) := Is.aq (Is.sq (Is.sq (Is.sq (Is.sq (Is.sq (Is.sq (bSA E) (Is.leaf _)) (Is.leaf _)) (Is.leaf _)) (Is.leaf _)) (Is.leaf _)) (Is.leaf _))
def S97 : bC := fA4 (aQI E)
theorem bIh : SQ D97 S97 := eB4 bSB
def bAu := cm 100
def aZE (r0 r1 : DV) (h : H) : aL := gR 6 6 (.list [(ii 0), (ii 0), (ii 0), (ii 0), (ii 0), .nils]) h λ x1 h2 => wK (aB E 139 [r0, r1] h2) λ x3 h4 => vK (cM .ptr false h4.get x3 .nilp) λ x5 => bK x5 (vK (dH [(ii 0), (ii 0), (ii 0), (ii 0), (ii 0), .nils] []) λ x6 => wK (dD 6 x1 x6 h4) λ x7 h8 => vK (cX 6 h8.get x1) λ x9 => some ((.tup [x9, (.bool false)]), h8)) (vK (aC x3) λ x10 => vK (cX 6 h4.get x10) λ x11 => gR 6 6 (.list [(ii 0), (ii 0), (ii 0), (ii 0), (ii 0), .nils]) h4 λ x12 h13 => wK (dD 6 x12 x11 h13) λ x14 h15 => vK (aG 5 x12) λ x16 => vK (aF h15.get x16) λ x17 => wK (aB E 140 [x17] h15) λ x18 h19 => vK (aG 5 x12) λ x20 => wK (dD 1 x20 x18 h19) λ x21 h22 => vK (cX 6 h22.get x12) λ x23 => wK (dD 6 x1 x23 h22) λ x24 h25 => vK (cX 6 h25.get x1) λ x26 => some ((.tup [x26, (.bool true)]), h25))
theorem bLX : jY E bAu (aZE E) := Is.rf
def aYo : bC := jU (aZE E)
theorem aQF : SQ bAu aYo := kG bLX
def bMP := cm 101
def aZD (E : aQ) (r2 : DV) (h : H) : aL := cY r2 h λ x1 h2 => gR 1 1 (.list [(.str [])]) h2 λ x3 h4 => gR 1 1 (.list [(ii 0)]) h4 λ x5 h6 => none
theorem bLW : iB3 E bMP (λ _ _ r2 h => aZD E r2 h) := Is.rf
def bJm : bC := fA3 (λ _ _ r2 h => aZD E r2 h)
theorem bDI : SQ bMP bJm := eB3 bLW
def bAt := cm 102
def aZC (E : aQ) (r0 : DV) (h : H) : aL := vK (cM .ptr false h.get r0 .nilp) λ x1 => bK x1 (some ((ii 0), h)) (vK (aC r0) λ x2 => vK (aG 2 x2) λ x3 => vK (aF h.get x3) λ x4 => some (x4, h))
theorem bLV : lZ E bAt (aZC E) := Is.rf
def aYn : bC := lY (aZC E)
theorem aQE : SQ bAt aYn := mD bLV
def aIu := cm 103
def bNI := cr (cr (cr aIu.body))
def bAw := cl (cr (cl (cr (cl (cr (cr aIu.body))))))
def bNH := cr (cr (cr (cl bAw)))
def aId (E : aQ) (r5 : DV) (h : H) : aL := some (r5, h)
def aNz (E : aQ) (i2 : DV → DV → H → aL) (r5 r15 : DV) (h : H) : aL := vK (bW r15 (ii 1)) λ x1 => i2 r5 x1 h
def bNT (r1 r13 r14 : DV) (i2 : DV → DV → H → aL) (r5 r15 : DV) (h : H) : aL := vK (bO r15 r14) λ x1 => bK x1 (vK (bY 6 r13 r15) λ x2 => vK (cX 6 h.get x2) λ x3 => gR 6 6 (.list [(ii 0), (ii 0), (ii 0), (ii 0), (ii 0), .nils]) h λ x4 h5 => wK (dD 6 x4 x3 h5) λ x6 h7 => vK (cX 6 h7.get x4) λ x8 => wK (lK E r1 [x8] h7) λ x9 h10 => bK x9 (vK (aG 0 x4) λ x11 => vK (aF h10.get x11) λ x12 => dI 1 1 [(ii 0)] [(0, 1, x12)] h10 λ x13 h14 => wK (cJ 1 8 r5 x13 h14) λ x15 h16 => aNz E i2 x15 r15 h16) (aNz E i2 r5 r15 h10)) (aId E r5 h)
def aEl (r1 r13 r14 : DV) (n : Nat) : DV → DV → H → aL := Nat.rec (motive := λ _ => DV → DV → H → aL) (λ _ _ _ => none) (λ _ i => bNT E r1 r13 r14 i) n
def aZB (r0 r1 : DV) (h : H) : aL := vK (cM .ptr true h.get r0 .nilp) λ x1 => bK x1 (vK (aC r0) λ x2 => vK (aG 0 x2) λ x3 => vK (aF h.get x3) λ x4 => vK (aO x4) λ x5 => aEl E r1 x4 x5 aK .nils (ii 0) h) (aId E .nils h)
theorem bLT : Is E bNI (bB aIu.res) (λ σ h => aId E (σ p5) h) := Is.rf
abbrev aYy : gS (DV × H) := (bU (λ σ h => aId E (σ p5) h) (bB aIu.res))
abbrev bJE (n2 : Nat) : gS (DV × H) := (bU (λ σ h => (aEl E (σ p1) (σ sU) (σ tW) n2) (σ p5) (σ xW) h) (bF 0 (aYy E)))
theorem bLR (n2 : Nat) : Is E bNH (bJE E n2) (λ σ h => aNz E (aEl E (σ p1) (σ sU) (σ tW) n2) (σ p5) (σ xW) h) := Is.rf
theorem bLS : Is E bAw (bF 0 (aYy E)) (λ σ h => aEl E (σ p1) (σ sU) (σ tW) aK (σ p5) (σ xW) h) := Is.lp (λ n2 σ h => aEl E (σ p1) (σ sU) (σ tW) n2 (σ p5) (σ xW) h) λ n2 => Is.aq (Is.sq (Is.sq (Is.sq (bLR E n2) (Is.leaf _)) (Is.leaf _)) (Is.leaf _))
theorem bLU : jY E aIu (aZB E) := Is.aq (Is.sq (Is.sq (Is.sq (bLT E) (Is.sq (Is.cd (Is.sq (Is.bk (bLS E)) (Is.leaf _)) (Is.leaf _)) (Is.leaf _))) (Is.leaf _)) (Is.leaf _))
def aYm : bC := jU (aZB E)
theorem aQD : SQ aIu aYm := kG bLU
def bAs := cm 104
def aZA (E : aQ) (r0 r1 : DV) (h : H) : aL := cY r0 h λ x1 h2 => vK (aG 1 x1) λ x3 => vK (aF h2.get x3) λ x4 => vK (aF h2.get r1) λ x5 => vK (cF x4 x5) λ x6 => some (x6, h2)
theorem bLQ : jY E bAs (aZA E) := Is.rf
def aYl : bC := jU (aZA E)
theorem aQC : SQ bAs aYl := kG bLQ
def aIt := cm 105
def bNG := cr (cr (cr (cr aIt.body)))
def bNF := cl (cr (cl (cr (cr (cr aIt.body)))))
def aNy (E : aQ) (r6 : DV) (h : H) : aL := some ((.tup [r6, (ii 0)]), h)
def bNS (r0 r1 r6 r23 : DV) (i2 : DV → H → aL) (r24 : DV) (h : H) : aL := vK (bO r24 r23) λ x1 => bK x1 (wK (aB E 144 [r0, r1, r24] h) λ x2 h3 => vK (bY 1 r0 x2) λ x4 => vK (aF h3.get x4) λ x5 => vK (bY 1 r6 r24) λ x6 => wK (dD 1 x6 x5 h3) λ x7 h8 => vK (bW r24 (ii 1)) λ x9 => i2 x9 h8) (aNy E r6 h)
def aNg (r0 r1 r6 r23 : DV) (n : Nat) : DV → H → aL := Nat.rec (motive := λ _ => DV → H → aL) (λ _ _ => none) (λ _ i => bNS E r0 r1 r6 r23 i) n
def aZz (r0 r1 : DV) (h : H) : aL := wK (aB E 143 [r0] h) λ x1 h2 => vK (eN x1) λ x3 => aJ x3 false (λ kk => kk r1 h2) h2 λ x4 h5 => aJ x3 false (λ kk => vK (bO x4 (ii 0)) λ v => kk v h5) h5 λ x6 h7 => vK (aH x3 (.bool true) x6) λ x8 => aJ x8 false (λ kk => kk r1 h7) h7 λ x9 h10 => aJ x8 false (λ kk => vK (eQ x9 (ii 4096)) λ v => kk v h10) h10 λ x11 h12 => vK (aH x8 (.bool true) x11) λ x13 => bK x13 (some ((.tup [.nils, (ii 1)]), h12)) (vK (aO r0) λ x14 => jN 1 8 (ii 0) x14 x14 h12 λ x15 h16 => vK (aO r0) λ x17 => aNg E r0 r1 x15 x17 aK (ii 0) h16)
theorem bLO : Is E bNG (bB aIt.res) (λ σ h => aNy E (σ p6) h) := Is.rf
abbrev bJD : gS (DV × H) := (bU (λ σ h => aNy E (σ p6) h) (bB aIt.res))
theorem bLN : Is E bNF (bF 0 (bJD E)) (λ σ h => aNg E (σ p0) (σ p1) (σ p6) (σ p23) aK (σ p24) h) := Is.lp (λ n2 σ h => aNg E (σ p0) (σ p1) (σ p6) (σ p23) n2 (σ p24) h) λ n2 => Is.aq (Is.leaf _)
theorem bLP : jY E aIt (aZz E) := Is.aq (Is.sq (Is.sq (Is.sq (Is.sq (bLO E) (Is.sq (Is.bk (bLN E)) (Is.leaf _))) (Is.leaf _)) (Is.leaf _)) (Is.leaf _))
def aYk : bC := jU (aZz E)
theorem aQB : SQ aIt aYk := kG bLP
def aIs := cm 106
def bNE := cr (cr aIs.body)
def bND := cl (cr (cl (cr aIs.body)))
def aNx (E : aQ) (h : H) : aL := some ((.int .i64 (.negSucc 0)), h)
def aNT (r0 r1 r7 : DV) (i2 : DV → H → aL) (r8 : DV) (h : H) : aL := vK (bO r8 r7) λ x1 => bK x1 (vK (bY 1 r0 r8) λ x2 => vK (aF h.get x2) λ x3 => vK (cF r1 x3) λ x4 => bK x4 (some (r8, h)) (vK (bW r8 (ii 1)) λ x5 => i2 x5 h)) (aNx E h)
def aHv (r0 r1 r7 : DV) (n : Nat) : DV → H → aL := Nat.rec (motive := λ _ => DV → H → aL) (λ _ _ => none) (λ _ i => aNT E r0 r1 r7 i) n
def aBa (r0 r1 : DV) (h : H) : aL := vK (aO r0) λ x1 => aHv E r0 r1 x1 aK (ii 0) h
theorem bLL : Is E bNE (bB aIs.res) (λ σ h => aNx E h) := Is.rf
abbrev bJC : gS (DV × H) := (bF 0 (bU (λ σ h => aNx E h) (bB aIs.res)))
theorem bLK : Is E bND (bJC E) (λ σ h => aHv E (σ p0) (σ p1) (σ p7) aK (σ p8) h) := Is.lp (λ n2 σ h => aHv E (σ p0) (σ p1) (σ p7) n2 (σ p8) h) λ n2 => Is.aq (Is.leaf _)
theorem bLM : jY E aIs (aBa E) := Is.aq (Is.sq (Is.sq (bLL E) (Is.sq (Is.bk (bLK E)) (Is.leaf _))) (Is.leaf _))
def aEi : bC := jU (aBa E)
theorem aQA : SQ aIs aEi := kG bLM
def bMO := cm 107
def aAZ (E : aQ) (r0 r1 r2 r3 : DV) (h : H) : aL := vK (cM .ptr false h.get r0 .nilp) λ x1 => aJ x1 false (λ kk => kk r1 h) h λ x2 h3 => aJ x1 false (λ kk => vK (bO x2 (ii 0)) λ v => kk v h3) h3 λ x4 h5 => vK (aH x1 (.bool true) x4) λ x6 => aJ x6 false (λ kk => kk r2 h5) h5 λ x7 h8 => aJ x6 false (λ kk => vK (bO x7 (ii 1)) λ v => kk v h8) h8 λ x9 h10 => vK (aH x6 (.bool true) x9) λ x11 => aJ x11 false (λ kk => kk r3 h10) h10 λ x12 h13 => aJ x11 false (λ kk => vK (eN x12) λ v => kk v h13) h13 λ x14 h15 => vK (aH x11 (.bool true) x14) λ x16 => bK x16 (some ((ii 1), h15)) (vK (aC r0) λ x17 => vK (aG 0 x17) λ x18 => vK (aF h15.get x18) λ x19 => vK (aO x19) λ x20 => vK (dO r1 x20) λ x21 => aJ x21 false (λ kk => kk r2 h15) h15 λ x22 h23 => aJ x21 false (λ kk => kk r0 h23) h23 λ x24 h25 => aJ x21 false (λ kk => vK (aC x24) λ v => kk v h25) h25 λ x26 h27 => aJ x21 false (λ kk => vK (aG 0 x26) λ v => kk v h27) h27 λ x28 h29 => aJ x21 false (λ kk => vK (aF h29.get x28) λ v => kk v h29) h29 λ x30 h31 => aJ x21 false (λ kk => vK (aO x30) λ v => kk v h31) h31 λ x32 h33 => aJ x21 false (λ kk => kk r1 h33) h33 λ x34 h35 => aJ x21 false (λ kk => vK (kI x32 x34) λ v => kk v h35) h35 λ x36 h37 => aJ x21 false (λ kk => vK (dO x22 x36) λ v => kk v h37) h37 λ x38 h39 => vK (aH x21 (.bool true) x38) λ x40 => bK x40 (some ((ii 5), h39)) (vK (aC r0) λ x41 => vK (aG 2 x41) λ x42 => vK (aF h39.get x42) λ x43 => bK x43 (some ((ii 8), h39)) (some ((ii 0), h39))))
theorem bLJ : iB4 E bMO (aAZ E) := Is.rf
def aEh : bC := fA4 (aAZ E)
theorem bDH : SQ bMO aEh := eB4 bLJ
def bMN := cm 108
def aIc (E : aQ) (r0 : DV) (h : H) : aL := vK (oP r0 (ii 0)) λ x1 => vK (cN .i64 x1) λ x2 => vK (oP r0 (ii 1)) λ x3 => vK (cN .i64 x3) λ x4 => vK (uB x4 (.int .u64 (.ofNat 8))) λ x5 => vK (aED x2 x5) λ x6 => vK (oP r0 (ii 2)) λ x7 => vK (cN .i64 x7) λ x8 => vK (uB x8 (.int .u64 (.ofNat 16))) λ x9 => vK (aED x6 x9) λ x10 => vK (oP r0 (ii 3)) λ x11 => vK (cN .i64 x11) λ x12 => vK (uB x12 (.int .u64 (.ofNat 24))) λ x13 => vK (aED x10 x13) λ x14 => some (x14, h)
theorem bLI : lZ E bMN (aIc E) := Is.rf
def aMW : bC := lY (aIc E)
theorem bDG : SQ bMN aMW := mD bLI
def bMM := cm 109
def aIb (E : aQ) (r0 : DV) (h : H) : aL := cY r0 h λ x1 h2 => vK (aG 0 x1) λ x3 => vK (aF h2.get x3) λ x4 => vK (eQ x4 (ii 0)) λ x5 => aJ x5 true (λ kk => vK (aG 0 x1) λ v => kk v h2) h2 λ x6 h7 => aJ x5 true (λ kk => vK (aF h7.get x6) λ v => kk v h7) h7 λ x8 h9 => aJ x5 true (λ kk => vK (bO x8 (ii 2147483648)) λ v => kk v h9) h9 λ x10 h11 => vK (aH x5 x10 (.bool false)) λ x12 => aJ x12 true (λ kk => vK (aG 1 x1) λ v => kk v h11) h11 λ x13 h14 => aJ x12 true (λ kk => vK (aF h14.get x13) λ v => kk v h14) h14 λ x15 h16 => aJ x12 true (λ kk => vK (eQ x15 (ii 0)) λ v => kk v h16) h16 λ x17 h18 => vK (aH x12 x17 (.bool false)) λ x19 => aJ x19 true (λ kk => vK (aG 1 x1) λ v => kk v h18) h18 λ x20 h21 => aJ x19 true (λ kk => vK (aF h21.get x20) λ v => kk v h21) h21 λ x22 h23 => aJ x19 true (λ kk => vK (bO x22 (ii 8)) λ v => kk v h23) h23 λ x24 h25 => vK (aH x19 x24 (.bool false)) λ x26 => some (x26, h25)
theorem bLH : lZ E bMM (aIb E) := Is.rf
def aTv : bC := lY (aIb E)
theorem bDF : SQ bMM aTv := mD bLH
def bML := cm 110
def aIa (r0 r1 : DV) (h : H) : aL := cY r0 h λ x1 h2 => vK (aG 0 x1) λ x3 => vK (aF h2.get x3) λ x4 => vK (cN .u32 x4) λ x5 => vK (aG 1 x1) λ x6 => vK (aF h2.get x6) λ x7 => vK (cN .u32 x7) λ x8 => vK (eI r1) λ x9 => vK (cN .u32 x9) λ x10 => wK (aB E 145 [x5] h2) λ x11 h12 => rK (rcK (aF h12.get x6) x7) <| vK (bW (.str [72, 70, 82, 71]) x11) λ x13 => wK (aB E 145 [x8] h12) λ x14 h15 => vK (bW x13 x14) λ x16 => wK (aB E 145 [x10] h15) λ x17 h18 => vK (bW x16 x17) λ x19 => wK (aB E 146 [r1] h18) λ x20 h21 => wK (aB E 145 [x20] h21) λ x22 h23 => vK (bW x19 x22) λ x24 => wK (aB E 59 [x24, (ii 60)] h23) λ x25 h26 => vK (aN 0 x25) λ x27 => vK (aN 1 x25) λ x28 => wK (aB E 147 [x27] h26) λ x29 h30 => some (x29, h30)
theorem bLG : jY E bML (aIa E) := Is.rf
def aTu : bC := jU (aIa E)
theorem bDE : SQ bML aTu := kG bLG
def aNO := cm 111
def bNC := cr (cr aNO.body)
def bNB := cl (cr (cl (cr aNO.body)))
def aNw (E : aQ) (h : H) : aL := some ((.int .i64 (.negSucc 0)), h)
def aBf (r0 r1 r7 : DV) (i2 : DV → H → aL) (r8 : DV) (h : H) : aL := vK (bO r8 r7) λ x1 => bK x1 (vK (bY 4 r0 r8) λ x2 => vK (cX 4 h.get x2) λ x3 => wK (lK E r1 [x3] h) λ x4 h5 => bK x4 (some (r8, h5)) (vK (bW r8 (ii 1)) λ x6 => i2 x6 h5)) (aNw E h)
def yK (r0 r1 r7 : DV) (n : Nat) : DV → H → aL := Nat.rec (motive := λ _ => DV → H → aL) (λ _ _ => none) (λ _ i => aBf E r0 r1 r7 i) n
def aHZ (r0 r1 : DV) (h : H) : aL := vK (aO r0) λ x1 => yK E r0 r1 x1 aK (ii 0) h
theorem bLE : Is E bNC (bB aNO.res) (λ σ h => aNw E h) := Is.rf
abbrev bJB : gS (DV × H) := (bF 0 (bU (λ σ h => aNw E h) (bB aNO.res)))
theorem bLD : Is E bNB (bJB E) (λ σ h => yK E (σ p0) (σ p1) (σ p7) aK (σ p8) h) := Is.lp (λ n2 σ h => yK E (σ p0) (σ p1) (σ p7) n2 (σ p8) h) λ n2 => Is.aq (Is.leaf _)
theorem bLF : jY E aNO (aHZ E) := Is.aq (Is.sq (Is.sq (bLE E) (Is.sq (Is.bk (bLD E)) (Is.leaf _))) (Is.leaf _))
def aKH : bC := jU (aHZ E)
theorem bDD : SQ aNO aKH := kG bLF
def bMK := cm 112
def aHY (E : aQ) (r0 r1 : DV) (h : H) : aL := cY r0 h λ x1 h2 => vK (aG 0 x1) λ x3 => vK (aF h2.get x3) λ x4 => aJ x4 true (λ kk => vK (aG 1 x1) λ v => kk v h2) h2 λ x5 h6 => aJ x4 true (λ kk => vK (cX 2 h6.get x5) λ v => kk v h6) h6 λ x7 h8 => aJ x4 true (λ kk => vK (cX 2 h8.get r1) λ v => kk v h8) h8 λ x9 h10 => aJ x4 true (λ kk => vK (wZ false (.leaf .int 0 (.leaf .int 1 .nil)) h10.get x7 x9) λ v => kk v h10) h10 λ x11 h12 => vK (aH x4 x11 (.bool false)) λ x13 => some (x13, h12)
theorem bLC : jY E bMK (aHY E) := Is.rf
def aTt : bC := jU (aHY E)
theorem bDC : SQ bMK aTt := kG bLC
def aIr := cm 113
def bNA := cr (cr (cr aIr.body))
def aNS := cl (cr (cl (cr (cr aIr.body))))
def bNz := cr (cr (cr (cl aNS)))
def bNy := cl (cr (cr (cl (cl (cr (cr (cl aNS)))))))
def aNv (E : aQ) (h : H) : aL := some ((.bool true), h)
def aNu (E : aQ) (i2 : DV → H → aL) (r10 : DV) (h : H) : aL := vK (bW r10 (ii 1)) λ x1 => i2 x1 h
def bNQ (i2 : DV → H → aL) (r3 r10 r14 r15 : DV) (i4 : DV → H → aL) (r16 : DV) (h : H) : aL := vK (bO r16 r15) λ x1 => bK x1 (vK (bY 1 r14 r16) λ x2 => vK (aF h.get x2) λ x3 => vK (bO x3 (ii 0)) λ x4 => aJ x4 false (λ kk => kk x3 h) h λ x5 h6 => aJ x4 false (λ kk => vK (eQ x5 (ii 64)) λ v => kk v h6) h6 λ x7 h8 => vK (aH x4 (.bool true) x7) λ x9 => aJ x9 false (λ kk => kk x3 h8) h8 λ x10 h11 => aJ x9 false (λ kk => vK (pT 64 1 r3 x10) λ v => kk v h11) h11 λ x12 h13 => aJ x9 false (λ kk => vK (aF h13.get x12) λ v => kk v h13) h13 λ x14 h15 => vK (aH x9 (.bool true) x14) λ x16 => bK x16 (some ((.bool false), h15)) (vK (pT 64 1 r3 x3) λ x17 => wK (dD 1 x17 (.bool true) h15) λ x18 h19 => vK (bW r16 (ii 1)) λ x20 => i4 x20 h19)) (aNu E i2 r10 h)
def aNf (i2 : DV → H → aL) (r3 r10 r14 r15 : DV) (n : Nat) : DV → H → aL := Nat.rec (motive := λ _ => DV → H → aL) (λ _ _ => none) (λ _ i => bNQ E i2 r3 r10 r14 r15 i) n
def bNR (r3 r8 r9 : DV) (i2 : DV → H → aL) (r10 : DV) (h : H) : aL := vK (bO r10 r9) λ x1 => bK x1 (vK (bY 1 r8 r10) λ x2 => vK (aF h.get x2) λ x3 => vK (aO x3) λ x4 => aNf E i2 r3 r10 x3 x4 aK (ii 0) h) (aNv E h)
def vH (r3 r8 r9 : DV) (n : Nat) : DV → H → aL := Nat.rec (motive := λ _ => DV → H → aL) (λ _ _ => none) (λ _ i => bNR E r3 r8 r9 i) n
def aZy (r0 : DV) (h : H) : aL := gR 64 64 (.full 64 (.bool false)) h λ x1 h2 => vK (aO r0) λ x3 => vH E x1 r0 x3 aK (ii 0) h2
theorem bLA : Is E bNA (bB aIr.res) (λ σ h => aNv E h) := Is.rf
abbrev aYx : gS (DV × H) := (bF 0 (bU (λ σ h => aNv E h) (bB aIr.res)))
abbrev aYw (n2 : Nat) : gS (DV × H) := (bU (λ σ h => (vH E (σ p3) (σ p8) (σ p9) n2) (σ nI) h) (aYx E))
theorem bLy (n2 : Nat) : Is E bNz (aYw E n2) (λ σ h => aNu E (vH E (σ p3) (σ p8) (σ p9) n2) (σ nI) h) := Is.rf
abbrev bJA (n2 : Nat) : gS (DV × H) := (bU (λ σ h => aNu E (vH E (σ p3) (σ p8) (σ p9) n2) (σ nI) h) (aYw E n2))
theorem bLx (n2 : Nat) : Is E bNy (bF 2 (bF 1 (bJA E n2))) (λ σ h => aNf E (vH E (σ p3) (σ p8) (σ p9) n2) (σ p3) (σ nI) (σ tW) (σ xW) aK (σ p16) h) := Is.lp (λ n4 σ h => aNf E (vH E (σ p3) (σ p8) (σ p9) n2) (σ p3) (σ nI) (σ tW) (σ xW) n4 (σ p16) h) λ n4 => Is.aq (Is.leaf _)
theorem bLz : Is E aNS (aYx E) (λ σ h => vH E (σ p3) (σ p8) (σ p9) aK (σ nI) h) := Is.lp (λ n2 σ h => vH E (σ p3) (σ p8) (σ p9) n2 (σ nI) h) λ n2 => Is.aq (Is.sq (Is.sq (Is.sq (bLy E n2) (Is.bk (Is.sq (Is.sq (Is.bk (bLx E n2)) (Is.leaf _)) (Is.leaf _)))) (Is.leaf _)) (Is.leaf _))
theorem bLB : lZ E aIr (aZy E) := Is.aq (Is.sq (Is.sq (Is.sq (bLA E) (Is.sq (Is.bk (bLz E)) (Is.leaf _))) (Is.leaf _)) (Is.leaf _))
def aYj : bC := lY (aZy E)
theorem aQz : SQ aIr aYj := mD bLB
def bAr := cm 114
def aHX (r0 r1 : DV) (h : H) : aL := vK (cM .ptr false h.get r0 .nilp) λ x1 => aJ x1 false (λ kk => kk r0 h) h λ x2 h3 => aJ x1 false (λ kk => vK (aC x2) λ v => kk v h3) h3 λ x4 h5 => aJ x1 false (λ kk => vK (aG 2 x4) λ v => kk v h5) h5 λ x6 h7 => aJ x1 false (λ kk => vK (aF h7.get x6) λ v => kk v h7) h7 λ x8 h9 => aJ x1 false (λ kk => vK (cW x8 (ii 0)) λ v => kk v h9) h9 λ x10 h11 => vK (aH x1 (.bool true) x10) λ x12 => bK x12 (some ((.tup []), h11)) (vK (aC r0) λ x13 => vK (aG 1 x13) λ x14 => vK (aF h11.get x14) λ x15 => vK (aC r0) λ x16 => vK (aG 1 x16) λ x17 => vK (aF h11.get x17) λ x18 => vK (aO x18) λ x19 => vK (aC r0) λ x20 => vK (aG 1 x20) λ x21 => vK (aF h11.get x21) λ x22 => vK (aO x22) λ x23 => vK (aCx 1 x15 none x19 x23) λ x24 => wK (lK E r1 [x24] h11) λ x25 h26 => vK (aO x25) λ x27 => vK (aC r0) λ x28 => vK (aG 0 x28) λ x29 => vK (aF h26.get x29) λ x30 => vK (dO x27 x30) λ x31 => bK x31 (vK (aC r0) λ x32 => vK (aG 2 x32) λ x33 => wK (dD 1 x33 (ii 2) h26) λ x34 h35 => some ((.tup []), h35)) (vK (aC r0) λ x36 => vK (aG 1 x36) λ x37 => wK (dD 1 x37 x25 h26) λ x38 h39 => some ((.tup []), h39)))
theorem bLw : jY E bAr (aHX E) := Is.rf
def aKG : bC := jU (aHX E)
theorem aQy : SQ bAr aKG := kG bLw
def bAq := cm 115
def aHW (r0 r1 : DV) (h : H) : aL := vK (aF h.get r1) λ x1 => wK (aB E 116 [r0, x1] h) λ x2 h3 => some (x2, h3)
theorem bLv : jY E bAq (aHW E) := Is.rf
def aMV : bC := jU (aHW E)
theorem aQx : SQ bAq aMV := kG bLv
def aIq := cm 116
def bNx := cr (cr (cr aIq.body))
def bNw := cl (cl (cr (cr aIq.body)))
def aEn (E : aQ) (r0 r5 : DV) (h : H) : aL := vK (cN .u8 r5) λ x1 => dI 1 1 [(.int .u8 (.ofNat 0))] [(0, 1, x1)] h λ x2 h3 => wK (cJ 1 1 r0 x2 h3) λ x4 h5 => some (x4, h5)
def aEy (i2 : DV → DV → H → aL) (r0 r5 : DV) (h : H) : aL := vK (eQ r5 (.int .u64 (.ofNat 128))) λ x1 => bK x1 (vK (cN .u8 r5) λ x2 => vK (aED x2 (.int .u8 (.ofNat 128))) λ x3 => dI 1 1 [(.int .u8 (.ofNat 0))] [(0, 1, x3)] h λ x4 h5 => wK (cJ 1 1 r0 x4 h5) λ x6 h7 => vK (lN r5 (.int .u64 (.ofNat 7))) λ x8 => i2 x6 x8 h7) (aEn E r0 r5 h)
def aAX (n : Nat) : DV → DV → H → aL := Nat.rec (motive := λ _ => DV → DV → H → aL) (λ _ _ _ => none) (λ _ i => aEy E i) n
def aHV (r0 r1 : DV) (h : H) : aL := vK (cN .u64 r1) λ x1 => vK (uB x1 (.int .u64 (.ofNat 1))) λ x2 => vK (lN r1 (.int .u64 (.ofNat 63))) λ x3 => vK (cN .u64 x3) λ x4 => vK (pS x2 x4) λ x5 => aAX E aK r0 x5 h
theorem bLt : Is E bNx (bB aIq.res) (λ σ h => aEn E (σ p0) (σ p5) h) := Is.rf
abbrev bJz : gS (DV × H) := (bU (λ σ h => aEn E (σ p0) (σ p5) h) (bB aIq.res))
theorem bLs : Is E bNw (bF 0 (bJz E)) (λ σ h => aAX E aK (σ p0) (σ p5) h) := Is.lp (λ n2 σ h => aAX E n2 (σ p0) (σ p5) h) λ n2 => Is.aq (Is.leaf _)
theorem bLu : jY E aIq (aHV E) := Is.aq (Is.sq (Is.sq (Is.sq (bLt E) (Is.bk (bLs E))) (Is.leaf _)) (Is.leaf _))
def aMU : bC := jU (aHV E)
theorem aQw : SQ aIq aMU := kG bLu
def bAp := cm 117
def aHU (r0 r1 : DV) (h : H) : aL := vK (cM .ptr false h.get r0 .nilp) λ x1 => aJ x1 false (λ kk => kk r0 h) h λ x2 h3 => aJ x1 false (λ kk => vK (aC x2) λ v => kk v h3) h3 λ x4 h5 => aJ x1 false (λ kk => vK (aG 1 x4) λ v => kk v h5) h5 λ x6 h7 => aJ x1 false (λ kk => vK (aF h7.get x6) λ v => kk v h7) h7 λ x8 h9 => vK (aH x1 (.bool true) x8) λ x10 => aJ x10 false (λ kk => kk r1 h9) h9 λ x11 h12 => aJ x10 false (λ kk => vK (bO x11 (ii 0)) λ v => kk v h12) h12 λ x13 h14 => vK (aH x10 (.bool true) x13) λ x15 => aJ x15 false (λ kk => kk r1 h14) h14 λ x16 h17 => aJ x15 false (λ kk => kk r0 h17) h17 λ x18 h19 => aJ x15 false (λ kk => vK (aC x18) λ v => kk v h19) h19 λ x20 h21 => aJ x15 false (λ kk => vK (aG 0 x20) λ v => kk v h21) h21 λ x22 h23 => aJ x15 false (λ kk => vK (aF h23.get x22) λ v => kk v h23) h23 λ x24 h25 => aJ x15 false (λ kk => vK (eI x24) λ v => kk v h25) h25 λ x26 h27 => aJ x15 false (λ kk => vK (dO x16 x26) λ v => kk v h27) h27 λ x28 h29 => vK (aH x15 (.bool true) x28) λ x30 => bK x30 (wK (aB E 148 [r0] h29) λ x31 h32 => some ((.tup [(.str []), (.bool false)]), h32)) (vK (aC r0) λ x33 => vK (aG 0 x33) λ x34 => vK (aF h29.get x34) λ x35 => vK (jH x35 none (some r1)) λ x36 => vK (aC r0) λ x37 => vK (aG 0 x37) λ x38 => vK (aF h29.get x38) λ x39 => vK (jH x39 (some r1) none) λ x40 => vK (aC r0) λ x41 => vK (aG 0 x41) λ x42 => wK (dD 1 x42 x40 h29) λ x43 h44 => some ((.tup [x36, (.bool true)]), h44))
theorem bLr : jY E bAp (aHU E) := Is.rf
def aMT : bC := jU (aHU E)
theorem aQv : SQ bAp aMT := kG bLr
def bAo := cm 118
def aHT (r0 : DV) (h : H) : aL := vK (cM .ptr false h.get r0 .nilp) λ x1 => bK x1 (some ((ii 0), h)) (vK (aC r0) λ x2 => vK (aG 0 x2) λ x3 => vK (aF h.get x3) λ x4 => wK (aB E 149 [x4] h) λ x5 h6 => vK (aN 0 x5) λ x7 => vK (aN 1 x5) λ x8 => vK (cF x8 (ii 0)) λ x9 => bK x9 (wK (aB E 148 [r0] h6) λ x10 h11 => some ((ii 0), h11)) (wK (aB E 117 [r0, x8] h6) λ x12 h13 => vK (lN x7 (.int .u64 (.ofNat 1))) λ x14 => vK (cN .i64 x14) λ x15 => vK (qV x7 (.int .u64 (.ofNat 1))) λ x16 => vK (cN .i64 x16) λ x17 => vK (wY x17) λ x18 => vK (pS x15 x18) λ x19 => some (x19, h13)))
theorem bLq : lZ E bAo (aHT E) := Is.rf
def aMS : bC := lY (aHT E)
theorem aQu : SQ bAo aMS := mD bLq
def aIp := cm 119
def bNv := cr (cr (cr (cr (cr aIp.body))))
def bNu := cl (cr (cl (cr (cr (cr (cr aIp.body))))))
def aNt (E : aQ) (r6 : DV) (h : H) : aL := some (r6, h)
def bNP (r0 r1 r26 : DV) (i2 : DV → DV → H → aL) (r6 r27 : DV) (h : H) : aL := vK (bO r27 r26) λ x1 => bK x1 (wK (lK E r1 [] h) λ x2 h3 => dI 1 1 [(ii 0)] [(0, 1, x2)] h3 λ x4 h5 => wK (cJ 1 8 r6 x4 h5) λ x6 h7 => vK (aC r0) λ x8 => vK (aG 1 x8) λ x9 => vK (aF h7.get x9) λ x10 => bK x10 (some (.nils, h7)) (vK (bW r27 (ii 1)) λ x11 => i2 x6 x11 h7)) (aNt E r6 h)
def aNe (r0 r1 r26 : DV) (n : Nat) : DV → DV → H → aL := Nat.rec (motive := λ _ => DV → DV → H → aL) (λ _ _ _ => none) (λ _ i => bNP E r0 r1 r26 i) n
def aZx (r0 r1 : DV) (h : H) : aL := wK (aB E 118 [r0] h) λ x1 h2 => vK (cM .ptr false h2.get r0 .nilp) λ x3 => aJ x3 false (λ kk => kk x1 h2) h2 λ x4 h5 => aJ x3 false (λ kk => vK (bO x4 (ii 0)) λ v => kk v h5) h5 λ x6 h7 => vK (aH x3 (.bool true) x6) λ x8 => aJ x8 false (λ kk => kk x1 h7) h7 λ x9 h10 => aJ x8 false (λ kk => kk r0 h10) h10 λ x11 h12 => aJ x8 false (λ kk => vK (aC x11) λ v => kk v h12) h12 λ x13 h14 => aJ x8 false (λ kk => vK (aG 0 x13) λ v => kk v h14) h14 λ x15 h16 => aJ x8 false (λ kk => vK (aF h16.get x15) λ v => kk v h16) h16 λ x17 h18 => aJ x8 false (λ kk => vK (eI x17) λ v => kk v h18) h18 λ x19 h20 => aJ x8 false (λ kk => vK (dO x9 x19) λ v => kk v h20) h20 λ x21 h22 => vK (aH x8 (.bool true) x21) λ x23 => bK x23 (wK (aB E 148 [r0] h22) λ x24 h25 => some (.nils, h25)) (aNe E r0 r1 x1 aK .nils (ii 0) h22)
theorem bLo : Is E bNv (bB aIp.res) (λ σ h => aNt E (σ p6) h) := Is.rf
abbrev bJy : gS (DV × H) := (bU (λ σ h => aNt E (σ p6) h) (bB aIp.res))
theorem bLn : Is E bNu (bF 0 (bJy E)) (λ σ h => aNe E (σ p0) (σ p1) (σ p26) aK (σ p6) (σ p27) h) := Is.lp (λ n2 σ h => aNe E (σ p0) (σ p1) (σ p26) n2 (σ p6) (σ p27) h) λ n2 => Is.aq (Is.leaf _)
theorem bLp : jY E aIp (aZx E) := Is.aq (Is.sq (Is.sq (Is.sq (Is.sq (Is.sq (bLo E) (Is.sq (Is.bk (bLn E)) (Is.leaf _))) (Is.leaf _)) (Is.leaf _)) (Is.leaf _)) (Is.leaf _))
def aYi : bC := jU (aZx E)
theorem aQt : SQ aIp aYi := kG bLp
def aNN := cm 120
def bNt := cr (cr aNN.body)
def aNs (r0 r3 : DV) (h : H) : aL := wK (aB E 114 [r0, (.fn (.func 150) [] [r3])] h) λ x1 h2 => some ((.tup []), h2)
def aZw (r0 r1 : DV) (h : H) : aL := cY r1 h λ x1 h2 => vK (cM .ptr true h2.get r0 .nilp) λ x3 => aJ x3 true (λ kk => kk r0 h2) h2 λ x4 h5 => aJ x3 true (λ kk => vK (aC x4) λ v => kk v h5) h5 λ x6 h7 => aJ x3 true (λ kk => vK (aG 2 x6) λ v => kk v h7) h7 λ x8 h9 => aJ x3 true (λ kk => vK (aF h9.get x8) λ v => kk v h9) h9 λ x10 h11 => aJ x3 true (λ kk => vK (cF x10 (ii 0)) λ v => kk v h11) h11 λ x12 h13 => vK (aH x3 x12 (.bool false)) λ x14 => aJ x14 true (λ kk => vK (aF h13.get x1) λ v => kk v h13) h13 λ x15 h16 => aJ x14 true (λ kk => vK (bO x15 (ii 0)) λ v => kk v h16) h16 λ x17 h18 => aJ x14 true (λ kk => kk x17 h18) h18 λ x19 h20 => aJ x19 false (λ kk => vK (aF h20.get x1) λ v => kk v h20) h20 λ x21 h22 => aJ x19 false (λ kk => vK (dO x21 (ii 255)) λ v => kk v h22) h22 λ x23 h24 => aJ x14 true (λ kk => vK (aH x19 (.bool true) x23) λ v => kk v h24) h24 λ x25 h26 => vK (aH x14 x25 (.bool false)) λ x27 => bK x27 (vK (aC r0) λ x28 => vK (aG 2 x28) λ x29 => wK (dD 1 x29 (ii 1) h26) λ x30 h31 => aNs E r0 x1 h31) (aNs E r0 x1 h26)
theorem bLl : Is E bNt (bB aNN.res) (λ σ h => aNs E (σ p0) (σ p3) h) := Is.rf
theorem bLm : jY E aNN (aZw E) := Is.aq (Is.sq (Is.sq (bLl E) (Is.leaf _)) (Is.leaf _))
def aYh : bC := jU (aZw E)
theorem aQs : SQ aNN aYh := kG bLm
def bAn := cm 121
def aZv (r0 r1 : DV) (h : H) : aL := cY r1 h λ x1 h2 => wK (aB E 114 [r0, (.fn (.func 151) [] [x1])] h2) λ x3 h4 => some ((.tup []), h4)
theorem bLk : jY E bAn (aZv E) := Is.rf
def aYg : bC := jU (aZv E)
theorem aQr : SQ bAn aYg := kG bLk
def bAm := cm 122
def aZu (E : aQ) (r0 r1 : DV) (h : H) : aL := vK (eQ r0 (ii 0)) λ x1 => aJ x1 true (λ kk => kk r0 h) h λ x2 h3 => aJ x1 true (λ kk => vK (bO x2 (ii 64)) λ v => kk v h3) h3 λ x4 h5 => vK (aH x1 x4 (.bool false)) λ x6 => aJ x6 true (λ kk => kk r1 h5) h5 λ x7 h8 => aJ x6 true (λ kk => vK (eQ x7 (ii 0)) λ v => kk v h8) h8 λ x9 h10 => vK (aH x6 x9 (.bool false)) λ x11 => aJ x11 true (λ kk => kk r1 h10) h10 λ x12 h13 => aJ x11 true (λ kk => vK (bO x12 (ii 2147483648)) λ v => kk v h13) h13 λ x14 h15 => vK (aH x11 x14 (.bool false)) λ x16 => some (x16, h15)
theorem bLj : jY E bAm (aZu E) := Is.rf
def aYf : bC := jU (aZu E)
theorem aQq : SQ bAm aYf := kG bLj
def bAl := cm 123
def aZt (r0 r1 r2 : DV) (h : H) : aL := vK (aC r0) λ x1 => vK (aG 1 x1) λ x2 => vK (aF h.get x2) λ x3 => vK (uD .int .nils false h.get x3 r1) λ x4 => wK (aB E 152 [x4, r2, (.fn (.func 153) [] [])] h) λ x5 h6 => vK (aN 0 x5) λ x7 => vK (aN 1 x5) λ x8 => some ((.tup [x7, x8]), h6)
theorem bLi : iB3 E bAl (aZt E) := Is.rf
def aYe : bC := fA3 (aZt E)
theorem aQp : SQ bAl aYe := eB3 bLi
def bAk := cm 124
def aZs (r0 r1 r2 : DV) (h : H) : aL := vK (eV 3 r0 (some r1) none) λ x1 => vK (aO r2) λ x2 => vK (cF x2 (ii 0)) λ x3 => bK x3 (some (r0, h)) (vK (aO r0) λ x4 => vK (cF r1 x4) λ x5 => bK x5 (wK (cJ 3 32 r0 r2 h) λ x6 h7 => some (x6, h7)) (vK (bW x4 x2) λ x8 => vK (aCA r0) λ x9 => vK (dO x8 x9) λ x10 => bK x10 (vK (eV 3 r0 none (some r1)) λ x11 => vK (bW x4 x2) λ x12 => vK (kI x12 r1) λ x13 => wK (aEM 3 32 [(ii 0), (.bool false), (.str [])] x11 x13 h) λ x14 h15 => vK (eV 3 x14 (some r1) none) λ x16 => wK (lE 3 x16 r2 h15) λ x17 h18 => vK (bW r1 x2) λ x19 => vK (eV 3 x14 (some x19) none) λ x20 => vK (eV 3 r0 (some r1) none) λ x21 => wK (lE 3 x20 x21 h18) λ x22 h23 => some (x14, h23)) (vK (bW x4 x2) λ x24 => vK (eV 3 r0 none (some x24)) λ x25 => vK (bW r1 x2) λ x26 => vK (eV 3 x25 (some x26) none) λ x27 => vK (aIE h.get r2 x27) λ x28 => vK (eN x28) λ x29 => bK x29 (vK (bW r1 x2) λ x30 => vK (eV 3 x25 (some x30) none) λ x31 => vK (eV 3 x25 (some r1) none) λ x32 => wK (lE 3 x31 x32 h) λ x33 h34 => vK (eV 3 x25 (some r1) none) λ x35 => wK (lE 3 x35 r2 h34) λ x36 h37 => some (x25, h37)) (vK (eV 3 x25 (some x4) none) λ x38 => wK (lE 3 x38 r2 h) λ x39 h40 => vK (eV 3 x25 (some r1) none) λ x41 => wK (aB E 155 [x41, x2] h40) λ x42 h43 => some (x25, h43)))))
theorem bLh : iB3 E bAk (aZs E) := Is.rf
def aYd : bC := fA3 (aZs E)
theorem aQo : SQ bAk aYd := eB3 bLh
def bAj := cm 125
def aZr (r0 r1 : DV) (h : H) : aL := cY r1 h λ x1 h2 => vK (aC r0) λ x3 => vK (aG 1 x3) λ x4 => vK (aF h2.get x4) λ x5 => vK (aG 0 x1) λ x6 => vK (aF h2.get x6) λ x7 => vK (aC r0) λ x8 => vK (aG 0 x8) λ x9 => vK (aF h2.get x9) λ x10 => vK (aG 3 x1) λ x11 => vK (aF h2.get x11) λ x12 => vK (aC r0) λ x13 => vK (aG 0 x13) λ x14 => vK (aF h2.get x14) λ x15 => wK (aB E 102 [x10] h2) λ x16 h17 => rK (rcK (aF h17.get x14) x15) <| rK (rcK (aF h17.get x11) x12) <| rK (rcK (aF h17.get x6) x7) <| rK (rcK (aF h17.get x4) x5) <| wK (aB E 157 [x15] h17) λ x18 h19 => rK (rcK (aF h19.get x11) x12) <| rK (rcK (aF h19.get x6) x7) <| rK (rcK (aF h19.get x4) x5) <| wK (aB E 156 [x5, x7, x16, x12, x18] h19) λ x20 h21 => vK (aN 0 x20) λ x22 => vK (aN 1 x20) λ x23 => vK (aC r0) λ x24 => vK (aG 0 x24) λ x25 => vK (aF h21.get x25) λ x26 => wK (aB E 102 [x26] h21) λ x27 h28 => dI 2 1 [(ii 0)] [(0, 1, x22), (1, 1, x27)] h28 λ x29 h30 => some ((.tup [x29, x23]), h30)
theorem bLg : jY E bAj (aZr E) := Is.rf
def aYc : bC := jU (aZr E)
theorem aQn : SQ bAj aYc := kG bLg
def aNM := cm 126
def bNs := cr (cr (cr (cr (cr aNM.body))))
def aHR (E : aQ) (r8 : DV) (h : H) : aL := some ((.tup [.nils, r8]), h)
def aHS (r0 r1 : DV) (h : H) : aL := cY r1 h λ x1 h2 => vK (aC r0) λ x3 => vK (aG 1 x3) λ x4 => vK (aF h2.get x4) λ x5 => vK (aG 3 x1) λ x6 => vK (aF h2.get x6) λ x7 => gR 6 6 (.list [(ii 0), (ii 0), (ii 0), (ii 0), (ii 0), .nils]) h2 λ x8 h9 => wK (aB E 100 [x5, x7] h9) λ x10 h11 => vK (aN 0 x10) λ x12 => vK (aN 1 x10) λ x13 => wK (dD 6 x8 x12 h11) λ x14 h15 => aJ x13 true (λ kk => vK (aG 1 x8) λ v => kk v h15) h15 λ x16 h17 => aJ x13 true (λ kk => vK (aF h17.get x16) λ v => kk v h17) h17 λ x18 h19 => aJ x13 true (λ kk => vK (cF x18 (ii 1)) λ v => kk v h19) h19 λ x20 h21 => vK (aH x13 x20 (.bool false)) λ x22 => aJ x22 true (λ kk => vK (aG 2 x8) λ v => kk v h21) h21 λ x23 h24 => aJ x22 true (λ kk => vK (aF h24.get x23) λ v => kk v h24) h24 λ x25 h26 => aJ x22 true (λ kk => vK (aG 0 x1) λ v => kk v h26) h26 λ x27 h28 => aJ x22 true (λ kk => vK (aF h28.get x27) λ v => kk v h28) h28 λ x29 h30 => aJ x22 true (λ kk => vK (cF x25 x29) λ v => kk v h30) h30 λ x31 h32 => vK (aH x22 x31 (.bool false)) λ x33 => aJ x33 true (λ kk => vK (aG 3 x8) λ v => kk v h32) h32 λ x34 h35 => aJ x33 true (λ kk => vK (aF h35.get x34) λ v => kk v h35) h35 λ x36 h37 => aJ x33 true (λ kk => kk r0 h37) h37 λ x38 h39 => aJ x33 true (λ kk => vK (aC x38) λ v => kk v h39) h39 λ x40 h41 => aJ x33 true (λ kk => vK (aG 0 x40) λ v => kk v h41) h41 λ x42 h43 => aJ x33 true (λ kk => vK (aF h43.get x42) λ v => kk v h43) h43 λ x44 h45 => aJ x33 true (λ kk => wK (aB E 102 [x44] h45) kk) h45 λ x46 h47 => rK (gB x33 true (rcK (aF h47.get x34) x36)) <| aJ x33 true (λ kk => vK (cW x36 x46) λ v => kk v h47) h47 λ x48 h49 => vK (aH x33 x48 (.bool false)) λ x50 => bK x50 (some ((.tup [.nils, (ii 10)]), h49)) (vK (aC r0) λ x51 => vK (aG 1 x51) λ x52 => vK (aF h49.get x52) λ x53 => vK (aG 3 x1) λ x54 => vK (aF h49.get x54) λ x55 => vK (aG 0 x1) λ x56 => vK (aF h49.get x56) λ x57 => wK (aB E 158 [x53, x55, x57] h49) λ x58 h59 => vK (cF x58 (ii 0)) λ x60 => aJ x60 true (λ kk => vK (aG 4 x8) λ v => kk v h59) h59 λ x61 h62 => aJ x60 true (λ kk => vK (aF h62.get x61) λ v => kk v h62) h62 λ x63 h64 => aJ x60 true (λ kk => vK (dO x63 (ii 0)) λ v => kk v h64) h64 λ x65 h66 => vK (aH x60 x65 (.bool false)) λ x67 => bK x67 (vK (aC r0) λ x68 => vK (aG 3 x68) λ x69 => vK (aF h66.get x69) λ x70 => vK (aG 3 x1) λ x71 => vK (aF h66.get x71) λ x72 => vK (aG 4 x8) λ x73 => vK (aF h66.get x73) λ x74 => vK (aG 4 x8) λ x75 => vK (aF h66.get x75) λ x76 => wK (aB E 159 [x70, x72, x74, x76, (ii 0)] h66) λ x77 h78 => aHR E x58 h78) (aHR E x58 h66))
theorem bLe : Is E bNs (bB aNM.res) (λ σ h => aHR E (σ p8) h) := Is.rf
theorem bLf : jY E aNM (aHS E) := Is.aq (Is.sq (Is.sq (Is.sq (Is.sq (Is.sq (bLe E) (Is.leaf _)) (Is.leaf _)) (Is.leaf _)) (Is.leaf _)) (Is.leaf _))
def aMR : bC := jU (aHS E)
theorem aQm : SQ aNM aMR := kG bLf
def aNL := cm 129
def bNr := cr (cr (cr aNL.body))
def aNr (r0 r6 : DV) (h : H) : aL := vK (aC r0) λ x1 => vK (aG 0 x1) λ x2 => vK (aF h.get x2) λ x3 => wK (aB E 102 [x3] h) λ x4 h5 => dI 1 1 [(ii 0)] [(0, 1, x4)] h5 λ x6 h7 => some ((.tup [x6, r6]), h7)
def aZq (r0 r1 : DV) (h : H) : aL := cY r1 h λ x1 h2 => vK (aC r0) λ x3 => vK (aG 0 x3) λ x4 => vK (aF h2.get x4) λ x5 => vK (aG 3 x1) λ x6 => vK (aF h2.get x6) λ x7 => vK (aG 4 x1) λ x8 => vK (aF h2.get x8) λ x9 => wK (aB E 165 [x5, x7, x9] h2) λ x10 h11 => vK (cF x10 (ii 0)) λ x12 => bK x12 (vK (aG 3 x1) λ x13 => vK (aF h11.get x13) λ x14 => vK (aC r0) λ x15 => vK (aG 6 x15) λ x16 => wK (dD 1 x16 x14 h11) λ x17 h18 => aNr E r0 x10 h18) (aNr E r0 x10 h11)
theorem bLc : Is E bNr (bB aNL.res) (λ σ h => aNr E (σ p0) (σ p6) h) := Is.rf
theorem bLd : jY E aNL (aZq E) := Is.aq (Is.sq (Is.sq (Is.sq (bLc E) (Is.leaf _)) (Is.leaf _)) (Is.leaf _))
def aYb : bC := jU (aZq E)
theorem aQl : SQ aNL aYb := kG bLd
def aIo := cm 130
def bNq := cr (cr (cr (cr aIo.body)))
def bNp := cl (cr (cl (cr (cr (cr aIo.body)))))
def aNq (r0 r6 : DV) (h : H) : aL := vK (aC r0) λ x1 => vK (aG 0 x1) λ x2 => vK (aF h.get x2) λ x3 => wK (aB E 102 [x3] h) λ x4 h5 => dI 2 1 [(ii 0)] [(0, 1, r6), (1, 1, x4)] h5 λ x6 h7 => some ((.tup [x6, (ii 0)]), h7)
def bNO (r0 r6 r33 r34 : DV) (i2 : DV → H → aL) (r35 : DV) (h : H) : aL := vK (bO r35 r34) λ x1 => bK x1 (vK (bY 1 r33 r35) λ x2 => vK (aF h.get x2) λ x3 => vK (aC r0) λ x4 => vK (aG 1 x4) λ x5 => vK (aF h.get x5) λ x6 => wK (aB E 100 [x6, x3] h) λ x7 h8 => vK (aN 0 x7) λ x9 => vK (aN 1 x7) λ x10 => gR 6 6 (.list [(ii 0), (ii 0), (ii 0), (ii 0), (ii 0), .nils]) h8 λ x11 h12 => wK (dD 6 x11 x9 h12) λ x13 h14 => vK (aC r0) λ x15 => vK (aG 1 x15) λ x16 => vK (aF h14.get x16) λ x17 => vK (aG 5 x11) λ x18 => vK (aF h14.get x18) λ x19 => vK (aC r0) λ x20 => vK (aG 6 x20) λ x21 => vK (aF h14.get x21) λ x22 => wK (aB E 106 [x19, x22] h14) λ x23 h24 => rK (rcK (aF h24.get x16) x17) <| wK (aB E 168 [x17, x3, x23, r6] h24) λ x25 h26 => vK (bW r35 (ii 1)) λ x27 => i2 x27 h26) (aNq E r0 r6 h)
def aNd (r0 r6 r33 r34 : DV) (n : Nat) : DV → H → aL := Nat.rec (motive := λ _ => DV → H → aL) (λ _ _ => none) (λ _ i => bNO E r0 r6 r33 r34 i) n
def aZp (r0 r1 : DV) (h : H) : aL := cY r1 h λ x1 h2 => vK (aC r0) λ x3 => vK (aG 0 x3) λ x4 => vK (aF h2.get x4) λ x5 => vK (aG 3 x1) λ x6 => vK (aF h2.get x6) λ x7 => wK (aB E 166 [x5, x7] h2) λ x8 h9 => vK (aN 0 x8) λ x10 => vK (aN 1 x8) λ x11 => vK (cW x11 (ii 0)) λ x12 => bK x12 (some ((.tup [.nils, x11]), h9)) (vK (aC r0) λ x13 => vK (aG 1 x13) λ x14 => vK (aF h9.get x14) λ x15 => vK (aC r0) λ x16 => vK (aG 6 x16) λ x17 => vK (aF h9.get x17) λ x18 => wK (aB E 167 [x15, x18] h9) λ x19 h20 => vK (aO x19) λ x21 => aNd E r0 x10 x19 x21 aK (ii 0) h20)
theorem bLa : Is E bNq (bB aIo.res) (λ σ h => aNq E (σ p0) (σ p6) h) := Is.rf
abbrev bJx : gS (DV × H) := (bU (λ σ h => aNq E (σ p0) (σ p6) h) (bB aIo.res))
theorem bKZ : Is E bNp (bF 0 (bJx E)) (λ σ h => aNd E (σ p0) (σ p6) (σ p33) (σ p34) aK (σ p35) h) := Is.lp (λ n2 σ h => aNd E (σ p0) (σ p6) (σ p33) (σ p34) n2 (σ p35) h) λ n2 => Is.aq (Is.leaf _)
theorem bLb : jY E aIo (aZp E) := Is.aq (Is.sq (Is.sq (Is.sq (Is.sq (bLa E) (Is.sq (Is.bk (bKZ E)) (Is.leaf _))) (Is.leaf _)) (Is.leaf _)) (Is.leaf _))
def aYa : bC := jU (aZp E)
theorem aQk : SQ aIo aYa := kG bLb
def bAi := cm 131
def aZo (r0 r1 : DV) (h : H) : aL := cY r1 h λ x1 h2 => vK (aC r0) λ x3 => vK (aG 0 x3) λ x4 => vK (aF h2.get x4) λ x5 => vK (aG 3 x1) λ x6 => vK (aF h2.get x6) λ x7 => wK (aB E 169 [x5, x7] h2) λ x8 h9 => vK (aC r0) λ x10 => vK (aG 0 x10) λ x11 => vK (aF h9.get x11) λ x12 => wK (aB E 102 [x12] h9) λ x13 h14 => dI 1 1 [(ii 0)] [(0, 1, x13)] h14 λ x15 h16 => some ((.tup [x15, x8]), h16)
theorem bKY : jY E bAi (aZo E) := Is.rf
def aXZ : bC := jU (aZo E)
theorem aQj : SQ bAi aXZ := kG bKY
def bMJ := cm 135
def aHQ (r0 : DV) (h : H) : aL := vK (aC r0) λ x1 => vK (aG 1 x1) λ x2 => vK (aF h.get x2) λ x3 => wK (aB E 111 [x3, (.fn (.func 178) [] [])] h) λ x4 h5 => some (x4, h5)
theorem bKX : lZ E bMJ (aHQ E) := Is.rf
def aXY : bC := lY (aHQ E)
theorem bDB : SQ bMJ aXY := mD bKX
def fs0 : List FD := [⟨6, D6, S6⟩, ⟨8, D8, S8⟩, ⟨9, D9, S9⟩, ⟨10, D10, S10⟩, ⟨11, D11, S11⟩, ⟨12, D12, S12⟩, ⟨13, D13, S13⟩, ⟨14, D14, S14⟩, ⟨15, D15, S15⟩, ⟨17, D17, S17⟩, ⟨18, D18, S18⟩, ⟨19, D19, S19⟩, ⟨20, D20, S20⟩, ⟨21, D21, S21⟩, ⟨22, D22, S22⟩, ⟨23, D23, S23⟩, ⟨25, D25, S25⟩, ⟨26, D26, S26⟩, ⟨27, D27, S27⟩, ⟨28, D28, S28⟩, ⟨29, D29, S29⟩, ⟨30, D30, S30⟩, ⟨31, D31, S31⟩, ⟨33, D33, S33⟩, ⟨34, D34, S34⟩, ⟨35, D35, S35⟩, ⟨36, D36, S36⟩, ⟨37, D37, S37⟩, ⟨39, D39, S39⟩, ⟨40, D40, S40⟩, ⟨41, D41, S41⟩, ⟨42, D42, S42⟩, ⟨43, D43, S43⟩, ⟨44, D44, S44⟩, ⟨45, D45, S45⟩, ⟨46, D46, S46⟩, ⟨47, D47, S47⟩, ⟨48, D48, S48⟩, ⟨49, D49, S49⟩, ⟨50, D50, S50⟩, ⟨51, D51, S51⟩, ⟨52, D52, S52⟩, ⟨53, D53, S53⟩, ⟨54, D54, S54⟩, ⟨55, D55, S55⟩, ⟨56, D56, S56⟩, ⟨57, D57, S57⟩, ⟨58, D58, S58⟩, ⟨59, D59, S59⟩, ⟨60, D60, S60⟩, ⟨61, D61, S61⟩, ⟨62, D62, S62⟩, ⟨63, D63, S63⟩, ⟨65, D65, S65⟩, ⟨66, D66, S66⟩, ⟨67, D67, S67⟩, ⟨68, D68, S68⟩, ⟨69, D69, S69⟩, ⟨70, D70, S70⟩, ⟨71, D71, S71⟩, ⟨72, D72, S72⟩, ⟨73, D73, S73⟩, ⟨74, D74, S74⟩, ⟨75, D75, S75⟩, ⟨76, D76, S76⟩, ⟨77, D77, S77⟩, ⟨78, D78, S78⟩, ⟨79, D79, S79⟩, ⟨80, D80, S80⟩, ⟨81, D81, S81⟩, ⟨82, D82, S82⟩, ⟨83, D83, S83⟩, ⟨84, D84, S84⟩, ⟨85, D85, S85⟩, ⟨86, D86, S86⟩, ⟨87, D87, S87⟩, ⟨88, D88, S88⟩, ⟨89, D89, S89⟩, ⟨90, D90, S90⟩, ⟨91, D91, S91⟩, ⟨92, D92, S92⟩, ⟨93, D93, S93⟩, ⟨94, D94, S94⟩, ⟨95, D95, S95⟩, ⟨96, D96, S96⟩, ⟨97, D97, S97⟩, ⟨100, bAu, aYo⟩, ⟨101, bMP, bJm⟩, ⟨102, bAt, aYn⟩, ⟨103, aIu, aYm⟩, ⟨104, bAs, aYl⟩, ⟨105, aIt, aYk⟩, ⟨106, aIs, aEi⟩, ⟨107, bMO, aEh⟩, ⟨108, bMN, aMW⟩, ⟨109, bMM, aTv⟩, ⟨110, bML, aTu⟩, ⟨111, aNO, aKH⟩, ⟨112, bMK, aTt⟩, ⟨113, aIr, aYj⟩, ⟨114, bAr, aKG⟩, ⟨115, bAq, aMV⟩, ⟨116, aIq, aMU⟩, ⟨117, bAp, aMT⟩, ⟨118, bAo, aMS⟩, ⟨119, aIp, aYi⟩, ⟨120, aNN, aYh⟩, ⟨121, bAn, aYg⟩, ⟨122, bAm, aYf⟩, ⟨123, bAl, aYe⟩, ⟨124, bAk, aYd⟩, ⟨125, bAj, aYc⟩, ⟨126, aNM, aMR⟩, ⟨129, aNL, aYb⟩, ⟨130, aIo, aYa⟩, ⟨131, bAi, aXZ⟩, ⟨135, bMJ, aXY⟩]
theorem bHq : rR fs0 := ⟨bRs, ⟨bRg, ⟨bRa, ⟨bJl, ⟨bJj, ⟨bJi, ⟨bJh, ⟨bJf, ⟨bJe, ⟨bJd, ⟨bJc, ⟨bJb, ⟨bJa, ⟨bIZ, ⟨bIY, ⟨bIX, ⟨bIW, ⟨aXv, ⟨aXu, ⟨bIV, ⟨aXt, ⟨bIU, ⟨bIT, ⟨bIS, ⟨bIR, ⟨bIQ, ⟨bIP, ⟨bIO, ⟨bIN, ⟨bIM, ⟨aXr, ⟨aXq, ⟨bIL, ⟨bIK, ⟨bIJ, ⟨bII, ⟨aXp, ⟨aXo, ⟨aXn, ⟨aXm, ⟨aXl, ⟨aXk, ⟨aXj, ⟨aXi, ⟨aXh, ⟨bIG, ⟨bIF, ⟨bIE, ⟨bID, ⟨bIC, ⟨bIB, ⟨aXg, ⟨bIA, ⟨aXf, ⟨bIz, ⟨bIy, ⟨bIx, ⟨aXe, ⟨aXd, ⟨aXc, ⟨aXb, ⟨bIw, ⟨bIv, ⟨bIu, ⟨aXa, ⟨aWZ, ⟨aWY, ⟨aWX, ⟨aWW, ⟨aWV, ⟨aWU, ⟨aWT, ⟨aWS, ⟨aWR, ⟨aWQ, ⟨aWP, ⟨aWO, ⟨aWN, ⟨aWM, ⟨bIm, ⟨bIl, ⟨aWL, ⟨bIk, ⟨bIj, ⟨bIi, ⟨bIh, ⟨aQF, ⟨bDI, ⟨aQE, ⟨aQD, ⟨aQC, ⟨aQB, ⟨aQA, ⟨bDH, ⟨bDG, ⟨bDF, ⟨bDE, ⟨bDD, ⟨bDC, ⟨aQz, ⟨aQy, ⟨aQx, ⟨aQw, ⟨aQv, ⟨aQu, ⟨aQt, ⟨aQs, ⟨aQr, ⟨aQq, ⟨aQp, ⟨aQo, ⟨aQn, ⟨aQm, ⟨aQl, ⟨aQk, ⟨aQj, ⟨bDB, trivial⟩⟩⟩⟩⟩⟩⟩⟩⟩⟩⟩⟩⟩⟩⟩⟩⟩⟩⟩⟩⟩⟩⟩⟩⟩⟩⟩⟩⟩⟩⟩⟩⟩⟩⟩⟩⟩⟩⟩⟩⟩⟩⟩⟩⟩⟩⟩⟩⟩⟩⟩⟩⟩⟩⟩⟩⟩⟩⟩⟩⟩⟩⟩⟩⟩⟩⟩⟩⟩⟩⟩⟩⟩⟩⟩⟩⟩⟩⟩⟩⟩⟩⟩⟩⟩⟩⟩⟩⟩⟩⟩⟩⟩⟩⟩⟩⟩⟩⟩⟩⟩⟩⟩⟩⟩⟩⟩⟩⟩⟩⟩⟩⟩⟩⟩⟩⟩
end Go.Proofs.YthpciaidbgjoeaaGreat
end

/- The functions of the program as D's and as plain Lean functions, and that both are the same. No condition. -/
import Derived.KernelRfl
import Derived.Test.YtmafhiogonejfaaGreatDoorDd
import Derived.Test.YtmafhiogonejfaaGreatDoorChecked
set_option linter.unusedVariables false
noncomputable section
namespace Go.Proofs.YtmafhiogonejfaaGreatDoor
open Go.DI
variable (E : bG)
def cm (f : Nat) : DF := cmF Tryz.prog f
attribute [irreducible] cm
def p0 : Pa := .h
def p1 : Pa := .l p0
def p2 : Pa := .r p0
def p3 : Pa := .l p1
def p4 : Pa := .r p1
def p5 : Pa := .l p2
def p6 : Pa := .r p2
def p7 : Pa := .l p3
def p8 : Pa := .r p3
def p9 : Pa := .l p4
def p10 : Pa := .r p4
def p11 : Pa := .l p5
def p12 : Pa := .r p5
def p13 : Pa := .l p6
def p14 : Pa := .r p6
def p15 : Pa := .l p7
def p16 : Pa := .r p7
def p17 : Pa := .l p8
def p18 : Pa := .r p8
def p19 : Pa := .l p9
def p20 : Pa := .r p9
def p21 : Pa := .l p10
def p22 : Pa := .r p10
def p23 : Pa := .l p11
def p24 : Pa := .r p11
def p25 : Pa := .l p12
def p26 : Pa := .r p12
def p27 : Pa := .l p13
def p28 : Pa := .r p13
def p29 : Pa := .l p14
def p30 : Pa := .r p14
def p31 : Pa := .l p15
def p32 : Pa := .r p15
def p33 : Pa := .l p16
def p34 : Pa := .r p16
def p35 : Pa := .l p17
def p36 : Pa := .r p17
def p37 : Pa := .l p18
def p38 : Pa := .r p18
def p39 : Pa := .l p19
def p40 : Pa := .r p19
def p41 : Pa := .l p20
def p42 : Pa := .r p20
def p43 : Pa := .l p21
def p44 : Pa := .r p21
def p45 : Pa := .l p22
def p46 : Pa := .r p22
def p47 : Pa := .l p23
def p48 : Pa := .r p23
def p49 : Pa := .l p24
def p50 : Pa := .r p24
def p51 : Pa := .l p25
def p52 : Pa := .r p25
def p53 : Pa := .l p26
def p54 : Pa := .r p26
def p55 : Pa := .l p27
def p56 : Pa := .r p27
def p57 : Pa := .l p28
def p58 : Pa := .r p28
def p59 : Pa := .l p29
def p60 : Pa := .r p29
def p61 : Pa := .l p30
def p62 : Pa := .r p30
def p63 : Pa := .l p31
def p64 : Pa := .r p31
def p65 : Pa := .l p32
def p66 : Pa := .r p32
def p67 : Pa := .l p33
def p68 : Pa := .r p33
def p69 : Pa := .l p34
def p70 : Pa := .r p34
def p71 : Pa := .l p35
def p72 : Pa := .r p35
def p73 : Pa := .l p36
def p74 : Pa := .r p36
def p75 : Pa := .l p37
def p76 : Pa := .r p37
def p77 : Pa := .l p38
def p78 : Pa := .r p38
def p79 : Pa := .l p39
def p80 : Pa := .r p39
def p81 : Pa := .l p40
def p82 : Pa := .r p40
def p83 : Pa := .l p41
def p84 : Pa := .r p41
def p85 : Pa := .l p42
def p86 : Pa := .r p42
def p87 : Pa := .l p43
def p88 : Pa := .r p43
def p89 : Pa := .l p44
def p90 : Pa := .r p44
def p91 : Pa := .l p45
def p92 : Pa := .r p45
def p93 : Pa := .l p46
def p94 : Pa := .r p46
def p95 : Pa := .l p47
def p96 : Pa := .r p47
def p97 : Pa := .l p48
def p98 : Pa := .r p48
def p99 : Pa := .l p49
def p100 : Pa := .r p49
def p101 : Pa := .l p50
def p102 : Pa := .r p50
def p103 : Pa := .l p51
def p104 : Pa := .r p51
def p105 : Pa := .l p52
def p106 : Pa := .r p52
def p107 : Pa := .l p53
def p108 : Pa := .r p53
def p109 : Pa := .l p54
def p110 : Pa := .r p54
def p111 : Pa := .l p55
def p112 : Pa := .r p55
def p113 : Pa := .l p56
def p114 : Pa := .r p56
def p115 : Pa := .l p57
def p116 : Pa := .r p57
def p117 : Pa := .l p58
def p118 : Pa := .r p58
def p119 : Pa := .l p59
def p120 : Pa := .r p59
def p121 : Pa := .l p60
def p122 : Pa := .r p60
def p123 : Pa := .l p61
def p124 : Pa := .r p61
def p125 : Pa := .l p62
def p126 : Pa := .r p62
def p127 : Pa := .l p63
def p128 : Pa := .r p63
def p129 : Pa := .l p64
def p130 : Pa := .r p64
def p131 : Pa := .l p65
def p132 : Pa := .r p65
def p133 : Pa := .l p66
def p134 : Pa := .r p66
def p135 : Pa := .l p67
def p136 : Pa := .r p67
def p137 : Pa := .l p68
def p138 : Pa := .r p68
def p139 : Pa := .l p69
def p140 : Pa := .r p69
def p141 : Pa := .l p70
def p142 : Pa := .r p70
def D6 := cm 6
def C6_1 := cr (cr (cr (cr D6.body)))
def C6_2 := cl (cr (cl (cr (cr (cr D6.body)))))
def bCm (r3 r4 : DV) (h : H) : aV := vK (aJ 2 h.get r4) λ x1 => wK (aE E 24 [r3] h) λ x2 h3 => rK (tY (aJ 2 h3.get r4) x1) <| wK (aE E 25 [x1] h3) λ x4 h5 => vK (bZ x2 x4) λ x6 => bT x6 true (λ kk => wK (aE E 12 [] h5) kk) h5 λ x7 h8 => vK (bF x6 x7 (.bool false)) λ x9 => some (x9, h8)
def aZe (r0 r3 r4 : DV) (i2 : DV → H → aV) (r5 : DV) (h : H) : aV := vK (bX r0) λ x1 => vK (cW r5 x1) λ x2 => bK x2 (vK (aJ 2 h.get r4) λ x3 => vK (cC 6 r0 r5) λ x4 => vK (aJ 6 h.get x4) λ x5 => dN 2 2 (.list [.nils, (ii 0)]) h λ x6 h7 => wK (aE E 23 [x3, x5] h7) λ x8 h9 => vK (aG 0 x8) λ x10 => vK (aG 1 x8) λ x11 => vK (aG 2 x8) λ x12 => wK (bS 2 x6 x10 h9) λ x13 h14 => vK (aJ 2 h14.get x6) λ x15 => wK (bS 2 r4 x15 h14) λ x16 h17 => vK (cC 6 r0 r5) λ x18 => vK (aJ 6 h17.get x18) λ x19 => wK (aE E 19 [r3, x19] h17) λ x20 h21 => vK (aG 0 x20) λ x22 => vK (aG 1 x20) λ x23 => vK (dB x22 x11) λ x24 => bT x24 false (λ kk => kk x23 h21) h21 λ x25 h26 => bT x24 false (λ kk => kk x12 h26) h26 λ x27 h28 => bT x24 false (λ kk => vK (dB x25 x27) λ v => kk v h28) h28 λ x29 h30 => vK (bF x24 (.bool true) x29) λ x31 => bK x31 (some ((.bool false), h30)) (vK (bJ r5 (ii 1)) λ x32 => i2 x32 h30)) (bCm E r3 r4 h)
def aUz (r0 r3 r4 : DV) (n : Nat) : DV → H → aV := Nat.rec (motive := λ _ => DV → H → aV) (λ _ _ => none) (λ _ i => aZe E r0 r3 r4 i) n
def bCn (r0 : DV) (h : H) : aV := wK (aE E 20 [r0] h) λ x1 h2 => vK (bZ x1 (ii 0)) λ x3 => bK x3 (wK (aE E 12 [] h2) λ x4 h5 => some (x4, h5)) (wK (aE E 21 [] h2) λ x6 h7 => wK (aE E 22 [] h7) λ x8 h9 => dN 2 2 (.list [.nils, (ii 0)]) h9 λ x10 h11 => wK (bS 2 x10 x8 h11) λ x12 h13 => aUz E r0 x6 x10 aT (ii 0) h13)
theorem I6_1 : Is E C6_1 (bU D6.res) (λ σ h => bCm E (σ p3) (σ p4) h) := Is.rf
abbrev K6_3 : iF (DV × H) := (cP (λ σ h => bCm E (σ p3) (σ p4) h) (bU D6.res))
theorem I6_2 : Is E C6_2 (bV 0 (K6_3 E)) (λ σ h => aUz E (σ p0) (σ p3) (σ p4) aT (σ p5) h) := Is.lp (λ n2 σ h => aUz E (σ p0) (σ p3) (σ p4) n2 (σ p5) h) λ n2 => Is.aq (Is.leaf _)
theorem I6_0 : nT E D6 (bCn E) := Is.aq (Is.sq (Is.sq (Is.sq (Is.sq (I6_1 E) (Is.sq (Is.bk (I6_2 E)) (Is.leaf _))) (Is.leaf _)) (Is.leaf _)) (Is.leaf _))
def S6 : cB := nO (bCn E)
theorem bPv : SQ D6 S6 := nX I6_0
def D12 := cm 12
def bDA (h : H) : aV := vK (dL [(ii 0), (ii 0), (ii 0), (.str []), (.str []), (.str [])] [(0, 1, (ii 1)), (3, 1, (.str [47, 97]))]) λ x1 => dN 6 6 (.list [(ii 0), (ii 0), (ii 0), (.str []), (.str []), (.str [])]) h λ x2 h3 => wK (bS 6 x2 x1 h3) λ x4 h5 => vK (aJ 6 h5.get x2) λ x6 => vK (aJ 6 h5.get x2) λ x7 => fT 2 6 [(ii 0), (ii 0), (ii 0), (.str []), (.str []), (.str [])] [(0, 6, x6), (6, 6, x7)] h5 λ x8 h9 => wK (aE E 26 [x8] h9) λ x10 h11 => vK (aG 0 x10) λ x12 => vK (aG 1 x10) λ x13 => vK (aJ 6 h11.get x2) λ x14 => wK (aE E 13 [x14] h11) λ x15 h16 => vK (aG 0 x15) λ x17 => vK (aG 1 x15) λ x18 => wK (aE E 15 [x17] h16) λ x19 h20 => vK (aG 0 x19) λ x21 => vK (aG 1 x19) λ x22 => dN 6 6 (.list [(ii 0), (ii 0), (ii 0), (.str []), (.str []), (.str [])]) h20 λ x23 h24 => wK (bS 6 x23 x21 h24) λ x25 h26 => vK (dL [(ii 0), (ii 0), (ii 0), (.str []), (.str []), (.str [])] [(0, 1, (ii 11)), (3, 1, (.str [47]))]) λ x27 => wK (aE E 19 [x12, x27] h26) λ x28 h29 => vK (aG 0 x28) λ x30 => vK (aG 1 x28) λ x31 => vK (dL [(ii 0), (ii 0), (ii 0), (.str []), (.str []), (.str [])] []) λ x32 => wK (aE E 19 [x12, x32] h29) λ x33 h34 => vK (aG 0 x33) λ x35 => vK (aG 1 x33) λ x36 => vK (bX x13) λ x37 => vK (bZ x37 (ii 2)) λ x38 => bT x38 true (λ kk => kk x13 h34) h34 λ x39 h40 => bT x38 true (λ kk => vK (cC 1 x39 (ii 0)) λ v => kk v h40) h40 λ x41 h42 => bT x38 true (λ kk => vK (aF h42.get x41) λ v => kk v h42) h42 λ x43 h44 => bT x38 true (λ kk => vK (bZ x43 (ii 0)) λ v => kk v h44) h44 λ x45 h46 => vK (bF x38 x45 (.bool false)) λ x47 => bT x47 true (λ kk => kk x13 h46) h46 λ x48 h49 => bT x47 true (λ kk => vK (cC 1 x48 (ii 1)) λ v => kk v h49) h49 λ x50 h51 => bT x47 true (λ kk => vK (aF h51.get x50) λ v => kk v h51) h51 λ x52 h53 => bT x47 true (λ kk => vK (bZ x52 (ii 6)) λ v => kk v h53) h53 λ x54 h55 => vK (bF x47 x54 (.bool false)) λ x56 => bT x56 true (λ kk => kk x18 h55) h55 λ x57 h58 => bT x56 true (λ kk => vK (bZ x57 (ii 0)) λ v => kk v h58) h58 λ x59 h60 => vK (bF x56 x59 (.bool false)) λ x61 => bT x61 true (λ kk => vK (aJ 6 h60.get x23) λ v => kk v h60) h60 λ x62 h63 => bT x61 true (λ kk => vK (aJ 6 h63.get x2) λ v => kk v h63) h63 λ x64 h65 => bT x61 true (λ kk => vK (aDy false (.leaf .int 0 (.leaf .int 1 (.leaf .int 2 (.leaf .str 3 (.leaf .str 4 (.leaf .str 5 .nil)))))) h65.get x62 x64) λ v => kk v h65) h65 λ x66 h67 => vK (bF x61 x66 (.bool false)) λ x68 => bT x68 true (λ kk => kk x22 h67) h67 λ x69 h70 => bT x68 true (λ kk => vK (bZ x69 (ii 0)) λ v => kk v h70) h70 λ x71 h72 => vK (bF x68 x71 (.bool false)) λ x73 => bT x73 true (λ kk => kk x30 h72) h72 λ x74 h75 => bT x73 true (λ kk => vK (bZ x74 (ii 0)) λ v => kk v h75) h75 λ x76 h77 => vK (bF x73 x76 (.bool false)) λ x78 => bT x78 true (λ kk => kk x31 h77) h77 λ x79 h80 => bT x78 true (λ kk => vK (bZ x79 (.str [2, 2, 97])) λ v => kk v h80) h80 λ x81 h82 => vK (bF x78 x81 (.bool false)) λ x83 => bT x83 true (λ kk => kk x35 h82) h82 λ x84 h85 => bT x83 true (λ kk => vK (bZ x84 (ii 1)) λ v => kk v h85) h85 λ x86 h87 => vK (bF x83 x86 (.bool false)) λ x88 => bT x88 true (λ kk => vK (aJ 6 h87.get x2) λ v => kk v h87) h87 λ x89 h90 => bT x88 true (λ kk => wK (aE E 17 [x89] h90) kk) h90 λ x91 h92 => bT x88 true (λ kk => vK (bZ x91 (ii 0)) λ v => kk v h92) h92 λ x93 h94 => vK (bF x88 x93 (.bool false)) λ x95 => some (x95, h94)
theorem bSj : iB0 E D12 (bDA E) := Is.rf
def S12 : cB := fA0 (bDA E)
theorem bGq : SQ D12 S12 := eB0 bSj
def D13 := cm 13
def bDz (r0 : DV) (h : H) : aV := dP r0 h λ x1 h2 => vK (aJ 6 h2.get x1) λ x3 => wK (aE E 17 [x3] h2) λ x4 h5 => vK (dB x4 (ii 0)) λ x6 => bK x6 (some ((.tup [(.str []), x4]), h5)) (wK (aE E 48 [(ii 65536)] h5) λ x7 h8 => vK (aH 0 x1) λ x9 => vK (aF h8.get x9) λ x10 => wK (aE E 49 [x7, x10] h8) λ x11 h12 => vK (aH 1 x1) λ x13 => vK (aF h12.get x13) λ x14 => wK (aE E 50 [x7, x14] h12) λ x15 h16 => vK (aH 2 x1) λ x17 => vK (aF h16.get x17) λ x18 => wK (aE E 50 [x7, x18] h16) λ x19 h20 => vK (aH 3 x1) λ x21 => vK (aF h20.get x21) λ x22 => wK (aE E 51 [x7, x22] h20) λ x23 h24 => vK (aH 4 x1) λ x25 => vK (aF h24.get x25) λ x26 => wK (aE E 51 [x7, x26] h24) λ x27 h28 => vK (aH 5 x1) λ x29 => vK (aF h28.get x29) λ x30 => wK (aE E 51 [x7, x30] h28) λ x31 h32 => wK (aE E 52 [x7] h32) λ x33 h34 => vK (aG 0 x33) λ x35 => vK (aG 1 x33) λ x36 => some ((.tup [x35, x36]), h34))
theorem bSi : nT E D13 (bDz E) := Is.rf
def S13 : cB := nO (bDz E)
theorem bGp : SQ D13 S13 := nX bSi
def D15 := cm 15
def bDy (r0 : DV) (h : H) : aV := dN 6 6 (.list [(ii 0), (ii 0), (ii 0), (.str []), (.str []), (.str [])]) h λ x1 h2 => wK (aE E 55 [r0] h2) λ x3 h4 => wK (aE E 56 [x3] h4) λ x5 h6 => wK (aE E 57 [x3] h6) λ x7 h8 => wK (aE E 57 [x3] h8) λ x9 h10 => wK (aE E 58 [x3] h10) λ x11 h12 => wK (aE E 58 [x3] h12) λ x13 h14 => wK (aE E 58 [x3] h14) λ x15 h16 => vK (dL [(ii 0), (ii 0), (ii 0), (.str []), (.str []), (.str [])] [(0, 1, x5), (1, 1, x7), (2, 1, x9), (3, 1, x11), (4, 1, x13), (5, 1, x15)]) λ x17 => dN 6 6 (.list [(ii 0), (ii 0), (ii 0), (.str []), (.str []), (.str [])]) h16 λ x18 h19 => wK (bS 6 x18 x17 h19) λ x20 h21 => wK (aE E 59 [x3] h21) λ x22 h23 => vK (dB x22 (ii 0)) λ x24 => bT x24 false (λ kk => vK (aJ 6 h23.get x18) λ v => kk v h23) h23 λ x25 h26 => bT x24 false (λ kk => wK (aE E 17 [x25] h26) kk) h26 λ x27 h28 => bT x24 false (λ kk => vK (dB x27 (ii 0)) λ v => kk v h28) h28 λ x29 h30 => vK (bF x24 (.bool true) x29) λ x31 => bK x31 (vK (dL [(ii 0), (ii 0), (ii 0), (.str []), (.str []), (.str [])] []) λ x32 => wK (bS 6 x1 x32 h30) λ x33 h34 => vK (aJ 6 h34.get x1) λ x35 => some ((.tup [x35, (ii 3)]), h34)) (vK (aJ 6 h30.get x18) λ x36 => wK (bS 6 x1 x36 h30) λ x37 h38 => vK (aJ 6 h38.get x1) λ x39 => some ((.tup [x39, (ii 0)]), h38))
theorem bSh : nT E D15 (bDy E) := Is.rf
def S15 : cB := nO (bDy E)
theorem bGo : SQ D15 S15 := nX bSh
def D17 := cm 17
def aSV (E : bG) (r0 : DV) (h : H) : aV := dP r0 h λ x1 h2 => vK (aH 0 x1) λ x3 => vK (aF h2.get x3) λ x4 => vK (cW x4 (ii 1)) λ x5 => bT x5 false (λ kk => vK (aH 0 x1) λ v => kk v h2) h2 λ x6 h7 => bT x5 false (λ kk => vK (aF h7.get x6) λ v => kk v h7) h7 λ x8 h9 => bT x5 false (λ kk => vK (eF x8 (ii 11)) λ v => kk v h9) h9 λ x10 h11 => vK (bF x5 (.bool true) x10) λ x12 => bK x12 (some ((ii 1), h11)) (vK (aH 3 x1) λ x13 => vK (aF h11.get x13) λ x14 => vK (cA x14) λ x15 => vK (eF x15 (ii 255)) λ x16 => bT x16 false (λ kk => vK (aH 4 x1) λ v => kk v h11) h11 λ x17 h18 => bT x16 false (λ kk => vK (aF h18.get x17) λ v => kk v h18) h18 λ x19 h20 => bT x16 false (λ kk => vK (cA x19) λ v => kk v h20) h20 λ x21 h22 => bT x16 false (λ kk => vK (eF x21 (ii 255)) λ v => kk v h22) h22 λ x23 h24 => vK (bF x16 (.bool true) x23) λ x25 => bT x25 false (λ kk => vK (aH 5 x1) λ v => kk v h24) h24 λ x26 h27 => bT x25 false (λ kk => vK (aF h27.get x26) λ v => kk v h27) h27 λ x28 h29 => bT x25 false (λ kk => vK (cA x28) λ v => kk v h29) h29 λ x30 h31 => bT x25 false (λ kk => vK (eF x30 (ii 512)) λ v => kk v h31) h31 λ x32 h33 => vK (bF x25 (.bool true) x32) λ x34 => bK x34 (some ((ii 2), h33)) (some ((ii 0), h33)))
theorem bSg : nT E D17 (aSV E) := Is.rf
def S17 : cB := nO (aSV E)
theorem bGl : SQ D17 S17 := nX bSg
def D18 := cm 18
def bDx (E : bG) (r0 : DV) (h : H) : aV := dP r0 h λ x1 h2 => vK (aH 0 x1) λ x3 => vK (aF h2.get x3) λ x4 => vK (cW x4 (ii 1)) λ x5 => bT x5 false (λ kk => vK (aH 0 x1) λ v => kk v h2) h2 λ x6 h7 => bT x5 false (λ kk => vK (aF h7.get x6) λ v => kk v h7) h7 λ x8 h9 => bT x5 false (λ kk => vK (eF x8 (ii 11)) λ v => kk v h9) h9 λ x10 h11 => vK (bF x5 (.bool true) x10) λ x12 => bK x12 (some ((ii 1), h11)) (vK (aH 3 x1) λ x13 => vK (aF h11.get x13) λ x14 => vK (cA x14) λ x15 => vK (eF x15 (ii 255)) λ x16 => bT x16 false (λ kk => vK (aH 4 x1) λ v => kk v h11) h11 λ x17 h18 => bT x16 false (λ kk => vK (aF h18.get x17) λ v => kk v h18) h18 λ x19 h20 => bT x16 false (λ kk => vK (cA x19) λ v => kk v h20) h20 λ x21 h22 => bT x16 false (λ kk => vK (eF x21 (ii 255)) λ v => kk v h22) h22 λ x23 h24 => vK (bF x16 (.bool true) x23) λ x25 => bT x25 false (λ kk => vK (aH 5 x1) λ v => kk v h24) h24 λ x26 h27 => bT x25 false (λ kk => vK (aF h27.get x26) λ v => kk v h27) h27 λ x28 h29 => bT x25 false (λ kk => vK (cA x28) λ v => kk v h29) h29 λ x30 h31 => bT x25 false (λ kk => vK (eF x30 (ii 512)) λ v => kk v h31) h31 λ x32 h33 => vK (bF x25 (.bool true) x32) λ x34 => bK x34 (some ((ii 2), h33)) (some ((ii 0), h33)))
theorem bSf : nT E D18 (bDx E) := Is.rf
def S18 : cB := nO (bDx E)
theorem bGi : SQ D18 S18 := nX bSf
def D19 := cm 19
def aSU (r0 r1 : DV) (h : H) : aV := dP r1 h λ x1 h2 => vK (eN .ptr false h2.get r0 .nilp) λ x3 => bK x3 (some ((.tup [(ii 1), (.str [])]), h2)) (vK (aJ 6 h2.get x1) λ x4 => wK (aE E 17 [x4] h2) λ x5 h6 => vK (dB x5 (ii 0)) λ x7 => bK x7 (some ((.tup [x5, (.str [])]), h6)) (vK (aJ 6 h6.get x1) λ x8 => wK (aE E 64 [r0, x8] h6) λ x9 h10 => vK (mI 102 (.agg [.nilf, (.str [])]) true x9) λ x11 => vK (aG 1 x11) λ x12 => vK (aG 0 x11) λ x13 => bK x12 (dN 2 2 (.list [.nilf, (.str [])]) h10 λ x14 h15 => wK (bS 2 x14 x13 h15) λ x16 h17 => vK (aH 0 x14) λ x18 => vK (aF h17.get x18) λ x19 => vK (aH 1 x14) λ x20 => vK (aF h17.get x20) λ x21 => wK (kE E x19 [x21] h17) λ x22 h23 => some ((.tup [x22, (.str [])]), h23)) (vK (mI 104 (.agg [.nilf, (.str []), (.str [])]) true x9) λ x24 => vK (aG 1 x24) λ x25 => vK (aG 0 x24) λ x26 => bK x25 (dN 3 3 (.list [.nilf, (.str []), (.str [])]) h10 λ x27 h28 => wK (bS 3 x27 x26 h28) λ x29 h30 => vK (aH 0 x27) λ x31 => vK (aF h30.get x31) λ x32 => vK (aH 1 x27) λ x33 => vK (aF h30.get x33) λ x34 => vK (aH 2 x27) λ x35 => vK (aF h30.get x35) λ x36 => wK (kE E x32 [x34, x36] h30) λ x37 h38 => some ((.tup [x37, (.str [])]), h38)) (vK (mI 106 (.agg [.nilf]) true x9) λ x39 => vK (aG 1 x39) λ x40 => vK (aG 0 x39) λ x41 => bK x40 (dN 1 1 (.list [.nilf]) h10 λ x42 h43 => wK (bS 1 x42 x41 h43) λ x44 h45 => vK (aH 0 x42) λ x46 => vK (aF h45.get x46) λ x47 => wK (kE E x47 [] h45) λ x48 h49 => some ((.tup [x48, (.str [])]), h49)) (vK (mI 109 (.agg [.nilf]) true x9) λ x50 => vK (aG 1 x50) λ x51 => vK (aG 0 x50) λ x52 => bK x51 (dN 1 1 (.list [.nilf]) h10 λ x53 h54 => wK (bS 1 x53 x52 h54) λ x55 h56 => vK (aH 0 x53) λ x57 => vK (aF h56.get x57) λ x58 => wK (kE E x58 [] h56) λ x59 h60 => vK (aG 0 x59) λ x61 => vK (aG 1 x59) λ x62 => some ((.tup [x61, x62]), h60)) (some ((.tup [(ii 1), (.str [])]), h10)))))))
theorem bSe : kV E D19 (aSU E) := Is.rf
def S19 : cB := kR (aSU E)
theorem bGd : SQ D19 S19 := kW bSe
def D20 := cm 20
def bTv := cr (cr (cr D20.body))
def bTu := cl (cr (cl (cr (cr D20.body))))
def aYw (E : bG) (h : H) : aV := some ((ii 1), h)
def aNn (r0 : DV) (i2 : DV → H → aV) (r3 : DV) (h : H) : aV := vK (bX r0) λ x1 => vK (cW r3 x1) λ x2 => bK x2 (vK (cC 6 r0 r3) λ x3 => vK (aH 3 x3) λ x4 => vK (aF h.get x4) λ x5 => vK (cA x5) λ x6 => vK (eF x6 (ii 600)) λ x7 => bT x7 false (λ kk => kk r0 h) h λ x8 h9 => bT x7 false (λ kk => kk r3 h9) h9 λ x10 h11 => bT x7 false (λ kk => vK (cC 6 x8 x10) λ v => kk v h11) h11 λ x12 h13 => bT x7 false (λ kk => vK (aH 4 x12) λ v => kk v h13) h13 λ x14 h15 => bT x7 false (λ kk => vK (aF h15.get x14) λ v => kk v h15) h15 λ x16 h17 => bT x7 false (λ kk => vK (cA x16) λ v => kk v h17) h17 λ x18 h19 => bT x7 false (λ kk => vK (eF x18 (ii 600)) λ v => kk v h19) h19 λ x20 h21 => vK (bF x7 (.bool true) x20) λ x22 => bT x22 false (λ kk => kk r0 h21) h21 λ x23 h24 => bT x22 false (λ kk => kk r3 h24) h24 λ x25 h26 => bT x22 false (λ kk => vK (cC 6 x23 x25) λ v => kk v h26) h26 λ x27 h28 => bT x22 false (λ kk => vK (aH 5 x27) λ v => kk v h28) h28 λ x29 h30 => bT x22 false (λ kk => vK (aF h30.get x29) λ v => kk v h30) h30 λ x31 h32 => bT x22 false (λ kk => vK (cA x31) λ v => kk v h32) h32 λ x33 h34 => bT x22 false (λ kk => vK (eF x33 (ii 20000)) λ v => kk v h34) h34 λ x35 h36 => vK (bF x22 (.bool true) x35) λ x37 => bK x37 (some ((ii 0), h36)) (vK (bJ r3 (ii 1)) λ x38 => i2 x38 h36)) (aYw E h)
def aHy (r0 : DV) (n : Nat) : DV → H → aV := Nat.rec (motive := λ _ => DV → H → aV) (λ _ _ => none) (λ _ i => aNn E r0 i) n
def aST (r0 : DV) (h : H) : aV := vK (bX r0) λ x1 => vK (eF x1 (ii 60)) λ x2 => bK x2 (some ((ii 0), h)) (aHy E r0 aT (ii 0) h)
theorem bSc : Is E bTv (bU D20.res) (λ σ h => aYw E h) := Is.rf
abbrev bQl : iF (DV × H) := (bV 0 (cP (λ σ h => aYw E h) (bU D20.res)))
theorem bSb : Is E bTu (bQl E) (λ σ h => aHy E (σ p0) aT (σ p3) h) := Is.lp (λ n2 σ h => aHy E (σ p0) n2 (σ p3) h) λ n2 => Is.aq (Is.leaf _)
theorem bSd : nT E D20 (aST E) := Is.aq (Is.sq (Is.sq (Is.sq (bSc E) (Is.sq (Is.bk (bSb E)) (Is.leaf _))) (Is.leaf _)) (Is.leaf _))
def S20 : cB := nO (aST E)
theorem bGa : SQ D20 S20 := nX bSd
def D21 := cm 21
def bDw (h : H) : aV := vK (dL (zR [(ii 0), .nili] 256 ++ [(ii 0), (ii 0)]) []) λ x1 => dP x1 h λ x2 h3 => vK (aW x2) λ x4 => vK (aH 0 x4) λ x5 => wK (aE E 65 [] h3) λ x6 h7 => vK (dL [.nilp] [(0, 1, x6)]) λ x8 => vK (nZ 256 2 x5 (ii 1)) λ x9 => vK (aH 1 x9) λ x10 => wK (bS 1 x10 (.ifc 120 x8) h7) λ x11 h12 => some (x2, h12)
theorem bSa : iB0 E D21 (bDw E) := Is.rf
def S21 : cB := fA0 (bDw E)
theorem bFZ : SQ D21 S21 := eB0 bSa
def D22 := cm 22
def aSS (E : bG) (h : H) : aV := dN 2 2 (.list [.nils, (ii 0)]) h λ x1 h2 => vK (dL [(ii 0), (ii 0), (ii 0), (.str []), .nils] [(0, 1, (ii 1)), (2, 1, (ii 2))]) λ x3 => fT 1 5 [(ii 0), (ii 0), (ii 0), (.str []), .nils] [(0, 5, x3)] h2 λ x4 h5 => vK (dL [.nils, (ii 0)] [(0, 1, x4)]) λ x6 => wK (bS 2 x1 x6 h5) λ x7 h8 => vK (aJ 2 h8.get x1) λ x9 => some (x9, h8)
theorem bRZ : iB0 E D22 (aSS E) := Is.rf
def S22 : cB := fA0 (aSS E)
theorem bFY : SQ D22 S22 := eB0 bRZ
def D23 := cm 23
def bTt := cr (cr (cr (cr D23.body)))
def vU (E : bG) (r4 r8 r9 : DV) (h : H) : aV := vK (aJ 2 h.get r8) λ x1 => wK (bS 2 r4 x1 h) λ x2 h3 => vK (aJ 2 h3.get r4) λ x4 => some ((.tup [x4, r9, (.str [])]), h3)
def aSR (r0 r1 : DV) (h : H) : aV := dP r0 h λ x1 h2 => dP r1 h2 λ x3 h4 => dN 2 2 (.list [.nils, (ii 0)]) h4 λ x5 h6 => vK (aJ 6 h6.get x3) λ x7 => wK (aE E 18 [x7] h6) λ x8 h9 => vK (dB x8 (ii 0)) λ x10 => bK x10 (vK (aJ 2 h9.get x1) λ x11 => wK (bS 2 x5 x11 h9) λ x12 h13 => vK (aJ 2 h13.get x5) λ x14 => some ((.tup [x14, x8, (.str [])]), h13)) (vK (aJ 2 h9.get x1) λ x15 => dN 2 2 (.list [.nils, (ii 0)]) h9 λ x16 h17 => wK (bS 2 x16 x15 h17) λ x18 h19 => vK (aH 0 x3) λ x20 => vK (aF h19.get x20) λ x21 => vK (bZ x21 (ii 1)) λ x22 => bK x22 (vK (aJ 2 h19.get x1) λ x23 => vK (aH 3 x3) λ x24 => vK (aF h19.get x24) λ x25 => wK (aE E 66 [x23, x25, (ii 2)] h19) λ x26 h27 => vK (aG 0 x26) λ x28 => vK (aG 1 x26) λ x29 => wK (bS 2 x16 x28 h27) λ x30 h31 => vU E x5 x16 x29 h31) (vK (bZ x21 (ii 2)) λ x32 => bK x32 (vK (aJ 2 h19.get x1) λ x33 => vK (aH 3 x3) λ x34 => vK (aF h19.get x34) λ x35 => wK (aE E 66 [x33, x35, (ii 1)] h19) λ x36 h37 => vK (aG 0 x36) λ x38 => vK (aG 1 x36) λ x39 => wK (bS 2 x16 x38 h37) λ x40 h41 => vU E x5 x16 x39 h41) (vK (bZ x21 (ii 3)) λ x42 => bK x42 (vK (aJ 2 h19.get x1) λ x43 => vK (aH 3 x3) λ x44 => vK (aF h19.get x44) λ x45 => wK (aE E 67 [x43, x45] h19) λ x46 h47 => vK (aG 0 x46) λ x48 => vK (aG 1 x46) λ x49 => wK (bS 2 x16 x48 h47) λ x50 h51 => vU E x5 x16 x49 h51) (vK (bZ x21 (ii 4)) λ x52 => bK x52 (vK (aJ 2 h19.get x1) λ x53 => vK (aH 3 x3) λ x54 => vK (aF h19.get x54) λ x55 => wK (aE E 68 [x53, x55] h19) λ x56 h57 => vK (aG 0 x56) λ x58 => vK (aG 1 x56) λ x59 => wK (bS 2 x16 x58 h57) λ x60 h61 => vU E x5 x16 x59 h61) (vK (bZ x21 (ii 5)) λ x62 => bK x62 (vK (aJ 2 h19.get x1) λ x63 => vK (aH 3 x3) λ x64 => vK (aF h19.get x64) λ x65 => vK (aH 4 x3) λ x66 => vK (aF h19.get x66) λ x67 => wK (aE E 69 [x63, x65, x67] h19) λ x68 h69 => vK (aG 0 x68) λ x70 => vK (aG 1 x68) λ x71 => wK (bS 2 x16 x70 h69) λ x72 h73 => vU E x5 x16 x71 h73) (vK (bZ x21 (ii 6)) λ x74 => bK x74 (vK (aJ 2 h19.get x1) λ x75 => vK (aH 3 x3) λ x76 => vK (aF h19.get x76) λ x77 => vK (aH 4 x3) λ x78 => vK (aF h19.get x78) λ x79 => wK (aE E 70 [x75, x77, x79] h19) λ x80 h81 => vK (aG 0 x80) λ x82 => vK (aG 1 x80) λ x83 => wK (bS 2 x16 x82 h81) λ x84 h85 => vU E x5 x16 x83 h85) (vK (bZ x21 (ii 7)) λ x86 => bK x86 (vK (aJ 2 h19.get x1) λ x87 => vK (aH 3 x3) λ x88 => vK (aF h19.get x88) λ x89 => vK (aH 1 x3) λ x90 => vK (aF h19.get x90) λ x91 => vK (aH 5 x3) λ x92 => vK (aF h19.get x92) λ x93 => wK (aE E 71 [x87, x89, x91, x93] h19) λ x94 h95 => vK (aG 0 x94) λ x96 => vK (aG 1 x94) λ x97 => wK (bS 2 x16 x96 h95) λ x98 h99 => vU E x5 x16 x97 h99) (vK (bZ x21 (ii 8)) λ x100 => bK x100 (vK (aJ 2 h19.get x1) λ x101 => vK (aH 3 x3) λ x102 => vK (aF h19.get x102) λ x103 => vK (aH 2 x3) λ x104 => vK (aF h19.get x104) λ x105 => wK (aE E 72 [x101, x103, x105] h19) λ x106 h107 => vK (aG 0 x106) λ x108 => vK (aG 1 x106) λ x109 => wK (bS 2 x16 x108 h107) λ x110 h111 => vU E x5 x16 x109 h111) (vK (aJ 2 h19.get x1) λ x112 => vK (aJ 6 h19.get x3) λ x113 => wK (aE E 73 [x112, x113] h19) λ x114 h115 => vK (aG 0 x114) λ x116 => vK (aG 1 x114) λ x117 => vK (aJ 2 h115.get x1) λ x118 => wK (bS 2 x5 x118 h115) λ x119 h120 => vK (aJ 2 h120.get x5) λ x121 => some ((.tup [x121, x116, x117]), h120))))))))))
theorem bRX : Is E bTt (bU D23.res) (λ σ h => vU E (σ p4) (σ p8) (σ p9) h) := Is.rf
theorem bRY : kV E D23 (aSR E) := Is.aq (Is.sq (Is.sq (Is.sq (Is.sq (bRX E) (Is.leaf _)) (Is.leaf _)) (Is.leaf _)) (Is.leaf _))
def S23 : cB := kR (aSR E)
theorem bFX : SQ D23 S23 := kW bRY
def D24 := cm 24
def aZa := cr (cr (cr (cr (cr (cr D24.body)))))
def bTr := cr (cr aZa)
def bDD := cl (cr (cl (cr aZa)))
def bTq := cr (cr (cr (cl bDD)))
def bDE := cl (cr (cl (cr (cr (cr (cr (cr D24.body)))))))
def bTs := cr (cr (cr (cl bDE)))
def aSP (E : bG) (r3 : DV) (h : H) : aV := vK (aF h.get r3) λ x1 => vK (mJ h.get x1) λ x2 => some (x2, h)
def aMV (E : bG) (i5 : DV → H → aV) (r33 : DV) (h : H) : aV := vK (bJ r33 (ii 1)) λ x1 => i5 x1 h
def aNl (r3 r4 r32 : DV) (i5 : DV → H → aV) (r33 : DV) (h : H) : aV := vK (cW r33 (ii 256)) λ x1 => bK x1 (vK (aCm 256 2 true r32 r33) λ x2 => dN 1 1 (.list [(ii 0)]) h λ x3 h4 => dN 2 2 (.list [(ii 0), .nili]) h4 λ x5 h6 => wK (bS 1 x3 r33 h6) λ x7 h8 => wK (bS 2 x5 x2 h8) λ x9 h10 => vK (aH 1 x5) λ x11 => vK (aF h10.get x11) λ x12 => vK (eN .nilI false h10.get x12 .nili) λ x13 => bK x13 (aMV E i5 r33 h10) (wK (kE E r4 [(.fn (.func 76) [] [x3, x5])] h10) λ x14 h15 => aMV E i5 r33 h15)) (aSP E r3 h)
def aCN (r3 r4 r32 : DV) (n : Nat) : DV → H → aV := Nat.rec (motive := λ _ => DV → H → aV) (λ _ _ => none) (λ _ i => aNl E r3 r4 r32 i) n
def aMX (r1 r3 r4 r5 : DV) (h : H) : aV := wK (kE E r4 [(.fn (.func 75) [] [r1, r5])] h) λ x1 h2 => vK (aF h2.get r1) λ x3 => vK (aW x3) λ x4 => vK (aH 0 x4) λ x5 => vK (aJ 512 h2.get x5) λ x6 => aCN E r3 r4 x6 aT (ii 0) h2
def aMW (E : bG) (i2 : DV → H → aV) (r17 : DV) (h : H) : aV := vK (bJ r17 (ii 1)) λ x1 => i2 x1 h
def aNm (r1 r3 r4 r5 r16 : DV) (i2 : DV → H → aV) (r17 : DV) (h : H) : aV := vK (cW r17 (ii 256)) λ x1 => bK x1 (vK (aCm 256 2 true r16 r17) λ x2 => dN 2 2 (.list [(ii 0), .nili]) h λ x3 h4 => wK (bS 2 x3 x2 h4) λ x5 h6 => vK (aH 1 x3) λ x7 => vK (aF h6.get x7) λ x8 => vK (eN .nilI true h6.get x8 .nili) λ x9 => bK x9 (vK (aF h6.get r5) λ x10 => vK (bJ x10 (ii 1)) λ x11 => wK (bS 1 r5 x11 h6) λ x12 h13 => aMW E i2 r17 h13) (aMW E i2 r17 h6)) (aMX E r1 r3 r4 r5 h)
def aCO (r1 r3 r4 r5 r16 : DV) (n : Nat) : DV → H → aV := Nat.rec (motive := λ _ => DV → H → aV) (λ _ _ => none) (λ _ i => aNm E r1 r3 r4 r5 r16 i) n
def aSQ (r0 : DV) (h : H) : aV := dP r0 h λ x1 h2 => vK (aF h2.get x1) λ x3 => vK (eN .ptr false h2.get x3 .nilp) λ x4 => bK x4 (some ((.str []), h2)) (dN 1 1 (.list [.nils]) h2 λ x5 h6 => dN 1 1 (.list [(ii 0)]) h6 λ x7 h8 => wK (bS 1 x7 (ii 0) h8) λ x9 h10 => vK (aF h10.get x1) λ x11 => vK (aW x11) λ x12 => vK (aH 0 x12) λ x13 => vK (aJ 512 h10.get x13) λ x14 => aCO E x1 x5 (.fn (.func 74) [] [x5]) x7 x14 aT (ii 0) h10)
theorem bRS : Is E bTr (bU D24.res) (λ σ h => aSP E (σ p3) h) := Is.rf
abbrev bDp : iF (DV × H) := (cP (λ σ h => aSP E (σ p3) h) (bU D24.res))
abbrev bQk (n5 : Nat) : iF (DV × H) := (cP (λ σ h => (aCN E (σ p3) (σ p4) (σ p32) n5) (σ p33) h) (bV 2 (bDp E)))
theorem bRQ (n5 : Nat) : Is E bTq (bQk E n5) (λ σ h => aMV E (aCN E (σ p3) (σ p4) (σ p32) n5) (σ p33) h) := Is.rf
theorem bRR : Is E bDD (bV 2 (bDp E)) (λ σ h => aCN E (σ p3) (σ p4) (σ p32) aT (σ p33) h) := Is.lp (λ n5 σ h => aCN E (σ p3) (σ p4) (σ p32) n5 (σ p33) h) λ n5 => Is.aq (Is.sq (Is.sq (Is.sq (bRQ E n5) (Is.leaf _)) (Is.leaf _)) (Is.leaf _))
theorem bRV : Is E aZa (bU D24.res) (λ σ h => aMX E (σ p1) (σ p3) (σ p4) (σ p5) h) := Is.aq (Is.sq (Is.sq (bRS E) (Is.sq (Is.bk (bRR E)) (Is.leaf _))) (Is.leaf _))
abbrev bDo : iF (DV × H) := (cP (λ σ h => aMX E (σ p1) (σ p3) (σ p4) (σ p5) h) (bU D24.res))
abbrev bGv (n2 : Nat) : iF (DV × H) := (cP (λ σ h => (aCO E (σ p1) (σ p3) (σ p4) (σ p5) (σ p16) n2) (σ p17) h) (bV 0 (bDo E)))
theorem bRT (n2 : Nat) : Is E bTs (bGv E n2) (λ σ h => aMW E (aCO E (σ p1) (σ p3) (σ p4) (σ p5) (σ p16) n2) (σ p17) h) := Is.rf
theorem bRU : Is E bDE (bV 0 (bDo E)) (λ σ h => aCO E (σ p1) (σ p3) (σ p4) (σ p5) (σ p16) aT (σ p17) h) := Is.lp (λ n2 σ h => aCO E (σ p1) (σ p3) (σ p4) (σ p5) (σ p16) n2 (σ p17) h) λ n2 => Is.aq (Is.sq (Is.sq (Is.sq (bRT E n2) (Is.leaf _)) (Is.leaf _)) (Is.leaf _))
theorem bRW : nT E D24 (aSQ E) := Is.aq (Is.sq (Is.sq (Is.sq (Is.sq (Is.sq (Is.sq (bRV E) (Is.sq (Is.bk (bRU E)) (Is.leaf _))) (Is.leaf _)) (Is.leaf _)) (Is.leaf _)) (Is.leaf _)) (Is.leaf _))
def S24 : cB := nO (aSQ E)
theorem bFW : SQ D24 S24 := nX bRW
def D25 := cm 25
def bTp := cr (cr (cr D25.body))
def bDC := cl (cr (cl (cr (cr D25.body))))
def bTo := cr (cr (cl bDC))
def aYu (E : bG) (r3 : DV) (h : H) : aV := some (r3, h)
def aMU (E : bG) (i2 : DV → DV → H → aV) (r3 r4 : DV) (h : H) : aV := vK (bJ r4 (ii 1)) λ x1 => i2 r3 x1 h
def aNk (r1 : DV) (i2 : DV → DV → H → aV) (r3 r4 : DV) (h : H) : aV := vK (aH 0 r1) λ x1 => vK (aF h.get x1) λ x2 => vK (bX x2) λ x3 => vK (cW r4 x3) λ x4 => bK x4 (vK (aH 0 r1) λ x5 => vK (aF h.get x5) λ x6 => vK (cC 5 x6 r4) λ x7 => vK (aJ 5 h.get x7) λ x8 => dN 5 5 (.list [(ii 0), (ii 0), (ii 0), (.str []), .nils]) h λ x9 h10 => wK (bS 5 x9 x8 h10) λ x11 h12 => vK (aH 0 x9) λ x13 => vK (aF h12.get x13) λ x14 => vK (aH 1 x9) λ x15 => vK (aF h12.get x15) λ x16 => vK (aH 2 x9) λ x17 => vK (aF h12.get x17) λ x18 => vK (fG .u8 x18) λ x19 => fT 1 1 [(.int .u8 (.ofNat 0))] [(0, 1, x19)] h12 λ x20 h21 => vK (mJ h21.get x20) λ x22 => wK (aE E 53 [x14] h21) λ x23 h24 => rK (tY (mJ h24.get x20) x22) <| rK (tY (aF h24.get x17) x18) <| rK (tY (aF h24.get x15) x16) <| wK (aE E 53 [x16] h24) λ x25 h26 => rK (tY (mJ h26.get x20) x22) <| rK (tY (aF h26.get x17) x18) <| vK (bJ x23 x25) λ x27 => vK (bJ x27 x22) λ x28 => vK (bJ r3 x28) λ x29 => vK (aH 2 x9) λ x30 => vK (aF h26.get x30) λ x31 => vK (bZ x31 (ii 1)) λ x32 => bK x32 (vK (aH 3 x9) λ x33 => vK (aF h26.get x33) λ x34 => wK (aE E 54 [x34] h26) λ x35 h36 => vK (bJ x29 x35) λ x37 => aMU E i2 x37 r4 h36) (vK (aH 4 x9) λ x38 => vK (aF h26.get x38) λ x39 => wK (aE E 77 [x39] h26) λ x40 h41 => wK (aE E 54 [x40] h41) λ x42 h43 => vK (bJ x29 x42) λ x44 => aMU E i2 x44 r4 h43)) (aYu E r3 h)
def aAM (r1 : DV) (n : Nat) : DV → DV → H → aV := Nat.rec (motive := λ _ => DV → DV → H → aV) (λ _ _ _ => none) (λ _ i => aNk E r1 i) n
def aSO (r0 : DV) (h : H) : aV := dP r0 h λ x1 h2 => vK (aH 1 x1) λ x3 => vK (aF h2.get x3) λ x4 => vK (aH 0 x1) λ x5 => vK (aF h2.get x5) λ x6 => vK (bX x6) λ x7 => wK (aE E 53 [x4] h2) λ x8 h9 => rK (tY (aF h9.get x5) x6) <| wK (aE E 53 [x7] h9) λ x10 h11 => vK (bJ x8 x10) λ x12 => aAM E x1 aT x12 (ii 0) h11
theorem bRO : Is E bTp (bU D25.res) (λ σ h => aYu E (σ p3) h) := Is.rf
abbrev bDn : iF (DV × H) := (cP (λ σ h => aYu E (σ p3) h) (bU D25.res))
abbrev bQj (n2 : Nat) : iF (DV × H) := (cP (λ σ h => (aAM E (σ p1) n2) (σ p3) (σ p4) h) (bV 0 (bDn E)))
theorem bRM (n2 : Nat) : Is E bTo (bQj E n2) (λ σ h => aMU E (aAM E (σ p1) n2) (σ p3) (σ p4) h) := Is.rf
theorem bRN : Is E bDC (bV 0 (bDn E)) (λ σ h => aAM E (σ p1) aT (σ p3) (σ p4) h) := Is.lp (λ n2 σ h => aAM E (σ p1) n2 (σ p3) (σ p4) h) λ n2 => Is.aq (Is.sq (Is.sq (bRM E n2) (Is.leaf _)) (Is.leaf _))
theorem bRP : nT E D25 (aSO E) := Is.aq (Is.sq (Is.sq (Is.sq (bRO E) (Is.sq (Is.bk (bRN E)) (Is.leaf _))) (Is.leaf _)) (Is.leaf _))
def S25 : cB := nO (aSO E)
theorem bFV : SQ D25 S25 := nX bRP
def D26 := cm 26
def bTn := cr (cr (cr (cr D26.body)))
def bTm := cl (cr (cl (cr (cr (cr D26.body)))))
def aYt (E : bG) (r4 r5 : DV) (h : H) : aV := some ((.tup [r4, r5]), h)
def bTw (r4 r5 r12 r13 : DV) (i2 : DV → H → aV) (r14 : DV) (h : H) : aV := vK (cW r14 r13) λ x1 => bK x1 (vK (cC 6 r12 r14) λ x2 => vK (aJ 6 h.get x2) λ x3 => dN 6 6 (.list [(ii 0), (ii 0), (ii 0), (.str []), (.str []), (.str [])]) h λ x4 h5 => wK (bS 6 x4 x3 h5) λ x6 h7 => vK (aJ 6 h7.get x4) λ x8 => wK (aE E 19 [r4, x8] h7) λ x9 h10 => vK (aG 0 x9) λ x11 => vK (aG 1 x9) λ x12 => vK (cC 1 r5 r14) λ x13 => wK (bS 1 x13 x11 h10) λ x14 h15 => vK (bJ r14 (ii 1)) λ x16 => i2 x16 h15) (aYt E r4 r5 h)
def aYb (r4 r5 r12 r13 : DV) (n : Nat) : DV → H → aV := Nat.rec (motive := λ _ => DV → H → aV) (λ _ _ => none) (λ _ i => bTw E r4 r5 r12 r13 i) n
def bDv (r0 : DV) (h : H) : aV := wK (aE E 21 [] h) λ x1 h2 => vK (bX r0) λ x3 => tQ 1 8 (ii 0) x3 x3 h2 λ x4 h5 => vK (bX r0) λ x6 => aYb E x1 x4 r0 x6 aT (ii 0) h5
theorem bRK : Is E bTn (bU D26.res) (λ σ h => aYt E (σ p4) (σ p5) h) := Is.rf
abbrev bQi : iF (DV × H) := (cP (λ σ h => aYt E (σ p4) (σ p5) h) (bU D26.res))
theorem bRJ : Is E bTm (bV 0 (bQi E)) (λ σ h => aYb E (σ p4) (σ p5) (σ p12) (σ p13) aT (σ p14) h) := Is.lp (λ n2 σ h => aYb E (σ p4) (σ p5) (σ p12) (σ p13) n2 (σ p14) h) λ n2 => Is.aq (Is.leaf _)
theorem bRL : nT E D26 (bDv E) := Is.aq (Is.sq (Is.sq (Is.sq (Is.sq (bRK E) (Is.sq (Is.bk (bRJ E)) (Is.leaf _))) (Is.leaf _)) (Is.leaf _)) (Is.leaf _))
def S26 : cB := nO (bDv E)
theorem bFU : SQ D26 S26 := nX bRL
def D32 := cm 32
def bTl := cr (cr (cr D32.body))
def bTk := cl (cr (cl (cr (cr D32.body))))
def aSM (E : bG) (r3 : DV) (h : H) : aV := some (r3, h)
def aNj (r1 : DV) (i2 : DV → DV → H → aV) (r3 r4 : DV) (h : H) : aV := vK (aH 0 r1) λ x1 => vK (aF h.get x1) λ x2 => vK (bX x2) λ x3 => vK (cW r4 x3) λ x4 => bK x4 (vK (aH 0 r1) λ x5 => vK (aF h.get x5) λ x6 => vK (cC 5 x6 r4) λ x7 => vK (aH 3 x7) λ x8 => vK (aF h.get x8) λ x9 => vK (cA x9) λ x10 => vK (bJ r3 x10) λ x11 => vK (bJ r4 (ii 1)) λ x12 => i2 x11 x12 h) (aSM E r3 h)
def aEX (r1 : DV) (n : Nat) : DV → DV → H → aV := Nat.rec (motive := λ _ => DV → DV → H → aV) (λ _ _ _ => none) (λ _ i => aNj E r1 i) n
def aSN (r0 : DV) (h : H) : aV := dP r0 h λ x1 h2 => aEX E x1 aT (ii 0) (ii 0) h2
theorem bRH : Is E bTl (bU D32.res) (λ σ h => aSM E (σ p3) h) := Is.rf
abbrev bQh : iF (DV × H) := (cP (λ σ h => aSM E (σ p3) h) (bU D32.res))
theorem bRG : Is E bTk (bV 0 (bQh E)) (λ σ h => aEX E (σ p1) aT (σ p3) (σ p4) h) := Is.lp (λ n2 σ h => aEX E (σ p1) n2 (σ p3) (σ p4) h) λ n2 => Is.aq (Is.leaf _)
theorem bRI : nT E D32 (aSN E) := Is.aq (Is.sq (Is.sq (Is.sq (bRH E) (Is.sq (Is.bk (bRG E)) (Is.leaf _))) (Is.leaf _)) (Is.leaf _))
def S32 : cB := nO (aSN E)
theorem bFT : SQ D32 S32 := nX bRI
def D33 := cm 33
def aSL (r0 r1 r2 r3 : DV) (h : H) : aV := wK (aE E 83 [r0, r1] h) λ x1 h2 => vK (aG 0 x1) λ x3 => vK (aG 1 x1) λ x4 => vK (dB x4 (ii 0)) λ x5 => bK x5 (some ((.tup [(.str []), x4]), h2)) (wK (aE E 84 [x3, r2, r3] h2) λ x6 h7 => vK (aG 0 x6) λ x8 => vK (aG 1 x6) λ x9 => some ((.tup [x8, x9]), h7))
theorem bRF : iB4 E D33 (aSL E) := Is.rf
def S33 : cB := fA4 (aSL E)
theorem bFS : SQ D33 S33 := eB4 bRF
def D34 := cm 34
def bTj := cr (cr (cr (cr (cr (cr D34.body)))))
def aMT (E : bG) (r4 r9 : DV) (h : H) : aV := vK (aJ 5 h.get r9) λ x1 => wK (bS 5 r4 x1 h) λ x2 h3 => vK (aJ 5 h3.get r4) λ x4 => some ((.tup [x4, (ii 0)]), h3)
def aSK (r0 r1 : DV) (h : H) : aV := dN 5 5 (.list [(ii 0), (ii 0), (ii 0), (ii 0), (ii 0)]) h λ x1 h2 => wK (aE E 85 [r0, r1] h2) λ x3 h4 => vK (aG 0 x3) λ x5 => vK (aG 1 x3) λ x6 => vK (dB x6 (ii 0)) λ x7 => bK x7 (vK (dL [(ii 0), (ii 0), (ii 0), (ii 0), (ii 0)] []) λ x8 => wK (bS 5 x1 x8 h4) λ x9 h10 => vK (aJ 5 h10.get x1) λ x11 => some ((.tup [x11, x6]), h10)) (vK (aW r0) λ x12 => vK (aH 0 x12) λ x13 => vK (nZ 256 2 x13 x5) λ x14 => vK (aJ 2 h4.get x14) λ x15 => dN 2 2 (.list [(ii 0), .nili]) h4 λ x16 h17 => wK (bS 2 x16 x15 h17) λ x18 h19 => vK (aH 0 x16) λ x20 => vK (aF h19.get x20) λ x21 => vK (aH 1 x16) λ x22 => vK (aF h19.get x22) λ x23 => vK (aH 1 x16) λ x24 => vK (aF h19.get x24) λ x25 => dN 5 5 (.list [(ii 0), (ii 0), (ii 0), (ii 0), (ii 0)]) h19 λ x26 h27 => wK (vH E [(120, 217), (141, 221)] x23 [] h27) λ x28 h29 => rK (tY (aF h29.get x24) x25) <| rK (tY (aF h29.get x20) x21) <| wK (vH E [(120, 218), (141, 222)] x25 [] h29) λ x30 h31 => rK (tY (aF h31.get x20) x21) <| vK (dL [(ii 0), (ii 0), (ii 0), (ii 0), (ii 0)] [(0, 1, x5), (1, 1, x21), (2, 1, x28), (3, 1, x30), (4, 1, (ii 1))]) λ x32 => wK (bS 5 x26 x32 h31) λ x33 h34 => wK (aE E 86 [r0, x5] h34) λ x35 h36 => vK (eN .ptr true h36.get x35 .nilp) λ x37 => bK x37 (vK (aW x35) λ x38 => vK (aH 1 x38) λ x39 => vK (aF h36.get x39) λ x40 => vK (aH 4 x26) λ x41 => wK (bS 1 x41 x40 h36) λ x42 h43 => aMT E x1 x26 h43) (aMT E x1 x26 h36))
theorem bRD : Is E bTj (bU D34.res) (λ σ h => aMT E (σ p4) (σ p9) h) := Is.rf
theorem bRE : kV E D34 (aSK E) := Is.aq (Is.sq (Is.sq (Is.sq (Is.sq (Is.sq (Is.sq (bRD E) (Is.leaf _)) (Is.leaf _)) (Is.leaf _)) (Is.leaf _)) (Is.leaf _)) (Is.leaf _))
def S34 : cB := kR (aSK E)
theorem bFR : SQ D34 S34 := kW bRE
def D35 := cm 35
def aSJ (r0 r1 : DV) (h : H) : aV := wK (aE E 85 [r0, r1] h) λ x1 h2 => vK (aG 0 x1) λ x3 => vK (aG 1 x1) λ x4 => vK (dB x4 (ii 0)) λ x5 => bK x5 (some ((.tup [.nils, x4]), h2)) (wK (aE E 87 [r0, x3] h2) λ x6 h7 => vK (eN .ptr false h7.get x6 .nilp) λ x8 => bK x8 (some ((.tup [.nils, (ii 13)]), h7)) (wK (aE E 88 [x6] h7) λ x9 h10 => some ((.tup [x9, (ii 0)]), h10)))
theorem bRC : kV E D35 (aSJ E) := Is.rf
def S35 : cB := kR (aSJ E)
theorem bFQ : SQ D35 S35 := kW bRC
def D40 := cm 40
def aSI (r0 r1 : DV) (h : H) : aV := wK (aE E 65 [] h) λ x1 h2 => vK (dL [.nilp] [(0, 1, x1)]) λ x3 => wK (aE E 94 [r0, r1, (.ifc 120 x3)] h2) λ x4 h5 => some (x4, h5)
theorem bRB : kV E D40 (aSI E) := Is.rf
def S40 : cB := kR (aSI E)
theorem bFP : SQ D40 S40 := kW bRB
def D41 := cm 41
def aSH (r0 r1 : DV) (h : H) : aV := vK (dL [(.str []), (ii 0)] [(1, 1, (ii 1))]) λ x1 => dP x1 h λ x2 h3 => wK (aE E 94 [r0, r1, (.ifc 141 x2)] h3) λ x4 h5 => some (x4, h5)
theorem bRA : kV E D41 (aSH E) := Is.rf
def S41 : cB := kR (aSH E)
theorem bFO : SQ D41 S41 := kW bRA
def D42 := cm 42
def bTi := cr (cr (cr (cr (cr (cr (cr (cr D42.body)))))))
def aYs (E : bG) (h : H) : aV := some ((ii 0), h)
def aSG (r0 r1 : DV) (h : H) : aV := wK (aE E 85 [r0, r1] h) λ x1 h2 => vK (aG 0 x1) λ x3 => vK (aG 1 x1) λ x4 => vK (dB x4 (ii 0)) λ x5 => bK x5 (some (x4, h2)) (wK (aE E 86 [r0, x3] h2) λ x6 h7 => vK (eN .ptr false h7.get x6 .nilp) λ x8 => bK x8 (some ((ii 12), h7)) (wK (aE E 95 [r0, r1] h7) λ x9 h10 => vK (aG 0 x9) λ x11 => vK (aG 1 x9) λ x12 => dN 2 2 (.list [.nilp, (.str [])]) h10 λ x13 h14 => wK (bS 2 x13 x11 h14) λ x15 h16 => vK (aH 0 x13) λ x17 => vK (aF h16.get x17) λ x18 => vK (aH 1 x13) λ x19 => vK (aF h16.get x19) λ x20 => wK (aE E 96 [x18, x20] h16) λ x21 h22 => vK (aW x6) λ x23 => vK (aH 1 x23) λ x24 => vK (aF h22.get x24) λ x25 => vK (fE x25 (ii 1)) λ x26 => vK (aW x6) λ x27 => vK (aH 1 x27) λ x28 => wK (bS 1 x28 x26 h22) λ x29 h30 => vK (aW x6) λ x31 => vK (aH 1 x31) λ x32 => vK (aF h30.get x32) λ x33 => vK (bZ x33 (ii 0)) λ x34 => bK x34 (vK (aW r0) λ x35 => vK (aH 513 x35) λ x36 => vK (aF h30.get x36) λ x37 => vK (aW x6) λ x38 => vK (aH 0 x38) λ x39 => vK (aF h30.get x39) λ x40 => vK (cA x40) λ x41 => vK (fE x37 x41) λ x42 => vK (aW r0) λ x43 => vK (aH 513 x43) λ x44 => wK (bS 1 x44 x42 h30) λ x45 h46 => vK (dL [(ii 0), .nili] []) λ x47 => vK (aW r0) λ x48 => vK (aH 0 x48) λ x49 => vK (nZ 256 2 x49 x3) λ x50 => wK (bS 2 x50 x47 h46) λ x51 h52 => aYs E h52) (aYs E h30)))
theorem bRy : Is E bTi (bU D42.res) (λ σ h => aYs E h) := Is.rf
theorem bRz : kV E D42 (aSG E) := Is.aq (Is.sq (Is.sq (Is.sq (Is.sq (Is.sq (Is.sq (Is.sq (Is.sq (bRy E) (Is.leaf _)) (Is.leaf _)) (Is.leaf _)) (Is.leaf _)) (Is.leaf _)) (Is.leaf _)) (Is.leaf _)) (Is.leaf _))
def S42 : cB := kR (aSG E)
theorem bFN : SQ D42 S42 := kW bRz
def D43 := cm 43
def aSF (r0 r1 : DV) (h : H) : aV := wK (aE E 85 [r0, r1] h) λ x1 h2 => vK (aG 0 x1) λ x3 => vK (aG 1 x1) λ x4 => vK (dB x4 (ii 0)) λ x5 => bK x5 (some (x4, h2)) (wK (aE E 87 [r0, x3] h2) λ x6 h7 => vK (eN .ptr false h7.get x6 .nilp) λ x8 => bK x8 (some ((ii 13), h7)) (vK (bZ x3 (ii 1)) λ x9 => bK x9 (some ((ii 1), h7)) (wK (aE E 97 [x6] h7) λ x10 h11 => vK (eF x10 (ii 0)) λ x12 => bK x12 (some ((ii 14), h11)) (wK (aE E 95 [r0, r1] h11) λ x13 h14 => vK (aG 0 x13) λ x15 => vK (aG 1 x13) λ x16 => dN 2 2 (.list [.nilp, (.str [])]) h14 λ x17 h18 => wK (bS 2 x17 x15 h18) λ x19 h20 => vK (aH 0 x17) λ x21 => vK (aF h20.get x21) λ x22 => vK (aH 1 x17) λ x23 => vK (aF h20.get x23) λ x24 => wK (aE E 96 [x22, x24] h20) λ x25 h26 => vK (dL [(ii 0), .nili] []) λ x27 => vK (aW r0) λ x28 => vK (aH 0 x28) λ x29 => vK (nZ 256 2 x29 x3) λ x30 => wK (bS 2 x30 x27 h26) λ x31 h32 => some ((ii 0), h32)))))
theorem bRx : kV E D43 (aSF E) := Is.rf
def S43 : cB := kR (aSF E)
theorem bFM : SQ D43 S43 := kW bRx
def D44 := cm 44
def aSE (r0 r1 r2 : DV) (h : H) : aV := wK (aE E 85 [r0, r1] h) λ x1 h2 => vK (aG 0 x1) λ x3 => vK (aG 1 x1) λ x4 => vK (dB x4 (ii 0)) λ x5 => bK x5 (some (x4, h2)) (wK (aE E 95 [r0, r2] h2) λ x6 h7 => vK (aG 0 x6) λ x8 => vK (aG 1 x6) λ x9 => dN 2 2 (.list [.nilp, (.str [])]) h7 λ x10 h11 => wK (bS 2 x10 x8 h11) λ x12 h13 => vK (dB x9 (ii 0)) λ x14 => bK x14 (some (x9, h13)) (vK (bZ x3 (ii 1)) λ x15 => bT x15 false (λ kk => kk r1 h13) h13 λ x16 h17 => bT x15 false (λ kk => kk r2 h17) h17 λ x18 h19 => bT x15 false (λ kk => wK (aE E 98 [x16, x18] h19) kk) h19 λ x20 h21 => vK (bF x15 (.bool true) x20) λ x22 => bK x22 (some ((ii 1), h21)) (wK (aE E 95 [r0, r1] h21) λ x23 h24 => vK (aG 0 x23) λ x25 => vK (aG 1 x23) λ x26 => dN 2 2 (.list [.nilp, (.str [])]) h24 λ x27 h28 => wK (bS 2 x27 x25 h28) λ x29 h30 => vK (aJ 2 h30.get x27) λ x31 => vK (aJ 2 h30.get x10) λ x32 => vK (aDy false (.leaf .ptr 0 (.leaf .str 1 .nil)) h30.get x31 x32) λ x33 => bK x33 (some ((ii 0), h30)) (vK (aJ 2 h30.get x10) λ x34 => wK (aE E 99 [x34] h30) λ x35 h36 => bK x35 (some ((ii 6), h36)) (vK (aH 0 x27) λ x37 => vK (aF h36.get x37) λ x38 => vK (aH 1 x27) λ x39 => vK (aF h36.get x39) λ x40 => wK (aE E 96 [x38, x40] h36) λ x41 h42 => vK (aH 0 x10) λ x43 => vK (aF h42.get x43) λ x44 => vK (aH 1 x10) λ x45 => vK (aF h42.get x45) λ x46 => wK (aE E 100 [x44, x46, x3] h42) λ x47 h48 => some ((ii 0), h48))))))
theorem bRw : iB3 E D44 (aSE E) := Is.rf
def S44 : cB := fA3 (aSE E)
theorem bFL : SQ D44 S44 := eB3 bRw
def D45 := cm 45
def aSD (r0 r1 r2 : DV) (h : H) : aV := wK (aE E 85 [r0, r1] h) λ x1 h2 => vK (aG 0 x1) λ x3 => vK (aG 1 x1) λ x4 => vK (dB x4 (ii 0)) λ x5 => bK x5 (some (x4, h2)) (wK (aE E 95 [r0, r2] h2) λ x6 h7 => vK (aG 0 x6) λ x8 => vK (aG 1 x6) λ x9 => dN 2 2 (.list [.nilp, (.str [])]) h7 λ x10 h11 => wK (bS 2 x10 x8 h11) λ x12 h13 => vK (dB x9 (ii 0)) λ x14 => bK x14 (some (x9, h13)) (wK (aE E 86 [r0, x3] h13) λ x15 h16 => vK (eN .ptr false h16.get x15 .nilp) λ x17 => bK x17 (some ((ii 12), h16)) (vK (aJ 2 h16.get x10) λ x18 => wK (aE E 99 [x18] h16) λ x19 h20 => bK x19 (some ((ii 6), h20)) (vK (aW x15) λ x21 => vK (aH 1 x21) λ x22 => vK (aF h20.get x22) λ x23 => vK (oR x23 (ii 100)) λ x24 => bK x24 (some ((ii 5), h20)) (vK (aW x15) λ x25 => vK (aH 1 x25) λ x26 => vK (aF h20.get x26) λ x27 => vK (bJ x27 (ii 1)) λ x28 => vK (aW x15) λ x29 => vK (aH 1 x29) λ x30 => wK (bS 1 x30 x28 h20) λ x31 h32 => vK (aH 0 x10) λ x33 => vK (aF h32.get x33) λ x34 => vK (aH 1 x10) λ x35 => vK (aF h32.get x35) λ x36 => wK (aE E 100 [x34, x36, x3] h32) λ x37 h38 => some ((ii 0), h38))))))
theorem bRv : iB3 E D45 (aSD E) := Is.rf
def S45 : cB := fA3 (aSD E)
theorem bFK : SQ D45 S45 := eB3 bRv
def D46 := cm 46
def aSC (r0 r1 r2 r3 : DV) (h : H) : aV := wK (aE E 83 [r0, r1] h) λ x1 h2 => vK (aG 0 x1) λ x3 => vK (aG 1 x1) λ x4 => vK (dB x4 (ii 0)) λ x5 => bK x5 (some (x4, h2)) (wK (aE E 92 [r0, x3, r2, r3] h2) λ x6 h7 => some (x6, h7))
theorem bRu : iB4 E D46 (aSC E) := Is.rf
def S46 : cB := fA4 (aSC E)
theorem bFJ : SQ D46 S46 := eB4 bRu
def D47 := cm 47
def aSB (r0 r1 r2 : DV) (h : H) : aV := wK (aE E 83 [r0, r1] h) λ x1 h2 => vK (aG 0 x1) λ x3 => vK (aG 1 x1) λ x4 => vK (dB x4 (ii 0)) λ x5 => bK x5 (some (x4, h2)) (vK (cW r2 (ii 0)) λ x6 => bT x6 false (λ kk => kk r2 h2) h2 λ x7 h8 => bT x6 false (λ kk => vK (eF x7 (ii 16384)) λ v => kk v h8) h8 λ x9 h10 => vK (bF x6 (.bool true) x9) λ x11 => bK x11 (some ((ii 1), h10)) (vK (aW x3) λ x12 => vK (aH 0 x12) λ x13 => vK (aF h10.get x13) λ x14 => vK (aW x3) λ x15 => vK (aH 0 x15) λ x16 => vK (aF h10.get x16) λ x17 => vK (cA x17) λ x18 => vK (zS r2 x18) λ x19 => vK (gV x14 none (some x19)) λ x20 => wK (aE E 101 [x20, r2] h10) λ x21 h22 => vK (aG 0 x21) λ x23 => vK (aG 1 x21) λ x24 => wK (aE E 102 [r0, x3, x23] h22) λ x25 h26 => some (x25, h26)))
theorem bRt : iB3 E D47 (aSB E) := Is.rf
def S47 : cB := fA3 (aSB E)
theorem bFI : SQ D47 S47 := eB3 bRt
def D48 := cm 48
def aSA (E : bG) (r0 : DV) (h : H) : aV := vK (aAT r0 (ii 0)) λ x1 => vK (zS x1 (ii 65536)) λ x2 => vK (dL [(ii 0), .nils, (ii 0)] [(0, 1, x2)]) λ x3 => dP x3 h λ x4 h5 => some (x4, h5)
theorem bRs : nT E D48 (aSA E) := Is.rf
def S48 : cB := nO (aSA E)
theorem bFH : SQ D48 S48 := nX bRs
def D49 := cm 49
def bTh := cr (cr D49.body)
def aSy (r0 r3 : DV) (h : H) : aV := wK (aE E 103 [r0, (.fn (.func 104) [] [r3])] h) λ x1 h2 => some ((.tup []), h2)
def aSz (r0 r1 : DV) (h : H) : aV := dP r1 h λ x1 h2 => vK (eN .ptr true h2.get r0 .nilp) λ x3 => bT x3 true (λ kk => kk r0 h2) h2 λ x4 h5 => bT x3 true (λ kk => vK (aW x4) λ v => kk v h5) h5 λ x6 h7 => bT x3 true (λ kk => vK (aH 2 x6) λ v => kk v h7) h7 λ x8 h9 => bT x3 true (λ kk => vK (aF h9.get x8) λ v => kk v h9) h9 λ x10 h11 => bT x3 true (λ kk => vK (bZ x10 (ii 0)) λ v => kk v h11) h11 λ x12 h13 => vK (bF x3 x12 (.bool false)) λ x14 => bT x14 true (λ kk => vK (aF h13.get x1) λ v => kk v h13) h13 λ x15 h16 => bT x14 true (λ kk => vK (cW x15 (ii 0)) λ v => kk v h16) h16 λ x17 h18 => bT x14 true (λ kk => kk x17 h18) h18 λ x19 h20 => bT x19 false (λ kk => vK (aF h20.get x1) λ v => kk v h20) h20 λ x21 h22 => bT x19 false (λ kk => vK (eF x21 (ii 255)) λ v => kk v h22) h22 λ x23 h24 => bT x14 true (λ kk => vK (bF x19 (.bool true) x23) λ v => kk v h24) h24 λ x25 h26 => vK (bF x14 x25 (.bool false)) λ x27 => bK x27 (vK (aW r0) λ x28 => vK (aH 2 x28) λ x29 => wK (bS 1 x29 (ii 1) h26) λ x30 h31 => aSy E r0 x1 h31) (aSy E r0 x1 h26)
theorem bRq : Is E bTh (bU D49.res) (λ σ h => aSy E (σ p0) (σ p3) h) := Is.rf
theorem bRr : kV E D49 (aSz E) := Is.aq (Is.sq (Is.sq (bRq E) (Is.leaf _)) (Is.leaf _))
def S49 : cB := kR (aSz E)
theorem bFG : SQ D49 S49 := kW bRr
def D50 := cm 50
def aSx (r0 r1 : DV) (h : H) : aV := dP r1 h λ x1 h2 => wK (aE E 103 [r0, (.fn (.func 105) [] [x1])] h2) λ x3 h4 => some ((.tup []), h4)
theorem bRp : kV E D50 (aSx E) := Is.rf
def S50 : cB := kR (aSx E)
theorem bFF : SQ D50 S50 := kW bRp
def D51 := cm 51
def aSw (r0 r1 : DV) (h : H) : aV := dP r1 h λ x1 h2 => wK (aE E 103 [r0, (.fn (.func 107) [] [x1])] h2) λ x3 h4 => some ((.tup []), h4)
theorem bRo : kV E D51 (aSw E) := Is.rf
def S51 : cB := kR (aSw E)
theorem bFE : SQ D51 S51 := kW bRo
def D52 := cm 52
def aSv (E : bG) (r0 : DV) (h : H) : aV := vK (eN .ptr false h.get r0 .nilp) λ x1 => bK x1 (some ((.tup [(.str []), (ii 1)]), h)) (vK (aW r0) λ x2 => vK (aH 2 x2) λ x3 => vK (aF h.get x3) λ x4 => vK (dB x4 (ii 0)) λ x5 => bK x5 (vK (aW r0) λ x6 => vK (aH 2 x6) λ x7 => vK (aF h.get x7) λ x8 => some ((.tup [(.str []), x8]), h)) (vK (aW r0) λ x9 => vK (aH 1 x9) λ x10 => vK (aF h.get x10) λ x11 => vK (mJ h.get x11) λ x12 => some ((.tup [x12, (ii 0)]), h)))
theorem bRn : nT E D52 (aSv E) := Is.rf
def S52 : cB := nO (aSv E)
theorem bFD : SQ D52 S52 := nX bRn
def D53 := cm 53
def aYZ := cr (cr (cr D53.body))
def bTg := cr (cr aYZ)
def bTf := cl (cl (cr aYZ))
def aMS (E : bG) (r3 r4 : DV) (h : H) : aV := vK (fG .u8 r3) λ x1 => fT 1 1 [(.int .u8 (.ofNat 0))] [(0, 1, x1)] h λ x2 h3 => wK (cF 1 1 r4 x2 h3) λ x4 h5 => vK (mJ h5.get x4) λ x6 => some (x6, h5)
def aNi (i3 : DV → DV → H → aV) (r3 r4 : DV) (h : H) : aV := vK (oR r3 (.int .u64 (.ofNat 128))) λ x1 => bK x1 (vK (aDA r3 (.int .u64 (.ofNat 127))) λ x2 => vK (fG .u8 x2) λ x3 => vK (aTf x3 (.int .u8 (.ofNat 128))) λ x4 => fT 1 1 [(.int .u8 (.ofNat 0))] [(0, 1, x4)] h λ x5 h6 => wK (cF 1 1 r4 x5 h6) λ x7 h8 => vK (xT r3 (.int .u64 (.ofNat 7))) λ x9 => i3 x9 x7 h8) (aMS E r3 r4 h)
def aHx (n : Nat) : DV → DV → H → aV := Nat.rec (motive := λ _ => DV → DV → H → aV) (λ _ _ _ => none) (λ _ i => aNi E i) n
def aYr (r3 : DV) (h : H) : aV := aHx E aT r3 .nils h
def aSu (r0 : DV) (h : H) : aV := vK (fG .u64 r0) λ x1 => vK (aDv x1 (.int .u64 (.ofNat 1))) λ x2 => vK (cW r0 (ii 0)) λ x3 => bK x3 (vK (aDt x2 (.int .u64 (.ofNat 18446744073709551615))) λ x4 => aYr E x4 h) (aYr E x2 h)
theorem bRk : Is E bTg (bU D53.res) (λ σ h => aMS E (σ p3) (σ p4) h) := Is.rf
abbrev bQg : iF (DV × H) := (cP (λ σ h => aMS E (σ p3) (σ p4) h) (bU D53.res))
theorem bRj : Is E bTf (bV 0 (bQg E)) (λ σ h => aHx E aT (σ p3) (σ p4) h) := Is.lp (λ n3 σ h => aHx E n3 (σ p3) (σ p4) h) λ n3 => Is.aq (Is.leaf _)
theorem bRl : Is E aYZ (bU D53.res) (λ σ h => aYr E (σ p3) h) := Is.aq (Is.sq (Is.sq (bRk E) (Is.bk (bRj E))) (Is.leaf _))
theorem bRm : nT E D53 (aSu E) := Is.aq (Is.sq (Is.sq (Is.sq (bRl E) (Is.leaf _)) (Is.leaf _)) (Is.leaf _))
def S53 : cB := nO (aSu E)
theorem bFC : SQ D53 S53 := nX bRm
def D54 := cm 54
def aSt (r0 : DV) (h : H) : aV := vK (cA r0) λ x1 => wK (aE E 53 [x1] h) λ x2 h3 => vK (bJ x2 r0) λ x4 => some (x4, h3)
theorem bRi : nT E D54 (aSt E) := Is.rf
def S54 : cB := nO (aSt E)
theorem bFB : SQ D54 S54 := nX bRi
def D55 := cm 55
def bDu (E : bG) (r0 : DV) (h : H) : aV := vK (dL [(.str []), (.bool false)] [(0, 1, r0)]) λ x1 => dP x1 h λ x2 h3 => some (x2, h3)
theorem bRh : nT E D55 (bDu E) := Is.rf
def S55 : cB := nO (bDu E)
theorem bFA : SQ D55 S55 := nX bRh
def D56 := cm 56
def bDt (r0 : DV) (h : H) : aV := wK (aE E 109 [r0, (ii 1)] h) λ x1 h2 => vK (aG 0 x1) λ x3 => vK (aG 1 x1) λ x4 => bK x4 (vK (gR x3 (ii 0)) λ x5 => vK (fG .i64 x5) λ x6 => some (x6, h2)) (some ((ii 0), h2))
theorem bRg : nT E D56 (bDt E) := Is.rf
def S56 : cB := nO (bDt E)
theorem bFz : SQ D56 S56 := nX bRg
def D57 := cm 57
def bDs (r0 : DV) (h : H) : aV := vK (eN .ptr false h.get r0 .nilp) λ x1 => bK x1 (some ((ii 0), h)) (vK (aW r0) λ x2 => vK (aH 0 x2) λ x3 => vK (aF h.get x3) λ x4 => wK (aE E 110 [x4] h) λ x5 h6 => vK (aG 0 x5) λ x7 => vK (aG 1 x5) λ x8 => vK (bZ x8 (ii 0)) λ x9 => bK x9 (wK (aE E 111 [r0] h6) λ x10 h11 => some ((ii 0), h11)) (wK (aE E 109 [r0, x8] h6) λ x12 h13 => vK (xT x7 (.int .u64 (.ofNat 1))) λ x14 => vK (fG .i64 x14) λ x15 => vK (aDA x7 (.int .u64 (.ofNat 1))) λ x16 => vK (fG .i64 x16) λ x17 => vK (aKG x17) λ x18 => vK (aDt x15 x18) λ x19 => some (x19, h13)))
theorem bRf : nT E D57 (bDs E) := Is.rf
def S57 : cB := nO (bDs E)
theorem bFy : SQ D57 S57 := nX bRf
def D58 := cm 58
def bDr (r0 : DV) (h : H) : aV := wK (aE E 57 [r0] h) λ x1 h2 => wK (aE E 109 [r0, x1] h2) λ x3 h4 => vK (aG 0 x3) λ x5 => vK (aG 1 x3) λ x6 => some (x5, h4)
theorem bRe : nT E D58 (bDr E) := Is.rf
def S58 : cB := nO (bDr E)
theorem bFx : SQ D58 S58 := nX bRe
def D59 := cm 59
def bDq (E : bG) (r0 : DV) (h : H) : aV := vK (eN .ptr false h.get r0 .nilp) λ x1 => bK x1 (some ((ii 1), h)) (vK (aW r0) λ x2 => vK (aH 1 x2) λ x3 => vK (aF h.get x3) λ x4 => bT x4 false (λ kk => kk r0 h) h λ x5 h6 => bT x4 false (λ kk => vK (aW x5) λ v => kk v h6) h6 λ x7 h8 => bT x4 false (λ kk => vK (aH 0 x7) λ v => kk v h8) h8 λ x9 h10 => bT x4 false (λ kk => vK (aF h10.get x9) λ v => kk v h10) h10 λ x11 h12 => bT x4 false (λ kk => vK (dB x11 (.str [])) λ v => kk v h12) h12 λ x13 h14 => vK (bF x4 (.bool true) x13) λ x15 => bK x15 (some ((ii 3), h14)) (some ((ii 0), h14)))
theorem bRd : nT E D59 (bDq E) := Is.rf
def S59 : cB := nO (bDq E)
theorem bFw : SQ D59 S59 := nX bRd
def D64 := cm 64
def aSs (E : bG) (r0 r1 : DV) (h : H) : aV := dP r0 h λ x1 h2 => dP r1 h2 λ x3 h4 => vK (aH 0 x3) λ x5 => vK (aF h4.get x5) λ x6 => vK (bZ x6 (ii 1)) λ x7 => bK x7 (vK (aF h4.get x1) λ x8 => vK (aH 3 x3) λ x9 => vK (aF h4.get x9) λ x10 => vK (dL [.nilf, (.str [])] [(0, 1, (.fn (.func 40) [x8] [])), (1, 1, x10)]) λ x11 => some ((.ifc 102 x11), h4)) (vK (bZ x6 (ii 2)) λ x12 => bK x12 (vK (aF h4.get x1) λ x13 => vK (aH 3 x3) λ x14 => vK (aF h4.get x14) λ x15 => vK (dL [.nilf, (.str [])] [(0, 1, (.fn (.func 41) [x13] [])), (1, 1, x15)]) λ x16 => some ((.ifc 102 x16), h4)) (vK (bZ x6 (ii 3)) λ x17 => bK x17 (vK (aF h4.get x1) λ x18 => vK (aH 3 x3) λ x19 => vK (aF h4.get x19) λ x20 => vK (dL [.nilf, (.str [])] [(0, 1, (.fn (.func 42) [x18] [])), (1, 1, x20)]) λ x21 => some ((.ifc 102 x21), h4)) (vK (bZ x6 (ii 4)) λ x22 => bK x22 (vK (aF h4.get x1) λ x23 => vK (aH 3 x3) λ x24 => vK (aF h4.get x24) λ x25 => vK (dL [.nilf, (.str [])] [(0, 1, (.fn (.func 43) [x23] [])), (1, 1, x25)]) λ x26 => some ((.ifc 102 x26), h4)) (vK (bZ x6 (ii 5)) λ x27 => bK x27 (vK (aF h4.get x1) λ x28 => vK (aH 3 x3) λ x29 => vK (aF h4.get x29) λ x30 => vK (aH 4 x3) λ x31 => vK (aF h4.get x31) λ x32 => vK (dL [.nilf, (.str []), (.str [])] [(0, 1, (.fn (.func 44) [x28] [])), (1, 1, x30), (2, 1, x32)]) λ x33 => some ((.ifc 104 x33), h4)) (vK (bZ x6 (ii 6)) λ x34 => bK x34 (vK (aF h4.get x1) λ x35 => vK (aH 3 x3) λ x36 => vK (aF h4.get x36) λ x37 => vK (aH 4 x3) λ x38 => vK (aF h4.get x38) λ x39 => vK (dL [.nilf, (.str []), (.str [])] [(0, 1, (.fn (.func 45) [x35] [])), (1, 1, x37), (2, 1, x39)]) λ x40 => some ((.ifc 104 x40), h4)) (vK (bZ x6 (ii 7)) λ x41 => bK x41 (vK (dL [.nilf] [(0, 1, (.fn (.func 113) [] [x1, x3]))]) λ x42 => some ((.ifc 106 x42), h4)) (vK (bZ x6 (ii 8)) λ x43 => bK x43 (vK (dL [.nilf] [(0, 1, (.fn (.func 114) [] [x1, x3]))]) λ x44 => some ((.ifc 106 x44), h4)) (vK (bZ x6 (ii 9)) λ x45 => bK x45 (vK (dL [.nilf] [(0, 1, (.fn (.func 115) [] [x1, x3]))]) λ x46 => some ((.ifc 109 x46), h4)) (vK (bZ x6 (ii 10)) λ x47 => bK x47 (vK (dL [.nilf] [(0, 1, (.fn (.func 116) [] [x1, x3]))]) λ x48 => some ((.ifc 109 x48), h4)) (vK (dL [.nilf] [(0, 1, (.fn (.func 118) [] [x1, x3]))]) λ x49 => some ((.ifc 109 x49), h4)))))))))))
theorem bRc : kV E D64 (aSs E) := Is.rf
def S64 : cB := kR (aSs E)
theorem bFv : SQ D64 S64 := kW bRc
def D65 := cm 65
def aSr (E : bG) (h : H) : aV := vK (dL [.nils] []) λ x1 => dP x1 h λ x2 h3 => some (x2, h3)
theorem bRb : iB0 E D65 (aSr E) := Is.rf
def S65 : cB := fA0 (aSr E)
theorem bFu : SQ D65 S65 := eB0 bRb
def D66 := cm 66
def aYY := cr (cr (cr (cr (cr (cr D66.body)))))
def bTd := cr (cr (cr (cr (cr aYY))))
def bTc := cl (cl (cr (cr (cr (cr aYY)))))
def bTe := cl (cl (cr (cr (cr (cr (cr D66.body))))))
def aHz (E : bG) (r2 r3 r6 r11 r12 : DV) (h : H) : aV := vK (aH 0 r3) λ x1 => vK (aF h.get x1) λ x2 => vK (dO 5 x2 none (some r12)) λ x3 => vK (aH 1 r3) λ x4 => vK (aF h.get x4) λ x5 => vK (dL [(ii 0), (ii 0), (ii 0), (.str []), .nils] [(0, 1, r11), (1, 1, x5), (2, 1, r2)]) λ x6 => fT 1 5 [(ii 0), (ii 0), (ii 0), (.str []), .nils] [(0, 5, x6)] h λ x7 h8 => vK (aH 0 r3) λ x9 => vK (aF h8.get x9) λ x10 => vK (dO 5 x10 (some r12) none) λ x11 => wK (cF 5 64 .nils x3 h8) λ x12 h13 => rK (tY (aF h13.get x9) x10) <| rK (tY (aF h13.get x4) x5) <| wK (cF 5 64 x12 x7 h13) λ x14 h15 => rK (tY (aF h15.get x9) x10) <| wK (cF 5 64 x14 x11 h15) λ x16 h17 => vK (aH 0 r3) λ x18 => wK (bS 1 x18 x16 h17) λ x19 h20 => vK (aJ 2 h20.get r3) λ x21 => wK (bS 2 r6 x21 h20) λ x22 h23 => vK (aJ 2 h23.get r6) λ x24 => some ((.tup [x24, (ii 0)]), h23)
def aNg (r2 r3 r6 r11 : DV) (i4 : DV → H → aV) (r12 : DV) (h : H) : aV := vK (aH 0 r3) λ x1 => vK (aF h.get x1) λ x2 => vK (bX x2) λ x3 => vK (cW r12 x3) λ x4 => bT x4 true (λ kk => vK (aH 0 r3) λ v => kk v h) h λ x5 h6 => bT x4 true (λ kk => vK (aF h6.get x5) λ v => kk v h6) h6 λ x7 h8 => bT x4 true (λ kk => kk r12 h8) h8 λ x9 h10 => bT x4 true (λ kk => vK (cC 5 x7 x9) λ v => kk v h10) h10 λ x11 h12 => bT x4 true (λ kk => vK (aH 0 x11) λ v => kk v h12) h12 λ x13 h14 => bT x4 true (λ kk => vK (aF h14.get x13) λ v => kk v h14) h14 λ x15 h16 => bT x4 true (λ kk => kk r11 h16) h16 λ x17 h18 => bT x4 true (λ kk => vK (cW x15 x17) λ v => kk v h18) h18 λ x19 h20 => vK (bF x4 x19 (.bool false)) λ x21 => bK x21 (vK (bJ r12 (ii 1)) λ x22 => i4 x22 h20) (aHz E r2 r3 r6 r11 r12 h20)
def aHv (r2 r3 r6 r11 : DV) (n : Nat) : DV → H → aV := Nat.rec (motive := λ _ => DV → H → aV) (λ _ _ => none) (λ _ i => aNg E r2 r3 r6 r11 i) n
def aMR (r2 r3 r6 r8 r9 r11 : DV) (h : H) : aV := vK (oR r11 (ii 256)) λ x1 => bK x1 (vK (aJ 2 h.get r3) λ x2 => wK (bS 2 r6 x2 h) λ x3 h4 => vK (aJ 2 h4.get r6) λ x5 => some ((.tup [x5, (ii 5)]), h4)) (vK (aJ 2 h.get r3) λ x6 => wK (aE E 123 [x6, r8, r9, r11] h) λ x7 h8 => wK (bS 2 r3 x7 h8) λ x9 h10 => vK (aH 1 r3) λ x11 => vK (aF h10.get x11) λ x12 => vK (bJ x12 (ii 1)) λ x13 => vK (aH 1 r3) λ x14 => wK (bS 1 x14 x13 h10) λ x15 h16 => aHv E r2 r3 r6 r11 aT (ii 0) h16)
def aNh (r2 r3 r6 r8 r9 : DV) (i2 : DV → H → aV) (r11 : DV) (h : H) : aV := vK (aJ 2 h.get r3) λ x1 => wK (aE E 122 [x1, r11] h) λ x2 h3 => vK (oR x2 (ii 0)) λ x4 => bK x4 (vK (bJ r11 (ii 1)) λ x5 => i2 x5 h3) (aMR E r2 r3 r6 r8 r9 r11 h3)
def aHw (r2 r3 r6 r8 r9 : DV) (n : Nat) : DV → H → aV := Nat.rec (motive := λ _ => DV → H → aV) (λ _ _ => none) (λ _ i => aNh E r2 r3 r6 r8 r9 i) n
def aSq (r0 r1 r2 : DV) (h : H) : aV := dP r0 h λ x1 h2 => dN 2 2 (.list [.nils, (ii 0)]) h2 λ x3 h4 => vK (aJ 2 h4.get x1) λ x5 => wK (aE E 120 [x5, r1] h4) λ x6 h7 => vK (aG 0 x6) λ x8 => vK (aG 1 x6) λ x9 => vK (aG 2 x6) λ x10 => vK (dB x10 (ii 0)) λ x11 => bK x11 (vK (aJ 2 h7.get x1) λ x12 => wK (bS 2 x3 x12 h7) λ x13 h14 => vK (aJ 2 h14.get x3) λ x15 => some ((.tup [x15, x10]), h14)) (vK (aJ 2 h7.get x1) λ x16 => wK (aE E 121 [x16, x8, x9] h7) λ x17 h18 => bK x17 (vK (aJ 2 h18.get x1) λ x19 => wK (bS 2 x3 x19 h18) λ x20 h21 => vK (aJ 2 h21.get x3) λ x22 => some ((.tup [x22, (ii 6)]), h21)) (aHw E r2 x1 x3 x8 x9 aT (ii 2) h18))
theorem bQX : Is E bTd (bU D66.res) (λ σ h => aHz E (σ p2) (σ p3) (σ p6) (σ p11) (σ p12) h) := Is.rf
abbrev bQf : iF (DV × H) := (cP (λ σ h => aHz E (σ p2) (σ p3) (σ p6) (σ p11) (σ p12) h) (bU D66.res))
theorem bQW : Is E bTc (bV 2 (bQf E)) (λ σ h => aHv E (σ p2) (σ p3) (σ p6) (σ p11) aT (σ p12) h) := Is.lp (λ n4 σ h => aHv E (σ p2) (σ p3) (σ p6) (σ p11) n4 (σ p12) h) λ n4 => Is.aq (Is.leaf _)
theorem bQZ : Is E aYY (bU D66.res) (λ σ h => aMR E (σ p2) (σ p3) (σ p6) (σ p8) (σ p9) (σ p11) h) := Is.aq (Is.sq (Is.sq (Is.sq (Is.sq (Is.sq (bQX E) (Is.bk (bQW E))) (Is.leaf _)) (Is.leaf _)) (Is.leaf _)) (Is.leaf _))
abbrev bQe : iF (DV × H) := (cP (λ σ h => aMR E (σ p2) (σ p3) (σ p6) (σ p8) (σ p9) (σ p11) h) (bU D66.res))
theorem bQY : Is E bTe (bV 0 (bQe E)) (λ σ h => aHw E (σ p2) (σ p3) (σ p6) (σ p8) (σ p9) aT (σ p11) h) := Is.lp (λ n2 σ h => aHw E (σ p2) (σ p3) (σ p6) (σ p8) (σ p9) n2 (σ p11) h) λ n2 => Is.aq (Is.leaf _)
theorem bRa : iB3 E D66 (aSq E) := Is.aq (Is.sq (Is.sq (Is.sq (Is.sq (Is.sq (Is.sq (bQZ E) (Is.bk (bQY E))) (Is.leaf _)) (Is.leaf _)) (Is.leaf _)) (Is.leaf _)) (Is.leaf _))
def S66 : cB := fA3 (aSq E)
theorem bFt : SQ D66 S66 := eB3 bRa
def D67 := cm 67
def bTb := cr (cr (cr (cr (cr (cr (cr (cr D67.body)))))))
def aYq (E : bG) (r2 r4 : DV) (h : H) : aV := vK (aJ 2 h.get r2) λ x1 => wK (bS 2 r4 x1 h) λ x2 h3 => vK (aJ 2 h3.get r4) λ x4 => some ((.tup [x4, (ii 0)]), h3)
def aSp (r0 r1 : DV) (h : H) : aV := dP r0 h λ x1 h2 => dN 2 2 (.list [.nils, (ii 0)]) h2 λ x3 h4 => vK (aJ 2 h4.get x1) λ x5 => wK (aE E 124 [x5, r1] h4) λ x6 h7 => vK (aG 0 x6) λ x8 => vK (aG 1 x6) λ x9 => vK (dB x9 (ii 0)) λ x10 => bK x10 (vK (aJ 2 h7.get x1) λ x11 => wK (bS 2 x3 x11 h7) λ x12 h13 => vK (aJ 2 h13.get x3) λ x14 => some ((.tup [x14, x9]), h13)) (vK (aH 0 x1) λ x15 => vK (aF h7.get x15) λ x16 => vK (cC 5 x16 x8) λ x17 => vK (aH 2 x17) λ x18 => vK (aF h7.get x18) λ x19 => vK (bZ x19 (ii 2)) λ x20 => bK x20 (vK (aJ 2 h7.get x1) λ x21 => wK (bS 2 x3 x21 h7) λ x22 h23 => vK (aJ 2 h23.get x3) λ x24 => some ((.tup [x24, (ii 12)]), h23)) (vK (aH 0 x1) λ x25 => vK (aF h7.get x25) λ x26 => vK (cC 5 x26 x8) λ x27 => vK (aH 0 x27) λ x28 => vK (aF h7.get x28) λ x29 => vK (aJ 2 h7.get x1) λ x30 => wK (aE E 120 [x30, r1] h7) λ x31 h32 => vK (aG 0 x31) λ x33 => vK (aG 1 x31) λ x34 => vK (aG 2 x31) λ x35 => vK (aJ 2 h32.get x1) λ x36 => wK (aE E 125 [x36, x33, x34] h32) λ x37 h38 => wK (bS 2 x1 x37 h38) λ x39 h40 => vK (aJ 2 h40.get x1) λ x41 => wK (aE E 126 [x41, x29] h40) λ x42 h43 => vK (bZ x42 (ii 0)) λ x44 => bK x44 (vK (aJ 2 h43.get x1) λ x45 => wK (aE E 127 [x45, x29] h43) λ x46 h47 => wK (bS 2 x1 x46 h47) λ x48 h49 => aYq E x1 x3 h49) (aYq E x1 x3 h43)))
theorem bQU : Is E bTb (bU D67.res) (λ σ h => aYq E (σ p2) (σ p4) h) := Is.rf
theorem bQV : kV E D67 (aSp E) := Is.aq (Is.sq (Is.sq (Is.sq (Is.sq (Is.sq (Is.sq (Is.sq (Is.sq (bQU E) (Is.leaf _)) (Is.leaf _)) (Is.leaf _)) (Is.leaf _)) (Is.leaf _)) (Is.leaf _)) (Is.leaf _)) (Is.leaf _))
def S67 : cB := kR (aSp E)
theorem bFs : SQ D67 S67 := kW bQV
def D68 := cm 68
def aSo (r0 r1 : DV) (h : H) : aV := dP r0 h λ x1 h2 => dN 2 2 (.list [.nils, (ii 0)]) h2 λ x3 h4 => vK (aJ 2 h4.get x1) λ x5 => wK (aE E 124 [x5, r1] h4) λ x6 h7 => vK (aG 0 x6) λ x8 => vK (aG 1 x6) λ x9 => vK (dB x9 (ii 0)) λ x10 => bK x10 (vK (aJ 2 h7.get x1) λ x11 => wK (bS 2 x3 x11 h7) λ x12 h13 => vK (aJ 2 h13.get x3) λ x14 => some ((.tup [x14, x9]), h13)) (vK (aH 0 x1) λ x15 => vK (aF h7.get x15) λ x16 => vK (cC 5 x16 x8) λ x17 => vK (aH 2 x17) λ x18 => vK (aF h7.get x18) λ x19 => vK (bZ x19 (ii 1)) λ x20 => bK x20 (vK (aJ 2 h7.get x1) λ x21 => wK (bS 2 x3 x21 h7) λ x22 h23 => vK (aJ 2 h23.get x3) λ x24 => some ((.tup [x24, (ii 13)]), h23)) (vK (aH 0 x1) λ x25 => vK (aF h7.get x25) λ x26 => vK (cC 5 x26 x8) λ x27 => vK (aH 0 x27) λ x28 => vK (aF h7.get x28) λ x29 => vK (bZ x29 (ii 1)) λ x30 => bK x30 (vK (aJ 2 h7.get x1) λ x31 => wK (bS 2 x3 x31 h7) λ x32 h33 => vK (aJ 2 h33.get x3) λ x34 => some ((.tup [x34, (ii 1)]), h33)) (vK (aH 0 x1) λ x35 => vK (aF h7.get x35) λ x36 => vK (cC 5 x36 x8) λ x37 => vK (aH 4 x37) λ x38 => vK (aF h7.get x38) λ x39 => vK (bX x39) λ x40 => vK (eF x40 (ii 0)) λ x41 => bK x41 (vK (aJ 2 h7.get x1) λ x42 => wK (bS 2 x3 x42 h7) λ x43 h44 => vK (aJ 2 h44.get x3) λ x45 => some ((.tup [x45, (ii 14)]), h44)) (vK (aH 0 x1) λ x46 => vK (aF h7.get x46) λ x47 => vK (cC 5 x47 x8) λ x48 => vK (aH 0 x48) λ x49 => vK (aF h7.get x49) λ x50 => vK (aJ 2 h7.get x1) λ x51 => wK (aE E 120 [x51, r1] h7) λ x52 h53 => vK (aG 0 x52) λ x54 => vK (aG 1 x52) λ x55 => vK (aG 2 x52) λ x56 => vK (aJ 2 h53.get x1) λ x57 => wK (aE E 125 [x57, x54, x55] h53) λ x58 h59 => wK (aE E 127 [x58, x50] h59) λ x60 h61 => wK (bS 2 x3 x60 h61) λ x62 h63 => vK (aJ 2 h63.get x3) λ x64 => some ((.tup [x64, (ii 0)]), h63)))))
theorem bQT : kV E D68 (aSo E) := Is.rf
def S68 : cB := kR (aSo E)
theorem bFr : SQ D68 S68 := kW bQT
def D69 := cm 69
def aSn (r0 r1 r2 : DV) (h : H) : aV := dP r0 h λ x1 h2 => dN 2 2 (.list [.nils, (ii 0)]) h2 λ x3 h4 => vK (aJ 2 h4.get x1) λ x5 => wK (aE E 124 [x5, r1] h4) λ x6 h7 => vK (aG 0 x6) λ x8 => vK (aG 1 x6) λ x9 => vK (dB x9 (ii 0)) λ x10 => bK x10 (vK (aJ 2 h7.get x1) λ x11 => wK (bS 2 x3 x11 h7) λ x12 h13 => vK (aJ 2 h13.get x3) λ x14 => some ((.tup [x14, x9]), h13)) (vK (aJ 2 h7.get x1) λ x15 => wK (aE E 120 [x15, r2] h7) λ x16 h17 => vK (aG 0 x16) λ x18 => vK (aG 1 x16) λ x19 => vK (aG 2 x16) λ x20 => vK (dB x20 (ii 0)) λ x21 => bK x21 (vK (aJ 2 h17.get x1) λ x22 => wK (bS 2 x3 x22 h17) λ x23 h24 => vK (aJ 2 h24.get x3) λ x25 => some ((.tup [x25, x20]), h24)) (vK (aH 0 x1) λ x26 => vK (aF h17.get x26) λ x27 => vK (cC 5 x27 x8) λ x28 => vK (aH 0 x28) λ x29 => vK (aF h17.get x29) λ x30 => vK (bZ x30 (ii 1)) λ x31 => bT x31 false (λ kk => kk r1 h17) h17 λ x32 h33 => bT x31 false (λ kk => kk r2 h33) h33 λ x34 h35 => bT x31 false (λ kk => wK (aE E 128 [x32, x34] h35) kk) h35 λ x36 h37 => vK (bF x31 (.bool true) x36) λ x38 => bK x38 (vK (aJ 2 h37.get x1) λ x39 => wK (bS 2 x3 x39 h37) λ x40 h41 => vK (aJ 2 h41.get x3) λ x42 => some ((.tup [x42, (ii 1)]), h41)) (wK (aE E 129 [r1] h37) λ x43 h44 => vK (aG 0 x43) λ x45 => vK (aG 1 x43) λ x46 => wK (aE E 129 [r2] h44) λ x47 h48 => vK (aG 0 x47) λ x49 => vK (aG 1 x47) λ x50 => vK (bZ x45 x49) λ x51 => bK x51 (vK (aJ 2 h48.get x1) λ x52 => wK (bS 2 x3 x52 h48) λ x53 h54 => vK (aJ 2 h54.get x3) λ x55 => some ((.tup [x55, (ii 0)]), h54)) (vK (aJ 2 h48.get x1) λ x56 => wK (aE E 120 [x56, r2] h48) λ x57 h58 => vK (aG 0 x57) λ x59 => vK (aG 1 x57) λ x60 => vK (aG 2 x57) λ x61 => vK (aJ 2 h58.get x1) λ x62 => wK (aE E 121 [x62, x59, x19] h58) λ x63 h64 => bK x63 (vK (aJ 2 h64.get x1) λ x65 => wK (bS 2 x3 x65 h64) λ x66 h67 => vK (aJ 2 h67.get x3) λ x68 => some ((.tup [x68, (ii 6)]), h67)) (vK (aJ 2 h64.get x1) λ x69 => wK (aE E 120 [x69, r1] h64) λ x70 h71 => vK (aG 0 x70) λ x72 => vK (aG 1 x70) λ x73 => vK (aG 2 x70) λ x74 => vK (aJ 2 h71.get x1) λ x75 => wK (aE E 125 [x75, x72, x73] h71) λ x76 h77 => wK (bS 2 x1 x76 h77) λ x78 h79 => vK (aJ 2 h79.get x1) λ x80 => wK (aE E 123 [x80, x59, x19, x30] h79) λ x81 h82 => wK (bS 2 x3 x81 h82) λ x83 h84 => vK (aJ 2 h84.get x3) λ x85 => some ((.tup [x85, (ii 0)]), h84))))))
theorem bQS : iB3 E D69 (aSn E) := Is.rf
def S69 : cB := fA3 (aSn E)
theorem bFq : SQ D69 S69 := eB3 bQS
def D70 := cm 70
def aSm (r0 r1 r2 : DV) (h : H) : aV := dP r0 h λ x1 h2 => dN 2 2 (.list [.nils, (ii 0)]) h2 λ x3 h4 => vK (aJ 2 h4.get x1) λ x5 => wK (aE E 124 [x5, r1] h4) λ x6 h7 => vK (aG 0 x6) λ x8 => vK (aG 1 x6) λ x9 => vK (dB x9 (ii 0)) λ x10 => bK x10 (vK (aJ 2 h7.get x1) λ x11 => wK (bS 2 x3 x11 h7) λ x12 h13 => vK (aJ 2 h13.get x3) λ x14 => some ((.tup [x14, x9]), h13)) (vK (aJ 2 h7.get x1) λ x15 => wK (aE E 120 [x15, r2] h7) λ x16 h17 => vK (aG 0 x16) λ x18 => vK (aG 1 x16) λ x19 => vK (aG 2 x16) λ x20 => vK (dB x20 (ii 0)) λ x21 => bK x21 (vK (aJ 2 h17.get x1) λ x22 => wK (bS 2 x3 x22 h17) λ x23 h24 => vK (aJ 2 h24.get x3) λ x25 => some ((.tup [x25, x20]), h24)) (vK (aH 0 x1) λ x26 => vK (aF h17.get x26) λ x27 => vK (cC 5 x27 x8) λ x28 => vK (aH 2 x28) λ x29 => vK (aF h17.get x29) λ x30 => vK (bZ x30 (ii 2)) λ x31 => bK x31 (vK (aJ 2 h17.get x1) λ x32 => wK (bS 2 x3 x32 h17) λ x33 h34 => vK (aJ 2 h34.get x3) λ x35 => some ((.tup [x35, (ii 12)]), h34)) (vK (aJ 2 h17.get x1) λ x36 => wK (aE E 121 [x36, x18, x19] h17) λ x37 h38 => bK x37 (vK (aJ 2 h38.get x1) λ x39 => wK (bS 2 x3 x39 h38) λ x40 h41 => vK (aJ 2 h41.get x3) λ x42 => some ((.tup [x42, (ii 6)]), h41)) (vK (aJ 2 h38.get x1) λ x43 => vK (aH 0 x1) λ x44 => vK (aF h38.get x44) λ x45 => vK (cC 5 x45 x8) λ x46 => vK (aH 0 x46) λ x47 => vK (aF h38.get x47) λ x48 => wK (aE E 126 [x43, x48] h38) λ x49 h50 => vK (oR x49 (ii 100)) λ x51 => bK x51 (vK (aJ 2 h50.get x1) λ x52 => wK (bS 2 x3 x52 h50) λ x53 h54 => vK (aJ 2 h54.get x3) λ x55 => some ((.tup [x55, (ii 5)]), h54)) (vK (aJ 2 h50.get x1) λ x56 => vK (aH 0 x1) λ x57 => vK (aF h50.get x57) λ x58 => vK (cC 5 x58 x8) λ x59 => vK (aH 0 x59) λ x60 => vK (aF h50.get x60) λ x61 => wK (aE E 123 [x56, x18, x19, x61] h50) λ x62 h63 => wK (bS 2 x3 x62 h63) λ x64 h65 => vK (aJ 2 h65.get x3) λ x66 => some ((.tup [x66, (ii 0)]), h65))))))
theorem bQR : iB3 E D70 (aSm E) := Is.rf
def S70 : cB := fA3 (aSm E)
theorem bFp : SQ D70 S70 := eB3 bQR
def D71 := cm 71
def aSl (r0 r1 r2 r3 : DV) (h : H) : aV := dP r0 h λ x1 h2 => dN 2 2 (.list [.nils, (ii 0)]) h2 λ x3 h4 => vK (aJ 2 h4.get x1) λ x5 => wK (aE E 130 [x5, r1] h4) λ x6 h7 => vK (aG 0 x6) λ x8 => vK (aG 1 x6) λ x9 => vK (dB x9 (ii 0)) λ x10 => bK x10 (vK (aJ 2 h7.get x1) λ x11 => wK (bS 2 x3 x11 h7) λ x12 h13 => vK (aJ 2 h13.get x3) λ x14 => some ((.tup [x14, x9]), h13)) (vK (aJ 2 h7.get x1) λ x15 => wK (aE E 90 [x15, x8, r2, r3] h7) λ x16 h17 => vK (aG 0 x16) λ x18 => vK (aG 1 x16) λ x19 => wK (bS 2 x3 x18 h17) λ x20 h21 => vK (aJ 2 h21.get x3) λ x22 => some ((.tup [x22, x19]), h21))
theorem bQQ : iB4 E D71 (aSl E) := Is.rf
def S71 : cB := fA4 (aSl E)
theorem bFo : SQ D71 S71 := eB4 bQQ
def D72 := cm 72
def bTa := cr (cr (cr (cr (cr (cr D72.body)))))
def aMQ (r2 r3 r6 r8 r10 : DV) (h : H) : aV := vK (aJ 2 h.get r3) λ x1 => vK (gV r10 none (some r2)) λ x2 => wK (aE E 132 [x1, r8, x2] h) λ x3 h4 => vK (aG 0 x3) λ x5 => vK (aG 1 x3) λ x6 => wK (bS 2 r6 x5 h4) λ x7 h8 => vK (aJ 2 h8.get r6) λ x9 => some ((.tup [x9, x6]), h8)
def aSk (r0 r1 r2 : DV) (h : H) : aV := dP r0 h λ x1 h2 => dN 2 2 (.list [.nils, (ii 0)]) h2 λ x3 h4 => vK (aJ 2 h4.get x1) λ x5 => wK (aE E 130 [x5, r1] h4) λ x6 h7 => vK (aG 0 x6) λ x8 => vK (aG 1 x6) λ x9 => vK (dB x9 (ii 0)) λ x10 => bK x10 (vK (aJ 2 h7.get x1) λ x11 => wK (bS 2 x3 x11 h7) λ x12 h13 => vK (aJ 2 h13.get x3) λ x14 => some ((.tup [x14, x9]), h13)) (vK (cW r2 (ii 0)) λ x15 => bT x15 false (λ kk => kk r2 h7) h7 λ x16 h17 => bT x15 false (λ kk => vK (eF x16 (ii 16384)) λ v => kk v h17) h17 λ x18 h19 => vK (bF x15 (.bool true) x18) λ x20 => bK x20 (vK (aJ 2 h19.get x1) λ x21 => wK (bS 2 x3 x21 h19) λ x22 h23 => vK (aJ 2 h23.get x3) λ x24 => some ((.tup [x24, (ii 1)]), h23)) (vK (aH 0 x1) λ x25 => vK (aF h19.get x25) λ x26 => vK (cC 5 x26 x8) λ x27 => vK (aH 3 x27) λ x28 => vK (aF h19.get x28) λ x29 => vK (cA x29) λ x30 => vK (eF r2 x30) λ x31 => bK x31 (vK (cA x29) λ x32 => vK (fE r2 x32) λ x33 => wK (aE E 131 [x33] h19) λ x34 h35 => vK (bJ x29 x34) λ x36 => aMQ E r2 x1 x3 x8 x36 h35) (aMQ E r2 x1 x3 x8 x29 h19)))
theorem bQO : Is E bTa (bU D72.res) (λ σ h => aMQ E (σ p2) (σ p3) (σ p6) (σ p8) (σ p10) h) := Is.rf
theorem bQP : iB3 E D72 (aSk E) := Is.aq (Is.sq (Is.sq (Is.sq (Is.sq (Is.sq (Is.sq (bQO E) (Is.leaf _)) (Is.leaf _)) (Is.leaf _)) (Is.leaf _)) (Is.leaf _)) (Is.leaf _))
def S72 : cB := fA3 (aSk E)
theorem bFn : SQ D72 S72 := eB3 bQP
def D73 := cm 73
def aSj (r0 r1 : DV) (h : H) : aV := dP r0 h λ x1 h2 => dP r1 h2 λ x3 h4 => vK (aH 0 x3) λ x5 => vK (aF h4.get x5) λ x6 => vK (bZ x6 (ii 9)) λ x7 => bK x7 (vK (aJ 2 h4.get x1) λ x8 => vK (aH 3 x3) λ x9 => vK (aF h4.get x9) λ x10 => vK (aH 1 x3) λ x11 => vK (aF h4.get x11) λ x12 => vK (aH 2 x3) λ x13 => vK (aF h4.get x13) λ x14 => wK (aE E 80 [x8, x10, x12, x14] h4) λ x15 h16 => vK (aG 0 x15) λ x17 => vK (aG 1 x15) λ x18 => some ((.tup [x18, x17]), h16)) (vK (bZ x6 (ii 10)) λ x19 => bK x19 (vK (aJ 2 h4.get x1) λ x20 => vK (aH 3 x3) λ x21 => vK (aF h4.get x21) λ x22 => wK (aE E 81 [x20, x22] h4) λ x23 h24 => vK (aG 0 x23) λ x25 => vK (aG 1 x23) λ x26 => dN 5 5 (.list [(ii 0), (ii 0), (ii 0), (ii 0), (ii 0)]) h24 λ x27 h28 => wK (bS 5 x27 x25 h28) λ x29 h30 => vK (dB x26 (ii 0)) λ x31 => bK x31 (some ((.tup [x26, (.str [])]), h30)) (vK (aH 0 x27) λ x32 => vK (aF h30.get x32) λ x33 => vK (aH 1 x27) λ x34 => vK (aF h30.get x34) λ x35 => vK (aH 2 x27) λ x36 => vK (aF h30.get x36) λ x37 => vK (aH 3 x27) λ x38 => vK (aF h30.get x38) λ x39 => vK (aH 4 x27) λ x40 => vK (aF h30.get x40) λ x41 => wK (aE E 53 [x33] h30) λ x42 h43 => rK (tY (aF h43.get x40) x41) <| rK (tY (aF h43.get x38) x39) <| rK (tY (aF h43.get x36) x37) <| rK (tY (aF h43.get x34) x35) <| wK (aE E 53 [x35] h43) λ x44 h45 => rK (tY (aF h45.get x40) x41) <| rK (tY (aF h45.get x38) x39) <| rK (tY (aF h45.get x36) x37) <| vK (bJ x42 x44) λ x46 => wK (aE E 53 [x37] h45) λ x47 h48 => rK (tY (aF h48.get x40) x41) <| rK (tY (aF h48.get x38) x39) <| vK (bJ x46 x47) λ x49 => wK (aE E 53 [x39] h48) λ x50 h51 => rK (tY (aF h51.get x40) x41) <| vK (bJ x49 x50) λ x52 => wK (aE E 53 [x41] h51) λ x53 h54 => vK (bJ x52 x53) λ x55 => some ((.tup [(ii 0), x55]), h54))) (vK (aJ 2 h4.get x1) λ x56 => vK (aH 3 x3) λ x57 => vK (aF h4.get x57) λ x58 => wK (aE E 82 [x56, x58] h4) λ x59 h60 => vK (aG 0 x59) λ x61 => vK (aG 1 x59) λ x62 => vK (dB x62 (ii 0)) λ x63 => bK x63 (some ((.tup [x62, (.str [])]), h60)) (wK (aE E 133 [x61] h60) λ x64 h65 => some ((.tup [(ii 0), x64]), h65))))
theorem bQN : kV E D73 (aSj E) := Is.rf
def S73 : cB := kR (aSj E)
theorem bFm : SQ D73 S73 := kW bQN
def D74 := cm 74
def aSi (r0 r1 : DV) (h : H) : aV := wK (aE E 48 [(ii 65536)] h) λ x1 h2 => wK (kE E r0 [x1] h2) λ x3 h4 => wK (aE E 52 [x1] h4) λ x5 h6 => vK (aG 0 x5) λ x7 => vK (aG 1 x5) λ x8 => vK (aF h6.get r1) λ x9 => wK (cF 1 1 x9 x7 h6) λ x10 h11 => wK (bS 1 r1 x10 h11) λ x12 h13 => some ((.tup []), h13)
theorem bQM : kV E D74 (aSi E) := Is.rf
def S74 : cB := kR (aSi E)
theorem bFl : SQ D74 S74 := kW bQM
def D75 := cm 75
def aSh (r0 r1 r2 : DV) (h : H) : aV := vK (aF h.get r1) λ x1 => vK (aW x1) λ x2 => vK (aH 512 x2) λ x3 => vK (aF h.get x3) λ x4 => wK (aE E 50 [r0, x4] h) λ x5 h6 => vK (aF h6.get r2) λ x7 => wK (aE E 50 [r0, x7] h6) λ x8 h9 => some ((.tup []), h9)
theorem bQL : iB3 E D75 (aSh E) := Is.rf
def S75 : cB := fA3 (aSh E)
theorem bFk : SQ D75 S75 := eB3 bQL
def D76 := cm 76
def aSg (r0 r1 r2 : DV) (h : H) : aV := vK (aF h.get r1) λ x1 => wK (aE E 50 [r0, x1] h) λ x2 h3 => vK (aH 0 r2) λ x4 => vK (aF h3.get x4) λ x5 => wK (aE E 50 [r0, x5] h3) λ x6 h7 => vK (aH 1 r2) λ x8 => vK (aF h7.get x8) λ x9 => wK (vH E [(120, 217), (141, 221)] x9 [] h7) λ x10 h11 => wK (aE E 49 [r0, x10] h11) λ x12 h13 => vK (aH 1 r2) λ x14 => vK (aF h13.get x14) λ x15 => wK (vH E [(120, 219), (141, 223)] x15 [] h13) λ x16 h17 => wK (aE E 51 [r0, x16] h17) λ x18 h19 => some ((.tup []), h19)
theorem bQK : iB3 E D76 (aSg E) := Is.rf
def S76 : cB := fA3 (aSg E)
theorem bFj : SQ D76 S76 := eB3 bQK
def D77 := cm 77
def bSZ := cr (cr (cr D77.body))
def bSY := cl (cr (cl (cr (cr D77.body))))
def aYp (E : bG) (r3 : DV) (h : H) : aV := some (r3, h)
def aNf (r0 : DV) (i2 : DV → DV → H → aV) (r3 r4 : DV) (h : H) : aV := vK (bX r0) λ x1 => vK (cW r4 x1) λ x2 => bK x2 (vK (cC 2 r0 r4) λ x3 => vK (aH 0 x3) λ x4 => vK (aF h.get x4) λ x5 => vK (cC 2 r0 r4) λ x6 => vK (aH 1 x6) λ x7 => vK (aF h.get x7) λ x8 => wK (aE E 54 [x5] h) λ x9 h10 => rK (tY (aF h10.get x7) x8) <| wK (aE E 53 [x8] h10) λ x11 h12 => vK (bJ x9 x11) λ x13 => vK (bJ r3 x13) λ x14 => vK (bJ r4 (ii 1)) λ x15 => i2 x14 x15 h12) (aYp E r3 h)
def aHu (r0 : DV) (n : Nat) : DV → DV → H → aV := Nat.rec (motive := λ _ => DV → DV → H → aV) (λ _ _ _ => none) (λ _ i => aNf E r0 i) n
def aSf (r0 : DV) (h : H) : aV := vK (bX r0) λ x1 => wK (aE E 53 [x1] h) λ x2 h3 => aHu E r0 aT x2 (ii 0) h3
theorem bQI : Is E bSZ (bU D77.res) (λ σ h => aYp E (σ p3) h) := Is.rf
abbrev bQd : iF (DV × H) := (cP (λ σ h => aYp E (σ p3) h) (bU D77.res))
theorem bQH : Is E bSY (bV 0 (bQd E)) (λ σ h => aHu E (σ p0) aT (σ p3) (σ p4) h) := Is.lp (λ n2 σ h => aHu E (σ p0) n2 (σ p3) (σ p4) h) λ n2 => Is.aq (Is.leaf _)
theorem bQJ : nT E D77 (aSf E) := Is.aq (Is.sq (Is.sq (Is.sq (bQI E) (Is.sq (Is.bk (bQH E)) (Is.leaf _))) (Is.leaf _)) (Is.leaf _))
def S77 : cB := nO (aSf E)
theorem bFi : SQ D77 S77 := nX bQJ
def D80 := cm 80
def aSe (r0 r1 r2 r3 : DV) (h : H) : aV := dP r0 h λ x1 h2 => vK (aJ 2 h2.get x1) λ x3 => wK (aE E 130 [x3, r1] h2) λ x4 h5 => vK (aG 0 x4) λ x6 => vK (aG 1 x4) λ x7 => vK (dB x7 (ii 0)) λ x8 => bK x8 (some ((.tup [(.str []), x7]), h5)) (vK (aJ 2 h5.get x1) λ x9 => wK (aE E 93 [x9, x6, r2, r3] h5) λ x10 h11 => vK (aG 0 x10) λ x12 => vK (aG 1 x10) λ x13 => some ((.tup [x12, x13]), h11))
theorem bQG : iB4 E D80 (aSe E) := Is.rf
def S80 : cB := fA4 (aSe E)
theorem bFh : SQ D80 S80 := eB4 bQG
def D81 := cm 81
def bSX := cr (cr (cr (cr (cr (cr D81.body)))))
def aMP (E : bG) (r4 r9 : DV) (h : H) : aV := vK (aJ 5 h.get r9) λ x1 => wK (bS 5 r4 x1 h) λ x2 h3 => vK (aJ 5 h3.get r4) λ x4 => some ((.tup [x4, (ii 0)]), h3)
def aSd (r0 r1 : DV) (h : H) : aV := dP r0 h λ x1 h2 => dN 5 5 (.list [(ii 0), (ii 0), (ii 0), (ii 0), (ii 0)]) h2 λ x3 h4 => vK (aJ 2 h4.get x1) λ x5 => wK (aE E 124 [x5, r1] h4) λ x6 h7 => vK (aG 0 x6) λ x8 => vK (aG 1 x6) λ x9 => vK (dB x9 (ii 0)) λ x10 => bK x10 (vK (dL [(ii 0), (ii 0), (ii 0), (ii 0), (ii 0)] []) λ x11 => wK (bS 5 x3 x11 h7) λ x12 h13 => vK (aJ 5 h13.get x3) λ x14 => some ((.tup [x14, x9]), h13)) (vK (aH 0 x1) λ x15 => vK (aF h7.get x15) λ x16 => vK (cC 5 x16 x8) λ x17 => vK (aJ 5 h7.get x17) λ x18 => dN 5 5 (.list [(ii 0), (ii 0), (ii 0), (.str []), .nils]) h7 λ x19 h20 => wK (bS 5 x19 x18 h20) λ x21 h22 => vK (aH 0 x19) λ x23 => vK (aF h22.get x23) λ x24 => vK (aH 1 x19) λ x25 => vK (aF h22.get x25) λ x26 => vK (aH 2 x19) λ x27 => vK (aF h22.get x27) λ x28 => vK (aH 4 x19) λ x29 => vK (aF h22.get x29) λ x30 => vK (bX x30) λ x31 => vK (dL [(ii 0), (ii 0), (ii 0), (ii 0), (ii 0)] [(0, 1, x24), (1, 1, x26), (2, 1, x28), (3, 1, x31), (4, 1, (ii 1))]) λ x32 => dN 5 5 (.list [(ii 0), (ii 0), (ii 0), (ii 0), (ii 0)]) h22 λ x33 h34 => wK (bS 5 x33 x32 h34) λ x35 h36 => vK (aH 2 x19) λ x37 => vK (aF h36.get x37) λ x38 => vK (bZ x38 (ii 1)) λ x39 => bK x39 (vK (aH 3 x19) λ x40 => vK (aF h36.get x40) λ x41 => vK (cA x41) λ x42 => vK (aH 3 x33) λ x43 => wK (bS 1 x43 x42 h36) λ x44 h45 => vK (aJ 2 h45.get x1) λ x46 => vK (aH 0 x19) λ x47 => vK (aF h45.get x47) λ x48 => wK (aE E 126 [x46, x48] h45) λ x49 h50 => vK (aH 4 x33) λ x51 => wK (bS 1 x51 x49 h50) λ x52 h53 => aMP E x3 x33 h53) (aMP E x3 x33 h36))
theorem bQE : Is E bSX (bU D81.res) (λ σ h => aMP E (σ p4) (σ p9) h) := Is.rf
theorem bQF : kV E D81 (aSd E) := Is.aq (Is.sq (Is.sq (Is.sq (Is.sq (Is.sq (Is.sq (bQE E) (Is.leaf _)) (Is.leaf _)) (Is.leaf _)) (Is.leaf _)) (Is.leaf _)) (Is.leaf _))
def S81 : cB := kR (aSd E)
theorem bFg : SQ D81 S81 := kW bQF
def D82 := cm 82
def aSc (r0 r1 : DV) (h : H) : aV := dP r0 h λ x1 h2 => vK (aJ 2 h2.get x1) λ x3 => wK (aE E 124 [x3, r1] h2) λ x4 h5 => vK (aG 0 x4) λ x6 => vK (aG 1 x4) λ x7 => vK (dB x7 (ii 0)) λ x8 => bK x8 (some ((.tup [.nils, x7]), h5)) (vK (aH 0 x1) λ x9 => vK (aF h5.get x9) λ x10 => vK (cC 5 x10 x6) λ x11 => vK (aH 2 x11) λ x12 => vK (aF h5.get x12) λ x13 => vK (bZ x13 (ii 1)) λ x14 => bK x14 (some ((.tup [.nils, (ii 13)]), h5)) (vK (aH 0 x1) λ x15 => vK (aF h5.get x15) λ x16 => vK (cC 5 x16 x6) λ x17 => vK (aH 4 x17) λ x18 => vK (aF h5.get x18) λ x19 => wK (aE E 136 [x19] h5) λ x20 h21 => some ((.tup [x20, (ii 0)]), h21)))
theorem bQD : kV E D82 (aSc E) := Is.rf
def S82 : cB := kR (aSc E)
theorem bFf : SQ D82 S82 := kW bQD
def D83 := cm 83
def aSb (r0 r1 : DV) (h : H) : aV := wK (aE E 85 [r0, r1] h) λ x1 h2 => vK (aG 0 x1) λ x3 => vK (aG 1 x1) λ x4 => vK (dB x4 (ii 0)) λ x5 => bK x5 (some ((.tup [.nilp, x4]), h2)) (wK (aE E 86 [r0, x3] h2) λ x6 h7 => vK (eN .ptr false h7.get x6 .nilp) λ x8 => bK x8 (some ((.tup [.nilp, (ii 12)]), h7)) (some ((.tup [x6, (ii 0)]), h7)))
theorem bQC : kV E D83 (aSb E) := Is.rf
def S83 : cB := kR (aSb E)
theorem bFe : SQ D83 S83 := kW bQC
def D84 := cm 84
def aSa (E : bG) (r0 r1 r2 : DV) (h : H) : aV := vK (cW r1 (ii 0)) λ x1 => bT x1 false (λ kk => kk r2 h) h λ x2 h3 => bT x1 false (λ kk => vK (cW x2 (ii 0)) λ v => kk v h3) h3 λ x4 h5 => vK (bF x1 (.bool true) x4) λ x6 => bK x6 (some ((.tup [(.str []), (ii 1)]), h5)) (vK (aW r0) λ x7 => vK (aH 0 x7) λ x8 => vK (aF h5.get x8) λ x9 => vK (aW r0) λ x10 => vK (aH 0 x10) λ x11 => vK (aF h5.get x11) λ x12 => vK (cA x12) λ x13 => vK (zS r1 x13) λ x14 => vK (gV x9 (some x14) none) λ x15 => vK (cA x15) λ x16 => vK (zS r2 x16) λ x17 => vK (gV x15 none (some x17)) λ x18 => some ((.tup [x18, (ii 0)]), h5))
theorem bQB : iB3 E D84 (aSa E) := Is.rf
def S84 : cB := fA3 (aSa E)
theorem bFd : SQ D84 S84 := eB3 bQB
def D85 := cm 85
def aRZ (r0 r1 : DV) (h : H) : aV := vK (eN .ptr false h.get r0 .nilp) λ x1 => bK x1 (some ((.tup [(ii 0), (ii 1)]), h)) (wK (aE E 137 [r1] h) λ x2 h3 => vK (aG 0 x2) λ x4 => vK (aG 1 x2) λ x5 => vK (dB x5 (ii 0)) λ x6 => bK x6 (some ((.tup [(ii 0), x5]), h3)) (wK (aE E 138 [r0, x4] h3) λ x7 h8 => vK (aG 0 x7) λ x9 => vK (aG 1 x7) λ x10 => some ((.tup [x9, x10]), h8)))
theorem bQA : kV E D85 (aRZ E) := Is.rf
def S85 : cB := kR (aRZ E)
theorem bFc : SQ D85 S85 := kW bQA
def D86 := cm 86
def aRY (E : bG) (r0 r1 : DV) (h : H) : aV := vK (aW r0) λ x1 => vK (aH 0 x1) λ x2 => vK (nZ 256 2 x2 r1) λ x3 => vK (aH 1 x3) λ x4 => vK (aF h.get x4) λ x5 => vK (mI 141 .nilp true x5) λ x6 => vK (aG 0 x6) λ x7 => vK (aG 1 x6) λ x8 => some (x7, h)
theorem bQz : kV E D86 (aRY E) := Is.rf
def S86 : cB := kR (aRY E)
theorem bFb : SQ D86 S86 := kW bQz
def D87 := cm 87
def aRX (E : bG) (r0 r1 : DV) (h : H) : aV := vK (aW r0) λ x1 => vK (aH 0 x1) λ x2 => vK (nZ 256 2 x2 r1) λ x3 => vK (aH 1 x3) λ x4 => vK (aF h.get x4) λ x5 => vK (mI 120 (.agg [.nilp]) true x5) λ x6 => vK (aG 0 x6) λ x7 => vK (aG 1 x6) λ x8 => dN 1 1 (.list [.nilp]) h λ x9 h10 => wK (bS 1 x9 x7 h10) λ x11 h12 => vK (nE x8) λ x13 => bK x13 (some (.nilp, h12)) (vK (aH 0 x9) λ x14 => vK (aF h12.get x14) λ x15 => some (x15, h12))
theorem bQy : kV E D87 (aRX E) := Is.rf
def S87 : cB := kR (aRX E)
theorem bFa : SQ D87 S87 := kW bQy
def D88 := cm 88
def bSW := cr (cr (cr (cr D88.body)))
def bSV := cl (cr (cl (cr (cr (cr D88.body)))))
def aYo (E : bG) (r3 : DV) (h : H) : aV := some (r3, h)
def aNe (r11 r12 : DV) (i2 : DV → DV → H → aV) (r3 r13 : DV) (h : H) : aV := vK (cW r13 r12) λ x1 => bK x1 (vK (cC 2 r11 r13) λ x2 => vK (aJ 2 h.get x2) λ x3 => dN 2 2 (.list [(.str []), (ii 0)]) h λ x4 h5 => wK (bS 2 x4 x3 h5) λ x6 h7 => vK (aH 0 x4) λ x8 => vK (aF h7.get x8) λ x9 => fT 1 1 [(.str [])] [(0, 1, x9)] h7 λ x10 h11 => wK (cF 1 16 r3 x10 h11) λ x12 h13 => vK (bJ r13 (ii 1)) λ x14 => i2 x12 x14 h13) (aYo E r3 h)
def aHt (r11 r12 : DV) (n : Nat) : DV → DV → H → aV := Nat.rec (motive := λ _ => DV → DV → H → aV) (λ _ _ _ => none) (λ _ i => aNe E r11 r12 i) n
def aRW (r0 : DV) (h : H) : aV := vK (eN .ptr false h.get r0 .nilp) λ x1 => bK x1 (some (.nils, h)) (vK (aW r0) λ x2 => vK (aH 0 x2) λ x3 => vK (aF h.get x3) λ x4 => vK (bX x4) λ x5 => aHt E x4 x5 aT .nils (ii 0) h)
theorem bQw : Is E bSW (bU D88.res) (λ σ h => aYo E (σ p3) h) := Is.rf
abbrev bQc : iF (DV × H) := (cP (λ σ h => aYo E (σ p3) h) (bU D88.res))
theorem bQv : Is E bSV (bV 0 (bQc E)) (λ σ h => aHt E (σ p11) (σ p12) aT (σ p3) (σ p13) h) := Is.lp (λ n2 σ h => aHt E (σ p11) (σ p12) n2 (σ p3) (σ p13) h) λ n2 => Is.aq (Is.leaf _)
theorem bQx : nT E D88 (aRW E) := Is.aq (Is.sq (Is.sq (Is.sq (Is.sq (bQw E) (Is.sq (Is.bk (bQv E)) (Is.leaf _))) (Is.leaf _)) (Is.leaf _)) (Is.leaf _))
def S88 : cB := nO (aRW E)
theorem bEZ : SQ D88 S88 := nX bQx
def D90 := cm 90
def aRV (r0 r1 r2 r3 : DV) (h : H) : aV := dP r0 h λ x1 h2 => dN 2 2 (.list [.nils, (ii 0)]) h2 λ x3 h4 => vK (cW r2 (ii 0)) λ x5 => bK x5 (vK (aJ 2 h4.get x1) λ x6 => wK (bS 2 x3 x6 h4) λ x7 h8 => vK (aJ 2 h8.get x3) λ x9 => some ((.tup [x9, (ii 1)]), h8)) (vK (cA r3) λ x10 => vK (eF x10 (ii 16384)) λ x11 => bT x11 false (λ kk => kk r2 h4) h4 λ x12 h13 => bT x11 false (λ kk => kk r3 h13) h13 λ x14 h15 => bT x11 false (λ kk => vK (cA x14) λ v => kk v h15) h15 λ x16 h17 => bT x11 false (λ kk => vK (fE (ii 16384) x16) λ v => kk v h17) h17 λ x18 h19 => bT x11 false (λ kk => vK (eF x12 x18) λ v => kk v h19) h19 λ x20 h21 => vK (bF x11 (.bool true) x20) λ x22 => bK x22 (vK (aJ 2 h21.get x1) λ x23 => wK (bS 2 x3 x23 h21) λ x24 h25 => vK (aJ 2 h25.get x3) λ x26 => some ((.tup [x26, (ii 2)]), h25)) (vK (bZ r3 (.str [])) λ x27 => bK x27 (vK (aJ 2 h21.get x1) λ x28 => wK (bS 2 x3 x28 h21) λ x29 h30 => vK (aJ 2 h30.get x3) λ x31 => some ((.tup [x31, (ii 0)]), h30)) (vK (aH 0 x1) λ x32 => vK (aF h21.get x32) λ x33 => vK (cC 5 x33 r1) λ x34 => vK (aH 3 x34) λ x35 => vK (aF h21.get x35) λ x36 => wK (aE E 139 [x36, r2, r3] h21) λ x37 h38 => vK (aG 0 x37) λ x39 => vK (aG 1 x37) λ x40 => vK (aJ 2 h38.get x1) λ x41 => wK (aE E 132 [x41, r1, x39] h38) λ x42 h43 => vK (aG 0 x42) λ x44 => vK (aG 1 x42) λ x45 => wK (bS 2 x3 x44 h43) λ x46 h47 => vK (aJ 2 h47.get x3) λ x48 => some ((.tup [x48, x45]), h47))))
theorem bQu : iB4 E D90 (aRV E) := Is.rf
def S90 : cB := fA4 (aRV E)
theorem bEY : SQ D90 S90 := eB4 bQu
def D92 := cm 92
def aRU (r0 r1 r2 r3 : DV) (h : H) : aV := vK (cW r2 (ii 0)) λ x1 => bK x1 (some ((ii 1), h)) (vK (cA r3) λ x2 => vK (eF x2 (ii 16384)) λ x3 => bT x3 false (λ kk => kk r2 h) h λ x4 h5 => bT x3 false (λ kk => kk r3 h5) h5 λ x6 h7 => bT x3 false (λ kk => vK (cA x6) λ v => kk v h7) h7 λ x8 h9 => bT x3 false (λ kk => vK (fE (ii 16384) x8) λ v => kk v h9) h9 λ x10 h11 => bT x3 false (λ kk => vK (eF x4 x10) λ v => kk v h11) h11 λ x12 h13 => vK (bF x3 (.bool true) x12) λ x14 => bK x14 (some ((ii 2), h13)) (vK (bZ r3 (.str [])) λ x15 => bK x15 (some ((ii 0), h13)) (vK (aW r1) λ x16 => vK (aH 0 x16) λ x17 => vK (aF h13.get x17) λ x18 => wK (aE E 140 [x18, r2, r3] h13) λ x19 h20 => vK (aG 0 x19) λ x21 => vK (aG 1 x19) λ x22 => wK (aE E 102 [r0, r1, x21] h20) λ x23 h24 => some (x23, h24))))
theorem bQt : iB4 E D92 (aRU E) := Is.rf
def S92 : cB := fA4 (aRU E)
theorem bEX : SQ D92 S92 := eB4 bQt
def D93 := cm 93
def aRT (E : bG) (r0 r1 r2 r3 : DV) (h : H) : aV := dP r0 h λ x1 h2 => vK (cW r2 (ii 0)) λ x3 => bT x3 false (λ kk => kk r3 h2) h2 λ x4 h5 => bT x3 false (λ kk => vK (cW x4 (ii 0)) λ v => kk v h5) h5 λ x6 h7 => vK (bF x3 (.bool true) x6) λ x8 => bK x8 (some ((.tup [(.str []), (ii 1)]), h7)) (vK (aH 0 x1) λ x9 => vK (aF h7.get x9) λ x10 => vK (cC 5 x10 r1) λ x11 => vK (aH 3 x11) λ x12 => vK (aF h7.get x12) λ x13 => vK (cA x13) λ x14 => vK (zS r2 x14) λ x15 => vK (cA x13) λ x16 => vK (fE x16 x15) λ x17 => vK (zS r3 x17) λ x18 => vK (bJ x15 x18) λ x19 => vK (gV x13 (some x15) (some x19)) λ x20 => some ((.tup [x20, (ii 0)]), h7))
theorem bQs : iB4 E D93 (aRT E) := Is.rf
def S93 : cB := fA4 (aRT E)
theorem bEW : SQ D93 S93 := eB4 bQs
def D94 := cm 94
def aRS (r0 r1 r2 : DV) (h : H) : aV := wK (aE E 95 [r0, r1] h) λ x1 h2 => vK (aG 0 x1) λ x3 => vK (aG 1 x1) λ x4 => dN 2 2 (.list [.nilp, (.str [])]) h2 λ x5 h6 => wK (bS 2 x5 x3 h6) λ x7 h8 => vK (dB x4 (ii 0)) λ x9 => bK x9 (some (x4, h8)) (vK (aJ 2 h8.get x5) λ x10 => wK (aE E 99 [x10] h8) λ x11 h12 => bK x11 (some ((ii 6), h12)) (wK (aE E 141 [r0] h12) λ x13 h14 => vK (bZ x13 (ii 0)) λ x15 => bK x15 (some ((ii 5), h14)) (vK (aW r0) λ x16 => vK (aH 512 x16) λ x17 => vK (aF h14.get x17) λ x18 => vK (bJ x18 (ii 1)) λ x19 => vK (aW r0) λ x20 => vK (aH 512 x20) λ x21 => wK (bS 1 x21 x19 h14) λ x22 h23 => vK (aW r0) λ x24 => vK (aH 512 x24) λ x25 => vK (aF h23.get x25) λ x26 => vK (dL [(ii 0), .nili] [(0, 1, x26), (1, 1, r2)]) λ x27 => vK (aW r0) λ x28 => vK (aH 0 x28) λ x29 => vK (nZ 256 2 x29 x13) λ x30 => wK (bS 2 x30 x27 h23) λ x31 h32 => vK (aH 0 x5) λ x33 => vK (aF h32.get x33) λ x34 => vK (aH 1 x5) λ x35 => vK (aF h32.get x35) λ x36 => wK (aE E 100 [x34, x36, x13] h32) λ x37 h38 => some ((ii 0), h38))))
theorem bQr : iB3 E D94 (aRS E) := Is.rf
def S94 : cB := fA3 (aRS E)
theorem bEV : SQ D94 S94 := eB3 bQr
def D95 := cm 95
def aRR (r0 r1 : DV) (h : H) : aV := dN 2 2 (.list [.nilp, (.str [])]) h λ x1 h2 => vK (eN .ptr false h2.get r0 .nilp) λ x3 => bK x3 (vK (dL [.nilp, (.str [])] []) λ x4 => wK (bS 2 x1 x4 h2) λ x5 h6 => vK (aJ 2 h6.get x1) λ x7 => some ((.tup [x7, (ii 1)]), h6)) (wK (aE E 137 [r1] h2) λ x8 h9 => vK (aG 0 x8) λ x10 => vK (aG 1 x8) λ x11 => vK (dB x11 (ii 0)) λ x12 => bT x12 false (λ kk => kk x10 h9) h9 λ x13 h14 => bT x12 false (λ kk => vK (bX x13) λ v => kk v h14) h14 λ x15 h16 => bT x12 false (λ kk => vK (bZ x15 (ii 0)) λ v => kk v h16) h16 λ x17 h18 => vK (bF x12 (.bool true) x17) λ x19 => bK x19 (vK (dL [.nilp, (.str [])] []) λ x20 => wK (bS 2 x1 x20 h18) λ x21 h22 => vK (aJ 2 h22.get x1) λ x23 => some ((.tup [x23, (ii 15)]), h22)) (vK (bX x10) λ x24 => vK (fE x24 (ii 1)) λ x25 => vK (dO 1 x10 none (some x25)) λ x26 => wK (aE E 138 [r0, x26] h18) λ x27 h28 => vK (aG 0 x27) λ x29 => vK (aG 1 x27) λ x30 => vK (dB x30 (ii 0)) λ x31 => bK x31 (vK (dL [.nilp, (.str [])] []) λ x32 => wK (bS 2 x1 x32 h28) λ x33 h34 => vK (aJ 2 h34.get x1) λ x35 => some ((.tup [x35, x30]), h34)) (wK (aE E 87 [r0, x29] h28) λ x36 h37 => vK (eN .ptr false h37.get x36 .nilp) λ x38 => bK x38 (vK (dL [.nilp, (.str [])] []) λ x39 => wK (bS 2 x1 x39 h37) λ x40 h41 => vK (aJ 2 h41.get x1) λ x42 => some ((.tup [x42, (ii 13)]), h41)) (vK (cC 1 x10 x25) λ x43 => vK (aF h37.get x43) λ x44 => vK (dL [.nilp, (.str [])] [(0, 1, x36), (1, 1, x44)]) λ x45 => wK (bS 2 x1 x45 h37) λ x46 h47 => vK (aJ 2 h47.get x1) λ x48 => some ((.tup [x48, (ii 0)]), h47)))))
theorem bQq : kV E D95 (aRR E) := Is.rf
def S95 : cB := kR (aRR E)
theorem bEU : SQ D95 S95 := kW bQq
def D96 := cm 96
def aRQ (r0 r1 : DV) (h : H) : aV := vK (eN .ptr false h.get r0 .nilp) λ x1 => bK x1 (some ((.tup [(ii 0), (ii 1)]), h)) (wK (aE E 142 [r0, r1] h) λ x2 h3 => vK (aG 0 x2) λ x4 => vK (aG 1 x2) λ x5 => vK (nE x5) λ x6 => bK x6 (some ((.tup [(ii 0), (ii 7)]), h3)) (vK (aW r0) λ x7 => vK (aH 0 x7) λ x8 => vK (aF h3.get x8) λ x9 => vK (cC 2 x9 x4) λ x10 => vK (aH 1 x10) λ x11 => vK (aF h3.get x11) λ x12 => vK (aW r0) λ x13 => vK (aH 0 x13) λ x14 => vK (aF h3.get x14) λ x15 => vK (bJ x4 (ii 1)) λ x16 => wK (aE E 143 [x15, x4, x16] h3) λ x17 h18 => vK (aW r0) λ x19 => vK (aH 0 x19) λ x20 => wK (bS 1 x20 x17 h18) λ x21 h22 => some ((.tup [x12, (ii 0)]), h22)))
theorem bQp : kV E D96 (aRQ E) := Is.rf
def S96 : cB := kR (aRQ E)
theorem bET : SQ D96 S96 := kW bQp
def D97 := cm 97
def aRP (E : bG) (r0 : DV) (h : H) : aV := vK (eN .ptr false h.get r0 .nilp) λ x1 => bK x1 (some ((ii 0), h)) (vK (aW r0) λ x2 => vK (aH 0 x2) λ x3 => vK (aF h.get x3) λ x4 => vK (bX x4) λ x5 => some (x5, h))
theorem bQo : nT E D97 (aRP E) := Is.rf
def S97 : cB := nO (aRP E)
theorem bES : SQ D97 S97 := nX bQo
def D98 := cm 98
def aRO (r0 r1 : DV) (h : H) : aV := wK (aE E 137 [r0] h) λ x1 h2 => vK (aG 0 x1) λ x3 => vK (aG 1 x1) λ x4 => wK (aE E 137 [r1] h2) λ x5 h6 => vK (aG 0 x5) λ x7 => vK (aG 1 x5) λ x8 => vK (bZ x4 (ii 0)) λ x9 => bT x9 true (λ kk => kk x8 h6) h6 λ x10 h11 => bT x9 true (λ kk => vK (bZ x10 (ii 0)) λ v => kk v h11) h11 λ x12 h13 => vK (bF x9 x12 (.bool false)) λ x14 => bT x14 true (λ kk => kk x7 h13) h13 λ x15 h16 => bT x14 true (λ kk => vK (bX x15) λ v => kk v h16) h16 λ x17 h18 => bT x14 true (λ kk => kk x3 h18) h18 λ x19 h20 => bT x14 true (λ kk => vK (bX x19) λ v => kk v h20) h20 λ x21 h22 => bT x14 true (λ kk => vK (eF x17 x21) λ v => kk v h22) h22 λ x23 h24 => vK (bF x14 x23 (.bool false)) λ x25 => bT x25 true (λ kk => kk x3 h24) h24 λ x26 h27 => bT x25 true (λ kk => kk x7 h27) h27 λ x28 h29 => bT x25 true (λ kk => kk x3 h29) h29 λ x30 h31 => bT x25 true (λ kk => vK (bX x30) λ v => kk v h31) h31 λ x32 h33 => bT x25 true (λ kk => vK (dO 1 x28 none (some x32)) λ v => kk v h33) h33 λ x34 h35 => bT x25 true (λ kk => wK (aE E 144 [x26, x34] h35) kk) h35 λ x36 h37 => vK (bF x25 x36 (.bool false)) λ x38 => some (x38, h37)
theorem bQn : kV E D98 (aRO E) := Is.rf
def S98 : cB := kR (aRO E)
theorem bER : SQ D98 S98 := kW bQn
def D99 := cm 99
def aRN (r0 : DV) (h : H) : aV := dP r0 h λ x1 h2 => vK (aH 0 x1) λ x3 => vK (aF h2.get x3) λ x4 => vK (aH 1 x1) λ x5 => vK (aF h2.get x5) λ x6 => wK (aE E 145 [x4, x6] h2) λ x7 h8 => vK (aG 0 x7) λ x9 => vK (aG 1 x7) λ x10 => vK (bZ x10 (ii 0)) λ x11 => some (x11, h8)
theorem bQm : nT E D99 (aRN E) := Is.rf
def S99 : cB := nO (aRN E)
theorem bEQ : SQ D99 S99 := nX bQm
def bLx := cm 100
def aKl (r0 r1 r2 : DV) (h : H) : aV := vK (eN .ptr false h.get r0 .nilp) λ x1 => bT x1 false (λ kk => kk r2 h) h λ x2 h3 => bT x1 false (λ kk => vK (cW x2 (ii 1)) λ v => kk v h3) h3 λ x4 h5 => vK (bF x1 (.bool true) x4) λ x6 => bT x6 false (λ kk => kk r2 h5) h5 λ x7 h8 => bT x6 false (λ kk => vK (oR x7 (ii 256)) λ v => kk v h8) h8 λ x9 h10 => vK (bF x6 (.bool true) x9) λ x11 => bK x11 (some ((ii 1), h10)) (wK (aE E 146 [r1] h10) λ x12 h13 => vK (nE x12) λ x14 => bK x14 (some ((ii 15), h13)) (wK (aE E 142 [r0, r1] h13) λ x15 h16 => vK (aG 0 x15) λ x17 => vK (aG 1 x15) λ x18 => bK x18 (some ((ii 6), h16)) (vK (aW r0) λ x19 => vK (aH 0 x19) λ x20 => vK (aF h16.get x20) λ x21 => vK (dL [(.str []), (ii 0)] [(0, 1, r1), (1, 1, r2)]) λ x22 => fT 1 2 [(.str []), (ii 0)] [(0, 2, x22)] h16 λ x23 h24 => wK (aE E 147 [x21, x17, x23] h24) λ x25 h26 => vK (aW r0) λ x27 => vK (aH 0 x27) λ x28 => wK (bS 1 x28 x25 h26) λ x29 h30 => some ((ii 0), h30))))
theorem bKb : iB3 E bLx (aKl E) := Is.rf
def aXZ : cB := fA3 (aKl E)
theorem bCk : SQ bLx aXZ := eB3 bKb
def bLw := cm 101
def aCh (r0 r1 : DV) (h : H) : aV := vK (cW r1 (ii 0)) λ x1 => bT x1 false (λ kk => kk r1 h) h λ x2 h3 => bT x1 false (λ kk => vK (eF x2 (ii 65536)) λ v => kk v h3) h3 λ x4 h5 => vK (bF x1 (.bool true) x4) λ x6 => bK x6 (some ((.tup [(.str []), (ii 1)]), h5)) (vK (cA r0) λ x7 => vK (eF x7 r1) λ x8 => bK x8 (some ((.tup [(.str []), (ii 2)]), h5)) (vK (cA r0) λ x9 => vK (fE r1 x9) λ x10 => wK (aE E 148 [x10] h5) λ x11 h12 => vK (bJ r0 x11) λ x13 => some ((.tup [x13, (ii 0)]), h12)))
theorem bKa : kV E bLw (aCh E) := Is.rf
def aUy : cB := kR (aCh E)
theorem bCj : SQ bLw aUy := kW bKa
def bLv := cm 102
def aKk (E : bG) (r0 r1 r2 : DV) (h : H) : aV := vK (aW r0) λ x1 => vK (aH 513 x1) λ x2 => vK (aF h.get x2) λ x3 => vK (aW r1) λ x4 => vK (aH 0 x4) λ x5 => vK (aF h.get x5) λ x6 => vK (cA x6) λ x7 => vK (fE x3 x7) λ x8 => vK (cA r2) λ x9 => vK (bJ x8 x9) λ x10 => vK (eF x10 (ii 65536)) λ x11 => bK x11 (some ((ii 5), h)) (vK (aW r0) λ x12 => vK (aH 513 x12) λ x13 => vK (aF h.get x13) λ x14 => vK (cA r2) λ x15 => vK (aW r1) λ x16 => vK (aH 0 x16) λ x17 => vK (aF h.get x17) λ x18 => vK (cA x18) λ x19 => vK (fE x15 x19) λ x20 => vK (bJ x14 x20) λ x21 => vK (aW r0) λ x22 => vK (aH 513 x22) λ x23 => wK (bS 1 x23 x21 h) λ x24 h25 => vK (aW r1) λ x26 => vK (aH 0 x26) λ x27 => wK (bS 1 x27 r2 h25) λ x28 h29 => some ((ii 0), h29))
theorem bJZ : iB3 E bLv (aKk E) := Is.rf
def aXY : cB := fA3 (aKk E)
theorem bCi : SQ bLv aXY := eB3 bJZ
def bLu := cm 103
def aKj (r0 r1 : DV) (h : H) : aV := vK (eN .ptr false h.get r0 .nilp) λ x1 => bT x1 false (λ kk => kk r0 h) h λ x2 h3 => bT x1 false (λ kk => vK (aW x2) λ v => kk v h3) h3 λ x4 h5 => bT x1 false (λ kk => vK (aH 2 x4) λ v => kk v h5) h5 λ x6 h7 => bT x1 false (λ kk => vK (aF h7.get x6) λ v => kk v h7) h7 λ x8 h9 => bT x1 false (λ kk => vK (dB x8 (ii 0)) λ v => kk v h9) h9 λ x10 h11 => vK (bF x1 (.bool true) x10) λ x12 => bK x12 (some ((.tup []), h11)) (vK (aW r0) λ x13 => vK (aH 1 x13) λ x14 => vK (aF h11.get x14) λ x15 => vK (aW r0) λ x16 => vK (aH 1 x16) λ x17 => vK (aF h11.get x17) λ x18 => vK (bX x18) λ x19 => vK (aW r0) λ x20 => vK (aH 1 x20) λ x21 => vK (aF h11.get x21) λ x22 => vK (bX x22) λ x23 => vK (xS 1 x15 none x19 x23) λ x24 => wK (kE E r1 [x24] h11) λ x25 h26 => vK (bX x25) λ x27 => vK (aW r0) λ x28 => vK (aH 0 x28) λ x29 => vK (aF h26.get x29) λ x30 => vK (eF x27 x30) λ x31 => bK x31 (vK (aW r0) λ x32 => vK (aH 2 x32) λ x33 => wK (bS 1 x33 (ii 2) h26) λ x34 h35 => some ((.tup []), h35)) (vK (aW r0) λ x36 => vK (aH 1 x36) λ x37 => wK (bS 1 x37 x25 h26) λ x38 h39 => some ((.tup []), h39)))
theorem bJY : kV E bLu (aKj E) := Is.rf
def aMN : cB := kR (aKj E)
theorem bCh : SQ bLu aMN := kW bJY
def bLt := cm 104
def aKi (E : bG) (r0 r1 : DV) (h : H) : aV := vK (aF h.get r1) λ x1 => vK (fG .u8 x1) λ x2 => fT 1 1 [(.int .u8 (.ofNat 0))] [(0, 1, x2)] h λ x3 h4 => wK (cF 1 1 r0 x3 h4) λ x5 h6 => some (x5, h6)
theorem bJX : kV E bLt (aKi E) := Is.rf
def bCg : cB := kR (aKi E)
theorem bCf : SQ bLt bCg := kW bJX
def bLs := cm 105
def aKh (r0 r1 : DV) (h : H) : aV := vK (aF h.get r1) λ x1 => wK (aE E 106 [r0, x1] h) λ x2 h3 => some (x2, h3)
theorem bJW : kV E bLs (aKh E) := Is.rf
def bCe : cB := kR (aKh E)
theorem bCd : SQ bLs bCe := kW bJW
def aQj := cm 106
def bMK := cr (cr (cr aQj.body))
def bMJ := cl (cl (cr (cr aQj.body)))
def aFf (E : bG) (r0 r5 : DV) (h : H) : aV := vK (fG .u8 r5) λ x1 => fT 1 1 [(.int .u8 (.ofNat 0))] [(0, 1, x1)] h λ x2 h3 => wK (cF 1 1 r0 x2 h3) λ x4 h5 => some (x4, h5)
def aFJ (i2 : DV → DV → H → aV) (r0 r5 : DV) (h : H) : aV := vK (oR r5 (.int .u64 (.ofNat 128))) λ x1 => bK x1 (vK (fG .u8 r5) λ x2 => vK (aTf x2 (.int .u8 (.ofNat 128))) λ x3 => fT 1 1 [(.int .u8 (.ofNat 0))] [(0, 1, x3)] h λ x4 h5 => wK (cF 1 1 r0 x4 h5) λ x6 h7 => vK (xT r5 (.int .u64 (.ofNat 7))) λ x8 => i2 x6 x8 h7) (aFf E r0 r5 h)
def aCb (n : Nat) : DV → DV → H → aV := Nat.rec (motive := λ _ => DV → DV → H → aV) (λ _ _ _ => none) (λ _ i => aFJ E i) n
def aCg (r0 r1 : DV) (h : H) : aV := vK (fG .u64 r1) λ x1 => vK (aDv x1 (.int .u64 (.ofNat 1))) λ x2 => vK (xT r1 (.int .u64 (.ofNat 63))) λ x3 => vK (fG .u64 x3) λ x4 => vK (aDt x2 x4) λ x5 => aCb E aT r0 x5 h
theorem bJU : Is E bMK (bU aQj.res) (λ σ h => aFf E (σ p0) (σ p5) h) := Is.rf
abbrev bGY : iF (DV × H) := (cP (λ σ h => aFf E (σ p0) (σ p5) h) (bU aQj.res))
theorem bJT : Is E bMJ (bV 0 (bGY E)) (λ σ h => aCb E aT (σ p0) (σ p5) h) := Is.lp (λ n2 σ h => aCb E n2 (σ p0) (σ p5) h) λ n2 => Is.aq (Is.leaf _)
theorem bJV : kV E aQj (aCg E) := Is.aq (Is.sq (Is.sq (Is.sq (bJU E) (Is.bk (bJT E))) (Is.leaf _)) (Is.leaf _))
def aPg : cB := kR (aCg E)
theorem bCc : SQ aQj aPg := kW bJV
def bLr := cm 107
def aKg (r0 r1 : DV) (h : H) : aV := vK (aF h.get r1) λ x1 => wK (aE E 108 [r0, x1] h) λ x2 h3 => some (x2, h3)
theorem bJS : kV E bLr (aKg E) := Is.rf
def bCb : cB := kR (aKg E)
theorem bCa : SQ bLr bCb := kW bJS
def bLq := cm 108
def aCf (r0 r1 : DV) (h : H) : aV := vK (cA r1) λ x1 => wK (aE E 106 [r0, x1] h) λ x2 h3 => wK (cF 1 1 x2 r1 h3) λ x4 h5 => some (x4, h5)
theorem bJR : kV E bLq (aCf E) := Is.rf
def aPf : cB := kR (aCf E)
theorem bBZ : SQ bLq aPf := kW bJR
def bLp := cm 109
def aYO (r0 r1 : DV) (h : H) : aV := vK (eN .ptr false h.get r0 .nilp) λ x1 => bT x1 false (λ kk => kk r0 h) h λ x2 h3 => bT x1 false (λ kk => vK (aW x2) λ v => kk v h3) h3 λ x4 h5 => bT x1 false (λ kk => vK (aH 1 x4) λ v => kk v h5) h5 λ x6 h7 => bT x1 false (λ kk => vK (aF h7.get x6) λ v => kk v h7) h7 λ x8 h9 => vK (bF x1 (.bool true) x8) λ x10 => bT x10 false (λ kk => kk r1 h9) h9 λ x11 h12 => bT x10 false (λ kk => vK (cW x11 (ii 0)) λ v => kk v h12) h12 λ x13 h14 => vK (bF x10 (.bool true) x13) λ x15 => bT x15 false (λ kk => kk r1 h14) h14 λ x16 h17 => bT x15 false (λ kk => kk r0 h17) h17 λ x18 h19 => bT x15 false (λ kk => vK (aW x18) λ v => kk v h19) h19 λ x20 h21 => bT x15 false (λ kk => vK (aH 0 x20) λ v => kk v h21) h21 λ x22 h23 => bT x15 false (λ kk => vK (aF h23.get x22) λ v => kk v h23) h23 λ x24 h25 => bT x15 false (λ kk => vK (cA x24) λ v => kk v h25) h25 λ x26 h27 => bT x15 false (λ kk => vK (eF x16 x26) λ v => kk v h27) h27 λ x28 h29 => vK (bF x15 (.bool true) x28) λ x30 => bK x30 (wK (aE E 111 [r0] h29) λ x31 h32 => some ((.tup [(.str []), (.bool false)]), h32)) (vK (aW r0) λ x33 => vK (aH 0 x33) λ x34 => vK (aF h29.get x34) λ x35 => vK (gV x35 none (some r1)) λ x36 => vK (aW r0) λ x37 => vK (aH 0 x37) λ x38 => vK (aF h29.get x38) λ x39 => vK (gV x39 (some r1) none) λ x40 => vK (aW r0) λ x41 => vK (aH 0 x41) λ x42 => wK (bS 1 x42 x40 h29) λ x43 h44 => some ((.tup [x36, (.bool true)]), h44))
theorem bJQ : kV E bLp (aYO E) := Is.rf
def bGt : cB := kR (aYO E)
theorem bBY : SQ bLp bGt := kW bJQ
def aQi := cm 110
def bMI := cr (cr (cr aQi.body))
def bMH := cl (cr (cl (cr (cr aQi.body))))
def aPJ (E : bG) (h : H) : aV := some ((.tup [(.int .u64 (.ofNat 0)), (ii 0)]), h)
def bMU (r0 r9 : DV) (i2 : DV → DV → H → aV) (r4 r10 : DV) (h : H) : aV := vK (cW r10 r9) λ x1 => bK x1 (vK (gR r0 r10) λ x2 => vK (fG .u64 x2) λ x3 => vK (aDA x3 (.int .u64 (.ofNat 127))) λ x4 => vK (aCl (ii 7) r10) λ x5 => vK (aDv x4 x5) λ x6 => vK (aTf r4 x6) λ x7 => vK (oR x3 (.int .u64 (.ofNat 128))) λ x8 => bK x8 (vK (bJ r10 (ii 1)) λ x9 => i2 x7 x9 h) (vK (eF r10 (ii 0)) λ x10 => bT x10 true (λ kk => kk x3 h) h λ x11 h12 => bT x10 true (λ kk => vK (bZ x11 (.int .u64 (.ofNat 0))) λ v => kk v h12) h12 λ x13 h14 => vK (bF x10 x13 (.bool false)) λ x15 => bT x15 false (λ kk => kk r10 h14) h14 λ x16 h17 => bT x15 false (λ kk => vK (bZ x16 (ii 9)) λ v => kk v h17) h17 λ x18 h19 => bT x15 false (λ kk => kk x18 h19) h19 λ x20 h21 => bT x20 true (λ kk => kk x3 h21) h21 λ x22 h23 => bT x20 true (λ kk => vK (eF x22 (.int .u64 (.ofNat 1))) λ v => kk v h23) h23 λ x24 h25 => bT x15 false (λ kk => vK (bF x20 x24 (.bool false)) λ v => kk v h25) h25 λ x26 h27 => vK (bF x15 (.bool true) x26) λ x28 => bK x28 (some ((.tup [(.int .u64 (.ofNat 0)), (ii 0)]), h27)) (vK (bJ r10 (ii 1)) λ x29 => some ((.tup [x7, x29]), h27)))) (aPJ E h)
def aPo (r0 r9 : DV) (n : Nat) : DV → DV → H → aV := Nat.rec (motive := λ _ => DV → DV → H → aV) (λ _ _ _ => none) (λ _ i => bMU E r0 r9 i) n
def aYN (r0 : DV) (h : H) : aV := vK (cA r0) λ x1 => vK (zS x1 (ii 10)) λ x2 => aPo E r0 x2 aT (.int .u64 (.ofNat 0)) (ii 0) h
theorem bJO : Is E bMI (bU aQi.res) (λ σ h => aPJ E h) := Is.rf
abbrev bGX : iF (DV × H) := (bV 0 (cP (λ σ h => aPJ E h) (bU aQi.res)))
theorem bJN : Is E bMH (bGX E) (λ σ h => aPo E (σ p0) (σ p9) aT (σ p4) (σ p10) h) := Is.lp (λ n2 σ h => aPo E (σ p0) (σ p9) n2 (σ p4) (σ p10) h) λ n2 => Is.aq (Is.leaf _)
theorem bJP : nT E aQi (aYN E) := Is.aq (Is.sq (Is.sq (Is.sq (bJO E) (Is.sq (Is.bk (bJN E)) (Is.leaf _))) (Is.leaf _)) (Is.leaf _))
def bGs : cB := nO (aYN E)
theorem bBX : SQ aQi bGs := nX bJP
def bLo := cm 111
def aYM (E : bG) (r0 : DV) (h : H) : aV := vK (eN .ptr true h.get r0 .nilp) λ x1 => bK x1 (vK (aW r0) λ x2 => vK (aH 0 x2) λ x3 => wK (bS 1 x3 (.str []) h) λ x4 h5 => vK (aW r0) λ x6 => vK (aH 1 x6) λ x7 => wK (bS 1 x7 (.bool true) h5) λ x8 h9 => some ((.tup []), h9)) (some ((.tup []), h))
theorem bJM : nT E bLo (aYM E) := Is.rf
def bGr : cB := nO (aYM E)
theorem bBW : SQ bLo bGr := nX bJM
def bLn := cm 113
def aKf (r0 r1 : DV) (h : H) : aV := vK (aF h.get r0) λ x1 => vK (aH 3 r1) λ x2 => vK (aF h.get x2) λ x3 => vK (aH 1 r1) λ x4 => vK (aF h.get x4) λ x5 => vK (aH 5 r1) λ x6 => vK (aF h.get x6) λ x7 => wK (aE E 46 [x1, x3, x5, x7] h) λ x8 h9 => some (x8, h9)
theorem bJL : kV E bLn (aKf E) := Is.rf
def aXX : cB := kR (aKf E)
theorem bBV : SQ bLn aXX := kW bJL
def bLm := cm 114
def aKe (r0 r1 : DV) (h : H) : aV := vK (aF h.get r0) λ x1 => vK (aH 3 r1) λ x2 => vK (aF h.get x2) λ x3 => vK (aH 2 r1) λ x4 => vK (aF h.get x4) λ x5 => wK (aE E 47 [x1, x3, x5] h) λ x6 h7 => some (x6, h7)
theorem bJK : kV E bLm (aKe E) := Is.rf
def aXW : cB := kR (aKe E)
theorem bBU : SQ bLm aXW := kW bJK
def bLl := cm 115
def aKd (r0 r1 : DV) (h : H) : aV := vK (aF h.get r0) λ x1 => vK (aH 3 r1) λ x2 => vK (aF h.get x2) λ x3 => vK (aH 1 r1) λ x4 => vK (aF h.get x4) λ x5 => vK (aH 2 r1) λ x6 => vK (aF h.get x6) λ x7 => wK (aE E 33 [x1, x3, x5, x7] h) λ x8 h9 => vK (aG 0 x8) λ x10 => vK (aG 1 x8) λ x11 => some ((.tup [x11, x10]), h9)
theorem bJJ : kV E bLl (aKd E) := Is.rf
def aXV : cB := kR (aKd E)
theorem bBT : SQ bLl aXV := kW bJJ
def bLk := cm 116
def aKc (r0 r1 : DV) (h : H) : aV := vK (aF h.get r0) λ x1 => vK (aH 3 r1) λ x2 => vK (aF h.get x2) λ x3 => wK (aE E 117 [x1, x3] h) λ x4 h5 => vK (aG 0 x4) λ x6 => vK (aG 1 x4) λ x7 => some ((.tup [x6, x7]), h5)
theorem bJI : kV E bLk (aKc E) := Is.rf
def aXU : cB := kR (aKc E)
theorem bBS : SQ bLk aXU := kW bJI
def aQh := cm 117
def bMG := cr (cr (cr (cr (cr aQh.body))))
def bMF := cl (cr (cl (cr (cr (cr (cr aQh.body))))))
def aKa (r8 : DV) (h : H) : aV := wK (aE E 52 [r8] h) λ x1 h2 => vK (aG 0 x1) λ x3 => vK (aG 1 x1) λ x4 => some ((.tup [(ii 0), x3]), h2)
def aFI (r8 r33 r34 : DV) (i2 : DV → H → aV) (r35 : DV) (h : H) : aV := vK (cW r35 r34) λ x1 => bK x1 (vK (cC 1 r33 r35) λ x2 => vK (aF h.get x2) λ x3 => wK (aE E 50 [r8, x3] h) λ x4 h5 => vK (bJ r35 (ii 1)) λ x6 => i2 x6 h5) (aKa E r8 h)
def aCa (r8 r33 r34 : DV) (n : Nat) : DV → H → aV := Nat.rec (motive := λ _ => DV → H → aV) (λ _ _ => none) (λ _ i => aFI E r8 r33 r34 i) n
def aKb (r0 r1 : DV) (h : H) : aV := wK (aE E 34 [r0, r1] h) λ x1 h2 => vK (aG 0 x1) λ x3 => vK (aG 1 x1) λ x4 => dN 5 5 (.list [(ii 0), (ii 0), (ii 0), (ii 0), (ii 0)]) h2 λ x5 h6 => wK (bS 5 x5 x3 h6) λ x7 h8 => vK (dB x4 (ii 0)) λ x9 => bK x9 (some ((.tup [x4, (.str [])]), h8)) (wK (aE E 48 [(ii 65536)] h8) λ x10 h11 => vK (aH 0 x5) λ x12 => vK (aF h11.get x12) λ x13 => vK (aH 1 x5) λ x14 => vK (aF h11.get x14) λ x15 => vK (aH 2 x5) λ x16 => vK (aF h11.get x16) λ x17 => vK (aH 3 x5) λ x18 => vK (aF h11.get x18) λ x19 => vK (aH 4 x5) λ x20 => vK (aF h11.get x20) λ x21 => fT 5 1 [(ii 0)] [(0, 1, x13), (1, 1, x15), (2, 1, x17), (3, 1, x19), (4, 1, x21)] h11 λ x22 h23 => vK (bX x22) λ x24 => aCa E x10 x22 x24 aT (ii 0) h23)
theorem bJG : Is E bMG (bU aQh.res) (λ σ h => aKa E (σ p8) h) := Is.rf
abbrev bGW : iF (DV × H) := (cP (λ σ h => aKa E (σ p8) h) (bU aQh.res))
theorem bJF : Is E bMF (bV 0 (bGW E)) (λ σ h => aCa E (σ p8) (σ p33) (σ p34) aT (σ p35) h) := Is.lp (λ n2 σ h => aCa E (σ p8) (σ p33) (σ p34) n2 (σ p35) h) λ n2 => Is.aq (Is.leaf _)
theorem bJH : kV E aQh (aKb E) := Is.aq (Is.sq (Is.sq (Is.sq (Is.sq (Is.sq (bJG E) (Is.sq (Is.bk (bJF E)) (Is.leaf _))) (Is.leaf _)) (Is.leaf _)) (Is.leaf _)) (Is.leaf _))
def aXT : cB := kR (aKb E)
theorem bBR : SQ aQh aXT := kW bJH
def bLj := cm 118
def aJZ (r0 r1 : DV) (h : H) : aV := vK (aF h.get r0) λ x1 => vK (aH 3 r1) λ x2 => vK (aF h.get x2) λ x3 => wK (aE E 119 [x1, x3] h) λ x4 h5 => vK (aG 0 x4) λ x6 => vK (aG 1 x4) λ x7 => some ((.tup [x6, x7]), h5)
theorem bJE : kV E bLj (aJZ E) := Is.rf
def aXS : cB := kR (aJZ E)
theorem bBQ : SQ bLj aXS := kW bJE
def bLi := cm 119
def aJY (r0 r1 : DV) (h : H) : aV := wK (aE E 35 [r0, r1] h) λ x1 h2 => vK (aG 0 x1) λ x3 => vK (aG 1 x1) λ x4 => vK (dB x4 (ii 0)) λ x5 => bK x5 (some ((.tup [x4, (.str [])]), h2)) (wK (aE E 48 [(ii 65536)] h2) λ x6 h7 => wK (aE E 149 [x6, x3] h7) λ x8 h9 => wK (aE E 52 [x6] h9) λ x10 h11 => vK (aG 0 x10) λ x12 => vK (aG 1 x10) λ x13 => some ((.tup [(ii 0), x12]), h11))
theorem bJD : kV E bLi (aJY E) := Is.rf
def aXR : cB := kR (aJY E)
theorem bBP : SQ bLi aXR := kW bJD
def bLh := cm 120
def aJX (r0 r1 : DV) (h : H) : aV := dP r0 h λ x1 h2 => wK (aE E 150 [r1] h2) λ x3 h4 => vK (aG 0 x3) λ x5 => vK (aG 1 x3) λ x6 => vK (aG 2 x3) λ x7 => vK (dB x7 (ii 0)) λ x8 => bK x8 (some ((.tup [(ii 0), (.str []), x7]), h4)) (vK (aJ 2 h4.get x1) λ x9 => wK (aE E 124 [x9, x5] h4) λ x10 h11 => vK (aG 0 x10) λ x12 => vK (aG 1 x10) λ x13 => vK (dB x13 (ii 0)) λ x14 => bK x14 (some ((.tup [(ii 0), (.str []), x13]), h11)) (vK (aH 0 x1) λ x15 => vK (aF h11.get x15) λ x16 => vK (cC 5 x16 x12) λ x17 => vK (aH 2 x17) λ x18 => vK (aF h11.get x18) λ x19 => vK (bZ x19 (ii 1)) λ x20 => bK x20 (some ((.tup [(ii 0), (.str []), (ii 13)]), h11)) (some ((.tup [x12, x6, (ii 0)]), h11))))
theorem bJC : kV E bLh (aJX E) := Is.rf
def aXQ : cB := kR (aJX E)
theorem bBO : SQ bLh aXQ := kW bJC
def bLg := cm 121
def aJW (r0 r1 r2 : DV) (h : H) : aV := dP r0 h λ x1 h2 => vK (aH 0 x1) λ x3 => vK (aF h2.get x3) λ x4 => vK (cC 5 x4 r1) λ x5 => vK (aH 4 x5) λ x6 => vK (aF h2.get x6) λ x7 => wK (aE E 151 [x7, r2] h2) λ x8 h9 => vK (aG 0 x8) λ x10 => vK (aG 1 x8) λ x11 => vK (bZ x11 (ii 0)) λ x12 => some (x12, h9)
theorem bJB : iB3 E bLg (aJW E) := Is.rf
def aXP : cB := fA3 (aJW E)
theorem bBN : SQ bLg aXP := eB3 bJB
def aQg := cm 122
def bME := cr (cr aQg.body)
def bMD := cl (cr (cl (cr aQg.body)))
def aJU (E : bG) (h : H) : aV := some ((.int .i64 (.negSucc 0)), h)
def aFH (r1 r2 : DV) (i2 : DV → H → aV) (r5 : DV) (h : H) : aV := vK (aH 0 r2) λ x1 => vK (aF h.get x1) λ x2 => vK (bX x2) λ x3 => vK (cW r5 x3) λ x4 => bK x4 (vK (aH 0 r2) λ x5 => vK (aF h.get x5) λ x6 => vK (cC 5 x6 r5) λ x7 => vK (aH 0 x7) λ x8 => vK (aF h.get x8) λ x9 => vK (bZ x9 r1) λ x10 => bK x10 (some (r5, h)) (vK (bJ r5 (ii 1)) λ x11 => i2 x11 h)) (aJU E h)
def zE (r1 r2 : DV) (n : Nat) : DV → H → aV := Nat.rec (motive := λ _ => DV → H → aV) (λ _ _ => none) (λ _ i => aFH E r1 r2 i) n
def aJV (r0 r1 : DV) (h : H) : aV := dP r0 h λ x1 h2 => zE E r1 x1 aT (ii 0) h2
theorem bJz : Is E bME (bU aQg.res) (λ σ h => aJU E h) := Is.rf
abbrev bGV : iF (DV × H) := (bV 0 (cP (λ σ h => aJU E h) (bU aQg.res)))
theorem bJy : Is E bMD (bGV E) (λ σ h => zE E (σ p1) (σ p2) aT (σ p5) h) := Is.lp (λ n2 σ h => zE E (σ p1) (σ p2) n2 (σ p5) h) λ n2 => Is.aq (Is.leaf _)
theorem bJA : kV E aQg (aJV E) := Is.aq (Is.sq (Is.sq (bJz E) (Is.sq (Is.bk (bJy E)) (Is.leaf _))) (Is.leaf _))
def aXO : cB := kR (aJV E)
theorem bBM : SQ aQg aXO := kW bJA
def bLf := cm 123
def aJT (r0 r1 r2 r3 : DV) (h : H) : aV := dP r0 h λ x1 h2 => dN 2 2 (.list [.nils, (ii 0)]) h2 λ x3 h4 => vK (aH 0 x1) λ x5 => vK (aF h4.get x5) λ x6 => vK (cC 5 x6 r1) λ x7 => vK (aJ 5 h4.get x7) λ x8 => dN 5 5 (.list [(ii 0), (ii 0), (ii 0), (.str []), .nils]) h4 λ x9 h10 => wK (bS 5 x9 x8 h10) λ x11 h12 => vK (aH 4 x9) λ x13 => vK (aF h12.get x13) λ x14 => wK (aE E 152 [x14, r2, r3] h12) λ x15 h16 => vK (aG 0 x15) λ x17 => vK (aG 1 x15) λ x18 => vK (aH 4 x9) λ x19 => wK (bS 1 x19 x17 h16) λ x20 h21 => vK (aJ 2 h21.get x1) λ x22 => vK (aJ 5 h21.get x9) λ x23 => wK (aE E 153 [x22, r1, x23] h21) λ x24 h25 => wK (bS 2 x3 x24 h25) λ x26 h27 => vK (aJ 2 h27.get x3) λ x28 => some (x28, h27)
theorem bJx : iB4 E bLf (aJT E) := Is.rf
def aXN : cB := fA4 (aJT E)
theorem bBL : SQ bLf aXN := eB4 bJx
def aQf := cm 124
def bMC := cr (cr (cr (cr (cr aQf.body))))
def bMB := cl (cr (cl (cr (cr (cr (cr aQf.body))))))
def aJR (E : bG) (r8 : DV) (h : H) : aV := some ((.tup [r8, (ii 0)]), h)
def aFG (r2 r6 : DV) (i2 : DV → DV → H → aV) (r8 r9 : DV) (h : H) : aV := vK (bX r6) λ x1 => vK (cW r9 x1) λ x2 => bK x2 (vK (aH 0 r2) λ x3 => vK (aF h.get x3) λ x4 => vK (cC 5 x4 r8) λ x5 => vK (aH 2 x5) λ x6 => vK (aF h.get x6) λ x7 => vK (bZ x7 (ii 1)) λ x8 => bK x8 (some ((.tup [(ii 0), (ii 13)]), h)) (vK (aH 0 r2) λ x9 => vK (aF h.get x9) λ x10 => vK (cC 5 x10 r8) λ x11 => vK (aH 4 x11) λ x12 => vK (aF h.get x12) λ x13 => vK (cC 1 r6 r9) λ x14 => vK (aF h.get x14) λ x15 => wK (aE E 151 [x13, x15] h) λ x16 h17 => vK (aG 0 x16) λ x18 => vK (aG 1 x16) λ x19 => vK (dB x19 (ii 0)) λ x20 => bK x20 (some ((.tup [(ii 0), (ii 7)]), h17)) (vK (aJ 2 h17.get r2) λ x21 => wK (aE E 122 [x21, x18] h17) λ x22 h23 => vK (bJ r9 (ii 1)) λ x24 => i2 x22 x24 h23))) (aJR E r8 h)
def aBZ (r2 r6 : DV) (n : Nat) : DV → DV → H → aV := Nat.rec (motive := λ _ => DV → DV → H → aV) (λ _ _ _ => none) (λ _ i => aFG E r2 r6 i) n
def aJS (r0 r1 : DV) (h : H) : aV := dP r0 h λ x1 h2 => wK (aE E 154 [r1] h2) λ x3 h4 => vK (aG 0 x3) λ x5 => vK (aG 1 x3) λ x6 => vK (dB x6 (ii 0)) λ x7 => bK x7 (some ((.tup [(ii 0), x6]), h4)) (vK (aJ 2 h4.get x1) λ x8 => wK (aE E 122 [x8, (ii 1)] h4) λ x9 h10 => aBZ E x1 x5 aT x9 (ii 0) h10)
theorem bJv : Is E bMC (bU aQf.res) (λ σ h => aJR E (σ p8) h) := Is.rf
abbrev bGU : iF (DV × H) := (cP (λ σ h => aJR E (σ p8) h) (bU aQf.res))
theorem bJu : Is E bMB (bV 0 (bGU E)) (λ σ h => aBZ E (σ p2) (σ p6) aT (σ p8) (σ p9) h) := Is.lp (λ n2 σ h => aBZ E (σ p2) (σ p6) n2 (σ p8) (σ p9) h) λ n2 => Is.aq (Is.leaf _)
theorem bJw : kV E aQf (aJS E) := Is.aq (Is.sq (Is.sq (Is.sq (Is.sq (Is.sq (bJv E) (Is.sq (Is.bk (bJu E)) (Is.leaf _))) (Is.leaf _)) (Is.leaf _)) (Is.leaf _)) (Is.leaf _))
def aXM : cB := kR (aJS E)
theorem bBK : SQ aQf aXM := kW bJw
def bLe := cm 125
def aJQ (r0 r1 r2 : DV) (h : H) : aV := dP r0 h λ x1 h2 => dN 2 2 (.list [.nils, (ii 0)]) h2 λ x3 h4 => vK (aH 0 x1) λ x5 => vK (aF h4.get x5) λ x6 => vK (cC 5 x6 r1) λ x7 => vK (aJ 5 h4.get x7) λ x8 => dN 5 5 (.list [(ii 0), (ii 0), (ii 0), (.str []), .nils]) h4 λ x9 h10 => wK (bS 5 x9 x8 h10) λ x11 h12 => vK (aH 4 x9) λ x13 => vK (aF h12.get x13) λ x14 => wK (aE E 155 [x14, r2] h12) λ x15 h16 => vK (aG 0 x15) λ x17 => vK (aG 1 x15) λ x18 => vK (aG 2 x15) λ x19 => vK (aH 4 x9) λ x20 => wK (bS 1 x20 x17 h16) λ x21 h22 => vK (aJ 2 h22.get x1) λ x23 => vK (aJ 5 h22.get x9) λ x24 => wK (aE E 153 [x23, r1, x24] h22) λ x25 h26 => wK (bS 2 x3 x25 h26) λ x27 h28 => vK (aJ 2 h28.get x3) λ x29 => some (x29, h28)
theorem bJt : iB3 E bLe (aJQ E) := Is.rf
def aXL : cB := fA3 (aJQ E)
theorem bBJ : SQ bLe aXL := eB3 bJt
def aQe := cm 126
def bMA := cr (cr (cr aQe.body))
def aQr := cl (cr (cl (cr (cr aQe.body))))
def bMz := cr (cr (cl aQr))
def aZd := cl (cr (cl (cl (cr (cl aQr)))))
def bMy := cr (cr (cl aZd))
def aPI (E : bG) (r5 : DV) (h : H) : aV := some (r5, h)
def aFe (E : bG) (i2 : DV → DV → H → aV) (r5 r6 : DV) (h : H) : aV := vK (bJ r6 (ii 1)) λ x1 => i2 r5 x1 h
def aFd (E : bG) (i4 : DV → DV → H → aV) (r5 r7 : DV) (h : H) : aV := vK (bJ r7 (ii 1)) λ x1 => i4 r5 x1 h
def aFE (i2 : DV → DV → H → aV) (r1 r2 r6 : DV) (i4 : DV → DV → H → aV) (r5 r7 : DV) (h : H) : aV := vK (aH 0 r2) λ x1 => vK (aF h.get x1) λ x2 => vK (cC 5 x2 r6) λ x3 => vK (aH 4 x3) λ x4 => vK (aF h.get x4) λ x5 => vK (bX x5) λ x6 => vK (cW r7 x6) λ x7 => bK x7 (vK (aH 0 r2) λ x8 => vK (aF h.get x8) λ x9 => vK (cC 5 x9 r6) λ x10 => vK (aH 4 x10) λ x11 => vK (aF h.get x11) λ x12 => vK (cC 2 x12 r7) λ x13 => vK (aH 1 x13) λ x14 => vK (aF h.get x14) λ x15 => vK (bZ x15 r1) λ x16 => bK x16 (vK (bJ r5 (ii 1)) λ x17 => aFd E i4 x17 r7 h) (aFd E i4 r5 r7 h)) (aFe E i2 r5 r6 h)
def vS (i2 : DV → DV → H → aV) (r1 r2 r6 : DV) (n : Nat) : DV → DV → H → aV := Nat.rec (motive := λ _ => DV → DV → H → aV) (λ _ _ _ => none) (λ _ i => aFE E i2 r1 r2 r6 i) n
def aFF (r1 r2 : DV) (i2 : DV → DV → H → aV) (r5 r6 : DV) (h : H) : aV := vK (aH 0 r2) λ x1 => vK (aF h.get x1) λ x2 => vK (bX x2) λ x3 => vK (cW r6 x3) λ x4 => bK x4 (vS E i2 r1 r2 r6 aT r5 (ii 0) h) (aPI E r5 h)
def lJ (r1 r2 : DV) (n : Nat) : DV → DV → H → aV := Nat.rec (motive := λ _ => DV → DV → H → aV) (λ _ _ _ => none) (λ _ i => aFF E r1 r2 i) n
def aJP (r0 r1 : DV) (h : H) : aV := dP r0 h λ x1 h2 => lJ E r1 x1 aT (ii 0) (ii 0) h2
theorem bJr : Is E bMA (bU aQe.res) (λ σ h => aPI E (σ p5) h) := Is.rf
abbrev aYn : iF (DV × H) := (cP (λ σ h => aPI E (σ p5) h) (bU aQe.res))
abbrev aYm (n2 : Nat) : iF (DV × H) := (cP (λ σ h => (lJ E (σ p1) (σ p2) n2) (σ p5) (σ p6) h) (bV 0 (aYn E)))
theorem bJp (n2 : Nat) : Is E bMz (aYm E n2) (λ σ h => aFe E (lJ E (σ p1) (σ p2) n2) (σ p5) (σ p6) h) := Is.rf
abbrev aYl (n2 : Nat) : iF (DV × H) := (cP (λ σ h => aFe E (lJ E (σ p1) (σ p2) n2) (σ p5) (σ p6) h) (aYm E n2))
abbrev bGT (n2 n4 : Nat) : iF (DV × H) := (cP (λ σ h => (vS E (lJ E (σ p1) (σ p2) n2) (σ p1) (σ p2) (σ p6) n4) (σ p5) (σ p7) h) (bV 2 (bV 1 (aYl E n2))))
theorem bJn (n2 n4 : Nat) : Is E bMy (bGT E n2 n4) (λ σ h => aFd E (vS E (lJ E (σ p1) (σ p2) n2) (σ p1) (σ p2) (σ p6) n4) (σ p5) (σ p7) h) := Is.rf
theorem bJo (n2 : Nat) : Is E aZd (bV 2 (bV 1 (aYl E n2))) (λ σ h => vS E (lJ E (σ p1) (σ p2) n2) (σ p1) (σ p2) (σ p6) aT (σ p5) (σ p7) h) := Is.lp (λ n4 σ h => vS E (lJ E (σ p1) (σ p2) n2) (σ p1) (σ p2) (σ p6) n4 (σ p5) (σ p7) h) λ n4 => Is.aq (Is.sq (Is.sq (bJn E n2 n4) (Is.leaf _)) (Is.leaf _))
theorem bJq : Is E aQr (bV 0 (aYn E)) (λ σ h => lJ E (σ p1) (σ p2) aT (σ p5) (σ p6) h) := Is.lp (λ n2 σ h => lJ E (σ p1) (σ p2) n2 (σ p5) (σ p6) h) λ n2 => Is.aq (Is.sq (Is.sq (bJp E n2) (Is.bk (Is.sq (Is.bk (bJo E n2)) (Is.leaf _)))) (Is.leaf _))
theorem bJs : kV E aQe (aJP E) := Is.aq (Is.sq (Is.sq (Is.sq (bJr E) (Is.sq (Is.bk (bJq E)) (Is.leaf _))) (Is.leaf _)) (Is.leaf _))
def aXK : cB := kR (aJP E)
theorem bBI : SQ aQe aXK := kW bJs
def bLd := cm 127
def aJO (r0 r1 : DV) (h : H) : aV := dP r0 h λ x1 h2 => dN 2 2 (.list [.nils, (ii 0)]) h2 λ x3 h4 => vK (aJ 2 h4.get x1) λ x5 => wK (aE E 122 [x5, r1] h4) λ x6 h7 => vK (aH 0 x1) λ x8 => vK (aF h7.get x8) λ x9 => vK (dO 5 x9 none (some x6)) λ x10 => vK (aH 0 x1) λ x11 => vK (aF h7.get x11) λ x12 => vK (bJ x6 (ii 1)) λ x13 => vK (dO 5 x12 (some x13) none) λ x14 => wK (cF 5 64 .nils x10 h7) λ x15 h16 => rK (tY (aF h16.get x11) x12) <| wK (cF 5 64 x15 x14 h16) λ x17 h18 => vK (aH 0 x1) λ x19 => wK (bS 1 x19 x17 h18) λ x20 h21 => vK (aJ 2 h21.get x1) λ x22 => wK (bS 2 x3 x22 h21) λ x23 h24 => vK (aJ 2 h24.get x3) λ x25 => some (x25, h24)
theorem bJm : kV E bLd (aJO E) := Is.rf
def aXJ : cB := kR (aJO E)
theorem bBH : SQ bLd aXJ := kW bJm
def aQd := cm 128
def bMx := cr (cr (cr (cr (cr aQd.body))))
def bMw := cl (cr (cl (cr (cr (cr (cr aQd.body))))))
def aPH (E : bG) (h : H) : aV := some ((.bool true), h)
def aFD (r5 r7 : DV) (i2 : DV → H → aV) (r9 : DV) (h : H) : aV := vK (bX r5) λ x1 => vK (cW r9 x1) λ x2 => bK x2 (vK (cC 1 r5 r9) λ x3 => vK (aF h.get x3) λ x4 => vK (cC 1 r7 r9) λ x5 => vK (aF h.get x5) λ x6 => vK (dB x4 x6) λ x7 => bK x7 (some ((.bool false), h)) (vK (bJ r9 (ii 1)) λ x8 => i2 x8 h)) (aPH E h)
def aBY (r5 r7 : DV) (n : Nat) : DV → H → aV := Nat.rec (motive := λ _ => DV → H → aV) (λ _ _ => none) (λ _ i => aFD E r5 r7 i) n
def aJN (r0 r1 : DV) (h : H) : aV := wK (aE E 154 [r0] h) λ x1 h2 => vK (aG 0 x1) λ x3 => vK (aG 1 x1) λ x4 => wK (aE E 154 [r1] h2) λ x5 h6 => vK (aG 0 x5) λ x7 => vK (aG 1 x5) λ x8 => vK (dB x4 (ii 0)) λ x9 => bT x9 false (λ kk => kk x8 h6) h6 λ x10 h11 => bT x9 false (λ kk => vK (dB x10 (ii 0)) λ v => kk v h11) h11 λ x12 h13 => vK (bF x9 (.bool true) x12) λ x14 => bT x14 false (λ kk => kk x7 h13) h13 λ x15 h16 => bT x14 false (λ kk => vK (bX x15) λ v => kk v h16) h16 λ x17 h18 => bT x14 false (λ kk => kk x3 h18) h18 λ x19 h20 => bT x14 false (λ kk => vK (bX x19) λ v => kk v h20) h20 λ x21 h22 => bT x14 false (λ kk => vK (aDx x17 x21) λ v => kk v h22) h22 λ x23 h24 => vK (bF x14 (.bool true) x23) λ x25 => bK x25 (some ((.bool false), h24)) (aBY E x3 x7 aT (ii 0) h24)
theorem bJk : Is E bMx (bU aQd.res) (λ σ h => aPH E h) := Is.rf
abbrev bGS : iF (DV × H) := (bV 0 (cP (λ σ h => aPH E h) (bU aQd.res)))
theorem bJj : Is E bMw (bGS E) (λ σ h => aBY E (σ p5) (σ p7) aT (σ p9) h) := Is.lp (λ n2 σ h => aBY E (σ p5) (σ p7) n2 (σ p9) h) λ n2 => Is.aq (Is.leaf _)
theorem bJl : kV E aQd (aJN E) := Is.aq (Is.sq (Is.sq (Is.sq (Is.sq (Is.sq (bJk E) (Is.sq (Is.bk (bJj E)) (Is.leaf _))) (Is.leaf _)) (Is.leaf _)) (Is.leaf _)) (Is.leaf _))
def aXI : cB := kR (aJN E)
theorem bBG : SQ aQd aXI := kW bJl
def bLc := cm 129
def aJM (r0 : DV) (h : H) : aV := wK (aE E 154 [r0] h) λ x1 h2 => vK (aG 0 x1) λ x3 => vK (aG 1 x1) λ x4 => vK (dB x4 (ii 0)) λ x5 => bK x5 (some ((.tup [(.str []), x4]), h2)) (wK (aE E 156 [x3] h2) λ x6 h7 => vK (aG 0 x6) λ x8 => vK (aG 1 x6) λ x9 => some ((.tup [x8, x9]), h7))
theorem bJi : nT E bLc (aJM E) := Is.rf
def aXH : cB := nO (aJM E)
theorem bBF : SQ bLc aXH := nX bJi
def bLb := cm 130
def aJL (r0 r1 : DV) (h : H) : aV := dP r0 h λ x1 h2 => vK (aJ 2 h2.get x1) λ x3 => wK (aE E 124 [x3, r1] h2) λ x4 h5 => vK (aG 0 x4) λ x6 => vK (aG 1 x4) λ x7 => vK (dB x7 (ii 0)) λ x8 => bK x8 (some ((.tup [(ii 0), x7]), h5)) (vK (aH 0 x1) λ x9 => vK (aF h5.get x9) λ x10 => vK (cC 5 x10 x6) λ x11 => vK (aH 2 x11) λ x12 => vK (aF h5.get x12) λ x13 => vK (bZ x13 (ii 2)) λ x14 => bK x14 (some ((.tup [(ii 0), (ii 12)]), h5)) (some ((.tup [x6, (ii 0)]), h5)))
theorem bJh : kV E bLb (aJL E) := Is.rf
def aXG : cB := kR (aJL E)
theorem bBE : SQ bLb aXG := kW bJh
def bLa := cm 131
def aJK (E : bG) (r0 : DV) (h : H) : aV := tQ 1 1 (.int .u8 (.ofNat 0)) r0 r0 h λ x1 h2 => vK (mJ h2.get x1) λ x3 => some (x3, h2)
theorem bJg : nT E bLa (aJK E) := Is.rf
def aUx : cB := nO (aJK E)
theorem bBD : SQ bLa aUx := nX bJg
def bKZ := cm 132
def aJJ (r0 r1 r2 : DV) (h : H) : aV := dP r0 h λ x1 h2 => dN 2 2 (.list [.nils, (ii 0)]) h2 λ x3 h4 => vK (aJ 2 h4.get x1) λ x5 => vK (aH 0 x1) λ x6 => vK (aF h4.get x6) λ x7 => vK (cC 5 x7 r1) λ x8 => vK (aH 3 x8) λ x9 => vK (aF h4.get x9) λ x10 => vK (cA x10) λ x11 => vK (cA r2) λ x12 => wK (aE E 32 [x5] h4) λ x13 h14 => rK (tY (aF h14.get x9) x10) <| rK (tY (aF h14.get x6) x7) <| vK (fE x13 x11) λ x15 => vK (bJ x15 x12) λ x16 => vK (eF x16 (ii 65536)) λ x17 => bK x17 (vK (aJ 2 h14.get x1) λ x18 => wK (bS 2 x3 x18 h14) λ x19 h20 => vK (aJ 2 h20.get x3) λ x21 => some ((.tup [x21, (ii 5)]), h20)) (vK (aH 0 x1) λ x22 => vK (aF h14.get x22) λ x23 => vK (cC 5 x23 r1) λ x24 => vK (aJ 5 h14.get x24) λ x25 => dN 5 5 (.list [(ii 0), (ii 0), (ii 0), (.str []), .nils]) h14 λ x26 h27 => wK (bS 5 x26 x25 h27) λ x28 h29 => vK (aH 3 x26) λ x30 => wK (bS 1 x30 r2 h29) λ x31 h32 => vK (aJ 2 h32.get x1) λ x33 => vK (aJ 5 h32.get x26) λ x34 => wK (aE E 153 [x33, r1, x34] h32) λ x35 h36 => wK (bS 2 x3 x35 h36) λ x37 h38 => vK (aJ 2 h38.get x3) λ x39 => some ((.tup [x39, (ii 0)]), h38))
theorem bJf : iB3 E bKZ (aJJ E) := Is.rf
def aXF : cB := fA3 (aJJ E)
theorem bBC : SQ bKZ aXF := eB3 bJf
def aQc := cm 133
def bMv := cr (cr (cr aQc.body))
def bMu := cl (cr (cl (cr (cr aQc.body))))
def aPG (E : bG) (r3 : DV) (h : H) : aV := some (r3, h)
def aFC (r0 : DV) (i2 : DV → DV → H → aV) (r3 r4 : DV) (h : H) : aV := vK (bX r0) λ x1 => vK (cW r4 x1) λ x2 => bK x2 (vK (cC 1 r0 r4) λ x3 => vK (aF h.get x3) λ x4 => wK (aE E 54 [x4] h) λ x5 h6 => vK (bJ r3 x5) λ x7 => vK (bJ r4 (ii 1)) λ x8 => i2 x7 x8 h6) (aPG E r3 h)
def aBX (r0 : DV) (n : Nat) : DV → DV → H → aV := Nat.rec (motive := λ _ => DV → DV → H → aV) (λ _ _ _ => none) (λ _ i => aFC E r0 i) n
def aJI (r0 : DV) (h : H) : aV := vK (bX r0) λ x1 => wK (aE E 53 [x1] h) λ x2 h3 => aBX E r0 aT x2 (ii 0) h3
theorem bJd : Is E bMv (bU aQc.res) (λ σ h => aPG E (σ p3) h) := Is.rf
abbrev bGR : iF (DV × H) := (cP (λ σ h => aPG E (σ p3) h) (bU aQc.res))
theorem bJc : Is E bMu (bV 0 (bGR E)) (λ σ h => aBX E (σ p0) aT (σ p3) (σ p4) h) := Is.lp (λ n2 σ h => aBX E (σ p0) n2 (σ p3) (σ p4) h) λ n2 => Is.aq (Is.leaf _)
theorem bJe : nT E aQc (aJI E) := Is.aq (Is.sq (Is.sq (Is.sq (bJd E) (Is.sq (Is.bk (bJc E)) (Is.leaf _))) (Is.leaf _)) (Is.leaf _))
def aXE : cB := nO (aJI E)
theorem bBB : SQ aQc aXE := nX bJe
def aQb := cm 136
def bMt := cr (cr (cr aQb.body))
def bMs := cl (cr (cl (cr (cr aQb.body))))
def aPF (E : bG) (r3 : DV) (h : H) : aV := some (r3, h)
def aFB (r0 : DV) (i2 : DV → DV → H → aV) (r3 r4 : DV) (h : H) : aV := vK (bX r0) λ x1 => vK (cW r4 x1) λ x2 => bK x2 (vK (cC 2 r0 r4) λ x3 => vK (aH 0 x3) λ x4 => vK (aF h.get x4) λ x5 => fT 1 1 [(.str [])] [(0, 1, x5)] h λ x6 h7 => wK (cF 1 16 r3 x6 h7) λ x8 h9 => vK (bJ r4 (ii 1)) λ x10 => i2 x8 x10 h9) (aPF E r3 h)
def aBW (r0 : DV) (n : Nat) : DV → DV → H → aV := Nat.rec (motive := λ _ => DV → DV → H → aV) (λ _ _ _ => none) (λ _ i => aFB E r0 i) n
def aYL (r0 : DV) (h : H) : aV := aBW E r0 aT .nils (ii 0) h
theorem bJa : Is E bMt (bU aQb.res) (λ σ h => aPF E (σ p3) h) := Is.rf
abbrev bGQ : iF (DV × H) := (cP (λ σ h => aPF E (σ p3) h) (bU aQb.res))
theorem bIZ : Is E bMs (bV 0 (bGQ E)) (λ σ h => aBW E (σ p0) aT (σ p3) (σ p4) h) := Is.lp (λ n2 σ h => aBW E (σ p0) n2 (σ p3) (σ p4) h) λ n2 => Is.aq (Is.leaf _)
theorem bJb : nT E aQb (aYL E) := Is.aq (Is.sq (Is.sq (Is.sq (bJa E) (Is.sq (Is.bk (bIZ E)) (Is.leaf _))) (Is.leaf _)) (Is.leaf _))
def aXD : cB := nO (aYL E)
theorem bBA : SQ aQb aXD := nX bJb
def aQa := cm 137
def bMr := cr (cr (cr (cr (cl (cr aQa.body)))))
def aKu := cl (cr (cl (cr (cr (cr (cl (cr aQa.body)))))))
def bMq := cr (cr (cr (cl aKu)))
def bMp := cr (cr (cl (cl (cr (cr (cl aKu))))))
def bMo := cr (cl (cr (cl (cr (cl (cl (cr (cr (cl aKu)))))))))
def aPE (E : bG) (r4 : DV) (h : H) : aV := some ((.tup [r4, (ii 0)]), h)
def zF (E : bG) (i2 : DV → DV → H → aV) (r4 r23 : DV) (h : H) : aV := vK (bJ r23 (ii 1)) λ x1 => i2 r4 x1 h
def aJG (i2 : DV → DV → H → aV) (r4 r6 r23 : DV) (h : H) : aV := wK (aE E 146 [r6] h) λ x1 h2 => vK (nE x1) λ x3 => bK x3 (some ((.tup [.nils, (ii 15)]), h2)) (fT 1 1 [(.str [])] [(0, 1, r6)] h2 λ x4 h5 => wK (cF 1 16 r4 x4 h5) λ x6 h7 => zF E i2 x6 r23 h7)
def aFc (i2 : DV → DV → H → aV) (r4 r6 r23 r27 r28 : DV) (h : H) : aV := bK r28 (zF E i2 r4 r23 h) (vK (bZ r27 (.str [46, 46])) λ x1 => bK x1 (vK (bX r4) λ x2 => vK (fE x2 (ii 1)) λ x3 => vK (aAT x3 (ii 0)) λ x4 => vK (dO 1 r4 none (some x4)) λ x5 => zF E i2 x5 r23 h) (aJG E i2 r4 r6 r23 h))
def aFA (r21 r22 : DV) (i2 : DV → DV → H → aV) (r4 r23 : DV) (h : H) : aV := vK (cW r23 r22) λ x1 => bK x1 (vK (cC 1 r21 r23) λ x2 => vK (aF h.get x2) λ x3 => vK (bZ x3 (.str [])) λ x4 => bK x4 (aFc E i2 r4 x3 r23 x3 x4 h) (vK (bZ x3 (.str [46])) λ x5 => aFc E i2 r4 x3 r23 x3 x5 h)) (aPE E r4 h)
def mG (r21 r22 : DV) (n : Nat) : DV → DV → H → aV := Nat.rec (motive := λ _ => DV → DV → H → aV) (λ _ _ _ => none) (λ _ i => aFA E r21 r22 i) n
def aJH (r0 : DV) (h : H) : aV := vK (bZ r0 (.str [])) λ x1 => bT x1 false (λ kk => kk r0 h) h λ x2 h3 => bT x1 false (λ kk => vK (gR x2 (ii 0)) λ v => kk v h3) h3 λ x4 h5 => bT x1 false (λ kk => vK (dB x4 (.int .u8 (.ofNat 47))) λ v => kk v h5) h5 λ x6 h7 => vK (bF x1 (.bool true) x6) λ x8 => bT x8 false (λ kk => kk r0 h7) h7 λ x9 h10 => bT x8 false (λ kk => vK (cA x9) λ v => kk v h10) h10 λ x11 h12 => bT x8 false (λ kk => vK (eF x11 (ii 255)) λ v => kk v h12) h12 λ x13 h14 => vK (bF x8 (.bool true) x13) λ x15 => bK x15 (some ((.tup [.nils, (ii 15)]), h14)) (vK (gV r0 (some (ii 1)) none) λ x16 => wK (aE E 161 [x16, (.str [47])] h14) λ x17 h18 => vK (bX x17) λ x19 => mG E x17 x19 aT .nils (ii 0) h18)
theorem bIX : Is E bMr (aAa (bU aQa.res)) (λ σ h => aPE E (σ p4) h) := Is.rf
abbrev aYk : iF (DV × H) := (cP (λ σ h => aPE E (σ p4) h) (aAa (bU aQa.res)))
abbrev aYj (n2 : Nat) : iF (DV × H) := (cP (λ σ h => (mG E (σ p21) (σ p22) n2) (σ p4) (σ p23) h) (bV 0 (aYk E)))
theorem bIV (n2 : Nat) : Is E bMq (aYj E n2) (λ σ h => zF E (mG E (σ p21) (σ p22) n2) (σ p4) (σ p23) h) := Is.rf
abbrev aYi (n2 : Nat) : iF (DV × H) := (cP (λ σ h => zF E (mG E (σ p21) (σ p22) n2) (σ p4) (σ p23) h) (aYj E n2))
theorem bIU (n2 : Nat) : Is E bMp (bV 1 (aYi E n2)) (λ σ h => aJG E (mG E (σ p21) (σ p22) n2) (σ p4) (σ p6) (σ p23) h) := Is.rf
abbrev bGP (n2 : Nat) : iF (DV × H) := (cP (λ σ h => aJG E (mG E (σ p21) (σ p22) n2) (σ p4) (σ p6) (σ p23) h) (bV 1 (aYi E n2)))
theorem bIT (n2 : Nat) : Is E bMo (bV 2 (bGP E n2)) (λ σ h => aFc E (mG E (σ p21) (σ p22) n2) (σ p4) (σ p6) (σ p23) (σ p27) (σ p28) h) := Is.rf
theorem bIW : Is E aKu (bV 0 (aYk E)) (λ σ h => mG E (σ p21) (σ p22) aT (σ p4) (σ p23) h) := Is.lp (λ n2 σ h => mG E (σ p21) (σ p22) n2 (σ p4) (σ p23) h) λ n2 => Is.aq (Is.sq (Is.sq (Is.sq (bIV E n2) (Is.bk (Is.sq (Is.sq (bIU E n2) (Is.sq (Is.bk (Is.sq (bIT E n2) (Is.leaf _))) (Is.leaf _))) (Is.leaf _)))) (Is.leaf _)) (Is.leaf _))
theorem bIY : nT E aQa (aJH E) := Is.aq (Is.sq (Is.sc (Is.sq (Is.sq (Is.sq (Is.sq (bIX E) (Is.sq (Is.bk (bIW E)) (Is.leaf _))) (Is.leaf _)) (Is.leaf _)) (Is.leaf _))) (Is.leaf _))
def aXC : cB := nO (aJH E)
theorem bBz : SQ aQa aXC := nX bIY
def aPZ := cm 138
def bMn := cr (cr (cr aPZ.body))
def bMm := cl (cr (cl (cr (cr aPZ.body))))
def aJE (E : bG) (r6 : DV) (h : H) : aV := some ((.tup [r6, (ii 0)]), h)
def aFz (r0 r12 r13 : DV) (i2 : DV → DV → H → aV) (r6 r14 : DV) (h : H) : aV := vK (cW r14 r13) λ x1 => bK x1 (vK (cC 1 r12 r14) λ x2 => vK (aF h.get x2) λ x3 => wK (aE E 87 [r0, r6] h) λ x4 h5 => vK (eN .ptr false h5.get x4 .nilp) λ x6 => bK x6 (some ((.tup [(ii 0), (ii 13)]), h5)) (wK (aE E 145 [x4, x3] h5) λ x7 h8 => vK (aG 0 x7) λ x9 => vK (aG 1 x7) λ x10 => vK (dB x10 (ii 0)) λ x11 => bK x11 (some ((.tup [(ii 0), x10]), h8)) (vK (bJ r14 (ii 1)) λ x12 => i2 x9 x12 h8))) (aJE E r6 h)
def aBV (r0 r12 r13 : DV) (n : Nat) : DV → DV → H → aV := Nat.rec (motive := λ _ => DV → DV → H → aV) (λ _ _ _ => none) (λ _ i => aFz E r0 r12 r13 i) n
def aJF (r0 r1 : DV) (h : H) : aV := vK (bX r1) λ x1 => aBV E r0 r1 x1 aT (ii 1) (ii 0) h
theorem bIR : Is E bMn (bU aPZ.res) (λ σ h => aJE E (σ p6) h) := Is.rf
abbrev bGO : iF (DV × H) := (cP (λ σ h => aJE E (σ p6) h) (bU aPZ.res))
theorem bIQ : Is E bMm (bV 0 (bGO E)) (λ σ h => aBV E (σ p0) (σ p12) (σ p13) aT (σ p6) (σ p14) h) := Is.lp (λ n2 σ h => aBV E (σ p0) (σ p12) (σ p13) n2 (σ p6) (σ p14) h) λ n2 => Is.aq (Is.leaf _)
theorem bIS : kV E aPZ (aJF E) := Is.aq (Is.sq (Is.sq (Is.sq (bIR E) (Is.sq (Is.bk (bIQ E)) (Is.leaf _))) (Is.leaf _)) (Is.leaf _))
def aXB : cB := kR (aJF E)
theorem bBy : SQ aPZ aXB := kW bIS
def aKs := cm 139
def aQq := cr (cr (cr (cr (cr aKs.body))))
def bMk := cr aQq
def bMj := cl (cr (cl aQq))
def bMl := cl (cl (cr (cr (cr (cr aKs.body)))))
def aJD (E : bG) (r8 : DV) (h : H) : aV := vK (mJ h.get r8) λ x1 => some ((.tup [x1, (ii 0)]), h)
def aFx (r1 r2 r8 : DV) (i4 : DV → H → aV) (r9 : DV) (h : H) : aV := vK (cA r2) λ x1 => vK (cW r9 x1) λ x2 => bK x2 (vK (bJ r1 r9) λ x3 => vK (gR r2 r9) λ x4 => vK (cC 1 r8 x3) λ x5 => wK (bS 1 x5 x4 h) λ x6 h7 => vK (bJ r9 (ii 1)) λ x8 => i4 x8 h7) (aJD E r8 h)
def aBT (r1 r2 r8 : DV) (n : Nat) : DV → H → aV := Nat.rec (motive := λ _ => DV → H → aV) (λ _ _ => none) (λ _ i => aFx E r1 r2 r8 i) n
def aFb (r1 r2 r8 : DV) (h : H) : aV := aBT E r1 r2 r8 aT (ii 0) h
def aFy (r1 r2 : DV) (i2 : DV → H → aV) (r8 : DV) (h : H) : aV := vK (bX r8) λ x1 => vK (cA r2) λ x2 => vK (bJ r1 x2) λ x3 => vK (cW x1 x3) λ x4 => bK x4 (fT 1 1 [(.int .u8 (.ofNat 0))] [(0, 1, (.int .u8 (.ofNat 0)))] h λ x5 h6 => wK (cF 1 1 r8 x5 h6) λ x7 h8 => i2 x7 h8) (aFb E r1 r2 r8 h)
def aBU (r1 r2 : DV) (n : Nat) : DV → H → aV := Nat.rec (motive := λ _ => DV → H → aV) (λ _ _ => none) (λ _ i => aFy E r1 r2 i) n
def vW (r0 r1 r2 : DV) (h : H) : aV := vK (cW r1 (ii 0)) λ x1 => bK x1 (some ((.tup [(.str []), (ii 1)]), h)) (vK (cA r0) λ x2 => vK (eF x2 (ii 65536)) λ x3 => bT x3 false (λ kk => kk r2 h) h λ x4 h5 => bT x3 false (λ kk => vK (cA x4) λ v => kk v h5) h5 λ x6 h7 => bT x3 false (λ kk => vK (eF x6 (ii 65536)) λ v => kk v h7) h7 λ x8 h9 => vK (bF x3 (.bool true) x8) λ x10 => bT x10 false (λ kk => kk r1 h9) h9 λ x11 h12 => bT x10 false (λ kk => kk r2 h12) h12 λ x13 h14 => bT x10 false (λ kk => vK (cA x13) λ v => kk v h14) h14 λ x15 h16 => bT x10 false (λ kk => vK (fE (ii 65536) x15) λ v => kk v h16) h16 λ x17 h18 => bT x10 false (λ kk => vK (eF x11 x17) λ v => kk v h18) h18 λ x19 h20 => vK (bF x10 (.bool true) x19) λ x21 => bK x21 (some ((.tup [(.str []), (ii 2)]), h20)) (aGQ r0 h20 λ x22 h23 => aBU E r1 r2 aT x22 h23))
theorem bIM : Is E bMk (bU aKs.res) (λ σ h => aJD E (σ p8) h) := Is.rf
abbrev bGN : iF (DV × H) := (cP (λ σ h => aJD E (σ p8) h) (bU aKs.res))
theorem bIL : Is E bMj (bV 2 (bGN E)) (λ σ h => aBT E (σ p1) (σ p2) (σ p8) aT (σ p9) h) := Is.lp (λ n4 σ h => aBT E (σ p1) (σ p2) (σ p8) n4 (σ p9) h) λ n4 => Is.aq (Is.leaf _)
theorem bIO : Is E aQq (bU aKs.res) (λ σ h => aFb E (σ p1) (σ p2) (σ p8) h) := Is.aq (Is.sq (bIM E) (Is.sq (Is.bk (bIL E)) (Is.leaf _)))
abbrev bGM : iF (DV × H) := (cP (λ σ h => aFb E (σ p1) (σ p2) (σ p8) h) (bU aKs.res))
theorem bIN : Is E bMl (bV 0 (bGM E)) (λ σ h => aBU E (σ p1) (σ p2) aT (σ p8) h) := Is.lp (λ n2 σ h => aBU E (σ p1) (σ p2) n2 (σ p8) h) λ n2 => Is.aq (Is.leaf _)
theorem bIP : iB3 E aKs (vW E) := Is.aq (Is.sq (Is.sq (Is.sq (Is.sq (Is.sq (bIO E) (Is.bk (bIN E))) (Is.leaf _)) (Is.leaf _)) (Is.leaf _)) (Is.leaf _))
def aUw : cB := fA3 (vW E)
theorem bBx : SQ aKs aUw := eB3 bIP
def bKY := cm 140
def vV (E : bG) (r0 r1 r2 : DV) (h : H) : aV := vK (cW r1 (ii 0)) λ x1 => bK x1 (some ((.tup [(.str []), (ii 1)]), h)) (vK (cA r0) λ x2 => vK (eF x2 (ii 65536)) λ x3 => bT x3 false (λ kk => kk r2 h) h λ x4 h5 => bT x3 false (λ kk => vK (cA x4) λ v => kk v h5) h5 λ x6 h7 => bT x3 false (λ kk => vK (eF x6 (ii 65536)) λ v => kk v h7) h7 λ x8 h9 => vK (bF x3 (.bool true) x8) λ x10 => bT x10 false (λ kk => kk r1 h9) h9 λ x11 h12 => bT x10 false (λ kk => kk r2 h12) h12 λ x13 h14 => bT x10 false (λ kk => vK (cA x13) λ v => kk v h14) h14 λ x15 h16 => bT x10 false (λ kk => vK (fE (ii 65536) x15) λ v => kk v h16) h16 λ x17 h18 => bT x10 false (λ kk => vK (eF x11 x17) λ v => kk v h18) h18 λ x19 h20 => vK (bF x10 (.bool true) x19) λ x21 => bK x21 (some ((.tup [(.str []), (ii 2)]), h20)) (vK (cA r0) λ x22 => vK (cA r2) λ x23 => vK (bJ r1 x23) λ x24 => vK (aAT x22 x24) λ x25 => tQ 1 1 (.int .u8 (.ofNat 0)) x25 x25 h20 λ x26 h27 => wK (lI 1 x26 r0 h27) λ x28 h29 => vK (dO 1 x26 (some r1) none) λ x30 => wK (lI 1 x30 r2 h29) λ x31 h32 => vK (mJ h32.get x26) λ x33 => some ((.tup [x33, (ii 0)]), h32)))
theorem bIK : iB3 E bKY (vV E) := Is.rf
def aUv : cB := fA3 (vV E)
theorem bBw : SQ bKY aUv := eB3 bIK
def aPY := cm 141
def bMi := cr (cr aPY.body)
def bMh := cl (cr (cl (cr aPY.body)))
def aPD (E : bG) (h : H) : aV := some ((ii 0), h)
def aFw (r0 : DV) (i2 : DV → H → aV) (r3 : DV) (h : H) : aV := vK (cW r3 (ii 256)) λ x1 => bK x1 (vK (aW r0) λ x2 => vK (aH 0 x2) λ x3 => vK (nZ 256 2 x3 r3) λ x4 => vK (aH 1 x4) λ x5 => vK (aF h.get x5) λ x6 => vK (eN .nilI false h.get x6 .nili) λ x7 => bK x7 (some (r3, h)) (vK (bJ r3 (ii 1)) λ x8 => i2 x8 h)) (aPD E h)
def aBS (r0 : DV) (n : Nat) : DV → H → aV := Nat.rec (motive := λ _ => DV → H → aV) (λ _ _ => none) (λ _ i => aFw E r0 i) n
def aJC (r0 : DV) (h : H) : aV := aBS E r0 aT (ii 2) h
theorem bII : Is E bMi (bU aPY.res) (λ σ h => aPD E h) := Is.rf
abbrev bGL : iF (DV × H) := (bV 0 (cP (λ σ h => aPD E h) (bU aPY.res)))
theorem bIH : Is E bMh (bGL E) (λ σ h => aBS E (σ p0) aT (σ p3) h) := Is.lp (λ n2 σ h => aBS E (σ p0) n2 (σ p3) h) λ n2 => Is.aq (Is.leaf _)
theorem bIJ : nT E aPY (aJC E) := Is.aq (Is.sq (Is.sq (bII E) (Is.sq (Is.bk (bIH E)) (Is.leaf _))) (Is.leaf _))
def aXA : cB := nO (aJC E)
theorem bBv : SQ aPY aXA := nX bIJ
def bKX := cm 142
def aJB (r0 r1 : DV) (h : H) : aV := vK (eN .ptr false h.get r0 .nilp) λ x1 => bK x1 (some ((.tup [(ii 0), (.bool false)]), h)) (vK (aW r0) λ x2 => vK (aH 0 x2) λ x3 => vK (aF h.get x3) λ x4 => wK (aE E 162 [x4, r1, (.fn (.func 163) [] [])] h) λ x5 h6 => vK (aG 0 x5) λ x7 => vK (aG 1 x5) λ x8 => some ((.tup [x7, x8]), h6))
theorem bIG : kV E bKX (aJB E) := Is.rf
def aXz : cB := kR (aJB E)
theorem bBu : SQ bKX aXz := kW bIG
def bKW := cm 143
def aJA (E : bG) (r0 r1 r2 : DV) (h : H) : aV := vK (bX r0) λ x1 => vK (xS 2 r0 (some r1) r2 x1) λ x2 => vK (bZ r1 r2) λ x3 => bK x3 (some (r0, h)) (vK (bX r0) λ x4 => vK (dO 2 r0 none (some r1)) λ x5 => vK (dO 2 r0 (some r2) none) λ x6 => wK (cF 2 24 x5 x6 h) λ x7 h8 => vK (bX x7) λ x9 => vK (dO 2 x7 (some x9) (some x4)) λ x10 => wK (vD [(.str []), (ii 0)] x10 h8) λ x11 h12 => some (x7, h12))
theorem bIF : iB3 E bKW (aJA E) := Is.rf
def aXy : cB := fA3 (aJA E)
theorem bBt : SQ bKW aXy := eB3 bIF
def aPX := cm 144
def bMg := cr (cr (cr aPX.body))
def bMf := cl (cr (cl (cr (cr aPX.body))))
def aPC (E : bG) (h : H) : aV := some ((.bool true), h)
def aFv (r0 r1 r12 : DV) (i2 : DV → H → aV) (r13 : DV) (h : H) : aV := vK (cW r13 r12) λ x1 => bK x1 (vK (cC 1 r0 r13) λ x2 => vK (aF h.get x2) λ x3 => vK (cC 1 r1 r13) λ x4 => vK (aF h.get x4) λ x5 => vK (dB x3 x5) λ x6 => bK x6 (some ((.bool false), h)) (vK (bJ r13 (ii 1)) λ x7 => i2 x7 h)) (aPC E h)
def aBR (r0 r1 r12 : DV) (n : Nat) : DV → H → aV := Nat.rec (motive := λ _ => DV → H → aV) (λ _ _ => none) (λ _ i => aFv E r0 r1 r12 i) n
def aJz (r0 r1 : DV) (h : H) : aV := vK (bX r0) λ x1 => vK (bX r1) λ x2 => vK (dB x1 x2) λ x3 => bK x3 (some ((.bool false), h)) (vK (bX r0) λ x4 => aBR E r0 r1 x4 aT (ii 0) h)
theorem bID : Is E bMg (bU aPX.res) (λ σ h => aPC E h) := Is.rf
abbrev bGK : iF (DV × H) := (bV 0 (cP (λ σ h => aPC E h) (bU aPX.res)))
theorem bIC : Is E bMf (bGK E) (λ σ h => aBR E (σ p0) (σ p1) (σ p12) aT (σ p13) h) := Is.lp (λ n2 σ h => aBR E (σ p0) (σ p1) (σ p12) n2 (σ p13) h) λ n2 => Is.aq (Is.leaf _)
theorem bIE : kV E aPX (aJz E) := Is.aq (Is.sq (Is.sq (Is.sq (bID E) (Is.sq (Is.bk (bIC E)) (Is.leaf _))) (Is.leaf _)) (Is.leaf _))
def aXx : cB := kR (aJz E)
theorem bBs : SQ aPX aXx := kW bIE
def bKV := cm 145
def aJy (r0 r1 : DV) (h : H) : aV := wK (aE E 142 [r0, r1] h) λ x1 h2 => vK (aG 0 x1) λ x3 => vK (aG 1 x1) λ x4 => vK (nE x4) λ x5 => bK x5 (some ((.tup [(ii 0), (ii 7)]), h2)) (vK (aW r0) λ x6 => vK (aH 0 x6) λ x7 => vK (aF h2.get x7) λ x8 => vK (cC 2 x8 x3) λ x9 => vK (aH 1 x9) λ x10 => vK (aF h2.get x10) λ x11 => some ((.tup [x11, (ii 0)]), h2))
theorem bIB : kV E bKV (aJy E) := Is.rf
def aXw : cB := kR (aJy E)
theorem bBr : SQ bKV aXw := kW bIB
def bKU := cm 146
def aJx (r0 : DV) (h : H) : aV := vK (dB r0 (.str [])) λ x1 => bT x1 true (λ kk => kk r0 h) h λ x2 h3 => bT x1 true (λ kk => vK (cA x2) λ v => kk v h3) h3 λ x4 h5 => bT x1 true (λ kk => vK (aDx x4 (ii 28)) λ v => kk v h5) h5 λ x6 h7 => vK (bF x1 x6 (.bool false)) λ x8 => bT x8 true (λ kk => kk r0 h7) h7 λ x9 h10 => bT x8 true (λ kk => vK (dB x9 (.str [46])) λ v => kk v h10) h10 λ x11 h12 => vK (bF x8 x11 (.bool false)) λ x13 => bT x13 true (λ kk => kk r0 h12) h12 λ x14 h15 => bT x13 true (λ kk => vK (dB x14 (.str [46, 46])) λ v => kk v h15) h15 λ x16 h17 => vK (bF x13 x16 (.bool false)) λ x18 => bT x18 true (λ kk => kk r0 h17) h17 λ x19 h20 => bT x18 true (λ kk => wK (aE E 164 [x19, (.int .u8 (.ofNat 47))] h20) kk) h20 λ x21 h22 => bT x18 true (λ kk => vK (cW x21 (ii 0)) λ v => kk v h22) h22 λ x23 h24 => vK (bF x18 x23 (.bool false)) λ x25 => bT x25 true (λ kk => kk r0 h24) h24 λ x26 h27 => bT x25 true (λ kk => wK (aE E 164 [x26, (.int .u8 (.ofNat 0))] h27) kk) h27 λ x28 h29 => bT x25 true (λ kk => vK (cW x28 (ii 0)) λ v => kk v h29) h29 λ x30 h31 => vK (bF x25 x30 (.bool false)) λ x32 => some (x32, h31)
theorem bIA : nT E bKU (aJx E) := Is.rf
def aXv : cB := nO (aJx E)
theorem bBq : SQ bKU aXv := nX bIA
def bKT := cm 147
def aCe (r0 r1 r2 : DV) (h : H) : aV := vK (dO 2 r0 (some r1) none) λ x1 => vK (bX r2) λ x2 => vK (bZ x2 (ii 0)) λ x3 => bK x3 (some (r0, h)) (vK (bX r0) λ x4 => vK (bZ r1 x4) λ x5 => bK x5 (wK (cF 2 24 r0 r2 h) λ x6 h7 => some (x6, h7)) (vK (bJ x4 x2) λ x8 => vK (aDz r0) λ x9 => vK (eF x8 x9) λ x10 => bK x10 (vK (dO 2 r0 none (some r1)) λ x11 => vK (bJ x4 x2) λ x12 => vK (fE x12 r1) λ x13 => wK (aMq 2 24 [(.str []), (ii 0)] x11 x13 h) λ x14 h15 => vK (dO 2 x14 (some r1) none) λ x16 => wK (lI 2 x16 r2 h15) λ x17 h18 => vK (bJ r1 x2) λ x19 => vK (dO 2 x14 (some x19) none) λ x20 => vK (dO 2 r0 (some r1) none) λ x21 => wK (lI 2 x20 x21 h18) λ x22 h23 => some (x14, h23)) (vK (bJ x4 x2) λ x24 => vK (dO 2 r0 none (some x24)) λ x25 => vK (bJ r1 x2) λ x26 => vK (dO 2 x25 (some x26) none) λ x27 => vK (aKF h.get r2 x27) λ x28 => vK (nE x28) λ x29 => bK x29 (vK (bJ r1 x2) λ x30 => vK (dO 2 x25 (some x30) none) λ x31 => vK (dO 2 x25 (some r1) none) λ x32 => wK (lI 2 x31 x32 h) λ x33 h34 => vK (dO 2 x25 (some r1) none) λ x35 => wK (lI 2 x35 r2 h34) λ x36 h37 => some (x25, h37)) (vK (dO 2 x25 (some x4) none) λ x38 => wK (lI 2 x38 r2 h) λ x39 h40 => vK (dO 2 x25 (some r1) none) λ x41 => wK (aE E 166 [x41, x2] h40) λ x42 h43 => some (x25, h43)))))
theorem bIz : iB3 E bKT (aCe E) := Is.rf
def aIU : cB := fA3 (aCe E)
theorem bBp : SQ bKT aIU := eB3 bIz
def bKS := cm 148
def aJw (r0 : DV) (h : H) : aV := wK (aE E 167 [(.str [0]), r0] h) λ x1 h2 => some (x1, h2)
theorem bIy : nT E bKS (aJw E) := Is.rf
def aUu : cB := nO (aJw E)
theorem bBo : SQ bKS aUu := nX bIy
def bKR := cm 149
def aJv (r0 r1 : DV) (h : H) : aV := dP r1 h λ x1 h2 => wK (aE E 103 [r0, (.fn (.func 168) [] [x1])] h2) λ x3 h4 => some ((.tup []), h4)
theorem bIx : kV E bKR (aJv E) := Is.rf
def aXu : cB := kR (aJv E)
theorem bBn : SQ bKR aXu := kW bIx
def bKQ := cm 150
def aJu (r0 : DV) (h : H) : aV := wK (aE E 154 [r0] h) λ x1 h2 => vK (aG 0 x1) λ x3 => vK (aG 1 x1) λ x4 => vK (dB x4 (ii 0)) λ x5 => bT x5 false (λ kk => kk x3 h2) h2 λ x6 h7 => bT x5 false (λ kk => vK (bX x6) λ v => kk v h7) h7 λ x8 h9 => bT x5 false (λ kk => vK (bZ x8 (ii 0)) λ v => kk v h9) h9 λ x10 h11 => vK (bF x5 (.bool true) x10) λ x12 => bK x12 (some ((.tup [(.str []), (.str []), (ii 15)]), h11)) (vK (bX x3) λ x13 => vK (fE x13 (ii 1)) λ x14 => vK (dO 1 x3 none (some x14)) λ x15 => wK (aE E 156 [x15] h11) λ x16 h17 => vK (aG 0 x16) λ x18 => vK (aG 1 x16) λ x19 => vK (bX x3) λ x20 => vK (fE x20 (ii 1)) λ x21 => vK (cC 1 x3 x21) λ x22 => vK (aF h17.get x22) λ x23 => some ((.tup [x18, x23, (ii 0)]), h17))
theorem bIw : nT E bKQ (aJu E) := Is.rf
def aXt : cB := nO (aJu E)
theorem bBm : SQ bKQ aXt := nX bIw
def bKP := cm 151
def aJt (r0 r1 : DV) (h : H) : aV := wK (aE E 169 [r0, r1] h) λ x1 h2 => vK (aG 0 x1) λ x3 => vK (aG 1 x1) λ x4 => vK (nE x4) λ x5 => bK x5 (some ((.tup [(ii 0), (ii 7)]), h2)) (vK (cC 2 r0 x3) λ x6 => vK (aH 1 x6) λ x7 => vK (aF h2.get x7) λ x8 => some ((.tup [x8, (ii 0)]), h2))
theorem bIv : kV E bKP (aJt E) := Is.rf
def aXs : cB := kR (aJt E)
theorem bBl : SQ bKP aXs := kW bIv
def bKO := cm 152
def aJs (r0 r1 r2 : DV) (h : H) : aV := vK (cW r2 (ii 1)) λ x1 => bT x1 false (λ kk => kk r2 h) h λ x2 h3 => bT x1 false (λ kk => vK (oR x2 (ii 256)) λ v => kk v h3) h3 λ x4 h5 => vK (bF x1 (.bool true) x4) λ x6 => bK x6 (some ((.tup [r0, (ii 1)]), h5)) (wK (aE E 170 [r1] h5) λ x7 h8 => vK (nE x7) λ x9 => bK x9 (some ((.tup [r0, (ii 15)]), h8)) (wK (aE E 169 [r0, r1] h8) λ x10 h11 => vK (aG 0 x10) λ x12 => vK (aG 1 x10) λ x13 => bK x13 (some ((.tup [r0, (ii 6)]), h11)) (vK (dO 2 r0 none (some x12)) λ x14 => vK (dL [(.str []), (ii 0)] [(0, 1, r1), (1, 1, r2)]) λ x15 => fT 1 2 [(.str []), (ii 0)] [(0, 2, x15)] h11 λ x16 h17 => vK (dO 2 r0 (some x12) none) λ x18 => wK (cF 2 24 .nils x14 h17) λ x19 h20 => wK (cF 2 24 x19 x16 h20) λ x21 h22 => wK (cF 2 24 x21 x18 h22) λ x23 h24 => some ((.tup [x23, (ii 0)]), h24))))
theorem bIu : iB3 E bKO (aJs E) := Is.rf
def aXr : cB := fA3 (aJs E)
theorem bBk : SQ bKO aXr := eB3 bIu
def bKN := cm 153
def aJr (E : bG) (r0 r1 r2 : DV) (h : H) : aV := dP r0 h λ x1 h2 => dP r2 h2 λ x3 h4 => dN 2 2 (.list [.nils, (ii 0)]) h4 λ x5 h6 => vK (aH 0 x1) λ x7 => vK (aF h6.get x7) λ x8 => wK (cF 5 64 .nils x8 h6) λ x9 h10 => vK (aJ 5 h10.get x3) λ x11 => vK (cC 5 x9 r1) λ x12 => wK (bS 5 x12 x11 h10) λ x13 h14 => vK (aH 0 x1) λ x15 => wK (bS 1 x15 x9 h14) λ x16 h17 => vK (aJ 2 h17.get x1) λ x18 => wK (bS 2 x5 x18 h17) λ x19 h20 => vK (aJ 2 h20.get x5) λ x21 => some (x21, h20)
theorem bIt : iB3 E bKN (aJr E) := Is.rf
def aXq : cB := fA3 (aJr E)
theorem bBj : SQ bKN aXq := eB3 bIt
def aPW := cm 154
def bMe := cr (cr (cr (cr (cr aPW.body))))
def aQp := cl (cr (cl (cr (cr (cr (cr aPW.body))))))
def bMd := cr (cr (cl aQp))
def bMc := cr (cr (cl (cl (cr (cl aQp)))))
def aPB (E : bG) (r4 : DV) (h : H) : aV := some ((.tup [r4, (ii 0)]), h)
def aCd (E : bG) (i2 : DV → DV → DV → H → aV) (r4 r5 r6 : DV) (h : H) : aV := vK (bJ r6 (ii 1)) λ x1 => i2 r4 r5 x1 h
def tN (i2 : DV → DV → DV → H → aV) (r4 r6 : DV) (h : H) : aV := aCd E i2 r4 (.str []) r6 h
def zH (r0 : DV) (i2 : DV → DV → DV → H → aV) (r4 r5 r6 : DV) (h : H) : aV := vK (cA r0) λ x1 => vK (aDx r6 x1) λ x2 => bK x2 (vK (cA r0) λ x3 => vK (cW r6 x3) λ x4 => bT x4 true (λ kk => kk r0 h) h λ x5 h6 => bT x4 true (λ kk => kk r6 h6) h6 λ x7 h8 => bT x4 true (λ kk => vK (gR x5 x7) λ v => kk v h8) h8 λ x9 h10 => bT x4 true (λ kk => vK (dB x9 (.int .u8 (.ofNat 47))) λ v => kk v h10) h10 λ x11 h12 => vK (bF x4 x11 (.bool false)) λ x13 => bK x13 (vK (bJ r6 (ii 1)) λ x14 => vK (gV r0 (some r6) (some x14)) λ x15 => vK (bJ r5 x15) λ x16 => aCd E i2 r4 x16 r6 h12) (vK (bZ r5 (.str [])) λ x17 => bT x17 false (λ kk => kk r5 h12) h12 λ x18 h19 => bT x17 false (λ kk => vK (bZ x18 (.str [46])) λ v => kk v h19) h19 λ x20 h21 => vK (bF x17 (.bool true) x20) λ x22 => bK x22 (tN E i2 r4 r6 h21) (vK (bZ r5 (.str [46, 46])) λ x23 => bK x23 (vK (bX r4) λ x24 => vK (fE x24 (ii 1)) λ x25 => vK (aAT x25 (ii 0)) λ x26 => vK (dO 1 r4 none (some x26)) λ x27 => wK (cF 1 16 .nils x27 h21) λ x28 h29 => tN E i2 x28 r6 h29) (wK (aE E 170 [r5] h21) λ x30 h31 => vK (nE x30) λ x32 => bK x32 (some ((.tup [.nils, (ii 15)]), h31)) (fT 1 1 [(.str [])] [(0, 1, r5)] h31 λ x33 h34 => wK (cF 1 16 r4 x33 h34) λ x35 h36 => tN E i2 x35 r6 h36))))) (aPB E r4 h)
def mF (r0 : DV) (n : Nat) : DV → DV → DV → H → aV := Nat.rec (motive := λ _ => DV → DV → DV → H → aV) (λ _ _ _ _ => none) (λ _ i => zH E r0 i) n
def aJq (r0 : DV) (h : H) : aV := vK (bZ r0 (.str [])) λ x1 => bT x1 false (λ kk => kk r0 h) h λ x2 h3 => bT x1 false (λ kk => vK (gR x2 (ii 0)) λ v => kk v h3) h3 λ x4 h5 => bT x1 false (λ kk => vK (dB x4 (.int .u8 (.ofNat 47))) λ v => kk v h5) h5 λ x6 h7 => vK (bF x1 (.bool true) x6) λ x8 => bT x8 false (λ kk => kk r0 h7) h7 λ x9 h10 => bT x8 false (λ kk => vK (cA x9) λ v => kk v h10) h10 λ x11 h12 => bT x8 false (λ kk => vK (eF x11 (ii 255)) λ v => kk v h12) h12 λ x13 h14 => vK (bF x8 (.bool true) x13) λ x15 => bK x15 (some ((.tup [.nils, (ii 15)]), h14)) (mF E r0 aT .nils (.str []) (ii 1) h14)
theorem bIr : Is E bMe (bU aPW.res) (λ σ h => aPB E (σ p4) h) := Is.rf
abbrev aYh : iF (DV × H) := (cP (λ σ h => aPB E (σ p4) h) (bU aPW.res))
abbrev aYg (n2 : Nat) : iF (DV × H) := (cP (λ σ h => (mF E (σ p0) n2) (σ p4) (σ p5) (σ p6) h) (bV 0 (aYh E)))
theorem bIp (n2 : Nat) : Is E bMd (aYg E n2) (λ σ h => aCd E (mF E (σ p0) n2) (σ p4) (σ p5) (σ p6) h) := Is.rf
abbrev bGJ (n2 : Nat) : iF (DV × H) := (cP (λ σ h => aCd E (mF E (σ p0) n2) (σ p4) (σ p5) (σ p6) h) (aYg E n2))
theorem bIo (n2 : Nat) : Is E bMc (bV 1 (bGJ E n2)) (λ σ h => tN E (mF E (σ p0) n2) (σ p4) (σ p6) h) := Is.rf
theorem bIq : Is E aQp (bV 0 (aYh E)) (λ σ h => mF E (σ p0) aT (σ p4) (σ p5) (σ p6) h) := Is.lp (λ n2 σ h => mF E (σ p0) n2 (σ p4) (σ p5) (σ p6) h) λ n2 => Is.aq (Is.sq (Is.sq (bIp E n2) (Is.bk (Is.sq (Is.sq (bIo E n2) (Is.leaf _)) (Is.leaf _)))) (Is.leaf _))
theorem bIs : nT E aPW (aJq E) := Is.aq (Is.sq (Is.sq (Is.sq (Is.sq (Is.sq (bIr E) (Is.sq (Is.bk (bIq E)) (Is.leaf _))) (Is.leaf _)) (Is.leaf _)) (Is.leaf _)) (Is.leaf _))
def aXp : cB := nO (aJq E)
theorem bBi : SQ aPW aXp := nX bIs
def bKM := cm 155
def aJp (r0 r1 : DV) (h : H) : aV := wK (aE E 169 [r0, r1] h) λ x1 h2 => vK (aG 0 x1) λ x3 => vK (aG 1 x1) λ x4 => vK (nE x4) λ x5 => bK x5 (some ((.tup [r0, (ii 0), (ii 7)]), h2)) (vK (dO 2 r0 none (some x3)) λ x6 => vK (bJ x3 (ii 1)) λ x7 => vK (dO 2 r0 (some x7) none) λ x8 => vK (cC 2 r0 x3) λ x9 => vK (aH 1 x9) λ x10 => vK (aF h2.get x10) λ x11 => wK (cF 2 24 .nils x6 h2) λ x12 h13 => rK (tY (aF h13.get x10) x11) <| wK (cF 2 24 x12 x8 h13) λ x14 h15 => rK (tY (aF h15.get x10) x11) <| some ((.tup [x14, x11, (ii 0)]), h15))
theorem bIn : kV E bKM (aJp E) := Is.rf
def aXo : cB := kR (aJp E)
theorem bBh : SQ bKM aXo := kW bIn
def aPV := cm 156
def bMb := cr (cr (cr aPV.body))
def bMa := cl (cr (cl (cr (cr aPV.body))))
def aJo (E : bG) (r4 : DV) (h : H) : aV := vK (bZ r4 (.str [])) λ x1 => bK x1 (some ((.tup [(.str [47]), (ii 0)]), h)) (some ((.tup [r4, (ii 0)]), h))
def aFu (r0 : DV) (i2 : DV → DV → H → aV) (r4 r5 : DV) (h : H) : aV := vK (bX r0) λ x1 => vK (cW r5 x1) λ x2 => bK x2 (vK (cC 1 r0 r5) λ x3 => vK (aF h.get x3) λ x4 => wK (aE E 170 [x4] h) λ x5 h6 => vK (nE x5) λ x7 => bT x7 false (λ kk => kk r4 h6) h6 λ x8 h9 => bT x7 false (λ kk => vK (cA x8) λ v => kk v h9) h9 λ x10 h11 => bT x7 false (λ kk => kk r0 h11) h11 λ x12 h13 => bT x7 false (λ kk => kk r5 h13) h13 λ x14 h15 => bT x7 false (λ kk => vK (cC 1 x12 x14) λ v => kk v h15) h15 λ x16 h17 => bT x7 false (λ kk => vK (aF h17.get x16) λ v => kk v h17) h17 λ x18 h19 => bT x7 false (λ kk => vK (cA x18) λ v => kk v h19) h19 λ x20 h21 => bT x7 false (λ kk => vK (bJ x10 x20) λ v => kk v h21) h21 λ x22 h23 => bT x7 false (λ kk => vK (oR x22 (ii 255)) λ v => kk v h23) h23 λ x24 h25 => vK (bF x7 (.bool true) x24) λ x26 => bK x26 (some ((.tup [(.str []), (ii 15)]), h25)) (vK (cC 1 r0 r5) λ x27 => vK (aF h25.get x27) λ x28 => vK (bJ (.str [47]) x28) λ x29 => vK (bJ r4 x29) λ x30 => vK (bJ r5 (ii 1)) λ x31 => i2 x30 x31 h25)) (aJo E r4 h)
def aBQ (r0 : DV) (n : Nat) : DV → DV → H → aV := Nat.rec (motive := λ _ => DV → DV → H → aV) (λ _ _ _ => none) (λ _ i => aFu E r0 i) n
def aYK (r0 : DV) (h : H) : aV := aBQ E r0 aT (.str []) (ii 0) h
theorem bIl : Is E bMb (bU aPV.res) (λ σ h => aJo E (σ p4) h) := Is.rf
abbrev bGI : iF (DV × H) := (cP (λ σ h => aJo E (σ p4) h) (bU aPV.res))
theorem bIk : Is E bMa (bV 0 (bGI E)) (λ σ h => aBQ E (σ p0) aT (σ p4) (σ p5) h) := Is.lp (λ n2 σ h => aBQ E (σ p0) n2 (σ p4) (σ p5) h) λ n2 => Is.aq (Is.leaf _)
theorem bIm : nT E aPV (aYK E) := Is.aq (Is.sq (Is.sq (Is.sq (bIl E) (Is.sq (Is.bk (bIk E)) (Is.leaf _))) (Is.leaf _)) (Is.leaf _))
def aXn : cB := nO (aYK E)
theorem bBg : SQ aPV aXn := nX bIm
def bKL := cm 161
def aJn (r0 r1 : DV) (h : H) : aV := wK (aE E 172 [r0, r1, (ii 0), (.int .i64 (.negSucc 0))] h) λ x1 h2 => some (x1, h2)
theorem bIj : kV E bKL (aJn E) := Is.rf
def aXm : cB := kR (aJn E)
theorem bBf : SQ bKL aXm := kW bIj
def aPU := cm 162
def bLZ := cr (cr (cr aPU.body))
def bLY := cl (cl (cr (cr aPU.body)))
def aJl (r0 r1 r2 r8 : DV) (h : H) : aV := vK (bX r0) λ x1 => vK (cW r8 x1) λ x2 => bT x2 true (λ kk => kk r2 h) h λ x3 h4 => bT x2 true (λ kk => kk r0 h4) h4 λ x5 h6 => bT x2 true (λ kk => kk r8 h6) h6 λ x7 h8 => bT x2 true (λ kk => vK (cC 2 x5 x7) λ v => kk v h8) h8 λ x9 h10 => bT x2 true (λ kk => vK (aJ 2 h10.get x9) λ v => kk v h10) h10 λ x11 h12 => bT x2 true (λ kk => wK (kE E x3 [x11] h12) kk) h12 λ x13 h14 => bT x2 true (λ kk => kk r1 h14) h14 λ x15 h16 => bT x2 true (λ kk => vK (bZ x13 x15) λ v => kk v h16) h16 λ x17 h18 => vK (bF x2 x17 (.bool false)) λ x19 => some ((.tup [r8, x19]), h18)
def aFt (r0 r1 r2 : DV) (i2 : DV → DV → H → aV) (r8 r9 : DV) (h : H) : aV := vK (cW r8 r9) λ x1 => bK x1 (vK (bJ r8 r9) λ x2 => vK (aQx x2 (ii 2)) λ x3 => vK (cC 2 r0 x3) λ x4 => vK (aJ 2 h.get x4) λ x5 => wK (kE E r2 [x5] h) λ x6 h7 => vK (cW x6 r1) λ x8 => bK x8 (vK (bJ x3 (ii 1)) λ x9 => i2 x9 r9 h7) (i2 r8 x3 h7)) (aJl E r0 r1 r2 r8 h)
def aBP (r0 r1 r2 : DV) (n : Nat) : DV → DV → H → aV := Nat.rec (motive := λ _ => DV → DV → H → aV) (λ _ _ _ => none) (λ _ i => aFt E r0 r1 r2 i) n
def aJm (r0 r1 r2 : DV) (h : H) : aV := vK (bX r0) λ x1 => aBP E r0 r1 r2 aT (ii 0) x1 h
theorem bIh : Is E bLZ (bU aPU.res) (λ σ h => aJl E (σ p0) (σ p1) (σ p2) (σ p8) h) := Is.rf
abbrev bGH : iF (DV × H) := (cP (λ σ h => aJl E (σ p0) (σ p1) (σ p2) (σ p8) h) (bU aPU.res))
theorem bIg : Is E bLY (bV 0 (bGH E)) (λ σ h => aBP E (σ p0) (σ p1) (σ p2) aT (σ p8) (σ p9) h) := Is.lp (λ n2 σ h => aBP E (σ p0) (σ p1) (σ p2) n2 (σ p8) (σ p9) h) λ n2 => Is.aq (Is.leaf _)
theorem bIi : iB3 E aPU (aJm E) := Is.aq (Is.sq (Is.sq (Is.sq (bIh E) (Is.bk (bIg E))) (Is.leaf _)) (Is.leaf _))
def aXl : cB := fA3 (aJm E)
theorem bBe : SQ aPU aXl := eB3 bIi
def bKK := cm 163
def aJk (E : bG) (r0 : DV) (h : H) : aV := dP r0 h λ x1 h2 => vK (aH 0 x1) λ x3 => vK (aF h2.get x3) λ x4 => some (x4, h2)
theorem bIf : nT E bKK (aJk E) := Is.rf
def aUt : cB := nO (aJk E)
theorem bBd : SQ bKK aUt := nX bIf
def bKJ := cm 164
def aJj (r0 r1 : DV) (h : H) : aV := wK (aE E 173 [r0, r1] h) λ x1 h2 => some (x1, h2)
theorem bIe : kV E bKJ (aJj E) := Is.rf
def aXk : cB := kR (aJj E)
theorem bBc : SQ bKJ aXk := kW bIe
def bKI := cm 166
def aYJ (r0 r1 : DV) (h : H) : aV := vK (bX r0) λ x1 => vK (fE x1 r1) λ x2 => wK (aE E 174 [r0, x2] h) λ x3 h4 => some ((.tup []), h4)
theorem bId : kV E bKI (aYJ E) := Is.rf
def bGn : cB := kR (aYJ E)
theorem bBb : SQ bKI bGn := kW bId
def aPT := cm 168
def bLX := cr (cr (cr aPT.body))
def bLW := cl (cr (cl (cr (cr aPT.body))))
def aPA (E : bG) (r0 : DV) (h : H) : aV := some (r0, h)
def aFs (r10 r11 : DV) (i2 : DV → DV → H → aV) (r0 r12 : DV) (h : H) : aV := vK (cW r12 r11) λ x1 => bK x1 (vK (cC 1 r10 r12) λ x2 => vK (aF h.get x2) λ x3 => wK (aE E 108 [r0, x3] h) λ x4 h5 => vK (bJ r12 (ii 1)) λ x6 => i2 x4 x6 h5) (aPA E r0 h)
def aBO (r10 r11 : DV) (n : Nat) : DV → DV → H → aV := Nat.rec (motive := λ _ => DV → DV → H → aV) (λ _ _ _ => none) (λ _ i => aFs E r10 r11 i) n
def aJi (r0 r1 : DV) (h : H) : aV := vK (aF h.get r1) λ x1 => vK (bX x1) λ x2 => wK (aE E 106 [r0, x2] h) λ x3 h4 => vK (aF h4.get r1) λ x5 => vK (bX x5) λ x6 => aBO E x5 x6 aT x3 (ii 0) h4
theorem bIb : Is E bLX (bU aPT.res) (λ σ h => aPA E (σ p0) h) := Is.rf
abbrev bGG : iF (DV × H) := (cP (λ σ h => aPA E (σ p0) h) (bU aPT.res))
theorem bIa : Is E bLW (bV 0 (bGG E)) (λ σ h => aBO E (σ p10) (σ p11) aT (σ p0) (σ p12) h) := Is.lp (λ n2 σ h => aBO E (σ p10) (σ p11) n2 (σ p0) (σ p12) h) λ n2 => Is.aq (Is.leaf _)
theorem bIc : kV E aPT (aJi E) := Is.aq (Is.sq (Is.sq (Is.sq (bIb E) (Is.sq (Is.bk (bIa E)) (Is.leaf _))) (Is.leaf _)) (Is.leaf _))
def bBa : cB := kR (aJi E)
theorem bAZ : SQ aPT bBa := kW bIc
def aPS := cm 169
def bLV := cr (cr (cr aPS.body))
def bLU := cl (cl (cr (cr aPS.body)))
def aFa (E : bG) (r0 r1 r6 : DV) (h : H) : aV := vK (bX r0) λ x1 => vK (cW r6 x1) λ x2 => bT x2 true (λ kk => kk r0 h) h λ x3 h4 => bT x2 true (λ kk => kk r6 h4) h4 λ x5 h6 => bT x2 true (λ kk => vK (cC 2 x3 x5) λ v => kk v h6) h6 λ x7 h8 => bT x2 true (λ kk => vK (aH 0 x7) λ v => kk v h8) h8 λ x9 h10 => bT x2 true (λ kk => vK (aF h10.get x9) λ v => kk v h10) h10 λ x11 h12 => bT x2 true (λ kk => kk r1 h12) h12 λ x13 h14 => bT x2 true (λ kk => vK (bZ x11 x13) λ v => kk v h14) h14 λ x15 h16 => vK (bF x2 x15 (.bool false)) λ x17 => some ((.tup [r6, x17]), h16)
def aFr (r0 r1 : DV) (i2 : DV → H → aV) (r6 : DV) (h : H) : aV := vK (bX r0) λ x1 => vK (cW r6 x1) λ x2 => bT x2 true (λ kk => kk r0 h) h λ x3 h4 => bT x2 true (λ kk => kk r6 h4) h4 λ x5 h6 => bT x2 true (λ kk => vK (cC 2 x3 x5) λ v => kk v h6) h6 λ x7 h8 => bT x2 true (λ kk => vK (aH 0 x7) λ v => kk v h8) h8 λ x9 h10 => bT x2 true (λ kk => vK (aF h10.get x9) λ v => kk v h10) h10 λ x11 h12 => bT x2 true (λ kk => kk r1 h12) h12 λ x13 h14 => bT x2 true (λ kk => vK (cW x11 x13) λ v => kk v h14) h14 λ x15 h16 => vK (bF x2 x15 (.bool false)) λ x17 => bK x17 (vK (bJ r6 (ii 1)) λ x18 => i2 x18 h16) (aFa E r0 r1 r6 h16)
def aBN (r0 r1 : DV) (n : Nat) : DV → H → aV := Nat.rec (motive := λ _ => DV → H → aV) (λ _ _ => none) (λ _ i => aFr E r0 r1 i) n
def aYI (r0 r1 : DV) (h : H) : aV := aBN E r0 r1 aT (ii 0) h
theorem bHY : Is E bLV (bU aPS.res) (λ σ h => aFa E (σ p0) (σ p1) (σ p6) h) := Is.rf
abbrev bGF : iF (DV × H) := (cP (λ σ h => aFa E (σ p0) (σ p1) (σ p6) h) (bU aPS.res))
theorem bHX : Is E bLU (bV 0 (bGF E)) (λ σ h => aBN E (σ p0) (σ p1) aT (σ p6) h) := Is.lp (λ n2 σ h => aBN E (σ p0) (σ p1) n2 (σ p6) h) λ n2 => Is.aq (Is.leaf _)
theorem bHZ : kV E aPS (aYI E) := Is.aq (Is.sq (Is.sq (Is.sq (bHY E) (Is.bk (bHX E))) (Is.leaf _)) (Is.leaf _))
def aXj : cB := kR (aYI E)
theorem bAY : SQ aPS aXj := kW bHZ
def aPR := cm 170
def bLT := cr (cr aPR.body)
def bLS := cl (cr (cl (cr aPR.body)))
def aEZ (E : bG) (r0 : DV) (h : H) : aV := vK (dB r0 (.str [])) λ x1 => bT x1 true (λ kk => kk r0 h) h λ x2 h3 => bT x1 true (λ kk => vK (cA x2) λ v => kk v h3) h3 λ x4 h5 => bT x1 true (λ kk => vK (aDx x4 (ii 28)) λ v => kk v h5) h5 λ x6 h7 => vK (bF x1 x6 (.bool false)) λ x8 => bT x8 true (λ kk => kk r0 h7) h7 λ x9 h10 => bT x8 true (λ kk => vK (dB x9 (.str [46])) λ v => kk v h10) h10 λ x11 h12 => vK (bF x8 x11 (.bool false)) λ x13 => bT x13 true (λ kk => kk r0 h12) h12 λ x14 h15 => bT x13 true (λ kk => vK (dB x14 (.str [46, 46])) λ v => kk v h15) h15 λ x16 h17 => vK (bF x13 x16 (.bool false)) λ x18 => some (x18, h17)
def aFq (r0 : DV) (i2 : DV → H → aV) (r3 : DV) (h : H) : aV := vK (cA r0) λ x1 => vK (cW r3 x1) λ x2 => bK x2 (vK (gR r0 r3) λ x3 => vK (bZ x3 (.int .u8 (.ofNat 0))) λ x4 => bT x4 false (λ kk => kk r0 h) h λ x5 h6 => bT x4 false (λ kk => kk r3 h6) h6 λ x7 h8 => bT x4 false (λ kk => vK (gR x5 x7) λ v => kk v h8) h8 λ x9 h10 => bT x4 false (λ kk => vK (bZ x9 (.int .u8 (.ofNat 47))) λ v => kk v h10) h10 λ x11 h12 => vK (bF x4 (.bool true) x11) λ x13 => bK x13 (some ((.bool false), h12)) (vK (bJ r3 (ii 1)) λ x14 => i2 x14 h12)) (aEZ E r0 h)
def aBM (r0 : DV) (n : Nat) : DV → H → aV := Nat.rec (motive := λ _ => DV → H → aV) (λ _ _ => none) (λ _ i => aFq E r0 i) n
def aYH (r0 : DV) (h : H) : aV := aBM E r0 aT (ii 0) h
theorem bHV : Is E bLT (bU aPR.res) (λ σ h => aEZ E (σ p0) h) := Is.rf
abbrev bGE : iF (DV × H) := (cP (λ σ h => aEZ E (σ p0) h) (bU aPR.res))
theorem bHU : Is E bLS (bV 0 (bGE E)) (λ σ h => aBM E (σ p0) aT (σ p3) h) := Is.lp (λ n2 σ h => aBM E (σ p0) n2 (σ p3) h) λ n2 => Is.aq (Is.leaf _)
theorem bHW : nT E aPR (aYH E) := Is.aq (Is.sq (Is.sq (bHV E) (Is.sq (Is.bk (bHU E)) (Is.leaf _))) (Is.leaf _))
def aXi : cB := nO (aYH E)
theorem bAX : SQ aPR aXi := nX bHW
def aPQ := cm 172
def aQo := cr (cr (cr (cr aPQ.body)))
def bLR := cr (cr (cr (cr (cr aQo))))
def bLQ := cl (cl (cr (cr (cr (cr aQo)))))
def aEY (E : bG) (r0 r9 r10 : DV) (h : H) : aV := vK (cC 1 r9 r10) λ x1 => wK (bS 1 x1 r0 h) λ x2 h3 => vK (bJ r10 (ii 1)) λ x4 => vK (dO 1 r9 none (some x4)) λ x5 => some (x5, h3)
def aFp (r1 r2 r3 r9 : DV) (i3 : DV → DV → H → aV) (r0 r10 : DV) (h : H) : aV := vK (cW r10 r3) λ x1 => bK x1 (wK (aE E 183 [r0, r1] h) λ x2 h3 => vK (cW x2 (ii 0)) λ x4 => bK x4 (aEY E r0 r9 r10 h3) (vK (bJ x2 r2) λ x5 => vK (gV r0 none (some x5)) λ x6 => vK (cC 1 r9 r10) λ x7 => wK (bS 1 x7 x6 h3) λ x8 h9 => vK (cA r1) λ x10 => vK (bJ x2 x10) λ x11 => vK (gV r0 (some x11) none) λ x12 => vK (bJ r10 (ii 1)) λ x13 => i3 x12 x13 h9)) (aEY E r0 r9 r10 h)
def aBL (r1 r2 r3 r9 : DV) (n : Nat) : DV → DV → H → aV := Nat.rec (motive := λ _ => DV → DV → H → aV) (λ _ _ _ => none) (λ _ i => aFp E r1 r2 r3 r9 i) n
def aJg (r0 r1 r2 r3 : DV) (h : H) : aV := vK (cA r0) λ x1 => vK (bJ x1 (ii 1)) λ x2 => vK (zS r3 x2) λ x3 => tQ 1 16 (.str []) x3 x3 h λ x4 h5 => vK (fE x3 (ii 1)) λ x6 => aBL E r1 r2 x6 x4 aT r0 (ii 0) h5
def aJh (r0 r1 r2 r3 : DV) (h : H) : aV := vK (bZ r3 (ii 0)) λ x1 => bK x1 (some (.nils, h)) (vK (bZ r1 (.str [])) λ x2 => bK x2 (wK (aE E 181 [r0, r3] h) λ x3 h4 => some (x3, h4)) (vK (cW r3 (ii 0)) λ x5 => bK x5 (wK (aE E 182 [r0, r1] h) λ x6 h7 => vK (bJ x6 (ii 1)) λ x8 => aJg E r0 r1 r2 x8 h7) (aJg E r0 r1 r2 r3 h)))
theorem bHR : Is E bLR (bU aPQ.res) (λ σ h => aEY E (σ p0) (σ p9) (σ p10) h) := Is.rf
abbrev bGD : iF (DV × H) := (cP (λ σ h => aEY E (σ p0) (σ p9) (σ p10) h) (bU aPQ.res))
theorem bHQ : Is E bLQ (bV 0 (bGD E)) (λ σ h => aBL E (σ p1) (σ p2) (σ p3) (σ p9) aT (σ p0) (σ p10) h) := Is.lp (λ n3 σ h => aBL E (σ p1) (σ p2) (σ p3) (σ p9) n3 (σ p0) (σ p10) h) λ n3 => Is.aq (Is.leaf _)
theorem bHS : Is E aQo (bU aPQ.res) (λ σ h => aJg E (σ p0) (σ p1) (σ p2) (σ p3) h) := Is.aq (Is.sq (Is.sq (Is.sq (Is.sq (Is.sq (bHR E) (Is.bk (bHQ E))) (Is.leaf _)) (Is.leaf _)) (Is.leaf _)) (Is.leaf _))
theorem bHT : iB4 E aPQ (aJh E) := Is.aq (Is.sq (Is.sq (Is.sq (Is.sq (bHS E) (Is.leaf _)) (Is.leaf _)) (Is.leaf _)) (Is.leaf _))
def aXh : cB := fA4 (aJh E)
theorem bAW : SQ aPQ aXh := eB4 bHT
def bKH := cm 173
def aCc (E : bG) (r0 r1 : DV) (h : H) : aV := vK (aHG r0 r1) λ x1 => some (x1, h)
theorem bHP : kV E bKH (aCc E) := Is.rf
def aIT : cB := kR (aCc E)
theorem bAV : SQ bKH aIT := kW bHP
def bKG := cm 174
def aYG (r0 r1 : DV) (h : H) : aV := vK (dO 2 r0 none (some r1)) λ x1 => wK (aE E 185 [x1] h) λ x2 h3 => vK (dO 2 r0 (some r1) none) λ x4 => wK (aE E 185 [x4] h3) λ x5 h6 => wK (aE E 185 [r0] h6) λ x7 h8 => some ((.tup []), h8)
theorem bHO : kV E bKG (aYG E) := Is.rf
def bGm : cB := kR (aYG E)
theorem bAU : SQ bKG bGm := kW bHO
def aNd := cm 181
def aQn := cr (cr (cr aNd.body))
def aZc := cr (cr aQn)
def bLO := cr aZc
def bLP := cl (cr (cl (cr aQn)))
def aPx (E : bG) (r6 : DV) (h : H) : aV := some (r6, h)
def aPy (r0 r1 r6 : DV) (h : H) : aV := vK (eF r1 (ii 0)) λ x1 => bK x1 (vK (fE r1 (ii 1)) λ x2 => vK (cC 1 r6 x2) λ x3 => wK (bS 1 x3 r0 h) λ x4 h5 => aPx E r6 h5) (aPx E r6 h)
def bMT (r1 r6 : DV) (i3 : DV → DV → H → aV) (r0 r7 : DV) (h : H) : aV := vK (fE r1 (ii 1)) λ x1 => vK (cW r7 x1) λ x2 => bK x2 (wK (aE E 192 [r0] h) λ x3 h4 => vK (aG 0 x3) λ x5 => vK (aG 1 x3) λ x6 => vK (gV r0 none (some x6)) λ x7 => vK (cC 1 r6 r7) λ x8 => wK (bS 1 x8 x7 h4) λ x9 h10 => vK (gV r0 (some x6) none) λ x11 => vK (bJ r7 (ii 1)) λ x12 => i3 x11 x12 h10) (aPy E r0 r1 r6 h)
def aPn (r1 r6 : DV) (n : Nat) : DV → DV → H → aV := Nat.rec (motive := λ _ => DV → DV → H → aV) (λ _ _ _ => none) (λ _ i => bMT E r1 r6 i) n
def aPz (r0 r1 : DV) (h : H) : aV := tQ 1 16 (.str []) r1 r1 h λ x1 h2 => aPn E r1 x1 aT r0 (ii 0) h2
def aYF (r0 r1 : DV) (h : H) : aV := wK (aE E 191 [r0] h) λ x1 h2 => vK (cW r1 (ii 0)) λ x3 => bT x3 false (λ kk => kk r1 h2) h2 λ x4 h5 => bT x3 false (λ kk => kk x1 h5) h5 λ x6 h7 => bT x3 false (λ kk => vK (eF x4 x6) λ v => kk v h7) h7 λ x8 h9 => vK (bF x3 (.bool true) x8) λ x10 => bK x10 (aPz E r0 x1 h9) (aPz E r0 r1 h9)
theorem bHJ : Is E bLO (bU aNd.res) (λ σ h => aPx E (σ p6) h) := Is.rf
theorem bHL : Is E aZc (bU aNd.res) (λ σ h => aPy E (σ p0) (σ p1) (σ p6) h) := Is.aq (Is.sq (bHJ E) (Is.leaf _))
abbrev bGC : iF (DV × H) := (cP (λ σ h => aPy E (σ p0) (σ p1) (σ p6) h) (bU aNd.res))
theorem bHK : Is E bLP (bV 0 (bGC E)) (λ σ h => aPn E (σ p1) (σ p6) aT (σ p0) (σ p7) h) := Is.lp (λ n3 σ h => aPn E (σ p1) (σ p6) n3 (σ p0) (σ p7) h) λ n3 => Is.aq (Is.leaf _)
theorem bHM : Is E aQn (bU aNd.res) (λ σ h => aPz E (σ p0) (σ p1) h) := Is.aq (Is.sq (Is.sq (bHL E) (Is.sq (Is.bk (bHK E)) (Is.leaf _))) (Is.leaf _))
theorem bHN : kV E aNd (aYF E) := Is.aq (Is.sq (Is.sq (Is.sq (bHM E) (Is.leaf _)) (Is.leaf _)) (Is.leaf _))
def bGk : cB := kR (aYF E)
theorem bAT : SQ aNd bGk := kW bHN
def aYW := cm 182
def bLN := cl (cr (cr (cr (cr aYW.body))))
def bMS (r1 : DV) (i1 : DV → DV → H → aV) (r0 r5 : DV) (h : H) : aV := wK (aE E 183 [r0, r1] h) λ x1 h2 => vK (bZ x1 (.int .i64 (.negSucc 0))) λ x3 => bK x3 (some (r5, h2)) (vK (bJ r5 (ii 1)) λ x4 => vK (cA r1) λ x5 => vK (bJ x1 x5) λ x6 => vK (gV r0 (some x6) none) λ x7 => i1 x7 x4 h2)
def aPm (r1 : DV) (n : Nat) : DV → DV → H → aV := Nat.rec (motive := λ _ => DV → DV → H → aV) (λ _ _ _ => none) (λ _ i => bMS E r1 i) n
def aJf (r0 r1 : DV) (h : H) : aV := vK (cA r1) λ x1 => vK (bZ x1 (ii 0)) λ x2 => bK x2 (wK (aE E 191 [r0] h) λ x3 h4 => vK (bJ x3 (ii 1)) λ x5 => some (x5, h4)) (vK (cA r1) λ x6 => vK (bZ x6 (ii 1)) λ x7 => bK x7 (vK (gR r1 (ii 0)) λ x8 => vK (aNB r0 x8) λ x9 => some (x9, h)) (aPm E r1 aT r0 (ii 0) h))
theorem bHH : Is E bLN (bV 0 (bU aYW.res)) (λ σ h => aPm E (σ p1) aT (σ p0) (σ p5) h) := Is.lp (λ n1 σ h => aPm E (σ p1) n1 (σ p0) (σ p5) h) λ n1 => Is.aq (Is.leaf _)
theorem bHI : kV E aYW (aJf E) := Is.aq (Is.sq (Is.sq (Is.sq (Is.sq (Is.bk (bHH E)) (Is.leaf _)) (Is.leaf _)) (Is.leaf _)) (Is.leaf _))
def aXg : cB := kR (aJf E)
theorem bAS : SQ aYW aXg := kW bHI
def bKF := cm 183
def aJe (r0 r1 : DV) (h : H) : aV := wK (aE E 194 [r0, r1] h) λ x1 h2 => some (x1, h2)
theorem bHG : kV E bKF (aJe E) := Is.rf
def aXf : cB := kR (aJe E)
theorem bAR : SQ bKF aXf := kW bHG
def aYV := cm 185
def bLM := cl (cr aYV.body)
def bMR (E : bG) (r0 : DV) (i1 : DV → DV → H → aV) (r2 r3 : DV) (h : H) : aV := vK (cW r2 r3) λ x1 => bK x1 (vK (cC 2 r0 r3) λ x2 => vK (aJ 2 h.get x2) λ x3 => vK (cC 2 r0 r2) λ x4 => vK (aJ 2 h.get x4) λ x5 => vK (cC 2 r0 r2) λ x6 => wK (bS 2 x6 x3 h) λ x7 h8 => vK (cC 2 r0 r3) λ x9 => wK (bS 2 x9 x5 h8) λ x10 h11 => vK (bJ r2 (ii 1)) λ x12 => vK (fE r3 (ii 1)) λ x13 => i1 x12 x13 h11) (some ((.tup []), h))
def aPl (r0 : DV) (n : Nat) : DV → DV → H → aV := Nat.rec (motive := λ _ => DV → DV → H → aV) (λ _ _ _ => none) (λ _ i => bMR E r0 i) n
def aYE (r0 : DV) (h : H) : aV := vK (bX r0) λ x1 => vK (fE x1 (ii 1)) λ x2 => aPl E r0 aT (ii 0) x2 h
theorem bHE : Is E bLM (bV 0 (bU aYV.res)) (λ σ h => aPl E (σ p0) aT (σ p2) (σ p3) h) := Is.lp (λ n1 σ h => aPl E (σ p0) n1 (σ p2) (σ p3) h) λ n1 => Is.aq (Is.leaf _)
theorem bHF : nT E aYV (aYE E) := Is.aq (Is.sq (Is.bk (bHE E)) (Is.leaf _))
def bGj : cB := nO (aYE E)
theorem bAQ : SQ aYV bGj := nX bHF
def aPP := cm 191
def bLL := cr (cr aPP.body)
def bLK := cl (cr (cl (cr aPP.body)))
def aYC (E : bG) (r2 : DV) (h : H) : aV := some (r2, h)
def bMQ (E : bG) (i2 : H → aV) (h : H) : aV := none
def aYc (n : Nat) : H → aV := Nat.rec (motive := λ _ => H → aV) (λ _ => none) (λ _ i => bMQ E i) n
def aYD (E : bG) (h : H) : aV := none
theorem bHC : Is E bLL (bU aPP.res) (λ σ h => aYC E (σ p2) h) := Is.rf
abbrev bGB : iF (DV × H) := (cP (λ σ h => aYC E (σ p2) h) (bU aPP.res))
theorem bHB : Is E bLK (bV 0 (bGB E)) (λ σ h => aYc E aT h) := Is.lp (λ n2 σ h => aYc E n2 h) λ n2 => Is.aq (Is.leaf _)
theorem bHD : nT E aPP (λ _ h => aYD E h) := Is.aq (Is.sq (Is.sq (bHC E) (Is.sq (Is.bk (bHB E)) (Is.leaf _))) (Is.leaf _))
def bGh : cB := nO (λ _ h => aYD E h)
theorem bAP : SQ aPP bGh := nX bHD
def bKE := cm 192
def aYB (r0 : DV) (h : H) : aV := vK (dB r0 (.str [])) λ x1 => bT x1 true (λ kk => kk r0 h) h λ x2 h3 => bT x1 true (λ kk => vK (gR x2 (ii 0)) λ v => kk v h3) h3 λ x4 h5 => bT x1 true (λ kk => vK (cW x4 (.int .u8 (.ofNat 128))) λ v => kk v h5) h5 λ x6 h7 => vK (bF x1 x6 (.bool false)) λ x8 => bK x8 (vK (gR r0 (ii 0)) λ x9 => vK (fG .i32 x9) λ x10 => some ((.tup [x10, (ii 1)]), h7)) (wK (aE E 197 [r0] h7) λ x11 h12 => vK (aG 0 x11) λ x13 => vK (aG 1 x11) λ x14 => some ((.tup [x13, x14]), h12))
theorem bHA : nT E bKE (aYB E) := Is.rf
def bGg : cB := nO (aYB E)
theorem bAO : SQ bKE bGg := nX bHA
def fs0 : List FD := [⟨6, D6, S6⟩, ⟨12, D12, S12⟩, ⟨13, D13, S13⟩, ⟨15, D15, S15⟩, ⟨17, D17, S17⟩, ⟨18, D18, S18⟩, ⟨19, D19, S19⟩, ⟨20, D20, S20⟩, ⟨21, D21, S21⟩, ⟨22, D22, S22⟩, ⟨23, D23, S23⟩, ⟨24, D24, S24⟩, ⟨25, D25, S25⟩, ⟨26, D26, S26⟩, ⟨32, D32, S32⟩, ⟨33, D33, S33⟩, ⟨34, D34, S34⟩, ⟨35, D35, S35⟩, ⟨40, D40, S40⟩, ⟨41, D41, S41⟩, ⟨42, D42, S42⟩, ⟨43, D43, S43⟩, ⟨44, D44, S44⟩, ⟨45, D45, S45⟩, ⟨46, D46, S46⟩, ⟨47, D47, S47⟩, ⟨48, D48, S48⟩, ⟨49, D49, S49⟩, ⟨50, D50, S50⟩, ⟨51, D51, S51⟩, ⟨52, D52, S52⟩, ⟨53, D53, S53⟩, ⟨54, D54, S54⟩, ⟨55, D55, S55⟩, ⟨56, D56, S56⟩, ⟨57, D57, S57⟩, ⟨58, D58, S58⟩, ⟨59, D59, S59⟩, ⟨64, D64, S64⟩, ⟨65, D65, S65⟩, ⟨66, D66, S66⟩, ⟨67, D67, S67⟩, ⟨68, D68, S68⟩, ⟨69, D69, S69⟩, ⟨70, D70, S70⟩, ⟨71, D71, S71⟩, ⟨72, D72, S72⟩, ⟨73, D73, S73⟩, ⟨74, D74, S74⟩, ⟨75, D75, S75⟩, ⟨76, D76, S76⟩, ⟨77, D77, S77⟩, ⟨80, D80, S80⟩, ⟨81, D81, S81⟩, ⟨82, D82, S82⟩, ⟨83, D83, S83⟩, ⟨84, D84, S84⟩, ⟨85, D85, S85⟩, ⟨86, D86, S86⟩, ⟨87, D87, S87⟩, ⟨88, D88, S88⟩, ⟨90, D90, S90⟩, ⟨92, D92, S92⟩, ⟨93, D93, S93⟩, ⟨94, D94, S94⟩, ⟨95, D95, S95⟩, ⟨96, D96, S96⟩, ⟨97, D97, S97⟩, ⟨98, D98, S98⟩, ⟨99, D99, S99⟩, ⟨100, bLx, aXZ⟩, ⟨101, bLw, aUy⟩, ⟨102, bLv, aXY⟩, ⟨103, bLu, aMN⟩, ⟨104, bLt, bCg⟩, ⟨105, bLs, bCe⟩, ⟨106, aQj, aPg⟩, ⟨107, bLr, bCb⟩, ⟨108, bLq, aPf⟩, ⟨109, bLp, bGt⟩, ⟨110, aQi, bGs⟩, ⟨111, bLo, bGr⟩, ⟨113, bLn, aXX⟩, ⟨114, bLm, aXW⟩, ⟨115, bLl, aXV⟩, ⟨116, bLk, aXU⟩, ⟨117, aQh, aXT⟩, ⟨118, bLj, aXS⟩, ⟨119, bLi, aXR⟩, ⟨120, bLh, aXQ⟩, ⟨121, bLg, aXP⟩, ⟨122, aQg, aXO⟩, ⟨123, bLf, aXN⟩, ⟨124, aQf, aXM⟩, ⟨125, bLe, aXL⟩, ⟨126, aQe, aXK⟩, ⟨127, bLd, aXJ⟩, ⟨128, aQd, aXI⟩, ⟨129, bLc, aXH⟩, ⟨130, bLb, aXG⟩, ⟨131, bLa, aUx⟩, ⟨132, bKZ, aXF⟩, ⟨133, aQc, aXE⟩, ⟨136, aQb, aXD⟩, ⟨137, aQa, aXC⟩, ⟨138, aPZ, aXB⟩, ⟨139, aKs, aUw⟩, ⟨140, bKY, aUv⟩, ⟨141, aPY, aXA⟩, ⟨142, bKX, aXz⟩, ⟨143, bKW, aXy⟩, ⟨144, aPX, aXx⟩, ⟨145, bKV, aXw⟩, ⟨146, bKU, aXv⟩, ⟨147, bKT, aIU⟩, ⟨148, bKS, aUu⟩, ⟨149, bKR, aXu⟩, ⟨150, bKQ, aXt⟩, ⟨151, bKP, aXs⟩, ⟨152, bKO, aXr⟩, ⟨153, bKN, aXq⟩, ⟨154, aPW, aXp⟩, ⟨155, bKM, aXo⟩, ⟨156, aPV, aXn⟩, ⟨161, bKL, aXm⟩, ⟨162, aPU, aXl⟩, ⟨163, bKK, aUt⟩, ⟨164, bKJ, aXk⟩, ⟨166, bKI, bGn⟩, ⟨168, aPT, bBa⟩, ⟨169, aPS, aXj⟩, ⟨170, aPR, aXi⟩, ⟨172, aPQ, aXh⟩, ⟨173, bKH, aIT⟩, ⟨174, bKG, bGm⟩, ⟨181, aNd, bGk⟩, ⟨182, aYW, aXg⟩, ⟨183, bKF, aXf⟩, ⟨185, aYV, bGj⟩, ⟨191, aPP, bGh⟩, ⟨192, bKE, bGg⟩]
theorem bEk : wA fs0 := ⟨bPv, ⟨bGq, ⟨bGp, ⟨bGo, ⟨bGl, ⟨bGi, ⟨bGd, ⟨bGa, ⟨bFZ, ⟨bFY, ⟨bFX, ⟨bFW, ⟨bFV, ⟨bFU, ⟨bFT, ⟨bFS, ⟨bFR, ⟨bFQ, ⟨bFP, ⟨bFO, ⟨bFN, ⟨bFM, ⟨bFL, ⟨bFK, ⟨bFJ, ⟨bFI, ⟨bFH, ⟨bFG, ⟨bFF, ⟨bFE, ⟨bFD, ⟨bFC, ⟨bFB, ⟨bFA, ⟨bFz, ⟨bFy, ⟨bFx, ⟨bFw, ⟨bFv, ⟨bFu, ⟨bFt, ⟨bFs, ⟨bFr, ⟨bFq, ⟨bFp, ⟨bFo, ⟨bFn, ⟨bFm, ⟨bFl, ⟨bFk, ⟨bFj, ⟨bFi, ⟨bFh, ⟨bFg, ⟨bFf, ⟨bFe, ⟨bFd, ⟨bFc, ⟨bFb, ⟨bFa, ⟨bEZ, ⟨bEY, ⟨bEX, ⟨bEW, ⟨bEV, ⟨bEU, ⟨bET, ⟨bES, ⟨bER, ⟨bEQ, ⟨bCk, ⟨bCj, ⟨bCi, ⟨bCh, ⟨bCf, ⟨bCd, ⟨bCc, ⟨bCa, ⟨bBZ, ⟨bBY, ⟨bBX, ⟨bBW, ⟨bBV, ⟨bBU, ⟨bBT, ⟨bBS, ⟨bBR, ⟨bBQ, ⟨bBP, ⟨bBO, ⟨bBN, ⟨bBM, ⟨bBL, ⟨bBK, ⟨bBJ, ⟨bBI, ⟨bBH, ⟨bBG, ⟨bBF, ⟨bBE, ⟨bBD, ⟨bBC, ⟨bBB, ⟨bBA, ⟨bBz, ⟨bBy, ⟨bBx, ⟨bBw, ⟨bBv, ⟨bBu, ⟨bBt, ⟨bBs, ⟨bBr, ⟨bBq, ⟨bBp, ⟨bBo, ⟨bBn, ⟨bBm, ⟨bBl, ⟨bBk, ⟨bBj, ⟨bBi, ⟨bBh, ⟨bBg, ⟨bBf, ⟨bBe, ⟨bBd, ⟨bBc, ⟨bBb, ⟨bAZ, ⟨bAY, ⟨bAX, ⟨bAW, ⟨bAV, ⟨bAU, ⟨bAT, ⟨bAS, ⟨bAR, ⟨bAQ, ⟨bAP, ⟨bAO, trivial⟩⟩⟩⟩⟩⟩⟩⟩⟩⟩⟩⟩⟩⟩⟩⟩⟩⟩⟩⟩⟩⟩⟩⟩⟩⟩⟩⟩⟩⟩⟩⟩⟩⟩⟩⟩⟩⟩⟩⟩⟩⟩⟩⟩⟩⟩⟩⟩⟩⟩⟩⟩⟩⟩⟩⟩⟩⟩⟩⟩⟩⟩⟩⟩⟩⟩⟩⟩⟩⟩⟩⟩⟩⟩⟩⟩⟩⟩⟩⟩⟩⟩⟩⟩⟩⟩⟩⟩⟩⟩⟩⟩⟩⟩⟩⟩⟩⟩⟩⟩⟩⟩⟩⟩⟩⟩⟩⟩⟩⟩⟩⟩⟩⟩⟩⟩⟩⟩⟩⟩⟩⟩⟩⟩⟩⟩⟩⟩⟩⟩⟩⟩⟩⟩⟩⟩⟩⟩⟩⟩⟩
end Go.Proofs.YtmafhiogonejfaaGreatDoor
end

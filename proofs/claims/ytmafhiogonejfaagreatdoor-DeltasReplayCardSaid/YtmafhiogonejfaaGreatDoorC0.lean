/- The functions of the program as D's and as plain Lean functions, and that both are the same. No condition. -/
import Derived.KernelRfl
import Derived.Test.YtmafhiogonejfaaGreatDoorDd
import Derived.Test.YtmafhiogonejfaaGreatDoorChecked
set_option linter.unusedVariables false
noncomputable section
namespace Go.Proofs.YtmafhiogonejfaaGreatDoor
open Go.DI
variable (E : bJ)
def cm (f : Nat) : DF := cmF Tryz.prog f
attribute [irreducible] cm
def p0 : Pa := .h
def p1 : Pa := .l p0
def p2 : Pa := .r p0
def p3 : Pa := .l p1
def p4 : Pa := .r p1
def p5 : Pa := .l p2
def p6 : Pa := .r p2
def p7 : Pa := .l p3
def p8 : Pa := .r p3
def p9 : Pa := .l p4
def p10 : Pa := .r p4
def p11 : Pa := .l p5
def p12 : Pa := .r p5
def p13 : Pa := .l p6
def p14 : Pa := .r p6
def p15 : Pa := .l p7
def p16 : Pa := .r p7
def p17 : Pa := .l p8
def p18 : Pa := .r p8
def p19 : Pa := .l p9
def p20 : Pa := .r p9
def p21 : Pa := .l p10
def p22 : Pa := .r p10
def p23 : Pa := .l p11
def p24 : Pa := .r p11
def p25 : Pa := .l p12
def p26 : Pa := .r p12
def p27 : Pa := .l p13
def p28 : Pa := .r p13
def p29 : Pa := .l p14
def p30 : Pa := .r p14
def p31 : Pa := .l p15
def p32 : Pa := .r p15
def p33 : Pa := .l p16
def p34 : Pa := .r p16
def p35 : Pa := .l p17
def p36 : Pa := .r p17
def p37 : Pa := .l p18
def p38 : Pa := .r p18
def p39 : Pa := .l p19
def p40 : Pa := .r p19
def p41 : Pa := .l p20
def p42 : Pa := .r p20
def p43 : Pa := .l p21
def p44 : Pa := .r p21
def p45 : Pa := .l p22
def p46 : Pa := .r p22
def p47 : Pa := .l p23
def p48 : Pa := .r p23
def p49 : Pa := .l p24
def p50 : Pa := .r p24
def p51 : Pa := .l p25
def p52 : Pa := .r p25
def p53 : Pa := .l p26
def p54 : Pa := .r p26
def p55 : Pa := .l p27
def p56 : Pa := .r p27
def p57 : Pa := .l p28
def p58 : Pa := .r p28
def p59 : Pa := .l p29
def p60 : Pa := .r p29
def p61 : Pa := .l p30
def p62 : Pa := .r p30
def p63 : Pa := .l p31
def p64 : Pa := .r p31
def p65 : Pa := .l p32
def p66 : Pa := .r p32
def p67 : Pa := .l p33
def p68 : Pa := .r p33
def p69 : Pa := .l p34
def p70 : Pa := .r p34
def p71 : Pa := .l p35
def p72 : Pa := .r p35
def p73 : Pa := .l p36
def p74 : Pa := .r p36
def p75 : Pa := .l p37
def p76 : Pa := .r p37
def p77 : Pa := .l p38
def p78 : Pa := .r p38
def p79 : Pa := .l p39
def p80 : Pa := .r p39
def p81 : Pa := .l p40
def p82 : Pa := .r p40
def p83 : Pa := .l p41
def p84 : Pa := .r p41
def p85 : Pa := .l p42
def p86 : Pa := .r p42
def p87 : Pa := .l p43
def p88 : Pa := .r p43
def p89 : Pa := .l p44
def p90 : Pa := .r p44
def p91 : Pa := .l p45
def p92 : Pa := .r p45
def p93 : Pa := .l p46
def p94 : Pa := .r p46
def p95 : Pa := .l p47
def p96 : Pa := .r p47
def p97 : Pa := .l p48
def p98 : Pa := .r p48
def p99 : Pa := .l p49
def p100 : Pa := .r p49
def p101 : Pa := .l p50
def p102 : Pa := .r p50
def p103 : Pa := .l p51
def p104 : Pa := .r p51
def p105 : Pa := .l p52
def p106 : Pa := .r p52
def p107 : Pa := .l p53
def p108 : Pa := .r p53
def p109 : Pa := .l p54
def p110 : Pa := .r p54
def p111 : Pa := .l p55
def p112 : Pa := .r p55
def p113 : Pa := .l p56
def p114 : Pa := .r p56
def p115 : Pa := .l p57
def p116 : Pa := .r p57
def p117 : Pa := .l p58
def p118 : Pa := .r p58
def p119 : Pa := .l p59
def p120 : Pa := .r p59
def p121 : Pa := .l p60
def p122 : Pa := .r p60
def p123 : Pa := .l p61
def p124 : Pa := .r p61
def p125 : Pa := .l p62
def p126 : Pa := .r p62
def p127 : Pa := .l p63
def p128 : Pa := .r p63
def p129 : Pa := .l p64
def p130 : Pa := .r p64
def p131 : Pa := .l p65
def p132 : Pa := .r p65
def p133 : Pa := .l p66
def p134 : Pa := .r p66
def p135 : Pa := .l p67
def p136 : Pa := .r p67
def p137 : Pa := .l p68
def p138 : Pa := .r p68
def p139 : Pa := .l p69
def p140 : Pa := .r p69
def p141 : Pa := .l p70
def p142 : Pa := .r p70
def D7 := cm 7
def C7_1 := cr (cr (cr (cr (cr (cr (cr D7.body))))))
def C7_2 := cl (cr (cl (cr (cr (cr (cr (cr (cr D7.body))))))))
def C7_3 := cr (cr (cl C7_2))
def bAU (r3 r5 r7 : DV) (h : H) : aV := wK (aE E 26 [r7] h) λ x1 h2 => vK (aG 0 x1) λ x3 => vK (aG 1 x1) λ x4 => vK (aM 2 h2.get r5) λ x5 => wK (aE E 24 [r3] h2) λ x6 h7 => rK (vL (aM 2 h7.get r5) x5) <| wK (aE E 25 [x5] h7) λ x8 h9 => vK (cG x6 x8) λ x10 => bR x10 true (λ kk => kk x3 h9) h9 λ x11 h12 => bR x10 true (λ kk => vK (eM .ptr true h12.get x11 .nilp) λ v => kk v h12) h12 λ x13 h14 => vK (bE x10 x13 (.bool false)) λ x15 => bR x15 true (λ kk => kk x3 h14) h14 λ x16 h17 => bR x15 true (λ kk => kk r3 h17) h17 λ x18 h19 => bR x15 true (λ kk => wK (aE E 24 [x16] h19) kk) h19 λ x20 h21 => bR x15 true (λ kk => wK (aE E 24 [x18] h21) kk) h21 λ x22 h23 => bR x15 true (λ kk => vK (cG x20 x22) λ v => kk v h23) h23 λ x24 h25 => vK (bE x15 x24 (.bool false)) λ x26 => bR x26 true (λ kk => wK (aE E 12 [] h25) kk) h25 λ x27 h28 => vK (bE x26 x27 (.bool false)) λ x29 => some (x29, h28)
def bAT (E : bJ) (i2 : DV → DV → H → aV) (r7 r8 : DV) (h : H) : aV := vK (bN r8 (ii 1)) λ x1 => i2 r7 x1 h
def bBI (r0 r3 r4 r5 r6 : DV) (i2 : DV → DV → H → aV) (r7 r8 : DV) (h : H) : aV := vK (cA r4) λ x1 => vK (dA r8 x1) λ x2 => bK x2 (vK (cD 1 r4 r8) λ x3 => vK (aF h.get x3) λ x4 => vK (cD 1 r6 r8) λ x5 => vK (aF h.get x5) λ x6 => vK (dC x4 x6) λ x7 => bK x7 (some ((.bool false), h)) (vK (cD 1 r4 r8) λ x8 => vK (aF h.get x8) λ x9 => vK (dC x9 (ii 0)) λ x10 => bR x10 false (λ kk => kk r0 h) h λ x11 h12 => bR x10 false (λ kk => kk r8 h12) h12 λ x13 h14 => bR x10 false (λ kk => vK (cD 6 x11 x13) λ v => kk v h14) h14 λ x15 h16 => bR x10 false (λ kk => vK (aI 0 x15) λ v => kk v h16) h16 λ x17 h18 => bR x10 false (λ kk => vK (aF h18.get x17) λ v => kk v h18) h18 λ x19 h20 => bR x10 false (λ kk => vK (oG x19 (ii 9)) λ v => kk v h20) h20 λ x21 h22 => vK (bE x10 (.bool true) x21) λ x23 => bK x23 (bAT E i2 r7 r8 h22) (vK (cD 6 r0 r8) λ x24 => vK (aM 6 h22.get x24) λ x25 => wK (aE E 13 [x25] h22) λ x26 h27 => vK (aG 0 x26) λ x28 => vK (aG 1 x26) λ x29 => wK (aE E 15 [x28] h27) λ x30 h31 => vK (aG 0 x30) λ x32 => vK (aG 1 x30) λ x33 => dP 6 6 (.list [(ii 0), (ii 0), (ii 0), (.str []), (.str []), (.str [])]) h31 λ x34 h35 => wK (bY 6 x34 x32 h35) λ x36 h37 => vK (dC x29 (ii 0)) λ x38 => bR x38 false (λ kk => kk x33 h37) h37 λ x39 h40 => bR x38 false (λ kk => vK (dC x39 (ii 0)) λ v => kk v h40) h40 λ x41 h42 => vK (bE x38 (.bool true) x41) λ x43 => bK x43 (some ((.bool false), h42)) (vK (aM 6 h42.get x34) λ x44 => fG 1 6 [(ii 0), (ii 0), (ii 0), (.str []), (.str []), (.str [])] [(0, 6, x44)] h42 λ x45 h46 => wK (cE 6 72 r7 x45 h46) λ x47 h48 => bAT E i2 x47 r8 h48)))) (bAU E r3 r5 r7 h)
def aKy (r0 r3 r4 r5 r6 : DV) (n : Nat) : DV → DV → H → aV := Nat.rec (motive := λ _ => DV → DV → H → aV) (λ _ _ _ => none) (λ _ i => bBI E r0 r3 r4 r5 r6 i) n
def bEV (r0 : DV) (h : H) : aV := wK (aE E 20 [r0] h) λ x1 h2 => vK (cG x1 (ii 0)) λ x3 => bK x3 (wK (aE E 12 [] h2) λ x4 h5 => some (x4, h5)) (wK (aE E 26 [r0] h2) λ x6 h7 => vK (aG 0 x6) λ x8 => vK (aG 1 x6) λ x9 => wK (aE E 27 [r0] h7) λ x10 h11 => vK (aG 0 x10) λ x12 => vK (aG 1 x10) λ x13 => dP 2 2 (.list [.nils, (ii 0)]) h11 λ x14 h15 => wK (bY 2 x14 x12 h15) λ x16 h17 => vK (cA x9) λ x18 => vK (cA x13) λ x19 => vK (dC x18 x19) λ x20 => bR x20 false (λ kk => kk x8 h17) h17 λ x21 h22 => bR x20 false (λ kk => vK (eM .ptr false h22.get x21 .nilp) λ v => kk v h22) h22 λ x23 h24 => vK (bE x20 (.bool true) x23) λ x25 => bK x25 (some ((.bool false), h24)) (aKy E r0 x8 x9 x14 x13 aQ .nils (ii 0) h24))
theorem I7_1 : Is E C7_1 (bX D7.res) (λ σ h => bAU E (σ p3) (σ p5) (σ p7) h) := Is.rf
abbrev K7_4 : iY (DV × H) := (cP (λ σ h => bAU E (σ p3) (σ p5) (σ p7) h) (bX D7.res))
abbrev K7_5 (n2 : Nat) : iY (DV × H) := (cP (λ σ h => (aKy E (σ p0) (σ p3) (σ p4) (σ p5) (σ p6) n2) (σ p7) (σ p8) h) (bV 0 (K7_4 E)))
theorem I7_3 (n2 : Nat) : Is E C7_3 (K7_5 E n2) (λ σ h => bAT E (aKy E (σ p0) (σ p3) (σ p4) (σ p5) (σ p6) n2) (σ p7) (σ p8) h) := Is.rf
theorem I7_2 : Is E C7_2 (bV 0 (K7_4 E)) (λ σ h => aKy E (σ p0) (σ p3) (σ p4) (σ p5) (σ p6) aQ (σ p7) (σ p8) h) := Is.lp (λ n2 σ h => aKy E (σ p0) (σ p3) (σ p4) (σ p5) (σ p6) n2 (σ p7) (σ p8) h) λ n2 => Is.aq (Is.sq (Is.sq (I7_3 E n2) (Is.leaf _)) (Is.leaf _))
theorem I7_0 : oT E D7 (bEV E) := Is.aq (Is.sq (Is.sq (Is.sq (Is.sq (Is.sq (Is.sq (Is.sq (I7_1 E) (Is.sq (Is.bk (I7_2 E)) (Is.leaf _))) (Is.leaf _)) (Is.leaf _)) (Is.leaf _)) (Is.leaf _)) (Is.leaf _)) (Is.leaf _))
def S7 : cF := nY (bEV E)
theorem bRX : SQ D7 S7 := oZ I7_0
def D12 := cm 12
def bFZ (h : H) : aV := vK (dO [(ii 0), (ii 0), (ii 0), (.str []), (.str []), (.str [])] [(0, 1, (ii 1)), (3, 1, (.str [47, 97]))]) λ x1 => dP 6 6 (.list [(ii 0), (ii 0), (ii 0), (.str []), (.str []), (.str [])]) h λ x2 h3 => wK (bY 6 x2 x1 h3) λ x4 h5 => vK (aM 6 h5.get x2) λ x6 => vK (aM 6 h5.get x2) λ x7 => fG 2 6 [(ii 0), (ii 0), (ii 0), (.str []), (.str []), (.str [])] [(0, 6, x6), (6, 6, x7)] h5 λ x8 h9 => wK (aE E 26 [x8] h9) λ x10 h11 => vK (aG 0 x10) λ x12 => vK (aG 1 x10) λ x13 => vK (aM 6 h11.get x2) λ x14 => wK (aE E 13 [x14] h11) λ x15 h16 => vK (aG 0 x15) λ x17 => vK (aG 1 x15) λ x18 => wK (aE E 15 [x17] h16) λ x19 h20 => vK (aG 0 x19) λ x21 => vK (aG 1 x19) λ x22 => dP 6 6 (.list [(ii 0), (ii 0), (ii 0), (.str []), (.str []), (.str [])]) h20 λ x23 h24 => wK (bY 6 x23 x21 h24) λ x25 h26 => vK (dO [(ii 0), (ii 0), (ii 0), (.str []), (.str []), (.str [])] [(0, 1, (ii 11)), (3, 1, (.str [47]))]) λ x27 => wK (aE E 19 [x12, x27] h26) λ x28 h29 => vK (aG 0 x28) λ x30 => vK (aG 1 x28) λ x31 => vK (dO [(ii 0), (ii 0), (ii 0), (.str []), (.str []), (.str [])] []) λ x32 => wK (aE E 19 [x12, x32] h29) λ x33 h34 => vK (aG 0 x33) λ x35 => vK (aG 1 x33) λ x36 => vK (cA x13) λ x37 => vK (cG x37 (ii 2)) λ x38 => bR x38 true (λ kk => kk x13 h34) h34 λ x39 h40 => bR x38 true (λ kk => vK (cD 1 x39 (ii 0)) λ v => kk v h40) h40 λ x41 h42 => bR x38 true (λ kk => vK (aF h42.get x41) λ v => kk v h42) h42 λ x43 h44 => bR x38 true (λ kk => vK (cG x43 (ii 0)) λ v => kk v h44) h44 λ x45 h46 => vK (bE x38 x45 (.bool false)) λ x47 => bR x47 true (λ kk => kk x13 h46) h46 λ x48 h49 => bR x47 true (λ kk => vK (cD 1 x48 (ii 1)) λ v => kk v h49) h49 λ x50 h51 => bR x47 true (λ kk => vK (aF h51.get x50) λ v => kk v h51) h51 λ x52 h53 => bR x47 true (λ kk => vK (cG x52 (ii 6)) λ v => kk v h53) h53 λ x54 h55 => vK (bE x47 x54 (.bool false)) λ x56 => bR x56 true (λ kk => kk x18 h55) h55 λ x57 h58 => bR x56 true (λ kk => vK (cG x57 (ii 0)) λ v => kk v h58) h58 λ x59 h60 => vK (bE x56 x59 (.bool false)) λ x61 => bR x61 true (λ kk => vK (aM 6 h60.get x23) λ v => kk v h60) h60 λ x62 h63 => bR x61 true (λ kk => vK (aM 6 h63.get x2) λ v => kk v h63) h63 λ x64 h65 => bR x61 true (λ kk => vK (aEG false (.leaf .int 0 (.leaf .int 1 (.leaf .int 2 (.leaf .str 3 (.leaf .str 4 (.leaf .str 5 .nil)))))) h65.get x62 x64) λ v => kk v h65) h65 λ x66 h67 => vK (bE x61 x66 (.bool false)) λ x68 => bR x68 true (λ kk => kk x22 h67) h67 λ x69 h70 => bR x68 true (λ kk => vK (cG x69 (ii 0)) λ v => kk v h70) h70 λ x71 h72 => vK (bE x68 x71 (.bool false)) λ x73 => bR x73 true (λ kk => kk x30 h72) h72 λ x74 h75 => bR x73 true (λ kk => vK (cG x74 (ii 0)) λ v => kk v h75) h75 λ x76 h77 => vK (bE x73 x76 (.bool false)) λ x78 => bR x78 true (λ kk => kk x31 h77) h77 λ x79 h80 => bR x78 true (λ kk => vK (cG x79 (.str [2, 2, 97])) λ v => kk v h80) h80 λ x81 h82 => vK (bE x78 x81 (.bool false)) λ x83 => bR x83 true (λ kk => kk x35 h82) h82 λ x84 h85 => bR x83 true (λ kk => vK (cG x84 (ii 1)) λ v => kk v h85) h85 λ x86 h87 => vK (bE x83 x86 (.bool false)) λ x88 => bR x88 true (λ kk => vK (aM 6 h87.get x2) λ v => kk v h87) h87 λ x89 h90 => bR x88 true (λ kk => wK (aE E 17 [x89] h90) kk) h90 λ x91 h92 => bR x88 true (λ kk => vK (cG x91 (ii 0)) λ v => kk v h92) h92 λ x93 h94 => vK (bE x88 x93 (.bool false)) λ x95 => some (x95, h94)
theorem bVd : iB0 E D12 (bFZ E) := Is.rf
def S12 : cF := fA0 (bFZ E)
theorem bIY : SQ D12 S12 := eB0 bVd
def D13 := cm 13
def aVv (r0 : DV) (h : H) : aV := dV r0 h λ x1 h2 => vK (aM 6 h2.get x1) λ x3 => wK (aE E 17 [x3] h2) λ x4 h5 => vK (dC x4 (ii 0)) λ x6 => bK x6 (some ((.tup [(.str []), x4]), h5)) (wK (aE E 48 [(ii 65536)] h5) λ x7 h8 => vK (aI 0 x1) λ x9 => vK (aF h8.get x9) λ x10 => wK (aE E 49 [x7, x10] h8) λ x11 h12 => vK (aI 1 x1) λ x13 => vK (aF h12.get x13) λ x14 => wK (aE E 50 [x7, x14] h12) λ x15 h16 => vK (aI 2 x1) λ x17 => vK (aF h16.get x17) λ x18 => wK (aE E 50 [x7, x18] h16) λ x19 h20 => vK (aI 3 x1) λ x21 => vK (aF h20.get x21) λ x22 => wK (aE E 51 [x7, x22] h20) λ x23 h24 => vK (aI 4 x1) λ x25 => vK (aF h24.get x25) λ x26 => wK (aE E 51 [x7, x26] h24) λ x27 h28 => vK (aI 5 x1) λ x29 => vK (aF h28.get x29) λ x30 => wK (aE E 51 [x7, x30] h28) λ x31 h32 => wK (aE E 52 [x7] h32) λ x33 h34 => vK (aG 0 x33) λ x35 => vK (aG 1 x33) λ x36 => some ((.tup [x35, x36]), h34))
theorem bVc : oT E D13 (aVv E) := Is.rf
def S13 : cF := nY (aVv E)
theorem bIX : SQ D13 S13 := oZ bVc
def D15 := cm 15
def aVu (r0 : DV) (h : H) : aV := dP 6 6 (.list [(ii 0), (ii 0), (ii 0), (.str []), (.str []), (.str [])]) h λ x1 h2 => wK (aE E 55 [r0] h2) λ x3 h4 => wK (aE E 56 [x3] h4) λ x5 h6 => wK (aE E 57 [x3] h6) λ x7 h8 => wK (aE E 57 [x3] h8) λ x9 h10 => wK (aE E 58 [x3] h10) λ x11 h12 => wK (aE E 58 [x3] h12) λ x13 h14 => wK (aE E 58 [x3] h14) λ x15 h16 => vK (dO [(ii 0), (ii 0), (ii 0), (.str []), (.str []), (.str [])] [(0, 1, x5), (1, 1, x7), (2, 1, x9), (3, 1, x11), (4, 1, x13), (5, 1, x15)]) λ x17 => dP 6 6 (.list [(ii 0), (ii 0), (ii 0), (.str []), (.str []), (.str [])]) h16 λ x18 h19 => wK (bY 6 x18 x17 h19) λ x20 h21 => wK (aE E 59 [x3] h21) λ x22 h23 => vK (dC x22 (ii 0)) λ x24 => bR x24 false (λ kk => vK (aM 6 h23.get x18) λ v => kk v h23) h23 λ x25 h26 => bR x24 false (λ kk => wK (aE E 17 [x25] h26) kk) h26 λ x27 h28 => bR x24 false (λ kk => vK (dC x27 (ii 0)) λ v => kk v h28) h28 λ x29 h30 => vK (bE x24 (.bool true) x29) λ x31 => bK x31 (vK (dO [(ii 0), (ii 0), (ii 0), (.str []), (.str []), (.str [])] []) λ x32 => wK (bY 6 x1 x32 h30) λ x33 h34 => vK (aM 6 h34.get x1) λ x35 => some ((.tup [x35, (ii 3)]), h34)) (vK (aM 6 h30.get x18) λ x36 => wK (bY 6 x1 x36 h30) λ x37 h38 => vK (aM 6 h38.get x1) λ x39 => some ((.tup [x39, (ii 0)]), h38))
theorem bVb : oT E D15 (aVu E) := Is.rf
def S15 : cF := nY (aVu E)
theorem bIW : SQ D15 S15 := oZ bVb
def D17 := cm 17
def aVt (E : bJ) (r0 : DV) (h : H) : aV := dV r0 h λ x1 h2 => vK (aI 0 x1) λ x3 => vK (aF h2.get x3) λ x4 => vK (dA x4 (ii 1)) λ x5 => bR x5 false (λ kk => vK (aI 0 x1) λ v => kk v h2) h2 λ x6 h7 => bR x5 false (λ kk => vK (aF h7.get x6) λ v => kk v h7) h7 λ x8 h9 => bR x5 false (λ kk => vK (eI x8 (ii 11)) λ v => kk v h9) h9 λ x10 h11 => vK (bE x5 (.bool true) x10) λ x12 => bK x12 (some ((ii 1), h11)) (vK (aI 3 x1) λ x13 => vK (aF h11.get x13) λ x14 => vK (cJ x14) λ x15 => vK (eI x15 (ii 255)) λ x16 => bR x16 false (λ kk => vK (aI 4 x1) λ v => kk v h11) h11 λ x17 h18 => bR x16 false (λ kk => vK (aF h18.get x17) λ v => kk v h18) h18 λ x19 h20 => bR x16 false (λ kk => vK (cJ x19) λ v => kk v h20) h20 λ x21 h22 => bR x16 false (λ kk => vK (eI x21 (ii 255)) λ v => kk v h22) h22 λ x23 h24 => vK (bE x16 (.bool true) x23) λ x25 => bR x25 false (λ kk => vK (aI 5 x1) λ v => kk v h24) h24 λ x26 h27 => bR x25 false (λ kk => vK (aF h27.get x26) λ v => kk v h27) h27 λ x28 h29 => bR x25 false (λ kk => vK (cJ x28) λ v => kk v h29) h29 λ x30 h31 => bR x25 false (λ kk => vK (eI x30 (ii 512)) λ v => kk v h31) h31 λ x32 h33 => vK (bE x25 (.bool true) x32) λ x34 => bK x34 (some ((ii 2), h33)) (some ((ii 0), h33)))
theorem bVa : oT E D17 (aVt E) := Is.rf
def S17 : cF := nY (aVt E)
theorem bIT : SQ D17 S17 := oZ bVa
def D18 := cm 18
def bFY (E : bJ) (r0 : DV) (h : H) : aV := dV r0 h λ x1 h2 => vK (aI 0 x1) λ x3 => vK (aF h2.get x3) λ x4 => vK (dA x4 (ii 1)) λ x5 => bR x5 false (λ kk => vK (aI 0 x1) λ v => kk v h2) h2 λ x6 h7 => bR x5 false (λ kk => vK (aF h7.get x6) λ v => kk v h7) h7 λ x8 h9 => bR x5 false (λ kk => vK (eI x8 (ii 11)) λ v => kk v h9) h9 λ x10 h11 => vK (bE x5 (.bool true) x10) λ x12 => bK x12 (some ((ii 1), h11)) (vK (aI 3 x1) λ x13 => vK (aF h11.get x13) λ x14 => vK (cJ x14) λ x15 => vK (eI x15 (ii 255)) λ x16 => bR x16 false (λ kk => vK (aI 4 x1) λ v => kk v h11) h11 λ x17 h18 => bR x16 false (λ kk => vK (aF h18.get x17) λ v => kk v h18) h18 λ x19 h20 => bR x16 false (λ kk => vK (cJ x19) λ v => kk v h20) h20 λ x21 h22 => bR x16 false (λ kk => vK (eI x21 (ii 255)) λ v => kk v h22) h22 λ x23 h24 => vK (bE x16 (.bool true) x23) λ x25 => bR x25 false (λ kk => vK (aI 5 x1) λ v => kk v h24) h24 λ x26 h27 => bR x25 false (λ kk => vK (aF h27.get x26) λ v => kk v h27) h27 λ x28 h29 => bR x25 false (λ kk => vK (cJ x28) λ v => kk v h29) h29 λ x30 h31 => bR x25 false (λ kk => vK (eI x30 (ii 512)) λ v => kk v h31) h31 λ x32 h33 => vK (bE x25 (.bool true) x32) λ x34 => bK x34 (some ((ii 2), h33)) (some ((ii 0), h33)))
theorem bUZ : oT E D18 (bFY E) := Is.rf
def S18 : cF := nY (bFY E)
theorem bIQ : SQ D18 S18 := oZ bUZ
def D19 := cm 19
def aVs (r0 r1 : DV) (h : H) : aV := dV r1 h λ x1 h2 => vK (eM .ptr false h2.get r0 .nilp) λ x3 => bK x3 (some ((.tup [(ii 1), (.str [])]), h2)) (vK (aM 6 h2.get x1) λ x4 => wK (aE E 17 [x4] h2) λ x5 h6 => vK (dC x5 (ii 0)) λ x7 => bK x7 (some ((.tup [x5, (.str [])]), h6)) (vK (aM 6 h6.get x1) λ x8 => wK (aE E 64 [r0, x8] h6) λ x9 h10 => vK (nF 102 (.agg [.nilf, (.str [])]) true x9) λ x11 => vK (aG 1 x11) λ x12 => vK (aG 0 x11) λ x13 => bK x12 (dP 2 2 (.list [.nilf, (.str [])]) h10 λ x14 h15 => wK (bY 2 x14 x13 h15) λ x16 h17 => vK (aI 0 x14) λ x18 => vK (aF h17.get x18) λ x19 => vK (aI 1 x14) λ x20 => vK (aF h17.get x20) λ x21 => wK (kZ E x19 [x21] h17) λ x22 h23 => some ((.tup [x22, (.str [])]), h23)) (vK (nF 104 (.agg [.nilf, (.str []), (.str [])]) true x9) λ x24 => vK (aG 1 x24) λ x25 => vK (aG 0 x24) λ x26 => bK x25 (dP 3 3 (.list [.nilf, (.str []), (.str [])]) h10 λ x27 h28 => wK (bY 3 x27 x26 h28) λ x29 h30 => vK (aI 0 x27) λ x31 => vK (aF h30.get x31) λ x32 => vK (aI 1 x27) λ x33 => vK (aF h30.get x33) λ x34 => vK (aI 2 x27) λ x35 => vK (aF h30.get x35) λ x36 => wK (kZ E x32 [x34, x36] h30) λ x37 h38 => some ((.tup [x37, (.str [])]), h38)) (vK (nF 106 (.agg [.nilf]) true x9) λ x39 => vK (aG 1 x39) λ x40 => vK (aG 0 x39) λ x41 => bK x40 (dP 1 1 (.list [.nilf]) h10 λ x42 h43 => wK (bY 1 x42 x41 h43) λ x44 h45 => vK (aI 0 x42) λ x46 => vK (aF h45.get x46) λ x47 => wK (kZ E x47 [] h45) λ x48 h49 => some ((.tup [x48, (.str [])]), h49)) (vK (nF 109 (.agg [.nilf]) true x9) λ x50 => vK (aG 1 x50) λ x51 => vK (aG 0 x50) λ x52 => bK x51 (dP 1 1 (.list [.nilf]) h10 λ x53 h54 => wK (bY 1 x53 x52 h54) λ x55 h56 => vK (aI 0 x53) λ x57 => vK (aF h56.get x57) λ x58 => wK (kZ E x58 [] h56) λ x59 h60 => vK (aG 0 x59) λ x61 => vK (aG 1 x59) λ x62 => some ((.tup [x61, x62]), h60)) (some ((.tup [(ii 1), (.str [])]), h10)))))))
theorem bUY : lP E D19 (aVs E) := Is.rf
def S19 : cF := lM (aVs E)
theorem bIL : SQ D19 S19 := lQ bUY
def D20 := cm 20
def bWs := cr (cr (cr D20.body))
def bWr := cl (cr (cl (cr (cr D20.body))))
def bBc (E : bJ) (h : H) : aV := some ((ii 1), h)
def aPr (r0 : DV) (i2 : DV → H → aV) (r3 : DV) (h : H) : aV := vK (cA r0) λ x1 => vK (dA r3 x1) λ x2 => bK x2 (vK (cD 6 r0 r3) λ x3 => vK (aI 3 x3) λ x4 => vK (aF h.get x4) λ x5 => vK (cJ x5) λ x6 => vK (eI x6 (ii 600)) λ x7 => bR x7 false (λ kk => kk r0 h) h λ x8 h9 => bR x7 false (λ kk => kk r3 h9) h9 λ x10 h11 => bR x7 false (λ kk => vK (cD 6 x8 x10) λ v => kk v h11) h11 λ x12 h13 => bR x7 false (λ kk => vK (aI 4 x12) λ v => kk v h13) h13 λ x14 h15 => bR x7 false (λ kk => vK (aF h15.get x14) λ v => kk v h15) h15 λ x16 h17 => bR x7 false (λ kk => vK (cJ x16) λ v => kk v h17) h17 λ x18 h19 => bR x7 false (λ kk => vK (eI x18 (ii 600)) λ v => kk v h19) h19 λ x20 h21 => vK (bE x7 (.bool true) x20) λ x22 => bR x22 false (λ kk => kk r0 h21) h21 λ x23 h24 => bR x22 false (λ kk => kk r3 h24) h24 λ x25 h26 => bR x22 false (λ kk => vK (cD 6 x23 x25) λ v => kk v h26) h26 λ x27 h28 => bR x22 false (λ kk => vK (aI 5 x27) λ v => kk v h28) h28 λ x29 h30 => bR x22 false (λ kk => vK (aF h30.get x29) λ v => kk v h30) h30 λ x31 h32 => bR x22 false (λ kk => vK (cJ x31) λ v => kk v h32) h32 λ x33 h34 => bR x22 false (λ kk => vK (eI x33 (ii 20000)) λ v => kk v h34) h34 λ x35 h36 => vK (bE x22 (.bool true) x35) λ x37 => bK x37 (some ((ii 0), h36)) (vK (bN r3 (ii 1)) λ x38 => i2 x38 h36)) (bBc E h)
def aIU (r0 : DV) (n : Nat) : DV → H → aV := Nat.rec (motive := λ _ => DV → H → aV) (λ _ _ => none) (λ _ i => aPr E r0 i) n
def aVr (r0 : DV) (h : H) : aV := vK (cA r0) λ x1 => vK (eI x1 (ii 60)) λ x2 => bK x2 (some ((ii 0), h)) (aIU E r0 aQ (ii 0) h)
theorem bUW : Is E bWs (bX D20.res) (λ σ h => bBc E h) := Is.rf
abbrev bTc : iY (DV × H) := (bV 0 (cP (λ σ h => bBc E h) (bX D20.res)))
theorem bUV : Is E bWr (bTc E) (λ σ h => aIU E (σ p0) aQ (σ p3) h) := Is.lp (λ n2 σ h => aIU E (σ p0) n2 (σ p3) h) λ n2 => Is.aq (Is.leaf _)
theorem bUX : oT E D20 (aVr E) := Is.aq (Is.sq (Is.sq (Is.sq (bUW E) (Is.sq (Is.bk (bUV E)) (Is.leaf _))) (Is.leaf _)) (Is.leaf _))
def S20 : cF := nY (aVr E)
theorem bII : SQ D20 S20 := oZ bUX
def D21 := cm 21
def bFX (h : H) : aV := vK (dO (zR [(ii 0), .nili] 256 ++ [(ii 0), (ii 0)]) []) λ x1 => dV x1 h λ x2 h3 => vK (aW x2) λ x4 => vK (aI 0 x4) λ x5 => wK (aE E 65 [] h3) λ x6 h7 => vK (dO [.nilp] [(0, 1, x6)]) λ x8 => vK (pF 256 2 x5 (ii 1)) λ x9 => vK (aI 1 x9) λ x10 => wK (bY 1 x10 (.ifc 120 x8) h7) λ x11 h12 => some (x2, h12)
theorem bUU : iB0 E D21 (bFX E) := Is.rf
def S21 : cF := fA0 (bFX E)
theorem bIH : SQ D21 S21 := eB0 bUU
def D22 := cm 22
def aVq (E : bJ) (h : H) : aV := dP 2 2 (.list [.nils, (ii 0)]) h λ x1 h2 => vK (dO [(ii 0), (ii 0), (ii 0), (.str []), .nils] [(0, 1, (ii 1)), (2, 1, (ii 2))]) λ x3 => fG 1 5 [(ii 0), (ii 0), (ii 0), (.str []), .nils] [(0, 5, x3)] h2 λ x4 h5 => vK (dO [.nils, (ii 0)] [(0, 1, x4)]) λ x6 => wK (bY 2 x1 x6 h5) λ x7 h8 => vK (aM 2 h8.get x1) λ x9 => some (x9, h8)
theorem bUT : iB0 E D22 (aVq E) := Is.rf
def S22 : cF := fA0 (aVq E)
theorem bIG : SQ D22 S22 := eB0 bUT
def D23 := cm 23
def bWq := cr (cr (cr (cr D23.body)))
def xK (E : bJ) (r4 r8 r9 : DV) (h : H) : aV := vK (aM 2 h.get r8) λ x1 => wK (bY 2 r4 x1 h) λ x2 h3 => vK (aM 2 h3.get r4) λ x4 => some ((.tup [x4, r9, (.str [])]), h3)
def aVp (r0 r1 : DV) (h : H) : aV := dV r0 h λ x1 h2 => dV r1 h2 λ x3 h4 => dP 2 2 (.list [.nils, (ii 0)]) h4 λ x5 h6 => vK (aM 6 h6.get x3) λ x7 => wK (aE E 18 [x7] h6) λ x8 h9 => vK (dC x8 (ii 0)) λ x10 => bK x10 (vK (aM 2 h9.get x1) λ x11 => wK (bY 2 x5 x11 h9) λ x12 h13 => vK (aM 2 h13.get x5) λ x14 => some ((.tup [x14, x8, (.str [])]), h13)) (vK (aM 2 h9.get x1) λ x15 => dP 2 2 (.list [.nils, (ii 0)]) h9 λ x16 h17 => wK (bY 2 x16 x15 h17) λ x18 h19 => vK (aI 0 x3) λ x20 => vK (aF h19.get x20) λ x21 => vK (cG x21 (ii 1)) λ x22 => bK x22 (vK (aM 2 h19.get x1) λ x23 => vK (aI 3 x3) λ x24 => vK (aF h19.get x24) λ x25 => wK (aE E 66 [x23, x25, (ii 2)] h19) λ x26 h27 => vK (aG 0 x26) λ x28 => vK (aG 1 x26) λ x29 => wK (bY 2 x16 x28 h27) λ x30 h31 => xK E x5 x16 x29 h31) (vK (cG x21 (ii 2)) λ x32 => bK x32 (vK (aM 2 h19.get x1) λ x33 => vK (aI 3 x3) λ x34 => vK (aF h19.get x34) λ x35 => wK (aE E 66 [x33, x35, (ii 1)] h19) λ x36 h37 => vK (aG 0 x36) λ x38 => vK (aG 1 x36) λ x39 => wK (bY 2 x16 x38 h37) λ x40 h41 => xK E x5 x16 x39 h41) (vK (cG x21 (ii 3)) λ x42 => bK x42 (vK (aM 2 h19.get x1) λ x43 => vK (aI 3 x3) λ x44 => vK (aF h19.get x44) λ x45 => wK (aE E 67 [x43, x45] h19) λ x46 h47 => vK (aG 0 x46) λ x48 => vK (aG 1 x46) λ x49 => wK (bY 2 x16 x48 h47) λ x50 h51 => xK E x5 x16 x49 h51) (vK (cG x21 (ii 4)) λ x52 => bK x52 (vK (aM 2 h19.get x1) λ x53 => vK (aI 3 x3) λ x54 => vK (aF h19.get x54) λ x55 => wK (aE E 68 [x53, x55] h19) λ x56 h57 => vK (aG 0 x56) λ x58 => vK (aG 1 x56) λ x59 => wK (bY 2 x16 x58 h57) λ x60 h61 => xK E x5 x16 x59 h61) (vK (cG x21 (ii 5)) λ x62 => bK x62 (vK (aM 2 h19.get x1) λ x63 => vK (aI 3 x3) λ x64 => vK (aF h19.get x64) λ x65 => vK (aI 4 x3) λ x66 => vK (aF h19.get x66) λ x67 => wK (aE E 69 [x63, x65, x67] h19) λ x68 h69 => vK (aG 0 x68) λ x70 => vK (aG 1 x68) λ x71 => wK (bY 2 x16 x70 h69) λ x72 h73 => xK E x5 x16 x71 h73) (vK (cG x21 (ii 6)) λ x74 => bK x74 (vK (aM 2 h19.get x1) λ x75 => vK (aI 3 x3) λ x76 => vK (aF h19.get x76) λ x77 => vK (aI 4 x3) λ x78 => vK (aF h19.get x78) λ x79 => wK (aE E 70 [x75, x77, x79] h19) λ x80 h81 => vK (aG 0 x80) λ x82 => vK (aG 1 x80) λ x83 => wK (bY 2 x16 x82 h81) λ x84 h85 => xK E x5 x16 x83 h85) (vK (cG x21 (ii 7)) λ x86 => bK x86 (vK (aM 2 h19.get x1) λ x87 => vK (aI 3 x3) λ x88 => vK (aF h19.get x88) λ x89 => vK (aI 1 x3) λ x90 => vK (aF h19.get x90) λ x91 => vK (aI 5 x3) λ x92 => vK (aF h19.get x92) λ x93 => wK (aE E 71 [x87, x89, x91, x93] h19) λ x94 h95 => vK (aG 0 x94) λ x96 => vK (aG 1 x94) λ x97 => wK (bY 2 x16 x96 h95) λ x98 h99 => xK E x5 x16 x97 h99) (vK (cG x21 (ii 8)) λ x100 => bK x100 (vK (aM 2 h19.get x1) λ x101 => vK (aI 3 x3) λ x102 => vK (aF h19.get x102) λ x103 => vK (aI 2 x3) λ x104 => vK (aF h19.get x104) λ x105 => wK (aE E 72 [x101, x103, x105] h19) λ x106 h107 => vK (aG 0 x106) λ x108 => vK (aG 1 x106) λ x109 => wK (bY 2 x16 x108 h107) λ x110 h111 => xK E x5 x16 x109 h111) (vK (aM 2 h19.get x1) λ x112 => vK (aM 6 h19.get x3) λ x113 => wK (aE E 73 [x112, x113] h19) λ x114 h115 => vK (aG 0 x114) λ x116 => vK (aG 1 x114) λ x117 => vK (aM 2 h115.get x1) λ x118 => wK (bY 2 x5 x118 h115) λ x119 h120 => vK (aM 2 h120.get x5) λ x121 => some ((.tup [x121, x116, x117]), h120))))))))))
theorem bUR : Is E bWq (bX D23.res) (λ σ h => xK E (σ p4) (σ p8) (σ p9) h) := Is.rf
theorem bUS : lP E D23 (aVp E) := Is.aq (Is.sq (Is.sq (Is.sq (Is.sq (bUR E) (Is.leaf _)) (Is.leaf _)) (Is.leaf _)) (Is.leaf _))
def S23 : cF := lM (aVp E)
theorem bIF : SQ D23 S23 := lQ bUS
def D24 := cm 24
def bBE := cr (cr (cr (cr (cr (cr D24.body)))))
def bWo := cr (cr bBE)
def bGc := cl (cr (cl (cr bBE)))
def bWn := cr (cr (cr (cl bGc)))
def bGd := cl (cr (cl (cr (cr (cr (cr (cr D24.body)))))))
def bWp := cr (cr (cr (cl bGd)))
def aVn (E : bJ) (r3 : DV) (h : H) : aV := vK (aF h.get r3) λ x1 => vK (nG h.get x1) λ x2 => some (x2, h)
def aOX (E : bJ) (i5 : DV → H → aV) (r33 : DV) (h : H) : aV := vK (bN r33 (ii 1)) λ x1 => i5 x1 h
def aPp (r3 r4 r32 : DV) (i5 : DV → H → aV) (r33 : DV) (h : H) : aV := vK (dA r33 (ii 256)) λ x1 => bK x1 (vK (aDs 256 2 true r32 r33) λ x2 => dP 1 1 (.list [(ii 0)]) h λ x3 h4 => dP 2 2 (.list [(ii 0), .nili]) h4 λ x5 h6 => wK (bY 1 x3 r33 h6) λ x7 h8 => wK (bY 2 x5 x2 h8) λ x9 h10 => vK (aI 1 x5) λ x11 => vK (aF h10.get x11) λ x12 => vK (eM .nilI false h10.get x12 .nili) λ x13 => bK x13 (aOX E i5 r33 h10) (wK (kZ E r4 [(.fn (.func 76) [] [x3, x5])] h10) λ x14 h15 => aOX E i5 r33 h15)) (aVn E r3 h)
def aDV (r3 r4 r32 : DV) (n : Nat) : DV → H → aV := Nat.rec (motive := λ _ => DV → H → aV) (λ _ _ => none) (λ _ i => aPp E r3 r4 r32 i) n
def aOZ (r1 r3 r4 r5 : DV) (h : H) : aV := wK (kZ E r4 [(.fn (.func 75) [] [r1, r5])] h) λ x1 h2 => vK (aF h2.get r1) λ x3 => vK (aW x3) λ x4 => vK (aI 0 x4) λ x5 => vK (aM 512 h2.get x5) λ x6 => aDV E r3 r4 x6 aQ (ii 0) h2
def aOY (E : bJ) (i2 : DV → H → aV) (r17 : DV) (h : H) : aV := vK (bN r17 (ii 1)) λ x1 => i2 x1 h
def aPq (r1 r3 r4 r5 r16 : DV) (i2 : DV → H → aV) (r17 : DV) (h : H) : aV := vK (dA r17 (ii 256)) λ x1 => bK x1 (vK (aDs 256 2 true r16 r17) λ x2 => dP 2 2 (.list [(ii 0), .nili]) h λ x3 h4 => wK (bY 2 x3 x2 h4) λ x5 h6 => vK (aI 1 x3) λ x7 => vK (aF h6.get x7) λ x8 => vK (eM .nilI true h6.get x8 .nili) λ x9 => bK x9 (vK (aF h6.get r5) λ x10 => vK (bN x10 (ii 1)) λ x11 => wK (bY 1 r5 x11 h6) λ x12 h13 => aOY E i2 r17 h13) (aOY E i2 r17 h6)) (aOZ E r1 r3 r4 r5 h)
def aDW (r1 r3 r4 r5 r16 : DV) (n : Nat) : DV → H → aV := Nat.rec (motive := λ _ => DV → H → aV) (λ _ _ => none) (λ _ i => aPq E r1 r3 r4 r5 r16 i) n
def aVo (r0 : DV) (h : H) : aV := dV r0 h λ x1 h2 => vK (aF h2.get x1) λ x3 => vK (eM .ptr false h2.get x3 .nilp) λ x4 => bK x4 (some ((.str []), h2)) (dP 1 1 (.list [.nils]) h2 λ x5 h6 => dP 1 1 (.list [(ii 0)]) h6 λ x7 h8 => wK (bY 1 x7 (ii 0) h8) λ x9 h10 => vK (aF h10.get x1) λ x11 => vK (aW x11) λ x12 => vK (aI 0 x12) λ x13 => vK (aM 512 h10.get x13) λ x14 => aDW E x1 x5 (.fn (.func 74) [] [x5]) x7 x14 aQ (ii 0) h10)
theorem bUM : Is E bWo (bX D24.res) (λ σ h => aVn E (σ p3) h) := Is.rf
abbrev bFW : iY (DV × H) := (cP (λ σ h => aVn E (σ p3) h) (bX D24.res))
abbrev bTb (n5 : Nat) : iY (DV × H) := (cP (λ σ h => (aDV E (σ p3) (σ p4) (σ p32) n5) (σ p33) h) (bV 2 (bFW E)))
theorem bUK (n5 : Nat) : Is E bWn (bTb E n5) (λ σ h => aOX E (aDV E (σ p3) (σ p4) (σ p32) n5) (σ p33) h) := Is.rf
theorem bUL : Is E bGc (bV 2 (bFW E)) (λ σ h => aDV E (σ p3) (σ p4) (σ p32) aQ (σ p33) h) := Is.lp (λ n5 σ h => aDV E (σ p3) (σ p4) (σ p32) n5 (σ p33) h) λ n5 => Is.aq (Is.sq (Is.sq (Is.sq (bUK E n5) (Is.leaf _)) (Is.leaf _)) (Is.leaf _))
theorem bUP : Is E bBE (bX D24.res) (λ σ h => aOZ E (σ p1) (σ p3) (σ p4) (σ p5) h) := Is.aq (Is.sq (Is.sq (bUM E) (Is.sq (Is.bk (bUL E)) (Is.leaf _))) (Is.leaf _))
abbrev bFV : iY (DV × H) := (cP (λ σ h => aOZ E (σ p1) (σ p3) (σ p4) (σ p5) h) (bX D24.res))
abbrev bJa (n2 : Nat) : iY (DV × H) := (cP (λ σ h => (aDW E (σ p1) (σ p3) (σ p4) (σ p5) (σ p16) n2) (σ p17) h) (bV 0 (bFV E)))
theorem bUN (n2 : Nat) : Is E bWp (bJa E n2) (λ σ h => aOY E (aDW E (σ p1) (σ p3) (σ p4) (σ p5) (σ p16) n2) (σ p17) h) := Is.rf
theorem bUO : Is E bGd (bV 0 (bFV E)) (λ σ h => aDW E (σ p1) (σ p3) (σ p4) (σ p5) (σ p16) aQ (σ p17) h) := Is.lp (λ n2 σ h => aDW E (σ p1) (σ p3) (σ p4) (σ p5) (σ p16) n2 (σ p17) h) λ n2 => Is.aq (Is.sq (Is.sq (Is.sq (bUN E n2) (Is.leaf _)) (Is.leaf _)) (Is.leaf _))
theorem bUQ : oT E D24 (aVo E) := Is.aq (Is.sq (Is.sq (Is.sq (Is.sq (Is.sq (Is.sq (bUP E) (Is.sq (Is.bk (bUO E)) (Is.leaf _))) (Is.leaf _)) (Is.leaf _)) (Is.leaf _)) (Is.leaf _)) (Is.leaf _))
def S24 : cF := nY (aVo E)
theorem bIE : SQ D24 S24 := oZ bUQ
def D25 := cm 25
def bWm := cr (cr (cr D25.body))
def bGb := cl (cr (cl (cr (cr D25.body))))
def bWl := cr (cr (cl bGb))
def bBa (E : bJ) (r3 : DV) (h : H) : aV := some (r3, h)
def aOW (E : bJ) (i2 : DV → DV → H → aV) (r3 r4 : DV) (h : H) : aV := vK (bN r4 (ii 1)) λ x1 => i2 r3 x1 h
def aPo (r1 : DV) (i2 : DV → DV → H → aV) (r3 r4 : DV) (h : H) : aV := vK (aI 0 r1) λ x1 => vK (aF h.get x1) λ x2 => vK (cA x2) λ x3 => vK (dA r4 x3) λ x4 => bK x4 (vK (aI 0 r1) λ x5 => vK (aF h.get x5) λ x6 => vK (cD 5 x6 r4) λ x7 => vK (aM 5 h.get x7) λ x8 => dP 5 5 (.list [(ii 0), (ii 0), (ii 0), (.str []), .nils]) h λ x9 h10 => wK (bY 5 x9 x8 h10) λ x11 h12 => vK (aI 0 x9) λ x13 => vK (aF h12.get x13) λ x14 => vK (aI 1 x9) λ x15 => vK (aF h12.get x15) λ x16 => vK (aI 2 x9) λ x17 => vK (aF h12.get x17) λ x18 => vK (fH .u8 x18) λ x19 => fG 1 1 [(.int .u8 (.ofNat 0))] [(0, 1, x19)] h12 λ x20 h21 => vK (nG h21.get x20) λ x22 => wK (aE E 53 [x14] h21) λ x23 h24 => rK (vL (nG h24.get x20) x22) <| rK (vL (aF h24.get x17) x18) <| rK (vL (aF h24.get x15) x16) <| wK (aE E 53 [x16] h24) λ x25 h26 => rK (vL (nG h26.get x20) x22) <| rK (vL (aF h26.get x17) x18) <| vK (bN x23 x25) λ x27 => vK (bN x27 x22) λ x28 => vK (bN r3 x28) λ x29 => vK (aI 2 x9) λ x30 => vK (aF h26.get x30) λ x31 => vK (cG x31 (ii 1)) λ x32 => bK x32 (vK (aI 3 x9) λ x33 => vK (aF h26.get x33) λ x34 => wK (aE E 54 [x34] h26) λ x35 h36 => vK (bN x29 x35) λ x37 => aOW E i2 x37 r4 h36) (vK (aI 4 x9) λ x38 => vK (aF h26.get x38) λ x39 => wK (aE E 77 [x39] h26) λ x40 h41 => wK (aE E 54 [x40] h41) λ x42 h43 => vK (bN x29 x42) λ x44 => aOW E i2 x44 r4 h43)) (bBa E r3 h)
def aBL (r1 : DV) (n : Nat) : DV → DV → H → aV := Nat.rec (motive := λ _ => DV → DV → H → aV) (λ _ _ _ => none) (λ _ i => aPo E r1 i) n
def aVm (r0 : DV) (h : H) : aV := dV r0 h λ x1 h2 => vK (aI 1 x1) λ x3 => vK (aF h2.get x3) λ x4 => vK (aI 0 x1) λ x5 => vK (aF h2.get x5) λ x6 => vK (cA x6) λ x7 => wK (aE E 53 [x4] h2) λ x8 h9 => rK (vL (aF h9.get x5) x6) <| wK (aE E 53 [x7] h9) λ x10 h11 => vK (bN x8 x10) λ x12 => aBL E x1 aQ x12 (ii 0) h11
theorem bUI : Is E bWm (bX D25.res) (λ σ h => bBa E (σ p3) h) := Is.rf
abbrev bFU : iY (DV × H) := (cP (λ σ h => bBa E (σ p3) h) (bX D25.res))
abbrev bTa (n2 : Nat) : iY (DV × H) := (cP (λ σ h => (aBL E (σ p1) n2) (σ p3) (σ p4) h) (bV 0 (bFU E)))
theorem bUG (n2 : Nat) : Is E bWl (bTa E n2) (λ σ h => aOW E (aBL E (σ p1) n2) (σ p3) (σ p4) h) := Is.rf
theorem bUH : Is E bGb (bV 0 (bFU E)) (λ σ h => aBL E (σ p1) aQ (σ p3) (σ p4) h) := Is.lp (λ n2 σ h => aBL E (σ p1) n2 (σ p3) (σ p4) h) λ n2 => Is.aq (Is.sq (Is.sq (bUG E n2) (Is.leaf _)) (Is.leaf _))
theorem bUJ : oT E D25 (aVm E) := Is.aq (Is.sq (Is.sq (Is.sq (bUI E) (Is.sq (Is.bk (bUH E)) (Is.leaf _))) (Is.leaf _)) (Is.leaf _))
def S25 : cF := nY (aVm E)
theorem bID : SQ D25 S25 := oZ bUJ
def D26 := cm 26
def bWk := cr (cr (cr (cr D26.body)))
def bWj := cl (cr (cl (cr (cr (cr D26.body)))))
def bAZ (E : bJ) (r4 r5 : DV) (h : H) : aV := some ((.tup [r4, r5]), h)
def aPn (r4 r5 r12 r13 : DV) (i2 : DV → H → aV) (r14 : DV) (h : H) : aV := vK (dA r14 r13) λ x1 => bK x1 (vK (cD 6 r12 r14) λ x2 => vK (aM 6 h.get x2) λ x3 => dP 6 6 (.list [(ii 0), (ii 0), (ii 0), (.str []), (.str []), (.str [])]) h λ x4 h5 => wK (bY 6 x4 x3 h5) λ x6 h7 => vK (aM 6 h7.get x4) λ x8 => wK (aE E 19 [r4, x8] h7) λ x9 h10 => vK (aG 0 x9) λ x11 => vK (aG 1 x9) λ x12 => vK (cD 1 r5 r14) λ x13 => wK (bY 1 x13 x11 h10) λ x14 h15 => vK (bN r14 (ii 1)) λ x16 => i2 x16 h15) (bAZ E r4 r5 h)
def aIT (r4 r5 r12 r13 : DV) (n : Nat) : DV → H → aV := Nat.rec (motive := λ _ => DV → H → aV) (λ _ _ => none) (λ _ i => aPn E r4 r5 r12 r13 i) n
def aVl (r0 : DV) (h : H) : aV := wK (aE E 21 [] h) λ x1 h2 => vK (cA r0) λ x3 => vG 1 8 (ii 0) x3 x3 h2 λ x4 h5 => vK (cA r0) λ x6 => aIT E x1 x4 r0 x6 aQ (ii 0) h5
theorem bUE : Is E bWk (bX D26.res) (λ σ h => bAZ E (σ p4) (σ p5) h) := Is.rf
abbrev bSZ : iY (DV × H) := (cP (λ σ h => bAZ E (σ p4) (σ p5) h) (bX D26.res))
theorem bUD : Is E bWj (bV 0 (bSZ E)) (λ σ h => aIT E (σ p4) (σ p5) (σ p12) (σ p13) aQ (σ p14) h) := Is.lp (λ n2 σ h => aIT E (σ p4) (σ p5) (σ p12) (σ p13) n2 (σ p14) h) λ n2 => Is.aq (Is.leaf _)
theorem bUF : oT E D26 (aVl E) := Is.aq (Is.sq (Is.sq (Is.sq (Is.sq (bUE E) (Is.sq (Is.bk (bUD E)) (Is.leaf _))) (Is.leaf _)) (Is.leaf _)) (Is.leaf _))
def S26 : cF := nY (aVl E)
theorem bIC : SQ D26 S26 := oZ bUF
def D27 := cm 27
def bWi := cr (cr (cr (cr D27.body)))
def bWh := cl (cr (cl (cr (cr (cr D27.body)))))
def aVj (E : bJ) (r2 r4 r5 : DV) (h : H) : aV := vK (aM 2 h.get r4) λ x1 => wK (bY 2 r2 x1 h) λ x2 h3 => vK (aM 2 h3.get r2) λ x4 => some ((.tup [x4, r5]), h3)
def aPm (r0 r2 r4 : DV) (i2 : DV → DV → H → aV) (r5 r6 : DV) (h : H) : aV := vK (cA r0) λ x1 => vK (dA r6 x1) λ x2 => bK x2 (vK (aM 2 h.get r4) λ x3 => vK (cD 6 r0 r6) λ x4 => vK (aM 6 h.get x4) λ x5 => dP 2 2 (.list [.nils, (ii 0)]) h λ x6 h7 => wK (aE E 23 [x3, x5] h7) λ x8 h9 => vK (aG 0 x8) λ x10 => vK (aG 1 x8) λ x11 => vK (aG 2 x8) λ x12 => wK (bY 2 x6 x10 h9) λ x13 h14 => vK (aM 2 h14.get x6) λ x15 => wK (bY 2 r4 x15 h14) λ x16 h17 => fG 1 1 [(ii 0)] [(0, 1, x11)] h17 λ x18 h19 => wK (cE 1 8 r5 x18 h19) λ x20 h21 => vK (bN r6 (ii 1)) λ x22 => i2 x20 x22 h21) (aVj E r2 r4 r5 h)
def aIS (r0 r2 r4 : DV) (n : Nat) : DV → DV → H → aV := Nat.rec (motive := λ _ => DV → DV → H → aV) (λ _ _ _ => none) (λ _ i => aPm E r0 r2 r4 i) n
def aVk (r0 : DV) (h : H) : aV := dP 2 2 (.list [.nils, (ii 0)]) h λ x1 h2 => wK (aE E 22 [] h2) λ x3 h4 => dP 2 2 (.list [.nils, (ii 0)]) h4 λ x5 h6 => wK (bY 2 x5 x3 h6) λ x7 h8 => aIS E r0 x1 x5 aQ .nils (ii 0) h8
theorem bUB : Is E bWi (bX D27.res) (λ σ h => aVj E (σ p2) (σ p4) (σ p5) h) := Is.rf
abbrev bSY : iY (DV × H) := (cP (λ σ h => aVj E (σ p2) (σ p4) (σ p5) h) (bX D27.res))
theorem bUA : Is E bWh (bV 0 (bSY E)) (λ σ h => aIS E (σ p0) (σ p2) (σ p4) aQ (σ p5) (σ p6) h) := Is.lp (λ n2 σ h => aIS E (σ p0) (σ p2) (σ p4) n2 (σ p5) (σ p6) h) λ n2 => Is.aq (Is.leaf _)
theorem bUC : oT E D27 (aVk E) := Is.aq (Is.sq (Is.sq (Is.sq (Is.sq (bUB E) (Is.sq (Is.bk (bUA E)) (Is.leaf _))) (Is.leaf _)) (Is.leaf _)) (Is.leaf _))
def S27 : cF := nY (aVk E)
theorem bIB : SQ D27 S27 := oZ bUC
def D32 := cm 32
def bWg := cr (cr (cr D32.body))
def bWf := cl (cr (cl (cr (cr D32.body))))
def aVh (E : bJ) (r3 : DV) (h : H) : aV := some (r3, h)
def aPl (r1 : DV) (i2 : DV → DV → H → aV) (r3 r4 : DV) (h : H) : aV := vK (aI 0 r1) λ x1 => vK (aF h.get x1) λ x2 => vK (cA x2) λ x3 => vK (dA r4 x3) λ x4 => bK x4 (vK (aI 0 r1) λ x5 => vK (aF h.get x5) λ x6 => vK (cD 5 x6 r4) λ x7 => vK (aI 3 x7) λ x8 => vK (aF h.get x8) λ x9 => vK (cJ x9) λ x10 => vK (bN r3 x10) λ x11 => vK (bN r4 (ii 1)) λ x12 => i2 x11 x12 h) (aVh E r3 h)
def aGg (r1 : DV) (n : Nat) : DV → DV → H → aV := Nat.rec (motive := λ _ => DV → DV → H → aV) (λ _ _ _ => none) (λ _ i => aPl E r1 i) n
def aVi (r0 : DV) (h : H) : aV := dV r0 h λ x1 h2 => aGg E x1 aQ (ii 0) (ii 0) h2
theorem bUy : Is E bWg (bX D32.res) (λ σ h => aVh E (σ p3) h) := Is.rf
abbrev bSX : iY (DV × H) := (cP (λ σ h => aVh E (σ p3) h) (bX D32.res))
theorem bUx : Is E bWf (bV 0 (bSX E)) (λ σ h => aGg E (σ p1) aQ (σ p3) (σ p4) h) := Is.lp (λ n2 σ h => aGg E (σ p1) n2 (σ p3) (σ p4) h) λ n2 => Is.aq (Is.leaf _)
theorem bUz : oT E D32 (aVi E) := Is.aq (Is.sq (Is.sq (Is.sq (bUy E) (Is.sq (Is.bk (bUx E)) (Is.leaf _))) (Is.leaf _)) (Is.leaf _))
def S32 : cF := nY (aVi E)
theorem bIA : SQ D32 S32 := oZ bUz
def D33 := cm 33
def aVg (r0 r1 r2 r3 : DV) (h : H) : aV := wK (aE E 83 [r0, r1] h) λ x1 h2 => vK (aG 0 x1) λ x3 => vK (aG 1 x1) λ x4 => vK (dC x4 (ii 0)) λ x5 => bK x5 (some ((.tup [(.str []), x4]), h2)) (wK (aE E 84 [x3, r2, r3] h2) λ x6 h7 => vK (aG 0 x6) λ x8 => vK (aG 1 x6) λ x9 => some ((.tup [x8, x9]), h7))
theorem bUw : iB4 E D33 (aVg E) := Is.rf
def S33 : cF := fA4 (aVg E)
theorem bIz : SQ D33 S33 := eB4 bUw
def D34 := cm 34
def bWe := cr (cr (cr (cr (cr (cr D34.body)))))
def aOV (E : bJ) (r4 r9 : DV) (h : H) : aV := vK (aM 5 h.get r9) λ x1 => wK (bY 5 r4 x1 h) λ x2 h3 => vK (aM 5 h3.get r4) λ x4 => some ((.tup [x4, (ii 0)]), h3)
def aVf (r0 r1 : DV) (h : H) : aV := dP 5 5 (.list [(ii 0), (ii 0), (ii 0), (ii 0), (ii 0)]) h λ x1 h2 => wK (aE E 85 [r0, r1] h2) λ x3 h4 => vK (aG 0 x3) λ x5 => vK (aG 1 x3) λ x6 => vK (dC x6 (ii 0)) λ x7 => bK x7 (vK (dO [(ii 0), (ii 0), (ii 0), (ii 0), (ii 0)] []) λ x8 => wK (bY 5 x1 x8 h4) λ x9 h10 => vK (aM 5 h10.get x1) λ x11 => some ((.tup [x11, x6]), h10)) (vK (aW r0) λ x12 => vK (aI 0 x12) λ x13 => vK (pF 256 2 x13 x5) λ x14 => vK (aM 2 h4.get x14) λ x15 => dP 2 2 (.list [(ii 0), .nili]) h4 λ x16 h17 => wK (bY 2 x16 x15 h17) λ x18 h19 => vK (aI 0 x16) λ x20 => vK (aF h19.get x20) λ x21 => vK (aI 1 x16) λ x22 => vK (aF h19.get x22) λ x23 => vK (aI 1 x16) λ x24 => vK (aF h19.get x24) λ x25 => dP 5 5 (.list [(ii 0), (ii 0), (ii 0), (ii 0), (ii 0)]) h19 λ x26 h27 => wK (wX E [(120, 217), (141, 221)] x23 [] h27) λ x28 h29 => rK (vL (aF h29.get x24) x25) <| rK (vL (aF h29.get x20) x21) <| wK (wX E [(120, 218), (141, 222)] x25 [] h29) λ x30 h31 => rK (vL (aF h31.get x20) x21) <| vK (dO [(ii 0), (ii 0), (ii 0), (ii 0), (ii 0)] [(0, 1, x5), (1, 1, x21), (2, 1, x28), (3, 1, x30), (4, 1, (ii 1))]) λ x32 => wK (bY 5 x26 x32 h31) λ x33 h34 => wK (aE E 86 [r0, x5] h34) λ x35 h36 => vK (eM .ptr true h36.get x35 .nilp) λ x37 => bK x37 (vK (aW x35) λ x38 => vK (aI 1 x38) λ x39 => vK (aF h36.get x39) λ x40 => vK (aI 4 x26) λ x41 => wK (bY 1 x41 x40 h36) λ x42 h43 => aOV E x1 x26 h43) (aOV E x1 x26 h36))
theorem bUu : Is E bWe (bX D34.res) (λ σ h => aOV E (σ p4) (σ p9) h) := Is.rf
theorem bUv : lP E D34 (aVf E) := Is.aq (Is.sq (Is.sq (Is.sq (Is.sq (Is.sq (Is.sq (bUu E) (Is.leaf _)) (Is.leaf _)) (Is.leaf _)) (Is.leaf _)) (Is.leaf _)) (Is.leaf _))
def S34 : cF := lM (aVf E)
theorem bIy : SQ D34 S34 := lQ bUv
def D35 := cm 35
def aVe (r0 r1 : DV) (h : H) : aV := wK (aE E 85 [r0, r1] h) λ x1 h2 => vK (aG 0 x1) λ x3 => vK (aG 1 x1) λ x4 => vK (dC x4 (ii 0)) λ x5 => bK x5 (some ((.tup [.nils, x4]), h2)) (wK (aE E 87 [r0, x3] h2) λ x6 h7 => vK (eM .ptr false h7.get x6 .nilp) λ x8 => bK x8 (some ((.tup [.nils, (ii 13)]), h7)) (wK (aE E 88 [x6] h7) λ x9 h10 => some ((.tup [x9, (ii 0)]), h10)))
theorem bUt : lP E D35 (aVe E) := Is.rf
def S35 : cF := lM (aVe E)
theorem bIx : SQ D35 S35 := lQ bUt
def D40 := cm 40
def aVd (r0 r1 : DV) (h : H) : aV := wK (aE E 65 [] h) λ x1 h2 => vK (dO [.nilp] [(0, 1, x1)]) λ x3 => wK (aE E 94 [r0, r1, (.ifc 120 x3)] h2) λ x4 h5 => some (x4, h5)
theorem bUs : lP E D40 (aVd E) := Is.rf
def S40 : cF := lM (aVd E)
theorem bIw : SQ D40 S40 := lQ bUs
def D41 := cm 41
def aVc (r0 r1 : DV) (h : H) : aV := vK (dO [(.str []), (ii 0)] [(1, 1, (ii 1))]) λ x1 => dV x1 h λ x2 h3 => wK (aE E 94 [r0, r1, (.ifc 141 x2)] h3) λ x4 h5 => some (x4, h5)
theorem bUr : lP E D41 (aVc E) := Is.rf
def S41 : cF := lM (aVc E)
theorem bIv : SQ D41 S41 := lQ bUr
def D42 := cm 42
def bWd := cr (cr (cr (cr (cr (cr (cr (cr D42.body)))))))
def bAY (E : bJ) (h : H) : aV := some ((ii 0), h)
def aVb (r0 r1 : DV) (h : H) : aV := wK (aE E 85 [r0, r1] h) λ x1 h2 => vK (aG 0 x1) λ x3 => vK (aG 1 x1) λ x4 => vK (dC x4 (ii 0)) λ x5 => bK x5 (some (x4, h2)) (wK (aE E 86 [r0, x3] h2) λ x6 h7 => vK (eM .ptr false h7.get x6 .nilp) λ x8 => bK x8 (some ((ii 12), h7)) (wK (aE E 95 [r0, r1] h7) λ x9 h10 => vK (aG 0 x9) λ x11 => vK (aG 1 x9) λ x12 => dP 2 2 (.list [.nilp, (.str [])]) h10 λ x13 h14 => wK (bY 2 x13 x11 h14) λ x15 h16 => vK (aI 0 x13) λ x17 => vK (aF h16.get x17) λ x18 => vK (aI 1 x13) λ x19 => vK (aF h16.get x19) λ x20 => wK (aE E 96 [x18, x20] h16) λ x21 h22 => vK (aW x6) λ x23 => vK (aI 1 x23) λ x24 => vK (aF h22.get x24) λ x25 => vK (fM x25 (ii 1)) λ x26 => vK (aW x6) λ x27 => vK (aI 1 x27) λ x28 => wK (bY 1 x28 x26 h22) λ x29 h30 => vK (aW x6) λ x31 => vK (aI 1 x31) λ x32 => vK (aF h30.get x32) λ x33 => vK (cG x33 (ii 0)) λ x34 => bK x34 (vK (aW r0) λ x35 => vK (aI 513 x35) λ x36 => vK (aF h30.get x36) λ x37 => vK (aW x6) λ x38 => vK (aI 0 x38) λ x39 => vK (aF h30.get x39) λ x40 => vK (cJ x40) λ x41 => vK (fM x37 x41) λ x42 => vK (aW r0) λ x43 => vK (aI 513 x43) λ x44 => wK (bY 1 x44 x42 h30) λ x45 h46 => vK (dO [(ii 0), .nili] []) λ x47 => vK (aW r0) λ x48 => vK (aI 0 x48) λ x49 => vK (pF 256 2 x49 x3) λ x50 => wK (bY 2 x50 x47 h46) λ x51 h52 => bAY E h52) (bAY E h30)))
theorem bUp : Is E bWd (bX D42.res) (λ σ h => bAY E h) := Is.rf
theorem bUq : lP E D42 (aVb E) := Is.aq (Is.sq (Is.sq (Is.sq (Is.sq (Is.sq (Is.sq (Is.sq (Is.sq (bUp E) (Is.leaf _)) (Is.leaf _)) (Is.leaf _)) (Is.leaf _)) (Is.leaf _)) (Is.leaf _)) (Is.leaf _)) (Is.leaf _))
def S42 : cF := lM (aVb E)
theorem bIu : SQ D42 S42 := lQ bUq
def D43 := cm 43
def aVa (r0 r1 : DV) (h : H) : aV := wK (aE E 85 [r0, r1] h) λ x1 h2 => vK (aG 0 x1) λ x3 => vK (aG 1 x1) λ x4 => vK (dC x4 (ii 0)) λ x5 => bK x5 (some (x4, h2)) (wK (aE E 87 [r0, x3] h2) λ x6 h7 => vK (eM .ptr false h7.get x6 .nilp) λ x8 => bK x8 (some ((ii 13), h7)) (vK (cG x3 (ii 1)) λ x9 => bK x9 (some ((ii 1), h7)) (wK (aE E 97 [x6] h7) λ x10 h11 => vK (eI x10 (ii 0)) λ x12 => bK x12 (some ((ii 14), h11)) (wK (aE E 95 [r0, r1] h11) λ x13 h14 => vK (aG 0 x13) λ x15 => vK (aG 1 x13) λ x16 => dP 2 2 (.list [.nilp, (.str [])]) h14 λ x17 h18 => wK (bY 2 x17 x15 h18) λ x19 h20 => vK (aI 0 x17) λ x21 => vK (aF h20.get x21) λ x22 => vK (aI 1 x17) λ x23 => vK (aF h20.get x23) λ x24 => wK (aE E 96 [x22, x24] h20) λ x25 h26 => vK (dO [(ii 0), .nili] []) λ x27 => vK (aW r0) λ x28 => vK (aI 0 x28) λ x29 => vK (pF 256 2 x29 x3) λ x30 => wK (bY 2 x30 x27 h26) λ x31 h32 => some ((ii 0), h32)))))
theorem bUo : lP E D43 (aVa E) := Is.rf
def S43 : cF := lM (aVa E)
theorem bIt : SQ D43 S43 := lQ bUo
def D44 := cm 44
def aUZ (r0 r1 r2 : DV) (h : H) : aV := wK (aE E 85 [r0, r1] h) λ x1 h2 => vK (aG 0 x1) λ x3 => vK (aG 1 x1) λ x4 => vK (dC x4 (ii 0)) λ x5 => bK x5 (some (x4, h2)) (wK (aE E 95 [r0, r2] h2) λ x6 h7 => vK (aG 0 x6) λ x8 => vK (aG 1 x6) λ x9 => dP 2 2 (.list [.nilp, (.str [])]) h7 λ x10 h11 => wK (bY 2 x10 x8 h11) λ x12 h13 => vK (dC x9 (ii 0)) λ x14 => bK x14 (some (x9, h13)) (vK (cG x3 (ii 1)) λ x15 => bR x15 false (λ kk => kk r1 h13) h13 λ x16 h17 => bR x15 false (λ kk => kk r2 h17) h17 λ x18 h19 => bR x15 false (λ kk => wK (aE E 98 [x16, x18] h19) kk) h19 λ x20 h21 => vK (bE x15 (.bool true) x20) λ x22 => bK x22 (some ((ii 1), h21)) (wK (aE E 95 [r0, r1] h21) λ x23 h24 => vK (aG 0 x23) λ x25 => vK (aG 1 x23) λ x26 => dP 2 2 (.list [.nilp, (.str [])]) h24 λ x27 h28 => wK (bY 2 x27 x25 h28) λ x29 h30 => vK (aM 2 h30.get x27) λ x31 => vK (aM 2 h30.get x10) λ x32 => vK (aEG false (.leaf .ptr 0 (.leaf .str 1 .nil)) h30.get x31 x32) λ x33 => bK x33 (some ((ii 0), h30)) (vK (aM 2 h30.get x10) λ x34 => wK (aE E 99 [x34] h30) λ x35 h36 => bK x35 (some ((ii 6), h36)) (vK (aI 0 x27) λ x37 => vK (aF h36.get x37) λ x38 => vK (aI 1 x27) λ x39 => vK (aF h36.get x39) λ x40 => wK (aE E 96 [x38, x40] h36) λ x41 h42 => vK (aI 0 x10) λ x43 => vK (aF h42.get x43) λ x44 => vK (aI 1 x10) λ x45 => vK (aF h42.get x45) λ x46 => wK (aE E 100 [x44, x46, x3] h42) λ x47 h48 => some ((ii 0), h48))))))
theorem bUn : iB3 E D44 (aUZ E) := Is.rf
def S44 : cF := fA3 (aUZ E)
theorem bIs : SQ D44 S44 := eB3 bUn
def D45 := cm 45
def aUY (r0 r1 r2 : DV) (h : H) : aV := wK (aE E 85 [r0, r1] h) λ x1 h2 => vK (aG 0 x1) λ x3 => vK (aG 1 x1) λ x4 => vK (dC x4 (ii 0)) λ x5 => bK x5 (some (x4, h2)) (wK (aE E 95 [r0, r2] h2) λ x6 h7 => vK (aG 0 x6) λ x8 => vK (aG 1 x6) λ x9 => dP 2 2 (.list [.nilp, (.str [])]) h7 λ x10 h11 => wK (bY 2 x10 x8 h11) λ x12 h13 => vK (dC x9 (ii 0)) λ x14 => bK x14 (some (x9, h13)) (wK (aE E 86 [r0, x3] h13) λ x15 h16 => vK (eM .ptr false h16.get x15 .nilp) λ x17 => bK x17 (some ((ii 12), h16)) (vK (aM 2 h16.get x10) λ x18 => wK (aE E 99 [x18] h16) λ x19 h20 => bK x19 (some ((ii 6), h20)) (vK (aW x15) λ x21 => vK (aI 1 x21) λ x22 => vK (aF h20.get x22) λ x23 => vK (oG x23 (ii 100)) λ x24 => bK x24 (some ((ii 5), h20)) (vK (aW x15) λ x25 => vK (aI 1 x25) λ x26 => vK (aF h20.get x26) λ x27 => vK (bN x27 (ii 1)) λ x28 => vK (aW x15) λ x29 => vK (aI 1 x29) λ x30 => wK (bY 1 x30 x28 h20) λ x31 h32 => vK (aI 0 x10) λ x33 => vK (aF h32.get x33) λ x34 => vK (aI 1 x10) λ x35 => vK (aF h32.get x35) λ x36 => wK (aE E 100 [x34, x36, x3] h32) λ x37 h38 => some ((ii 0), h38))))))
theorem bUm : iB3 E D45 (aUY E) := Is.rf
def S45 : cF := fA3 (aUY E)
theorem bIr : SQ D45 S45 := eB3 bUm
def D46 := cm 46
def aUX (r0 r1 r2 r3 : DV) (h : H) : aV := wK (aE E 83 [r0, r1] h) λ x1 h2 => vK (aG 0 x1) λ x3 => vK (aG 1 x1) λ x4 => vK (dC x4 (ii 0)) λ x5 => bK x5 (some (x4, h2)) (wK (aE E 92 [r0, x3, r2, r3] h2) λ x6 h7 => some (x6, h7))
theorem bUl : iB4 E D46 (aUX E) := Is.rf
def S46 : cF := fA4 (aUX E)
theorem bIp : SQ D46 S46 := eB4 bUl
def D47 := cm 47
def aUW (r0 r1 r2 : DV) (h : H) : aV := wK (aE E 83 [r0, r1] h) λ x1 h2 => vK (aG 0 x1) λ x3 => vK (aG 1 x1) λ x4 => vK (dC x4 (ii 0)) λ x5 => bK x5 (some (x4, h2)) (vK (dA r2 (ii 0)) λ x6 => bR x6 false (λ kk => kk r2 h2) h2 λ x7 h8 => bR x6 false (λ kk => vK (eI x7 (ii 16384)) λ v => kk v h8) h8 λ x9 h10 => vK (bE x6 (.bool true) x9) λ x11 => bK x11 (some ((ii 1), h10)) (vK (aW x3) λ x12 => vK (aI 0 x12) λ x13 => vK (aF h10.get x13) λ x14 => vK (aW x3) λ x15 => vK (aI 0 x15) λ x16 => vK (aF h10.get x16) λ x17 => vK (cJ x17) λ x18 => vK (aAP r2 x18) λ x19 => vK (iE x14 none (some x19)) λ x20 => wK (aE E 101 [x20, r2] h10) λ x21 h22 => vK (aG 0 x21) λ x23 => vK (aG 1 x21) λ x24 => wK (aE E 102 [r0, x3, x23] h22) λ x25 h26 => some (x25, h26)))
theorem bUk : iB3 E D47 (aUW E) := Is.rf
def S47 : cF := fA3 (aUW E)
theorem bIo : SQ D47 S47 := eB3 bUk
def D48 := cm 48
def aUV (E : bJ) (r0 : DV) (h : H) : aV := vK (aBT r0 (ii 0)) λ x1 => vK (aAP x1 (ii 65536)) λ x2 => vK (dO [(ii 0), .nils, (ii 0)] [(0, 1, x2)]) λ x3 => dV x3 h λ x4 h5 => some (x4, h5)
theorem bUj : oT E D48 (aUV E) := Is.rf
def S48 : cF := nY (aUV E)
theorem bIn : SQ D48 S48 := oZ bUj
def D49 := cm 49
def bWc := cr (cr D49.body)
def aUT (r0 r3 : DV) (h : H) : aV := wK (aE E 103 [r0, (.fn (.func 104) [] [r3])] h) λ x1 h2 => some ((.tup []), h2)
def aUU (r0 r1 : DV) (h : H) : aV := dV r1 h λ x1 h2 => vK (eM .ptr true h2.get r0 .nilp) λ x3 => bR x3 true (λ kk => kk r0 h2) h2 λ x4 h5 => bR x3 true (λ kk => vK (aW x4) λ v => kk v h5) h5 λ x6 h7 => bR x3 true (λ kk => vK (aI 2 x6) λ v => kk v h7) h7 λ x8 h9 => bR x3 true (λ kk => vK (aF h9.get x8) λ v => kk v h9) h9 λ x10 h11 => bR x3 true (λ kk => vK (cG x10 (ii 0)) λ v => kk v h11) h11 λ x12 h13 => vK (bE x3 x12 (.bool false)) λ x14 => bR x14 true (λ kk => vK (aF h13.get x1) λ v => kk v h13) h13 λ x15 h16 => bR x14 true (λ kk => vK (dA x15 (ii 0)) λ v => kk v h16) h16 λ x17 h18 => bR x14 true (λ kk => kk x17 h18) h18 λ x19 h20 => bR x19 false (λ kk => vK (aF h20.get x1) λ v => kk v h20) h20 λ x21 h22 => bR x19 false (λ kk => vK (eI x21 (ii 255)) λ v => kk v h22) h22 λ x23 h24 => bR x14 true (λ kk => vK (bE x19 (.bool true) x23) λ v => kk v h24) h24 λ x25 h26 => vK (bE x14 x25 (.bool false)) λ x27 => bK x27 (vK (aW r0) λ x28 => vK (aI 2 x28) λ x29 => wK (bY 1 x29 (ii 1) h26) λ x30 h31 => aUT E r0 x1 h31) (aUT E r0 x1 h26)
theorem bUh : Is E bWc (bX D49.res) (λ σ h => aUT E (σ p0) (σ p3) h) := Is.rf
theorem bUi : lP E D49 (aUU E) := Is.aq (Is.sq (Is.sq (bUh E) (Is.leaf _)) (Is.leaf _))
def S49 : cF := lM (aUU E)
theorem bIm : SQ D49 S49 := lQ bUi
def D50 := cm 50
def aUS (r0 r1 : DV) (h : H) : aV := dV r1 h λ x1 h2 => wK (aE E 103 [r0, (.fn (.func 105) [] [x1])] h2) λ x3 h4 => some ((.tup []), h4)
theorem bUg : lP E D50 (aUS E) := Is.rf
def S50 : cF := lM (aUS E)
theorem bIl : SQ D50 S50 := lQ bUg
def D51 := cm 51
def aUR (r0 r1 : DV) (h : H) : aV := dV r1 h λ x1 h2 => wK (aE E 103 [r0, (.fn (.func 107) [] [x1])] h2) λ x3 h4 => some ((.tup []), h4)
theorem bUf : lP E D51 (aUR E) := Is.rf
def S51 : cF := lM (aUR E)
theorem bIk : SQ D51 S51 := lQ bUf
def D52 := cm 52
def aUQ (E : bJ) (r0 : DV) (h : H) : aV := vK (eM .ptr false h.get r0 .nilp) λ x1 => bK x1 (some ((.tup [(.str []), (ii 1)]), h)) (vK (aW r0) λ x2 => vK (aI 2 x2) λ x3 => vK (aF h.get x3) λ x4 => vK (dC x4 (ii 0)) λ x5 => bK x5 (vK (aW r0) λ x6 => vK (aI 2 x6) λ x7 => vK (aF h.get x7) λ x8 => some ((.tup [(.str []), x8]), h)) (vK (aW r0) λ x9 => vK (aI 1 x9) λ x10 => vK (aF h.get x10) λ x11 => vK (nG h.get x11) λ x12 => some ((.tup [x12, (ii 0)]), h)))
theorem bUe : oT E D52 (aUQ E) := Is.rf
def S52 : cF := nY (aUQ E)
theorem bIj : SQ D52 S52 := oZ bUe
def D53 := cm 53
def bBD := cr (cr (cr D53.body))
def bWb := cr (cr bBD)
def bWa := cl (cl (cr bBD))
def aOU (E : bJ) (r3 r4 : DV) (h : H) : aV := vK (fH .u8 r3) λ x1 => fG 1 1 [(.int .u8 (.ofNat 0))] [(0, 1, x1)] h λ x2 h3 => wK (cE 1 1 r4 x2 h3) λ x4 h5 => vK (nG h5.get x4) λ x6 => some (x6, h5)
def aPk (i3 : DV → DV → H → aV) (r3 r4 : DV) (h : H) : aV := vK (oG r3 (.int .u64 (.ofNat 128))) λ x1 => bK x1 (vK (aAQ r3 (.int .u64 (.ofNat 127))) λ x2 => vK (fH .u8 x2) λ x3 => vK (aPE x3 (.int .u8 (.ofNat 128))) λ x4 => fG 1 1 [(.int .u8 (.ofNat 0))] [(0, 1, x4)] h λ x5 h6 => wK (cE 1 1 r4 x5 h6) λ x7 h8 => vK (vO r3 (.int .u64 (.ofNat 7))) λ x9 => i3 x9 x7 h8) (aOU E r3 r4 h)
def aIR (n : Nat) : DV → DV → H → aV := Nat.rec (motive := λ _ => DV → DV → H → aV) (λ _ _ _ => none) (λ _ i => aPk E i) n
def bAX (r3 : DV) (h : H) : aV := aIR E aQ r3 .nils h
def aUP (r0 : DV) (h : H) : aV := vK (fH .u64 r0) λ x1 => vK (aEC x1 (.int .u64 (.ofNat 1))) λ x2 => vK (dA r0 (ii 0)) λ x3 => bK x3 (vK (aDr x2 (.int .u64 (.ofNat 18446744073709551615))) λ x4 => bAX E x4 h) (bAX E x2 h)
theorem bUb : Is E bWb (bX D53.res) (λ σ h => aOU E (σ p3) (σ p4) h) := Is.rf
abbrev bSW : iY (DV × H) := (cP (λ σ h => aOU E (σ p3) (σ p4) h) (bX D53.res))
theorem bUa : Is E bWa (bV 0 (bSW E)) (λ σ h => aIR E aQ (σ p3) (σ p4) h) := Is.lp (λ n3 σ h => aIR E n3 (σ p3) (σ p4) h) λ n3 => Is.aq (Is.leaf _)
theorem bUc : Is E bBD (bX D53.res) (λ σ h => bAX E (σ p3) h) := Is.aq (Is.sq (Is.sq (bUb E) (Is.bk (bUa E))) (Is.leaf _))
theorem bUd : oT E D53 (aUP E) := Is.aq (Is.sq (Is.sq (Is.sq (bUc E) (Is.leaf _)) (Is.leaf _)) (Is.leaf _))
def S53 : cF := nY (aUP E)
theorem bIi : SQ D53 S53 := oZ bUd
def D54 := cm 54
def aUO (r0 : DV) (h : H) : aV := vK (cJ r0) λ x1 => wK (aE E 53 [x1] h) λ x2 h3 => vK (bN x2 r0) λ x4 => some (x4, h3)
theorem bTZ : oT E D54 (aUO E) := Is.rf
def S54 : cF := nY (aUO E)
theorem bIh : SQ D54 S54 := oZ bTZ
def D55 := cm 55
def aUN (E : bJ) (r0 : DV) (h : H) : aV := vK (dO [(.str []), (.bool false)] [(0, 1, r0)]) λ x1 => dV x1 h λ x2 h3 => some (x2, h3)
theorem bTY : oT E D55 (aUN E) := Is.rf
def S55 : cF := nY (aUN E)
theorem bIg : SQ D55 S55 := oZ bTY
def D56 := cm 56
def aUM (r0 : DV) (h : H) : aV := wK (aE E 109 [r0, (ii 1)] h) λ x1 h2 => vK (aG 0 x1) λ x3 => vK (aG 1 x1) λ x4 => bK x4 (vK (gY x3 (ii 0)) λ x5 => vK (fH .i64 x5) λ x6 => some (x6, h2)) (some ((ii 0), h2))
theorem bTX : oT E D56 (aUM E) := Is.rf
def S56 : cF := nY (aUM E)
theorem bIf : SQ D56 S56 := oZ bTX
def D57 := cm 57
def aUL (r0 : DV) (h : H) : aV := vK (eM .ptr false h.get r0 .nilp) λ x1 => bK x1 (some ((ii 0), h)) (vK (aW r0) λ x2 => vK (aI 0 x2) λ x3 => vK (aF h.get x3) λ x4 => wK (aE E 110 [x4] h) λ x5 h6 => vK (aG 0 x5) λ x7 => vK (aG 1 x5) λ x8 => vK (cG x8 (ii 0)) λ x9 => bK x9 (wK (aE E 111 [r0] h6) λ x10 h11 => some ((ii 0), h11)) (wK (aE E 109 [r0, x8] h6) λ x12 h13 => vK (vO x7 (.int .u64 (.ofNat 1))) λ x14 => vK (fH .i64 x14) λ x15 => vK (aAQ x7 (.int .u64 (.ofNat 1))) λ x16 => vK (fH .i64 x16) λ x17 => vK (aED x17) λ x18 => vK (aDr x15 x18) λ x19 => some (x19, h13)))
theorem bTW : oT E D57 (aUL E) := Is.rf
def S57 : cF := nY (aUL E)
theorem bIe : SQ D57 S57 := oZ bTW
def D58 := cm 58
def aUK (r0 : DV) (h : H) : aV := wK (aE E 57 [r0] h) λ x1 h2 => wK (aE E 109 [r0, x1] h2) λ x3 h4 => vK (aG 0 x3) λ x5 => vK (aG 1 x3) λ x6 => some (x5, h4)
theorem bTV : oT E D58 (aUK E) := Is.rf
def S58 : cF := nY (aUK E)
theorem bId : SQ D58 S58 := oZ bTV
def D59 := cm 59
def aUJ (E : bJ) (r0 : DV) (h : H) : aV := vK (eM .ptr false h.get r0 .nilp) λ x1 => bK x1 (some ((ii 1), h)) (vK (aW r0) λ x2 => vK (aI 1 x2) λ x3 => vK (aF h.get x3) λ x4 => bR x4 false (λ kk => kk r0 h) h λ x5 h6 => bR x4 false (λ kk => vK (aW x5) λ v => kk v h6) h6 λ x7 h8 => bR x4 false (λ kk => vK (aI 0 x7) λ v => kk v h8) h8 λ x9 h10 => bR x4 false (λ kk => vK (aF h10.get x9) λ v => kk v h10) h10 λ x11 h12 => bR x4 false (λ kk => vK (dC x11 (.str [])) λ v => kk v h12) h12 λ x13 h14 => vK (bE x4 (.bool true) x13) λ x15 => bK x15 (some ((ii 3), h14)) (some ((ii 0), h14)))
theorem bTU : oT E D59 (aUJ E) := Is.rf
def S59 : cF := nY (aUJ E)
theorem bIc : SQ D59 S59 := oZ bTU
def D64 := cm 64
def aUI (E : bJ) (r0 r1 : DV) (h : H) : aV := dV r0 h λ x1 h2 => dV r1 h2 λ x3 h4 => vK (aI 0 x3) λ x5 => vK (aF h4.get x5) λ x6 => vK (cG x6 (ii 1)) λ x7 => bK x7 (vK (aF h4.get x1) λ x8 => vK (aI 3 x3) λ x9 => vK (aF h4.get x9) λ x10 => vK (dO [.nilf, (.str [])] [(0, 1, (.fn (.func 40) [x8] [])), (1, 1, x10)]) λ x11 => some ((.ifc 102 x11), h4)) (vK (cG x6 (ii 2)) λ x12 => bK x12 (vK (aF h4.get x1) λ x13 => vK (aI 3 x3) λ x14 => vK (aF h4.get x14) λ x15 => vK (dO [.nilf, (.str [])] [(0, 1, (.fn (.func 41) [x13] [])), (1, 1, x15)]) λ x16 => some ((.ifc 102 x16), h4)) (vK (cG x6 (ii 3)) λ x17 => bK x17 (vK (aF h4.get x1) λ x18 => vK (aI 3 x3) λ x19 => vK (aF h4.get x19) λ x20 => vK (dO [.nilf, (.str [])] [(0, 1, (.fn (.func 42) [x18] [])), (1, 1, x20)]) λ x21 => some ((.ifc 102 x21), h4)) (vK (cG x6 (ii 4)) λ x22 => bK x22 (vK (aF h4.get x1) λ x23 => vK (aI 3 x3) λ x24 => vK (aF h4.get x24) λ x25 => vK (dO [.nilf, (.str [])] [(0, 1, (.fn (.func 43) [x23] [])), (1, 1, x25)]) λ x26 => some ((.ifc 102 x26), h4)) (vK (cG x6 (ii 5)) λ x27 => bK x27 (vK (aF h4.get x1) λ x28 => vK (aI 3 x3) λ x29 => vK (aF h4.get x29) λ x30 => vK (aI 4 x3) λ x31 => vK (aF h4.get x31) λ x32 => vK (dO [.nilf, (.str []), (.str [])] [(0, 1, (.fn (.func 44) [x28] [])), (1, 1, x30), (2, 1, x32)]) λ x33 => some ((.ifc 104 x33), h4)) (vK (cG x6 (ii 6)) λ x34 => bK x34 (vK (aF h4.get x1) λ x35 => vK (aI 3 x3) λ x36 => vK (aF h4.get x36) λ x37 => vK (aI 4 x3) λ x38 => vK (aF h4.get x38) λ x39 => vK (dO [.nilf, (.str []), (.str [])] [(0, 1, (.fn (.func 45) [x35] [])), (1, 1, x37), (2, 1, x39)]) λ x40 => some ((.ifc 104 x40), h4)) (vK (cG x6 (ii 7)) λ x41 => bK x41 (vK (dO [.nilf] [(0, 1, (.fn (.func 113) [] [x1, x3]))]) λ x42 => some ((.ifc 106 x42), h4)) (vK (cG x6 (ii 8)) λ x43 => bK x43 (vK (dO [.nilf] [(0, 1, (.fn (.func 114) [] [x1, x3]))]) λ x44 => some ((.ifc 106 x44), h4)) (vK (cG x6 (ii 9)) λ x45 => bK x45 (vK (dO [.nilf] [(0, 1, (.fn (.func 115) [] [x1, x3]))]) λ x46 => some ((.ifc 109 x46), h4)) (vK (cG x6 (ii 10)) λ x47 => bK x47 (vK (dO [.nilf] [(0, 1, (.fn (.func 116) [] [x1, x3]))]) λ x48 => some ((.ifc 109 x48), h4)) (vK (dO [.nilf] [(0, 1, (.fn (.func 118) [] [x1, x3]))]) λ x49 => some ((.ifc 109 x49), h4)))))))))))
theorem bTT : lP E D64 (aUI E) := Is.rf
def S64 : cF := lM (aUI E)
theorem bIb : SQ D64 S64 := lQ bTT
def D65 := cm 65
def aUH (E : bJ) (h : H) : aV := vK (dO [.nils] []) λ x1 => dV x1 h λ x2 h3 => some (x2, h3)
theorem bTS : iB0 E D65 (aUH E) := Is.rf
def S65 : cF := fA0 (aUH E)
theorem bIa : SQ D65 S65 := eB0 bTS
def D66 := cm 66
def bBC := cr (cr (cr (cr (cr (cr D66.body)))))
def bVY := cr (cr (cr (cr (cr bBC))))
def bVX := cl (cl (cr (cr (cr (cr bBC)))))
def bVZ := cl (cl (cr (cr (cr (cr (cr D66.body))))))
def aIV (E : bJ) (r2 r3 r6 r11 r12 : DV) (h : H) : aV := vK (aI 0 r3) λ x1 => vK (aF h.get x1) λ x2 => vK (dU 5 x2 none (some r12)) λ x3 => vK (aI 1 r3) λ x4 => vK (aF h.get x4) λ x5 => vK (dO [(ii 0), (ii 0), (ii 0), (.str []), .nils] [(0, 1, r11), (1, 1, x5), (2, 1, r2)]) λ x6 => fG 1 5 [(ii 0), (ii 0), (ii 0), (.str []), .nils] [(0, 5, x6)] h λ x7 h8 => vK (aI 0 r3) λ x9 => vK (aF h8.get x9) λ x10 => vK (dU 5 x10 (some r12) none) λ x11 => wK (cE 5 64 .nils x3 h8) λ x12 h13 => rK (vL (aF h13.get x9) x10) <| rK (vL (aF h13.get x4) x5) <| wK (cE 5 64 x12 x7 h13) λ x14 h15 => rK (vL (aF h15.get x9) x10) <| wK (cE 5 64 x14 x11 h15) λ x16 h17 => vK (aI 0 r3) λ x18 => wK (bY 1 x18 x16 h17) λ x19 h20 => vK (aM 2 h20.get r3) λ x21 => wK (bY 2 r6 x21 h20) λ x22 h23 => vK (aM 2 h23.get r6) λ x24 => some ((.tup [x24, (ii 0)]), h23)
def aPi (r2 r3 r6 r11 : DV) (i4 : DV → H → aV) (r12 : DV) (h : H) : aV := vK (aI 0 r3) λ x1 => vK (aF h.get x1) λ x2 => vK (cA x2) λ x3 => vK (dA r12 x3) λ x4 => bR x4 true (λ kk => vK (aI 0 r3) λ v => kk v h) h λ x5 h6 => bR x4 true (λ kk => vK (aF h6.get x5) λ v => kk v h6) h6 λ x7 h8 => bR x4 true (λ kk => kk r12 h8) h8 λ x9 h10 => bR x4 true (λ kk => vK (cD 5 x7 x9) λ v => kk v h10) h10 λ x11 h12 => bR x4 true (λ kk => vK (aI 0 x11) λ v => kk v h12) h12 λ x13 h14 => bR x4 true (λ kk => vK (aF h14.get x13) λ v => kk v h14) h14 λ x15 h16 => bR x4 true (λ kk => kk r11 h16) h16 λ x17 h18 => bR x4 true (λ kk => vK (dA x15 x17) λ v => kk v h18) h18 λ x19 h20 => vK (bE x4 x19 (.bool false)) λ x21 => bK x21 (vK (bN r12 (ii 1)) λ x22 => i4 x22 h20) (aIV E r2 r3 r6 r11 r12 h20)
def aIP (r2 r3 r6 r11 : DV) (n : Nat) : DV → H → aV := Nat.rec (motive := λ _ => DV → H → aV) (λ _ _ => none) (λ _ i => aPi E r2 r3 r6 r11 i) n
def aOT (r2 r3 r6 r8 r9 r11 : DV) (h : H) : aV := vK (oG r11 (ii 256)) λ x1 => bK x1 (vK (aM 2 h.get r3) λ x2 => wK (bY 2 r6 x2 h) λ x3 h4 => vK (aM 2 h4.get r6) λ x5 => some ((.tup [x5, (ii 5)]), h4)) (vK (aM 2 h.get r3) λ x6 => wK (aE E 123 [x6, r8, r9, r11] h) λ x7 h8 => wK (bY 2 r3 x7 h8) λ x9 h10 => vK (aI 1 r3) λ x11 => vK (aF h10.get x11) λ x12 => vK (bN x12 (ii 1)) λ x13 => vK (aI 1 r3) λ x14 => wK (bY 1 x14 x13 h10) λ x15 h16 => aIP E r2 r3 r6 r11 aQ (ii 0) h16)
def aPj (r2 r3 r6 r8 r9 : DV) (i2 : DV → H → aV) (r11 : DV) (h : H) : aV := vK (aM 2 h.get r3) λ x1 => wK (aE E 122 [x1, r11] h) λ x2 h3 => vK (oG x2 (ii 0)) λ x4 => bK x4 (vK (bN r11 (ii 1)) λ x5 => i2 x5 h3) (aOT E r2 r3 r6 r8 r9 r11 h3)
def aIQ (r2 r3 r6 r8 r9 : DV) (n : Nat) : DV → H → aV := Nat.rec (motive := λ _ => DV → H → aV) (λ _ _ => none) (λ _ i => aPj E r2 r3 r6 r8 r9 i) n
def aUG (r0 r1 r2 : DV) (h : H) : aV := dV r0 h λ x1 h2 => dP 2 2 (.list [.nils, (ii 0)]) h2 λ x3 h4 => vK (aM 2 h4.get x1) λ x5 => wK (aE E 120 [x5, r1] h4) λ x6 h7 => vK (aG 0 x6) λ x8 => vK (aG 1 x6) λ x9 => vK (aG 2 x6) λ x10 => vK (dC x10 (ii 0)) λ x11 => bK x11 (vK (aM 2 h7.get x1) λ x12 => wK (bY 2 x3 x12 h7) λ x13 h14 => vK (aM 2 h14.get x3) λ x15 => some ((.tup [x15, x10]), h14)) (vK (aM 2 h7.get x1) λ x16 => wK (aE E 121 [x16, x8, x9] h7) λ x17 h18 => bK x17 (vK (aM 2 h18.get x1) λ x19 => wK (bY 2 x3 x19 h18) λ x20 h21 => vK (aM 2 h21.get x3) λ x22 => some ((.tup [x22, (ii 6)]), h21)) (aIQ E r2 x1 x3 x8 x9 aQ (ii 2) h18))
theorem bTO : Is E bVY (bX D66.res) (λ σ h => aIV E (σ p2) (σ p3) (σ p6) (σ p11) (σ p12) h) := Is.rf
abbrev bSV : iY (DV × H) := (cP (λ σ h => aIV E (σ p2) (σ p3) (σ p6) (σ p11) (σ p12) h) (bX D66.res))
theorem bTN : Is E bVX (bV 2 (bSV E)) (λ σ h => aIP E (σ p2) (σ p3) (σ p6) (σ p11) aQ (σ p12) h) := Is.lp (λ n4 σ h => aIP E (σ p2) (σ p3) (σ p6) (σ p11) n4 (σ p12) h) λ n4 => Is.aq (Is.leaf _)
theorem bTQ : Is E bBC (bX D66.res) (λ σ h => aOT E (σ p2) (σ p3) (σ p6) (σ p8) (σ p9) (σ p11) h) := Is.aq (Is.sq (Is.sq (Is.sq (Is.sq (Is.sq (bTO E) (Is.bk (bTN E))) (Is.leaf _)) (Is.leaf _)) (Is.leaf _)) (Is.leaf _))
abbrev bSU : iY (DV × H) := (cP (λ σ h => aOT E (σ p2) (σ p3) (σ p6) (σ p8) (σ p9) (σ p11) h) (bX D66.res))
theorem bTP : Is E bVZ (bV 0 (bSU E)) (λ σ h => aIQ E (σ p2) (σ p3) (σ p6) (σ p8) (σ p9) aQ (σ p11) h) := Is.lp (λ n2 σ h => aIQ E (σ p2) (σ p3) (σ p6) (σ p8) (σ p9) n2 (σ p11) h) λ n2 => Is.aq (Is.leaf _)
theorem bTR : iB3 E D66 (aUG E) := Is.aq (Is.sq (Is.sq (Is.sq (Is.sq (Is.sq (Is.sq (bTQ E) (Is.bk (bTP E))) (Is.leaf _)) (Is.leaf _)) (Is.leaf _)) (Is.leaf _)) (Is.leaf _))
def S66 : cF := fA3 (aUG E)
theorem bHZ : SQ D66 S66 := eB3 bTR
def D67 := cm 67
def bVW := cr (cr (cr (cr (cr (cr (cr (cr D67.body)))))))
def bAW (E : bJ) (r2 r4 : DV) (h : H) : aV := vK (aM 2 h.get r2) λ x1 => wK (bY 2 r4 x1 h) λ x2 h3 => vK (aM 2 h3.get r4) λ x4 => some ((.tup [x4, (ii 0)]), h3)
def aUF (r0 r1 : DV) (h : H) : aV := dV r0 h λ x1 h2 => dP 2 2 (.list [.nils, (ii 0)]) h2 λ x3 h4 => vK (aM 2 h4.get x1) λ x5 => wK (aE E 124 [x5, r1] h4) λ x6 h7 => vK (aG 0 x6) λ x8 => vK (aG 1 x6) λ x9 => vK (dC x9 (ii 0)) λ x10 => bK x10 (vK (aM 2 h7.get x1) λ x11 => wK (bY 2 x3 x11 h7) λ x12 h13 => vK (aM 2 h13.get x3) λ x14 => some ((.tup [x14, x9]), h13)) (vK (aI 0 x1) λ x15 => vK (aF h7.get x15) λ x16 => vK (cD 5 x16 x8) λ x17 => vK (aI 2 x17) λ x18 => vK (aF h7.get x18) λ x19 => vK (cG x19 (ii 2)) λ x20 => bK x20 (vK (aM 2 h7.get x1) λ x21 => wK (bY 2 x3 x21 h7) λ x22 h23 => vK (aM 2 h23.get x3) λ x24 => some ((.tup [x24, (ii 12)]), h23)) (vK (aI 0 x1) λ x25 => vK (aF h7.get x25) λ x26 => vK (cD 5 x26 x8) λ x27 => vK (aI 0 x27) λ x28 => vK (aF h7.get x28) λ x29 => vK (aM 2 h7.get x1) λ x30 => wK (aE E 120 [x30, r1] h7) λ x31 h32 => vK (aG 0 x31) λ x33 => vK (aG 1 x31) λ x34 => vK (aG 2 x31) λ x35 => vK (aM 2 h32.get x1) λ x36 => wK (aE E 125 [x36, x33, x34] h32) λ x37 h38 => wK (bY 2 x1 x37 h38) λ x39 h40 => vK (aM 2 h40.get x1) λ x41 => wK (aE E 126 [x41, x29] h40) λ x42 h43 => vK (cG x42 (ii 0)) λ x44 => bK x44 (vK (aM 2 h43.get x1) λ x45 => wK (aE E 127 [x45, x29] h43) λ x46 h47 => wK (bY 2 x1 x46 h47) λ x48 h49 => bAW E x1 x3 h49) (bAW E x1 x3 h43)))
theorem bTL : Is E bVW (bX D67.res) (λ σ h => bAW E (σ p2) (σ p4) h) := Is.rf
theorem bTM : lP E D67 (aUF E) := Is.aq (Is.sq (Is.sq (Is.sq (Is.sq (Is.sq (Is.sq (Is.sq (Is.sq (bTL E) (Is.leaf _)) (Is.leaf _)) (Is.leaf _)) (Is.leaf _)) (Is.leaf _)) (Is.leaf _)) (Is.leaf _)) (Is.leaf _))
def S67 : cF := lM (aUF E)
theorem bHY : SQ D67 S67 := lQ bTM
def D68 := cm 68
def aUE (r0 r1 : DV) (h : H) : aV := dV r0 h λ x1 h2 => dP 2 2 (.list [.nils, (ii 0)]) h2 λ x3 h4 => vK (aM 2 h4.get x1) λ x5 => wK (aE E 124 [x5, r1] h4) λ x6 h7 => vK (aG 0 x6) λ x8 => vK (aG 1 x6) λ x9 => vK (dC x9 (ii 0)) λ x10 => bK x10 (vK (aM 2 h7.get x1) λ x11 => wK (bY 2 x3 x11 h7) λ x12 h13 => vK (aM 2 h13.get x3) λ x14 => some ((.tup [x14, x9]), h13)) (vK (aI 0 x1) λ x15 => vK (aF h7.get x15) λ x16 => vK (cD 5 x16 x8) λ x17 => vK (aI 2 x17) λ x18 => vK (aF h7.get x18) λ x19 => vK (cG x19 (ii 1)) λ x20 => bK x20 (vK (aM 2 h7.get x1) λ x21 => wK (bY 2 x3 x21 h7) λ x22 h23 => vK (aM 2 h23.get x3) λ x24 => some ((.tup [x24, (ii 13)]), h23)) (vK (aI 0 x1) λ x25 => vK (aF h7.get x25) λ x26 => vK (cD 5 x26 x8) λ x27 => vK (aI 0 x27) λ x28 => vK (aF h7.get x28) λ x29 => vK (cG x29 (ii 1)) λ x30 => bK x30 (vK (aM 2 h7.get x1) λ x31 => wK (bY 2 x3 x31 h7) λ x32 h33 => vK (aM 2 h33.get x3) λ x34 => some ((.tup [x34, (ii 1)]), h33)) (vK (aI 0 x1) λ x35 => vK (aF h7.get x35) λ x36 => vK (cD 5 x36 x8) λ x37 => vK (aI 4 x37) λ x38 => vK (aF h7.get x38) λ x39 => vK (cA x39) λ x40 => vK (eI x40 (ii 0)) λ x41 => bK x41 (vK (aM 2 h7.get x1) λ x42 => wK (bY 2 x3 x42 h7) λ x43 h44 => vK (aM 2 h44.get x3) λ x45 => some ((.tup [x45, (ii 14)]), h44)) (vK (aI 0 x1) λ x46 => vK (aF h7.get x46) λ x47 => vK (cD 5 x47 x8) λ x48 => vK (aI 0 x48) λ x49 => vK (aF h7.get x49) λ x50 => vK (aM 2 h7.get x1) λ x51 => wK (aE E 120 [x51, r1] h7) λ x52 h53 => vK (aG 0 x52) λ x54 => vK (aG 1 x52) λ x55 => vK (aG 2 x52) λ x56 => vK (aM 2 h53.get x1) λ x57 => wK (aE E 125 [x57, x54, x55] h53) λ x58 h59 => wK (aE E 127 [x58, x50] h59) λ x60 h61 => wK (bY 2 x3 x60 h61) λ x62 h63 => vK (aM 2 h63.get x3) λ x64 => some ((.tup [x64, (ii 0)]), h63)))))
theorem bTK : lP E D68 (aUE E) := Is.rf
def S68 : cF := lM (aUE E)
theorem bHX : SQ D68 S68 := lQ bTK
def D69 := cm 69
def aUD (r0 r1 r2 : DV) (h : H) : aV := dV r0 h λ x1 h2 => dP 2 2 (.list [.nils, (ii 0)]) h2 λ x3 h4 => vK (aM 2 h4.get x1) λ x5 => wK (aE E 124 [x5, r1] h4) λ x6 h7 => vK (aG 0 x6) λ x8 => vK (aG 1 x6) λ x9 => vK (dC x9 (ii 0)) λ x10 => bK x10 (vK (aM 2 h7.get x1) λ x11 => wK (bY 2 x3 x11 h7) λ x12 h13 => vK (aM 2 h13.get x3) λ x14 => some ((.tup [x14, x9]), h13)) (vK (aM 2 h7.get x1) λ x15 => wK (aE E 120 [x15, r2] h7) λ x16 h17 => vK (aG 0 x16) λ x18 => vK (aG 1 x16) λ x19 => vK (aG 2 x16) λ x20 => vK (dC x20 (ii 0)) λ x21 => bK x21 (vK (aM 2 h17.get x1) λ x22 => wK (bY 2 x3 x22 h17) λ x23 h24 => vK (aM 2 h24.get x3) λ x25 => some ((.tup [x25, x20]), h24)) (vK (aI 0 x1) λ x26 => vK (aF h17.get x26) λ x27 => vK (cD 5 x27 x8) λ x28 => vK (aI 0 x28) λ x29 => vK (aF h17.get x29) λ x30 => vK (cG x30 (ii 1)) λ x31 => bR x31 false (λ kk => kk r1 h17) h17 λ x32 h33 => bR x31 false (λ kk => kk r2 h33) h33 λ x34 h35 => bR x31 false (λ kk => wK (aE E 128 [x32, x34] h35) kk) h35 λ x36 h37 => vK (bE x31 (.bool true) x36) λ x38 => bK x38 (vK (aM 2 h37.get x1) λ x39 => wK (bY 2 x3 x39 h37) λ x40 h41 => vK (aM 2 h41.get x3) λ x42 => some ((.tup [x42, (ii 1)]), h41)) (wK (aE E 129 [r1] h37) λ x43 h44 => vK (aG 0 x43) λ x45 => vK (aG 1 x43) λ x46 => wK (aE E 129 [r2] h44) λ x47 h48 => vK (aG 0 x47) λ x49 => vK (aG 1 x47) λ x50 => vK (cG x45 x49) λ x51 => bK x51 (vK (aM 2 h48.get x1) λ x52 => wK (bY 2 x3 x52 h48) λ x53 h54 => vK (aM 2 h54.get x3) λ x55 => some ((.tup [x55, (ii 0)]), h54)) (vK (aM 2 h48.get x1) λ x56 => wK (aE E 120 [x56, r2] h48) λ x57 h58 => vK (aG 0 x57) λ x59 => vK (aG 1 x57) λ x60 => vK (aG 2 x57) λ x61 => vK (aM 2 h58.get x1) λ x62 => wK (aE E 121 [x62, x59, x19] h58) λ x63 h64 => bK x63 (vK (aM 2 h64.get x1) λ x65 => wK (bY 2 x3 x65 h64) λ x66 h67 => vK (aM 2 h67.get x3) λ x68 => some ((.tup [x68, (ii 6)]), h67)) (vK (aM 2 h64.get x1) λ x69 => wK (aE E 120 [x69, r1] h64) λ x70 h71 => vK (aG 0 x70) λ x72 => vK (aG 1 x70) λ x73 => vK (aG 2 x70) λ x74 => vK (aM 2 h71.get x1) λ x75 => wK (aE E 125 [x75, x72, x73] h71) λ x76 h77 => wK (bY 2 x1 x76 h77) λ x78 h79 => vK (aM 2 h79.get x1) λ x80 => wK (aE E 123 [x80, x59, x19, x30] h79) λ x81 h82 => wK (bY 2 x3 x81 h82) λ x83 h84 => vK (aM 2 h84.get x3) λ x85 => some ((.tup [x85, (ii 0)]), h84))))))
theorem bTJ : iB3 E D69 (aUD E) := Is.rf
def S69 : cF := fA3 (aUD E)
theorem bHW : SQ D69 S69 := eB3 bTJ
def D70 := cm 70
def aUC (r0 r1 r2 : DV) (h : H) : aV := dV r0 h λ x1 h2 => dP 2 2 (.list [.nils, (ii 0)]) h2 λ x3 h4 => vK (aM 2 h4.get x1) λ x5 => wK (aE E 124 [x5, r1] h4) λ x6 h7 => vK (aG 0 x6) λ x8 => vK (aG 1 x6) λ x9 => vK (dC x9 (ii 0)) λ x10 => bK x10 (vK (aM 2 h7.get x1) λ x11 => wK (bY 2 x3 x11 h7) λ x12 h13 => vK (aM 2 h13.get x3) λ x14 => some ((.tup [x14, x9]), h13)) (vK (aM 2 h7.get x1) λ x15 => wK (aE E 120 [x15, r2] h7) λ x16 h17 => vK (aG 0 x16) λ x18 => vK (aG 1 x16) λ x19 => vK (aG 2 x16) λ x20 => vK (dC x20 (ii 0)) λ x21 => bK x21 (vK (aM 2 h17.get x1) λ x22 => wK (bY 2 x3 x22 h17) λ x23 h24 => vK (aM 2 h24.get x3) λ x25 => some ((.tup [x25, x20]), h24)) (vK (aI 0 x1) λ x26 => vK (aF h17.get x26) λ x27 => vK (cD 5 x27 x8) λ x28 => vK (aI 2 x28) λ x29 => vK (aF h17.get x29) λ x30 => vK (cG x30 (ii 2)) λ x31 => bK x31 (vK (aM 2 h17.get x1) λ x32 => wK (bY 2 x3 x32 h17) λ x33 h34 => vK (aM 2 h34.get x3) λ x35 => some ((.tup [x35, (ii 12)]), h34)) (vK (aM 2 h17.get x1) λ x36 => wK (aE E 121 [x36, x18, x19] h17) λ x37 h38 => bK x37 (vK (aM 2 h38.get x1) λ x39 => wK (bY 2 x3 x39 h38) λ x40 h41 => vK (aM 2 h41.get x3) λ x42 => some ((.tup [x42, (ii 6)]), h41)) (vK (aM 2 h38.get x1) λ x43 => vK (aI 0 x1) λ x44 => vK (aF h38.get x44) λ x45 => vK (cD 5 x45 x8) λ x46 => vK (aI 0 x46) λ x47 => vK (aF h38.get x47) λ x48 => wK (aE E 126 [x43, x48] h38) λ x49 h50 => vK (oG x49 (ii 100)) λ x51 => bK x51 (vK (aM 2 h50.get x1) λ x52 => wK (bY 2 x3 x52 h50) λ x53 h54 => vK (aM 2 h54.get x3) λ x55 => some ((.tup [x55, (ii 5)]), h54)) (vK (aM 2 h50.get x1) λ x56 => vK (aI 0 x1) λ x57 => vK (aF h50.get x57) λ x58 => vK (cD 5 x58 x8) λ x59 => vK (aI 0 x59) λ x60 => vK (aF h50.get x60) λ x61 => wK (aE E 123 [x56, x18, x19, x61] h50) λ x62 h63 => wK (bY 2 x3 x62 h63) λ x64 h65 => vK (aM 2 h65.get x3) λ x66 => some ((.tup [x66, (ii 0)]), h65))))))
theorem bTI : iB3 E D70 (aUC E) := Is.rf
def S70 : cF := fA3 (aUC E)
theorem bHV : SQ D70 S70 := eB3 bTI
def D71 := cm 71
def aUB (r0 r1 r2 r3 : DV) (h : H) : aV := dV r0 h λ x1 h2 => dP 2 2 (.list [.nils, (ii 0)]) h2 λ x3 h4 => vK (aM 2 h4.get x1) λ x5 => wK (aE E 130 [x5, r1] h4) λ x6 h7 => vK (aG 0 x6) λ x8 => vK (aG 1 x6) λ x9 => vK (dC x9 (ii 0)) λ x10 => bK x10 (vK (aM 2 h7.get x1) λ x11 => wK (bY 2 x3 x11 h7) λ x12 h13 => vK (aM 2 h13.get x3) λ x14 => some ((.tup [x14, x9]), h13)) (vK (aM 2 h7.get x1) λ x15 => wK (aE E 90 [x15, x8, r2, r3] h7) λ x16 h17 => vK (aG 0 x16) λ x18 => vK (aG 1 x16) λ x19 => wK (bY 2 x3 x18 h17) λ x20 h21 => vK (aM 2 h21.get x3) λ x22 => some ((.tup [x22, x19]), h21))
theorem bTH : iB4 E D71 (aUB E) := Is.rf
def S71 : cF := fA4 (aUB E)
theorem bHU : SQ D71 S71 := eB4 bTH
def D72 := cm 72
def bVV := cr (cr (cr (cr (cr (cr D72.body)))))
def aOS (r2 r3 r6 r8 r10 : DV) (h : H) : aV := vK (aM 2 h.get r3) λ x1 => vK (iE r10 none (some r2)) λ x2 => wK (aE E 132 [x1, r8, x2] h) λ x3 h4 => vK (aG 0 x3) λ x5 => vK (aG 1 x3) λ x6 => wK (bY 2 r6 x5 h4) λ x7 h8 => vK (aM 2 h8.get r6) λ x9 => some ((.tup [x9, x6]), h8)
def aUA (r0 r1 r2 : DV) (h : H) : aV := dV r0 h λ x1 h2 => dP 2 2 (.list [.nils, (ii 0)]) h2 λ x3 h4 => vK (aM 2 h4.get x1) λ x5 => wK (aE E 130 [x5, r1] h4) λ x6 h7 => vK (aG 0 x6) λ x8 => vK (aG 1 x6) λ x9 => vK (dC x9 (ii 0)) λ x10 => bK x10 (vK (aM 2 h7.get x1) λ x11 => wK (bY 2 x3 x11 h7) λ x12 h13 => vK (aM 2 h13.get x3) λ x14 => some ((.tup [x14, x9]), h13)) (vK (dA r2 (ii 0)) λ x15 => bR x15 false (λ kk => kk r2 h7) h7 λ x16 h17 => bR x15 false (λ kk => vK (eI x16 (ii 16384)) λ v => kk v h17) h17 λ x18 h19 => vK (bE x15 (.bool true) x18) λ x20 => bK x20 (vK (aM 2 h19.get x1) λ x21 => wK (bY 2 x3 x21 h19) λ x22 h23 => vK (aM 2 h23.get x3) λ x24 => some ((.tup [x24, (ii 1)]), h23)) (vK (aI 0 x1) λ x25 => vK (aF h19.get x25) λ x26 => vK (cD 5 x26 x8) λ x27 => vK (aI 3 x27) λ x28 => vK (aF h19.get x28) λ x29 => vK (cJ x29) λ x30 => vK (eI r2 x30) λ x31 => bK x31 (vK (cJ x29) λ x32 => vK (fM r2 x32) λ x33 => wK (aE E 131 [x33] h19) λ x34 h35 => vK (bN x29 x34) λ x36 => aOS E r2 x1 x3 x8 x36 h35) (aOS E r2 x1 x3 x8 x29 h19)))
theorem bTF : Is E bVV (bX D72.res) (λ σ h => aOS E (σ p2) (σ p3) (σ p6) (σ p8) (σ p10) h) := Is.rf
theorem bTG : iB3 E D72 (aUA E) := Is.aq (Is.sq (Is.sq (Is.sq (Is.sq (Is.sq (Is.sq (bTF E) (Is.leaf _)) (Is.leaf _)) (Is.leaf _)) (Is.leaf _)) (Is.leaf _)) (Is.leaf _))
def S72 : cF := fA3 (aUA E)
theorem bHT : SQ D72 S72 := eB3 bTG
def D73 := cm 73
def aUz (r0 r1 : DV) (h : H) : aV := dV r0 h λ x1 h2 => dV r1 h2 λ x3 h4 => vK (aI 0 x3) λ x5 => vK (aF h4.get x5) λ x6 => vK (cG x6 (ii 9)) λ x7 => bK x7 (vK (aM 2 h4.get x1) λ x8 => vK (aI 3 x3) λ x9 => vK (aF h4.get x9) λ x10 => vK (aI 1 x3) λ x11 => vK (aF h4.get x11) λ x12 => vK (aI 2 x3) λ x13 => vK (aF h4.get x13) λ x14 => wK (aE E 80 [x8, x10, x12, x14] h4) λ x15 h16 => vK (aG 0 x15) λ x17 => vK (aG 1 x15) λ x18 => some ((.tup [x18, x17]), h16)) (vK (cG x6 (ii 10)) λ x19 => bK x19 (vK (aM 2 h4.get x1) λ x20 => vK (aI 3 x3) λ x21 => vK (aF h4.get x21) λ x22 => wK (aE E 81 [x20, x22] h4) λ x23 h24 => vK (aG 0 x23) λ x25 => vK (aG 1 x23) λ x26 => dP 5 5 (.list [(ii 0), (ii 0), (ii 0), (ii 0), (ii 0)]) h24 λ x27 h28 => wK (bY 5 x27 x25 h28) λ x29 h30 => vK (dC x26 (ii 0)) λ x31 => bK x31 (some ((.tup [x26, (.str [])]), h30)) (vK (aI 0 x27) λ x32 => vK (aF h30.get x32) λ x33 => vK (aI 1 x27) λ x34 => vK (aF h30.get x34) λ x35 => vK (aI 2 x27) λ x36 => vK (aF h30.get x36) λ x37 => vK (aI 3 x27) λ x38 => vK (aF h30.get x38) λ x39 => vK (aI 4 x27) λ x40 => vK (aF h30.get x40) λ x41 => wK (aE E 53 [x33] h30) λ x42 h43 => rK (vL (aF h43.get x40) x41) <| rK (vL (aF h43.get x38) x39) <| rK (vL (aF h43.get x36) x37) <| rK (vL (aF h43.get x34) x35) <| wK (aE E 53 [x35] h43) λ x44 h45 => rK (vL (aF h45.get x40) x41) <| rK (vL (aF h45.get x38) x39) <| rK (vL (aF h45.get x36) x37) <| vK (bN x42 x44) λ x46 => wK (aE E 53 [x37] h45) λ x47 h48 => rK (vL (aF h48.get x40) x41) <| rK (vL (aF h48.get x38) x39) <| vK (bN x46 x47) λ x49 => wK (aE E 53 [x39] h48) λ x50 h51 => rK (vL (aF h51.get x40) x41) <| vK (bN x49 x50) λ x52 => wK (aE E 53 [x41] h51) λ x53 h54 => vK (bN x52 x53) λ x55 => some ((.tup [(ii 0), x55]), h54))) (vK (aM 2 h4.get x1) λ x56 => vK (aI 3 x3) λ x57 => vK (aF h4.get x57) λ x58 => wK (aE E 82 [x56, x58] h4) λ x59 h60 => vK (aG 0 x59) λ x61 => vK (aG 1 x59) λ x62 => vK (dC x62 (ii 0)) λ x63 => bK x63 (some ((.tup [x62, (.str [])]), h60)) (wK (aE E 133 [x61] h60) λ x64 h65 => some ((.tup [(ii 0), x64]), h65))))
theorem bTE : lP E D73 (aUz E) := Is.rf
def S73 : cF := lM (aUz E)
theorem bHS : SQ D73 S73 := lQ bTE
def D74 := cm 74
def aUy (r0 r1 : DV) (h : H) : aV := wK (aE E 48 [(ii 65536)] h) λ x1 h2 => wK (kZ E r0 [x1] h2) λ x3 h4 => wK (aE E 52 [x1] h4) λ x5 h6 => vK (aG 0 x5) λ x7 => vK (aG 1 x5) λ x8 => vK (aF h6.get r1) λ x9 => wK (cE 1 1 x9 x7 h6) λ x10 h11 => wK (bY 1 r1 x10 h11) λ x12 h13 => some ((.tup []), h13)
theorem bTD : lP E D74 (aUy E) := Is.rf
def S74 : cF := lM (aUy E)
theorem bHR : SQ D74 S74 := lQ bTD
def D75 := cm 75
def aUx (r0 r1 r2 : DV) (h : H) : aV := vK (aF h.get r1) λ x1 => vK (aW x1) λ x2 => vK (aI 512 x2) λ x3 => vK (aF h.get x3) λ x4 => wK (aE E 50 [r0, x4] h) λ x5 h6 => vK (aF h6.get r2) λ x7 => wK (aE E 50 [r0, x7] h6) λ x8 h9 => some ((.tup []), h9)
theorem bTC : iB3 E D75 (aUx E) := Is.rf
def S75 : cF := fA3 (aUx E)
theorem bHQ : SQ D75 S75 := eB3 bTC
def D76 := cm 76
def aUw (r0 r1 r2 : DV) (h : H) : aV := vK (aF h.get r1) λ x1 => wK (aE E 50 [r0, x1] h) λ x2 h3 => vK (aI 0 r2) λ x4 => vK (aF h3.get x4) λ x5 => wK (aE E 50 [r0, x5] h3) λ x6 h7 => vK (aI 1 r2) λ x8 => vK (aF h7.get x8) λ x9 => wK (wX E [(120, 217), (141, 221)] x9 [] h7) λ x10 h11 => wK (aE E 49 [r0, x10] h11) λ x12 h13 => vK (aI 1 r2) λ x14 => vK (aF h13.get x14) λ x15 => wK (wX E [(120, 219), (141, 223)] x15 [] h13) λ x16 h17 => wK (aE E 51 [r0, x16] h17) λ x18 h19 => some ((.tup []), h19)
theorem bTB : iB3 E D76 (aUw E) := Is.rf
def S76 : cF := fA3 (aUw E)
theorem bHP : SQ D76 S76 := eB3 bTB
def D77 := cm 77
def bVU := cr (cr (cr D77.body))
def bVT := cl (cr (cl (cr (cr D77.body))))
def bAV (E : bJ) (r3 : DV) (h : H) : aV := some (r3, h)
def aPh (r0 : DV) (i2 : DV → DV → H → aV) (r3 r4 : DV) (h : H) : aV := vK (cA r0) λ x1 => vK (dA r4 x1) λ x2 => bK x2 (vK (cD 2 r0 r4) λ x3 => vK (aI 0 x3) λ x4 => vK (aF h.get x4) λ x5 => vK (cD 2 r0 r4) λ x6 => vK (aI 1 x6) λ x7 => vK (aF h.get x7) λ x8 => wK (aE E 54 [x5] h) λ x9 h10 => rK (vL (aF h10.get x7) x8) <| wK (aE E 53 [x8] h10) λ x11 h12 => vK (bN x9 x11) λ x13 => vK (bN r3 x13) λ x14 => vK (bN r4 (ii 1)) λ x15 => i2 x14 x15 h12) (bAV E r3 h)
def aIO (r0 : DV) (n : Nat) : DV → DV → H → aV := Nat.rec (motive := λ _ => DV → DV → H → aV) (λ _ _ _ => none) (λ _ i => aPh E r0 i) n
def aUv (r0 : DV) (h : H) : aV := vK (cA r0) λ x1 => wK (aE E 53 [x1] h) λ x2 h3 => aIO E r0 aQ x2 (ii 0) h3
theorem bTz : Is E bVU (bX D77.res) (λ σ h => bAV E (σ p3) h) := Is.rf
abbrev bST : iY (DV × H) := (cP (λ σ h => bAV E (σ p3) h) (bX D77.res))
theorem bTy : Is E bVT (bV 0 (bST E)) (λ σ h => aIO E (σ p0) aQ (σ p3) (σ p4) h) := Is.lp (λ n2 σ h => aIO E (σ p0) n2 (σ p3) (σ p4) h) λ n2 => Is.aq (Is.leaf _)
theorem bTA : oT E D77 (aUv E) := Is.aq (Is.sq (Is.sq (Is.sq (bTz E) (Is.sq (Is.bk (bTy E)) (Is.leaf _))) (Is.leaf _)) (Is.leaf _))
def S77 : cF := nY (aUv E)
theorem bHO : SQ D77 S77 := oZ bTA
def D80 := cm 80
def aUu (r0 r1 r2 r3 : DV) (h : H) : aV := dV r0 h λ x1 h2 => vK (aM 2 h2.get x1) λ x3 => wK (aE E 130 [x3, r1] h2) λ x4 h5 => vK (aG 0 x4) λ x6 => vK (aG 1 x4) λ x7 => vK (dC x7 (ii 0)) λ x8 => bK x8 (some ((.tup [(.str []), x7]), h5)) (vK (aM 2 h5.get x1) λ x9 => wK (aE E 93 [x9, x6, r2, r3] h5) λ x10 h11 => vK (aG 0 x10) λ x12 => vK (aG 1 x10) λ x13 => some ((.tup [x12, x13]), h11))
theorem bTx : iB4 E D80 (aUu E) := Is.rf
def S80 : cF := fA4 (aUu E)
theorem bHN : SQ D80 S80 := eB4 bTx
def D81 := cm 81
def bVR := cr (cr (cr (cr (cr (cr D81.body)))))
def aOR (E : bJ) (r4 r9 : DV) (h : H) : aV := vK (aM 5 h.get r9) λ x1 => wK (bY 5 r4 x1 h) λ x2 h3 => vK (aM 5 h3.get r4) λ x4 => some ((.tup [x4, (ii 0)]), h3)
def aUt (r0 r1 : DV) (h : H) : aV := dV r0 h λ x1 h2 => dP 5 5 (.list [(ii 0), (ii 0), (ii 0), (ii 0), (ii 0)]) h2 λ x3 h4 => vK (aM 2 h4.get x1) λ x5 => wK (aE E 124 [x5, r1] h4) λ x6 h7 => vK (aG 0 x6) λ x8 => vK (aG 1 x6) λ x9 => vK (dC x9 (ii 0)) λ x10 => bK x10 (vK (dO [(ii 0), (ii 0), (ii 0), (ii 0), (ii 0)] []) λ x11 => wK (bY 5 x3 x11 h7) λ x12 h13 => vK (aM 5 h13.get x3) λ x14 => some ((.tup [x14, x9]), h13)) (vK (aI 0 x1) λ x15 => vK (aF h7.get x15) λ x16 => vK (cD 5 x16 x8) λ x17 => vK (aM 5 h7.get x17) λ x18 => dP 5 5 (.list [(ii 0), (ii 0), (ii 0), (.str []), .nils]) h7 λ x19 h20 => wK (bY 5 x19 x18 h20) λ x21 h22 => vK (aI 0 x19) λ x23 => vK (aF h22.get x23) λ x24 => vK (aI 1 x19) λ x25 => vK (aF h22.get x25) λ x26 => vK (aI 2 x19) λ x27 => vK (aF h22.get x27) λ x28 => vK (aI 4 x19) λ x29 => vK (aF h22.get x29) λ x30 => vK (cA x30) λ x31 => vK (dO [(ii 0), (ii 0), (ii 0), (ii 0), (ii 0)] [(0, 1, x24), (1, 1, x26), (2, 1, x28), (3, 1, x31), (4, 1, (ii 1))]) λ x32 => dP 5 5 (.list [(ii 0), (ii 0), (ii 0), (ii 0), (ii 0)]) h22 λ x33 h34 => wK (bY 5 x33 x32 h34) λ x35 h36 => vK (aI 2 x19) λ x37 => vK (aF h36.get x37) λ x38 => vK (cG x38 (ii 1)) λ x39 => bK x39 (vK (aI 3 x19) λ x40 => vK (aF h36.get x40) λ x41 => vK (cJ x41) λ x42 => vK (aI 3 x33) λ x43 => wK (bY 1 x43 x42 h36) λ x44 h45 => vK (aM 2 h45.get x1) λ x46 => vK (aI 0 x19) λ x47 => vK (aF h45.get x47) λ x48 => wK (aE E 126 [x46, x48] h45) λ x49 h50 => vK (aI 4 x33) λ x51 => wK (bY 1 x51 x49 h50) λ x52 h53 => aOR E x3 x33 h53) (aOR E x3 x33 h36))
theorem bTv : Is E bVR (bX D81.res) (λ σ h => aOR E (σ p4) (σ p9) h) := Is.rf
theorem bTw : lP E D81 (aUt E) := Is.aq (Is.sq (Is.sq (Is.sq (Is.sq (Is.sq (Is.sq (bTv E) (Is.leaf _)) (Is.leaf _)) (Is.leaf _)) (Is.leaf _)) (Is.leaf _)) (Is.leaf _))
def S81 : cF := lM (aUt E)
theorem bHM : SQ D81 S81 := lQ bTw
def D82 := cm 82
def aUs (r0 r1 : DV) (h : H) : aV := dV r0 h λ x1 h2 => vK (aM 2 h2.get x1) λ x3 => wK (aE E 124 [x3, r1] h2) λ x4 h5 => vK (aG 0 x4) λ x6 => vK (aG 1 x4) λ x7 => vK (dC x7 (ii 0)) λ x8 => bK x8 (some ((.tup [.nils, x7]), h5)) (vK (aI 0 x1) λ x9 => vK (aF h5.get x9) λ x10 => vK (cD 5 x10 x6) λ x11 => vK (aI 2 x11) λ x12 => vK (aF h5.get x12) λ x13 => vK (cG x13 (ii 1)) λ x14 => bK x14 (some ((.tup [.nils, (ii 13)]), h5)) (vK (aI 0 x1) λ x15 => vK (aF h5.get x15) λ x16 => vK (cD 5 x16 x6) λ x17 => vK (aI 4 x17) λ x18 => vK (aF h5.get x18) λ x19 => wK (aE E 136 [x19] h5) λ x20 h21 => some ((.tup [x20, (ii 0)]), h21)))
theorem bTu : lP E D82 (aUs E) := Is.rf
def S82 : cF := lM (aUs E)
theorem bHL : SQ D82 S82 := lQ bTu
def D83 := cm 83
def aUr (r0 r1 : DV) (h : H) : aV := wK (aE E 85 [r0, r1] h) λ x1 h2 => vK (aG 0 x1) λ x3 => vK (aG 1 x1) λ x4 => vK (dC x4 (ii 0)) λ x5 => bK x5 (some ((.tup [.nilp, x4]), h2)) (wK (aE E 86 [r0, x3] h2) λ x6 h7 => vK (eM .ptr false h7.get x6 .nilp) λ x8 => bK x8 (some ((.tup [.nilp, (ii 12)]), h7)) (some ((.tup [x6, (ii 0)]), h7)))
theorem bTt : lP E D83 (aUr E) := Is.rf
def S83 : cF := lM (aUr E)
theorem bHK : SQ D83 S83 := lQ bTt
def D84 := cm 84
def aUq (E : bJ) (r0 r1 r2 : DV) (h : H) : aV := vK (dA r1 (ii 0)) λ x1 => bR x1 false (λ kk => kk r2 h) h λ x2 h3 => bR x1 false (λ kk => vK (dA x2 (ii 0)) λ v => kk v h3) h3 λ x4 h5 => vK (bE x1 (.bool true) x4) λ x6 => bK x6 (some ((.tup [(.str []), (ii 1)]), h5)) (vK (aW r0) λ x7 => vK (aI 0 x7) λ x8 => vK (aF h5.get x8) λ x9 => vK (aW r0) λ x10 => vK (aI 0 x10) λ x11 => vK (aF h5.get x11) λ x12 => vK (cJ x12) λ x13 => vK (aAP r1 x13) λ x14 => vK (iE x9 (some x14) none) λ x15 => vK (cJ x15) λ x16 => vK (aAP r2 x16) λ x17 => vK (iE x15 none (some x17)) λ x18 => some ((.tup [x18, (ii 0)]), h5))
theorem bTs : iB3 E D84 (aUq E) := Is.rf
def S84 : cF := fA3 (aUq E)
theorem bHJ : SQ D84 S84 := eB3 bTs
def D85 := cm 85
def aUp (r0 r1 : DV) (h : H) : aV := vK (eM .ptr false h.get r0 .nilp) λ x1 => bK x1 (some ((.tup [(ii 0), (ii 1)]), h)) (wK (aE E 137 [r1] h) λ x2 h3 => vK (aG 0 x2) λ x4 => vK (aG 1 x2) λ x5 => vK (dC x5 (ii 0)) λ x6 => bK x6 (some ((.tup [(ii 0), x5]), h3)) (wK (aE E 138 [r0, x4] h3) λ x7 h8 => vK (aG 0 x7) λ x9 => vK (aG 1 x7) λ x10 => some ((.tup [x9, x10]), h8)))
theorem bTr : lP E D85 (aUp E) := Is.rf
def S85 : cF := lM (aUp E)
theorem bHI : SQ D85 S85 := lQ bTr
def D86 := cm 86
def aUo (E : bJ) (r0 r1 : DV) (h : H) : aV := vK (aW r0) λ x1 => vK (aI 0 x1) λ x2 => vK (pF 256 2 x2 r1) λ x3 => vK (aI 1 x3) λ x4 => vK (aF h.get x4) λ x5 => vK (nF 141 .nilp true x5) λ x6 => vK (aG 0 x6) λ x7 => vK (aG 1 x6) λ x8 => some (x7, h)
theorem bTq : lP E D86 (aUo E) := Is.rf
def S86 : cF := lM (aUo E)
theorem bHH : SQ D86 S86 := lQ bTq
def D87 := cm 87
def aUn (E : bJ) (r0 r1 : DV) (h : H) : aV := vK (aW r0) λ x1 => vK (aI 0 x1) λ x2 => vK (pF 256 2 x2 r1) λ x3 => vK (aI 1 x3) λ x4 => vK (aF h.get x4) λ x5 => vK (nF 120 (.agg [.nilp]) true x5) λ x6 => vK (aG 0 x6) λ x7 => vK (aG 1 x6) λ x8 => dP 1 1 (.list [.nilp]) h λ x9 h10 => wK (bY 1 x9 x7 h10) λ x11 h12 => vK (oE x8) λ x13 => bK x13 (some (.nilp, h12)) (vK (aI 0 x9) λ x14 => vK (aF h12.get x14) λ x15 => some (x15, h12))
theorem bTp : lP E D87 (aUn E) := Is.rf
def S87 : cF := lM (aUn E)
theorem bHG : SQ D87 S87 := lQ bTp
def D88 := cm 88
def bVQ := cr (cr (cr (cr D88.body)))
def bVP := cl (cr (cl (cr (cr (cr D88.body)))))
def bAS (E : bJ) (r3 : DV) (h : H) : aV := some (r3, h)
def aPg (r11 r12 : DV) (i2 : DV → DV → H → aV) (r3 r13 : DV) (h : H) : aV := vK (dA r13 r12) λ x1 => bK x1 (vK (cD 2 r11 r13) λ x2 => vK (aM 2 h.get x2) λ x3 => dP 2 2 (.list [(.str []), (ii 0)]) h λ x4 h5 => wK (bY 2 x4 x3 h5) λ x6 h7 => vK (aI 0 x4) λ x8 => vK (aF h7.get x8) λ x9 => fG 1 1 [(.str [])] [(0, 1, x9)] h7 λ x10 h11 => wK (cE 1 16 r3 x10 h11) λ x12 h13 => vK (bN r13 (ii 1)) λ x14 => i2 x12 x14 h13) (bAS E r3 h)
def aIN (r11 r12 : DV) (n : Nat) : DV → DV → H → aV := Nat.rec (motive := λ _ => DV → DV → H → aV) (λ _ _ _ => none) (λ _ i => aPg E r11 r12 i) n
def aUm (r0 : DV) (h : H) : aV := vK (eM .ptr false h.get r0 .nilp) λ x1 => bK x1 (some (.nils, h)) (vK (aW r0) λ x2 => vK (aI 0 x2) λ x3 => vK (aF h.get x3) λ x4 => vK (cA x4) λ x5 => aIN E x4 x5 aQ .nils (ii 0) h)
theorem bTn : Is E bVQ (bX D88.res) (λ σ h => bAS E (σ p3) h) := Is.rf
abbrev bSR : iY (DV × H) := (cP (λ σ h => bAS E (σ p3) h) (bX D88.res))
theorem bTm : Is E bVP (bV 0 (bSR E)) (λ σ h => aIN E (σ p11) (σ p12) aQ (σ p3) (σ p13) h) := Is.lp (λ n2 σ h => aIN E (σ p11) (σ p12) n2 (σ p3) (σ p13) h) λ n2 => Is.aq (Is.leaf _)
theorem bTo : oT E D88 (aUm E) := Is.aq (Is.sq (Is.sq (Is.sq (Is.sq (bTn E) (Is.sq (Is.bk (bTm E)) (Is.leaf _))) (Is.leaf _)) (Is.leaf _)) (Is.leaf _))
def S88 : cF := nY (aUm E)
theorem bHF : SQ D88 S88 := oZ bTo
def D90 := cm 90
def aUl (r0 r1 r2 r3 : DV) (h : H) : aV := dV r0 h λ x1 h2 => dP 2 2 (.list [.nils, (ii 0)]) h2 λ x3 h4 => vK (dA r2 (ii 0)) λ x5 => bK x5 (vK (aM 2 h4.get x1) λ x6 => wK (bY 2 x3 x6 h4) λ x7 h8 => vK (aM 2 h8.get x3) λ x9 => some ((.tup [x9, (ii 1)]), h8)) (vK (cJ r3) λ x10 => vK (eI x10 (ii 16384)) λ x11 => bR x11 false (λ kk => kk r2 h4) h4 λ x12 h13 => bR x11 false (λ kk => kk r3 h13) h13 λ x14 h15 => bR x11 false (λ kk => vK (cJ x14) λ v => kk v h15) h15 λ x16 h17 => bR x11 false (λ kk => vK (fM (ii 16384) x16) λ v => kk v h17) h17 λ x18 h19 => bR x11 false (λ kk => vK (eI x12 x18) λ v => kk v h19) h19 λ x20 h21 => vK (bE x11 (.bool true) x20) λ x22 => bK x22 (vK (aM 2 h21.get x1) λ x23 => wK (bY 2 x3 x23 h21) λ x24 h25 => vK (aM 2 h25.get x3) λ x26 => some ((.tup [x26, (ii 2)]), h25)) (vK (cG r3 (.str [])) λ x27 => bK x27 (vK (aM 2 h21.get x1) λ x28 => wK (bY 2 x3 x28 h21) λ x29 h30 => vK (aM 2 h30.get x3) λ x31 => some ((.tup [x31, (ii 0)]), h30)) (vK (aI 0 x1) λ x32 => vK (aF h21.get x32) λ x33 => vK (cD 5 x33 r1) λ x34 => vK (aI 3 x34) λ x35 => vK (aF h21.get x35) λ x36 => wK (aE E 139 [x36, r2, r3] h21) λ x37 h38 => vK (aG 0 x37) λ x39 => vK (aG 1 x37) λ x40 => vK (aM 2 h38.get x1) λ x41 => wK (aE E 132 [x41, r1, x39] h38) λ x42 h43 => vK (aG 0 x42) λ x44 => vK (aG 1 x42) λ x45 => wK (bY 2 x3 x44 h43) λ x46 h47 => vK (aM 2 h47.get x3) λ x48 => some ((.tup [x48, x45]), h47))))
theorem bTl : iB4 E D90 (aUl E) := Is.rf
def S90 : cF := fA4 (aUl E)
theorem bHE : SQ D90 S90 := eB4 bTl
def D92 := cm 92
def aUk (r0 r1 r2 r3 : DV) (h : H) : aV := vK (dA r2 (ii 0)) λ x1 => bK x1 (some ((ii 1), h)) (vK (cJ r3) λ x2 => vK (eI x2 (ii 16384)) λ x3 => bR x3 false (λ kk => kk r2 h) h λ x4 h5 => bR x3 false (λ kk => kk r3 h5) h5 λ x6 h7 => bR x3 false (λ kk => vK (cJ x6) λ v => kk v h7) h7 λ x8 h9 => bR x3 false (λ kk => vK (fM (ii 16384) x8) λ v => kk v h9) h9 λ x10 h11 => bR x3 false (λ kk => vK (eI x4 x10) λ v => kk v h11) h11 λ x12 h13 => vK (bE x3 (.bool true) x12) λ x14 => bK x14 (some ((ii 2), h13)) (vK (cG r3 (.str [])) λ x15 => bK x15 (some ((ii 0), h13)) (vK (aW r1) λ x16 => vK (aI 0 x16) λ x17 => vK (aF h13.get x17) λ x18 => wK (aE E 140 [x18, r2, r3] h13) λ x19 h20 => vK (aG 0 x19) λ x21 => vK (aG 1 x19) λ x22 => wK (aE E 102 [r0, r1, x21] h20) λ x23 h24 => some (x23, h24))))
theorem bTk : iB4 E D92 (aUk E) := Is.rf
def S92 : cF := fA4 (aUk E)
theorem bHD : SQ D92 S92 := eB4 bTk
def D93 := cm 93
def aUj (E : bJ) (r0 r1 r2 r3 : DV) (h : H) : aV := dV r0 h λ x1 h2 => vK (dA r2 (ii 0)) λ x3 => bR x3 false (λ kk => kk r3 h2) h2 λ x4 h5 => bR x3 false (λ kk => vK (dA x4 (ii 0)) λ v => kk v h5) h5 λ x6 h7 => vK (bE x3 (.bool true) x6) λ x8 => bK x8 (some ((.tup [(.str []), (ii 1)]), h7)) (vK (aI 0 x1) λ x9 => vK (aF h7.get x9) λ x10 => vK (cD 5 x10 r1) λ x11 => vK (aI 3 x11) λ x12 => vK (aF h7.get x12) λ x13 => vK (cJ x13) λ x14 => vK (aAP r2 x14) λ x15 => vK (cJ x13) λ x16 => vK (fM x16 x15) λ x17 => vK (aAP r3 x17) λ x18 => vK (bN x15 x18) λ x19 => vK (iE x13 (some x15) (some x19)) λ x20 => some ((.tup [x20, (ii 0)]), h7))
theorem bTj : iB4 E D93 (aUj E) := Is.rf
def S93 : cF := fA4 (aUj E)
theorem bHC : SQ D93 S93 := eB4 bTj
def D94 := cm 94
def aUi (r0 r1 r2 : DV) (h : H) : aV := wK (aE E 95 [r0, r1] h) λ x1 h2 => vK (aG 0 x1) λ x3 => vK (aG 1 x1) λ x4 => dP 2 2 (.list [.nilp, (.str [])]) h2 λ x5 h6 => wK (bY 2 x5 x3 h6) λ x7 h8 => vK (dC x4 (ii 0)) λ x9 => bK x9 (some (x4, h8)) (vK (aM 2 h8.get x5) λ x10 => wK (aE E 99 [x10] h8) λ x11 h12 => bK x11 (some ((ii 6), h12)) (wK (aE E 141 [r0] h12) λ x13 h14 => vK (cG x13 (ii 0)) λ x15 => bK x15 (some ((ii 5), h14)) (vK (aW r0) λ x16 => vK (aI 512 x16) λ x17 => vK (aF h14.get x17) λ x18 => vK (bN x18 (ii 1)) λ x19 => vK (aW r0) λ x20 => vK (aI 512 x20) λ x21 => wK (bY 1 x21 x19 h14) λ x22 h23 => vK (aW r0) λ x24 => vK (aI 512 x24) λ x25 => vK (aF h23.get x25) λ x26 => vK (dO [(ii 0), .nili] [(0, 1, x26), (1, 1, r2)]) λ x27 => vK (aW r0) λ x28 => vK (aI 0 x28) λ x29 => vK (pF 256 2 x29 x13) λ x30 => wK (bY 2 x30 x27 h23) λ x31 h32 => vK (aI 0 x5) λ x33 => vK (aF h32.get x33) λ x34 => vK (aI 1 x5) λ x35 => vK (aF h32.get x35) λ x36 => wK (aE E 100 [x34, x36, x13] h32) λ x37 h38 => some ((ii 0), h38))))
theorem bTi : iB3 E D94 (aUi E) := Is.rf
def S94 : cF := fA3 (aUi E)
theorem bHB : SQ D94 S94 := eB3 bTi
def D95 := cm 95
def aUh (r0 r1 : DV) (h : H) : aV := dP 2 2 (.list [.nilp, (.str [])]) h λ x1 h2 => vK (eM .ptr false h2.get r0 .nilp) λ x3 => bK x3 (vK (dO [.nilp, (.str [])] []) λ x4 => wK (bY 2 x1 x4 h2) λ x5 h6 => vK (aM 2 h6.get x1) λ x7 => some ((.tup [x7, (ii 1)]), h6)) (wK (aE E 137 [r1] h2) λ x8 h9 => vK (aG 0 x8) λ x10 => vK (aG 1 x8) λ x11 => vK (dC x11 (ii 0)) λ x12 => bR x12 false (λ kk => kk x10 h9) h9 λ x13 h14 => bR x12 false (λ kk => vK (cA x13) λ v => kk v h14) h14 λ x15 h16 => bR x12 false (λ kk => vK (cG x15 (ii 0)) λ v => kk v h16) h16 λ x17 h18 => vK (bE x12 (.bool true) x17) λ x19 => bK x19 (vK (dO [.nilp, (.str [])] []) λ x20 => wK (bY 2 x1 x20 h18) λ x21 h22 => vK (aM 2 h22.get x1) λ x23 => some ((.tup [x23, (ii 15)]), h22)) (vK (cA x10) λ x24 => vK (fM x24 (ii 1)) λ x25 => vK (dU 1 x10 none (some x25)) λ x26 => wK (aE E 138 [r0, x26] h18) λ x27 h28 => vK (aG 0 x27) λ x29 => vK (aG 1 x27) λ x30 => vK (dC x30 (ii 0)) λ x31 => bK x31 (vK (dO [.nilp, (.str [])] []) λ x32 => wK (bY 2 x1 x32 h28) λ x33 h34 => vK (aM 2 h34.get x1) λ x35 => some ((.tup [x35, x30]), h34)) (wK (aE E 87 [r0, x29] h28) λ x36 h37 => vK (eM .ptr false h37.get x36 .nilp) λ x38 => bK x38 (vK (dO [.nilp, (.str [])] []) λ x39 => wK (bY 2 x1 x39 h37) λ x40 h41 => vK (aM 2 h41.get x1) λ x42 => some ((.tup [x42, (ii 13)]), h41)) (vK (cD 1 x10 x25) λ x43 => vK (aF h37.get x43) λ x44 => vK (dO [.nilp, (.str [])] [(0, 1, x36), (1, 1, x44)]) λ x45 => wK (bY 2 x1 x45 h37) λ x46 h47 => vK (aM 2 h47.get x1) λ x48 => some ((.tup [x48, (ii 0)]), h47)))))
theorem bTh : lP E D95 (aUh E) := Is.rf
def S95 : cF := lM (aUh E)
theorem bHA : SQ D95 S95 := lQ bTh
def D96 := cm 96
def aUg (r0 r1 : DV) (h : H) : aV := vK (eM .ptr false h.get r0 .nilp) λ x1 => bK x1 (some ((.tup [(ii 0), (ii 1)]), h)) (wK (aE E 142 [r0, r1] h) λ x2 h3 => vK (aG 0 x2) λ x4 => vK (aG 1 x2) λ x5 => vK (oE x5) λ x6 => bK x6 (some ((.tup [(ii 0), (ii 7)]), h3)) (vK (aW r0) λ x7 => vK (aI 0 x7) λ x8 => vK (aF h3.get x8) λ x9 => vK (cD 2 x9 x4) λ x10 => vK (aI 1 x10) λ x11 => vK (aF h3.get x11) λ x12 => vK (aW r0) λ x13 => vK (aI 0 x13) λ x14 => vK (aF h3.get x14) λ x15 => vK (bN x4 (ii 1)) λ x16 => wK (aE E 143 [x15, x4, x16] h3) λ x17 h18 => vK (aW r0) λ x19 => vK (aI 0 x19) λ x20 => wK (bY 1 x20 x17 h18) λ x21 h22 => some ((.tup [x12, (ii 0)]), h22)))
theorem bTg : lP E D96 (aUg E) := Is.rf
def S96 : cF := lM (aUg E)
theorem bHz : SQ D96 S96 := lQ bTg
def D97 := cm 97
def aUf (E : bJ) (r0 : DV) (h : H) : aV := vK (eM .ptr false h.get r0 .nilp) λ x1 => bK x1 (some ((ii 0), h)) (vK (aW r0) λ x2 => vK (aI 0 x2) λ x3 => vK (aF h.get x3) λ x4 => vK (cA x4) λ x5 => some (x5, h))
theorem bTf : oT E D97 (aUf E) := Is.rf
def S97 : cF := nY (aUf E)
theorem bHy : SQ D97 S97 := oZ bTf
def D98 := cm 98
def aUe (r0 r1 : DV) (h : H) : aV := wK (aE E 137 [r0] h) λ x1 h2 => vK (aG 0 x1) λ x3 => vK (aG 1 x1) λ x4 => wK (aE E 137 [r1] h2) λ x5 h6 => vK (aG 0 x5) λ x7 => vK (aG 1 x5) λ x8 => vK (cG x4 (ii 0)) λ x9 => bR x9 true (λ kk => kk x8 h6) h6 λ x10 h11 => bR x9 true (λ kk => vK (cG x10 (ii 0)) λ v => kk v h11) h11 λ x12 h13 => vK (bE x9 x12 (.bool false)) λ x14 => bR x14 true (λ kk => kk x7 h13) h13 λ x15 h16 => bR x14 true (λ kk => vK (cA x15) λ v => kk v h16) h16 λ x17 h18 => bR x14 true (λ kk => kk x3 h18) h18 λ x19 h20 => bR x14 true (λ kk => vK (cA x19) λ v => kk v h20) h20 λ x21 h22 => bR x14 true (λ kk => vK (eI x17 x21) λ v => kk v h22) h22 λ x23 h24 => vK (bE x14 x23 (.bool false)) λ x25 => bR x25 true (λ kk => kk x3 h24) h24 λ x26 h27 => bR x25 true (λ kk => kk x7 h27) h27 λ x28 h29 => bR x25 true (λ kk => kk x3 h29) h29 λ x30 h31 => bR x25 true (λ kk => vK (cA x30) λ v => kk v h31) h31 λ x32 h33 => bR x25 true (λ kk => vK (dU 1 x28 none (some x32)) λ v => kk v h33) h33 λ x34 h35 => bR x25 true (λ kk => wK (aE E 144 [x26, x34] h35) kk) h35 λ x36 h37 => vK (bE x25 x36 (.bool false)) λ x38 => some (x38, h37)
theorem bTe : lP E D98 (aUe E) := Is.rf
def S98 : cF := lM (aUe E)
theorem bHx : SQ D98 S98 := lQ bTe
def D99 := cm 99
def aUd (r0 : DV) (h : H) : aV := dV r0 h λ x1 h2 => vK (aI 0 x1) λ x3 => vK (aF h2.get x3) λ x4 => vK (aI 1 x1) λ x5 => vK (aF h2.get x5) λ x6 => wK (aE E 145 [x4, x6] h2) λ x7 h8 => vK (aG 0 x7) λ x9 => vK (aG 1 x7) λ x10 => vK (cG x10 (ii 0)) λ x11 => some (x11, h8)
theorem bTd : oT E D99 (aUd E) := Is.rf
def S99 : cF := nY (aUd E)
theorem bHw : SQ D99 S99 := oZ bTd
def bOd := cm 100
def aLR (r0 r1 r2 : DV) (h : H) : aV := vK (eM .ptr false h.get r0 .nilp) λ x1 => bR x1 false (λ kk => kk r2 h) h λ x2 h3 => bR x1 false (λ kk => vK (dA x2 (ii 1)) λ v => kk v h3) h3 λ x4 h5 => vK (bE x1 (.bool true) x4) λ x6 => bR x6 false (λ kk => kk r2 h5) h5 λ x7 h8 => bR x6 false (λ kk => vK (oG x7 (ii 256)) λ v => kk v h8) h8 λ x9 h10 => vK (bE x6 (.bool true) x9) λ x11 => bK x11 (some ((ii 1), h10)) (wK (aE E 146 [r1] h10) λ x12 h13 => vK (oE x12) λ x14 => bK x14 (some ((ii 15), h13)) (wK (aE E 142 [r0, r1] h13) λ x15 h16 => vK (aG 0 x15) λ x17 => vK (aG 1 x15) λ x18 => bK x18 (some ((ii 6), h16)) (vK (aW r0) λ x19 => vK (aI 0 x19) λ x20 => vK (aF h16.get x20) λ x21 => vK (dO [(.str []), (ii 0)] [(0, 1, r1), (1, 1, r2)]) λ x22 => fG 1 2 [(.str []), (ii 0)] [(0, 2, x22)] h16 λ x23 h24 => wK (aE E 147 [x21, x17, x23] h24) λ x25 h26 => vK (aW r0) λ x27 => vK (aI 0 x27) λ x28 => wK (bY 1 x28 x25 h26) λ x29 h30 => some ((ii 0), h30))))
theorem bMG : iB3 E bOd (aLR E) := Is.rf
def bAF : cF := fA3 (aLR E)
theorem bET : SQ bOd bAF := eB3 bMG
def bOc := cm 101
def aDm (r0 r1 : DV) (h : H) : aV := vK (dA r1 (ii 0)) λ x1 => bR x1 false (λ kk => kk r1 h) h λ x2 h3 => bR x1 false (λ kk => vK (eI x2 (ii 65536)) λ v => kk v h3) h3 λ x4 h5 => vK (bE x1 (.bool true) x4) λ x6 => bK x6 (some ((.tup [(.str []), (ii 1)]), h5)) (vK (cJ r0) λ x7 => vK (eI x7 r1) λ x8 => bK x8 (some ((.tup [(.str []), (ii 2)]), h5)) (vK (cJ r0) λ x9 => vK (fM r1 x9) λ x10 => wK (aE E 148 [x10] h5) λ x11 h12 => vK (bN r0 x11) λ x13 => some ((.tup [x13, (ii 0)]), h12)))
theorem bMF : lP E bOc (aDm E) := Is.rf
def aXe : cF := lM (aDm E)
theorem bES : SQ bOc aXe := lQ bMF
def bOb := cm 102
def aLQ (E : bJ) (r0 r1 r2 : DV) (h : H) : aV := vK (aW r0) λ x1 => vK (aI 513 x1) λ x2 => vK (aF h.get x2) λ x3 => vK (aW r1) λ x4 => vK (aI 0 x4) λ x5 => vK (aF h.get x5) λ x6 => vK (cJ x6) λ x7 => vK (fM x3 x7) λ x8 => vK (cJ r2) λ x9 => vK (bN x8 x9) λ x10 => vK (eI x10 (ii 65536)) λ x11 => bK x11 (some ((ii 5), h)) (vK (aW r0) λ x12 => vK (aI 513 x12) λ x13 => vK (aF h.get x13) λ x14 => vK (cJ r2) λ x15 => vK (aW r1) λ x16 => vK (aI 0 x16) λ x17 => vK (aF h.get x17) λ x18 => vK (cJ x18) λ x19 => vK (fM x15 x19) λ x20 => vK (bN x14 x20) λ x21 => vK (aW r0) λ x22 => vK (aI 513 x22) λ x23 => wK (bY 1 x23 x21 h) λ x24 h25 => vK (aW r1) λ x26 => vK (aI 0 x26) λ x27 => wK (bY 1 x27 r2 h25) λ x28 h29 => some ((ii 0), h29))
theorem bME : iB3 E bOb (aLQ E) := Is.rf
def bAE : cF := fA3 (aLQ E)
theorem bER : SQ bOb bAE := eB3 bME
def bOa := cm 103
def aLP (r0 r1 : DV) (h : H) : aV := vK (eM .ptr false h.get r0 .nilp) λ x1 => bR x1 false (λ kk => kk r0 h) h λ x2 h3 => bR x1 false (λ kk => vK (aW x2) λ v => kk v h3) h3 λ x4 h5 => bR x1 false (λ kk => vK (aI 2 x4) λ v => kk v h5) h5 λ x6 h7 => bR x1 false (λ kk => vK (aF h7.get x6) λ v => kk v h7) h7 λ x8 h9 => bR x1 false (λ kk => vK (dC x8 (ii 0)) λ v => kk v h9) h9 λ x10 h11 => vK (bE x1 (.bool true) x10) λ x12 => bK x12 (some ((.tup []), h11)) (vK (aW r0) λ x13 => vK (aI 1 x13) λ x14 => vK (aF h11.get x14) λ x15 => vK (aW r0) λ x16 => vK (aI 1 x16) λ x17 => vK (aF h11.get x17) λ x18 => vK (cA x18) λ x19 => vK (aW r0) λ x20 => vK (aI 1 x20) λ x21 => vK (aF h11.get x21) λ x22 => vK (cA x22) λ x23 => vK (zL 1 x15 none x19 x23) λ x24 => wK (kZ E r1 [x24] h11) λ x25 h26 => vK (cA x25) λ x27 => vK (aW r0) λ x28 => vK (aI 0 x28) λ x29 => vK (aF h26.get x29) λ x30 => vK (eI x27 x30) λ x31 => bK x31 (vK (aW r0) λ x32 => vK (aI 2 x32) λ x33 => wK (bY 1 x33 (ii 2) h26) λ x34 h35 => some ((.tup []), h35)) (vK (aW r0) λ x36 => vK (aI 1 x36) λ x37 => wK (bY 1 x37 x25 h26) λ x38 h39 => some ((.tup []), h39)))
theorem bMD : lP E bOa (aLP E) := Is.rf
def aOP : cF := lM (aLP E)
theorem bEQ : SQ bOa aOP := lQ bMD
def bNZ := cm 104
def aLO (E : bJ) (r0 r1 : DV) (h : H) : aV := vK (aF h.get r1) λ x1 => vK (fH .u8 x1) λ x2 => fG 1 1 [(.int .u8 (.ofNat 0))] [(0, 1, x2)] h λ x3 h4 => wK (cE 1 1 r0 x3 h4) λ x5 h6 => some (x5, h6)
theorem bMC : lP E bNZ (aLO E) := Is.rf
def bEP : cF := lM (aLO E)
theorem bEO : SQ bNZ bEP := lQ bMC
def bNY := cm 105
def aLN (r0 r1 : DV) (h : H) : aV := vK (aF h.get r1) λ x1 => wK (aE E 106 [r0, x1] h) λ x2 h3 => some (x2, h3)
theorem bMB : lP E bNY (aLN E) := Is.rf
def bEN : cF := lM (aLN E)
theorem bEM : SQ bNY bEN := lQ bMB
def aSw := cm 106
def bPq := cr (cr (cr aSw.body))
def bPp := cl (cl (cr (cr aSw.body)))
def aGp (E : bJ) (r0 r5 : DV) (h : H) : aV := vK (fH .u8 r5) λ x1 => fG 1 1 [(.int .u8 (.ofNat 0))] [(0, 1, x1)] h λ x2 h3 => wK (cE 1 1 r0 x2 h3) λ x4 h5 => some (x4, h5)
def aGT (i2 : DV → DV → H → aV) (r0 r5 : DV) (h : H) : aV := vK (oG r5 (.int .u64 (.ofNat 128))) λ x1 => bK x1 (vK (fH .u8 r5) λ x2 => vK (aPE x2 (.int .u8 (.ofNat 128))) λ x3 => fG 1 1 [(.int .u8 (.ofNat 0))] [(0, 1, x3)] h λ x4 h5 => wK (cE 1 1 r0 x4 h5) λ x6 h7 => vK (vO r5 (.int .u64 (.ofNat 7))) λ x8 => i2 x6 x8 h7) (aGp E r0 r5 h)
def aDg (n : Nat) : DV → DV → H → aV := Nat.rec (motive := λ _ => DV → DV → H → aV) (λ _ _ _ => none) (λ _ i => aGT E i) n
def aDl (r0 r1 : DV) (h : H) : aV := vK (fH .u64 r1) λ x1 => vK (aEC x1 (.int .u64 (.ofNat 1))) λ x2 => vK (vO r1 (.int .u64 (.ofNat 63))) λ x3 => vK (fH .u64 x3) λ x4 => vK (aDr x2 x4) λ x5 => aDg E aQ r0 x5 h
theorem bMz : Is E bPq (bX aSw.res) (λ σ h => aGp E (σ p0) (σ p5) h) := Is.rf
abbrev bJD : iY (DV × H) := (cP (λ σ h => aGp E (σ p0) (σ p5) h) (bX aSw.res))
theorem bMy : Is E bPp (bV 0 (bJD E)) (λ σ h => aDg E aQ (σ p0) (σ p5) h) := Is.lp (λ n2 σ h => aDg E n2 (σ p0) (σ p5) h) λ n2 => Is.aq (Is.leaf _)
theorem bMA : lP E aSw (aDl E) := Is.aq (Is.sq (Is.sq (Is.sq (bMz E) (Is.bk (bMy E))) (Is.leaf _)) (Is.leaf _))
def aRw : cF := lM (aDl E)
theorem bEL : SQ aSw aRw := lQ bMA
def bNX := cm 107
def aLM (r0 r1 : DV) (h : H) : aV := vK (aF h.get r1) λ x1 => wK (aE E 108 [r0, x1] h) λ x2 h3 => some (x2, h3)
theorem bMx : lP E bNX (aLM E) := Is.rf
def bEK : cF := lM (aLM E)
theorem bEJ : SQ bNX bEK := lQ bMx
def bNW := cm 108
def aDk (r0 r1 : DV) (h : H) : aV := vK (cJ r1) λ x1 => wK (aE E 106 [r0, x1] h) λ x2 h3 => wK (cE 1 1 x2 r1 h3) λ x4 h5 => some (x4, h5)
theorem bMw : lP E bNW (aDk E) := Is.rf
def aRv : cF := lM (aDk E)
theorem bEI : SQ bNW aRv := lQ bMw
def bNV := cm 109
def aLL (r0 r1 : DV) (h : H) : aV := vK (eM .ptr false h.get r0 .nilp) λ x1 => bR x1 false (λ kk => kk r0 h) h λ x2 h3 => bR x1 false (λ kk => vK (aW x2) λ v => kk v h3) h3 λ x4 h5 => bR x1 false (λ kk => vK (aI 1 x4) λ v => kk v h5) h5 λ x6 h7 => bR x1 false (λ kk => vK (aF h7.get x6) λ v => kk v h7) h7 λ x8 h9 => vK (bE x1 (.bool true) x8) λ x10 => bR x10 false (λ kk => kk r1 h9) h9 λ x11 h12 => bR x10 false (λ kk => vK (dA x11 (ii 0)) λ v => kk v h12) h12 λ x13 h14 => vK (bE x10 (.bool true) x13) λ x15 => bR x15 false (λ kk => kk r1 h14) h14 λ x16 h17 => bR x15 false (λ kk => kk r0 h17) h17 λ x18 h19 => bR x15 false (λ kk => vK (aW x18) λ v => kk v h19) h19 λ x20 h21 => bR x15 false (λ kk => vK (aI 0 x20) λ v => kk v h21) h21 λ x22 h23 => bR x15 false (λ kk => vK (aF h23.get x22) λ v => kk v h23) h23 λ x24 h25 => bR x15 false (λ kk => vK (cJ x24) λ v => kk v h25) h25 λ x26 h27 => bR x15 false (λ kk => vK (eI x16 x26) λ v => kk v h27) h27 λ x28 h29 => vK (bE x15 (.bool true) x28) λ x30 => bK x30 (wK (aE E 111 [r0] h29) λ x31 h32 => some ((.tup [(.str []), (.bool false)]), h32)) (vK (aW r0) λ x33 => vK (aI 0 x33) λ x34 => vK (aF h29.get x34) λ x35 => vK (iE x35 none (some r1)) λ x36 => vK (aW r0) λ x37 => vK (aI 0 x37) λ x38 => vK (aF h29.get x38) λ x39 => vK (iE x39 (some r1) none) λ x40 => vK (aW r0) λ x41 => vK (aI 0 x41) λ x42 => wK (bY 1 x42 x40 h29) λ x43 h44 => some ((.tup [x36, (.bool true)]), h44))
theorem bMv : lP E bNV (aLL E) := Is.rf
def bAD : cF := lM (aLL E)
theorem bEH : SQ bNV bAD := lQ bMv
def aSv := cm 110
def bPo := cr (cr (cr aSv.body))
def bPn := cl (cr (cl (cr (cr aSv.body))))
def aGo (E : bJ) (h : H) : aV := some ((.tup [(.int .u64 (.ofNat 0)), (ii 0)]), h)
def aGS (r0 r9 : DV) (i2 : DV → DV → H → aV) (r4 r10 : DV) (h : H) : aV := vK (dA r10 r9) λ x1 => bK x1 (vK (gY r0 r10) λ x2 => vK (fH .u64 x2) λ x3 => vK (aAQ x3 (.int .u64 (.ofNat 127))) λ x4 => vK (zM (ii 7) r10) λ x5 => vK (aEC x4 x5) λ x6 => vK (aPE r4 x6) λ x7 => vK (oG x3 (.int .u64 (.ofNat 128))) λ x8 => bK x8 (vK (bN r10 (ii 1)) λ x9 => i2 x7 x9 h) (vK (eI r10 (ii 0)) λ x10 => bR x10 true (λ kk => kk x3 h) h λ x11 h12 => bR x10 true (λ kk => vK (cG x11 (.int .u64 (.ofNat 0))) λ v => kk v h12) h12 λ x13 h14 => vK (bE x10 x13 (.bool false)) λ x15 => bR x15 false (λ kk => kk r10 h14) h14 λ x16 h17 => bR x15 false (λ kk => vK (cG x16 (ii 9)) λ v => kk v h17) h17 λ x18 h19 => bR x15 false (λ kk => kk x18 h19) h19 λ x20 h21 => bR x20 true (λ kk => kk x3 h21) h21 λ x22 h23 => bR x20 true (λ kk => vK (eI x22 (.int .u64 (.ofNat 1))) λ v => kk v h23) h23 λ x24 h25 => bR x15 false (λ kk => vK (bE x20 x24 (.bool false)) λ v => kk v h25) h25 λ x26 h27 => vK (bE x15 (.bool true) x26) λ x28 => bK x28 (some ((.tup [(.int .u64 (.ofNat 0)), (ii 0)]), h27)) (vK (bN r10 (ii 1)) λ x29 => some ((.tup [x7, x29]), h27)))) (aGo E h)
def aDf (r0 r9 : DV) (n : Nat) : DV → DV → H → aV := Nat.rec (motive := λ _ => DV → DV → H → aV) (λ _ _ _ => none) (λ _ i => aGS E r0 r9 i) n
def aLK (r0 : DV) (h : H) : aV := vK (cJ r0) λ x1 => vK (aAP x1 (ii 10)) λ x2 => aDf E r0 x2 aQ (.int .u64 (.ofNat 0)) (ii 0) h
theorem bMt : Is E bPo (bX aSv.res) (λ σ h => aGo E h) := Is.rf
abbrev bJC : iY (DV × H) := (bV 0 (cP (λ σ h => aGo E h) (bX aSv.res)))
theorem bMs : Is E bPn (bJC E) (λ σ h => aDf E (σ p0) (σ p9) aQ (σ p4) (σ p10) h) := Is.lp (λ n2 σ h => aDf E (σ p0) (σ p9) n2 (σ p4) (σ p10) h) λ n2 => Is.aq (Is.leaf _)
theorem bMu : oT E aSv (aLK E) := Is.aq (Is.sq (Is.sq (Is.sq (bMt E) (Is.sq (Is.bk (bMs E)) (Is.leaf _))) (Is.leaf _)) (Is.leaf _))
def bAC : cF := nY (aLK E)
theorem bEG : SQ aSv bAC := oZ bMu
def bNU := cm 111
def aLJ (E : bJ) (r0 : DV) (h : H) : aV := vK (eM .ptr true h.get r0 .nilp) λ x1 => bK x1 (vK (aW r0) λ x2 => vK (aI 0 x2) λ x3 => wK (bY 1 x3 (.str []) h) λ x4 h5 => vK (aW r0) λ x6 => vK (aI 1 x6) λ x7 => wK (bY 1 x7 (.bool true) h5) λ x8 h9 => some ((.tup []), h9)) (some ((.tup []), h))
theorem bMr : oT E bNU (aLJ E) := Is.rf
def bAB : cF := nY (aLJ E)
theorem bEF : SQ bNU bAB := oZ bMr
def bNT := cm 113
def aLI (r0 r1 : DV) (h : H) : aV := vK (aF h.get r0) λ x1 => vK (aI 3 r1) λ x2 => vK (aF h.get x2) λ x3 => vK (aI 1 r1) λ x4 => vK (aF h.get x4) λ x5 => vK (aI 5 r1) λ x6 => vK (aF h.get x6) λ x7 => wK (aE E 46 [x1, x3, x5, x7] h) λ x8 h9 => some (x8, h9)
theorem bMq : lP E bNT (aLI E) := Is.rf
def bAA : cF := lM (aLI E)
theorem bEE : SQ bNT bAA := lQ bMq
def bNS := cm 114
def aLH (r0 r1 : DV) (h : H) : aV := vK (aF h.get r0) λ x1 => vK (aI 3 r1) λ x2 => vK (aF h.get x2) λ x3 => vK (aI 2 r1) λ x4 => vK (aF h.get x4) λ x5 => wK (aE E 47 [x1, x3, x5] h) λ x6 h7 => some (x6, h7)
theorem bMp : lP E bNS (aLH E) := Is.rf
def bAz : cF := lM (aLH E)
theorem bED : SQ bNS bAz := lQ bMp
def bNR := cm 115
def aLG (r0 r1 : DV) (h : H) : aV := vK (aF h.get r0) λ x1 => vK (aI 3 r1) λ x2 => vK (aF h.get x2) λ x3 => vK (aI 1 r1) λ x4 => vK (aF h.get x4) λ x5 => vK (aI 2 r1) λ x6 => vK (aF h.get x6) λ x7 => wK (aE E 33 [x1, x3, x5, x7] h) λ x8 h9 => vK (aG 0 x8) λ x10 => vK (aG 1 x8) λ x11 => some ((.tup [x11, x10]), h9)
theorem bMo : lP E bNR (aLG E) := Is.rf
def bAy : cF := lM (aLG E)
theorem bEC : SQ bNR bAy := lQ bMo
def bNQ := cm 116
def aLF (r0 r1 : DV) (h : H) : aV := vK (aF h.get r0) λ x1 => vK (aI 3 r1) λ x2 => vK (aF h.get x2) λ x3 => wK (aE E 117 [x1, x3] h) λ x4 h5 => vK (aG 0 x4) λ x6 => vK (aG 1 x4) λ x7 => some ((.tup [x6, x7]), h5)
theorem bMn : lP E bNQ (aLF E) := Is.rf
def bAx : cF := lM (aLF E)
theorem bEB : SQ bNQ bAx := lQ bMn
def aSu := cm 117
def bPm := cr (cr (cr (cr (cr aSu.body))))
def bPl := cl (cr (cl (cr (cr (cr (cr aSu.body))))))
def aLD (r8 : DV) (h : H) : aV := wK (aE E 52 [r8] h) λ x1 h2 => vK (aG 0 x1) λ x3 => vK (aG 1 x1) λ x4 => some ((.tup [(ii 0), x3]), h2)
def aGR (r8 r33 r34 : DV) (i2 : DV → H → aV) (r35 : DV) (h : H) : aV := vK (dA r35 r34) λ x1 => bK x1 (vK (cD 1 r33 r35) λ x2 => vK (aF h.get x2) λ x3 => wK (aE E 50 [r8, x3] h) λ x4 h5 => vK (bN r35 (ii 1)) λ x6 => i2 x6 h5) (aLD E r8 h)
def aDe (r8 r33 r34 : DV) (n : Nat) : DV → H → aV := Nat.rec (motive := λ _ => DV → H → aV) (λ _ _ => none) (λ _ i => aGR E r8 r33 r34 i) n
def aLE (r0 r1 : DV) (h : H) : aV := wK (aE E 34 [r0, r1] h) λ x1 h2 => vK (aG 0 x1) λ x3 => vK (aG 1 x1) λ x4 => dP 5 5 (.list [(ii 0), (ii 0), (ii 0), (ii 0), (ii 0)]) h2 λ x5 h6 => wK (bY 5 x5 x3 h6) λ x7 h8 => vK (dC x4 (ii 0)) λ x9 => bK x9 (some ((.tup [x4, (.str [])]), h8)) (wK (aE E 48 [(ii 65536)] h8) λ x10 h11 => vK (aI 0 x5) λ x12 => vK (aF h11.get x12) λ x13 => vK (aI 1 x5) λ x14 => vK (aF h11.get x14) λ x15 => vK (aI 2 x5) λ x16 => vK (aF h11.get x16) λ x17 => vK (aI 3 x5) λ x18 => vK (aF h11.get x18) λ x19 => vK (aI 4 x5) λ x20 => vK (aF h11.get x20) λ x21 => fG 5 1 [(ii 0)] [(0, 1, x13), (1, 1, x15), (2, 1, x17), (3, 1, x19), (4, 1, x21)] h11 λ x22 h23 => vK (cA x22) λ x24 => aDe E x10 x22 x24 aQ (ii 0) h23)
theorem bMl : Is E bPm (bX aSu.res) (λ σ h => aLD E (σ p8) h) := Is.rf
abbrev bJB : iY (DV × H) := (cP (λ σ h => aLD E (σ p8) h) (bX aSu.res))
theorem bMk : Is E bPl (bV 0 (bJB E)) (λ σ h => aDe E (σ p8) (σ p33) (σ p34) aQ (σ p35) h) := Is.lp (λ n2 σ h => aDe E (σ p8) (σ p33) (σ p34) n2 (σ p35) h) λ n2 => Is.aq (Is.leaf _)
theorem bMm : lP E aSu (aLE E) := Is.aq (Is.sq (Is.sq (Is.sq (Is.sq (Is.sq (bMl E) (Is.sq (Is.bk (bMk E)) (Is.leaf _))) (Is.leaf _)) (Is.leaf _)) (Is.leaf _)) (Is.leaf _))
def bAw : cF := lM (aLE E)
theorem bEA : SQ aSu bAw := lQ bMm
def bNP := cm 118
def aLC (r0 r1 : DV) (h : H) : aV := vK (aF h.get r0) λ x1 => vK (aI 3 r1) λ x2 => vK (aF h.get x2) λ x3 => wK (aE E 119 [x1, x3] h) λ x4 h5 => vK (aG 0 x4) λ x6 => vK (aG 1 x4) λ x7 => some ((.tup [x6, x7]), h5)
theorem bMj : lP E bNP (aLC E) := Is.rf
def bAv : cF := lM (aLC E)
theorem bEz : SQ bNP bAv := lQ bMj
def bNO := cm 119
def aLB (r0 r1 : DV) (h : H) : aV := wK (aE E 35 [r0, r1] h) λ x1 h2 => vK (aG 0 x1) λ x3 => vK (aG 1 x1) λ x4 => vK (dC x4 (ii 0)) λ x5 => bK x5 (some ((.tup [x4, (.str [])]), h2)) (wK (aE E 48 [(ii 65536)] h2) λ x6 h7 => wK (aE E 149 [x6, x3] h7) λ x8 h9 => wK (aE E 52 [x6] h9) λ x10 h11 => vK (aG 0 x10) λ x12 => vK (aG 1 x10) λ x13 => some ((.tup [(ii 0), x12]), h11))
theorem bMi : lP E bNO (aLB E) := Is.rf
def bAu : cF := lM (aLB E)
theorem bEy : SQ bNO bAu := lQ bMi
def bNN := cm 120
def aLA (r0 r1 : DV) (h : H) : aV := dV r0 h λ x1 h2 => wK (aE E 150 [r1] h2) λ x3 h4 => vK (aG 0 x3) λ x5 => vK (aG 1 x3) λ x6 => vK (aG 2 x3) λ x7 => vK (dC x7 (ii 0)) λ x8 => bK x8 (some ((.tup [(ii 0), (.str []), x7]), h4)) (vK (aM 2 h4.get x1) λ x9 => wK (aE E 124 [x9, x5] h4) λ x10 h11 => vK (aG 0 x10) λ x12 => vK (aG 1 x10) λ x13 => vK (dC x13 (ii 0)) λ x14 => bK x14 (some ((.tup [(ii 0), (.str []), x13]), h11)) (vK (aI 0 x1) λ x15 => vK (aF h11.get x15) λ x16 => vK (cD 5 x16 x12) λ x17 => vK (aI 2 x17) λ x18 => vK (aF h11.get x18) λ x19 => vK (cG x19 (ii 1)) λ x20 => bK x20 (some ((.tup [(ii 0), (.str []), (ii 13)]), h11)) (some ((.tup [x12, x6, (ii 0)]), h11))))
theorem bMh : lP E bNN (aLA E) := Is.rf
def bAt : cF := lM (aLA E)
theorem bEx : SQ bNN bAt := lQ bMh
def bNM := cm 121
def aLz (r0 r1 r2 : DV) (h : H) : aV := dV r0 h λ x1 h2 => vK (aI 0 x1) λ x3 => vK (aF h2.get x3) λ x4 => vK (cD 5 x4 r1) λ x5 => vK (aI 4 x5) λ x6 => vK (aF h2.get x6) λ x7 => wK (aE E 151 [x7, r2] h2) λ x8 h9 => vK (aG 0 x8) λ x10 => vK (aG 1 x8) λ x11 => vK (cG x11 (ii 0)) λ x12 => some (x12, h9)
theorem bMg : iB3 E bNM (aLz E) := Is.rf
def bAs : cF := fA3 (aLz E)
theorem bEw : SQ bNM bAs := eB3 bMg
def aSt := cm 122
def bPk := cr (cr aSt.body)
def bPj := cl (cr (cl (cr aSt.body)))
def aLx (E : bJ) (h : H) : aV := some ((.int .i64 (.negSucc 0)), h)
def aGQ (r1 r2 : DV) (i2 : DV → H → aV) (r5 : DV) (h : H) : aV := vK (aI 0 r2) λ x1 => vK (aF h.get x1) λ x2 => vK (cA x2) λ x3 => vK (dA r5 x3) λ x4 => bK x4 (vK (aI 0 r2) λ x5 => vK (aF h.get x5) λ x6 => vK (cD 5 x6 r5) λ x7 => vK (aI 0 x7) λ x8 => vK (aF h.get x8) λ x9 => vK (cG x9 r1) λ x10 => bK x10 (some (r5, h)) (vK (bN r5 (ii 1)) λ x11 => i2 x11 h)) (aLx E h)
def aAD (r1 r2 : DV) (n : Nat) : DV → H → aV := Nat.rec (motive := λ _ => DV → H → aV) (λ _ _ => none) (λ _ i => aGQ E r1 r2 i) n
def aLy (r0 r1 : DV) (h : H) : aV := dV r0 h λ x1 h2 => aAD E r1 x1 aQ (ii 0) h2
theorem bMe : Is E bPk (bX aSt.res) (λ σ h => aLx E h) := Is.rf
abbrev bJA : iY (DV × H) := (bV 0 (cP (λ σ h => aLx E h) (bX aSt.res)))
theorem bMd : Is E bPj (bJA E) (λ σ h => aAD E (σ p1) (σ p2) aQ (σ p5) h) := Is.lp (λ n2 σ h => aAD E (σ p1) (σ p2) n2 (σ p5) h) λ n2 => Is.aq (Is.leaf _)
theorem bMf : lP E aSt (aLy E) := Is.aq (Is.sq (Is.sq (bMe E) (Is.sq (Is.bk (bMd E)) (Is.leaf _))) (Is.leaf _))
def bAr : cF := lM (aLy E)
theorem bEv : SQ aSt bAr := lQ bMf
def bNL := cm 123
def aLw (r0 r1 r2 r3 : DV) (h : H) : aV := dV r0 h λ x1 h2 => dP 2 2 (.list [.nils, (ii 0)]) h2 λ x3 h4 => vK (aI 0 x1) λ x5 => vK (aF h4.get x5) λ x6 => vK (cD 5 x6 r1) λ x7 => vK (aM 5 h4.get x7) λ x8 => dP 5 5 (.list [(ii 0), (ii 0), (ii 0), (.str []), .nils]) h4 λ x9 h10 => wK (bY 5 x9 x8 h10) λ x11 h12 => vK (aI 4 x9) λ x13 => vK (aF h12.get x13) λ x14 => wK (aE E 152 [x14, r2, r3] h12) λ x15 h16 => vK (aG 0 x15) λ x17 => vK (aG 1 x15) λ x18 => vK (aI 4 x9) λ x19 => wK (bY 1 x19 x17 h16) λ x20 h21 => vK (aM 2 h21.get x1) λ x22 => vK (aM 5 h21.get x9) λ x23 => wK (aE E 153 [x22, r1, x23] h21) λ x24 h25 => wK (bY 2 x3 x24 h25) λ x26 h27 => vK (aM 2 h27.get x3) λ x28 => some (x28, h27)
theorem bMc : iB4 E bNL (aLw E) := Is.rf
def bAq : cF := fA4 (aLw E)
theorem bEu : SQ bNL bAq := eB4 bMc
def aSs := cm 124
def bPi := cr (cr (cr (cr (cr aSs.body))))
def bPh := cl (cr (cl (cr (cr (cr (cr aSs.body))))))
def aLu (E : bJ) (r8 : DV) (h : H) : aV := some ((.tup [r8, (ii 0)]), h)
def aGP (r2 r6 : DV) (i2 : DV → DV → H → aV) (r8 r9 : DV) (h : H) : aV := vK (cA r6) λ x1 => vK (dA r9 x1) λ x2 => bK x2 (vK (aI 0 r2) λ x3 => vK (aF h.get x3) λ x4 => vK (cD 5 x4 r8) λ x5 => vK (aI 2 x5) λ x6 => vK (aF h.get x6) λ x7 => vK (cG x7 (ii 1)) λ x8 => bK x8 (some ((.tup [(ii 0), (ii 13)]), h)) (vK (aI 0 r2) λ x9 => vK (aF h.get x9) λ x10 => vK (cD 5 x10 r8) λ x11 => vK (aI 4 x11) λ x12 => vK (aF h.get x12) λ x13 => vK (cD 1 r6 r9) λ x14 => vK (aF h.get x14) λ x15 => wK (aE E 151 [x13, x15] h) λ x16 h17 => vK (aG 0 x16) λ x18 => vK (aG 1 x16) λ x19 => vK (dC x19 (ii 0)) λ x20 => bK x20 (some ((.tup [(ii 0), (ii 7)]), h17)) (vK (aM 2 h17.get r2) λ x21 => wK (aE E 122 [x21, x18] h17) λ x22 h23 => vK (bN r9 (ii 1)) λ x24 => i2 x22 x24 h23))) (aLu E r8 h)
def aDd (r2 r6 : DV) (n : Nat) : DV → DV → H → aV := Nat.rec (motive := λ _ => DV → DV → H → aV) (λ _ _ _ => none) (λ _ i => aGP E r2 r6 i) n
def aLv (r0 r1 : DV) (h : H) : aV := dV r0 h λ x1 h2 => wK (aE E 154 [r1] h2) λ x3 h4 => vK (aG 0 x3) λ x5 => vK (aG 1 x3) λ x6 => vK (dC x6 (ii 0)) λ x7 => bK x7 (some ((.tup [(ii 0), x6]), h4)) (vK (aM 2 h4.get x1) λ x8 => wK (aE E 122 [x8, (ii 1)] h4) λ x9 h10 => aDd E x1 x5 aQ x9 (ii 0) h10)
theorem bMa : Is E bPi (bX aSs.res) (λ σ h => aLu E (σ p8) h) := Is.rf
abbrev bJz : iY (DV × H) := (cP (λ σ h => aLu E (σ p8) h) (bX aSs.res))
theorem bLZ : Is E bPh (bV 0 (bJz E)) (λ σ h => aDd E (σ p2) (σ p6) aQ (σ p8) (σ p9) h) := Is.lp (λ n2 σ h => aDd E (σ p2) (σ p6) n2 (σ p8) (σ p9) h) λ n2 => Is.aq (Is.leaf _)
theorem bMb : lP E aSs (aLv E) := Is.aq (Is.sq (Is.sq (Is.sq (Is.sq (Is.sq (bMa E) (Is.sq (Is.bk (bLZ E)) (Is.leaf _))) (Is.leaf _)) (Is.leaf _)) (Is.leaf _)) (Is.leaf _))
def bAp : cF := lM (aLv E)
theorem bEt : SQ aSs bAp := lQ bMb
def bNK := cm 125
def aLt (r0 r1 r2 : DV) (h : H) : aV := dV r0 h λ x1 h2 => dP 2 2 (.list [.nils, (ii 0)]) h2 λ x3 h4 => vK (aI 0 x1) λ x5 => vK (aF h4.get x5) λ x6 => vK (cD 5 x6 r1) λ x7 => vK (aM 5 h4.get x7) λ x8 => dP 5 5 (.list [(ii 0), (ii 0), (ii 0), (.str []), .nils]) h4 λ x9 h10 => wK (bY 5 x9 x8 h10) λ x11 h12 => vK (aI 4 x9) λ x13 => vK (aF h12.get x13) λ x14 => wK (aE E 155 [x14, r2] h12) λ x15 h16 => vK (aG 0 x15) λ x17 => vK (aG 1 x15) λ x18 => vK (aG 2 x15) λ x19 => vK (aI 4 x9) λ x20 => wK (bY 1 x20 x17 h16) λ x21 h22 => vK (aM 2 h22.get x1) λ x23 => vK (aM 5 h22.get x9) λ x24 => wK (aE E 153 [x23, r1, x24] h22) λ x25 h26 => wK (bY 2 x3 x25 h26) λ x27 h28 => vK (aM 2 h28.get x3) λ x29 => some (x29, h28)
theorem bLY : iB3 E bNK (aLt E) := Is.rf
def bAo : cF := fA3 (aLt E)
theorem bEs : SQ bNK bAo := eB3 bLY
def aSr := cm 126
def bPg := cr (cr (cr aSr.body))
def aSE := cl (cr (cl (cr (cr aSr.body))))
def bPf := cr (cr (cl aSE))
def bBH := cl (cr (cl (cl (cr (cl aSE)))))
def bPe := cr (cr (cl bBH))
def aRX (E : bJ) (r5 : DV) (h : H) : aV := some (r5, h)
def aGn (E : bJ) (i2 : DV → DV → H → aV) (r5 r6 : DV) (h : H) : aV := vK (bN r6 (ii 1)) λ x1 => i2 r5 x1 h
def aGm (E : bJ) (i4 : DV → DV → H → aV) (r5 r7 : DV) (h : H) : aV := vK (bN r7 (ii 1)) λ x1 => i4 r5 x1 h
def aGN (i2 : DV → DV → H → aV) (r1 r2 r6 : DV) (i4 : DV → DV → H → aV) (r5 r7 : DV) (h : H) : aV := vK (aI 0 r2) λ x1 => vK (aF h.get x1) λ x2 => vK (cD 5 x2 r6) λ x3 => vK (aI 4 x3) λ x4 => vK (aF h.get x4) λ x5 => vK (cA x5) λ x6 => vK (dA r7 x6) λ x7 => bK x7 (vK (aI 0 r2) λ x8 => vK (aF h.get x8) λ x9 => vK (cD 5 x9 r6) λ x10 => vK (aI 4 x10) λ x11 => vK (aF h.get x11) λ x12 => vK (cD 2 x12 r7) λ x13 => vK (aI 1 x13) λ x14 => vK (aF h.get x14) λ x15 => vK (cG x15 r1) λ x16 => bK x16 (vK (bN r5 (ii 1)) λ x17 => aGm E i4 x17 r7 h) (aGm E i4 r5 r7 h)) (aGn E i2 r5 r6 h)
def xI (i2 : DV → DV → H → aV) (r1 r2 r6 : DV) (n : Nat) : DV → DV → H → aV := Nat.rec (motive := λ _ => DV → DV → H → aV) (λ _ _ _ => none) (λ _ i => aGN E i2 r1 r2 r6 i) n
def aGO (r1 r2 : DV) (i2 : DV → DV → H → aV) (r5 r6 : DV) (h : H) : aV := vK (aI 0 r2) λ x1 => vK (aF h.get x1) λ x2 => vK (cA x2) λ x3 => vK (dA r6 x3) λ x4 => bK x4 (xI E i2 r1 r2 r6 aQ r5 (ii 0) h) (aRX E r5 h)
def mF (r1 r2 : DV) (n : Nat) : DV → DV → H → aV := Nat.rec (motive := λ _ => DV → DV → H → aV) (λ _ _ _ => none) (λ _ i => aGO E r1 r2 i) n
def aLs (r0 r1 : DV) (h : H) : aV := dV r0 h λ x1 h2 => mF E r1 x1 aQ (ii 0) (ii 0) h2
theorem bLW : Is E bPg (bX aSr.res) (λ σ h => aRX E (σ p5) h) := Is.rf
abbrev bAR : iY (DV × H) := (cP (λ σ h => aRX E (σ p5) h) (bX aSr.res))
abbrev bAQ (n2 : Nat) : iY (DV × H) := (cP (λ σ h => (mF E (σ p1) (σ p2) n2) (σ p5) (σ p6) h) (bV 0 (bAR E)))
theorem bLU (n2 : Nat) : Is E bPf (bAQ E n2) (λ σ h => aGn E (mF E (σ p1) (σ p2) n2) (σ p5) (σ p6) h) := Is.rf
abbrev bAP (n2 : Nat) : iY (DV × H) := (cP (λ σ h => aGn E (mF E (σ p1) (σ p2) n2) (σ p5) (σ p6) h) (bAQ E n2))
abbrev bJy (n2 n4 : Nat) : iY (DV × H) := (cP (λ σ h => (xI E (mF E (σ p1) (σ p2) n2) (σ p1) (σ p2) (σ p6) n4) (σ p5) (σ p7) h) (bV 2 (bV 1 (bAP E n2))))
theorem bLS (n2 n4 : Nat) : Is E bPe (bJy E n2 n4) (λ σ h => aGm E (xI E (mF E (σ p1) (σ p2) n2) (σ p1) (σ p2) (σ p6) n4) (σ p5) (σ p7) h) := Is.rf
theorem bLT (n2 : Nat) : Is E bBH (bV 2 (bV 1 (bAP E n2))) (λ σ h => xI E (mF E (σ p1) (σ p2) n2) (σ p1) (σ p2) (σ p6) aQ (σ p5) (σ p7) h) := Is.lp (λ n4 σ h => xI E (mF E (σ p1) (σ p2) n2) (σ p1) (σ p2) (σ p6) n4 (σ p5) (σ p7) h) λ n4 => Is.aq (Is.sq (Is.sq (bLS E n2 n4) (Is.leaf _)) (Is.leaf _))
theorem bLV : Is E aSE (bV 0 (bAR E)) (λ σ h => mF E (σ p1) (σ p2) aQ (σ p5) (σ p6) h) := Is.lp (λ n2 σ h => mF E (σ p1) (σ p2) n2 (σ p5) (σ p6) h) λ n2 => Is.aq (Is.sq (Is.sq (bLU E n2) (Is.bk (Is.sq (Is.bk (bLT E n2)) (Is.leaf _)))) (Is.leaf _))
theorem bLX : lP E aSr (aLs E) := Is.aq (Is.sq (Is.sq (Is.sq (bLW E) (Is.sq (Is.bk (bLV E)) (Is.leaf _))) (Is.leaf _)) (Is.leaf _))
def bAn : cF := lM (aLs E)
theorem bEr : SQ aSr bAn := lQ bLX
def bNJ := cm 127
def aLr (r0 r1 : DV) (h : H) : aV := dV r0 h λ x1 h2 => dP 2 2 (.list [.nils, (ii 0)]) h2 λ x3 h4 => vK (aM 2 h4.get x1) λ x5 => wK (aE E 122 [x5, r1] h4) λ x6 h7 => vK (aI 0 x1) λ x8 => vK (aF h7.get x8) λ x9 => vK (dU 5 x9 none (some x6)) λ x10 => vK (aI 0 x1) λ x11 => vK (aF h7.get x11) λ x12 => vK (bN x6 (ii 1)) λ x13 => vK (dU 5 x12 (some x13) none) λ x14 => wK (cE 5 64 .nils x10 h7) λ x15 h16 => rK (vL (aF h16.get x11) x12) <| wK (cE 5 64 x15 x14 h16) λ x17 h18 => vK (aI 0 x1) λ x19 => wK (bY 1 x19 x17 h18) λ x20 h21 => vK (aM 2 h21.get x1) λ x22 => wK (bY 2 x3 x22 h21) λ x23 h24 => vK (aM 2 h24.get x3) λ x25 => some (x25, h24)
theorem bLR : lP E bNJ (aLr E) := Is.rf
def bAm : cF := lM (aLr E)
theorem bEq : SQ bNJ bAm := lQ bLR
def aSq := cm 128
def bPd := cr (cr (cr (cr (cr aSq.body))))
def bPc := cl (cr (cl (cr (cr (cr (cr aSq.body))))))
def aRW (E : bJ) (h : H) : aV := some ((.bool true), h)
def aGM (r5 r7 : DV) (i2 : DV → H → aV) (r9 : DV) (h : H) : aV := vK (cA r5) λ x1 => vK (dA r9 x1) λ x2 => bK x2 (vK (cD 1 r5 r9) λ x3 => vK (aF h.get x3) λ x4 => vK (cD 1 r7 r9) λ x5 => vK (aF h.get x5) λ x6 => vK (dC x4 x6) λ x7 => bK x7 (some ((.bool false), h)) (vK (bN r9 (ii 1)) λ x8 => i2 x8 h)) (aRW E h)
def aDc (r5 r7 : DV) (n : Nat) : DV → H → aV := Nat.rec (motive := λ _ => DV → H → aV) (λ _ _ => none) (λ _ i => aGM E r5 r7 i) n
def aLq (r0 r1 : DV) (h : H) : aV := wK (aE E 154 [r0] h) λ x1 h2 => vK (aG 0 x1) λ x3 => vK (aG 1 x1) λ x4 => wK (aE E 154 [r1] h2) λ x5 h6 => vK (aG 0 x5) λ x7 => vK (aG 1 x5) λ x8 => vK (dC x4 (ii 0)) λ x9 => bR x9 false (λ kk => kk x8 h6) h6 λ x10 h11 => bR x9 false (λ kk => vK (dC x10 (ii 0)) λ v => kk v h11) h11 λ x12 h13 => vK (bE x9 (.bool true) x12) λ x14 => bR x14 false (λ kk => kk x7 h13) h13 λ x15 h16 => bR x14 false (λ kk => vK (cA x15) λ v => kk v h16) h16 λ x17 h18 => bR x14 false (λ kk => kk x3 h18) h18 λ x19 h20 => bR x14 false (λ kk => vK (cA x19) λ v => kk v h20) h20 λ x21 h22 => bR x14 false (λ kk => vK (aEF x17 x21) λ v => kk v h22) h22 λ x23 h24 => vK (bE x14 (.bool true) x23) λ x25 => bK x25 (some ((.bool false), h24)) (aDc E x3 x7 aQ (ii 0) h24)
theorem bLP : Is E bPd (bX aSq.res) (λ σ h => aRW E h) := Is.rf
abbrev bJx : iY (DV × H) := (bV 0 (cP (λ σ h => aRW E h) (bX aSq.res)))
theorem bLO : Is E bPc (bJx E) (λ σ h => aDc E (σ p5) (σ p7) aQ (σ p9) h) := Is.lp (λ n2 σ h => aDc E (σ p5) (σ p7) n2 (σ p9) h) λ n2 => Is.aq (Is.leaf _)
theorem bLQ : lP E aSq (aLq E) := Is.aq (Is.sq (Is.sq (Is.sq (Is.sq (Is.sq (bLP E) (Is.sq (Is.bk (bLO E)) (Is.leaf _))) (Is.leaf _)) (Is.leaf _)) (Is.leaf _)) (Is.leaf _))
def bAl : cF := lM (aLq E)
theorem bEp : SQ aSq bAl := lQ bLQ
def bNI := cm 129
def aLp (r0 : DV) (h : H) : aV := wK (aE E 154 [r0] h) λ x1 h2 => vK (aG 0 x1) λ x3 => vK (aG 1 x1) λ x4 => vK (dC x4 (ii 0)) λ x5 => bK x5 (some ((.tup [(.str []), x4]), h2)) (wK (aE E 156 [x3] h2) λ x6 h7 => vK (aG 0 x6) λ x8 => vK (aG 1 x6) λ x9 => some ((.tup [x8, x9]), h7))
theorem bLN : oT E bNI (aLp E) := Is.rf
def bAk : cF := nY (aLp E)
theorem bEo : SQ bNI bAk := oZ bLN
def bNH := cm 130
def aLo (r0 r1 : DV) (h : H) : aV := dV r0 h λ x1 h2 => vK (aM 2 h2.get x1) λ x3 => wK (aE E 124 [x3, r1] h2) λ x4 h5 => vK (aG 0 x4) λ x6 => vK (aG 1 x4) λ x7 => vK (dC x7 (ii 0)) λ x8 => bK x8 (some ((.tup [(ii 0), x7]), h5)) (vK (aI 0 x1) λ x9 => vK (aF h5.get x9) λ x10 => vK (cD 5 x10 x6) λ x11 => vK (aI 2 x11) λ x12 => vK (aF h5.get x12) λ x13 => vK (cG x13 (ii 2)) λ x14 => bK x14 (some ((.tup [(ii 0), (ii 12)]), h5)) (some ((.tup [x6, (ii 0)]), h5)))
theorem bLM : lP E bNH (aLo E) := Is.rf
def bAj : cF := lM (aLo E)
theorem bEn : SQ bNH bAj := lQ bLM
def bNG := cm 131
def aLn (E : bJ) (r0 : DV) (h : H) : aV := vG 1 1 (.int .u8 (.ofNat 0)) r0 r0 h λ x1 h2 => vK (nG h2.get x1) λ x3 => some (x3, h2)
theorem bLL : oT E bNG (aLn E) := Is.rf
def aXd : cF := nY (aLn E)
theorem bEm : SQ bNG aXd := oZ bLL
def bNF := cm 132
def aLm (r0 r1 r2 : DV) (h : H) : aV := dV r0 h λ x1 h2 => dP 2 2 (.list [.nils, (ii 0)]) h2 λ x3 h4 => vK (aM 2 h4.get x1) λ x5 => vK (aI 0 x1) λ x6 => vK (aF h4.get x6) λ x7 => vK (cD 5 x7 r1) λ x8 => vK (aI 3 x8) λ x9 => vK (aF h4.get x9) λ x10 => vK (cJ x10) λ x11 => vK (cJ r2) λ x12 => wK (aE E 32 [x5] h4) λ x13 h14 => rK (vL (aF h14.get x9) x10) <| rK (vL (aF h14.get x6) x7) <| vK (fM x13 x11) λ x15 => vK (bN x15 x12) λ x16 => vK (eI x16 (ii 65536)) λ x17 => bK x17 (vK (aM 2 h14.get x1) λ x18 => wK (bY 2 x3 x18 h14) λ x19 h20 => vK (aM 2 h20.get x3) λ x21 => some ((.tup [x21, (ii 5)]), h20)) (vK (aI 0 x1) λ x22 => vK (aF h14.get x22) λ x23 => vK (cD 5 x23 r1) λ x24 => vK (aM 5 h14.get x24) λ x25 => dP 5 5 (.list [(ii 0), (ii 0), (ii 0), (.str []), .nils]) h14 λ x26 h27 => wK (bY 5 x26 x25 h27) λ x28 h29 => vK (aI 3 x26) λ x30 => wK (bY 1 x30 r2 h29) λ x31 h32 => vK (aM 2 h32.get x1) λ x33 => vK (aM 5 h32.get x26) λ x34 => wK (aE E 153 [x33, r1, x34] h32) λ x35 h36 => wK (bY 2 x3 x35 h36) λ x37 h38 => vK (aM 2 h38.get x3) λ x39 => some ((.tup [x39, (ii 0)]), h38))
theorem bLK : iB3 E bNF (aLm E) := Is.rf
def bAi : cF := fA3 (aLm E)
theorem bEl : SQ bNF bAi := eB3 bLK
def aSp := cm 133
def bPb := cr (cr (cr aSp.body))
def bPa := cl (cr (cl (cr (cr aSp.body))))
def aRV (E : bJ) (r3 : DV) (h : H) : aV := some (r3, h)
def aGL (r0 : DV) (i2 : DV → DV → H → aV) (r3 r4 : DV) (h : H) : aV := vK (cA r0) λ x1 => vK (dA r4 x1) λ x2 => bK x2 (vK (cD 1 r0 r4) λ x3 => vK (aF h.get x3) λ x4 => wK (aE E 54 [x4] h) λ x5 h6 => vK (bN r3 x5) λ x7 => vK (bN r4 (ii 1)) λ x8 => i2 x7 x8 h6) (aRV E r3 h)
def aDb (r0 : DV) (n : Nat) : DV → DV → H → aV := Nat.rec (motive := λ _ => DV → DV → H → aV) (λ _ _ _ => none) (λ _ i => aGL E r0 i) n
def aLl (r0 : DV) (h : H) : aV := vK (cA r0) λ x1 => wK (aE E 53 [x1] h) λ x2 h3 => aDb E r0 aQ x2 (ii 0) h3
theorem bLI : Is E bPb (bX aSp.res) (λ σ h => aRV E (σ p3) h) := Is.rf
abbrev bJw : iY (DV × H) := (cP (λ σ h => aRV E (σ p3) h) (bX aSp.res))
theorem bLH : Is E bPa (bV 0 (bJw E)) (λ σ h => aDb E (σ p0) aQ (σ p3) (σ p4) h) := Is.lp (λ n2 σ h => aDb E (σ p0) n2 (σ p3) (σ p4) h) λ n2 => Is.aq (Is.leaf _)
theorem bLJ : oT E aSp (aLl E) := Is.aq (Is.sq (Is.sq (Is.sq (bLI E) (Is.sq (Is.bk (bLH E)) (Is.leaf _))) (Is.leaf _)) (Is.leaf _))
def bAh : cF := nY (aLl E)
theorem bEk : SQ aSp bAh := oZ bLJ
def aSo := cm 136
def bOZ := cr (cr (cr aSo.body))
def bOY := cl (cr (cl (cr (cr aSo.body))))
def aRU (E : bJ) (r3 : DV) (h : H) : aV := some (r3, h)
def aGK (r0 : DV) (i2 : DV → DV → H → aV) (r3 r4 : DV) (h : H) : aV := vK (cA r0) λ x1 => vK (dA r4 x1) λ x2 => bK x2 (vK (cD 2 r0 r4) λ x3 => vK (aI 0 x3) λ x4 => vK (aF h.get x4) λ x5 => fG 1 1 [(.str [])] [(0, 1, x5)] h λ x6 h7 => wK (cE 1 16 r3 x6 h7) λ x8 h9 => vK (bN r4 (ii 1)) λ x10 => i2 x8 x10 h9) (aRU E r3 h)
def aDa (r0 : DV) (n : Nat) : DV → DV → H → aV := Nat.rec (motive := λ _ => DV → DV → H → aV) (λ _ _ _ => none) (λ _ i => aGK E r0 i) n
def bBr (r0 : DV) (h : H) : aV := aDa E r0 aQ .nils (ii 0) h
theorem bLF : Is E bOZ (bX aSo.res) (λ σ h => aRU E (σ p3) h) := Is.rf
abbrev bJv : iY (DV × H) := (cP (λ σ h => aRU E (σ p3) h) (bX aSo.res))
theorem bLE : Is E bOY (bV 0 (bJv E)) (λ σ h => aDa E (σ p0) aQ (σ p3) (σ p4) h) := Is.lp (λ n2 σ h => aDa E (σ p0) n2 (σ p3) (σ p4) h) λ n2 => Is.aq (Is.leaf _)
theorem bLG : oT E aSo (bBr E) := Is.aq (Is.sq (Is.sq (Is.sq (bLF E) (Is.sq (Is.bk (bLE E)) (Is.leaf _))) (Is.leaf _)) (Is.leaf _))
def bAg : cF := nY (bBr E)
theorem bEj : SQ aSo bAg := oZ bLG
def aSn := cm 137
def bOX := cr (cr (cr (cr (cl (cr aSn.body)))))
def aMb := cl (cr (cl (cr (cr (cr (cl (cr aSn.body)))))))
def bOW := cr (cr (cr (cl aMb)))
def bOV := cr (cr (cl (cl (cr (cr (cl aMb))))))
def bOU := cr (cl (cr (cl (cr (cl (cl (cr (cr (cl aMb)))))))))
def aRT (E : bJ) (r4 : DV) (h : H) : aV := some ((.tup [r4, (ii 0)]), h)
def aAE (E : bJ) (i2 : DV → DV → H → aV) (r4 r23 : DV) (h : H) : aV := vK (bN r23 (ii 1)) λ x1 => i2 r4 x1 h
def aLj (i2 : DV → DV → H → aV) (r4 r6 r23 : DV) (h : H) : aV := wK (aE E 146 [r6] h) λ x1 h2 => vK (oE x1) λ x3 => bK x3 (some ((.tup [.nils, (ii 15)]), h2)) (fG 1 1 [(.str [])] [(0, 1, r6)] h2 λ x4 h5 => wK (cE 1 16 r4 x4 h5) λ x6 h7 => aAE E i2 x6 r23 h7)
def aGl (i2 : DV → DV → H → aV) (r4 r6 r23 r27 r28 : DV) (h : H) : aV := bK r28 (aAE E i2 r4 r23 h) (vK (cG r27 (.str [46, 46])) λ x1 => bK x1 (vK (cA r4) λ x2 => vK (fM x2 (ii 1)) λ x3 => vK (aBT x3 (ii 0)) λ x4 => vK (dU 1 r4 none (some x4)) λ x5 => aAE E i2 x5 r23 h) (aLj E i2 r4 r6 r23 h))
def aGJ (r21 r22 : DV) (i2 : DV → DV → H → aV) (r4 r23 : DV) (h : H) : aV := vK (dA r23 r22) λ x1 => bK x1 (vK (cD 1 r21 r23) λ x2 => vK (aF h.get x2) λ x3 => vK (cG x3 (.str [])) λ x4 => bK x4 (aGl E i2 r4 x3 r23 x3 x4 h) (vK (cG x3 (.str [46])) λ x5 => aGl E i2 r4 x3 r23 x3 x5 h)) (aRT E r4 h)
def nD (r21 r22 : DV) (n : Nat) : DV → DV → H → aV := Nat.rec (motive := λ _ => DV → DV → H → aV) (λ _ _ _ => none) (λ _ i => aGJ E r21 r22 i) n
def aLk (r0 : DV) (h : H) : aV := vK (cG r0 (.str [])) λ x1 => bR x1 false (λ kk => kk r0 h) h λ x2 h3 => bR x1 false (λ kk => vK (gY x2 (ii 0)) λ v => kk v h3) h3 λ x4 h5 => bR x1 false (λ kk => vK (dC x4 (.int .u8 (.ofNat 47))) λ v => kk v h5) h5 λ x6 h7 => vK (bE x1 (.bool true) x6) λ x8 => bR x8 false (λ kk => kk r0 h7) h7 λ x9 h10 => bR x8 false (λ kk => vK (cJ x9) λ v => kk v h10) h10 λ x11 h12 => bR x8 false (λ kk => vK (eI x11 (ii 255)) λ v => kk v h12) h12 λ x13 h14 => vK (bE x8 (.bool true) x13) λ x15 => bK x15 (some ((.tup [.nils, (ii 15)]), h14)) (vK (iE r0 (some (ii 1)) none) λ x16 => wK (aE E 161 [x16, (.str [47])] h14) λ x17 h18 => vK (cA x17) λ x19 => nD E x17 x19 aQ .nils (ii 0) h18)
theorem bLC : Is E bOX (aAY (bX aSn.res)) (λ σ h => aRT E (σ p4) h) := Is.rf
abbrev bAO : iY (DV × H) := (cP (λ σ h => aRT E (σ p4) h) (aAY (bX aSn.res)))
abbrev bAN (n2 : Nat) : iY (DV × H) := (cP (λ σ h => (nD E (σ p21) (σ p22) n2) (σ p4) (σ p23) h) (bV 0 (bAO E)))
theorem bLA (n2 : Nat) : Is E bOW (bAN E n2) (λ σ h => aAE E (nD E (σ p21) (σ p22) n2) (σ p4) (σ p23) h) := Is.rf
abbrev bAM (n2 : Nat) : iY (DV × H) := (cP (λ σ h => aAE E (nD E (σ p21) (σ p22) n2) (σ p4) (σ p23) h) (bAN E n2))
theorem bLz (n2 : Nat) : Is E bOV (bV 1 (bAM E n2)) (λ σ h => aLj E (nD E (σ p21) (σ p22) n2) (σ p4) (σ p6) (σ p23) h) := Is.rf
abbrev bJu (n2 : Nat) : iY (DV × H) := (cP (λ σ h => aLj E (nD E (σ p21) (σ p22) n2) (σ p4) (σ p6) (σ p23) h) (bV 1 (bAM E n2)))
theorem bLy (n2 : Nat) : Is E bOU (bV 2 (bJu E n2)) (λ σ h => aGl E (nD E (σ p21) (σ p22) n2) (σ p4) (σ p6) (σ p23) (σ p27) (σ p28) h) := Is.rf
theorem bLB : Is E aMb (bV 0 (bAO E)) (λ σ h => nD E (σ p21) (σ p22) aQ (σ p4) (σ p23) h) := Is.lp (λ n2 σ h => nD E (σ p21) (σ p22) n2 (σ p4) (σ p23) h) λ n2 => Is.aq (Is.sq (Is.sq (Is.sq (bLA E n2) (Is.bk (Is.sq (Is.sq (bLz E n2) (Is.sq (Is.bk (Is.sq (bLy E n2) (Is.leaf _))) (Is.leaf _))) (Is.leaf _)))) (Is.leaf _)) (Is.leaf _))
theorem bLD : oT E aSn (aLk E) := Is.aq (Is.sq (Is.sc (Is.sq (Is.sq (Is.sq (Is.sq (bLC E) (Is.sq (Is.bk (bLB E)) (Is.leaf _))) (Is.leaf _)) (Is.leaf _)) (Is.leaf _))) (Is.leaf _))
def bAf : cF := nY (aLk E)
theorem bEi : SQ aSn bAf := oZ bLD
def aSm := cm 138
def bOT := cr (cr (cr aSm.body))
def bOS := cl (cr (cl (cr (cr aSm.body))))
def aLh (E : bJ) (r6 : DV) (h : H) : aV := some ((.tup [r6, (ii 0)]), h)
def aGI (r0 r12 r13 : DV) (i2 : DV → DV → H → aV) (r6 r14 : DV) (h : H) : aV := vK (dA r14 r13) λ x1 => bK x1 (vK (cD 1 r12 r14) λ x2 => vK (aF h.get x2) λ x3 => wK (aE E 87 [r0, r6] h) λ x4 h5 => vK (eM .ptr false h5.get x4 .nilp) λ x6 => bK x6 (some ((.tup [(ii 0), (ii 13)]), h5)) (wK (aE E 145 [x4, x3] h5) λ x7 h8 => vK (aG 0 x7) λ x9 => vK (aG 1 x7) λ x10 => vK (dC x10 (ii 0)) λ x11 => bK x11 (some ((.tup [(ii 0), x10]), h8)) (vK (bN r14 (ii 1)) λ x12 => i2 x9 x12 h8))) (aLh E r6 h)
def aCZ (r0 r12 r13 : DV) (n : Nat) : DV → DV → H → aV := Nat.rec (motive := λ _ => DV → DV → H → aV) (λ _ _ _ => none) (λ _ i => aGI E r0 r12 r13 i) n
def aLi (r0 r1 : DV) (h : H) : aV := vK (cA r1) λ x1 => aCZ E r0 r1 x1 aQ (ii 1) (ii 0) h
theorem bLw : Is E bOT (bX aSm.res) (λ σ h => aLh E (σ p6) h) := Is.rf
abbrev bJt : iY (DV × H) := (cP (λ σ h => aLh E (σ p6) h) (bX aSm.res))
theorem bLv : Is E bOS (bV 0 (bJt E)) (λ σ h => aCZ E (σ p0) (σ p12) (σ p13) aQ (σ p6) (σ p14) h) := Is.lp (λ n2 σ h => aCZ E (σ p0) (σ p12) (σ p13) n2 (σ p6) (σ p14) h) λ n2 => Is.aq (Is.leaf _)
theorem bLx : lP E aSm (aLi E) := Is.aq (Is.sq (Is.sq (Is.sq (bLw E) (Is.sq (Is.bk (bLv E)) (Is.leaf _))) (Is.leaf _)) (Is.leaf _))
def bAe : cF := lM (aLi E)
theorem bEh : SQ aSm bAe := lQ bLx
def aLZ := cm 139
def aSD := cr (cr (cr (cr (cr aLZ.body))))
def bOQ := cr aSD
def bOP := cl (cr (cl aSD))
def bOR := cl (cl (cr (cr (cr (cr aLZ.body)))))
def aLg (E : bJ) (r8 : DV) (h : H) : aV := vK (nG h.get r8) λ x1 => some ((.tup [x1, (ii 0)]), h)
def aGG (r1 r2 r8 : DV) (i4 : DV → H → aV) (r9 : DV) (h : H) : aV := vK (cJ r2) λ x1 => vK (dA r9 x1) λ x2 => bK x2 (vK (bN r1 r9) λ x3 => vK (gY r2 r9) λ x4 => vK (cD 1 r8 x3) λ x5 => wK (bY 1 x5 x4 h) λ x6 h7 => vK (bN r9 (ii 1)) λ x8 => i4 x8 h7) (aLg E r8 h)
def aCX (r1 r2 r8 : DV) (n : Nat) : DV → H → aV := Nat.rec (motive := λ _ => DV → H → aV) (λ _ _ => none) (λ _ i => aGG E r1 r2 r8 i) n
def aGk (r1 r2 r8 : DV) (h : H) : aV := aCX E r1 r2 r8 aQ (ii 0) h
def aGH (r1 r2 : DV) (i2 : DV → H → aV) (r8 : DV) (h : H) : aV := vK (cA r8) λ x1 => vK (cJ r2) λ x2 => vK (bN r1 x2) λ x3 => vK (dA x1 x3) λ x4 => bK x4 (fG 1 1 [(.int .u8 (.ofNat 0))] [(0, 1, (.int .u8 (.ofNat 0)))] h λ x5 h6 => wK (cE 1 1 r8 x5 h6) λ x7 h8 => i2 x7 h8) (aGk E r1 r2 r8 h)
def aCY (r1 r2 : DV) (n : Nat) : DV → H → aV := Nat.rec (motive := λ _ => DV → H → aV) (λ _ _ => none) (λ _ i => aGH E r1 r2 i) n
def xM (r0 r1 r2 : DV) (h : H) : aV := vK (dA r1 (ii 0)) λ x1 => bK x1 (some ((.tup [(.str []), (ii 1)]), h)) (vK (cJ r0) λ x2 => vK (eI x2 (ii 65536)) λ x3 => bR x3 false (λ kk => kk r2 h) h λ x4 h5 => bR x3 false (λ kk => vK (cJ x4) λ v => kk v h5) h5 λ x6 h7 => bR x3 false (λ kk => vK (eI x6 (ii 65536)) λ v => kk v h7) h7 λ x8 h9 => vK (bE x3 (.bool true) x8) λ x10 => bR x10 false (λ kk => kk r1 h9) h9 λ x11 h12 => bR x10 false (λ kk => kk r2 h12) h12 λ x13 h14 => bR x10 false (λ kk => vK (cJ x13) λ v => kk v h14) h14 λ x15 h16 => bR x10 false (λ kk => vK (fM (ii 65536) x15) λ v => kk v h16) h16 λ x17 h18 => bR x10 false (λ kk => vK (eI x11 x17) λ v => kk v h18) h18 λ x19 h20 => vK (bE x10 (.bool true) x19) λ x21 => bK x21 (some ((.tup [(.str []), (ii 2)]), h20)) (aIj r0 h20 λ x22 h23 => aCY E r1 r2 aQ x22 h23))
theorem bLr : Is E bOQ (bX aLZ.res) (λ σ h => aLg E (σ p8) h) := Is.rf
abbrev bJs : iY (DV × H) := (cP (λ σ h => aLg E (σ p8) h) (bX aLZ.res))
theorem bLq : Is E bOP (bV 2 (bJs E)) (λ σ h => aCX E (σ p1) (σ p2) (σ p8) aQ (σ p9) h) := Is.lp (λ n4 σ h => aCX E (σ p1) (σ p2) (σ p8) n4 (σ p9) h) λ n4 => Is.aq (Is.leaf _)
theorem bLt : Is E aSD (bX aLZ.res) (λ σ h => aGk E (σ p1) (σ p2) (σ p8) h) := Is.aq (Is.sq (bLr E) (Is.sq (Is.bk (bLq E)) (Is.leaf _)))
abbrev bJr : iY (DV × H) := (cP (λ σ h => aGk E (σ p1) (σ p2) (σ p8) h) (bX aLZ.res))
theorem bLs : Is E bOR (bV 0 (bJr E)) (λ σ h => aCY E (σ p1) (σ p2) aQ (σ p8) h) := Is.lp (λ n2 σ h => aCY E (σ p1) (σ p2) n2 (σ p8) h) λ n2 => Is.aq (Is.leaf _)
theorem bLu : iB3 E aLZ (xM E) := Is.aq (Is.sq (Is.sq (Is.sq (Is.sq (Is.sq (bLt E) (Is.bk (bLs E))) (Is.leaf _)) (Is.leaf _)) (Is.leaf _)) (Is.leaf _))
def aXc : cF := fA3 (xM E)
theorem bEg : SQ aLZ aXc := eB3 bLu
def bNE := cm 140
def xL (E : bJ) (r0 r1 r2 : DV) (h : H) : aV := vK (dA r1 (ii 0)) λ x1 => bK x1 (some ((.tup [(.str []), (ii 1)]), h)) (vK (cJ r0) λ x2 => vK (eI x2 (ii 65536)) λ x3 => bR x3 false (λ kk => kk r2 h) h λ x4 h5 => bR x3 false (λ kk => vK (cJ x4) λ v => kk v h5) h5 λ x6 h7 => bR x3 false (λ kk => vK (eI x6 (ii 65536)) λ v => kk v h7) h7 λ x8 h9 => vK (bE x3 (.bool true) x8) λ x10 => bR x10 false (λ kk => kk r1 h9) h9 λ x11 h12 => bR x10 false (λ kk => kk r2 h12) h12 λ x13 h14 => bR x10 false (λ kk => vK (cJ x13) λ v => kk v h14) h14 λ x15 h16 => bR x10 false (λ kk => vK (fM (ii 65536) x15) λ v => kk v h16) h16 λ x17 h18 => bR x10 false (λ kk => vK (eI x11 x17) λ v => kk v h18) h18 λ x19 h20 => vK (bE x10 (.bool true) x19) λ x21 => bK x21 (some ((.tup [(.str []), (ii 2)]), h20)) (vK (cJ r0) λ x22 => vK (cJ r2) λ x23 => vK (bN r1 x23) λ x24 => vK (aBT x22 x24) λ x25 => vG 1 1 (.int .u8 (.ofNat 0)) x25 x25 h20 λ x26 h27 => wK (mE 1 x26 r0 h27) λ x28 h29 => vK (dU 1 x26 (some r1) none) λ x30 => wK (mE 1 x30 r2 h29) λ x31 h32 => vK (nG h32.get x26) λ x33 => some ((.tup [x33, (ii 0)]), h32)))
theorem bLp : iB3 E bNE (xL E) := Is.rf
def aXb : cF := fA3 (xL E)
theorem bEf : SQ bNE aXb := eB3 bLp
def aSl := cm 141
def bOO := cr (cr aSl.body)
def bON := cl (cr (cl (cr aSl.body)))
def aRS (E : bJ) (h : H) : aV := some ((ii 0), h)
def aGF (r0 : DV) (i2 : DV → H → aV) (r3 : DV) (h : H) : aV := vK (dA r3 (ii 256)) λ x1 => bK x1 (vK (aW r0) λ x2 => vK (aI 0 x2) λ x3 => vK (pF 256 2 x3 r3) λ x4 => vK (aI 1 x4) λ x5 => vK (aF h.get x5) λ x6 => vK (eM .nilI false h.get x6 .nili) λ x7 => bK x7 (some (r3, h)) (vK (bN r3 (ii 1)) λ x8 => i2 x8 h)) (aRS E h)
def aCW (r0 : DV) (n : Nat) : DV → H → aV := Nat.rec (motive := λ _ => DV → H → aV) (λ _ _ => none) (λ _ i => aGF E r0 i) n
def aLf (r0 : DV) (h : H) : aV := aCW E r0 aQ (ii 2) h
theorem bLn : Is E bOO (bX aSl.res) (λ σ h => aRS E h) := Is.rf
abbrev bJq : iY (DV × H) := (bV 0 (cP (λ σ h => aRS E h) (bX aSl.res)))
theorem bLm : Is E bON (bJq E) (λ σ h => aCW E (σ p0) aQ (σ p3) h) := Is.lp (λ n2 σ h => aCW E (σ p0) n2 (σ p3) h) λ n2 => Is.aq (Is.leaf _)
theorem bLo : oT E aSl (aLf E) := Is.aq (Is.sq (Is.sq (bLn E) (Is.sq (Is.bk (bLm E)) (Is.leaf _))) (Is.leaf _))
def bAd : cF := nY (aLf E)
theorem bEe : SQ aSl bAd := oZ bLo
def bND := cm 142
def aLe (r0 r1 : DV) (h : H) : aV := vK (eM .ptr false h.get r0 .nilp) λ x1 => bK x1 (some ((.tup [(ii 0), (.bool false)]), h)) (vK (aW r0) λ x2 => vK (aI 0 x2) λ x3 => vK (aF h.get x3) λ x4 => wK (aE E 162 [x4, r1, (.fn (.func 163) [] [])] h) λ x5 h6 => vK (aG 0 x5) λ x7 => vK (aG 1 x5) λ x8 => some ((.tup [x7, x8]), h6))
theorem bLl : lP E bND (aLe E) := Is.rf
def bAc : cF := lM (aLe E)
theorem bEd : SQ bND bAc := lQ bLl
def bNC := cm 143
def aLd (E : bJ) (r0 r1 r2 : DV) (h : H) : aV := vK (cA r0) λ x1 => vK (zL 2 r0 (some r1) r2 x1) λ x2 => vK (cG r1 r2) λ x3 => bK x3 (some (r0, h)) (vK (cA r0) λ x4 => vK (dU 2 r0 none (some r1)) λ x5 => vK (dU 2 r0 (some r2) none) λ x6 => wK (cE 2 24 x5 x6 h) λ x7 h8 => vK (cA x7) λ x9 => vK (dU 2 x7 (some x9) (some x4)) λ x10 => wK (wS [(.str []), (ii 0)] x10 h8) λ x11 h12 => some (x7, h12))
theorem bLk : iB3 E bNC (aLd E) := Is.rf
def bAb : cF := fA3 (aLd E)
theorem bEc : SQ bNC bAb := eB3 bLk
def aSk := cm 144
def bOM := cr (cr (cr aSk.body))
def bOL := cl (cr (cl (cr (cr aSk.body))))
def aRR (E : bJ) (h : H) : aV := some ((.bool true), h)
def aGE (r0 r1 r12 : DV) (i2 : DV → H → aV) (r13 : DV) (h : H) : aV := vK (dA r13 r12) λ x1 => bK x1 (vK (cD 1 r0 r13) λ x2 => vK (aF h.get x2) λ x3 => vK (cD 1 r1 r13) λ x4 => vK (aF h.get x4) λ x5 => vK (dC x3 x5) λ x6 => bK x6 (some ((.bool false), h)) (vK (bN r13 (ii 1)) λ x7 => i2 x7 h)) (aRR E h)
def aCV (r0 r1 r12 : DV) (n : Nat) : DV → H → aV := Nat.rec (motive := λ _ => DV → H → aV) (λ _ _ => none) (λ _ i => aGE E r0 r1 r12 i) n
def aLc (r0 r1 : DV) (h : H) : aV := vK (cA r0) λ x1 => vK (cA r1) λ x2 => vK (dC x1 x2) λ x3 => bK x3 (some ((.bool false), h)) (vK (cA r0) λ x4 => aCV E r0 r1 x4 aQ (ii 0) h)
theorem bLi : Is E bOM (bX aSk.res) (λ σ h => aRR E h) := Is.rf
abbrev bJp : iY (DV × H) := (bV 0 (cP (λ σ h => aRR E h) (bX aSk.res)))
theorem bLh : Is E bOL (bJp E) (λ σ h => aCV E (σ p0) (σ p1) (σ p12) aQ (σ p13) h) := Is.lp (λ n2 σ h => aCV E (σ p0) (σ p1) (σ p12) n2 (σ p13) h) λ n2 => Is.aq (Is.leaf _)
theorem bLj : lP E aSk (aLc E) := Is.aq (Is.sq (Is.sq (Is.sq (bLi E) (Is.sq (Is.bk (bLh E)) (Is.leaf _))) (Is.leaf _)) (Is.leaf _))
def bAa : cF := lM (aLc E)
theorem bEb : SQ aSk bAa := lQ bLj
def bNB := cm 145
def aLb (r0 r1 : DV) (h : H) : aV := wK (aE E 142 [r0, r1] h) λ x1 h2 => vK (aG 0 x1) λ x3 => vK (aG 1 x1) λ x4 => vK (oE x4) λ x5 => bK x5 (some ((.tup [(ii 0), (ii 7)]), h2)) (vK (aW r0) λ x6 => vK (aI 0 x6) λ x7 => vK (aF h2.get x7) λ x8 => vK (cD 2 x8 x3) λ x9 => vK (aI 1 x9) λ x10 => vK (aF h2.get x10) λ x11 => some ((.tup [x11, (ii 0)]), h2))
theorem bLg : lP E bNB (aLb E) := Is.rf
def aZZ : cF := lM (aLb E)
theorem bEa : SQ bNB aZZ := lQ bLg
def bNA := cm 146
def aLa (r0 : DV) (h : H) : aV := vK (dC r0 (.str [])) λ x1 => bR x1 true (λ kk => kk r0 h) h λ x2 h3 => bR x1 true (λ kk => vK (cJ x2) λ v => kk v h3) h3 λ x4 h5 => bR x1 true (λ kk => vK (aEF x4 (ii 28)) λ v => kk v h5) h5 λ x6 h7 => vK (bE x1 x6 (.bool false)) λ x8 => bR x8 true (λ kk => kk r0 h7) h7 λ x9 h10 => bR x8 true (λ kk => vK (dC x9 (.str [46])) λ v => kk v h10) h10 λ x11 h12 => vK (bE x8 x11 (.bool false)) λ x13 => bR x13 true (λ kk => kk r0 h12) h12 λ x14 h15 => bR x13 true (λ kk => vK (dC x14 (.str [46, 46])) λ v => kk v h15) h15 λ x16 h17 => vK (bE x13 x16 (.bool false)) λ x18 => bR x18 true (λ kk => kk r0 h17) h17 λ x19 h20 => bR x18 true (λ kk => wK (aE E 164 [x19, (.int .u8 (.ofNat 47))] h20) kk) h20 λ x21 h22 => bR x18 true (λ kk => vK (dA x21 (ii 0)) λ v => kk v h22) h22 λ x23 h24 => vK (bE x18 x23 (.bool false)) λ x25 => bR x25 true (λ kk => kk r0 h24) h24 λ x26 h27 => bR x25 true (λ kk => wK (aE E 164 [x26, (.int .u8 (.ofNat 0))] h27) kk) h27 λ x28 h29 => bR x25 true (λ kk => vK (dA x28 (ii 0)) λ v => kk v h29) h29 λ x30 h31 => vK (bE x25 x30 (.bool false)) λ x32 => some (x32, h31)
theorem bLf : oT E bNA (aLa E) := Is.rf
def aZY : cF := nY (aLa E)
theorem bDZ : SQ bNA aZY := oZ bLf
def bNz := cm 147
def aDj (r0 r1 r2 : DV) (h : H) : aV := vK (dU 2 r0 (some r1) none) λ x1 => vK (cA r2) λ x2 => vK (cG x2 (ii 0)) λ x3 => bK x3 (some (r0, h)) (vK (cA r0) λ x4 => vK (cG r1 x4) λ x5 => bK x5 (wK (cE 2 24 r0 r2 h) λ x6 h7 => some (x6, h7)) (vK (bN x4 x2) λ x8 => vK (aEH r0) λ x9 => vK (eI x8 x9) λ x10 => bK x10 (vK (dU 2 r0 none (some r1)) λ x11 => vK (bN x4 x2) λ x12 => vK (fM x12 r1) λ x13 => wK (aOs 2 24 [(.str []), (ii 0)] x11 x13 h) λ x14 h15 => vK (dU 2 x14 (some r1) none) λ x16 => wK (mE 2 x16 r2 h15) λ x17 h18 => vK (bN r1 x2) λ x19 => vK (dU 2 x14 (some x19) none) λ x20 => vK (dU 2 r0 (some r1) none) λ x21 => wK (mE 2 x20 x21 h18) λ x22 h23 => some (x14, h23)) (vK (bN x4 x2) λ x24 => vK (dU 2 r0 none (some x24)) λ x25 => vK (bN r1 x2) λ x26 => vK (dU 2 x25 (some x26) none) λ x27 => vK (aMn h.get r2 x27) λ x28 => vK (oE x28) λ x29 => bK x29 (vK (bN r1 x2) λ x30 => vK (dU 2 x25 (some x30) none) λ x31 => vK (dU 2 x25 (some r1) none) λ x32 => wK (mE 2 x31 x32 h) λ x33 h34 => vK (dU 2 x25 (some r1) none) λ x35 => wK (mE 2 x35 r2 h34) λ x36 h37 => some (x25, h37)) (vK (dU 2 x25 (some x4) none) λ x38 => wK (mE 2 x38 r2 h) λ x39 h40 => vK (dU 2 x25 (some r1) none) λ x41 => wK (aE E 166 [x41, x2] h40) λ x42 h43 => some (x25, h43)))))
theorem bLe : iB3 E bNz (aDj E) := Is.rf
def aKw : cF := fA3 (aDj E)
theorem bDY : SQ bNz aKw := eB3 bLe
def bNy := cm 148
def aKZ (r0 : DV) (h : H) : aV := wK (aE E 167 [(.str [0]), r0] h) λ x1 h2 => some (x1, h2)
theorem bLd : oT E bNy (aKZ E) := Is.rf
def aXa : cF := nY (aKZ E)
theorem bDX : SQ bNy aXa := oZ bLd
def bNx := cm 149
def aKY (r0 r1 : DV) (h : H) : aV := dV r1 h λ x1 h2 => wK (aE E 103 [r0, (.fn (.func 168) [] [x1])] h2) λ x3 h4 => some ((.tup []), h4)
theorem bLc : lP E bNx (aKY E) := Is.rf
def aZX : cF := lM (aKY E)
theorem bDW : SQ bNx aZX := lQ bLc
def bNw := cm 150
def aKX (r0 : DV) (h : H) : aV := wK (aE E 154 [r0] h) λ x1 h2 => vK (aG 0 x1) λ x3 => vK (aG 1 x1) λ x4 => vK (dC x4 (ii 0)) λ x5 => bR x5 false (λ kk => kk x3 h2) h2 λ x6 h7 => bR x5 false (λ kk => vK (cA x6) λ v => kk v h7) h7 λ x8 h9 => bR x5 false (λ kk => vK (cG x8 (ii 0)) λ v => kk v h9) h9 λ x10 h11 => vK (bE x5 (.bool true) x10) λ x12 => bK x12 (some ((.tup [(.str []), (.str []), (ii 15)]), h11)) (vK (cA x3) λ x13 => vK (fM x13 (ii 1)) λ x14 => vK (dU 1 x3 none (some x14)) λ x15 => wK (aE E 156 [x15] h11) λ x16 h17 => vK (aG 0 x16) λ x18 => vK (aG 1 x16) λ x19 => vK (cA x3) λ x20 => vK (fM x20 (ii 1)) λ x21 => vK (cD 1 x3 x21) λ x22 => vK (aF h17.get x22) λ x23 => some ((.tup [x18, x23, (ii 0)]), h17))
theorem bLb : oT E bNw (aKX E) := Is.rf
def aZW : cF := nY (aKX E)
theorem bDV : SQ bNw aZW := oZ bLb
def bNv := cm 151
def aKW (r0 r1 : DV) (h : H) : aV := wK (aE E 169 [r0, r1] h) λ x1 h2 => vK (aG 0 x1) λ x3 => vK (aG 1 x1) λ x4 => vK (oE x4) λ x5 => bK x5 (some ((.tup [(ii 0), (ii 7)]), h2)) (vK (cD 2 r0 x3) λ x6 => vK (aI 1 x6) λ x7 => vK (aF h2.get x7) λ x8 => some ((.tup [x8, (ii 0)]), h2))
theorem bLa : lP E bNv (aKW E) := Is.rf
def aZV : cF := lM (aKW E)
theorem bDU : SQ bNv aZV := lQ bLa
def bNu := cm 152
def aKV (r0 r1 r2 : DV) (h : H) : aV := vK (dA r2 (ii 1)) λ x1 => bR x1 false (λ kk => kk r2 h) h λ x2 h3 => bR x1 false (λ kk => vK (oG x2 (ii 256)) λ v => kk v h3) h3 λ x4 h5 => vK (bE x1 (.bool true) x4) λ x6 => bK x6 (some ((.tup [r0, (ii 1)]), h5)) (wK (aE E 170 [r1] h5) λ x7 h8 => vK (oE x7) λ x9 => bK x9 (some ((.tup [r0, (ii 15)]), h8)) (wK (aE E 169 [r0, r1] h8) λ x10 h11 => vK (aG 0 x10) λ x12 => vK (aG 1 x10) λ x13 => bK x13 (some ((.tup [r0, (ii 6)]), h11)) (vK (dU 2 r0 none (some x12)) λ x14 => vK (dO [(.str []), (ii 0)] [(0, 1, r1), (1, 1, r2)]) λ x15 => fG 1 2 [(.str []), (ii 0)] [(0, 2, x15)] h11 λ x16 h17 => vK (dU 2 r0 (some x12) none) λ x18 => wK (cE 2 24 .nils x14 h17) λ x19 h20 => wK (cE 2 24 x19 x16 h20) λ x21 h22 => wK (cE 2 24 x21 x18 h22) λ x23 h24 => some ((.tup [x23, (ii 0)]), h24))))
theorem bKZ : iB3 E bNu (aKV E) := Is.rf
def aZU : cF := fA3 (aKV E)
theorem bDT : SQ bNu aZU := eB3 bKZ
def bNt := cm 153
def aKU (E : bJ) (r0 r1 r2 : DV) (h : H) : aV := dV r0 h λ x1 h2 => dV r2 h2 λ x3 h4 => dP 2 2 (.list [.nils, (ii 0)]) h4 λ x5 h6 => vK (aI 0 x1) λ x7 => vK (aF h6.get x7) λ x8 => wK (cE 5 64 .nils x8 h6) λ x9 h10 => vK (aM 5 h10.get x3) λ x11 => vK (cD 5 x9 r1) λ x12 => wK (bY 5 x12 x11 h10) λ x13 h14 => vK (aI 0 x1) λ x15 => wK (bY 1 x15 x9 h14) λ x16 h17 => vK (aM 2 h17.get x1) λ x18 => wK (bY 2 x5 x18 h17) λ x19 h20 => vK (aM 2 h20.get x5) λ x21 => some (x21, h20)
theorem bKY : iB3 E bNt (aKU E) := Is.rf
def aZT : cF := fA3 (aKU E)
theorem bDS : SQ bNt aZT := eB3 bKY
def aSj := cm 154
def bOK := cr (cr (cr (cr (cr aSj.body))))
def aSC := cl (cr (cl (cr (cr (cr (cr aSj.body))))))
def bOJ := cr (cr (cl aSC))
def bOI := cr (cr (cl (cl (cr (cl aSC)))))
def aRQ (E : bJ) (r4 : DV) (h : H) : aV := some ((.tup [r4, (ii 0)]), h)
def aDi (E : bJ) (i2 : DV → DV → DV → H → aV) (r4 r5 r6 : DV) (h : H) : aV := vK (bN r6 (ii 1)) λ x1 => i2 r4 r5 x1 h
def vC (i2 : DV → DV → DV → H → aV) (r4 r6 : DV) (h : H) : aV := aDi E i2 r4 (.str []) r6 h
def aAH (r0 : DV) (i2 : DV → DV → DV → H → aV) (r4 r5 r6 : DV) (h : H) : aV := vK (cJ r0) λ x1 => vK (aEF r6 x1) λ x2 => bK x2 (vK (cJ r0) λ x3 => vK (dA r6 x3) λ x4 => bR x4 true (λ kk => kk r0 h) h λ x5 h6 => bR x4 true (λ kk => kk r6 h6) h6 λ x7 h8 => bR x4 true (λ kk => vK (gY x5 x7) λ v => kk v h8) h8 λ x9 h10 => bR x4 true (λ kk => vK (dC x9 (.int .u8 (.ofNat 47))) λ v => kk v h10) h10 λ x11 h12 => vK (bE x4 x11 (.bool false)) λ x13 => bK x13 (vK (bN r6 (ii 1)) λ x14 => vK (iE r0 (some r6) (some x14)) λ x15 => vK (bN r5 x15) λ x16 => aDi E i2 r4 x16 r6 h12) (vK (cG r5 (.str [])) λ x17 => bR x17 false (λ kk => kk r5 h12) h12 λ x18 h19 => bR x17 false (λ kk => vK (cG x18 (.str [46])) λ v => kk v h19) h19 λ x20 h21 => vK (bE x17 (.bool true) x20) λ x22 => bK x22 (vC E i2 r4 r6 h21) (vK (cG r5 (.str [46, 46])) λ x23 => bK x23 (vK (cA r4) λ x24 => vK (fM x24 (ii 1)) λ x25 => vK (aBT x25 (ii 0)) λ x26 => vK (dU 1 r4 none (some x26)) λ x27 => wK (cE 1 16 .nils x27 h21) λ x28 h29 => vC E i2 x28 r6 h29) (wK (aE E 170 [r5] h21) λ x30 h31 => vK (oE x30) λ x32 => bK x32 (some ((.tup [.nils, (ii 15)]), h31)) (fG 1 1 [(.str [])] [(0, 1, r5)] h31 λ x33 h34 => wK (cE 1 16 r4 x33 h34) λ x35 h36 => vC E i2 x35 r6 h36))))) (aRQ E r4 h)
def nC (r0 : DV) (n : Nat) : DV → DV → DV → H → aV := Nat.rec (motive := λ _ => DV → DV → DV → H → aV) (λ _ _ _ _ => none) (λ _ i => aAH E r0 i) n
def aKT (r0 : DV) (h : H) : aV := vK (cG r0 (.str [])) λ x1 => bR x1 false (λ kk => kk r0 h) h λ x2 h3 => bR x1 false (λ kk => vK (gY x2 (ii 0)) λ v => kk v h3) h3 λ x4 h5 => bR x1 false (λ kk => vK (dC x4 (.int .u8 (.ofNat 47))) λ v => kk v h5) h5 λ x6 h7 => vK (bE x1 (.bool true) x6) λ x8 => bR x8 false (λ kk => kk r0 h7) h7 λ x9 h10 => bR x8 false (λ kk => vK (cJ x9) λ v => kk v h10) h10 λ x11 h12 => bR x8 false (λ kk => vK (eI x11 (ii 255)) λ v => kk v h12) h12 λ x13 h14 => vK (bE x8 (.bool true) x13) λ x15 => bK x15 (some ((.tup [.nils, (ii 15)]), h14)) (nC E r0 aQ .nils (.str []) (ii 1) h14)
theorem bKW : Is E bOK (bX aSj.res) (λ σ h => aRQ E (σ p4) h) := Is.rf
abbrev bAL : iY (DV × H) := (cP (λ σ h => aRQ E (σ p4) h) (bX aSj.res))
abbrev bAK (n2 : Nat) : iY (DV × H) := (cP (λ σ h => (nC E (σ p0) n2) (σ p4) (σ p5) (σ p6) h) (bV 0 (bAL E)))
theorem bKU (n2 : Nat) : Is E bOJ (bAK E n2) (λ σ h => aDi E (nC E (σ p0) n2) (σ p4) (σ p5) (σ p6) h) := Is.rf
abbrev bJo (n2 : Nat) : iY (DV × H) := (cP (λ σ h => aDi E (nC E (σ p0) n2) (σ p4) (σ p5) (σ p6) h) (bAK E n2))
theorem bKT (n2 : Nat) : Is E bOI (bV 1 (bJo E n2)) (λ σ h => vC E (nC E (σ p0) n2) (σ p4) (σ p6) h) := Is.rf
theorem bKV : Is E aSC (bV 0 (bAL E)) (λ σ h => nC E (σ p0) aQ (σ p4) (σ p5) (σ p6) h) := Is.lp (λ n2 σ h => nC E (σ p0) n2 (σ p4) (σ p5) (σ p6) h) λ n2 => Is.aq (Is.sq (Is.sq (bKU E n2) (Is.bk (Is.sq (Is.sq (bKT E n2) (Is.leaf _)) (Is.leaf _)))) (Is.leaf _))
theorem bKX : oT E aSj (aKT E) := Is.aq (Is.sq (Is.sq (Is.sq (Is.sq (Is.sq (bKW E) (Is.sq (Is.bk (bKV E)) (Is.leaf _))) (Is.leaf _)) (Is.leaf _)) (Is.leaf _)) (Is.leaf _))
def aZS : cF := nY (aKT E)
theorem bDR : SQ aSj aZS := oZ bKX
def bNs := cm 155
def aKS (r0 r1 : DV) (h : H) : aV := wK (aE E 169 [r0, r1] h) λ x1 h2 => vK (aG 0 x1) λ x3 => vK (aG 1 x1) λ x4 => vK (oE x4) λ x5 => bK x5 (some ((.tup [r0, (ii 0), (ii 7)]), h2)) (vK (dU 2 r0 none (some x3)) λ x6 => vK (bN x3 (ii 1)) λ x7 => vK (dU 2 r0 (some x7) none) λ x8 => vK (cD 2 r0 x3) λ x9 => vK (aI 1 x9) λ x10 => vK (aF h2.get x10) λ x11 => wK (cE 2 24 .nils x6 h2) λ x12 h13 => rK (vL (aF h13.get x10) x11) <| wK (cE 2 24 x12 x8 h13) λ x14 h15 => rK (vL (aF h15.get x10) x11) <| some ((.tup [x14, x11, (ii 0)]), h15))
theorem bKS : lP E bNs (aKS E) := Is.rf
def aZR : cF := lM (aKS E)
theorem bDQ : SQ bNs aZR := lQ bKS
def aSi := cm 156
def bOH := cr (cr (cr aSi.body))
def bOG := cl (cr (cl (cr (cr aSi.body))))
def aKR (E : bJ) (r4 : DV) (h : H) : aV := vK (cG r4 (.str [])) λ x1 => bK x1 (some ((.tup [(.str [47]), (ii 0)]), h)) (some ((.tup [r4, (ii 0)]), h))
def aGD (r0 : DV) (i2 : DV → DV → H → aV) (r4 r5 : DV) (h : H) : aV := vK (cA r0) λ x1 => vK (dA r5 x1) λ x2 => bK x2 (vK (cD 1 r0 r5) λ x3 => vK (aF h.get x3) λ x4 => wK (aE E 170 [x4] h) λ x5 h6 => vK (oE x5) λ x7 => bR x7 false (λ kk => kk r4 h6) h6 λ x8 h9 => bR x7 false (λ kk => vK (cJ x8) λ v => kk v h9) h9 λ x10 h11 => bR x7 false (λ kk => kk r0 h11) h11 λ x12 h13 => bR x7 false (λ kk => kk r5 h13) h13 λ x14 h15 => bR x7 false (λ kk => vK (cD 1 x12 x14) λ v => kk v h15) h15 λ x16 h17 => bR x7 false (λ kk => vK (aF h17.get x16) λ v => kk v h17) h17 λ x18 h19 => bR x7 false (λ kk => vK (cJ x18) λ v => kk v h19) h19 λ x20 h21 => bR x7 false (λ kk => vK (bN x10 x20) λ v => kk v h21) h21 λ x22 h23 => bR x7 false (λ kk => vK (oG x22 (ii 255)) λ v => kk v h23) h23 λ x24 h25 => vK (bE x7 (.bool true) x24) λ x26 => bK x26 (some ((.tup [(.str []), (ii 15)]), h25)) (vK (cD 1 r0 r5) λ x27 => vK (aF h25.get x27) λ x28 => vK (bN (.str [47]) x28) λ x29 => vK (bN r4 x29) λ x30 => vK (bN r5 (ii 1)) λ x31 => i2 x30 x31 h25)) (aKR E r4 h)
def aCU (r0 : DV) (n : Nat) : DV → DV → H → aV := Nat.rec (motive := λ _ => DV → DV → H → aV) (λ _ _ _ => none) (λ _ i => aGD E r0 i) n
def bBq (r0 : DV) (h : H) : aV := aCU E r0 aQ (.str []) (ii 0) h
theorem bKQ : Is E bOH (bX aSi.res) (λ σ h => aKR E (σ p4) h) := Is.rf
abbrev bJn : iY (DV × H) := (cP (λ σ h => aKR E (σ p4) h) (bX aSi.res))
theorem bKP : Is E bOG (bV 0 (bJn E)) (λ σ h => aCU E (σ p0) aQ (σ p4) (σ p5) h) := Is.lp (λ n2 σ h => aCU E (σ p0) n2 (σ p4) (σ p5) h) λ n2 => Is.aq (Is.leaf _)
theorem bKR : oT E aSi (bBq E) := Is.aq (Is.sq (Is.sq (Is.sq (bKQ E) (Is.sq (Is.bk (bKP E)) (Is.leaf _))) (Is.leaf _)) (Is.leaf _))
def aZQ : cF := nY (bBq E)
theorem bDP : SQ aSi aZQ := oZ bKR
def bNr := cm 161
def aKQ (r0 r1 : DV) (h : H) : aV := wK (aE E 172 [r0, r1, (ii 0), (.int .i64 (.negSucc 0))] h) λ x1 h2 => some (x1, h2)
theorem bKO : lP E bNr (aKQ E) := Is.rf
def aZP : cF := lM (aKQ E)
theorem bDO : SQ bNr aZP := lQ bKO
def aSh := cm 162
def bOF := cr (cr (cr aSh.body))
def bOE := cl (cl (cr (cr aSh.body)))
def aKO (r0 r1 r2 r8 : DV) (h : H) : aV := vK (cA r0) λ x1 => vK (dA r8 x1) λ x2 => bR x2 true (λ kk => kk r2 h) h λ x3 h4 => bR x2 true (λ kk => kk r0 h4) h4 λ x5 h6 => bR x2 true (λ kk => kk r8 h6) h6 λ x7 h8 => bR x2 true (λ kk => vK (cD 2 x5 x7) λ v => kk v h8) h8 λ x9 h10 => bR x2 true (λ kk => vK (aM 2 h10.get x9) λ v => kk v h10) h10 λ x11 h12 => bR x2 true (λ kk => wK (kZ E x3 [x11] h12) kk) h12 λ x13 h14 => bR x2 true (λ kk => kk r1 h14) h14 λ x15 h16 => bR x2 true (λ kk => vK (cG x13 x15) λ v => kk v h16) h16 λ x17 h18 => vK (bE x2 x17 (.bool false)) λ x19 => some ((.tup [r8, x19]), h18)
def aGC (r0 r1 r2 : DV) (i2 : DV → DV → H → aV) (r8 r9 : DV) (h : H) : aV := vK (dA r8 r9) λ x1 => bK x1 (vK (bN r8 r9) λ x2 => vK (aSJ x2 (ii 2)) λ x3 => vK (cD 2 r0 x3) λ x4 => vK (aM 2 h.get x4) λ x5 => wK (kZ E r2 [x5] h) λ x6 h7 => vK (dA x6 r1) λ x8 => bK x8 (vK (bN x3 (ii 1)) λ x9 => i2 x9 r9 h7) (i2 r8 x3 h7)) (aKO E r0 r1 r2 r8 h)
def aCT (r0 r1 r2 : DV) (n : Nat) : DV → DV → H → aV := Nat.rec (motive := λ _ => DV → DV → H → aV) (λ _ _ _ => none) (λ _ i => aGC E r0 r1 r2 i) n
def aKP (r0 r1 r2 : DV) (h : H) : aV := vK (cA r0) λ x1 => aCT E r0 r1 r2 aQ (ii 0) x1 h
theorem bKM : Is E bOF (bX aSh.res) (λ σ h => aKO E (σ p0) (σ p1) (σ p2) (σ p8) h) := Is.rf
abbrev bJm : iY (DV × H) := (cP (λ σ h => aKO E (σ p0) (σ p1) (σ p2) (σ p8) h) (bX aSh.res))
theorem bKL : Is E bOE (bV 0 (bJm E)) (λ σ h => aCT E (σ p0) (σ p1) (σ p2) aQ (σ p8) (σ p9) h) := Is.lp (λ n2 σ h => aCT E (σ p0) (σ p1) (σ p2) n2 (σ p8) (σ p9) h) λ n2 => Is.aq (Is.leaf _)
theorem bKN : iB3 E aSh (aKP E) := Is.aq (Is.sq (Is.sq (Is.sq (bKM E) (Is.bk (bKL E))) (Is.leaf _)) (Is.leaf _))
def aZO : cF := fA3 (aKP E)
theorem bDN : SQ aSh aZO := eB3 bKN
def bNq := cm 163
def aKN (E : bJ) (r0 : DV) (h : H) : aV := dV r0 h λ x1 h2 => vK (aI 0 x1) λ x3 => vK (aF h2.get x3) λ x4 => some (x4, h2)
theorem bKK : oT E bNq (aKN E) := Is.rf
def aWZ : cF := nY (aKN E)
theorem bDM : SQ bNq aWZ := oZ bKK
def bNp := cm 164
def aKM (r0 r1 : DV) (h : H) : aV := wK (aE E 173 [r0, r1] h) λ x1 h2 => some (x1, h2)
theorem bKJ : lP E bNp (aKM E) := Is.rf
def aZN : cF := lM (aKM E)
theorem bDL : SQ bNp aZN := lQ bKJ
def bNo := cm 166
def bBp (r0 r1 : DV) (h : H) : aV := vK (cA r0) λ x1 => vK (fM x1 r1) λ x2 => wK (aE E 174 [r0, x2] h) λ x3 h4 => some ((.tup []), h4)
theorem bKI : lP E bNo (bBp E) := Is.rf
def bIV : cF := lM (bBp E)
theorem bDK : SQ bNo bIV := lQ bKI
def aSg := cm 168
def bOD := cr (cr (cr aSg.body))
def bOC := cl (cr (cl (cr (cr aSg.body))))
def aRP (E : bJ) (r0 : DV) (h : H) : aV := some (r0, h)
def aGB (r10 r11 : DV) (i2 : DV → DV → H → aV) (r0 r12 : DV) (h : H) : aV := vK (dA r12 r11) λ x1 => bK x1 (vK (cD 1 r10 r12) λ x2 => vK (aF h.get x2) λ x3 => wK (aE E 108 [r0, x3] h) λ x4 h5 => vK (bN r12 (ii 1)) λ x6 => i2 x4 x6 h5) (aRP E r0 h)
def aCS (r10 r11 : DV) (n : Nat) : DV → DV → H → aV := Nat.rec (motive := λ _ => DV → DV → H → aV) (λ _ _ _ => none) (λ _ i => aGB E r10 r11 i) n
def aKL (r0 r1 : DV) (h : H) : aV := vK (aF h.get r1) λ x1 => vK (cA x1) λ x2 => wK (aE E 106 [r0, x2] h) λ x3 h4 => vK (aF h4.get r1) λ x5 => vK (cA x5) λ x6 => aCS E x5 x6 aQ x3 (ii 0) h4
theorem bKG : Is E bOD (bX aSg.res) (λ σ h => aRP E (σ p0) h) := Is.rf
abbrev bJl : iY (DV × H) := (cP (λ σ h => aRP E (σ p0) h) (bX aSg.res))
theorem bKF : Is E bOC (bV 0 (bJl E)) (λ σ h => aCS E (σ p10) (σ p11) aQ (σ p0) (σ p12) h) := Is.lp (λ n2 σ h => aCS E (σ p10) (σ p11) n2 (σ p0) (σ p12) h) λ n2 => Is.aq (Is.leaf _)
theorem bKH : lP E aSg (aKL E) := Is.aq (Is.sq (Is.sq (Is.sq (bKG E) (Is.sq (Is.bk (bKF E)) (Is.leaf _))) (Is.leaf _)) (Is.leaf _))
def bDJ : cF := lM (aKL E)
theorem bDI : SQ aSg bDJ := lQ bKH
def aSf := cm 169
def bOB := cr (cr (cr aSf.body))
def bOA := cl (cl (cr (cr aSf.body)))
def aGj (E : bJ) (r0 r1 r6 : DV) (h : H) : aV := vK (cA r0) λ x1 => vK (dA r6 x1) λ x2 => bR x2 true (λ kk => kk r0 h) h λ x3 h4 => bR x2 true (λ kk => kk r6 h4) h4 λ x5 h6 => bR x2 true (λ kk => vK (cD 2 x3 x5) λ v => kk v h6) h6 λ x7 h8 => bR x2 true (λ kk => vK (aI 0 x7) λ v => kk v h8) h8 λ x9 h10 => bR x2 true (λ kk => vK (aF h10.get x9) λ v => kk v h10) h10 λ x11 h12 => bR x2 true (λ kk => kk r1 h12) h12 λ x13 h14 => bR x2 true (λ kk => vK (cG x11 x13) λ v => kk v h14) h14 λ x15 h16 => vK (bE x2 x15 (.bool false)) λ x17 => some ((.tup [r6, x17]), h16)
def aGA (r0 r1 : DV) (i2 : DV → H → aV) (r6 : DV) (h : H) : aV := vK (cA r0) λ x1 => vK (dA r6 x1) λ x2 => bR x2 true (λ kk => kk r0 h) h λ x3 h4 => bR x2 true (λ kk => kk r6 h4) h4 λ x5 h6 => bR x2 true (λ kk => vK (cD 2 x3 x5) λ v => kk v h6) h6 λ x7 h8 => bR x2 true (λ kk => vK (aI 0 x7) λ v => kk v h8) h8 λ x9 h10 => bR x2 true (λ kk => vK (aF h10.get x9) λ v => kk v h10) h10 λ x11 h12 => bR x2 true (λ kk => kk r1 h12) h12 λ x13 h14 => bR x2 true (λ kk => vK (dA x11 x13) λ v => kk v h14) h14 λ x15 h16 => vK (bE x2 x15 (.bool false)) λ x17 => bK x17 (vK (bN r6 (ii 1)) λ x18 => i2 x18 h16) (aGj E r0 r1 r6 h16)
def aCR (r0 r1 : DV) (n : Nat) : DV → H → aV := Nat.rec (motive := λ _ => DV → H → aV) (λ _ _ => none) (λ _ i => aGA E r0 r1 i) n
def bBo (r0 r1 : DV) (h : H) : aV := aCR E r0 r1 aQ (ii 0) h
theorem bKD : Is E bOB (bX aSf.res) (λ σ h => aGj E (σ p0) (σ p1) (σ p6) h) := Is.rf
abbrev bJk : iY (DV × H) := (cP (λ σ h => aGj E (σ p0) (σ p1) (σ p6) h) (bX aSf.res))
theorem bKC : Is E bOA (bV 0 (bJk E)) (λ σ h => aCR E (σ p0) (σ p1) aQ (σ p6) h) := Is.lp (λ n2 σ h => aCR E (σ p0) (σ p1) n2 (σ p6) h) λ n2 => Is.aq (Is.leaf _)
theorem bKE : lP E aSf (bBo E) := Is.aq (Is.sq (Is.sq (Is.sq (bKD E) (Is.bk (bKC E))) (Is.leaf _)) (Is.leaf _))
def aZM : cF := lM (bBo E)
theorem bDH : SQ aSf aZM := lQ bKE
def aSe := cm 170
def bOz := cr (cr aSe.body)
def bOy := cl (cr (cl (cr aSe.body)))
def aGi (E : bJ) (r0 : DV) (h : H) : aV := vK (dC r0 (.str [])) λ x1 => bR x1 true (λ kk => kk r0 h) h λ x2 h3 => bR x1 true (λ kk => vK (cJ x2) λ v => kk v h3) h3 λ x4 h5 => bR x1 true (λ kk => vK (aEF x4 (ii 28)) λ v => kk v h5) h5 λ x6 h7 => vK (bE x1 x6 (.bool false)) λ x8 => bR x8 true (λ kk => kk r0 h7) h7 λ x9 h10 => bR x8 true (λ kk => vK (dC x9 (.str [46])) λ v => kk v h10) h10 λ x11 h12 => vK (bE x8 x11 (.bool false)) λ x13 => bR x13 true (λ kk => kk r0 h12) h12 λ x14 h15 => bR x13 true (λ kk => vK (dC x14 (.str [46, 46])) λ v => kk v h15) h15 λ x16 h17 => vK (bE x13 x16 (.bool false)) λ x18 => some (x18, h17)
def aGz (r0 : DV) (i2 : DV → H → aV) (r3 : DV) (h : H) : aV := vK (cJ r0) λ x1 => vK (dA r3 x1) λ x2 => bK x2 (vK (gY r0 r3) λ x3 => vK (cG x3 (.int .u8 (.ofNat 0))) λ x4 => bR x4 false (λ kk => kk r0 h) h λ x5 h6 => bR x4 false (λ kk => kk r3 h6) h6 λ x7 h8 => bR x4 false (λ kk => vK (gY x5 x7) λ v => kk v h8) h8 λ x9 h10 => bR x4 false (λ kk => vK (cG x9 (.int .u8 (.ofNat 47))) λ v => kk v h10) h10 λ x11 h12 => vK (bE x4 (.bool true) x11) λ x13 => bK x13 (some ((.bool false), h12)) (vK (bN r3 (ii 1)) λ x14 => i2 x14 h12)) (aGi E r0 h)
def aCQ (r0 : DV) (n : Nat) : DV → H → aV := Nat.rec (motive := λ _ => DV → H → aV) (λ _ _ => none) (λ _ i => aGz E r0 i) n
def bBn (r0 : DV) (h : H) : aV := aCQ E r0 aQ (ii 0) h
theorem bKA : Is E bOz (bX aSe.res) (λ σ h => aGi E (σ p0) h) := Is.rf
abbrev bJj : iY (DV × H) := (cP (λ σ h => aGi E (σ p0) h) (bX aSe.res))
theorem bKz : Is E bOy (bV 0 (bJj E)) (λ σ h => aCQ E (σ p0) aQ (σ p3) h) := Is.lp (λ n2 σ h => aCQ E (σ p0) n2 (σ p3) h) λ n2 => Is.aq (Is.leaf _)
theorem bKB : oT E aSe (bBn E) := Is.aq (Is.sq (Is.sq (bKA E) (Is.sq (Is.bk (bKz E)) (Is.leaf _))) (Is.leaf _))
def aZL : cF := nY (bBn E)
theorem bDG : SQ aSe aZL := oZ bKB
def aSd := cm 172
def aSB := cr (cr (cr (cr aSd.body)))
def bOx := cr (cr (cr (cr (cr aSB))))
def bOw := cl (cl (cr (cr (cr (cr aSB)))))
def aGh (E : bJ) (r0 r9 r10 : DV) (h : H) : aV := vK (cD 1 r9 r10) λ x1 => wK (bY 1 x1 r0 h) λ x2 h3 => vK (bN r10 (ii 1)) λ x4 => vK (dU 1 r9 none (some x4)) λ x5 => some (x5, h3)
def aGy (r1 r2 r3 r9 : DV) (i3 : DV → DV → H → aV) (r0 r10 : DV) (h : H) : aV := vK (dA r10 r3) λ x1 => bK x1 (wK (aE E 183 [r0, r1] h) λ x2 h3 => vK (dA x2 (ii 0)) λ x4 => bK x4 (aGh E r0 r9 r10 h3) (vK (bN x2 r2) λ x5 => vK (iE r0 none (some x5)) λ x6 => vK (cD 1 r9 r10) λ x7 => wK (bY 1 x7 x6 h3) λ x8 h9 => vK (cJ r1) λ x10 => vK (bN x2 x10) λ x11 => vK (iE r0 (some x11) none) λ x12 => vK (bN r10 (ii 1)) λ x13 => i3 x12 x13 h9)) (aGh E r0 r9 r10 h)
def aCP (r1 r2 r3 r9 : DV) (n : Nat) : DV → DV → H → aV := Nat.rec (motive := λ _ => DV → DV → H → aV) (λ _ _ _ => none) (λ _ i => aGy E r1 r2 r3 r9 i) n
def aKJ (r0 r1 r2 r3 : DV) (h : H) : aV := vK (cJ r0) λ x1 => vK (bN x1 (ii 1)) λ x2 => vK (aAP r3 x2) λ x3 => vG 1 16 (.str []) x3 x3 h λ x4 h5 => vK (fM x3 (ii 1)) λ x6 => aCP E r1 r2 x6 x4 aQ r0 (ii 0) h5
def aKK (r0 r1 r2 r3 : DV) (h : H) : aV := vK (cG r3 (ii 0)) λ x1 => bK x1 (some (.nils, h)) (vK (cG r1 (.str [])) λ x2 => bK x2 (wK (aE E 181 [r0, r3] h) λ x3 h4 => some (x3, h4)) (vK (dA r3 (ii 0)) λ x5 => bK x5 (wK (aE E 182 [r0, r1] h) λ x6 h7 => vK (bN x6 (ii 1)) λ x8 => aKJ E r0 r1 r2 x8 h7) (aKJ E r0 r1 r2 r3 h)))
theorem bKw : Is E bOx (bX aSd.res) (λ σ h => aGh E (σ p0) (σ p9) (σ p10) h) := Is.rf
abbrev bJi : iY (DV × H) := (cP (λ σ h => aGh E (σ p0) (σ p9) (σ p10) h) (bX aSd.res))
theorem bKv : Is E bOw (bV 0 (bJi E)) (λ σ h => aCP E (σ p1) (σ p2) (σ p3) (σ p9) aQ (σ p0) (σ p10) h) := Is.lp (λ n3 σ h => aCP E (σ p1) (σ p2) (σ p3) (σ p9) n3 (σ p0) (σ p10) h) λ n3 => Is.aq (Is.leaf _)
theorem bKx : Is E aSB (bX aSd.res) (λ σ h => aKJ E (σ p0) (σ p1) (σ p2) (σ p3) h) := Is.aq (Is.sq (Is.sq (Is.sq (Is.sq (Is.sq (bKw E) (Is.bk (bKv E))) (Is.leaf _)) (Is.leaf _)) (Is.leaf _)) (Is.leaf _))
theorem bKy : iB4 E aSd (aKK E) := Is.aq (Is.sq (Is.sq (Is.sq (Is.sq (bKx E) (Is.leaf _)) (Is.leaf _)) (Is.leaf _)) (Is.leaf _))
def aZK : cF := fA4 (aKK E)
theorem bDF : SQ aSd aZK := eB4 bKy
def bNn := cm 173
def aDh (E : bJ) (r0 r1 : DV) (h : H) : aV := vK (aJb r0 r1) λ x1 => some (x1, h)
theorem bKu : lP E bNn (aDh E) := Is.rf
def aKv : cF := lM (aDh E)
theorem bDE : SQ bNn aKv := lQ bKu
def bNm := cm 174
def bBm (r0 r1 : DV) (h : H) : aV := vK (dU 2 r0 none (some r1)) λ x1 => wK (aE E 185 [x1] h) λ x2 h3 => vK (dU 2 r0 (some r1) none) λ x4 => wK (aE E 185 [x4] h3) λ x5 h6 => wK (aE E 185 [r0] h6) λ x7 h8 => some ((.tup []), h8)
theorem bKt : lP E bNm (bBm E) := Is.rf
def bIU : cF := lM (bBm E)
theorem bDD : SQ bNm bIU := lQ bKt
def aPf := cm 181
def aSA := cr (cr (cr aPf.body))
def bBG := cr (cr aSA)
def bOu := cr bBG
def bOv := cl (cr (cl (cr aSA)))
def aRM (E : bJ) (r6 : DV) (h : H) : aV := some (r6, h)
def aRN (r0 r1 r6 : DV) (h : H) : aV := vK (eI r1 (ii 0)) λ x1 => bK x1 (vK (fM r1 (ii 1)) λ x2 => vK (cD 1 r6 x2) λ x3 => wK (bY 1 x3 r0 h) λ x4 h5 => aRM E r6 h5) (aRM E r6 h)
def bPz (r1 r6 : DV) (i3 : DV → DV → H → aV) (r0 r7 : DV) (h : H) : aV := vK (fM r1 (ii 1)) λ x1 => vK (dA r7 x1) λ x2 => bK x2 (wK (aE E 192 [r0] h) λ x3 h4 => vK (aG 0 x3) λ x5 => vK (aG 1 x3) λ x6 => vK (iE r0 none (some x6)) λ x7 => vK (cD 1 r6 r7) λ x8 => wK (bY 1 x8 x7 h4) λ x9 h10 => vK (iE r0 (some x6) none) λ x11 => vK (bN r7 (ii 1)) λ x12 => i3 x11 x12 h10) (aRN E r0 r1 r6 h)
def aRD (r1 r6 : DV) (n : Nat) : DV → DV → H → aV := Nat.rec (motive := λ _ => DV → DV → H → aV) (λ _ _ _ => none) (λ _ i => bPz E r1 r6 i) n
def aRO (r0 r1 : DV) (h : H) : aV := vG 1 16 (.str []) r1 r1 h λ x1 h2 => aRD E r1 x1 aQ r0 (ii 0) h2
def bBl (r0 r1 : DV) (h : H) : aV := wK (aE E 191 [r0] h) λ x1 h2 => vK (dA r1 (ii 0)) λ x3 => bR x3 false (λ kk => kk r1 h2) h2 λ x4 h5 => bR x3 false (λ kk => kk x1 h5) h5 λ x6 h7 => bR x3 false (λ kk => vK (eI x4 x6) λ v => kk v h7) h7 λ x8 h9 => vK (bE x3 (.bool true) x8) λ x10 => bK x10 (aRO E r0 x1 h9) (aRO E r0 r1 h9)
theorem bKo : Is E bOu (bX aPf.res) (λ σ h => aRM E (σ p6) h) := Is.rf
theorem bKq : Is E bBG (bX aPf.res) (λ σ h => aRN E (σ p0) (σ p1) (σ p6) h) := Is.aq (Is.sq (bKo E) (Is.leaf _))
abbrev bJh : iY (DV × H) := (cP (λ σ h => aRN E (σ p0) (σ p1) (σ p6) h) (bX aPf.res))
theorem bKp : Is E bOv (bV 0 (bJh E)) (λ σ h => aRD E (σ p1) (σ p6) aQ (σ p0) (σ p7) h) := Is.lp (λ n3 σ h => aRD E (σ p1) (σ p6) n3 (σ p0) (σ p7) h) λ n3 => Is.aq (Is.leaf _)
theorem bKr : Is E aSA (bX aPf.res) (λ σ h => aRO E (σ p0) (σ p1) h) := Is.aq (Is.sq (Is.sq (bKq E) (Is.sq (Is.bk (bKp E)) (Is.leaf _))) (Is.leaf _))
theorem bKs : lP E aPf (bBl E) := Is.aq (Is.sq (Is.sq (Is.sq (bKr E) (Is.leaf _)) (Is.leaf _)) (Is.leaf _))
def bIS : cF := lM (bBl E)
theorem bDC : SQ aPf bIS := lQ bKs
def bBA := cm 182
def bOt := cl (cr (cr (cr (cr bBA.body))))
def bPy (r1 : DV) (i1 : DV → DV → H → aV) (r0 r5 : DV) (h : H) : aV := wK (aE E 183 [r0, r1] h) λ x1 h2 => vK (cG x1 (.int .i64 (.negSucc 0))) λ x3 => bK x3 (some (r5, h2)) (vK (bN r5 (ii 1)) λ x4 => vK (cJ r1) λ x5 => vK (bN x1 x5) λ x6 => vK (iE r0 (some x6) none) λ x7 => i1 x7 x4 h2)
def aRC (r1 : DV) (n : Nat) : DV → DV → H → aV := Nat.rec (motive := λ _ => DV → DV → H → aV) (λ _ _ _ => none) (λ _ i => bPy E r1 i) n
def aKI (r0 r1 : DV) (h : H) : aV := vK (cJ r1) λ x1 => vK (cG x1 (ii 0)) λ x2 => bK x2 (wK (aE E 191 [r0] h) λ x3 h4 => vK (bN x3 (ii 1)) λ x5 => some (x5, h4)) (vK (cJ r1) λ x6 => vK (cG x6 (ii 1)) λ x7 => bK x7 (vK (gY r1 (ii 0)) λ x8 => vK (aPG r0 x8) λ x9 => some (x9, h)) (aRC E r1 aQ r0 (ii 0) h))
theorem bKm : Is E bOt (bV 0 (bX bBA.res)) (λ σ h => aRC E (σ p1) aQ (σ p0) (σ p5) h) := Is.lp (λ n1 σ h => aRC E (σ p1) n1 (σ p0) (σ p5) h) λ n1 => Is.aq (Is.leaf _)
theorem bKn : lP E bBA (aKI E) := Is.aq (Is.sq (Is.sq (Is.sq (Is.sq (Is.bk (bKm E)) (Is.leaf _)) (Is.leaf _)) (Is.leaf _)) (Is.leaf _))
def aZJ : cF := lM (aKI E)
theorem bDB : SQ bBA aZJ := lQ bKn
def bNl := cm 183
def aKH (r0 r1 : DV) (h : H) : aV := wK (aE E 194 [r0, r1] h) λ x1 h2 => some (x1, h2)
theorem bKl : lP E bNl (aKH E) := Is.rf
def aZI : cF := lM (aKH E)
theorem bDA : SQ bNl aZI := lQ bKl
def fs0 : List FD := [⟨7, D7, S7⟩, ⟨12, D12, S12⟩, ⟨13, D13, S13⟩, ⟨15, D15, S15⟩, ⟨17, D17, S17⟩, ⟨18, D18, S18⟩, ⟨19, D19, S19⟩, ⟨20, D20, S20⟩, ⟨21, D21, S21⟩, ⟨22, D22, S22⟩, ⟨23, D23, S23⟩, ⟨24, D24, S24⟩, ⟨25, D25, S25⟩, ⟨26, D26, S26⟩, ⟨27, D27, S27⟩, ⟨32, D32, S32⟩, ⟨33, D33, S33⟩, ⟨34, D34, S34⟩, ⟨35, D35, S35⟩, ⟨40, D40, S40⟩, ⟨41, D41, S41⟩, ⟨42, D42, S42⟩, ⟨43, D43, S43⟩, ⟨44, D44, S44⟩, ⟨45, D45, S45⟩, ⟨46, D46, S46⟩, ⟨47, D47, S47⟩, ⟨48, D48, S48⟩, ⟨49, D49, S49⟩, ⟨50, D50, S50⟩, ⟨51, D51, S51⟩, ⟨52, D52, S52⟩, ⟨53, D53, S53⟩, ⟨54, D54, S54⟩, ⟨55, D55, S55⟩, ⟨56, D56, S56⟩, ⟨57, D57, S57⟩, ⟨58, D58, S58⟩, ⟨59, D59, S59⟩, ⟨64, D64, S64⟩, ⟨65, D65, S65⟩, ⟨66, D66, S66⟩, ⟨67, D67, S67⟩, ⟨68, D68, S68⟩, ⟨69, D69, S69⟩, ⟨70, D70, S70⟩, ⟨71, D71, S71⟩, ⟨72, D72, S72⟩, ⟨73, D73, S73⟩, ⟨74, D74, S74⟩, ⟨75, D75, S75⟩, ⟨76, D76, S76⟩, ⟨77, D77, S77⟩, ⟨80, D80, S80⟩, ⟨81, D81, S81⟩, ⟨82, D82, S82⟩, ⟨83, D83, S83⟩, ⟨84, D84, S84⟩, ⟨85, D85, S85⟩, ⟨86, D86, S86⟩, ⟨87, D87, S87⟩, ⟨88, D88, S88⟩, ⟨90, D90, S90⟩, ⟨92, D92, S92⟩, ⟨93, D93, S93⟩, ⟨94, D94, S94⟩, ⟨95, D95, S95⟩, ⟨96, D96, S96⟩, ⟨97, D97, S97⟩, ⟨98, D98, S98⟩, ⟨99, D99, S99⟩, ⟨100, bOd, bAF⟩, ⟨101, bOc, aXe⟩, ⟨102, bOb, bAE⟩, ⟨103, bOa, aOP⟩, ⟨104, bNZ, bEP⟩, ⟨105, bNY, bEN⟩, ⟨106, aSw, aRw⟩, ⟨107, bNX, bEK⟩, ⟨108, bNW, aRv⟩, ⟨109, bNV, bAD⟩, ⟨110, aSv, bAC⟩, ⟨111, bNU, bAB⟩, ⟨113, bNT, bAA⟩, ⟨114, bNS, bAz⟩, ⟨115, bNR, bAy⟩, ⟨116, bNQ, bAx⟩, ⟨117, aSu, bAw⟩, ⟨118, bNP, bAv⟩, ⟨119, bNO, bAu⟩, ⟨120, bNN, bAt⟩, ⟨121, bNM, bAs⟩, ⟨122, aSt, bAr⟩, ⟨123, bNL, bAq⟩, ⟨124, aSs, bAp⟩, ⟨125, bNK, bAo⟩, ⟨126, aSr, bAn⟩, ⟨127, bNJ, bAm⟩, ⟨128, aSq, bAl⟩, ⟨129, bNI, bAk⟩, ⟨130, bNH, bAj⟩, ⟨131, bNG, aXd⟩, ⟨132, bNF, bAi⟩, ⟨133, aSp, bAh⟩, ⟨136, aSo, bAg⟩, ⟨137, aSn, bAf⟩, ⟨138, aSm, bAe⟩, ⟨139, aLZ, aXc⟩, ⟨140, bNE, aXb⟩, ⟨141, aSl, bAd⟩, ⟨142, bND, bAc⟩, ⟨143, bNC, bAb⟩, ⟨144, aSk, bAa⟩, ⟨145, bNB, aZZ⟩, ⟨146, bNA, aZY⟩, ⟨147, bNz, aKw⟩, ⟨148, bNy, aXa⟩, ⟨149, bNx, aZX⟩, ⟨150, bNw, aZW⟩, ⟨151, bNv, aZV⟩, ⟨152, bNu, aZU⟩, ⟨153, bNt, aZT⟩, ⟨154, aSj, aZS⟩, ⟨155, bNs, aZR⟩, ⟨156, aSi, aZQ⟩, ⟨161, bNr, aZP⟩, ⟨162, aSh, aZO⟩, ⟨163, bNq, aWZ⟩, ⟨164, bNp, aZN⟩, ⟨166, bNo, bIV⟩, ⟨168, aSg, bDJ⟩, ⟨169, aSf, aZM⟩, ⟨170, aSe, aZL⟩, ⟨172, aSd, aZK⟩, ⟨173, bNn, aKv⟩, ⟨174, bNm, bIU⟩, ⟨181, aPf, bIS⟩, ⟨182, bBA, aZJ⟩, ⟨183, bNl, aZI⟩]
theorem bGP : xR fs0 := ⟨bRX, ⟨bIY, ⟨bIX, ⟨bIW, ⟨bIT, ⟨bIQ, ⟨bIL, ⟨bII, ⟨bIH, ⟨bIG, ⟨bIF, ⟨bIE, ⟨bID, ⟨bIC, ⟨bIB, ⟨bIA, ⟨bIz, ⟨bIy, ⟨bIx, ⟨bIw, ⟨bIv, ⟨bIu, ⟨bIt, ⟨bIs, ⟨bIr, ⟨bIp, ⟨bIo, ⟨bIn, ⟨bIm, ⟨bIl, ⟨bIk, ⟨bIj, ⟨bIi, ⟨bIh, ⟨bIg, ⟨bIf, ⟨bIe, ⟨bId, ⟨bIc, ⟨bIb, ⟨bIa, ⟨bHZ, ⟨bHY, ⟨bHX, ⟨bHW, ⟨bHV, ⟨bHU, ⟨bHT, ⟨bHS, ⟨bHR, ⟨bHQ, ⟨bHP, ⟨bHO, ⟨bHN, ⟨bHM, ⟨bHL, ⟨bHK, ⟨bHJ, ⟨bHI, ⟨bHH, ⟨bHG, ⟨bHF, ⟨bHE, ⟨bHD, ⟨bHC, ⟨bHB, ⟨bHA, ⟨bHz, ⟨bHy, ⟨bHx, ⟨bHw, ⟨bET, ⟨bES, ⟨bER, ⟨bEQ, ⟨bEO, ⟨bEM, ⟨bEL, ⟨bEJ, ⟨bEI, ⟨bEH, ⟨bEG, ⟨bEF, ⟨bEE, ⟨bED, ⟨bEC, ⟨bEB, ⟨bEA, ⟨bEz, ⟨bEy, ⟨bEx, ⟨bEw, ⟨bEv, ⟨bEu, ⟨bEt, ⟨bEs, ⟨bEr, ⟨bEq, ⟨bEp, ⟨bEo, ⟨bEn, ⟨bEm, ⟨bEl, ⟨bEk, ⟨bEj, ⟨bEi, ⟨bEh, ⟨bEg, ⟨bEf, ⟨bEe, ⟨bEd, ⟨bEc, ⟨bEb, ⟨bEa, ⟨bDZ, ⟨bDY, ⟨bDX, ⟨bDW, ⟨bDV, ⟨bDU, ⟨bDT, ⟨bDS, ⟨bDR, ⟨bDQ, ⟨bDP, ⟨bDO, ⟨bDN, ⟨bDM, ⟨bDL, ⟨bDK, ⟨bDI, ⟨bDH, ⟨bDG, ⟨bDF, ⟨bDE, ⟨bDD, ⟨bDC, ⟨bDB, ⟨bDA, trivial⟩⟩⟩⟩⟩⟩⟩⟩⟩⟩⟩⟩⟩⟩⟩⟩⟩⟩⟩⟩⟩⟩⟩⟩⟩⟩⟩⟩⟩⟩⟩⟩⟩⟩⟩⟩⟩⟩⟩⟩⟩⟩⟩⟩⟩⟩⟩⟩⟩⟩⟩⟩⟩⟩⟩⟩⟩⟩⟩⟩⟩⟩⟩⟩⟩⟩⟩⟩⟩⟩⟩⟩⟩⟩⟩⟩⟩⟩⟩⟩⟩⟩⟩⟩⟩⟩⟩⟩⟩⟩⟩⟩⟩⟩⟩⟩⟩⟩⟩⟩⟩⟩⟩⟩⟩⟩⟩⟩⟩⟩⟩⟩⟩⟩⟩⟩⟩⟩⟩⟩⟩⟩⟩⟩⟩⟩⟩⟩⟩⟩⟩⟩⟩⟩⟩⟩⟩⟩⟩
end Go.Proofs.YtmafhiogonejfaaGreatDoor
end

/- The functions of the program as D's and as plain Lean functions, and that both are the same. No condition. -/
import Derived.KernelRfl
import Derived.Test.YthpciaidbgjoeaaGreatDd
import Derived.Test.YthpciaidbgjoeaaGreatChecked
set_option linter.unusedVariables false
noncomputable section
namespace Go.Proofs.YthpciaidbgjoeaaGreat
open Go.DI
variable (E : aX)
def cm (f : Nat) : DF := cmF Tryz.prog f
attribute [irreducible] cm
def p0 : Pa := .h
def p1 : Pa := .l p0
def p2 : Pa := .r p0
def p3 : Pa := .l p1
def p4 : Pa := .r p1
def p5 : Pa := .l p2
def p6 : Pa := .r p2
def p7 : Pa := .l p3
def p8 : Pa := .r p3
def p9 : Pa := .l p4
def lT : Pa := .r p4
def p11 : Pa := .l p5
def rU : Pa := .r p5
def pU : Pa := .l p6
def qU : Pa := .r p6
def p15 : Pa := .l p7
def p16 : Pa := .r p7
def p17 : Pa := .l p8
def p18 : Pa := .r p8
def p19 : Pa := .l p9
def p20 : Pa := .r p9
def p21 : Pa := .l lT
def p22 : Pa := .r lT
def p23 : Pa := .l p11
def p24 : Pa := .r p11
def p25 : Pa := .l rU
def p26 : Pa := .r rU
def p27 : Pa := .l pU
def p28 : Pa := .r pU
def p29 : Pa := .l qU
def p30 : Pa := .r qU
def p31 : Pa := .l p15
def p32 : Pa := .r p15
def p33 : Pa := .l p16
def p34 : Pa := .r p16
def p35 : Pa := .l p17
def p36 : Pa := .r p17
def p37 : Pa := .l p18
def p38 : Pa := .r p18
def p39 : Pa := .l p19
def p40 : Pa := .r p19
def p41 : Pa := .l p20
def p42 : Pa := .r p20
def p43 : Pa := .l p21
def p44 : Pa := .r p21
def p45 : Pa := .l p22
def p46 : Pa := .r p22
def p47 : Pa := .l p23
def p48 : Pa := .r p23
def p49 : Pa := .l p24
def p50 : Pa := .r p24
def p51 : Pa := .l p25
def p52 : Pa := .r p25
def p53 : Pa := .l p26
def p54 : Pa := .r p26
def p55 : Pa := .l p27
def p56 : Pa := .r p27
def p57 : Pa := .l p28
def p58 : Pa := .r p28
def p59 : Pa := .l p29
def p60 : Pa := .r p29
def p61 : Pa := .l p30
def p62 : Pa := .r p30
def p63 : Pa := .l p31
def p64 : Pa := .r p31
def p65 : Pa := .l p32
def p66 : Pa := .r p32
def p67 : Pa := .l p33
def p68 : Pa := .r p33
def p69 : Pa := .l p34
def p70 : Pa := .r p34
def p71 : Pa := .l p35
def p72 : Pa := .r p35
def p73 : Pa := .l p36
def p74 : Pa := .r p36
def p75 : Pa := .l p37
def p76 : Pa := .r p37
def p77 : Pa := .l p38
def p78 : Pa := .r p38
def p79 : Pa := .l p39
def p80 : Pa := .r p39
def p81 : Pa := .l p40
def p82 : Pa := .r p40
def p83 : Pa := .l p41
def p84 : Pa := .r p41
def p85 : Pa := .l p42
def p86 : Pa := .r p42
def p87 : Pa := .l p43
def p88 : Pa := .r p43
def p89 : Pa := .l p44
def p90 : Pa := .r p44
def p91 : Pa := .l p45
def p92 : Pa := .r p45
def p93 : Pa := .l p46
def p94 : Pa := .r p46
def p95 : Pa := .l p47
def p96 : Pa := .r p47
def p97 : Pa := .l p48
def p98 : Pa := .r p48
def p99 : Pa := .l p49
def p100 : Pa := .r p49
def p101 : Pa := .l p50
def p102 : Pa := .r p50
def p103 : Pa := .l p51
def p104 : Pa := .r p51
def p105 : Pa := .l p52
def p106 : Pa := .r p52
def p107 : Pa := .l p53
def p108 : Pa := .r p53
def p109 : Pa := .l p54
def p110 : Pa := .r p54
def p111 : Pa := .l p55
def p112 : Pa := .r p55
def p113 : Pa := .l p56
def p114 : Pa := .r p56
def D5 := cm 5
def aBz (r0 r1 r2 : DV) (h : H) : aQ := cL r0 h λ x1 h2 => vK (aG 1 x1) λ x3 => vK (aF h2.get x3) λ x4 => vK (dA x4 (ii 200)) λ x5 => bK x5 (wK (aB E 17 [] h2) λ x6 h7 => some (x6, h7)) (vK (aG 0 x1) λ x8 => vK (aF h2.get x8) λ x9 => vK (aG 1 x1) λ x10 => vK (aF h2.get x10) λ x11 => vK (aG 2 x1) λ x12 => vK (aF h2.get x12) λ x13 => vK (aG 3 x1) λ x14 => vK (aF h2.get x14) λ x15 => wK (aB E 8 [x9, x11, x13, x15] h2) λ x16 h17 => wK (aB E 18 [x16] h17) λ x18 h19 => vK (bY .ptr false h19.get x16 .nilp) λ x20 => aP x20 false (λ kk => kk x18 h19) h19 λ x21 h22 => aP x20 false (λ kk => kk r1 h22) h22 λ x23 h24 => aP x20 false (λ kk => wK (aB E 19 [x21, x23] h24) kk) h24 λ x25 h26 => aP x20 false (λ kk => vK (cW x25 (ii 0)) λ v => kk v h26) h26 λ x27 h28 => vK (aK x20 (.bool true) x27) λ x29 => bK x29 (wK (aB E 17 [] h28) λ x30 h31 => some (x30, h31)) (wK (aB E 19 [x18, r2] h28) λ x32 h33 => wK (aB E 20 [x18] h33) λ x34 h35 => vK (aT 0 x34) λ x36 => vK (aT 1 x34) λ x37 => vK (cW x32 (ii 0)) λ x38 => aP x38 true (λ kk => kk x37 h35) h35 λ x39 h40 => aP x38 true (λ kk => vK (bV x39 (ii 0)) λ v => kk v h40) h40 λ x41 h42 => aP x38 true (λ kk => vK (aG 3 x1) λ v => kk v h42) h42 λ x43 h44 => aP x38 true (λ kk => vK (aF h44.get x43) λ v => kk v h44) h44 λ x45 h46 => aP x38 true (λ kk => vK (dA x45 (ii 0)) λ v => kk v h46) h46 λ x47 h48 => aP x38 true (λ kk => vK (bY .bool false h48.get x41 x47) λ v => kk v h48) h48 λ x49 h50 => vK (aK x38 x49 (.bool false)) λ x51 => aP x51 true (λ kk => kk x18 h50) h50 λ x52 h53 => aP x51 true (λ kk => wK (aB E 21 [x52] h53) kk) h53 λ x54 h55 => aP x51 true (λ kk => vK (aW x54) λ v => kk v h55) h55 λ x56 h57 => aP x51 true (λ kk => vK (bV x56 (ii 0)) λ v => kk v h57) h57 λ x58 h59 => vK (aK x51 x58 (.bool false)) λ x60 => aP x60 true (λ kk => kk x37 h59) h59 λ x61 h62 => aP x60 true (λ kk => vK (bV x61 (ii 0)) λ v => kk v h62) h62 λ x63 h64 => aP x60 true (λ kk => kk x18 h64) h64 λ x65 h66 => aP x60 true (λ kk => wK (aB E 22 [x65] h66) kk) h66 λ x67 h68 => aP x60 true (λ kk => vK (bV x67 (ii 0)) λ v => kk v h68) h68 λ x69 h70 => aP x60 true (λ kk => vK (bY .bool false h70.get x63 x69) λ v => kk v h70) h70 λ x71 h72 => vK (aK x60 x71 (.bool false)) λ x73 => aP x73 true (λ kk => wK (aB E 17 [] h72) kk) h72 λ x74 h75 => vK (aK x73 x74 (.bool false)) λ x76 => some (x76, h75)))
theorem I5_0 : iB3 E D5 (aBz E) := Is.rf
def S5 : bB := fA3 (aBz E)
theorem bJY : SQ D5 S5 := eB3 I5_0
def D8 := cm 8
def aMR (r0 r1 r2 r3 : DV) (h : H) : aQ := vK (bF r0 (ii 1)) λ x1 => aP x1 false (λ kk => kk r0 h) h λ x2 h3 => aP x1 false (λ kk => vK (dA x2 (ii 8)) λ v => kk v h3) h3 λ x4 h5 => vK (aK x1 (.bool true) x4) λ x6 => aP x6 false (λ kk => kk r2 h5) h5 λ x7 h8 => aP x6 false (λ kk => vK (bF x7 (ii 2)) λ v => kk v h8) h8 λ x9 h10 => vK (aK x6 (.bool true) x9) λ x11 => aP x11 false (λ kk => kk r2 h10) h10 λ x12 h13 => aP x11 false (λ kk => vK (dA x12 (ii 8)) λ v => kk v h13) h13 λ x14 h15 => vK (aK x11 (.bool true) x14) λ x16 => aP x16 false (λ kk => kk r3 h15) h15 λ x17 h18 => aP x16 false (λ kk => vK (bF x17 (ii 0)) λ v => kk v h18) h18 λ x19 h20 => vK (aK x16 (.bool true) x19) λ x21 => aP x21 false (λ kk => kk r3 h20) h20 λ x22 h23 => aP x21 false (λ kk => kk r0 h23) h23 λ x24 h25 => aP x21 false (λ kk => kk r2 h25) h25 λ x26 h27 => aP x21 false (λ kk => vK (jO x24 x26) λ v => kk v h27) h27 λ x28 h29 => aP x21 false (λ kk => vK (dA x22 x28) λ v => kk v h29) h29 λ x30 h31 => vK (aK x21 (.bool true) x30) λ x32 => bK x32 (some (.nilp, h31)) (wK (aB E 25 [r0, r1] h31) λ x33 h34 => wK (aB E 27 [(ii 0), r2] h34) λ x35 h36 => wK (aB E 27 [r2, r3] h36) λ x37 h38 => wK (aB E 26 [x35, x37] h38) λ x39 h40 => vK (dF [.nilp, .nilp, (ii 0), (ii 0), (ii 0), (ii 0), (ii 0), (ii 0), (ii 0), (ii 0), (ii 0), (ii 0), (ii 0), (ii 0), (ii 0), (ii 0), (ii 0), (ii 0), (ii 0)] [(0, 1, x33), (1, 1, x39), (2, 1, r2)]) λ x41 => cL x41 h40 λ x42 h43 => some (x42, h43))
theorem I8_0 : iB4 E D8 (aMR E) := Is.rf
def S8 : bB := fA4 (aMR E)
theorem bJJ : SQ D8 S8 := eB4 I8_0
def D9 := cm 9
def C9_1 := cr (cr (cr (cr (cr (cr (cr D9.body))))))
def bFK := cl (cr (cl (cr (cr (cr (cr (cr (cr D9.body))))))))
def C9_3 := cr (cr (cr (cl bFK)))
def C9_4 := cr (cr (cr (cr (cl (cl (cr (cr (cl bFK))))))))
def bCw (r0 r1 r3 r12 r13 : DV) (h : H) : aQ := vK (bV r13 r3) λ x1 => bK x1 (some ((.tup [(ii 0), (ii 16)]), h)) (dB 1 1 [(ii 0)] [(0, 1, r12)] h λ x2 h3 => wK (aB E 29 [r0, r1, (ii 2), x2] h3) λ x4 h5 => vK (aT 0 x4) λ x6 => vK (aT 1 x4) λ x7 => vK (cW x6 (ii 0)) λ x8 => bK x8 (some ((.tup [(ii 0), x6]), h5)) (some ((.tup [r12, (ii 0)]), h5)))
def bCv (E : aX) (i2 : DV → DV → DV → H → aQ) (r13 r14 r71 : DV) (h : H) : aQ := vK (bL r71 (ii 1)) λ x1 => i2 r13 r14 x1 h
def bCu (i2 : DV → DV → DV → H → aQ) (r0 r1 r12 r13 r14 r71 : DV) (h : H) : aQ := vK (dA r14 (ii 1)) λ x1 => bK x1 (dB 1 1 [(ii 0)] [(0, 1, r12)] h λ x2 h3 => wK (aB E 29 [r0, r1, (ii 3), x2] h3) λ x4 h5 => wK (aB E 32 [r0, r12] h5) λ x6 h7 => some ((.tup [(ii 0), (ii 9)]), h7)) (bCv E i2 r13 r14 r71 h)
def B9_2 (r0 r1 r3 r12 r69 r70 : DV) (i2 : DV → DV → DV → H → aQ) (r13 r14 r71 : DV) (h : H) : aQ := vK (bF r71 r70) λ x1 => bK x1 (vK (cH 1 r69 r71) λ x2 => vK (aF h.get x2) λ x3 => vK (bV r13 r3) λ x4 => bK x4 (some ((.tup [(ii 0), (ii 16)]), h)) (vK (bL r13 (ii 1)) λ x5 => wK (aB E 31 [r0, r12, r71, x3] h) λ x6 h7 => vK (cW x6 (ii 0)) λ x8 => bK x8 (vK (bL r14 (ii 1)) λ x9 => bCu E i2 r0 r1 r12 x5 x9 r71 h7) (bCu E i2 r0 r1 r12 x5 r14 r71 h7))) (bCw E r0 r1 r3 r12 r13 h)
def aHK (r0 r1 r3 r12 r69 r70 : DV) (n : Nat) : DV → DV → DV → H → aQ := Nat.rec (motive := λ _ => DV → DV → DV → H → aQ) (λ _ _ _ _ => none) (λ _ i => B9_2 E r0 r1 r3 r12 r69 r70 i) n
def J9_0 (r0 r1 r2 r3 : DV) (h : H) : aQ := vK (bY .ptr false h.get r0 .nilp) λ x1 => aP x1 false (λ kk => kk r1 h) h λ x2 h3 => aP x1 false (λ kk => vK (bF x2 (ii 0)) λ v => kk v h3) h3 λ x4 h5 => vK (aK x1 (.bool true) x4) λ x6 => aP x6 false (λ kk => kk r1 h5) h5 λ x7 h8 => aP x6 false (λ kk => vK (dZ x7 (ii 16)) λ v => kk v h8) h8 λ x9 h10 => vK (aK x6 (.bool true) x9) λ x11 => bK x11 (some ((.tup [(ii 0), (ii 1)]), h10)) (vK (bV r2 (.str [])) λ x12 => aP x12 false (λ kk => kk r2 h10) h10 λ x13 h14 => aP x12 false (λ kk => vK (dT x13) λ v => kk v h14) h14 λ x15 h16 => aP x12 false (λ kk => kk r0 h16) h16 λ x17 h18 => aP x12 false (λ kk => wK (aB E 28 [x17] h18) kk) h18 λ x19 h20 => aP x12 false (λ kk => vK (dA x15 x19) λ v => kk v h20) h20 λ x21 h22 => vK (aK x12 (.bool true) x21) λ x23 => bK x23 (some ((.tup [(ii 0), (ii 2)]), h22)) (vK (bV r3 (ii 0)) λ x24 => bK x24 (some ((.tup [(ii 0), (ii 16)]), h22)) (vK (dT r2) λ x25 => dB 1 1 [(ii 0)] [(0, 1, x25)] h22 λ x26 h27 => wK (aB E 29 [r0, r1, (ii 1), x26] h27) λ x28 h29 => vK (aT 0 x28) λ x30 => vK (aT 1 x28) λ x31 => vK (cW x30 (ii 0)) λ x32 => bK x32 (some ((.tup [(ii 0), x30]), h29)) (vK (cH 1 x31 (ii 0)) λ x33 => vK (aF h29.get x33) λ x34 => vK (aA r0) λ x35 => vK (aG 2 x35) λ x36 => vK (aF h29.get x36) λ x37 => wK (aB E 30 [r2, x37] h29) λ x38 h39 => vK (aT 0 x38) λ x40 => vK (aT 1 x38) λ x41 => vK (aW x40) λ x42 => aHK E r0 r1 r3 x34 x40 x42 aY (ii 1) (ii 0) (ii 0) h39))))
theorem I9_1 : Is E C9_1 (aZ D9.res) (λ σ h => bCw E (σ p0) (σ p1) (σ p3) (σ rU) (σ pU) h) := Is.rf
abbrev K9_5 : fR (DV × H) := (bP (λ σ h => bCw E (σ p0) (σ p1) (σ p3) (σ rU) (σ pU) h) (aZ D9.res))
abbrev K9_6 (n2 : Nat) : fR (DV × H) := (bP (λ σ h => (aHK E (σ p0) (σ p1) (σ p3) (σ rU) (σ p69) (σ p70) n2) (σ pU) (σ qU) (σ p71) h) (bH 1 (K9_5 E)))
theorem I9_3 (n2 : Nat) : Is E C9_3 (K9_6 E n2) (λ σ h => bCv E (aHK E (σ p0) (σ p1) (σ p3) (σ rU) (σ p69) (σ p70) n2) (σ pU) (σ qU) (σ p71) h) := Is.rf
abbrev K9_7 (n2 : Nat) : fR (DV × H) := (bP (λ σ h => bCv E (aHK E (σ p0) (σ p1) (σ p3) (σ rU) (σ p69) (σ p70) n2) (σ pU) (σ qU) (σ p71) h) (K9_6 E n2))
theorem I9_4 (n2 : Nat) : Is E C9_4 (bH 2 (K9_7 E n2)) (λ σ h => bCu E (aHK E (σ p0) (σ p1) (σ p3) (σ rU) (σ p69) (σ p70) n2) (σ p0) (σ p1) (σ rU) (σ pU) (σ qU) (σ p71) h) := Is.rf
theorem I9_2 : Is E bFK (bH 1 (K9_5 E)) (λ σ h => aHK E (σ p0) (σ p1) (σ p3) (σ rU) (σ p69) (σ p70) aY (σ pU) (σ qU) (σ p71) h) := Is.lp (λ n2 σ h => aHK E (σ p0) (σ p1) (σ p3) (σ rU) (σ p69) (σ p70) n2 (σ pU) (σ qU) (σ p71) h) λ n2 => Is.aq (Is.sq (Is.sq (Is.sq (I9_3 E n2) (Is.bk (Is.sq (Is.sq (Is.sq (Is.sq (I9_4 E n2) (Is.leaf _)) (Is.leaf _)) (Is.leaf _)) (Is.leaf _)))) (Is.leaf _)) (Is.leaf _))
theorem I9_0 : iB4 E D9 (J9_0 E) := Is.aq (Is.sq (Is.sq (Is.sq (Is.sq (Is.sq (Is.sq (Is.sq (I9_1 E) (Is.sq (Is.bk (I9_2 E)) (Is.leaf _))) (Is.leaf _)) (Is.leaf _)) (Is.leaf _)) (Is.leaf _)) (Is.leaf _)) (Is.leaf _))
def S9 : bB := fA4 (J9_0 E)
theorem bJG : SQ D9 S9 := eB4 I9_0
def D10 := cm 10
def aLH (E : aX) (r0 : DV) (h : H) : aQ := vK (bY .ptr false h.get r0 .nilp) λ x1 => bK x1 (some (.nilp, h)) (vK (aA r0) λ x2 => vK (aG 0 x2) λ x3 => vK (aF h.get x3) λ x4 => some (x4, h))
theorem bNm : jX E D10 (aLH E) := Is.rf
def S10 : bB := jW (aLH E)
theorem bCa : SQ D10 S10 := kC bNm
def D12 := cm 12
def aZe (r0 r1 : DV) (h : H) : aQ := wK (aB E 34 [r0, r1] h) λ x1 h2 => vK (aT 0 x1) λ x3 => vK (aT 1 x1) λ x4 => vK (cW x4 (ii 0)) λ x5 => bK x5 (some ((.tup [(.str []), x4]), h2)) (wK (aB E 35 [x3] h2) λ x6 h7 => vK (aT 0 x6) λ x8 => vK (aT 1 x6) λ x9 => some ((.tup [x8, x9]), h7))
theorem bNl : iS E D12 (aZe E) := Is.rf
def S12 : bB := iN (aZe E)
theorem bBX : SQ D12 S12 := iV bNl
def D13 := cm 13
def aZd (r0 r1 : DV) (h : H) : aQ := wK (aB E 34 [r0, r1] h) λ x1 h2 => vK (aT 0 x1) λ x3 => vK (aT 1 x1) λ x4 => vK (cW x4 (ii 0)) λ x5 => bK x5 (some (x4, h2)) (wK (aB E 36 [x3] h2) λ x6 h7 => vK (aW x6) λ x8 => vK (dA x8 (ii 0)) λ x9 => bK x9 (some ((ii 9), h7)) (vK (aA x3) λ x10 => vK (aG 8 x10) λ x11 => vK (aF h7.get x11) λ x12 => wK (aB E 37 [x12] h7) λ x13 h14 => vK (dY x13) λ x15 => bK x15 (some ((ii 4), h14)) (some ((ii 0), h14))))
theorem bNk : iS E D13 (aZd E) := Is.rf
def S13 : bB := iN (aZd E)
theorem bBS : SQ D13 S13 := iV bNk
def D14 := cm 14
def bPr := cr (cr (cr D14.body))
def aLF (E : aX) (r5 : DV) (h : H) : aQ := vK (bY .ptr true h.get r5 .nilp) λ x1 => some (x1, h)
def aLG (r0 r1 : DV) (h : H) : aQ := wK (aB E 33 [r0, r1] h) λ x1 h2 => vK (bY .ptr true h2.get x1 .nilp) λ x3 => bK x3 (vK (aA x1) λ x4 => vK (aG 3 x4) λ x5 => wK (cQ 1 x5 (.bool true) h2) λ x6 h7 => aLF E x1 h7) (aLF E x1 h2)
theorem bNi : Is E bPr (aZ D14.res) (λ σ h => aLF E (σ p5) h) := Is.rf
theorem bNj : iS E D14 (aLG E) := Is.aq (Is.sq (Is.sq (Is.sq (bNi E) (Is.leaf _)) (Is.leaf _)) (Is.leaf _))
def S14 : bB := iN (aLG E)
theorem bBO : SQ D14 S14 := iV bNj
def D15 := cm 15
def aZc (r0 r1 : DV) (h : H) : aQ := wK (aB E 34 [r0, r1] h) λ x1 h2 => vK (aT 0 x1) λ x3 => vK (aT 1 x1) λ x4 => vK (cW x4 (ii 0)) λ x5 => bK x5 (some (.nils, h2)) (wK (aB E 36 [x3] h2) λ x6 h7 => some (x6, h7))
theorem bNh : iS E D15 (aZc E) := Is.rf
def S15 : bB := iN (aZc E)
theorem bBN : SQ D15 S15 := iV bNh
def D17 := cm 17
def aZb (h : H) : aQ := wK (aB E 8 [(ii 4), (ii 60), (ii 3), (ii 1)] h) λ x1 h2 => wK (aB E 18 [x1] h2) λ x3 h4 => vK (bY .ptr false h4.get x1 .nilp) λ x5 => aP x5 false (λ kk => kk x3 h4) h4 λ x6 h7 => aP x5 false (λ kk => vK (bY .ptr false h7.get x6 .nilp) λ v => kk v h7) h7 λ x8 h9 => vK (aK x5 (.bool true) x8) λ x10 => aP x10 false (λ kk => wK (aB E 18 [.nilp] h9) kk) h9 λ x11 h12 => aP x10 false (λ kk => vK (bY .ptr true h12.get x11 .nilp) λ v => kk v h12) h12 λ x13 h14 => vK (aK x10 (.bool true) x13) λ x15 => bK x15 (some ((.bool false), h14)) (wK (aB E 9 [x1, (ii 0), (.str [97]), (.int .i64 (.negSucc 0))] h14) λ x16 h17 => wK (aB E 9 [x1, (ii 0), (.str [98, 98]), (.int .i64 (.negSucc 0))] h17) λ x18 h19 => wK (aB E 9 [x1, (ii 0), (.str [99, 99, 99]), (.int .i64 (.negSucc 0))] h19) λ x20 h21 => wK (aB E 22 [x3] h21) λ x22 h23 => wK (aB E 19 [x3, (ii 1)] h23) λ x24 h25 => wK (aB E 20 [x3] h25) λ x26 h27 => vK (aT 0 x26) λ x28 => vK (aT 1 x26) λ x29 => wK (aB E 23 [x3, (ii 2)] h27) λ x30 h31 => vK (aT 0 x30) λ x32 => vK (aT 1 x30) λ x33 => wK (aB E 22 [x3] h31) λ x34 h35 => wK (aB E 23 [x3, (ii 2)] h35) λ x36 h37 => vK (aT 0 x36) λ x38 => vK (aT 1 x36) λ x39 => wK (aB E 22 [x3] h37) λ x40 h41 => wK (aB E 12 [x1, (ii 2)] h41) λ x42 h43 => vK (aT 0 x42) λ x44 => vK (aT 1 x42) λ x45 => vK (bV x22 (ii 16)) λ x46 => aP x46 true (λ kk => kk x24 h43) h43 λ x47 h48 => aP x46 true (λ kk => vK (bV x47 (ii 0)) λ v => kk v h48) h48 λ x49 h50 => vK (aK x46 x49 (.bool false)) λ x51 => aP x51 true (λ kk => kk x28 h50) h50 λ x52 h53 => aP x51 true (λ kk => vK (bV x52 (ii 3)) λ v => kk v h53) h53 λ x54 h55 => vK (aK x51 x54 (.bool false)) λ x56 => aP x56 true (λ kk => kk x29 h55) h55 λ x57 h58 => aP x56 true (λ kk => vK (bV x57 (ii 0)) λ v => kk v h58) h58 λ x59 h60 => vK (aK x56 x59 (.bool false)) λ x61 => aP x61 true (λ kk => kk x32 h60) h60 λ x62 h63 => aP x61 true (λ kk => vK (bV x62 (ii 2)) λ v => kk v h63) h63 λ x64 h65 => vK (aK x61 x64 (.bool false)) λ x66 => aP x66 true (λ kk => kk x33 h65) h65 λ x67 h68 => aP x66 true (λ kk => vK (bV x67 (ii 0)) λ v => kk v h68) h68 λ x69 h70 => vK (aK x66 x69 (.bool false)) λ x71 => aP x71 true (λ kk => kk x34 h70) h70 λ x72 h73 => aP x71 true (λ kk => vK (bV x72 (ii 16)) λ v => kk v h73) h73 λ x74 h75 => vK (aK x71 x74 (.bool false)) λ x76 => aP x76 true (λ kk => kk x38 h75) h75 λ x77 h78 => aP x76 true (λ kk => vK (bV x77 (ii 1)) λ v => kk v h78) h78 λ x79 h80 => vK (aK x76 x79 (.bool false)) λ x81 => aP x81 true (λ kk => kk x39 h80) h80 λ x82 h83 => aP x81 true (λ kk => vK (bV x82 (ii 0)) λ v => kk v h83) h83 λ x84 h85 => vK (aK x81 x84 (.bool false)) λ x86 => aP x86 true (λ kk => kk x40 h85) h85 λ x87 h88 => aP x86 true (λ kk => vK (bV x87 (ii 0)) λ v => kk v h88) h88 λ x89 h90 => vK (aK x86 x89 (.bool false)) λ x91 => aP x91 true (λ kk => kk x44 h90) h90 λ x92 h93 => aP x91 true (λ kk => vK (bV x92 (.str [99, 99, 99])) λ v => kk v h93) h93 λ x94 h95 => vK (aK x91 x94 (.bool false)) λ x96 => aP x96 true (λ kk => kk x45 h95) h95 λ x97 h98 => aP x96 true (λ kk => vK (bV x97 (ii 0)) λ v => kk v h98) h98 λ x99 h100 => vK (aK x96 x99 (.bool false)) λ x101 => aP x101 true (λ kk => kk x1 h100) h100 λ x102 h103 => aP x101 true (λ kk => wK (aB E 13 [x102, (ii 0)] h103) kk) h103 λ x104 h105 => aP x101 true (λ kk => vK (bV x104 (ii 0)) λ v => kk v h105) h105 λ x106 h107 => vK (aK x101 x106 (.bool false)) λ x108 => some (x108, h107))
theorem bNg : iB0 E D17 (aZb E) := Is.rf
def S17 : bB := fA0 (aZb E)
theorem bBK : SQ D17 S17 := eB0 bNg
def D18 := cm 18
def aCC (E : aX) (r0 : DV) (h : H) : aQ := vK (bY .ptr false h.get r0 .nilp) λ x1 => bK x1 (some (.nilp, h)) (vK (dF [.nilp, (ii 0)] [(0, 1, r0), (1, 1, (.int .i64 (.negSucc 0)))]) λ x2 => cL x2 h λ x3 h4 => some (x3, h4))
theorem bNf : jX E D18 (aCC E) := Is.rf
def S18 : bB := jW (aCC E)
theorem bBG : SQ D18 S18 := kC bNf
def D19 := cm 19
def bPq := cr (cr (cr (cr D19.body)))
def aGh (E : aX) (r5 : DV) (h : H) : aQ := some (r5, h)
def aCB (r0 r1 : DV) (h : H) : aQ := vK (bY .ptr false h.get r0 .nilp) λ x1 => bK x1 (some ((ii 1), h)) (vK (aA r0) λ x2 => vK (aG 0 x2) λ x3 => vK (aF h.get x3) λ x4 => wK (aB E 40 [r0] h) λ x5 h6 => rK (zS (aF h6.get x3) x4) <| dB 2 1 [(ii 0)] [(0, 1, r1), (1, 1, x5)] h6 λ x7 h8 => wK (aB E 29 [x4, (ii 15), (ii 5), x7] h8) λ x9 h10 => vK (aT 0 x9) λ x11 => vK (aT 1 x9) λ x12 => vK (bV x11 (ii 0)) λ x13 => bK x13 (vK (aA r0) λ x14 => vK (aG 0 x14) λ x15 => vK (aF h10.get x15) λ x16 => wK (aB E 10 [x16] h10) λ x17 h18 => wK (aB E 14 [x17, r1] h18) λ x19 h20 => aGh E x11 h20) (aGh E x11 h10))
theorem bNd : Is E bPq (aZ D19.res) (λ σ h => aGh E (σ p5) h) := Is.rf
theorem bNe : iS E D19 (aCB E) := Is.aq (Is.sq (Is.sq (Is.sq (Is.sq (bNd E) (Is.leaf _)) (Is.leaf _)) (Is.leaf _)) (Is.leaf _))
def S19 : bB := iN (aCB E)
theorem bBE : SQ D19 S19 := iV bNe
def D20 := cm 20
def aCA (r0 : DV) (h : H) : aQ := vK (bY .ptr false h.get r0 .nilp) λ x1 => bK x1 (some ((.tup [(ii 0), (ii 1)]), h)) (vK (aA r0) λ x2 => vK (aG 0 x2) λ x3 => vK (aF h.get x3) λ x4 => wK (aB E 40 [r0] h) λ x5 h6 => rK (zS (aF h6.get x3) x4) <| dB 1 1 [(ii 0)] [(0, 1, x5)] h6 λ x7 h8 => wK (aB E 29 [x4, (ii 15), (ii 6), x7] h8) λ x9 h10 => vK (aT 0 x9) λ x11 => vK (aT 1 x9) λ x12 => vK (cW x11 (ii 0)) λ x13 => bK x13 (some ((.tup [(ii 0), x11]), h10)) (vK (cH 1 x12 (ii 0)) λ x14 => vK (aF h10.get x14) λ x15 => vK (aA r0) λ x16 => vK (aG 1 x16) λ x17 => wK (cQ 1 x17 x15 h10) λ x18 h19 => vK (aA r0) λ x20 => vK (aG 1 x20) λ x21 => vK (aF h19.get x21) λ x22 => some ((.tup [x22, (ii 0)]), h19)))
theorem bNc : jX E D20 (aCA E) := Is.rf
def S20 : bB := jW (aCA E)
theorem bBC : SQ D20 S20 := kC bNc
def D21 := cm 21
def bPp := cr (cr (cr (cr D21.body)))
def aZn := cl (cr (cl (cr (cr (cr D21.body)))))
def bPo := cr (cr (cr (cl aZn)))
def aLE (E : aX) (r3 : DV) (h : H) : aQ := some (r3, h)
def aRX (E : aX) (i2 : DV → DV → H → aQ) (r3 r22 : DV) (h : H) : aQ := vK (bL r22 (ii 1)) λ x1 => i2 r3 x1 h
def aTZ (r0 r20 r21 : DV) (i2 : DV → DV → H → aQ) (r3 r22 : DV) (h : H) : aQ := vK (bF r22 r21) λ x1 => bK x1 (vK (cH 1 r20 r22) λ x2 => vK (aF h.get x2) λ x3 => wK (aB E 43 [r0, x3] h) λ x4 h5 => vK (dF [(ii 0), (ii 0)] [(1, 1, (.int .i64 (.negSucc 0)))]) λ x6 => vK (yY true (.leaf .int 0 (.leaf .int 1 .nil)) h5.get x4 x6) λ x7 => bK x7 (dB 1 1 [(ii 0)] [(0, 1, x3)] h5 λ x8 h9 => wK (cG 1 8 r3 x8 h9) λ x10 h11 => aRX E i2 x10 r22 h11) (aRX E i2 r3 r22 h5)) (aLE E r3 h)
def aCv (r0 r20 r21 : DV) (n : Nat) : DV → DV → H → aQ := Nat.rec (motive := λ _ => DV → DV → H → aQ) (λ _ _ _ => none) (λ _ i => aTZ E r0 r20 r21 i) n
def aCz (r0 : DV) (h : H) : aQ := vK (bY .ptr false h.get r0 .nilp) λ x1 => aP x1 false (λ kk => kk r0 h) h λ x2 h3 => aP x1 false (λ kk => vK (aA x2) λ v => kk v h3) h3 λ x4 h5 => aP x1 false (λ kk => vK (aG 1 x4) λ v => kk v h5) h5 λ x6 h7 => aP x1 false (λ kk => vK (aF h7.get x6) λ v => kk v h7) h7 λ x8 h9 => aP x1 false (λ kk => vK (bV x8 (.int .i64 (.negSucc 0))) λ v => kk v h9) h9 λ x10 h11 => vK (aK x1 (.bool true) x10) λ x12 => bK x12 (some (.nils, h11)) (vK (aA r0) λ x13 => vK (aG 0 x13) λ x14 => vK (aF h11.get x14) λ x15 => wK (aB E 41 [x15] h11) λ x16 h17 => wK (aB E 42 [x16, (ii 2)] h17) λ x18 h19 => vK (aW x18) λ x20 => aCv E r0 x18 x20 aY .nils (ii 0) h19)
theorem bNa : Is E bPp (aZ D21.res) (λ σ h => aLE E (σ p3) h) := Is.rf
abbrev aXX : fR (DV × H) := (bP (λ σ h => aLE E (σ p3) h) (aZ D21.res))
abbrev bKJ (n2 : Nat) : fR (DV × H) := (bP (λ σ h => (aCv E (σ p0) (σ p20) (σ p21) n2) (σ p3) (σ p22) h) (bH 0 (aXX E)))
theorem bMY (n2 : Nat) : Is E bPo (bKJ E n2) (λ σ h => aRX E (aCv E (σ p0) (σ p20) (σ p21) n2) (σ p3) (σ p22) h) := Is.rf
theorem bMZ : Is E aZn (bH 0 (aXX E)) (λ σ h => aCv E (σ p0) (σ p20) (σ p21) aY (σ p3) (σ p22) h) := Is.lp (λ n2 σ h => aCv E (σ p0) (σ p20) (σ p21) n2 (σ p3) (σ p22) h) λ n2 => Is.aq (Is.sq (Is.sq (Is.sq (bMY E n2) (Is.leaf _)) (Is.leaf _)) (Is.leaf _))
theorem bNb : jX E D21 (aCz E) := Is.aq (Is.sq (Is.sq (Is.sq (Is.sq (bNa E) (Is.sq (Is.bk (bMZ E)) (Is.leaf _))) (Is.leaf _)) (Is.leaf _)) (Is.leaf _))
def S21 : bB := jW (aCz E)
theorem bBB : SQ D21 S21 := kC bNb
def D22 := cm 22
def aCy (r0 : DV) (h : H) : aQ := vK (bY .ptr false h.get r0 .nilp) λ x1 => bK x1 (some ((ii 1), h)) (vK (aA r0) λ x2 => vK (aG 1 x2) λ x3 => vK (aF h.get x3) λ x4 => vK (bV x4 (.int .i64 (.negSucc 0))) λ x5 => aP x5 false (λ kk => kk r0 h) h λ x6 h7 => aP x5 false (λ kk => wK (aB E 21 [x6] h7) kk) h7 λ x8 h9 => aP x5 false (λ kk => vK (aW x8) λ v => kk v h9) h9 λ x10 h11 => aP x5 false (λ kk => vK (dA x10 (ii 0)) λ v => kk v h11) h11 λ x12 h13 => vK (aK x5 (.bool true) x12) λ x14 => bK x14 (some ((ii 16), h13)) (vK (aA r0) λ x15 => vK (aG 0 x15) λ x16 => vK (aF h13.get x16) λ x17 => wK (aB E 40 [r0] h13) λ x18 h19 => rK (zS (aF h19.get x16) x17) <| dB 1 1 [(ii 0)] [(0, 1, x18)] h19 λ x20 h21 => wK (aB E 29 [x17, (ii 15), (ii 7), x20] h21) λ x22 h23 => vK (aT 0 x22) λ x24 => vK (aT 1 x22) λ x25 => some (x24, h23)))
theorem bMX : jX E D22 (aCy E) := Is.rf
def S22 : bB := jW (aCy E)
theorem bBz : SQ D22 S22 := kC bMX
def D23 := cm 23
def bPn := cr (cr (cr (cr D23.body)))
def bPm := cl (cr (cl (cr (cr (cr D23.body)))))
def aRW (E : aX) (r1 r6 : DV) (h : H) : aQ := vK (rL r1 (ii 0)) λ x1 => vK (aW r6) λ x2 => vK (vR x1 x2) λ x3 => some ((.tup [x3, (ii 0)]), h)
def bPC (r0 r1 r6 r17 : DV) (i2 : DV → H → aQ) (r18 : DV) (h : H) : aQ := vK (bF r18 r17) λ x1 => bK x1 (vK (cH 1 r6 r18) λ x2 => vK (aF h.get x2) λ x3 => wK (aB E 43 [r0, x3] h) λ x4 h5 => wK (aB E 44 [r0, x4] h5) λ x6 h7 => vK (cW x6 (ii 0)) λ x8 => bK x8 (some ((.tup [r18, x6]), h7)) (vK (bL r18 (ii 1)) λ x9 => i2 x9 h7)) (aRW E r1 r6 h)
def aRw (r0 r1 r6 r17 : DV) (n : Nat) : DV → H → aQ := Nat.rec (motive := λ _ => DV → H → aQ) (λ _ _ => none) (λ _ i => bPC E r0 r1 r6 r17 i) n
def aZa (r0 r1 : DV) (h : H) : aQ := vK (bY .ptr false h.get r0 .nilp) λ x1 => bK x1 (some ((.tup [(ii 0), (ii 1)]), h)) (wK (aB E 21 [r0] h) λ x2 h3 => vK (rL r1 (ii 0)) λ x4 => vK (aW x2) λ x5 => vK (vR x4 x5) λ x6 => aRw E r0 r1 x2 x6 aY (ii 0) h3)
theorem bMV : Is E bPn (aZ D23.res) (λ σ h => aRW E (σ p1) (σ p6) h) := Is.rf
abbrev bKI : fR (DV × H) := (bP (λ σ h => aRW E (σ p1) (σ p6) h) (aZ D23.res))
theorem bMU : Is E bPm (bH 0 (bKI E)) (λ σ h => aRw E (σ p0) (σ p1) (σ p6) (σ p17) aY (σ p18) h) := Is.lp (λ n2 σ h => aRw E (σ p0) (σ p1) (σ p6) (σ p17) n2 (σ p18) h) λ n2 => Is.aq (Is.leaf _)
theorem bMW : iS E D23 (aZa E) := Is.aq (Is.sq (Is.sq (Is.sq (Is.sq (bMV E) (Is.sq (Is.bk (bMU E)) (Is.leaf _))) (Is.leaf _)) (Is.leaf _)) (Is.leaf _))
def S23 : bB := iN (aZa E)
theorem bBy : SQ D23 S23 := iV bMW
def D25 := cm 25
def bPl := cr (cr (cr D25.body))
def bPk := cl (cr (cl (cr (cr D25.body))))
def aLC (E : aX) (r5 : DV) (h : H) : aQ := some (r5, h)
def aGt (r1 r5 r13 : DV) (i2 : DV → H → aQ) (r14 : DV) (h : H) : aQ := vK (bF r14 r13) λ x1 => bK x1 (vK (rL r1 (ii 9)) λ x2 => wK (aB E 45 [x2] h) λ x3 h4 => wK (aB E 46 [x3] h4) λ x5 h6 => vK (aT 0 x5) λ x7 => vK (aT 1 x5) λ x8 => vK (aA r5) λ x9 => vK (aG 0 x9) λ x10 => vK (aF h6.get x10) λ x11 => vK (dF [.nilp, .nilp, (.bool false), (.bool false)] [(0, 1, x3), (1, 1, x7)]) λ x12 => cL x12 h6 λ x13 h14 => dB 1 1 [.nilp] [(0, 1, x13)] h14 λ x15 h16 => wK (cG 1 8 x11 x15 h16) λ x17 h18 => vK (aA r5) λ x19 => vK (aG 0 x19) λ x20 => wK (cQ 1 x20 x17 h18) λ x21 h22 => vK (bL r14 (ii 1)) λ x23 => i2 x23 h22) (aLC E r5 h)
def aCu (r1 r5 r13 : DV) (n : Nat) : DV → H → aQ := Nat.rec (motive := λ _ => DV → H → aQ) (λ _ _ => none) (λ _ i => aGt E r1 r5 r13 i) n
def aLD (r0 r1 : DV) (h : H) : aQ := vK (dF [.nils] []) λ x1 => cL x1 h λ x2 h3 => vK (rL r0 (ii 1)) λ x4 => vK (vR x4 (ii 8)) λ x5 => aCu E r1 x2 x5 aY (ii 0) h3
theorem bMS : Is E bPl (aZ D25.res) (λ σ h => aLC E (σ p5) h) := Is.rf
abbrev bKH : fR (DV × H) := (bP (λ σ h => aLC E (σ p5) h) (aZ D25.res))
theorem bMR : Is E bPk (bH 0 (bKH E)) (λ σ h => aCu E (σ p1) (σ p5) (σ pU) aY (σ qU) h) := Is.lp (λ n2 σ h => aCu E (σ p1) (σ p5) (σ pU) n2 (σ qU) h) λ n2 => Is.aq (Is.leaf _)
theorem bMT : iS E D25 (aLD E) := Is.aq (Is.sq (Is.sq (Is.sq (bMS E) (Is.sq (Is.bk (bMR E)) (Is.leaf _))) (Is.leaf _)) (Is.leaf _))
def S25 : bB := iN (aLD E)
theorem bBx : SQ D25 S25 := iV bMT
def D26 := cm 26
def aYZ (r0 r1 : DV) (h : H) : aQ := wK (aB E 47 [r0, r1] h) λ x1 h2 => vK (bY .ptr false h2.get x1 .nilp) λ x3 => bK x3 (some (.nilp, h2)) (wK (aB E 48 [] h2) λ x4 h5 => wK (aB E 49 [] h5) λ x6 h7 => wK (aB E 50 [] h7) λ x8 h9 => wK (aB E 51 [] h9) λ x10 h11 => wK (aB E 52 [(ii 4)] h11) λ x12 h13 => vK (dF [.nilp, .nilp, .nilp, .nilp, .nilp, .nilp, (ii 0)] [(0, 1, x1), (1, 1, x4), (2, 1, x6), (3, 1, x8), (4, 1, x10), (5, 1, x12)]) λ x14 => cL x14 h13 λ x15 h16 => some (x15, h16))
theorem bMQ : iS E D26 (aYZ E) := Is.rf
def S26 : bB := iN (aYZ E)
theorem aQr : SQ D26 S26 := iV bMQ
def D27 := cm 27
def bPj := cr (cr (cr D27.body))
def bPi := cl (cr (cl (cr (cr D27.body))))
def aRV (E : aX) (r5 : DV) (h : H) : aQ := some (r5, h)
def bPB (r0 r5 r10 : DV) (i2 : DV → H → aQ) (r11 : DV) (h : H) : aQ := vK (bF r11 r10) λ x1 => bK x1 (vK (bL r0 r11) λ x2 => vK (cH 1 r5 r11) λ x3 => wK (cQ 1 x3 x2 h) λ x4 h5 => vK (bL r11 (ii 1)) λ x6 => i2 x6 h5) (aRV E r5 h)
def aRv (r0 r5 r10 : DV) (n : Nat) : DV → H → aQ := Nat.rec (motive := λ _ => DV → H → aQ) (λ _ _ => none) (λ _ i => bPB E r0 r5 r10 i) n
def aYY (r0 r1 : DV) (h : H) : aQ := jZ 1 8 (ii 0) r1 r1 h λ x1 h2 => vK (aW x1) λ x3 => aRv E r0 x1 x3 aY (ii 0) h2
theorem bMO : Is E bPj (aZ D27.res) (λ σ h => aRV E (σ p5) h) := Is.rf
abbrev bKG : fR (DV × H) := (bP (λ σ h => aRV E (σ p5) h) (aZ D27.res))
theorem bMN : Is E bPi (bH 0 (bKG E)) (λ σ h => aRv E (σ p0) (σ p5) (σ lT) aY (σ p11) h) := Is.lp (λ n2 σ h => aRv E (σ p0) (σ p5) (σ lT) n2 (σ p11) h) λ n2 => Is.aq (Is.leaf _)
theorem bMP : iS E D27 (aYY E) := Is.aq (Is.sq (Is.sq (Is.sq (bMO E) (Is.sq (Is.bk (bMN E)) (Is.leaf _))) (Is.leaf _)) (Is.leaf _))
def S27 : bB := iN (aYY E)
theorem aQq : SQ D27 S27 := iV bMP
def D28 := cm 28
def aYX (E : aX) (r0 : DV) (h : H) : aQ := vK (bY .ptr false h.get r0 .nilp) λ x1 => bK x1 (some ((ii 0), h)) (vK (aA r0) λ x2 => vK (aG 2 x2) λ x3 => vK (aF h.get x3) λ x4 => vK (jO x4 (ii 1)) λ x5 => vK (mR (ii 512) x5) λ x6 => some (x6, h))
theorem bMM : jX E D28 (aYX E) := Is.rf
def S28 : bB := jW (aYX E)
theorem bBw : SQ D28 S28 := kC bMM
def D29 := cm 29
def bPh := cr (cr (cr (cr D29.body)))
def aZm := cl (cr (cl (cr (cr (cr D29.body)))))
def bPg := cr (cr (cr (cl aZm)))
def aRU (r0 r1 r10 : DV) (h : H) : aQ := vK (cR 8 h.get r10) λ x1 => wK (aB E 53 [x1] h) λ x2 h3 => vK (aT 0 x2) λ x4 => vK (aT 1 x2) λ x5 => vK (cW x5 (ii 0)) λ x6 => bK x6 (some ((.tup [(ii 1), .nils]), h3)) (vK (aA r0) λ x7 => vK (aG 3 x7) λ x8 => vK (pN 16 1 x8 r1) λ x9 => vK (aF h3.get x9) λ x10 => vK (bL x10 (ii 1)) λ x11 => vK (aA r0) λ x12 => vK (aG 3 x12) λ x13 => vK (pN 16 1 x13 r1) λ x14 => wK (cQ 1 x14 x11 h3) λ x15 h16 => vK (aA r0) λ x17 => vK (aG 1 x17) λ x18 => vK (aF h16.get x18) λ x19 => wK (aB E 55 [x19, x4] h16) λ x20 h21 => wK (aB E 54 [x20] h21) λ x22 h23 => vK (aT 0 x22) λ x24 => vK (aT 1 x22) λ x25 => vK (aT 2 x22) λ x26 => some ((.tup [x24, x25]), h23))
def aRT (E : aX) (i2 : DV → H → aQ) (r44 : DV) (h : H) : aQ := vK (bL r44 (ii 1)) λ x1 => i2 x1 h
def bPA (r0 r1 r3 r10 r42 r43 : DV) (i2 : DV → H → aQ) (r44 : DV) (h : H) : aQ := vK (bF r44 r43) λ x1 => bK x1 (vK (cH 1 r42 r44) λ x2 => vK (aF h.get x2) λ x3 => vK (aW r3) λ x4 => vK (bF r44 x4) λ x5 => bK x5 (vK (cH 1 r3 r44) λ x6 => vK (aF h.get x6) λ x7 => vK (aA x3) λ x8 => wK (cQ 1 x8 x7 h) λ x9 h10 => aRT E i2 r44 h10) (aRT E i2 r44 h)) (aRU E r0 r1 r10 h)
def aGf (r0 r1 r3 r10 r42 r43 : DV) (n : Nat) : DV → H → aQ := Nat.rec (motive := λ _ => DV → H → aQ) (λ _ _ => none) (λ _ i => bPA E r0 r1 r3 r10 r42 r43 i) n
def aYW (r0 r1 r2 r3 : DV) (h : H) : aQ := vK (bY .ptr false h.get r0 .nilp) λ x1 => aP x1 false (λ kk => kk r1 h) h λ x2 h3 => aP x1 false (λ kk => vK (bF x2 (ii 0)) λ v => kk v h3) h3 λ x4 h5 => vK (aK x1 (.bool true) x4) λ x6 => aP x6 false (λ kk => kk r1 h5) h5 λ x7 h8 => aP x6 false (λ kk => vK (dZ x7 (ii 16)) λ v => kk v h8) h8 λ x9 h10 => vK (aK x6 (.bool true) x9) λ x11 => bK x11 (some ((.tup [(ii 1), .nils]), h10)) (vK (aA r0) λ x12 => vK (aG 3 x12) λ x13 => vK (pN 16 1 x13 r1) λ x14 => vK (aF h10.get x14) λ x15 => vK (dF [(ii 0), (ii 0), (ii 0), (ii 0), (ii 0), (ii 0), (ii 0), (ii 0)] [(0, 1, r1), (1, 1, x15), (2, 1, r2)]) λ x16 => fC 8 8 (.list [(ii 0), (ii 0), (ii 0), (ii 0), (ii 0), (ii 0), (ii 0), (ii 0)]) h10 λ x17 h18 => wK (cQ 8 x17 x16 h18) λ x19 h20 => vK (aG 3 x17) λ x21 => vK (aG 4 x17) λ x22 => vK (aG 5 x17) λ x23 => vK (aG 6 x17) λ x24 => vK (aG 7 x17) λ x25 => dB 5 1 [.nilp] [(0, 1, x21), (1, 1, x22), (2, 1, x23), (3, 1, x24), (4, 1, x25)] h20 λ x26 h27 => vK (aW x26) λ x28 => aGf E r0 r1 r3 x17 x26 x28 aY (ii 0) h27)
theorem bMK : Is E bPh (aZ D29.res) (λ σ h => aRU E (σ p0) (σ p1) (σ lT) h) := Is.rf
abbrev aXW : fR (DV × H) := (bP (λ σ h => aRU E (σ p0) (σ p1) (σ lT) h) (aZ D29.res))
abbrev bKF (n2 : Nat) : fR (DV × H) := (bP (λ σ h => (aGf E (σ p0) (σ p1) (σ p3) (σ lT) (σ p42) (σ p43) n2) (σ p44) h) (bH 0 (aXW E)))
theorem bMI (n2 : Nat) : Is E bPg (bKF E n2) (λ σ h => aRT E (aGf E (σ p0) (σ p1) (σ p3) (σ lT) (σ p42) (σ p43) n2) (σ p44) h) := Is.rf
theorem bMJ : Is E aZm (bH 0 (aXW E)) (λ σ h => aGf E (σ p0) (σ p1) (σ p3) (σ lT) (σ p42) (σ p43) aY (σ p44) h) := Is.lp (λ n2 σ h => aGf E (σ p0) (σ p1) (σ p3) (σ lT) (σ p42) (σ p43) n2 (σ p44) h) λ n2 => Is.aq (Is.sq (Is.sq (Is.sq (bMI E n2) (Is.leaf _)) (Is.leaf _)) (Is.leaf _))
theorem bML : iB4 E D29 (aYW E) := Is.aq (Is.sq (Is.sq (Is.sq (Is.sq (bMK E) (Is.sq (Is.bk (bMJ E)) (Is.leaf _))) (Is.leaf _)) (Is.leaf _)) (Is.leaf _))
def S29 : bB := fA4 (aYW E)
theorem aQp : SQ D29 S29 := eB4 bML
def D30 := cm 30
def bPf := cr (cr (cr (cr (cr (cr (cr D30.body))))))
def bPe := cl (cl (cr (cr (cr (cr (cr (cr D30.body)))))))
def aRS (r7 : DV) (h : H) : aQ := wK (aB E 60 [r7, (.int .i64 (.negSucc 0))] h) λ x1 h2 => vK (aT 0 x1) λ x3 => vK (aT 1 x1) λ x4 => wK (aB E 61 [x3] h2) λ x5 h6 => dB 1 1 [(.str [])] [(0, 1, x5)] h6 λ x7 h8 => wK (cG 1 16 r7 x7 h8) λ x9 h10 => some ((.tup [x9, (ii 0)]), h10)
def bPz (r1 r9 : DV) (i2 : DV → H → aQ) (r7 : DV) (h : H) : aQ := vK (aW r7) λ x1 => vK (jO r1 (ii 1)) λ x2 => vK (bF x1 x2) λ x3 => bK x3 (dB 1 1 [(.str [])] [(0, 1, r9)] h λ x4 h5 => wK (cG 1 16 r7 x4 h5) λ x6 h7 => i2 x6 h7) (aRS E r7 h)
def aRu (r1 r9 : DV) (n : Nat) : DV → H → aQ := Nat.rec (motive := λ _ => DV → H → aQ) (λ _ _ => none) (λ _ i => bPz E r1 r9 i) n
def aYV (r0 r1 : DV) (h : H) : aQ := wK (aB E 56 [r1] h) λ x1 h2 => vK (dY x1) λ x3 => bK x3 (some ((.tup [.nils, (ii 1)]), h2)) (vK (dT r0) λ x4 => wK (aB E 57 [x4, r1] h2) λ x5 h6 => vK (dT r0) λ x7 => vK (dA x7 (ii 65536)) λ x8 => aP x8 false (λ kk => kk x5 h6) h6 λ x9 h10 => aP x8 false (λ kk => vK (dA x9 (ii 512)) λ v => kk v h10) h10 λ x11 h12 => vK (aK x8 (.bool true) x11) λ x13 => bK x13 (some ((.tup [.nils, (ii 2)]), h12)) (vK (rL x5 (ii 1)) λ x14 => wK (aB E 58 [r0, x14] h12) λ x15 h16 => vK (aT 0 x15) λ x17 => vK (aT 1 x15) λ x18 => wK (aB E 59 [(.str []), x5] h16) λ x19 h20 => vK (aT 0 x19) λ x21 => vK (aT 1 x19) λ x22 => aRu E r1 x21 aY x17 h20))
theorem bMG : Is E bPf (aZ D30.res) (λ σ h => aRS E (σ p7) h) := Is.rf
abbrev bKE : fR (DV × H) := (bP (λ σ h => aRS E (σ p7) h) (aZ D30.res))
theorem bMF : Is E bPe (bH 0 (bKE E)) (λ σ h => aRu E (σ p1) (σ p9) aY (σ p7) h) := Is.lp (λ n2 σ h => aRu E (σ p1) (σ p9) n2 (σ p7) h) λ n2 => Is.aq (Is.leaf _)
theorem bMH : iS E D30 (aYV E) := Is.aq (Is.sq (Is.sq (Is.sq (Is.sq (Is.sq (Is.sq (Is.sq (bMG E) (Is.bk (bMF E))) (Is.leaf _)) (Is.leaf _)) (Is.leaf _)) (Is.leaf _)) (Is.leaf _)) (Is.leaf _))
def S30 : bB := iN (aYV E)
theorem bBv : SQ D30 S30 := iV bMH
def D31 := cm 31
def aYU (r0 r1 r2 r3 : DV) (h : H) : aQ := vK (bY .ptr false h.get r0 .nilp) λ x1 => bK x1 (some ((ii 1), h)) (wK (aB E 62 [r0, r1, r2] h) λ x2 h3 => vK (aT 0 x2) λ x4 => vK (aT 1 x2) λ x5 => vK (dY x5) λ x6 => bK x6 (some ((ii 7), h3)) (vK (aA r0) λ x7 => vK (aG 0 x7) λ x8 => vK (aF h3.get x8) λ x9 => vK (dF [(ii 0), (ii 0)] [(0, 1, r1), (1, 1, r2)]) λ x10 => wK (aB E 63 [x9, x4, x10, r3] h3) λ x11 h12 => some (x11, h12)))
theorem bME : iB4 E D31 (aYU E) := Is.rf
def S31 : bB := fA4 (aYU E)
theorem bBu : SQ D31 S31 := eB4 bME
def D33 := cm 33
def aLB (E : aX) (r0 r1 : DV) (h : H) : aQ := vK (bY .ptr false h.get r0 .nilp) λ x1 => aP x1 false (λ kk => kk r1 h) h λ x2 h3 => aP x1 false (λ kk => vK (bF x2 (ii 0)) λ v => kk v h3) h3 λ x4 h5 => vK (aK x1 (.bool true) x4) λ x6 => aP x6 false (λ kk => kk r1 h5) h5 λ x7 h8 => aP x6 false (λ kk => kk r0 h8) h8 λ x9 h10 => aP x6 false (λ kk => vK (aA x9) λ v => kk v h10) h10 λ x11 h12 => aP x6 false (λ kk => vK (aG 0 x11) λ v => kk v h12) h12 λ x13 h14 => aP x6 false (λ kk => vK (aF h14.get x13) λ v => kk v h14) h14 λ x15 h16 => aP x6 false (λ kk => vK (aW x15) λ v => kk v h16) h16 λ x17 h18 => aP x6 false (λ kk => vK (dZ x7 x17) λ v => kk v h18) h18 λ x19 h20 => vK (aK x6 (.bool true) x19) λ x21 => bK x21 (some (.nilp, h20)) (vK (aA r0) λ x22 => vK (aG 0 x22) λ x23 => vK (aF h20.get x23) λ x24 => vK (cH 1 x24 r1) λ x25 => vK (aF h20.get x25) λ x26 => some (x26, h20))
theorem bMD : iS E D33 (aLB E) := Is.rf
def S33 : bB := iN (aLB E)
theorem bBt : SQ D33 S33 := iV bMD
def D34 := cm 34
def aYT (r0 r1 : DV) (h : H) : aQ := vK (bY .ptr false h.get r0 .nilp) λ x1 => bK x1 (some ((.tup [.nilp, (ii 1)]), h)) (wK (aB E 41 [r0] h) λ x2 h3 => wK (aB E 65 [x2, r1] h3) λ x4 h5 => vK (aT 0 x4) λ x6 => vK (aT 1 x4) λ x7 => fC 6 6 (.list [(ii 0), (ii 0), (ii 0), (ii 0), (ii 0), .nils]) h5 λ x8 h9 => wK (cQ 6 x8 x6 h9) λ x10 h11 => vK (dY x7) λ x12 => aP x12 false (λ kk => vK (aG 1 x8) λ v => kk v h11) h11 λ x13 h14 => aP x12 false (λ kk => vK (aF h14.get x13) λ v => kk v h14) h14 λ x15 h16 => aP x12 false (λ kk => vK (cW x15 (ii 2)) λ v => kk v h16) h16 λ x17 h18 => vK (aK x12 (.bool true) x17) λ x19 => bK x19 (some ((.tup [.nilp, (ii 7)]), h18)) (vK (aG 5 x8) λ x20 => vK (aF h18.get x20) λ x21 => vK (aW x21) λ x22 => vK (cR 6 h18.get x8) λ x23 => vK (aG 4 x8) λ x24 => vK (aF h18.get x24) λ x25 => jZ 1 16 (.str []) x22 x22 h18 λ x26 h27 => jZ 1 1 (.bool false) x22 x22 h27 λ x28 h29 => jZ 1 1 (.bool false) x22 x22 h29 λ x30 h31 => wK (aB E 57 [x25, x22] h31) λ x32 h33 => rK (zS (cR 6 h33.get x8) x23) <| vK (dF [.nilp, (ii 0), (ii 0), (ii 0), (ii 0), (ii 0), .nils, (ii 0), .nils, .nils, .nils] [(0, 1, r0), (1, 6, x23), (7, 1, x32), (8, 1, x26), (9, 1, x28), (10, 1, x30)]) λ x34 => cL x34 h33 λ x35 h36 => some ((.tup [x35, (ii 0)]), h36)))
theorem bMC : iS E D34 (aYT E) := Is.rf
def S34 : bB := iN (aYT E)
theorem bBs : SQ D34 S34 := iV bMC
def D35 := cm 35
def bPd := cr (cr (cr (cr D35.body)))
def bPc := cl (cr (cl (cr (cr (cr D35.body)))))
def aRR (r0 : DV) (h : H) : aQ := vK (aA r0) λ x1 => vK (aG 8 x1) λ x2 => vK (aF h.get x2) λ x3 => vK (aA r0) λ x4 => vK (aG 1 x4) λ x5 => vK (aG 4 x5) λ x6 => vK (aF h.get x6) λ x7 => wK (aB E 67 [x3, x7] h) λ x8 h9 => vK (aT 0 x8) λ x10 => vK (aT 1 x8) λ x11 => some ((.tup [x10, x11]), h9)
def bPy (r0 r12 r13 : DV) (i2 : DV → H → aQ) (r14 : DV) (h : H) : aQ := vK (bF r14 r13) λ x1 => bK x1 (vK (cH 1 r12 r14) λ x2 => vK (aF h.get x2) λ x3 => vK (aA r0) λ x4 => vK (aG 8 x4) λ x5 => vK (aF h.get x5) λ x6 => vK (aA r0) λ x7 => vK (aG 8 x7) λ x8 => vK (aF h.get x8) λ x9 => wK (aB E 66 [x9, x3] h) λ x10 h11 => rK (zS (aF h11.get x5) x6) <| vK (aT 0 x10) λ x12 => vK (aT 1 x10) λ x13 => vK (cH 1 x6 x3) λ x14 => wK (cQ 1 x14 x12 h11) λ x15 h16 => vK (bL r14 (ii 1)) λ x17 => i2 x17 h16) (aRR E r0 h)
def aRt (r0 r12 r13 : DV) (n : Nat) : DV → H → aQ := Nat.rec (motive := λ _ => DV → H → aQ) (λ _ _ => none) (λ _ i => bPy E r0 r12 r13 i) n
def aYS (r0 : DV) (h : H) : aQ := wK (aB E 36 [r0] h) λ x1 h2 => vK (aW x1) λ x3 => vK (dA x3 (ii 1)) λ x4 => bK x4 (some ((.tup [(.str []), (ii 9)]), h2)) (vK (aW x1) λ x5 => aRt E r0 x1 x5 aY (ii 0) h2)
theorem bMA : Is E bPd (aZ D35.res) (λ σ h => aRR E (σ p0) h) := Is.rf
abbrev bKD : fR (DV × H) := (bP (λ σ h => aRR E (σ p0) h) (aZ D35.res))
theorem bMz : Is E bPc (bH 0 (bKD E)) (λ σ h => aRt E (σ p0) (σ rU) (σ pU) aY (σ qU) h) := Is.lp (λ n2 σ h => aRt E (σ p0) (σ rU) (σ pU) n2 (σ qU) h) λ n2 => Is.aq (Is.leaf _)
theorem bMB : jX E D35 (aYS E) := Is.aq (Is.sq (Is.sq (Is.sq (Is.sq (bMA E) (Is.sq (Is.bk (bMz E)) (Is.leaf _))) (Is.leaf _)) (Is.leaf _)) (Is.leaf _))
def S35 : bB := jW (aYS E)
theorem bBr : SQ D35 S35 := kC bMB
def D36 := cm 36
def bPb := cr (cr (cr D36.body))
def aZl := cl (cr (cl (cr (cr D36.body))))
def bPa := cr (cr (cr (cl aZl)))
def aRQ (E : aX) (r3 : DV) (h : H) : aQ := some (r3, h)
def aRP (E : aX) (i2 : DV → DV → H → aQ) (r3 r10 : DV) (h : H) : aQ := vK (bL r10 (ii 1)) λ x1 => i2 r3 x1 h
def bPx (r0 r9 : DV) (i2 : DV → DV → H → aQ) (r3 r10 : DV) (h : H) : aQ := vK (bF r10 r9) λ x1 => bK x1 (wK (aB E 39 [r0, r10] h) λ x2 h3 => vK (dY x2) λ x4 => bK x4 (dB 1 1 [(ii 0)] [(0, 1, r10)] h3 λ x5 h6 => wK (cG 1 8 r3 x5 h6) λ x7 h8 => aRP E i2 x7 r10 h8) (aRP E i2 r3 r10 h3)) (aRQ E r3 h)
def aGe (r0 r9 : DV) (n : Nat) : DV → DV → H → aQ := Nat.rec (motive := λ _ => DV → DV → H → aQ) (λ _ _ _ => none) (λ _ i => bPx E r0 r9 i) n
def aYR (r0 : DV) (h : H) : aQ := vK (aA r0) λ x1 => vK (aG 8 x1) λ x2 => vK (aF h.get x2) λ x3 => vK (aW x3) λ x4 => aGe E r0 x4 aY .nils (ii 0) h
theorem bMx : Is E bPb (aZ D36.res) (λ σ h => aRQ E (σ p3) h) := Is.rf
abbrev aXV : fR (DV × H) := (bP (λ σ h => aRQ E (σ p3) h) (aZ D36.res))
abbrev bKC (n2 : Nat) : fR (DV × H) := (bP (λ σ h => (aGe E (σ p0) (σ p9) n2) (σ p3) (σ lT) h) (bH 0 (aXV E)))
theorem bMv (n2 : Nat) : Is E bPa (bKC E n2) (λ σ h => aRP E (aGe E (σ p0) (σ p9) n2) (σ p3) (σ lT) h) := Is.rf
theorem bMw : Is E aZl (bH 0 (aXV E)) (λ σ h => aGe E (σ p0) (σ p9) aY (σ p3) (σ lT) h) := Is.lp (λ n2 σ h => aGe E (σ p0) (σ p9) n2 (σ p3) (σ lT) h) λ n2 => Is.aq (Is.sq (Is.sq (Is.sq (bMv E n2) (Is.leaf _)) (Is.leaf _)) (Is.leaf _))
theorem bMy : jX E D36 (aYR E) := Is.aq (Is.sq (Is.sq (Is.sq (bMx E) (Is.sq (Is.bk (bMw E)) (Is.leaf _))) (Is.leaf _)) (Is.leaf _))
def S36 : bB := jW (aYR E)
theorem bBq : SQ D36 S36 := kC bMy
def D37 := cm 37
def aYQ (r0 : DV) (h : H) : aQ := vK (aW r0) λ x1 => wK (aB E 56 [x1] h) λ x2 h3 => vK (dY x2) λ x4 => bK x4 (some ((.bool false), h3)) (wK (aB E 60 [r0, (.int .i64 (.negSucc 0))] h3) λ x5 h6 => vK (aT 0 x5) λ x7 => vK (aT 1 x5) λ x8 => aP x8 true (λ kk => kk x7 h6) h6 λ x9 h10 => aP x8 true (λ kk => vK (aA x9) λ v => kk v h10) h10 λ x11 h12 => aP x8 true (λ kk => vK (cR 513 h12.get x11) λ v => kk v h12) h12 λ x13 h14 => aP x8 true (λ kk => kk x7 h14) h14 λ x15 h16 => aP x8 true (λ kk => vK (aA x15) λ v => kk v h16) h16 λ x17 h18 => aP x8 true (λ kk => vK (aG 512 x17) λ v => kk v h18) h18 λ x19 h20 => aP x8 true (λ kk => vK (aF h20.get x19) λ v => kk v h20) h20 λ x21 h22 => aP x8 true (λ kk => vK (dF (zR [(.int .u8 (.ofNat 0))] 512 ++ [(ii 0)]) [(512, 1, x21)]) λ v => kk v h22) h22 λ x23 h24 => aP x8 true (λ kk => vK (yY false (.arr .int 0 512 (.leaf .int 512 .nil)) h24.get x13 x23) λ v => kk v h24) h24 λ x25 h26 => vK (aK x8 x25 (.bool false)) λ x27 => some (x27, h26))
theorem bMu : jX E D37 (aYQ E) := Is.rf
def S37 : bB := jW (aYQ E)
theorem bBp : SQ D37 S37 := kC bMu
def D39 := cm 39
def bOZ := cr (cr D39.body)
def aRO (E : aX) (r0 r1 : DV) (h : H) : aQ := vK (aA r0) λ x1 => vK (aG 10 x1) λ x2 => vK (aF h.get x2) λ x3 => vK (cH 1 x3 r1) λ x4 => vK (aF h.get x4) λ x5 => some (x5, h)
def aYP (r0 r1 : DV) (h : H) : aQ := vK (aA r0) λ x1 => vK (aG 9 x1) λ x2 => vK (aF h.get x2) λ x3 => vK (cH 1 x3 r1) λ x4 => vK (aF h.get x4) λ x5 => vK (dY x5) λ x6 => bK x6 (vK (aA r0) λ x7 => vK (aG 0 x7) λ x8 => vK (aF h.get x8) λ x9 => vK (aA r0) λ x10 => vK (aG 1 x10) λ x11 => vK (aG 0 x11) λ x12 => vK (aF h.get x12) λ x13 => wK (aB E 68 [x9, x13, r1] h) λ x14 h15 => vK (aT 0 x14) λ x16 => vK (aT 1 x14) λ x17 => vK (aA r0) λ x18 => vK (aG 8 x18) λ x19 => vK (aF h15.get x19) λ x20 => vK (aA r0) λ x21 => vK (aG 9 x21) λ x22 => vK (aF h15.get x22) λ x23 => vK (cH 1 x20 r1) λ x24 => wK (cQ 1 x24 x16 h15) λ x25 h26 => vK (cH 1 x23 r1) λ x27 => wK (cQ 1 x27 (.bool true) h26) λ x28 h29 => vK (aA r0) λ x30 => vK (aG 10 x30) λ x31 => vK (aF h29.get x31) λ x32 => vK (bV x17 (ii 0)) λ x33 => aP x33 true (λ kk => kk x16 h29) h29 λ x34 h35 => aP x33 true (λ kk => vK (dT x34) λ v => kk v h35) h35 λ x36 h37 => aP x33 true (λ kk => kk r0 h37) h37 λ x38 h39 => aP x33 true (λ kk => vK (aA x38) λ v => kk v h39) h39 λ x40 h41 => aP x33 true (λ kk => vK (aG 7 x40) λ v => kk v h41) h41 λ x42 h43 => aP x33 true (λ kk => vK (aF h43.get x42) λ v => kk v h43) h43 λ x44 h45 => aP x33 true (λ kk => vK (bV x36 x44) λ v => kk v h45) h45 λ x46 h47 => vK (aK x33 x46 (.bool false)) λ x48 => vK (cH 1 x32 r1) λ x49 => wK (cQ 1 x49 x48 h47) λ x50 h51 => aRO E r0 r1 h51) (aRO E r0 r1 h)
theorem bMs : Is E bOZ (aZ D39.res) (λ σ h => aRO E (σ p0) (σ p1) h) := Is.rf
theorem bMt : iS E D39 (aYP E) := Is.aq (Is.sq (Is.sq (bMs E) (Is.leaf _)) (Is.leaf _))
def S39 : bB := iN (aYP E)
theorem bBo : SQ D39 S39 := iV bMt
def D40 := cm 40
def aLA (r0 : DV) (h : H) : aQ := vK (aA r0) λ x1 => vK (aG 0 x1) λ x2 => vK (aF h.get x2) λ x3 => wK (aB E 41 [x3] h) λ x4 h5 => wK (aB E 69 [x4] h5) λ x6 h7 => some (x6, h7)
theorem bMr : jX E D40 (aLA E) := Is.rf
def S40 : bB := jW (aLA E)
theorem bBn : SQ D40 S40 := kC bMr
def D41 := cm 41
def aLz (E : aX) (r0 : DV) (h : H) : aQ := vK (bY .ptr false h.get r0 .nilp) λ x1 => bK x1 (some (.nilp, h)) (vK (aA r0) λ x2 => vK (aG 1 x2) λ x3 => vK (aF h.get x3) λ x4 => some (x4, h))
theorem bMq : jX E D41 (aLz E) := Is.rf
def S41 : bB := jW (aLz E)
theorem aQo : SQ D41 S41 := kC bMq
def D42 := cm 42
def aYO (r0 r1 : DV) (h : H) : aQ := vK (bY .ptr false h.get r0 .nilp) λ x1 => bK x1 (some (.nils, h)) (vK (aA r0) λ x2 => vK (aG 1 x2) λ x3 => vK (aF h.get x3) λ x4 => wK (aB E 70 [x4, r1] h) λ x5 h6 => some (x5, h6))
theorem bMp : iS E D42 (aYO E) := Is.rf
def S42 : bB := iN (aYO E)
theorem aQn : SQ D42 S42 := iV bMp
def D43 := cm 43
def aYN (r0 r1 : DV) (h : H) : aQ := fC 2 2 (.list [(ii 0), (ii 0)]) h λ x1 h2 => vK (aA r0) λ x3 => vK (aG 0 x3) λ x4 => vK (aF h2.get x4) λ x5 => wK (aB E 41 [x5] h2) λ x6 h7 => wK (aB E 65 [x6, r1] h7) λ x8 h9 => vK (aT 0 x8) λ x10 => vK (aT 1 x8) λ x11 => fC 6 6 (.list [(ii 0), (ii 0), (ii 0), (ii 0), (ii 0), .nils]) h9 λ x12 h13 => wK (cQ 6 x12 x10 h13) λ x14 h15 => vK (aG 5 x12) λ x16 => vK (aF h15.get x16) λ x17 => vK (aA r0) λ x18 => vK (aG 1 x18) λ x19 => vK (aF h15.get x19) λ x20 => wK (aB E 71 [x17, r1, x20] h15) λ x21 h22 => vK (aT 0 x21) λ x23 => vK (aT 1 x21) λ x24 => vK (cW x24 (ii 0)) λ x25 => aP x25 false (λ kk => kk r0 h22) h22 λ x26 h27 => aP x25 false (λ kk => vK (aA x26) λ v => kk v h27) h27 λ x28 h29 => aP x25 false (λ kk => vK (aG 0 x28) λ v => kk v h29) h29 λ x30 h31 => aP x25 false (λ kk => vK (aF h31.get x30) λ v => kk v h31) h31 λ x32 h33 => aP x25 false (λ kk => kk r1 h33) h33 λ x34 h35 => aP x25 false (λ kk => wK (aB E 15 [x32, x34] h35) kk) h35 λ x36 h37 => aP x25 false (λ kk => kk x23 h37) h37 λ x38 h39 => aP x25 false (λ kk => wK (aB E 72 [x36, x38] h39) kk) h39 λ x40 h41 => aP x25 false (λ kk => vK (dY x40) λ v => kk v h41) h41 λ x42 h43 => vK (aK x25 (.bool true) x42) λ x44 => bK x44 (vK (dF [(ii 0), (ii 0)] [(1, 1, (.int .i64 (.negSucc 0)))]) λ x45 => wK (cQ 2 x1 x45 h43) λ x46 h47 => vK (cR 2 h47.get x1) λ x48 => some (x48, h47)) (vK (dF [(ii 0), (ii 0)] [(0, 1, r1), (1, 1, x23)]) λ x49 => wK (cQ 2 x1 x49 h43) λ x50 h51 => vK (cR 2 h51.get x1) λ x52 => some (x52, h51))
theorem bMo : iS E D43 (aYN E) := Is.rf
def S43 : bB := iN (aYN E)
theorem bBm : SQ D43 S43 := iV bMo
def D44 := cm 44
def bOY := cr (cr (cr (cr (cr D44.body))))
def bOX := cl (cr (cl (cr (cr (cr (cr D44.body))))))
def aRN (r0 r3 r7 : DV) (h : H) : aQ := vK (aG 1 r3) λ x1 => vK (aF h.get x1) λ x2 => wK (aB E 66 [r7, x2] h) λ x3 h4 => vK (aT 0 x3) λ x5 => vK (aT 1 x3) λ x6 => vK (cW x6 (ii 0)) λ x7 => bK x7 (some ((ii 9), h4)) (vK (aA r0) λ x8 => vK (aG 0 x8) λ x9 => vK (aF h4.get x9) λ x10 => vK (aG 0 r3) λ x11 => vK (aF h4.get x11) λ x12 => vK (aG 1 r3) λ x13 => vK (aF h4.get x13) λ x14 => wK (aB E 31 [x10, x12, x14, x5] h4) λ x15 h16 => some (x15, h16))
def bPw (r0 r3 r7 r36 : DV) (i2 : DV → H → aQ) (r37 : DV) (h : H) : aQ := vK (bF r37 r36) λ x1 => bK x1 (vK (aA r0) λ x2 => vK (aG 0 x2) λ x3 => vK (aF h.get x3) λ x4 => vK (aG 0 r3) λ x5 => vK (aF h.get x5) λ x6 => wK (aB E 68 [x4, x6, r37] h) λ x7 h8 => vK (aT 0 x7) λ x9 => vK (aT 1 x7) λ x10 => vK (cH 1 r7 r37) λ x11 => wK (cQ 1 x11 x9 h8) λ x12 h13 => vK (bL r37 (ii 1)) λ x14 => i2 x14 h13) (aRN E r0 r3 r7 h)
def aRs (r0 r3 r7 r36 : DV) (n : Nat) : DV → H → aQ := Nat.rec (motive := λ _ => DV → H → aQ) (λ _ _ => none) (λ _ i => bPw E r0 r3 r7 r36 i) n
def aYM (r0 r1 : DV) (h : H) : aQ := cL r1 h λ x1 h2 => vK (aA r0) λ x3 => vK (aG 0 x3) λ x4 => vK (aF h2.get x4) λ x5 => vK (aG 0 x1) λ x6 => vK (aF h2.get x6) λ x7 => wK (aB E 15 [x5, x7] h2) λ x8 h9 => vK (aW x8) λ x10 => vK (dA x10 (ii 1)) λ x11 => bK x11 (some ((ii 9), h9)) (vK (aA r0) λ x12 => vK (aG 0 x12) λ x13 => vK (aF h9.get x13) λ x14 => vK (aG 0 x1) λ x15 => vK (aF h9.get x15) λ x16 => fC 6 6 (.list [(ii 0), (ii 0), (ii 0), (ii 0), (ii 0), .nils]) h9 λ x17 h18 => wK (aB E 41 [x14] h18) λ x19 h20 => rK (zS (aF h20.get x15) x16) <| wK (aB E 65 [x19, x16] h20) λ x21 h22 => vK (aT 0 x21) λ x23 => vK (aT 1 x21) λ x24 => wK (cQ 6 x17 x23 h22) λ x25 h26 => vK (aG 5 x17) λ x27 => vK (aF h26.get x27) λ x28 => vK (aW x28) λ x29 => jZ 1 16 (.str []) x29 x29 h26 λ x30 h31 => vK (aW x30) λ x32 => aRs E r0 x1 x30 x32 aY (ii 0) h31)
theorem bMm : Is E bOY (aZ D44.res) (λ σ h => aRN E (σ p0) (σ p3) (σ p7) h) := Is.rf
abbrev bKB : fR (DV × H) := (bP (λ σ h => aRN E (σ p0) (σ p3) (σ p7) h) (aZ D44.res))
theorem bMl : Is E bOX (bH 0 (bKB E)) (λ σ h => aRs E (σ p0) (σ p3) (σ p7) (σ p36) aY (σ p37) h) := Is.lp (λ n2 σ h => aRs E (σ p0) (σ p3) (σ p7) (σ p36) n2 (σ p37) h) λ n2 => Is.aq (Is.leaf _)
theorem bMn : iS E D44 (aYM E) := Is.aq (Is.sq (Is.sq (Is.sq (Is.sq (Is.sq (bMm E) (Is.sq (Is.bk (bMl E)) (Is.leaf _))) (Is.leaf _)) (Is.leaf _)) (Is.leaf _)) (Is.leaf _))
def S44 : bB := iN (aYM E)
theorem bBl : SQ D44 S44 := iV bMn
def D45 := cm 45
def bOW := cr (cr (cr (cr D45.body)))
def bOV := cl (cr (cl (cr (cr (cr D45.body)))))
def aRM (E : aX) (r3 : DV) (h : H) : aQ := some (r3, h)
def aGs (r3 r4 r19 : DV) (i2 : DV → H → aQ) (r20 : DV) (h : H) : aQ := vK (bF r20 r19) λ x1 => bK x1 (vK (aA r3) λ x2 => vK (aG 0 x2) λ x3 => vK (aF h.get x3) λ x4 => vK (cH 1 x4 r20) λ x5 => wK (cQ 1 x5 r4 h) λ x6 h7 => vK (bL r20 (ii 1)) λ x8 => i2 x8 h7) (aRM E r3 h)
def aCt (r3 r4 r19 : DV) (n : Nat) : DV → H → aQ := Nat.rec (motive := λ _ => DV → H → aQ) (λ _ _ => none) (λ _ i => aGs E r3 r4 r19 i) n
def aLy (r0 : DV) (h : H) : aQ := xL h λ x1 h2 => vK (rL r0 (ii 1)) λ x3 => vK (vR x3 (ii 4096)) λ x4 => jZ 1 16 (.str []) x4 x4 h2 λ x5 h6 => vK (dF [.nils, .nilm, (.bool false)] [(1, 1, x1), (0, 1, x5)]) λ x7 => cL x7 h6 λ x8 h9 => jZ 1 1 (.int .u8 (.ofNat 0)) (ii 64) (ii 64) h9 λ x10 h11 => vK (jY h11.get x10) λ x12 => vK (aA x8) λ x13 => vK (aG 0 x13) λ x14 => vK (aF h11.get x14) λ x15 => vK (aW x15) λ x16 => aCt E x8 x12 x16 aY (ii 0) h11
theorem bMj : Is E bOW (aZ D45.res) (λ σ h => aRM E (σ p3) h) := Is.rf
abbrev bKA : fR (DV × H) := (bP (λ σ h => aRM E (σ p3) h) (aZ D45.res))
theorem bMi : Is E bOV (bH 0 (bKA E)) (λ σ h => aCt E (σ p3) (σ p4) (σ p19) aY (σ p20) h) := Is.lp (λ n2 σ h => aCt E (σ p3) (σ p4) (σ p19) n2 (σ p20) h) λ n2 => Is.aq (Is.leaf _)
theorem bMk : jX E D45 (aLy E) := Is.aq (Is.sq (Is.sq (Is.sq (Is.sq (bMj E) (Is.sq (Is.bk (bMi E)) (Is.leaf _))) (Is.leaf _)) (Is.leaf _)) (Is.leaf _))
def S45 : bB := jW (aLy E)
theorem bBk : SQ D45 S45 := kC bMk
def D46 := cm 46
def bOU := cr (cr (cr (cr (cr (cl (cr D46.body))))))
def aTX := cl (cr (cl (cr (cr (cr (cr (cl (cr D46.body))))))))
def bOT := cr (cr (cr (cl aTX)))
def bOS := cr (cr (cr (cr (cr (cl (cl (cr (cr (cl aTX)))))))))
def aGg (E : aX) (r6 : DV) (h : H) : aQ := some ((.tup [r6, (ii 0)]), h)
def aLw (E : aX) (i2 : DV → H → aQ) (r24 : DV) (h : H) : aQ := vK (bL r24 (ii 1)) λ x1 => i2 x1 h
def aLv (i2 : DV → H → aQ) (r6 r10 r24 : DV) (h : H) : aQ := vK (aA r6) λ x1 => vK (aG 1 x1) λ x2 => vK (aF h.get x2) λ x3 => vK (cR 4 h.get r10) λ x4 => dB 1 4 [(.bool false), (ii 0), (ii 0), (ii 0)] [(0, 4, x4)] h λ x5 h6 => wK (cG 4 32 x3 x5 h6) λ x7 h8 => vK (aA r6) λ x9 => vK (aG 1 x9) λ x10 => wK (cQ 1 x10 x7 h8) λ x11 h12 => aLw E i2 r24 h12
def aGr (r0 r6 : DV) (i2 : DV → H → aQ) (r24 : DV) (h : H) : aQ := vK (bF r24 (ii 256)) λ x1 => bK x1 (vK (mR r24 (ii 9)) λ x2 => wK (aB E 73 [r0, x2, (ii 9)] h) λ x3 h4 => vK (aT 0 x3) λ x5 => vK (aT 1 x3) λ x6 => vK (bV x6 (ii 0)) λ x7 => bK x7 (wK (aB E 74 [x5] h4) λ x8 h9 => fC 4 4 (.list [(.bool false), (ii 0), (ii 0), (ii 0)]) h9 λ x10 h11 => wK (cQ 4 x10 x8 h11) λ x12 h13 => vK (aG 0 x10) λ x14 => vK (aF h13.get x14) λ x15 => aP x15 true (λ kk => kk r6 h13) h13 λ x16 h17 => aP x15 true (λ kk => vK (aG 1 x10) λ v => kk v h17) h17 λ x18 h19 => aP x15 true (λ kk => vK (cR 2 h19.get x18) λ v => kk v h19) h19 λ x20 h21 => aP x15 true (λ kk => wK (aB E 75 [x16, x20] h21) kk) h21 λ x22 h23 => aP x15 true (λ kk => vK (dZ x22 (ii 0)) λ v => kk v h23) h23 λ x24 h25 => vK (aK x15 x24 (.bool false)) λ x26 => bK x26 (vK (dF [(.bool false), (ii 0), (ii 0), (ii 0)] []) λ x27 => wK (cQ 4 x10 x27 h25) λ x28 h29 => aLv E i2 r6 x10 r24 h29) (aLv E i2 r6 x10 r24 h25)) (vK (bV x6 (ii 5)) λ x30 => bK x30 (aGg E r6 h4) (some ((.tup [.nilp, x6]), h4)))) (aGg E r6 h)
def sH (r0 r6 : DV) (n : Nat) : DV → H → aQ := Nat.rec (motive := λ _ => DV → H → aQ) (λ _ _ => none) (λ _ i => aGr E r0 r6 i) n
def aLx (r0 : DV) (h : H) : aQ := vK (bY .ptr false h.get r0 .nilp) λ x1 => bK x1 (some ((.tup [.nilp, (ii 1)]), h)) (wK (aB E 73 [r0, (ii 0), (ii 1)] h) λ x2 h3 => vK (aT 0 x2) λ x4 => vK (aT 1 x2) λ x5 => vK (cW x5 (ii 0)) λ x6 => bK x6 (some ((.tup [.nilp, x5]), h3)) (vK (dF [.nilp, .nils, (.bool false)] [(0, 1, r0)]) λ x7 => cL x7 h3 λ x8 h9 => sH E r0 x8 aY (ii 0) h9))
theorem bMg : Is E bOU (uC (aZ D46.res)) (λ σ h => aGg E (σ p6) h) := Is.rf
abbrev aXU : fR (DV × H) := (bP (λ σ h => aGg E (σ p6) h) (uC (aZ D46.res)))
abbrev aXT (n2 : Nat) : fR (DV × H) := (bP (λ σ h => (sH E (σ p0) (σ p6) n2) (σ p24) h) (bH 0 (aXU E)))
theorem bMe (n2 : Nat) : Is E bOT (aXT E n2) (λ σ h => aLw E (sH E (σ p0) (σ p6) n2) (σ p24) h) := Is.rf
abbrev bKz (n2 : Nat) : fR (DV × H) := (bP (λ σ h => aLw E (sH E (σ p0) (σ p6) n2) (σ p24) h) (aXT E n2))
theorem bMd (n2 : Nat) : Is E bOS (bH 1 (bKz E n2)) (λ σ h => aLv E (sH E (σ p0) (σ p6) n2) (σ p6) (σ lT) (σ p24) h) := Is.rf
theorem bMf : Is E aTX (bH 0 (aXU E)) (λ σ h => sH E (σ p0) (σ p6) aY (σ p24) h) := Is.lp (λ n2 σ h => sH E (σ p0) (σ p6) n2 (σ p24) h) λ n2 => Is.aq (Is.sq (Is.sq (Is.sq (bMe E n2) (Is.bk (Is.sq (Is.sq (Is.sq (Is.sq (Is.sq (bMd E n2) (Is.leaf _)) (Is.leaf _)) (Is.leaf _)) (Is.leaf _)) (Is.leaf _)))) (Is.leaf _)) (Is.leaf _))
theorem bMh : jX E D46 (aLx E) := Is.aq (Is.sq (Is.sc (Is.sq (Is.sq (Is.sq (Is.sq (Is.sq (bMg E) (Is.sq (Is.bk (bMf E)) (Is.leaf _))) (Is.leaf _)) (Is.leaf _)) (Is.leaf _)) (Is.leaf _))) (Is.leaf _))
def S46 : bB := jW (aLx E)
theorem bBj : SQ D46 S46 := kC bMh
def D47 := cm 47
def aYL (r0 r1 : DV) (h : H) : aQ := wK (aB E 76 [r0, r1] h) λ x1 h2 => vK (dY x1) λ x3 => bK x3 (some (.nilp, h2)) (wK (aB E 77 [r0] h2) λ x4 h5 => wK (aB E 77 [r1] h5) λ x6 h7 => vK (dF [.nils, .nils, (ii 0), (ii 0), (.bool false), (ii 0)] [(0, 1, x4), (1, 1, x6), (2, 1, (ii 1)), (3, 1, (.int .i64 (.negSucc 0))), (5, 1, (.int .i64 (.negSucc 0)))]) λ x8 => cL x8 h7 λ x9 h10 => some (x9, h10))
theorem bMc : iS E D47 (aYL E) := Is.rf
def S47 : bB := iN (aYL E)
theorem aQm : SQ D47 S47 := iV bMc
def D48 := cm 48
def aYK (E : aX) (h : H) : aQ := vK (dF [.nils, (ii 0)] []) λ x1 => cL x1 h λ x2 h3 => some (x2, h3)
theorem bMb : iB0 E D48 (aYK E) := Is.rf
def S48 : bB := fA0 (aYK E)
theorem aQl : SQ D48 S48 := eB0 bMb
def D49 := cm 49
def aYJ (E : aX) (h : H) : aQ := vK (dF (zR [(ii 0)] 1024 ++ []) []) λ x1 => cL x1 h λ x2 h3 => some (x2, h3)
theorem bMa : iB0 E D49 (aYJ E) := Is.rf
def S49 : bB := fA0 (aYJ E)
theorem aQk : SQ D49 S49 := eB0 bMa
def D50 := cm 50
def aYI (E : aX) (h : H) : aQ := vK (dF [.nils] []) λ x1 => cL x1 h λ x2 h3 => some (x2, h3)
theorem bLZ : iB0 E D50 (aYI E) := Is.rf
def S50 : bB := fA0 (aYI E)
theorem aQj : SQ D50 S50 := eB0 bLZ
def D51 := cm 51
def aYH (E : aX) (h : H) : aQ := xL h λ x1 h2 => vK (dF [.nilm, (ii 0)] [(0, 1, x1)]) λ x3 => cL x3 h2 λ x4 h5 => some (x4, h5)
theorem bLY : iB0 E D51 (aYH E) := Is.rf
def S51 : bB := fA0 (aYH E)
theorem aQi : SQ D51 S51 := eB0 bLY
def D52 := cm 52
def aYG (E : aX) (r0 : DV) (h : H) : aQ := vK (rL r0 (ii 1)) λ x1 => vK (vR x1 (ii 16)) λ x2 => xL h λ x3 h4 => vK (dF [(ii 0), .nilm] [(0, 1, x2), (1, 1, x3)]) λ x5 => cL x5 h4 λ x6 h7 => some (x6, h7)
theorem bLX : jX E D52 (aYG E) := Is.rf
def S52 : bB := jW (aYG E)
theorem aQh : SQ D52 S52 := kC bLX
def D53 := cm 53
def bOR := cr (cr (cr (cr D53.body)))
def bOQ := cl (cr (cl (cr (cr (cr D53.body)))))
def aLt (r4 : DV) (h : H) : aQ := wK (aB E 81 [r4] h) λ x1 h2 => vK (aT 0 x1) λ x3 => vK (aT 1 x1) λ x4 => some ((.tup [x3, x4]), h2)
def aGq (r4 r36 r37 : DV) (i2 : DV → H → aQ) (r38 : DV) (h : H) : aQ := vK (bF r38 r37) λ x1 => bK x1 (vK (cH 1 r36 r38) λ x2 => vK (aF h.get x2) λ x3 => vK (aA x3) λ x4 => vK (aF h.get x4) λ x5 => wK (aB E 80 [r4, x5] h) λ x6 h7 => vK (bL r38 (ii 1)) λ x8 => i2 x8 h7) (aLt E r4 h)
def aCs (r4 r36 r37 : DV) (n : Nat) : DV → H → aQ := Nat.rec (motive := λ _ => DV → H → aQ) (λ _ _ => none) (λ _ i => aGq E r4 r36 r37 i) n
def aLu (r0 : DV) (h : H) : aQ := cL r0 h λ x1 h2 => vK (aG 0 x1) λ x3 => vK (aF h2.get x3) λ x4 => vK (bF x4 (ii 0)) λ x5 => aP x5 false (λ kk => vK (aG 0 x1) λ v => kk v h2) h2 λ x6 h7 => aP x5 false (λ kk => vK (aF h7.get x6) λ v => kk v h7) h7 λ x8 h9 => aP x5 false (λ kk => vK (dZ x8 (ii 16)) λ v => kk v h9) h9 λ x10 h11 => vK (aK x5 (.bool true) x10) λ x12 => aP x12 false (λ kk => vK (aG 1 x1) λ v => kk v h11) h11 λ x13 h14 => aP x12 false (λ kk => vK (aF h14.get x13) λ v => kk v h14) h14 λ x15 h16 => aP x12 false (λ kk => vK (bF x15 (ii 0)) λ v => kk v h16) h16 λ x17 h18 => vK (aK x12 (.bool true) x17) λ x19 => aP x19 false (λ kk => vK (aG 1 x1) λ v => kk v h18) h18 λ x20 h21 => aP x19 false (λ kk => vK (aF h21.get x20) λ v => kk v h21) h21 λ x22 h23 => aP x19 false (λ kk => vK (dZ x22 (ii 2147483648)) λ v => kk v h23) h23 λ x24 h25 => vK (aK x19 (.bool true) x24) λ x26 => aP x26 false (λ kk => vK (aG 2 x1) λ v => kk v h25) h25 λ x27 h28 => aP x26 false (λ kk => vK (aF h28.get x27) λ v => kk v h28) h28 λ x29 h30 => aP x26 false (λ kk => vK (bF x29 (ii 1)) λ v => kk v h30) h30 λ x31 h32 => vK (aK x26 (.bool true) x31) λ x33 => aP x33 false (λ kk => vK (aG 2 x1) λ v => kk v h32) h32 λ x34 h35 => aP x33 false (λ kk => vK (aF h35.get x34) λ v => kk v h35) h35 λ x36 h37 => aP x33 false (λ kk => vK (dA x36 (ii 9)) λ v => kk v h37) h37 λ x38 h39 => vK (aK x33 (.bool true) x38) λ x40 => bK x40 (some ((.tup [(.str []), (ii 1)]), h39)) (wK (aB E 78 [(ii 65536)] h39) λ x41 h42 => wK (aB E 79 [x1] h42) λ x43 h44 => vK (aW x43) λ x45 => aCs E x41 x43 x45 aY (ii 0) h44)
theorem bLV : Is E bOR (aZ D53.res) (λ σ h => aLt E (σ p4) h) := Is.rf
abbrev bKy : fR (DV × H) := (bP (λ σ h => aLt E (σ p4) h) (aZ D53.res))
theorem bLU : Is E bOQ (bH 0 (bKy E)) (λ σ h => aCs E (σ p4) (σ p36) (σ p37) aY (σ p38) h) := Is.lp (λ n2 σ h => aCs E (σ p4) (σ p36) (σ p37) n2 (σ p38) h) λ n2 => Is.aq (Is.leaf _)
theorem bLW : jX E D53 (aLu E) := Is.aq (Is.sq (Is.sq (Is.sq (Is.sq (bLV E) (Is.sq (Is.bk (bLU E)) (Is.leaf _))) (Is.leaf _)) (Is.leaf _)) (Is.leaf _))
def S53 : bB := jW (aLu E)
theorem aQg : SQ D53 S53 := kC bLW
def D54 := cm 54
def aYF (r0 : DV) (h : H) : aQ := wK (aB E 82 [r0] h) λ x1 h2 => wK (aB E 83 [x1] h2) λ x3 h4 => wK (aB E 84 [x1] h4) λ x5 h6 => wK (aB E 85 [x1] h6) λ x7 h8 => vK (cW x7 (ii 0)) λ x9 => bK x9 (some ((.tup [(ii 0), .nils, (ii 3)]), h8)) (some ((.tup [x3, x5, (ii 0)]), h8))
theorem bLT : jX E D54 (aYF E) := Is.rf
def S54 : bB := jW (aYF E)
theorem aQf : SQ D54 S54 := kC bLT
def D55 := cm 55
def aYE (r0 r1 : DV) (h : H) : aQ := vK (bY .ptr false h.get r0 .nilp) λ x1 => bK x1 (wK (aB E 86 [.nils, (ii 1)] h) λ x2 h3 => some (x2, h3)) (wK (aB E 87 [r1] h) λ x4 h5 => vK (aT 0 x4) λ x6 => vK (aT 1 x4) λ x7 => fC 8 8 (.list [(ii 0), (ii 0), (ii 0), (ii 0), (ii 0), (ii 0), (ii 0), (ii 0)]) h5 λ x8 h9 => wK (cQ 8 x8 x6 h9) λ x10 h11 => vK (cW x7 (ii 0)) λ x12 => bK x12 (wK (aB E 86 [.nils, x7] h11) λ x13 h14 => some (x13, h14)) (vK (aA r0) λ x15 => vK (aG 5 x15) λ x16 => vK (aF h11.get x16) λ x17 => vK (aG 0 x8) λ x18 => vK (aF h11.get x18) λ x19 => vK (aG 1 x8) λ x20 => vK (aF h11.get x20) λ x21 => wK (aB E 88 [x17, x19, x21] h11) λ x22 h23 => vK (aT 0 x22) λ x24 => vK (aT 1 x22) λ x25 => vK (bV x24 (ii 2)) λ x26 => bK x26 (some (x25, h23)) (vK (bV x24 (ii 1)) λ x27 => bK x27 (vK (aG 2 x8) λ x28 => vK (aF h23.get x28) λ x29 => vK (cR 8 h23.get x8) λ x30 => wK (aB E 89 [x29] h23) λ x31 h32 => rK (zS (cR 8 h32.get x8) x30) <| wK (mJ E x31 [r0, x30] h32) λ x33 h34 => vK (aT 0 x33) λ x35 => vK (aT 1 x33) λ x36 => wK (aB E 86 [x35, x36] h34) λ x37 h38 => vK (aA r0) λ x39 => vK (aG 5 x39) λ x40 => vK (aF h38.get x40) λ x41 => vK (aG 0 x8) λ x42 => vK (aF h38.get x42) λ x43 => vK (aG 1 x8) λ x44 => vK (aF h38.get x44) λ x45 => wK (aB E 90 [x41, x43, x45, x37] h38) λ x46 h47 => some (x37, h47)) (wK (aB E 86 [.nils, (ii 16)] h23) λ x48 h49 => some (x48, h49)))))
theorem bLS : iS E D55 (aYE E) := Is.rf
def S55 : bB := iN (aYE E)
theorem aQe : SQ D55 S55 := iV bLS
def D56 := cm 56
def aYD (E : aX) (r0 : DV) (h : H) : aQ := vK (dZ r0 (ii 2)) λ x1 => aP x1 true (λ kk => kk r0 h) h λ x2 h3 => aP x1 true (λ kk => vK (rT x2 (ii 8)) λ v => kk v h3) h3 λ x4 h5 => vK (aK x1 x4 (.bool false)) λ x6 => some (x6, h5)
theorem bLR : jX E D56 (aYD E) := Is.rf
def S56 : bB := jW (aYD E)
theorem bBh : SQ D56 S56 := kC bLR
def D57 := cm 57
def aYC (r0 r1 : DV) (h : H) : aQ := vK (bF r0 (ii 0)) λ x1 => aP x1 false (λ kk => kk r0 h) h λ x2 h3 => aP x1 false (λ kk => vK (dA x2 (ii 65536)) λ v => kk v h3) h3 λ x4 h5 => vK (aK x1 (.bool true) x4) λ x6 => aP x6 false (λ kk => kk r1 h5) h5 λ x7 h8 => aP x6 false (λ kk => wK (aB E 56 [x7] h8) kk) h8 λ x9 h10 => aP x6 false (λ kk => vK (dY x9) λ v => kk v h10) h10 λ x11 h12 => vK (aK x6 (.bool true) x11) λ x13 => bK x13 (some ((ii 0), h12)) (vK (bL r0 r1) λ x14 => vK (jO x14 (ii 2)) λ x15 => vK (jO r1 (ii 1)) λ x16 => vK (aNf x15 x16) λ x17 => some (x17, h12))
theorem bLQ : iS E D57 (aYC E) := Is.rf
def S57 : bB := iN (aYC E)
theorem bBg : SQ D57 S57 := iV bLQ
def D58 := cm 58
def aZk := cr (cr (cr (cr D58.body)))
def bOO := cr aZk
def bOP := cl (cl (cr (cr (cr D58.body))))
def aRK (E : aX) (r6 : DV) (h : H) : aQ := some ((.tup [r6, (ii 0)]), h)
def aRL (r0 r1 r6 : DV) (h : H) : aQ := vK (cW r0 (.str [])) λ x1 => bK x1 (vK (dT r0) λ x2 => vK (jO r1 x2) λ x3 => wK (aB E 91 [x3] h) λ x4 h5 => vK (bL r0 x4) λ x6 => dB 1 1 [(.str [])] [(0, 1, x6)] h5 λ x7 h8 => wK (cG 1 16 r6 x7 h8) λ x9 h10 => aRK E x9 h10) (aRK E r6 h)
def bPv (r1 : DV) (i2 : DV → DV → H → aQ) (r0 r6 : DV) (h : H) : aQ := vK (dT r0) λ x1 => vK (dA x1 r1) λ x2 => bK x2 (vK (jM r0 none (some r1)) λ x3 => dB 1 1 [(.str [])] [(0, 1, x3)] h λ x4 h5 => wK (cG 1 16 r6 x4 h5) λ x6 h7 => vK (jM r0 (some r1) none) λ x8 => i2 x8 x6 h7) (aRL E r0 r1 r6 h)
def aRr (r1 : DV) (n : Nat) : DV → DV → H → aQ := Nat.rec (motive := λ _ => DV → DV → H → aQ) (λ _ _ _ => none) (λ _ i => bPv E r1 i) n
def aYB (r0 r1 : DV) (h : H) : aQ := vK (bF r1 (ii 1)) λ x1 => aP x1 false (λ kk => kk r1 h) h λ x2 h3 => aP x1 false (λ kk => vK (dA x2 (ii 65536)) λ v => kk v h3) h3 λ x4 h5 => vK (aK x1 (.bool true) x4) λ x6 => bK x6 (some ((.tup [.nils, (ii 1)]), h5)) (aRr E r1 aY r0 .nils h5)
theorem bLM : Is E bOO (aZ D58.res) (λ σ h => aRK E (σ p6) h) := Is.rf
theorem bLO : Is E aZk (aZ D58.res) (λ σ h => aRL E (σ p0) (σ p1) (σ p6) h) := Is.aq (Is.sq (bLM E) (Is.leaf _))
abbrev bKx : fR (DV × H) := (bP (λ σ h => aRL E (σ p0) (σ p1) (σ p6) h) (aZ D58.res))
theorem bLN : Is E bOP (bH 0 (bKx E)) (λ σ h => aRr E (σ p1) aY (σ p0) (σ p6) h) := Is.lp (λ n2 σ h => aRr E (σ p1) n2 (σ p0) (σ p6) h) λ n2 => Is.aq (Is.leaf _)
theorem bLP : iS E D58 (aYB E) := Is.aq (Is.sq (Is.sq (Is.sq (Is.sq (bLO E) (Is.bk (bLN E))) (Is.leaf _)) (Is.leaf _)) (Is.leaf _))
def S58 : bB := iN (aYB E)
theorem bBf : SQ D58 S58 := iV bLP
def D59 := cm 59
def aCx (r0 r1 : DV) (h : H) : aQ := vK (bF r1 (ii 0)) λ x1 => aP x1 false (λ kk => kk r1 h) h λ x2 h3 => aP x1 false (λ kk => vK (dA x2 (ii 65536)) λ v => kk v h3) h3 λ x4 h5 => vK (aK x1 (.bool true) x4) λ x6 => bK x6 (some ((.tup [(.str []), (ii 1)]), h5)) (vK (dT r0) λ x7 => vK (dA x7 r1) λ x8 => bK x8 (some ((.tup [(.str []), (ii 2)]), h5)) (vK (dT r0) λ x9 => vK (jO r1 x9) λ x10 => wK (aB E 91 [x10] h5) λ x11 h12 => vK (bL r0 x11) λ x13 => some ((.tup [x13, (ii 0)]), h12)))
theorem bLL : iS E D59 (aCx E) := Is.rf
def S59 : bB := iN (aCx E)
theorem bBe : SQ D59 S59 := iV bLL
def D60 := cm 60
def bON := cr (cr (cr D60.body))
def aZj := cl (cr (cl (cr (cr D60.body))))
def bOM := cr (cr (cr (cl aZj)))
def aRJ (E : aX) (r6 : DV) (h : H) : aQ := some ((.tup [r6, (.bool true)]), h)
def aRI (E : aX) (i2 : DV → DV → H → aQ) (r7 r14 : DV) (h : H) : aQ := vK (bL r14 (ii 1)) λ x1 => i2 r7 x1 h
def bPu (r1 r6 r12 r13 : DV) (i2 : DV → DV → H → aQ) (r7 r14 : DV) (h : H) : aQ := vK (bF r14 r13) λ x1 => bK x1 (vK (cH 1 r12 r14) λ x2 => vK (aF h.get x2) λ x3 => vK (bV r14 r1) λ x4 => bK x4 (aRI E i2 r7 r14 h) (wK (aB E 92 [r6, x3, r7] h) λ x5 h6 => vK (dY x5) λ x7 => bK x7 (some ((.tup [.nilp, (.bool false)]), h6)) (aRI E i2 (.bool false) r14 h6))) (aRJ E r6 h)
def aGd (r1 r6 r12 r13 : DV) (n : Nat) : DV → DV → H → aQ := Nat.rec (motive := λ _ => DV → DV → H → aQ) (λ _ _ _ => none) (λ _ i => bPu E r1 r6 r12 r13 i) n
def aYA (r0 r1 : DV) (h : H) : aQ := vK (dF (zR [(.int .u8 (.ofNat 0))] 512 ++ [(ii 0)]) []) λ x1 => cL x1 h λ x2 h3 => vK (aW r0) λ x4 => aGd E r1 x2 r0 x4 aY (.bool true) (ii 0) h3
theorem bLJ : Is E bON (aZ D60.res) (λ σ h => aRJ E (σ p6) h) := Is.rf
abbrev aXS : fR (DV × H) := (bP (λ σ h => aRJ E (σ p6) h) (aZ D60.res))
abbrev bKw (n2 : Nat) : fR (DV × H) := (bP (λ σ h => (aGd E (σ p1) (σ p6) (σ rU) (σ pU) n2) (σ p7) (σ qU) h) (bH 0 (aXS E)))
theorem bLH (n2 : Nat) : Is E bOM (bKw E n2) (λ σ h => aRI E (aGd E (σ p1) (σ p6) (σ rU) (σ pU) n2) (σ p7) (σ qU) h) := Is.rf
theorem bLI : Is E aZj (bH 0 (aXS E)) (λ σ h => aGd E (σ p1) (σ p6) (σ rU) (σ pU) aY (σ p7) (σ qU) h) := Is.lp (λ n2 σ h => aGd E (σ p1) (σ p6) (σ rU) (σ pU) n2 (σ p7) (σ qU) h) λ n2 => Is.aq (Is.sq (Is.sq (Is.sq (bLH E n2) (Is.leaf _)) (Is.leaf _)) (Is.leaf _))
theorem bLK : iS E D60 (aYA E) := Is.aq (Is.sq (Is.sq (Is.sq (bLJ E) (Is.sq (Is.bk (bLI E)) (Is.leaf _))) (Is.leaf _)) (Is.leaf _))
def S60 : bB := iN (aYA E)
theorem bBd : SQ D60 S60 := iV bLK
def D61 := cm 61
def aYz (E : aX) (r0 : DV) (h : H) : aQ := vK (aA r0) λ x1 => vK (aG 0 x1) λ x2 => vK (aA r0) λ x3 => vK (aG 512 x3) λ x4 => vK (aF h.get x4) λ x5 => vK (aEs 512 1 x2 none (some x5)) λ x6 => vK (jY h.get x6) λ x7 => some (x7, h)
theorem bLG : jX E D61 (aYz E) := Is.rf
def S61 : bB := jW (aYz E)
theorem bBc : SQ D61 S61 := kC bLG
def D62 := cm 62
def aYy (r0 r1 r2 : DV) (h : H) : aQ := vK (aA r0) λ x1 => vK (aG 1 x1) λ x2 => vK (aF h.get x2) λ x3 => wK (aB E 65 [x3, r1] h) λ x4 h5 => vK (aT 0 x4) λ x6 => vK (aT 1 x4) λ x7 => fC 6 6 (.list [(ii 0), (ii 0), (ii 0), (ii 0), (ii 0), .nils]) h5 λ x8 h9 => wK (cQ 6 x8 x6 h9) λ x10 h11 => vK (dY x7) λ x12 => bK x12 (some ((.tup [(ii 0), (.bool false)]), h11)) (vK (aG 5 x8) λ x13 => vK (aF h11.get x13) λ x14 => wK (aB E 93 [x14, r1, r2] h11) λ x15 h16 => vK (aT 0 x15) λ x17 => vK (aT 1 x15) λ x18 => vK (bV x18 (ii 0)) λ x19 => some ((.tup [x17, x19]), h16))
theorem bLF : iB3 E D62 (aYy E) := Is.rf
def S62 : bB := fA3 (aYy E)
theorem aQd : SQ D62 S62 := eB3 bLF
def D63 := cm 63
def aYx (E : aX) (r2 : DV) (h : H) : aQ := cL r2 h λ x1 h2 => fC 1 1 (.list [(ii 0)]) h2 λ x3 h4 => none
theorem bLE : iB4 E D63 (λ _ _ r2 _ h => aYx E r2 h) := Is.rf
def S63 : bB := fA4 (λ _ _ r2 _ h => aYx E r2 h)
theorem bBb : SQ D63 S63 := eB4 bLE
def D65 := cm 65
def aYw (r0 r1 : DV) (h : H) : aQ := fC 6 6 (.list [(ii 0), (ii 0), (ii 0), (ii 0), (ii 0), .nils]) h λ x1 h2 => vK (bY .ptr false h2.get r0 .nilp) λ x3 => bK x3 (vK (dF [(ii 0), (ii 0), (ii 0), (ii 0), (ii 0), .nils] []) λ x4 => wK (cQ 6 x1 x4 h2) λ x5 h6 => vK (cR 6 h6.get x1) λ x7 => some ((.tup [x7, (.bool false)]), h6)) (vK (aA r0) λ x8 => vK (aG 1 x8) λ x9 => vK (aF h2.get x9) λ x10 => wK (aB E 100 [x10, r1] h2) λ x11 h12 => vK (aT 0 x11) λ x13 => vK (aT 1 x11) λ x14 => wK (cQ 6 x1 x13 h12) λ x15 h16 => vK (cR 6 h16.get x1) λ x17 => some ((.tup [x17, x14]), h16))
theorem bLD : iS E D65 (aYw E) := Is.rf
def S65 : bB := iN (aYw E)
theorem aQc : SQ D65 S65 := iV bLD
def D66 := cm 66
def aYv (r0 r1 : DV) (h : H) : aQ := vK (aW r0) λ x1 => wK (aB E 56 [x1] h) λ x2 h3 => vK (dY x2) λ x4 => aP x4 false (λ kk => kk r1 h3) h3 λ x5 h6 => aP x4 false (λ kk => vK (bF x5 (ii 0)) λ v => kk v h6) h6 λ x7 h8 => vK (aK x4 (.bool true) x7) λ x9 => aP x9 false (λ kk => kk r1 h8) h8 λ x10 h11 => aP x9 false (λ kk => kk r0 h11) h11 λ x12 h13 => aP x9 false (λ kk => vK (aW x12) λ v => kk v h13) h13 λ x14 h15 => aP x9 false (λ kk => vK (dZ x10 x14) λ v => kk v h15) h15 λ x16 h17 => vK (aK x9 (.bool true) x16) λ x18 => bK x18 (some ((.tup [(.str []), (ii 1)]), h17)) (wK (aB E 60 [r0, r1] h17) λ x19 h20 => vK (aT 0 x19) λ x21 => vK (aT 1 x19) λ x22 => vK (dY x22) λ x23 => bK x23 (some ((.tup [(.str []), (ii 2)]), h20)) (wK (aB E 61 [x21] h20) λ x24 h25 => some ((.tup [x24, (ii 0)]), h25)))
theorem bLC : iS E D66 (aYv E) := Is.rf
def S66 : bB := iN (aYv E)
theorem bBa : SQ D66 S66 := iV bLC
def D67 := cm 67
def bOL := cr (cr (cr (cr (cr (cr D67.body)))))
def bOK := cl (cr (cl (cr (cr (cr (cr (cr D67.body)))))))
def aRH (E : aX) (r1 r7 : DV) (h : H) : aQ := vK (eF 1 r7 none (some r1)) λ x1 => vK (jY h.get x1) λ x2 => some ((.tup [x2, (ii 0)]), h)
def bPt (r1 r6 r33 r34 : DV) (i2 : DV → DV → H → aQ) (r7 r35 : DV) (h : H) : aQ := vK (bF r35 r34) λ x1 => bK x1 (vK (cH 1 r33 r35) λ x2 => vK (aF h.get x2) λ x3 => vK (dT x3) λ x4 => vK (cW x4 r6) λ x5 => bK x5 (some ((.tup [(.str []), (ii 2)]), h)) (wK (cG 1 1 r7 x3 h) λ x6 h7 => vK (bL r35 (ii 1)) λ x8 => i2 x6 x8 h7)) (aRH E r1 r7 h)
def aRq (r1 r6 r33 r34 : DV) (n : Nat) : DV → DV → H → aQ := Nat.rec (motive := λ _ => DV → DV → H → aQ) (λ _ _ _ => none) (λ _ i => bPt E r1 r6 r33 r34 i) n
def aYu (r0 r1 : DV) (h : H) : aQ := vK (aW r0) λ x1 => wK (aB E 56 [x1] h) λ x2 h3 => vK (dY x2) λ x4 => bK x4 (some ((.tup [(.str []), (ii 1)]), h3)) (vK (aW r0) λ x5 => wK (aB E 57 [r1, x5] h3) λ x6 h7 => vK (bF r1 (ii 0)) λ x8 => aP x8 false (λ kk => kk r1 h7) h7 λ x9 h10 => aP x8 false (λ kk => vK (dA x9 (ii 65536)) λ v => kk v h10) h10 λ x11 h12 => vK (aK x8 (.bool true) x11) λ x13 => aP x13 false (λ kk => kk x6 h12) h12 λ x14 h15 => aP x13 false (λ kk => vK (dA x14 (ii 512)) λ v => kk v h15) h15 λ x16 h17 => vK (aK x13 (.bool true) x16) λ x18 => bK x18 (some ((.tup [(.str []), (ii 2)]), h17)) (vK (aW r0) λ x19 => vK (mR x6 x19) λ x20 => jZ 1 1 (.int .u8 (.ofNat 0)) (ii 0) x20 h17 λ x21 h22 => vK (aW r0) λ x23 => aRq E r1 x6 r0 x23 aY x21 (ii 0) h22))
theorem bLA : Is E bOL (aZ D67.res) (λ σ h => aRH E (σ p1) (σ p7) h) := Is.rf
abbrev bKv : fR (DV × H) := (bP (λ σ h => aRH E (σ p1) (σ p7) h) (aZ D67.res))
theorem bLz : Is E bOK (bH 0 (bKv E)) (λ σ h => aRq E (σ p1) (σ p6) (σ p33) (σ p34) aY (σ p7) (σ p35) h) := Is.lp (λ n2 σ h => aRq E (σ p1) (σ p6) (σ p33) (σ p34) n2 (σ p7) (σ p35) h) λ n2 => Is.aq (Is.leaf _)
theorem bLB : iS E D67 (aYu E) := Is.aq (Is.sq (Is.sq (Is.sq (Is.sq (Is.sq (Is.sq (bLA E) (Is.sq (Is.bk (bLz E)) (Is.leaf _))) (Is.leaf _)) (Is.leaf _)) (Is.leaf _)) (Is.leaf _)) (Is.leaf _))
def S67 : bB := iN (aYu E)
theorem bAZ : SQ D67 S67 := iV bLB
def D68 := cm 68
def aYt (r0 r1 r2 : DV) (h : H) : aQ := vK (bY .ptr false h.get r0 .nilp) λ x1 => bK x1 (some ((.tup [(.str []), (ii 1)]), h)) (wK (aB E 62 [r0, r1, r2] h) λ x2 h3 => vK (aT 0 x2) λ x4 => vK (aT 1 x2) λ x5 => vK (dY x5) λ x6 => bK x6 (some ((.tup [(.str []), (ii 7)]), h3)) (vK (aA r0) λ x7 => vK (aG 0 x7) λ x8 => vK (aF h3.get x8) λ x9 => vK (dF [(ii 0), (ii 0)] [(0, 1, r1), (1, 1, r2)]) λ x10 => wK (aB E 101 [x9, x4, x10] h3) λ x11 h12 => vK (aT 0 x11) λ x13 => vK (aT 1 x11) λ x14 => some ((.tup [x13, x14]), h12)))
theorem bLy : iB3 E D68 (aYt E) := Is.rf
def S68 : bB := fA3 (aYt E)
theorem bAY : SQ D68 S68 := eB3 bLy
def D69 := cm 69
def aYs (r0 : DV) (h : H) : aQ := vK (bY .ptr false h.get r0 .nilp) λ x1 => bK x1 (some ((ii 0), h)) (vK (aA r0) λ x2 => vK (aG 0 x2) λ x3 => vK (aF h.get x3) λ x4 => wK (aB E 102 [x4] h) λ x5 h6 => some (x5, h6))
theorem bLx : jX E D69 (aYs E) := Is.rf
def S69 : bB := jW (aYs E)
theorem aQb : SQ D69 S69 := kC bLx
def D70 := cm 70
def aYr (r0 r1 : DV) (h : H) : aQ := cL r1 h λ x1 h2 => wK (aB E 103 [r0, (.fn (.func 104) [] [x1])] h2) λ x3 h4 => some (x3, h4)
theorem bLw : iS E D70 (aYr E) := Is.rf
def S70 : bB := iN (aYr E)
theorem aQa : SQ D70 S70 := iV bLw
def D71 := cm 71
def aYq (r0 r1 r2 : DV) (h : H) : aQ := wK (aB E 105 [r0, r1] h) λ x1 h2 => vK (aT 0 x1) λ x3 => vK (aT 1 x1) λ x4 => vK (cW x4 (ii 0)) λ x5 => bK x5 (some ((.tup [(ii 0), x4]), h2)) (wK (aB E 106 [x3, r2] h2) λ x6 h7 => vK (bF x6 (ii 0)) λ x8 => bK x8 (some ((.tup [(ii 0), (ii 7)]), h7)) (some ((.tup [x6, (ii 0)]), h7)))
theorem bLv : iB3 E D71 (aYq E) := Is.rf
def S71 : bB := fA3 (aYq E)
theorem aPZ : SQ D71 S71 := eB3 bLv
def D72 := cm 72
def aYp (r0 r1 : DV) (h : H) : aQ := wK (aB E 106 [r0, r1] h) λ x1 h2 => vK (dZ x1 (ii 0)) λ x3 => some (x3, h2)
theorem bLu : iS E D72 (aYp E) := Is.rf
def S72 : bB := iN (aYp E)
theorem aPY : SQ D72 S72 := iV bLu
def D73 := cm 73
def bOJ := cr (cr (cr (cr D73.body)))
def bOI := cl (cr (cl (cr (cr (cr D73.body)))))
def aLs (E : aX) (r9 : DV) (h : H) : aQ := vK (jY h.get r9) λ x1 => some ((.tup [x1, (ii 0)]), h)
def aGp (r30 r31 : DV) (i2 : DV → DV → H → aQ) (r9 r32 : DV) (h : H) : aQ := vK (bF r32 r31) λ x1 => bK x1 (vK (cH 1 r30 r32) λ x2 => vK (aF h.get x2) λ x3 => wK (cG 1 1 r9 x3 h) λ x4 h5 => vK (bL r32 (ii 1)) λ x6 => i2 x4 x6 h5) (aLs E r9 h)
def aCr (r30 r31 : DV) (n : Nat) : DV → DV → H → aQ := Nat.rec (motive := λ _ => DV → DV → H → aQ) (λ _ _ _ => none) (λ _ i => aGp E r30 r31 i) n
def aCw (r0 r1 r2 : DV) (h : H) : aQ := wK (aB E 107 [r0, r1, r2, (.bool true)] h) λ x1 h2 => vK (cW x1 (ii 0)) λ x3 => bK x3 (some ((.tup [(.str []), x1]), h2)) (vK (mR r2 (ii 64)) λ x4 => jZ 1 1 (.int .u8 (.ofNat 0)) (ii 0) x4 h2 λ x5 h6 => vK (aA r0) λ x7 => vK (aG 0 x7) λ x8 => vK (aF h6.get x8) λ x9 => vK (bL r1 r2) λ x10 => vK (eF 1 x9 (some r1) (some x10)) λ x11 => vK (aW x11) λ x12 => aCr E x11 x12 aY x5 (ii 0) h6)
theorem bLs : Is E bOJ (aZ D73.res) (λ σ h => aLs E (σ p9) h) := Is.rf
abbrev bKu : fR (DV × H) := (bP (λ σ h => aLs E (σ p9) h) (aZ D73.res))
theorem bLr : Is E bOI (bH 0 (bKu E)) (λ σ h => aCr E (σ p30) (σ p31) aY (σ p9) (σ p32) h) := Is.lp (λ n2 σ h => aCr E (σ p30) (σ p31) n2 (σ p9) (σ p32) h) λ n2 => Is.aq (Is.leaf _)
theorem bLt : iB3 E D73 (aCw E) := Is.aq (Is.sq (Is.sq (Is.sq (Is.sq (bLs E) (Is.sq (Is.bk (bLr E)) (Is.leaf _))) (Is.leaf _)) (Is.leaf _)) (Is.leaf _))
def S73 : bB := fA3 (aCw E)
theorem bAX : SQ D73 S73 := eB3 bLt
def D74 := cm 74
def aLr (r0 : DV) (h : H) : aQ := fC 4 4 (.list [(.bool false), (ii 0), (ii 0), (ii 0)]) h λ x1 h2 => vK (jM r0 none (some (ii 64))) λ x3 => vK (jM r0 (some (ii 64)) none) λ x4 => vK (jM x3 (some (ii 4)) none) λ x5 => vK (jM x3 (some (ii 8)) none) λ x6 => vK (jM x3 (some (ii 12)) none) λ x7 => fC 4 4 (.list [(.bool false), (ii 0), (ii 0), (ii 0)]) h2 λ x8 h9 => wK (aB E 108 [x5] h9) λ x10 h11 => wK (aB E 108 [x6] h11) λ x12 h13 => vK (dF [(ii 0), (ii 0)] [(0, 1, x10), (1, 1, x12)]) λ x14 => wK (aB E 108 [x7] h13) λ x15 h16 => vK (dF [(.bool false), (ii 0), (ii 0), (ii 0)] [(0, 1, (.bool true)), (1, 2, x14), (3, 1, x15)]) λ x17 => wK (cQ 4 x8 x17 h16) λ x18 h19 => vK (aG 1 x8) λ x20 => vK (cR 2 h19.get x20) λ x21 => wK (aB E 109 [x21] h19) λ x22 h23 => vK (dY x22) λ x24 => aP x24 false (λ kk => vK (aG 3 x8) λ v => kk v h23) h23 λ x25 h26 => aP x24 false (λ kk => vK (aF h26.get x25) λ v => kk v h26) h26 λ x27 h28 => aP x24 false (λ kk => vK (dA x27 (ii 512)) λ v => kk v h28) h28 λ x29 h30 => vK (aK x24 (.bool true) x29) λ x31 => aP x31 false (λ kk => vK (aG 1 x8) λ v => kk v h30) h30 λ x32 h33 => aP x31 false (λ kk => vK (cR 2 h33.get x32) λ v => kk v h33) h33 λ x34 h35 => aP x31 false (λ kk => kk x4 h35) h35 λ x36 h37 => aP x31 false (λ kk => vK (aG 3 x8) λ v => kk v h37) h37 λ x38 h39 => aP x31 false (λ kk => vK (aF h39.get x38) λ v => kk v h39) h39 λ x40 h41 => aP x31 false (λ kk => vK (jM x36 none (some x40)) λ v => kk v h41) h41 λ x42 h43 => aP x31 false (λ kk => kk x3 h43) h43 λ x44 h45 => aP x31 false (λ kk => wK (aB E 110 [x34, x42] h45) kk) h45 λ x46 h47 => aP x31 false (λ kk => vK (cW x46 x44) λ v => kk v h47) h47 λ x48 h49 => vK (aK x31 (.bool true) x48) λ x50 => bK x50 (vK (dF [(.bool false), (ii 0), (ii 0), (ii 0)] []) λ x51 => wK (cQ 4 x1 x51 h49) λ x52 h53 => vK (cR 4 h53.get x1) λ x54 => some (x54, h53)) (vK (cR 4 h49.get x8) λ x55 => wK (cQ 4 x1 x55 h49) λ x56 h57 => vK (cR 4 h57.get x1) λ x58 => some (x58, h57))
theorem bLq : jX E D74 (aLr E) := Is.rf
def S74 : bB := jW (aLr E)
theorem bAW : SQ D74 S74 := kC bLq
def D75 := cm 75
def aYo (r0 r1 : DV) (h : H) : aQ := cL r1 h λ x1 h2 => vK (aA r0) λ x3 => vK (aG 1 x3) λ x4 => vK (aF h2.get x4) λ x5 => wK (aB E 111 [x5, (.fn (.func 112) [] [x1])] h2) λ x6 h7 => some (x6, h7)
theorem bLp : iS E D75 (aYo E) := Is.rf
def S75 : bB := iN (aYo E)
theorem bAV : SQ D75 S75 := iV bLp
def D76 := cm 76
def aYn (r0 r1 : DV) (h : H) : aQ := vK (aW r0) λ x1 => vK (dZ x1 (ii 2)) λ x2 => aP x2 true (λ kk => kk r0 h) h λ x3 h4 => aP x2 true (λ kk => vK (aW x3) λ v => kk v h4) h4 λ x5 h6 => aP x2 true (λ kk => vK (rT x5 (ii 8)) λ v => kk v h6) h6 λ x7 h8 => vK (aK x2 x7 (.bool false)) λ x9 => aP x9 true (λ kk => kk r0 h8) h8 λ x10 h11 => aP x9 true (λ kk => kk r1 h11) h11 λ x12 h13 => aP x9 true (λ kk => dB 2 1 [.nils] [(0, 1, x10), (1, 1, x12)] h13 kk) h13 λ x14 h15 => aP x9 true (λ kk => wK (aB E 113 [x14] h15) kk) h15 λ x16 h17 => vK (aK x9 x16 (.bool false)) λ x18 => some (x18, h17)
theorem bLo : iS E D76 (aYn E) := Is.rf
def S76 : bB := iN (aYn E)
theorem aPX : SQ D76 S76 := iV bLo
def D77 := cm 77
def aYm (E : aX) (r0 : DV) (h : H) : aQ := vK (aW r0) λ x1 => jZ 1 8 (ii 0) x1 x1 h λ x2 h3 => wK (jK 1 x2 r0 h3) λ x4 h5 => some (x2, h5)
theorem bLn : jX E D77 (aYm E) := Is.rf
def S77 : bB := jW (aYm E)
theorem aPW : SQ D77 S77 := kC bLn
def D78 := cm 78
def aLq (E : aX) (r0 : DV) (h : H) : aQ := vK (rL r0 (ii 0)) λ x1 => vK (vR x1 (ii 65536)) λ x2 => vK (dF [(ii 0), .nils, (ii 0)] [(0, 1, x2)]) λ x3 => cL x3 h λ x4 h5 => some (x4, h5)
theorem bLm : jX E D78 (aLq E) := Is.rf
def S78 : bB := jW (aLq E)
theorem aPV : SQ D78 S78 := kC bLm
def D79 := cm 79
def aLp (E : aX) (r0 : DV) (h : H) : aQ := vK (aA r0) λ x1 => vK (aG 0 x1) λ x2 => vK (aA r0) λ x3 => vK (aG 1 x3) λ x4 => vK (aA r0) λ x5 => vK (aG 2 x5) λ x6 => vK (aA r0) λ x7 => vK (aG 3 x7) λ x8 => vK (aA r0) λ x9 => vK (aG 4 x9) λ x10 => vK (aA r0) λ x11 => vK (aG 5 x11) λ x12 => vK (aA r0) λ x13 => vK (aG 6 x13) λ x14 => vK (aA r0) λ x15 => vK (aG 7 x15) λ x16 => dB 8 1 [.nilp] [(0, 1, x2), (1, 1, x4), (2, 1, x6), (3, 1, x8), (4, 1, x10), (5, 1, x12), (6, 1, x14), (7, 1, x16)] h λ x17 h18 => some (x17, h18)
theorem bLl : jX E D79 (aLp E) := Is.rf
def S79 : bB := jW (aLp E)
theorem aPU : SQ D79 S79 := kC bLl
def D80 := cm 80
def aLo (r0 r1 : DV) (h : H) : aQ := cL r1 h λ x1 h2 => wK (aB E 114 [r0, (.fn (.func 115) [] [x1])] h2) λ x3 h4 => some ((.tup []), h4)
theorem bLk : iS E D80 (aLo E) := Is.rf
def S80 : bB := iN (aLo E)
theorem aPT : SQ D80 S80 := iV bLk
def D81 := cm 81
def aLn (E : aX) (r0 : DV) (h : H) : aQ := vK (bY .ptr false h.get r0 .nilp) λ x1 => bK x1 (some ((.tup [(.str []), (ii 1)]), h)) (vK (aA r0) λ x2 => vK (aG 2 x2) λ x3 => vK (aF h.get x3) λ x4 => vK (cW x4 (ii 0)) λ x5 => bK x5 (vK (aA r0) λ x6 => vK (aG 2 x6) λ x7 => vK (aF h.get x7) λ x8 => some ((.tup [(.str []), x8]), h)) (vK (aA r0) λ x9 => vK (aG 1 x9) λ x10 => vK (aF h.get x10) λ x11 => vK (jY h.get x11) λ x12 => some ((.tup [x12, (ii 0)]), h)))
theorem bLj : jX E D81 (aLn E) := Is.rf
def S81 : bB := jW (aLn E)
theorem aPS : SQ D81 S81 := kC bLj
def D82 := cm 82
def aLm (E : aX) (r0 : DV) (h : H) : aQ := vK (dF [(.str []), (.bool false)] [(0, 1, r0)]) λ x1 => cL x1 h λ x2 h3 => some (x2, h3)
theorem bLi : jX E D82 (aLm E) := Is.rf
def S82 : bB := jW (aLm E)
theorem aPR : SQ D82 S82 := kC bLi
def D83 := cm 83
def aYl (r0 : DV) (h : H) : aQ := wK (aB E 117 [r0, (ii 1)] h) λ x1 h2 => vK (aT 0 x1) λ x3 => vK (aT 1 x1) λ x4 => bK x4 (vK (lU x3 (ii 0)) λ x5 => vK (cO .i64 x5) λ x6 => some (x6, h2)) (some ((ii 0), h2))
theorem bLh : jX E D83 (aYl E) := Is.rf
def S83 : bB := jW (aYl E)
theorem aPQ : SQ D83 S83 := kC bLh
def D84 := cm 84
def aYk (r0 : DV) (h : H) : aQ := wK (aB E 119 [r0, (.fn (.func 118) [r0] [])] h) λ x1 h2 => some (x1, h2)
theorem bLg : jX E D84 (aYk E) := Is.rf
def S84 : bB := jW (aYk E)
theorem aPP : SQ D84 S84 := kC bLg
def D85 := cm 85
def aLl (E : aX) (r0 : DV) (h : H) : aQ := vK (bY .ptr false h.get r0 .nilp) λ x1 => bK x1 (some ((ii 1), h)) (vK (aA r0) λ x2 => vK (aG 1 x2) λ x3 => vK (aF h.get x3) λ x4 => aP x4 false (λ kk => kk r0 h) h λ x5 h6 => aP x4 false (λ kk => vK (aA x5) λ v => kk v h6) h6 λ x7 h8 => aP x4 false (λ kk => vK (aG 0 x7) λ v => kk v h8) h8 λ x9 h10 => aP x4 false (λ kk => vK (aF h10.get x9) λ v => kk v h10) h10 λ x11 h12 => aP x4 false (λ kk => vK (cW x11 (.str [])) λ v => kk v h12) h12 λ x13 h14 => vK (aK x4 (.bool true) x13) λ x15 => bK x15 (some ((ii 3), h14)) (some ((ii 0), h14)))
theorem bLf : jX E D85 (aLl E) := Is.rf
def S85 : bB := jW (aLl E)
theorem aPO : SQ D85 S85 := kC bLf
def D86 := cm 86
def bOH := cr (cr D86.body)
def aRG (r0 r1 : DV) (h : H) : aQ := wK (aB E 78 [(ii 65536)] h) λ x1 h2 => wK (aB E 120 [x1, r1] h2) λ x3 h4 => wK (aB E 121 [x1, r0] h4) λ x5 h6 => wK (aB E 81 [x1] h6) λ x7 h8 => vK (aT 0 x7) λ x9 => vK (aT 1 x7) λ x10 => some (x9, h8)
def aYj (r0 r1 : DV) (h : H) : aQ := vK (cW r1 (ii 0)) λ x1 => bK x1 (aRG E .nils r1 h) (aRG E r0 r1 h)
theorem bLd : Is E bOH (aZ D86.res) (λ σ h => aRG E (σ p0) (σ p1) h) := Is.rf
theorem bLe : iS E D86 (aYj E) := Is.aq (Is.sq (Is.sq (bLd E) (Is.leaf _)) (Is.leaf _))
def S86 : bB := iN (aYj E)
theorem aPN : SQ D86 S86 := iV bLe
def D87 := cm 87
def bOG := cr (cr (cr D87.body))
def bOF := cl (cr (cl (cr (cr D87.body))))
def aLj (r2 r4 r5 : DV) (h : H) : aQ := vK (cR 8 h.get r5) λ x1 => wK (aB E 53 [x1] h) λ x2 h3 => vK (aT 0 x2) λ x4 => vK (aT 1 x2) λ x5 => vK (cW x5 (ii 0)) λ x6 => aP x6 false (λ kk => kk r4 h3) h3 λ x7 h8 => aP x6 false (λ kk => wK (aB E 85 [x7] h8) kk) h8 λ x9 h10 => aP x6 false (λ kk => vK (cW x9 (ii 0)) λ v => kk v h10) h10 λ x11 h12 => vK (aK x6 (.bool true) x11) λ x13 => bK x13 (vK (dF [(ii 0), (ii 0), (ii 0), (ii 0), (ii 0), (ii 0), (ii 0), (ii 0)] []) λ x14 => wK (cQ 8 r2 x14 h12) λ x15 h16 => vK (cR 8 h16.get r2) λ x17 => some ((.tup [x17, (ii 3)]), h16)) (vK (cR 8 h12.get r5) λ x18 => wK (cQ 8 r2 x18 h12) λ x19 h20 => vK (cR 8 h20.get r2) λ x21 => some ((.tup [x21, (ii 0)]), h20))
def aGo (r2 r4 r5 r13 r14 : DV) (i2 : DV → H → aQ) (r15 : DV) (h : H) : aQ := vK (bF r15 r14) λ x1 => bK x1 (vK (cH 1 r13 r15) λ x2 => vK (aF h.get x2) λ x3 => wK (aB E 118 [r4] h) λ x4 h5 => vK (aA x3) λ x6 => wK (cQ 1 x6 x4 h5) λ x7 h8 => vK (bL r15 (ii 1)) λ x9 => i2 x9 h8) (aLj E r2 r4 r5 h)
def aCq (r2 r4 r5 r13 r14 : DV) (n : Nat) : DV → H → aQ := Nat.rec (motive := λ _ => DV → H → aQ) (λ _ _ => none) (λ _ i => aGo E r2 r4 r5 r13 r14 i) n
def aLk (r0 : DV) (h : H) : aQ := fC 8 8 (.list [(ii 0), (ii 0), (ii 0), (ii 0), (ii 0), (ii 0), (ii 0), (ii 0)]) h λ x1 h2 => wK (aB E 82 [r0] h2) λ x3 h4 => vK (dF [(ii 0), (ii 0), (ii 0), (ii 0), (ii 0), (ii 0), (ii 0), (ii 0)] []) λ x5 => fC 8 8 (.list [(ii 0), (ii 0), (ii 0), (ii 0), (ii 0), (ii 0), (ii 0), (ii 0)]) h4 λ x6 h7 => wK (cQ 8 x6 x5 h7) λ x8 h9 => wK (aB E 79 [x6] h9) λ x10 h11 => vK (aW x10) λ x12 => aCq E x1 x3 x6 x10 x12 aY (ii 0) h11
theorem bLb : Is E bOG (aZ D87.res) (λ σ h => aLj E (σ p2) (σ p4) (σ p5) h) := Is.rf
abbrev bKt : fR (DV × H) := (bP (λ σ h => aLj E (σ p2) (σ p4) (σ p5) h) (aZ D87.res))
theorem bLa : Is E bOF (bH 0 (bKt E)) (λ σ h => aCq E (σ p2) (σ p4) (σ p5) (σ pU) (σ qU) aY (σ p15) h) := Is.lp (λ n2 σ h => aCq E (σ p2) (σ p4) (σ p5) (σ pU) (σ qU) n2 (σ p15) h) λ n2 => Is.aq (Is.leaf _)
theorem bLc : jX E D87 (aLk E) := Is.aq (Is.sq (Is.sq (Is.sq (bLb E) (Is.sq (Is.bk (bLa E)) (Is.leaf _))) (Is.leaf _)) (Is.leaf _))
def S87 : bB := jW (aLk E)
theorem aPM : SQ D87 S87 := kC bLc
def D88 := cm 88
def aYi (r0 r1 r2 : DV) (h : H) : aQ := vK (bY .ptr false h.get r0 .nilp) λ x1 => aP x1 false (λ kk => kk r1 h) h λ x2 h3 => aP x1 false (λ kk => kk r2 h3) h3 λ x4 h5 => aP x1 false (λ kk => wK (aB E 122 [x2, x4] h5) kk) h5 λ x6 h7 => aP x1 false (λ kk => vK (dY x6) λ v => kk v h7) h7 λ x8 h9 => vK (aK x1 (.bool true) x8) λ x10 => bK x10 (some ((.tup [(ii 0), (.str [])]), h9)) (wK (aB E 123 [r0, r1, r2] h9) λ x11 h12 => vK (aT 0 x11) λ x13 => vK (aT 1 x11) λ x14 => vK (aA r0) λ x15 => vK (aG 1 x15) λ x16 => vK (aF h12.get x16) λ x17 => vK (tY .int .nils false h12.get x17 r1) λ x18 => aP x14 true (λ kk => kk x18 h12) h12 λ x19 h20 => aP x14 true (λ kk => kk x13 h20) h20 λ x21 h22 => aP x14 true (λ kk => vK (cH 3 x19 x21) λ v => kk v h22) h22 λ x23 h24 => aP x14 true (λ kk => vK (aG 1 x23) λ v => kk v h24) h24 λ x25 h26 => aP x14 true (λ kk => vK (aF h26.get x25) λ v => kk v h26) h26 λ x27 h28 => vK (aK x14 x27 (.bool false)) λ x29 => bK x29 (some ((.tup [(ii 3), (.str [])]), h28)) (bK x14 (vK (cH 3 x18 x13) λ x30 => vK (aG 2 x30) λ x31 => vK (aF h28.get x31) λ x32 => some ((.tup [(ii 2), x32]), h28)) (vK (aW x18) λ x33 => vK (aA r0) λ x34 => vK (aG 0 x34) λ x35 => vK (aF h28.get x35) λ x36 => vK (bV x33 x36) λ x37 => aP x37 true (λ kk => kk x13 h28) h28 λ x38 h39 => aP x37 true (λ kk => vK (bV x38 (ii 0)) λ v => kk v h39) h39 λ x40 h41 => vK (aK x37 x40 (.bool false)) λ x42 => bK x42 (some ((.tup [(ii 4), (.str [])]), h41)) (vK (dF [(ii 0), (.bool false), (.str [])] [(0, 1, r2), (1, 1, (.bool true))]) λ x43 => dB 1 3 [(ii 0), (.bool false), (.str [])] [(0, 3, x43)] h41 λ x44 h45 => wK (aB E 124 [x18, x13, x44] h45) λ x46 h47 => vK (aA r0) λ x48 => vK (aG 1 x48) λ x49 => vK (aF h47.get x49) λ x50 => vK (aW x46) λ x51 => vK (aA r0) λ x52 => vK (aG 0 x52) λ x53 => vK (aF h47.get x53) λ x54 => vK (jO x51 x54) λ x55 => vK (rL x55 (ii 0)) λ x56 => vK (eF 3 x46 (some x56) none) λ x57 => wK (aBu .int x50 r1 x57 h47) λ x58 h59 => some ((.tup [(ii 1), (.str [])]), h59)))))
theorem bKZ : iB3 E D88 (aYi E) := Is.rf
def S88 : bB := fA3 (aYi E)
theorem aPL : SQ D88 S88 := eB3 bKZ
def D89 := cm 89
def aYh (E : aX) (r0 : DV) (h : H) : aQ := vK (bV r0 (ii 1)) λ x1 => bK x1 (some ((.fn (.func 125) [] []), h)) (vK (bV r0 (ii 2)) λ x2 => bK x2 (some ((.fn (.func 126) [] []), h)) (vK (bV r0 (ii 3)) λ x3 => bK x3 (some ((.fn (.func 127) [] []), h)) (vK (bV r0 (ii 4)) λ x4 => bK x4 (some ((.fn (.func 128) [] []), h)) (vK (bV r0 (ii 5)) λ x5 => bK x5 (some ((.fn (.func 129) [] []), h)) (vK (bV r0 (ii 6)) λ x6 => bK x6 (some ((.fn (.func 130) [] []), h)) (vK (bV r0 (ii 7)) λ x7 => bK x7 (some ((.fn (.func 131) [] []), h)) (vK (bV r0 (ii 8)) λ x8 => bK x8 (some ((.fn (.func 132) [] []), h)) (some ((.fn (.func 133) [] []), h)))))))))
theorem bKY : jX E D89 (aYh E) := Is.rf
def S89 : bB := jW (aYh E)
theorem aPK : SQ D89 S89 := kC bKY
def D90 := cm 90
def aYg (r0 r1 r2 r3 : DV) (h : H) : aQ := vK (bY .ptr false h.get r0 .nilp) λ x1 => aP x1 false (λ kk => kk r1 h) h λ x2 h3 => aP x1 false (λ kk => kk r2 h3) h3 λ x4 h5 => aP x1 false (λ kk => wK (aB E 122 [x2, x4] h5) kk) h5 λ x6 h7 => aP x1 false (λ kk => vK (dY x6) λ v => kk v h7) h7 λ x8 h9 => vK (aK x1 (.bool true) x8) λ x10 => aP x10 false (λ kk => kk r3 h9) h9 λ x11 h12 => aP x10 false (λ kk => vK (dT x11) λ v => kk v h12) h12 λ x13 h14 => aP x10 false (λ kk => vK (dA x13 (ii 4096)) λ v => kk v h14) h14 λ x15 h16 => vK (aK x10 (.bool true) x15) λ x17 => bK x17 (some ((.bool false), h16)) (wK (aB E 123 [r0, r1, r2] h16) λ x18 h19 => vK (aT 0 x18) λ x20 => vK (aT 1 x18) λ x21 => vK (dY x21) λ x22 => aP x22 false (λ kk => kk r0 h19) h19 λ x23 h24 => aP x22 false (λ kk => vK (aA x23) λ v => kk v h24) h24 λ x25 h26 => aP x22 false (λ kk => vK (aG 1 x25) λ v => kk v h26) h26 λ x27 h28 => aP x22 false (λ kk => vK (aF h28.get x27) λ v => kk v h28) h28 λ x29 h30 => aP x22 false (λ kk => kk r1 h30) h30 λ x31 h32 => aP x22 false (λ kk => vK (tY .int .nils false h32.get x29 x31) λ v => kk v h32) h32 λ x33 h34 => aP x22 false (λ kk => kk x20 h34) h34 λ x35 h36 => aP x22 false (λ kk => vK (cH 3 x33 x35) λ v => kk v h36) h36 λ x37 h38 => aP x22 false (λ kk => vK (aG 1 x37) λ v => kk v h38) h38 λ x39 h40 => aP x22 false (λ kk => vK (aF h40.get x39) λ v => kk v h40) h40 λ x41 h42 => aP x22 false (λ kk => vK (dY x41) λ v => kk v h42) h42 λ x43 h44 => vK (aK x22 (.bool true) x43) λ x45 => bK x45 (some ((.bool false), h44)) (vK (aA r0) λ x46 => vK (aG 1 x46) λ x47 => vK (aF h44.get x47) λ x48 => vK (tY .int .nils false h44.get x48 r1) λ x49 => vK (dF [(ii 0), (.bool false), (.str [])] [(0, 1, r2), (2, 1, r3)]) λ x50 => vK (cH 3 x49 x20) λ x51 => wK (cQ 3 x51 x50 h44) λ x52 h53 => some ((.bool true), h53)))
theorem bKX : iB4 E D90 (aYg E) := Is.rf
def S90 : bB := fA4 (aYg E)
theorem aPJ : SQ D90 S90 := eB4 bKX
def D91 := cm 91
def aLi (r0 : DV) (h : H) : aQ := wK (aB E 134 [(.str [0]), r0] h) λ x1 h2 => some (x1, h2)
theorem bKW : jX E D91 (aLi E) := Is.rf
def S91 : bB := jW (aLi E)
theorem bAN : SQ D91 S91 := kC bKW
def D92 := cm 92
def bOE := cr (cr (cr (cr D92.body)))
def bOD := cl (cr (cl (cr (cr (cr D92.body)))))
def aRF (E : aX) (h : H) : aQ := some ((.bool true), h)
def bPs (r0 r1 r32 : DV) (i2 : DV → H → aQ) (r33 : DV) (h : H) : aQ := vK (bF r33 r32) λ x1 => bK x1 (vK (aA r0) λ x2 => vK (aG 0 x2) λ x3 => vK (pN 512 1 x3 r33) λ x4 => vK (aF h.get x4) λ x5 => vK (lU r1 r33) λ x6 => vK (nM x5 x6) λ x7 => vK (aA r0) λ x8 => vK (aG 0 x8) λ x9 => vK (pN 512 1 x9 r33) λ x10 => wK (cQ 1 x10 x7 h) λ x11 h12 => vK (bL r33 (ii 1)) λ x13 => i2 x13 h12) (aRF E h)
def aRp (r0 r1 r32 : DV) (n : Nat) : DV → H → aQ := Nat.rec (motive := λ _ => DV → H → aQ) (λ _ _ => none) (λ _ i => bPs E r0 r1 r32 i) n
def aYf (r0 r1 r2 : DV) (h : H) : aQ := vK (dT r1) λ x1 => vK (dA x1 (ii 512)) λ x2 => aP x2 false (λ kk => kk r2 h) h λ x3 h4 => aP x2 false (λ kk => vK (dY x3) λ v => kk v h4) h4 λ x5 h6 => aP x2 false (λ kk => kk x5 h6) h6 λ x7 h8 => aP x7 true (λ kk => kk r1 h8) h8 λ x9 h10 => aP x7 true (λ kk => vK (dT x9) λ v => kk v h10) h10 λ x11 h12 => aP x7 true (λ kk => kk r0 h12) h12 λ x13 h14 => aP x7 true (λ kk => vK (aA x13) λ v => kk v h14) h14 λ x15 h16 => aP x7 true (λ kk => vK (aG 512 x15) λ v => kk v h16) h16 λ x17 h18 => aP x7 true (λ kk => vK (aF h18.get x17) λ v => kk v h18) h18 λ x19 h20 => aP x7 true (λ kk => vK (cW x11 x19) λ v => kk v h20) h20 λ x21 h22 => aP x2 false (λ kk => vK (aK x7 x21 (.bool false)) λ v => kk v h22) h22 λ x23 h24 => vK (aK x2 (.bool true) x23) λ x25 => bK x25 (some ((.bool false), h24)) (vK (dT r1) λ x26 => vK (aA r0) λ x27 => vK (aG 512 x27) λ x28 => wK (cQ 1 x28 x26 h24) λ x29 h30 => vK (aA r0) λ x31 => vK (aG 512 x31) λ x32 => vK (aF h30.get x32) λ x33 => aRp E r0 r1 x33 aY (ii 0) h30)
theorem bKU : Is E bOE (aZ D92.res) (λ σ h => aRF E h) := Is.rf
abbrev bKs : fR (DV × H) := (bH 0 (bP (λ σ h => aRF E h) (aZ D92.res)))
theorem bKT : Is E bOD (bKs E) (λ σ h => aRp E (σ p0) (σ p1) (σ p32) aY (σ p33) h) := Is.lp (λ n2 σ h => aRp E (σ p0) (σ p1) (σ p32) n2 (σ p33) h) λ n2 => Is.aq (Is.leaf _)
theorem bKV : iB3 E D92 (aYf E) := Is.aq (Is.sq (Is.sq (Is.sq (Is.sq (bKU E) (Is.sq (Is.bk (bKT E)) (Is.leaf _))) (Is.leaf _)) (Is.leaf _)) (Is.leaf _))
def S92 : bB := fA3 (aYf E)
theorem bAM : SQ D92 S92 := eB3 bKV
def D93 := cm 93
def aYe (r0 r1 r2 : DV) (h : H) : aQ := wK (aB E 105 [r0, r1] h) λ x1 h2 => vK (aT 0 x1) λ x3 => vK (aT 1 x1) λ x4 => vK (cW x4 (ii 0)) λ x5 => aP x5 false (λ kk => kk r2 h2) h2 λ x6 h7 => aP x5 false (λ kk => vK (bF x6 (ii 0)) λ v => kk v h7) h7 λ x8 h9 => vK (aK x5 (.bool true) x8) λ x10 => aP x10 false (λ kk => kk r2 h9) h9 λ x11 h12 => aP x10 false (λ kk => kk x3 h12) h12 λ x13 h14 => aP x10 false (λ kk => vK (aW x13) λ v => kk v h14) h14 λ x15 h16 => aP x10 false (λ kk => vK (dZ x11 x15) λ v => kk v h16) h16 λ x17 h18 => vK (aK x10 (.bool true) x17) λ x19 => bK x19 (some ((.tup [(ii 0), (ii 1)]), h18)) (vK (cH 1 x3 r2) λ x20 => vK (aF h18.get x20) λ x21 => some ((.tup [x21, (ii 0)]), h18))
theorem bKS : iB3 E D93 (aYe E) := Is.rf
def S93 : bB := fA3 (aYe E)
theorem aPI : SQ D93 S93 := eB3 bKS
def D94 := cm 94
def aYd (E : aX) (h : H) : aQ := none
theorem bKR : jX E D94 (λ _ h => aYd E h) := Is.rf
def S94 : bB := jW (λ _ h => aYd E h)
theorem bAL : SQ D94 S94 := kC bKR
def D95 := cm 95
def aYc (E : aX) (r0 : DV) (h : H) : aQ := vK (aBB 25 (ii 0) true r0) λ x1 => vK (aT 0 x1) λ x2 => vK (aT 1 x1) λ x3 => some (x2, h)
theorem bKQ : jX E D95 (aYc E) := Is.rf
def S95 : bB := jW (aYc E)
theorem bAK : SQ D95 S95 := kC bKQ
def D96 := cm 96
def aZi := cr (cr (cr D96.body))
def bOC := cr aZi
def aXZ (E : aX) (r5 : DV) (h : H) : aQ := vK (aA r5) λ x1 => vK (aG 1 x1) λ x2 => vK (aF h.get x2) λ x3 => some (x3, h)
def aYa (r5 : DV) (h : H) : aQ := vK (aA r5) λ x1 => vK (aG 2 x1) λ x2 => vK (aF h.get x2) λ x3 => aP x3 false (λ kk => kk r5 h) h λ x4 h5 => aP x3 false (λ kk => vK (aA x4) λ v => kk v h5) h5 λ x6 h7 => aP x3 false (λ kk => vK (aG 3 x6) λ v => kk v h7) h7 λ x8 h9 => aP x3 false (λ kk => vK (aF h9.get x8) λ v => kk v h9) h9 λ x10 h11 => vK (aK x3 (.bool true) x10) λ x12 => bK x12 (none) (aXZ E r5 h11)
def aYb (r0 r1 : DV) (h : H) : aQ := wK (aB E 33 [r0, r1] h) λ x1 h2 => vK (bY .ptr false h2.get x1 .nilp) λ x3 => bK x3 (none) (aYa E x1 h2)
theorem bKN : Is E bOC (aZ D96.res) (λ σ h => aXZ E (σ p5) h) := Is.rf
theorem bKO : Is E aZi (aZ D96.res) (λ σ h => aYa E (σ p5) h) := Is.aq (Is.sq (bKN E) (Is.leaf _))
theorem bKP : iS E D96 (aYb E) := Is.aq (Is.sq (Is.sq (Is.sq (bKO E) (Is.leaf _)) (Is.leaf _)) (Is.leaf _))
def S96 : bB := iN (aYb E)
theorem bAJ : SQ D96 S96 := iV bKP
def D97 := cm 97
def bOB := cr (cr (cr (cr (cr (cr D97.body)))))
def aRE (E : aX) (r12 : DV) (h : H) : aQ := some (r12, h)
def aXY (r0 r1 r2 r3 : DV) (h : H) : aQ := cL r1 h λ x1 h2 => vK (bY .ptr false h2.get r0 .nilp) λ x3 => aP x3 false (λ kk => vK (cR 2 h2.get x1) λ v => kk v h2) h2 λ x4 h5 => aP x3 false (λ kk => wK (aB E 109 [x4] h5) kk) h5 λ x6 h7 => aP x3 false (λ kk => vK (dY x6) λ v => kk v h7) h7 λ x8 h9 => vK (aK x3 (.bool true) x8) λ x10 => bK x10 (some ((ii 1), h9)) (vK (dT r2) λ x11 => vK (dA x11 (ii 512)) λ x12 => bK x12 (some ((ii 2), h9)) (wK (aB E 135 [r0] h9) λ x13 h14 => vK (bF x13 (ii 0)) λ x15 => bK x15 (some ((ii 5), h14)) (vK (cR 2 h14.get x1) λ x16 => wK (aB E 75 [r0, x16] h14) λ x17 h18 => vK (dZ x17 (ii 0)) λ x19 => bK x19 (some ((ii 6), h18)) (vK (aA r0) λ x20 => vK (aG 2 x20) λ x21 => vK (aF h18.get x21) λ x22 => bK x22 (some ((ii 16), h18)) (wK (aB E 135 [r0] h18) λ x23 h24 => wK (aB E 59 [r2, (ii 512)] h24) λ x25 h26 => vK (aT 0 x25) λ x27 => vK (aT 1 x25) λ x28 => vK (mR x23 (ii 9)) λ x29 => vK (bL x29 (ii 1)) λ x30 => vK (mR x23 (ii 9)) λ x31 => vK (cR 2 h26.get x1) λ x32 => wK (aB E 137 [r0, x30, x27] h26) λ x33 h34 => rK (zS (cR 2 h34.get x1) x32) <| wK (aB E 110 [x32, r2] h34) λ x35 h36 => wK (aB E 137 [r0, x31, x35] h36) λ x37 h38 => dB 4 1 [.nilf] [(0, 1, x33), (1, 1, (.fn (.func 138) [r0] [])), (2, 1, x37), (3, 1, (.fn (.func 138) [r0] []))] h38 λ x39 h40 => wK (aB E 136 [r0, r3, x39] h40) λ x41 h42 => vK (bV x41 (ii 0)) λ x43 => bK x43 (vK (aA r0) λ x44 => vK (aG 1 x44) λ x45 => vK (aF h42.get x45) λ x46 => vK (cR 2 h42.get x1) λ x47 => vK (dT r2) λ x48 => vK (dF [(.bool false), (ii 0), (ii 0), (ii 0)] [(0, 1, (.bool true)), (1, 2, x47), (3, 1, x48)]) λ x49 => vK (cH 4 x46 x23) λ x50 => wK (cQ 4 x50 x49 h42) λ x51 h52 => aRE E x41 h52) (aRE E x41 h42))))))
theorem bKL : Is E bOB (aZ D97.res) (λ σ h => aRE E (σ rU) h) := Is.rf
theorem bKM : iB4 E D97 (aXY E) := Is.aq (Is.sq (Is.sq (Is.sq (Is.sq (Is.sq (Is.sq (bKL E) (Is.leaf _)) (Is.leaf _)) (Is.leaf _)) (Is.leaf _)) (Is.leaf _)) (Is.leaf _))
def S97 : bB := fA4 (aXY E)
theorem bAI : SQ D97 S97 := eB4 bKM
def aTV := cm 100
def aTf (r0 r1 : DV) (h : H) : aQ := fC 6 6 (.list [(ii 0), (ii 0), (ii 0), (ii 0), (ii 0), .nils]) h λ x1 h2 => wK (aB E 139 [r0, r1] h2) λ x3 h4 => vK (bY .ptr false h4.get x3 .nilp) λ x5 => bK x5 (vK (dF [(ii 0), (ii 0), (ii 0), (ii 0), (ii 0), .nils] []) λ x6 => wK (cQ 6 x1 x6 h4) λ x7 h8 => vK (cR 6 h8.get x1) λ x9 => some ((.tup [x9, (.bool false)]), h8)) (vK (aA x3) λ x10 => vK (cR 6 h4.get x10) λ x11 => fC 6 6 (.list [(ii 0), (ii 0), (ii 0), (ii 0), (ii 0), .nils]) h4 λ x12 h13 => wK (cQ 6 x12 x11 h13) λ x14 h15 => vK (aG 5 x12) λ x16 => vK (aF h15.get x16) λ x17 => wK (aB E 140 [x17] h15) λ x18 h19 => vK (aG 5 x12) λ x20 => wK (cQ 1 x20 x18 h19) λ x21 h22 => vK (cR 6 h22.get x12) λ x23 => wK (cQ 6 x1 x23 h22) λ x24 h25 => vK (cR 6 h25.get x1) λ x26 => some ((.tup [x26, (.bool true)]), h25))
theorem bEO : iS E aTV (aTf E) := Is.rf
def aRm : bB := iN (aTf E)
theorem aLh : SQ aTV aRm := iV bEO
def bFH := cm 101
def aTe (E : aX) (r2 : DV) (h : H) : aQ := cL r2 h λ x1 h2 => fC 1 1 (.list [(.str [])]) h2 λ x3 h4 => fC 1 1 (.list [(ii 0)]) h4 λ x5 h6 => none
theorem bEN : iB3 E bFH (λ _ _ r2 h => aTe E r2 h) := Is.rf
def bCb : bB := fA3 (λ _ _ r2 h => aTe E r2 h)
theorem aWH : SQ bFH bCb := eB3 bEN
def aTU := cm 102
def aTd (E : aX) (r0 : DV) (h : H) : aQ := vK (bY .ptr false h.get r0 .nilp) λ x1 => bK x1 (some ((ii 0), h)) (vK (aA r0) λ x2 => vK (aG 2 x2) λ x3 => vK (aF h.get x3) λ x4 => some (x4, h))
theorem bEM : jX E aTU (aTd E) := Is.rf
def aRl : bB := jW (aTd E)
theorem aLg : SQ aTU aRl := kC bEM
def aEk := cm 103
def bGA := cr (cr (cr aEk.body))
def aTY := cl (cr (cl (cr (cl (cr (cr aEk.body))))))
def bGz := cr (cr (cr (cl aTY)))
def aDR (E : aX) (r5 : DV) (h : H) : aQ := some (r5, h)
def aIr (E : aX) (i2 : DV → DV → H → aQ) (r5 r15 : DV) (h : H) : aQ := vK (bL r15 (ii 1)) λ x1 => i2 r5 x1 h
def bGO (r1 r13 r14 : DV) (i2 : DV → DV → H → aQ) (r5 r15 : DV) (h : H) : aQ := vK (bF r15 r14) λ x1 => bK x1 (vK (cH 6 r13 r15) λ x2 => vK (cR 6 h.get x2) λ x3 => fC 6 6 (.list [(ii 0), (ii 0), (ii 0), (ii 0), (ii 0), .nils]) h λ x4 h5 => wK (cQ 6 x4 x3 h5) λ x6 h7 => vK (cR 6 h7.get x4) λ x8 => wK (mJ E r1 [x8] h7) λ x9 h10 => bK x9 (vK (aG 0 x4) λ x11 => vK (aF h10.get x11) λ x12 => dB 1 1 [(ii 0)] [(0, 1, x12)] h10 λ x13 h14 => wK (cG 1 8 r5 x13 h14) λ x15 h16 => aIr E i2 x15 r15 h16) (aIr E i2 r5 r15 h10)) (aDR E r5 h)
def aAY (r1 r13 r14 : DV) (n : Nat) : DV → DV → H → aQ := Nat.rec (motive := λ _ => DV → DV → H → aQ) (λ _ _ _ => none) (λ _ i => bGO E r1 r13 r14 i) n
def aTc (r0 r1 : DV) (h : H) : aQ := vK (bY .ptr true h.get r0 .nilp) λ x1 => bK x1 (vK (aA r0) λ x2 => vK (aG 0 x2) λ x3 => vK (aF h.get x3) λ x4 => vK (aW x4) λ x5 => aAY E r1 x4 x5 aY .nils (ii 0) h) (aDR E .nils h)
theorem bEK : Is E bGA (aZ aEk.res) (λ σ h => aDR E (σ p5) h) := Is.rf
abbrev aRD : fR (DV × H) := (bP (λ σ h => aDR E (σ p5) h) (aZ aEk.res))
abbrev bCt (n2 : Nat) : fR (DV × H) := (bP (λ σ h => (aAY E (σ p1) (σ pU) (σ qU) n2) (σ p5) (σ p15) h) (bH 0 (aRD E)))
theorem bEI (n2 : Nat) : Is E bGz (bCt E n2) (λ σ h => aIr E (aAY E (σ p1) (σ pU) (σ qU) n2) (σ p5) (σ p15) h) := Is.rf
theorem bEJ : Is E aTY (bH 0 (aRD E)) (λ σ h => aAY E (σ p1) (σ pU) (σ qU) aY (σ p5) (σ p15) h) := Is.lp (λ n2 σ h => aAY E (σ p1) (σ pU) (σ qU) n2 (σ p5) (σ p15) h) λ n2 => Is.aq (Is.sq (Is.sq (Is.sq (bEI E n2) (Is.leaf _)) (Is.leaf _)) (Is.leaf _))
theorem bEL : iS E aEk (aTc E) := Is.aq (Is.sq (Is.sq (Is.sq (bEK E) (Is.sq (Is.cd (Is.sq (Is.bk (bEJ E)) (Is.leaf _)) (Is.leaf _)) (Is.leaf _))) (Is.leaf _)) (Is.leaf _))
def aRk : bB := iN (aTc E)
theorem aLf : SQ aEk aRk := iV bEL
def aTT := cm 104
def aTb (E : aX) (r0 r1 : DV) (h : H) : aQ := cL r0 h λ x1 h2 => vK (aG 1 x1) λ x3 => vK (aF h2.get x3) λ x4 => vK (aF h2.get r1) λ x5 => vK (bV x4 x5) λ x6 => some (x6, h2)
theorem bEH : iS E aTT (aTb E) := Is.rf
def aRj : bB := iN (aTb E)
theorem aLe : SQ aTT aRj := iV bEH
def aEj := cm 105
def bGy := cr (cr (cr (cr aEj.body)))
def bGx := cl (cr (cl (cr (cr (cr aEj.body)))))
def aIq (E : aX) (r6 : DV) (h : H) : aQ := some ((.tup [r6, (ii 0)]), h)
def bGN (r0 r1 r6 r23 : DV) (i2 : DV → H → aQ) (r24 : DV) (h : H) : aQ := vK (bF r24 r23) λ x1 => bK x1 (wK (aB E 144 [r0, r1, r24] h) λ x2 h3 => vK (cH 1 r0 x2) λ x4 => vK (aF h3.get x4) λ x5 => vK (cH 1 r6 r24) λ x6 => wK (cQ 1 x6 x5 h3) λ x7 h8 => vK (bL r24 (ii 1)) λ x9 => i2 x9 h8) (aIq E r6 h)
def aHU (r0 r1 r6 r23 : DV) (n : Nat) : DV → H → aQ := Nat.rec (motive := λ _ => DV → H → aQ) (λ _ _ => none) (λ _ i => bGN E r0 r1 r6 r23 i) n
def aTa (r0 r1 : DV) (h : H) : aQ := wK (aB E 143 [r0] h) λ x1 h2 => vK (dY x1) λ x3 => aP x3 false (λ kk => kk r1 h2) h2 λ x4 h5 => aP x3 false (λ kk => vK (bF x4 (ii 0)) λ v => kk v h5) h5 λ x6 h7 => vK (aK x3 (.bool true) x6) λ x8 => aP x8 false (λ kk => kk r1 h7) h7 λ x9 h10 => aP x8 false (λ kk => vK (dZ x9 (ii 4096)) λ v => kk v h10) h10 λ x11 h12 => vK (aK x8 (.bool true) x11) λ x13 => bK x13 (some ((.tup [.nils, (ii 1)]), h12)) (vK (aW r0) λ x14 => jZ 1 8 (ii 0) x14 x14 h12 λ x15 h16 => vK (aW r0) λ x17 => aHU E r0 r1 x15 x17 aY (ii 0) h16)
theorem bEF : Is E bGy (aZ aEj.res) (λ σ h => aIq E (σ p6) h) := Is.rf
abbrev bCs : fR (DV × H) := (bP (λ σ h => aIq E (σ p6) h) (aZ aEj.res))
theorem bEE : Is E bGx (bH 0 (bCs E)) (λ σ h => aHU E (σ p0) (σ p1) (σ p6) (σ p23) aY (σ p24) h) := Is.lp (λ n2 σ h => aHU E (σ p0) (σ p1) (σ p6) (σ p23) n2 (σ p24) h) λ n2 => Is.aq (Is.leaf _)
theorem bEG : iS E aEj (aTa E) := Is.aq (Is.sq (Is.sq (Is.sq (Is.sq (bEF E) (Is.sq (Is.bk (bEE E)) (Is.leaf _))) (Is.leaf _)) (Is.leaf _)) (Is.leaf _))
def aRi : bB := iN (aTa E)
theorem aLd : SQ aEj aRi := iV bEG
def aEi := cm 106
def bGw := cr (cr aEi.body)
def bGv := cl (cr (cl (cr aEi.body)))
def aDP (E : aX) (h : H) : aQ := some ((.int .i64 (.negSucc 0)), h)
def aBh (r0 r1 r7 : DV) (i2 : DV → H → aQ) (r8 : DV) (h : H) : aQ := vK (bF r8 r7) λ x1 => bK x1 (vK (cH 1 r0 r8) λ x2 => vK (aF h.get x2) λ x3 => vK (bV r1 x3) λ x4 => bK x4 (some (r8, h)) (vK (bL r8 (ii 1)) λ x5 => i2 x5 h)) (aDP E h)
def wU (r0 r1 r7 : DV) (n : Nat) : DV → H → aQ := Nat.rec (motive := λ _ => DV → H → aQ) (λ _ _ => none) (λ _ i => aBh E r0 r1 r7 i) n
def aDQ (r0 r1 : DV) (h : H) : aQ := vK (aW r0) λ x1 => wU E r0 r1 x1 aY (ii 0) h
theorem bEC : Is E bGw (aZ aEi.res) (λ σ h => aDP E h) := Is.rf
abbrev bCr : fR (DV × H) := (bH 0 (bP (λ σ h => aDP E h) (aZ aEi.res)))
theorem bEB : Is E bGv (bCr E) (λ σ h => wU E (σ p0) (σ p1) (σ p7) aY (σ p8) h) := Is.lp (λ n2 σ h => wU E (σ p0) (σ p1) (σ p7) n2 (σ p8) h) λ n2 => Is.aq (Is.leaf _)
theorem bED : iS E aEi (aDQ E) := Is.aq (Is.sq (Is.sq (bEC E) (Is.sq (Is.bk (bEB E)) (Is.leaf _))) (Is.leaf _))
def aHH : bB := iN (aDQ E)
theorem aLc : SQ aEi aHH := iV bED
def bFG := cm 107
def wW (E : aX) (r0 r1 r2 r3 : DV) (h : H) : aQ := vK (bY .ptr false h.get r0 .nilp) λ x1 => aP x1 false (λ kk => kk r1 h) h λ x2 h3 => aP x1 false (λ kk => vK (bF x2 (ii 0)) λ v => kk v h3) h3 λ x4 h5 => vK (aK x1 (.bool true) x4) λ x6 => aP x6 false (λ kk => kk r2 h5) h5 λ x7 h8 => aP x6 false (λ kk => vK (bF x7 (ii 1)) λ v => kk v h8) h8 λ x9 h10 => vK (aK x6 (.bool true) x9) λ x11 => aP x11 false (λ kk => kk r3 h10) h10 λ x12 h13 => aP x11 false (λ kk => vK (dY x12) λ v => kk v h13) h13 λ x14 h15 => vK (aK x11 (.bool true) x14) λ x16 => bK x16 (some ((ii 1), h15)) (vK (aA r0) λ x17 => vK (aG 0 x17) λ x18 => vK (aF h15.get x18) λ x19 => vK (aW x19) λ x20 => vK (dA r1 x20) λ x21 => aP x21 false (λ kk => kk r2 h15) h15 λ x22 h23 => aP x21 false (λ kk => kk r0 h23) h23 λ x24 h25 => aP x21 false (λ kk => vK (aA x24) λ v => kk v h25) h25 λ x26 h27 => aP x21 false (λ kk => vK (aG 0 x26) λ v => kk v h27) h27 λ x28 h29 => aP x21 false (λ kk => vK (aF h29.get x28) λ v => kk v h29) h29 λ x30 h31 => aP x21 false (λ kk => vK (aW x30) λ v => kk v h31) h31 λ x32 h33 => aP x21 false (λ kk => kk r1 h33) h33 λ x34 h35 => aP x21 false (λ kk => vK (jO x32 x34) λ v => kk v h35) h35 λ x36 h37 => aP x21 false (λ kk => vK (dA x22 x36) λ v => kk v h37) h37 λ x38 h39 => vK (aK x21 (.bool true) x38) λ x40 => bK x40 (some ((ii 5), h39)) (vK (aA r0) λ x41 => vK (aG 2 x41) λ x42 => vK (aF h39.get x42) λ x43 => bK x43 (some ((ii 8), h39)) (some ((ii 0), h39))))
theorem bEA : iB4 E bFG (wW E) := Is.rf
def aBy : bB := fA4 (wW E)
theorem aWG : SQ bFG aBy := eB4 bEA
def bFF := cm 108
def aDO (E : aX) (r0 : DV) (h : H) : aQ := vK (lU r0 (ii 0)) λ x1 => vK (cO .i64 x1) λ x2 => vK (lU r0 (ii 1)) λ x3 => vK (cO .i64 x3) λ x4 => vK (pM x4 (.int .u64 (.ofNat 8))) λ x5 => vK (aBm x2 x5) λ x6 => vK (lU r0 (ii 2)) λ x7 => vK (cO .i64 x7) λ x8 => vK (pM x8 (.int .u64 (.ofNat 16))) λ x9 => vK (aBm x6 x9) λ x10 => vK (lU r0 (ii 3)) λ x11 => vK (cO .i64 x11) λ x12 => vK (pM x12 (.int .u64 (.ofNat 24))) λ x13 => vK (aBm x10 x13) λ x14 => some (x14, h)
theorem bEz : jX E bFF (aDO E) := Is.rf
def aHG : bB := jW (aDO E)
theorem aWF : SQ bFF aHG := kC bEz
def bFE := cm 109
def aDN (E : aX) (r0 : DV) (h : H) : aQ := cL r0 h λ x1 h2 => vK (aG 0 x1) λ x3 => vK (aF h2.get x3) λ x4 => vK (dZ x4 (ii 0)) λ x5 => aP x5 true (λ kk => vK (aG 0 x1) λ v => kk v h2) h2 λ x6 h7 => aP x5 true (λ kk => vK (aF h7.get x6) λ v => kk v h7) h7 λ x8 h9 => aP x5 true (λ kk => vK (bF x8 (ii 2147483648)) λ v => kk v h9) h9 λ x10 h11 => vK (aK x5 x10 (.bool false)) λ x12 => aP x12 true (λ kk => vK (aG 1 x1) λ v => kk v h11) h11 λ x13 h14 => aP x12 true (λ kk => vK (aF h14.get x13) λ v => kk v h14) h14 λ x15 h16 => aP x12 true (λ kk => vK (dZ x15 (ii 0)) λ v => kk v h16) h16 λ x17 h18 => vK (aK x12 x17 (.bool false)) λ x19 => aP x19 true (λ kk => vK (aG 1 x1) λ v => kk v h18) h18 λ x20 h21 => aP x19 true (λ kk => vK (aF h21.get x20) λ v => kk v h21) h21 λ x22 h23 => aP x19 true (λ kk => vK (bF x22 (ii 8)) λ v => kk v h23) h23 λ x24 h25 => vK (aK x19 x24 (.bool false)) λ x26 => some (x26, h25)
theorem bEy : jX E bFE (aDN E) := Is.rf
def aRh : bB := jW (aDN E)
theorem aWE : SQ bFE aRh := kC bEy
def bFD := cm 110
def aDM (r0 r1 : DV) (h : H) : aQ := cL r0 h λ x1 h2 => vK (aG 0 x1) λ x3 => vK (aF h2.get x3) λ x4 => vK (cO .u32 x4) λ x5 => vK (aG 1 x1) λ x6 => vK (aF h2.get x6) λ x7 => vK (cO .u32 x7) λ x8 => vK (dT r1) λ x9 => vK (cO .u32 x9) λ x10 => wK (aB E 145 [x5] h2) λ x11 h12 => rK (zS (aF h12.get x6) x7) <| vK (bL (.str [72, 70, 82, 71]) x11) λ x13 => wK (aB E 145 [x8] h12) λ x14 h15 => vK (bL x13 x14) λ x16 => wK (aB E 145 [x10] h15) λ x17 h18 => vK (bL x16 x17) λ x19 => wK (aB E 146 [r1] h18) λ x20 h21 => wK (aB E 145 [x20] h21) λ x22 h23 => vK (bL x19 x22) λ x24 => wK (aB E 59 [x24, (ii 60)] h23) λ x25 h26 => vK (aT 0 x25) λ x27 => vK (aT 1 x25) λ x28 => wK (aB E 147 [x27] h26) λ x29 h30 => some (x29, h30)
theorem bEx : iS E bFD (aDM E) := Is.rf
def aRg : bB := iN (aDM E)
theorem aWD : SQ bFD aRg := iV bEx
def aIG := cm 111
def bGu := cr (cr aIG.body)
def bGt := cl (cr (cl (cr aIG.body)))
def aIp (E : aX) (h : H) : aQ := some ((.int .i64 (.negSucc 0)), h)
def bGM (r0 r1 r7 : DV) (i2 : DV → H → aQ) (r8 : DV) (h : H) : aQ := vK (bF r8 r7) λ x1 => bK x1 (vK (cH 4 r0 r8) λ x2 => vK (cR 4 h.get x2) λ x3 => wK (mJ E r1 [x3] h) λ x4 h5 => bK x4 (some (r8, h5)) (vK (bL r8 (ii 1)) λ x6 => i2 x6 h5)) (aIp E h)
def aHT (r0 r1 r7 : DV) (n : Nat) : DV → H → aQ := Nat.rec (motive := λ _ => DV → H → aQ) (λ _ _ => none) (λ _ i => bGM E r0 r1 r7 i) n
def aSZ (r0 r1 : DV) (h : H) : aQ := vK (aW r0) λ x1 => aHT E r0 r1 x1 aY (ii 0) h
theorem bEv : Is E bGu (aZ aIG.res) (λ σ h => aIp E h) := Is.rf
abbrev bCq : fR (DV × H) := (bH 0 (bP (λ σ h => aIp E h) (aZ aIG.res)))
theorem bEu : Is E bGt (bCq E) (λ σ h => aHT E (σ p0) (σ p1) (σ p7) aY (σ p8) h) := Is.lp (λ n2 σ h => aHT E (σ p0) (σ p1) (σ p7) n2 (σ p8) h) λ n2 => Is.aq (Is.leaf _)
theorem bEw : iS E aIG (aSZ E) := Is.aq (Is.sq (Is.sq (bEv E) (Is.sq (Is.bk (bEu E)) (Is.leaf _))) (Is.leaf _))
def bBZ : bB := iN (aSZ E)
theorem aWC : SQ aIG bBZ := iV bEw
def bFC := cm 112
def aSY (E : aX) (r0 r1 : DV) (h : H) : aQ := cL r0 h λ x1 h2 => vK (aG 0 x1) λ x3 => vK (aF h2.get x3) λ x4 => aP x4 true (λ kk => vK (aG 1 x1) λ v => kk v h2) h2 λ x5 h6 => aP x4 true (λ kk => vK (cR 2 h6.get x5) λ v => kk v h6) h6 λ x7 h8 => aP x4 true (λ kk => vK (cR 2 h8.get r1) λ v => kk v h8) h8 λ x9 h10 => aP x4 true (λ kk => vK (yY false (.leaf .int 0 (.leaf .int 1 .nil)) h10.get x7 x9) λ v => kk v h10) h10 λ x11 h12 => vK (aK x4 x11 (.bool false)) λ x13 => some (x13, h12)
theorem bEt : iS E bFC (aSY E) := Is.rf
def bBY : bB := iN (aSY E)
theorem aWB : SQ bFC bBY := iV bEt
def aEh := cm 113
def bGs := cr (cr (cr aEh.body))
def aIK := cl (cr (cl (cr (cr aEh.body))))
def bGr := cr (cr (cr (cl aIK)))
def bGq := cl (cr (cr (cl (cl (cr (cr (cl aIK)))))))
def aIo (E : aX) (h : H) : aQ := some ((.bool true), h)
def aIn (E : aX) (i2 : DV → H → aQ) (r10 : DV) (h : H) : aQ := vK (bL r10 (ii 1)) λ x1 => i2 x1 h
def bGK (i2 : DV → H → aQ) (r3 r10 r14 r15 : DV) (i4 : DV → H → aQ) (r16 : DV) (h : H) : aQ := vK (bF r16 r15) λ x1 => bK x1 (vK (cH 1 r14 r16) λ x2 => vK (aF h.get x2) λ x3 => vK (bF x3 (ii 0)) λ x4 => aP x4 false (λ kk => kk x3 h) h λ x5 h6 => aP x4 false (λ kk => vK (dZ x5 (ii 64)) λ v => kk v h6) h6 λ x7 h8 => vK (aK x4 (.bool true) x7) λ x9 => aP x9 false (λ kk => kk x3 h8) h8 λ x10 h11 => aP x9 false (λ kk => vK (pN 64 1 r3 x10) λ v => kk v h11) h11 λ x12 h13 => aP x9 false (λ kk => vK (aF h13.get x12) λ v => kk v h13) h13 λ x14 h15 => vK (aK x9 (.bool true) x14) λ x16 => bK x16 (some ((.bool false), h15)) (vK (pN 64 1 r3 x3) λ x17 => wK (cQ 1 x17 (.bool true) h15) λ x18 h19 => vK (bL r16 (ii 1)) λ x20 => i4 x20 h19)) (aIn E i2 r10 h)
def aHS (i2 : DV → H → aQ) (r3 r10 r14 r15 : DV) (n : Nat) : DV → H → aQ := Nat.rec (motive := λ _ => DV → H → aQ) (λ _ _ => none) (λ _ i => bGK E i2 r3 r10 r14 r15 i) n
def bGL (r3 r8 r9 : DV) (i2 : DV → H → aQ) (r10 : DV) (h : H) : aQ := vK (bF r10 r9) λ x1 => bK x1 (vK (cH 1 r8 r10) λ x2 => vK (aF h.get x2) λ x3 => vK (aW x3) λ x4 => aHS E i2 r3 r10 x3 x4 aY (ii 0) h) (aIo E h)
def qP (r3 r8 r9 : DV) (n : Nat) : DV → H → aQ := Nat.rec (motive := λ _ => DV → H → aQ) (λ _ _ => none) (λ _ i => bGL E r3 r8 r9 i) n
def aSX (r0 : DV) (h : H) : aQ := fC 64 64 (.full 64 (.bool false)) h λ x1 h2 => vK (aW r0) λ x3 => qP E x1 r0 x3 aY (ii 0) h2
theorem bEr : Is E bGs (aZ aEh.res) (λ σ h => aIo E h) := Is.rf
abbrev aRC : fR (DV × H) := (bH 0 (bP (λ σ h => aIo E h) (aZ aEh.res)))
abbrev aRB (n2 : Nat) : fR (DV × H) := (bP (λ σ h => (qP E (σ p3) (σ p8) (σ p9) n2) (σ lT) h) (aRC E))
theorem bEp (n2 : Nat) : Is E bGr (aRB E n2) (λ σ h => aIn E (qP E (σ p3) (σ p8) (σ p9) n2) (σ lT) h) := Is.rf
abbrev bCp (n2 : Nat) : fR (DV × H) := (bP (λ σ h => aIn E (qP E (σ p3) (σ p8) (σ p9) n2) (σ lT) h) (aRB E n2))
theorem bEo (n2 : Nat) : Is E bGq (bH 2 (bH 1 (bCp E n2))) (λ σ h => aHS E (qP E (σ p3) (σ p8) (σ p9) n2) (σ p3) (σ lT) (σ qU) (σ p15) aY (σ p16) h) := Is.lp (λ n4 σ h => aHS E (qP E (σ p3) (σ p8) (σ p9) n2) (σ p3) (σ lT) (σ qU) (σ p15) n4 (σ p16) h) λ n4 => Is.aq (Is.leaf _)
theorem bEq : Is E aIK (aRC E) (λ σ h => qP E (σ p3) (σ p8) (σ p9) aY (σ lT) h) := Is.lp (λ n2 σ h => qP E (σ p3) (σ p8) (σ p9) n2 (σ lT) h) λ n2 => Is.aq (Is.sq (Is.sq (Is.sq (bEp E n2) (Is.bk (Is.sq (Is.sq (Is.bk (bEo E n2)) (Is.leaf _)) (Is.leaf _)))) (Is.leaf _)) (Is.leaf _))
theorem bEs : jX E aEh (aSX E) := Is.aq (Is.sq (Is.sq (Is.sq (bEr E) (Is.sq (Is.bk (bEq E)) (Is.leaf _))) (Is.leaf _)) (Is.leaf _))
def aRf : bB := jW (aSX E)
theorem aLb : SQ aEh aRf := kC bEs
def aTS := cm 114
def aDL (r0 r1 : DV) (h : H) : aQ := vK (bY .ptr false h.get r0 .nilp) λ x1 => aP x1 false (λ kk => kk r0 h) h λ x2 h3 => aP x1 false (λ kk => vK (aA x2) λ v => kk v h3) h3 λ x4 h5 => aP x1 false (λ kk => vK (aG 2 x4) λ v => kk v h5) h5 λ x6 h7 => aP x1 false (λ kk => vK (aF h7.get x6) λ v => kk v h7) h7 λ x8 h9 => aP x1 false (λ kk => vK (cW x8 (ii 0)) λ v => kk v h9) h9 λ x10 h11 => vK (aK x1 (.bool true) x10) λ x12 => bK x12 (some ((.tup []), h11)) (vK (aA r0) λ x13 => vK (aG 1 x13) λ x14 => vK (aF h11.get x14) λ x15 => vK (aA r0) λ x16 => vK (aG 1 x16) λ x17 => vK (aF h11.get x17) λ x18 => vK (aW x18) λ x19 => vK (aA r0) λ x20 => vK (aG 1 x20) λ x21 => vK (aF h11.get x21) λ x22 => vK (aW x22) λ x23 => vK (yW 1 x15 none x19 x23) λ x24 => wK (mJ E r1 [x24] h11) λ x25 h26 => vK (aW x25) λ x27 => vK (aA r0) λ x28 => vK (aG 0 x28) λ x29 => vK (aF h26.get x29) λ x30 => vK (dA x27 x30) λ x31 => bK x31 (vK (aA r0) λ x32 => vK (aG 2 x32) λ x33 => wK (cQ 1 x33 (ii 2) h26) λ x34 h35 => some ((.tup []), h35)) (vK (aA r0) λ x36 => vK (aG 1 x36) λ x37 => wK (cQ 1 x37 x25 h26) λ x38 h39 => some ((.tup []), h39)))
theorem bEn : iS E aTS (aDL E) := Is.rf
def aGc : bB := iN (aDL E)
theorem aLa : SQ aTS aGc := iV bEn
def aTR := cm 115
def aDK (r0 r1 : DV) (h : H) : aQ := vK (aF h.get r1) λ x1 => wK (aB E 116 [r0, x1] h) λ x2 h3 => some (x2, h3)
theorem bEm : iS E aTR (aDK E) := Is.rf
def aHF : bB := iN (aDK E)
theorem aKZ : SQ aTR aHF := iV bEm
def aEg := cm 116
def bGp := cr (cr (cr aEg.body))
def bGo := cl (cl (cr (cr aEg.body)))
def aBa (E : aX) (r0 r5 : DV) (h : H) : aQ := vK (cO .u8 r5) λ x1 => dB 1 1 [(.int .u8 (.ofNat 0))] [(0, 1, x1)] h λ x2 h3 => wK (cG 1 1 r0 x2 h3) λ x4 h5 => some (x4, h5)
def aBg (i2 : DV → DV → H → aQ) (r0 r5 : DV) (h : H) : aQ := vK (dZ r5 (.int .u64 (.ofNat 128))) λ x1 => bK x1 (vK (cO .u8 r5) λ x2 => vK (aBm x2 (.int .u8 (.ofNat 128))) λ x3 => dB 1 1 [(.int .u8 (.ofNat 0))] [(0, 1, x3)] h λ x4 h5 => wK (cG 1 1 r0 x4 h5) λ x6 h7 => vK (jP r5 (.int .u64 (.ofNat 7))) λ x8 => i2 x6 x8 h7) (aBa E r0 r5 h)
def wT (n : Nat) : DV → DV → H → aQ := Nat.rec (motive := λ _ => DV → DV → H → aQ) (λ _ _ _ => none) (λ _ i => aBg E i) n
def aDJ (r0 r1 : DV) (h : H) : aQ := vK (cO .u64 r1) λ x1 => vK (pM x1 (.int .u64 (.ofNat 1))) λ x2 => vK (jP r1 (.int .u64 (.ofNat 63))) λ x3 => vK (cO .u64 x3) λ x4 => vK (nM x2 x4) λ x5 => wT E aY r0 x5 h
theorem bEk : Is E bGp (aZ aEg.res) (λ σ h => aBa E (σ p0) (σ p5) h) := Is.rf
abbrev bCo : fR (DV × H) := (bP (λ σ h => aBa E (σ p0) (σ p5) h) (aZ aEg.res))
theorem bEj : Is E bGo (bH 0 (bCo E)) (λ σ h => wT E aY (σ p0) (σ p5) h) := Is.lp (λ n2 σ h => wT E n2 (σ p0) (σ p5) h) λ n2 => Is.aq (Is.leaf _)
theorem bEl : iS E aEg (aDJ E) := Is.aq (Is.sq (Is.sq (Is.sq (bEk E) (Is.bk (bEj E))) (Is.leaf _)) (Is.leaf _))
def aHE : bB := iN (aDJ E)
theorem aKY : SQ aEg aHE := iV bEl
def aTQ := cm 117
def aDI (r0 r1 : DV) (h : H) : aQ := vK (bY .ptr false h.get r0 .nilp) λ x1 => aP x1 false (λ kk => kk r0 h) h λ x2 h3 => aP x1 false (λ kk => vK (aA x2) λ v => kk v h3) h3 λ x4 h5 => aP x1 false (λ kk => vK (aG 1 x4) λ v => kk v h5) h5 λ x6 h7 => aP x1 false (λ kk => vK (aF h7.get x6) λ v => kk v h7) h7 λ x8 h9 => vK (aK x1 (.bool true) x8) λ x10 => aP x10 false (λ kk => kk r1 h9) h9 λ x11 h12 => aP x10 false (λ kk => vK (bF x11 (ii 0)) λ v => kk v h12) h12 λ x13 h14 => vK (aK x10 (.bool true) x13) λ x15 => aP x15 false (λ kk => kk r1 h14) h14 λ x16 h17 => aP x15 false (λ kk => kk r0 h17) h17 λ x18 h19 => aP x15 false (λ kk => vK (aA x18) λ v => kk v h19) h19 λ x20 h21 => aP x15 false (λ kk => vK (aG 0 x20) λ v => kk v h21) h21 λ x22 h23 => aP x15 false (λ kk => vK (aF h23.get x22) λ v => kk v h23) h23 λ x24 h25 => aP x15 false (λ kk => vK (dT x24) λ v => kk v h25) h25 λ x26 h27 => aP x15 false (λ kk => vK (dA x16 x26) λ v => kk v h27) h27 λ x28 h29 => vK (aK x15 (.bool true) x28) λ x30 => bK x30 (wK (aB E 148 [r0] h29) λ x31 h32 => some ((.tup [(.str []), (.bool false)]), h32)) (vK (aA r0) λ x33 => vK (aG 0 x33) λ x34 => vK (aF h29.get x34) λ x35 => vK (jM x35 none (some r1)) λ x36 => vK (aA r0) λ x37 => vK (aG 0 x37) λ x38 => vK (aF h29.get x38) λ x39 => vK (jM x39 (some r1) none) λ x40 => vK (aA r0) λ x41 => vK (aG 0 x41) λ x42 => wK (cQ 1 x42 x40 h29) λ x43 h44 => some ((.tup [x36, (.bool true)]), h44))
theorem bEi : iS E aTQ (aDI E) := Is.rf
def aHD : bB := iN (aDI E)
theorem aKX : SQ aTQ aHD := iV bEi
def aTP := cm 118
def aDH (r0 : DV) (h : H) : aQ := vK (bY .ptr false h.get r0 .nilp) λ x1 => bK x1 (some ((ii 0), h)) (vK (aA r0) λ x2 => vK (aG 0 x2) λ x3 => vK (aF h.get x3) λ x4 => wK (aB E 149 [x4] h) λ x5 h6 => vK (aT 0 x5) λ x7 => vK (aT 1 x5) λ x8 => vK (bV x8 (ii 0)) λ x9 => bK x9 (wK (aB E 148 [r0] h6) λ x10 h11 => some ((ii 0), h11)) (wK (aB E 117 [r0, x8] h6) λ x12 h13 => vK (jP x7 (.int .u64 (.ofNat 1))) λ x14 => vK (cO .i64 x14) λ x15 => vK (nR x7 (.int .u64 (.ofNat 1))) λ x16 => vK (cO .i64 x16) λ x17 => vK (rS x17) λ x18 => vK (nM x15 x18) λ x19 => some (x19, h13)))
theorem bEh : jX E aTP (aDH E) := Is.rf
def aHC : bB := jW (aDH E)
theorem aKW : SQ aTP aHC := kC bEh
def aEf := cm 119
def bGn := cr (cr (cr (cr (cr aEf.body))))
def bGm := cl (cr (cl (cr (cr (cr (cr aEf.body))))))
def aIm (E : aX) (r6 : DV) (h : H) : aQ := some (r6, h)
def bGJ (r0 r1 r26 : DV) (i2 : DV → DV → H → aQ) (r6 r27 : DV) (h : H) : aQ := vK (bF r27 r26) λ x1 => bK x1 (wK (mJ E r1 [] h) λ x2 h3 => dB 1 1 [(ii 0)] [(0, 1, x2)] h3 λ x4 h5 => wK (cG 1 8 r6 x4 h5) λ x6 h7 => vK (aA r0) λ x8 => vK (aG 1 x8) λ x9 => vK (aF h7.get x9) λ x10 => bK x10 (some (.nils, h7)) (vK (bL r27 (ii 1)) λ x11 => i2 x6 x11 h7)) (aIm E r6 h)
def aHR (r0 r1 r26 : DV) (n : Nat) : DV → DV → H → aQ := Nat.rec (motive := λ _ => DV → DV → H → aQ) (λ _ _ _ => none) (λ _ i => bGJ E r0 r1 r26 i) n
def aSW (r0 r1 : DV) (h : H) : aQ := wK (aB E 118 [r0] h) λ x1 h2 => vK (bY .ptr false h2.get r0 .nilp) λ x3 => aP x3 false (λ kk => kk x1 h2) h2 λ x4 h5 => aP x3 false (λ kk => vK (bF x4 (ii 0)) λ v => kk v h5) h5 λ x6 h7 => vK (aK x3 (.bool true) x6) λ x8 => aP x8 false (λ kk => kk x1 h7) h7 λ x9 h10 => aP x8 false (λ kk => kk r0 h10) h10 λ x11 h12 => aP x8 false (λ kk => vK (aA x11) λ v => kk v h12) h12 λ x13 h14 => aP x8 false (λ kk => vK (aG 0 x13) λ v => kk v h14) h14 λ x15 h16 => aP x8 false (λ kk => vK (aF h16.get x15) λ v => kk v h16) h16 λ x17 h18 => aP x8 false (λ kk => vK (dT x17) λ v => kk v h18) h18 λ x19 h20 => aP x8 false (λ kk => vK (dA x9 x19) λ v => kk v h20) h20 λ x21 h22 => vK (aK x8 (.bool true) x21) λ x23 => bK x23 (wK (aB E 148 [r0] h22) λ x24 h25 => some (.nils, h25)) (aHR E r0 r1 x1 aY .nils (ii 0) h22)
theorem bEf : Is E bGn (aZ aEf.res) (λ σ h => aIm E (σ p6) h) := Is.rf
abbrev bCn : fR (DV × H) := (bP (λ σ h => aIm E (σ p6) h) (aZ aEf.res))
theorem bEe : Is E bGm (bH 0 (bCn E)) (λ σ h => aHR E (σ p0) (σ p1) (σ p26) aY (σ p6) (σ p27) h) := Is.lp (λ n2 σ h => aHR E (σ p0) (σ p1) (σ p26) n2 (σ p6) (σ p27) h) λ n2 => Is.aq (Is.leaf _)
theorem bEg : iS E aEf (aSW E) := Is.aq (Is.sq (Is.sq (Is.sq (Is.sq (Is.sq (bEf E) (Is.sq (Is.bk (bEe E)) (Is.leaf _))) (Is.leaf _)) (Is.leaf _)) (Is.leaf _)) (Is.leaf _))
def aRe : bB := iN (aSW E)
theorem aKV : SQ aEf aRe := iV bEg
def aIF := cm 120
def bGl := cr (cr aIF.body)
def aIl (r0 r3 : DV) (h : H) : aQ := wK (aB E 114 [r0, (.fn (.func 150) [] [r3])] h) λ x1 h2 => some ((.tup []), h2)
def aSV (r0 r1 : DV) (h : H) : aQ := cL r1 h λ x1 h2 => vK (bY .ptr true h2.get r0 .nilp) λ x3 => aP x3 true (λ kk => kk r0 h2) h2 λ x4 h5 => aP x3 true (λ kk => vK (aA x4) λ v => kk v h5) h5 λ x6 h7 => aP x3 true (λ kk => vK (aG 2 x6) λ v => kk v h7) h7 λ x8 h9 => aP x3 true (λ kk => vK (aF h9.get x8) λ v => kk v h9) h9 λ x10 h11 => aP x3 true (λ kk => vK (bV x10 (ii 0)) λ v => kk v h11) h11 λ x12 h13 => vK (aK x3 x12 (.bool false)) λ x14 => aP x14 true (λ kk => vK (aF h13.get x1) λ v => kk v h13) h13 λ x15 h16 => aP x14 true (λ kk => vK (bF x15 (ii 0)) λ v => kk v h16) h16 λ x17 h18 => aP x14 true (λ kk => kk x17 h18) h18 λ x19 h20 => aP x19 false (λ kk => vK (aF h20.get x1) λ v => kk v h20) h20 λ x21 h22 => aP x19 false (λ kk => vK (dA x21 (ii 255)) λ v => kk v h22) h22 λ x23 h24 => aP x14 true (λ kk => vK (aK x19 (.bool true) x23) λ v => kk v h24) h24 λ x25 h26 => vK (aK x14 x25 (.bool false)) λ x27 => bK x27 (vK (aA r0) λ x28 => vK (aG 2 x28) λ x29 => wK (cQ 1 x29 (ii 1) h26) λ x30 h31 => aIl E r0 x1 h31) (aIl E r0 x1 h26)
theorem bEc : Is E bGl (aZ aIF.res) (λ σ h => aIl E (σ p0) (σ p3) h) := Is.rf
theorem bEd : iS E aIF (aSV E) := Is.aq (Is.sq (Is.sq (bEc E) (Is.leaf _)) (Is.leaf _))
def aRd : bB := iN (aSV E)
theorem aKU : SQ aIF aRd := iV bEd
def aTO := cm 121
def aSU (r0 r1 : DV) (h : H) : aQ := cL r1 h λ x1 h2 => wK (aB E 114 [r0, (.fn (.func 151) [] [x1])] h2) λ x3 h4 => some ((.tup []), h4)
theorem bEb : iS E aTO (aSU E) := Is.rf
def aRc : bB := iN (aSU E)
theorem aKT : SQ aTO aRc := iV bEb
def aTN := cm 122
def aST (E : aX) (r0 r1 : DV) (h : H) : aQ := vK (dZ r0 (ii 0)) λ x1 => aP x1 true (λ kk => kk r0 h) h λ x2 h3 => aP x1 true (λ kk => vK (bF x2 (ii 64)) λ v => kk v h3) h3 λ x4 h5 => vK (aK x1 x4 (.bool false)) λ x6 => aP x6 true (λ kk => kk r1 h5) h5 λ x7 h8 => aP x6 true (λ kk => vK (dZ x7 (ii 0)) λ v => kk v h8) h8 λ x9 h10 => vK (aK x6 x9 (.bool false)) λ x11 => aP x11 true (λ kk => kk r1 h10) h10 λ x12 h13 => aP x11 true (λ kk => vK (bF x12 (ii 2147483648)) λ v => kk v h13) h13 λ x14 h15 => vK (aK x11 x14 (.bool false)) λ x16 => some (x16, h15)
theorem bEa : iS E aTN (aST E) := Is.rf
def aRb : bB := iN (aST E)
theorem aKS : SQ aTN aRb := iV bEa
def aTM := cm 123
def aSS (r0 r1 r2 : DV) (h : H) : aQ := vK (aA r0) λ x1 => vK (aG 1 x1) λ x2 => vK (aF h.get x2) λ x3 => vK (tY .int .nils false h.get x3 r1) λ x4 => wK (aB E 152 [x4, r2, (.fn (.func 153) [] [])] h) λ x5 h6 => vK (aT 0 x5) λ x7 => vK (aT 1 x5) λ x8 => some ((.tup [x7, x8]), h6)
theorem bDZ : iB3 E aTM (aSS E) := Is.rf
def aRa : bB := fA3 (aSS E)
theorem aKR : SQ aTM aRa := eB3 bDZ
def aTL := cm 124
def aSR (r0 r1 r2 : DV) (h : H) : aQ := vK (eF 3 r0 (some r1) none) λ x1 => vK (aW r2) λ x2 => vK (bV x2 (ii 0)) λ x3 => bK x3 (some (r0, h)) (vK (aW r0) λ x4 => vK (bV r1 x4) λ x5 => bK x5 (wK (cG 3 32 r0 r2 h) λ x6 h7 => some (x6, h7)) (vK (bL x4 x2) λ x8 => vK (yZ r0) λ x9 => vK (dA x8 x9) λ x10 => bK x10 (vK (eF 3 r0 none (some r1)) λ x11 => vK (bL x4 x2) λ x12 => vK (jO x12 r1) λ x13 => wK (aBv 3 32 [(ii 0), (.bool false), (.str [])] x11 x13 h) λ x14 h15 => vK (eF 3 x14 (some r1) none) λ x16 => wK (jK 3 x16 r2 h15) λ x17 h18 => vK (bL r1 x2) λ x19 => vK (eF 3 x14 (some x19) none) λ x20 => vK (eF 3 r0 (some r1) none) λ x21 => wK (jK 3 x20 x21 h18) λ x22 h23 => some (x14, h23)) (vK (bL x4 x2) λ x24 => vK (eF 3 r0 none (some x24)) λ x25 => vK (bL r1 x2) λ x26 => vK (eF 3 x25 (some x26) none) λ x27 => vK (aEt h.get r2 x27) λ x28 => vK (dY x28) λ x29 => bK x29 (vK (bL r1 x2) λ x30 => vK (eF 3 x25 (some x30) none) λ x31 => vK (eF 3 x25 (some r1) none) λ x32 => wK (jK 3 x31 x32 h) λ x33 h34 => vK (eF 3 x25 (some r1) none) λ x35 => wK (jK 3 x35 r2 h34) λ x36 h37 => some (x25, h37)) (vK (eF 3 x25 (some x4) none) λ x38 => wK (jK 3 x38 r2 h) λ x39 h40 => vK (eF 3 x25 (some r1) none) λ x41 => wK (aB E 155 [x41, x2] h40) λ x42 h43 => some (x25, h43)))))
theorem bDY : iB3 E aTL (aSR E) := Is.rf
def aQZ : bB := fA3 (aSR E)
theorem aKQ : SQ aTL aQZ := eB3 bDY
def aTK := cm 125
def aSQ (r0 r1 : DV) (h : H) : aQ := cL r1 h λ x1 h2 => vK (aA r0) λ x3 => vK (aG 1 x3) λ x4 => vK (aF h2.get x4) λ x5 => vK (aG 0 x1) λ x6 => vK (aF h2.get x6) λ x7 => vK (aA r0) λ x8 => vK (aG 0 x8) λ x9 => vK (aF h2.get x9) λ x10 => vK (aG 3 x1) λ x11 => vK (aF h2.get x11) λ x12 => vK (aA r0) λ x13 => vK (aG 0 x13) λ x14 => vK (aF h2.get x14) λ x15 => wK (aB E 102 [x10] h2) λ x16 h17 => rK (zS (aF h17.get x14) x15) <| rK (zS (aF h17.get x11) x12) <| rK (zS (aF h17.get x6) x7) <| rK (zS (aF h17.get x4) x5) <| wK (aB E 157 [x15] h17) λ x18 h19 => rK (zS (aF h19.get x11) x12) <| rK (zS (aF h19.get x6) x7) <| rK (zS (aF h19.get x4) x5) <| wK (aB E 156 [x5, x7, x16, x12, x18] h19) λ x20 h21 => vK (aT 0 x20) λ x22 => vK (aT 1 x20) λ x23 => vK (aA r0) λ x24 => vK (aG 0 x24) λ x25 => vK (aF h21.get x25) λ x26 => wK (aB E 102 [x26] h21) λ x27 h28 => dB 2 1 [(ii 0)] [(0, 1, x22), (1, 1, x27)] h28 λ x29 h30 => some ((.tup [x29, x23]), h30)
theorem bDX : iS E aTK (aSQ E) := Is.rf
def aQY : bB := iN (aSQ E)
theorem aKP : SQ aTK aQY := iV bDX
def aIE := cm 126
def bGk := cr (cr (cr (cr (cr aIE.body))))
def aIk (E : aX) (r8 : DV) (h : H) : aQ := some ((.tup [.nils, r8]), h)
def aSP (r0 r1 : DV) (h : H) : aQ := cL r1 h λ x1 h2 => vK (aA r0) λ x3 => vK (aG 1 x3) λ x4 => vK (aF h2.get x4) λ x5 => vK (aG 3 x1) λ x6 => vK (aF h2.get x6) λ x7 => fC 6 6 (.list [(ii 0), (ii 0), (ii 0), (ii 0), (ii 0), .nils]) h2 λ x8 h9 => wK (aB E 100 [x5, x7] h9) λ x10 h11 => vK (aT 0 x10) λ x12 => vK (aT 1 x10) λ x13 => wK (cQ 6 x8 x12 h11) λ x14 h15 => aP x13 true (λ kk => vK (aG 1 x8) λ v => kk v h15) h15 λ x16 h17 => aP x13 true (λ kk => vK (aF h17.get x16) λ v => kk v h17) h17 λ x18 h19 => aP x13 true (λ kk => vK (bV x18 (ii 1)) λ v => kk v h19) h19 λ x20 h21 => vK (aK x13 x20 (.bool false)) λ x22 => aP x22 true (λ kk => vK (aG 2 x8) λ v => kk v h21) h21 λ x23 h24 => aP x22 true (λ kk => vK (aF h24.get x23) λ v => kk v h24) h24 λ x25 h26 => aP x22 true (λ kk => vK (aG 0 x1) λ v => kk v h26) h26 λ x27 h28 => aP x22 true (λ kk => vK (aF h28.get x27) λ v => kk v h28) h28 λ x29 h30 => aP x22 true (λ kk => vK (bV x25 x29) λ v => kk v h30) h30 λ x31 h32 => vK (aK x22 x31 (.bool false)) λ x33 => aP x33 true (λ kk => vK (aG 3 x8) λ v => kk v h32) h32 λ x34 h35 => aP x33 true (λ kk => vK (aF h35.get x34) λ v => kk v h35) h35 λ x36 h37 => aP x33 true (λ kk => kk r0 h37) h37 λ x38 h39 => aP x33 true (λ kk => vK (aA x38) λ v => kk v h39) h39 λ x40 h41 => aP x33 true (λ kk => vK (aG 0 x40) λ v => kk v h41) h41 λ x42 h43 => aP x33 true (λ kk => vK (aF h43.get x42) λ v => kk v h43) h43 λ x44 h45 => aP x33 true (λ kk => wK (aB E 102 [x44] h45) kk) h45 λ x46 h47 => rK (gB x33 true (zS (aF h47.get x34) x36)) <| aP x33 true (λ kk => vK (cW x36 x46) λ v => kk v h47) h47 λ x48 h49 => vK (aK x33 x48 (.bool false)) λ x50 => bK x50 (some ((.tup [.nils, (ii 10)]), h49)) (vK (aA r0) λ x51 => vK (aG 1 x51) λ x52 => vK (aF h49.get x52) λ x53 => vK (aG 3 x1) λ x54 => vK (aF h49.get x54) λ x55 => vK (aG 0 x1) λ x56 => vK (aF h49.get x56) λ x57 => wK (aB E 158 [x53, x55, x57] h49) λ x58 h59 => vK (bV x58 (ii 0)) λ x60 => aP x60 true (λ kk => vK (aG 4 x8) λ v => kk v h59) h59 λ x61 h62 => aP x60 true (λ kk => vK (aF h62.get x61) λ v => kk v h62) h62 λ x63 h64 => aP x60 true (λ kk => vK (dA x63 (ii 0)) λ v => kk v h64) h64 λ x65 h66 => vK (aK x60 x65 (.bool false)) λ x67 => bK x67 (vK (aA r0) λ x68 => vK (aG 3 x68) λ x69 => vK (aF h66.get x69) λ x70 => vK (aG 3 x1) λ x71 => vK (aF h66.get x71) λ x72 => vK (aG 4 x8) λ x73 => vK (aF h66.get x73) λ x74 => vK (aG 4 x8) λ x75 => vK (aF h66.get x75) λ x76 => wK (aB E 159 [x70, x72, x74, x76, (ii 0)] h66) λ x77 h78 => aIk E x58 h78) (aIk E x58 h66))
theorem bDV : Is E bGk (aZ aIE.res) (λ σ h => aIk E (σ p8) h) := Is.rf
theorem bDW : iS E aIE (aSP E) := Is.aq (Is.sq (Is.sq (Is.sq (Is.sq (Is.sq (bDV E) (Is.leaf _)) (Is.leaf _)) (Is.leaf _)) (Is.leaf _)) (Is.leaf _))
def aQX : bB := iN (aSP E)
theorem aKO : SQ aIE aQX := iV bDW
def aID := cm 129
def bGj := cr (cr (cr aID.body))
def aIj (r0 r6 : DV) (h : H) : aQ := vK (aA r0) λ x1 => vK (aG 0 x1) λ x2 => vK (aF h.get x2) λ x3 => wK (aB E 102 [x3] h) λ x4 h5 => dB 1 1 [(ii 0)] [(0, 1, x4)] h5 λ x6 h7 => some ((.tup [x6, r6]), h7)
def aSO (r0 r1 : DV) (h : H) : aQ := cL r1 h λ x1 h2 => vK (aA r0) λ x3 => vK (aG 0 x3) λ x4 => vK (aF h2.get x4) λ x5 => vK (aG 3 x1) λ x6 => vK (aF h2.get x6) λ x7 => vK (aG 4 x1) λ x8 => vK (aF h2.get x8) λ x9 => wK (aB E 165 [x5, x7, x9] h2) λ x10 h11 => vK (bV x10 (ii 0)) λ x12 => bK x12 (vK (aG 3 x1) λ x13 => vK (aF h11.get x13) λ x14 => vK (aA r0) λ x15 => vK (aG 6 x15) λ x16 => wK (cQ 1 x16 x14 h11) λ x17 h18 => aIj E r0 x10 h18) (aIj E r0 x10 h11)
theorem bDT : Is E bGj (aZ aID.res) (λ σ h => aIj E (σ p0) (σ p6) h) := Is.rf
theorem bDU : iS E aID (aSO E) := Is.aq (Is.sq (Is.sq (Is.sq (bDT E) (Is.leaf _)) (Is.leaf _)) (Is.leaf _))
def aQW : bB := iN (aSO E)
theorem aKN : SQ aID aQW := iV bDU
def aEe := cm 130
def bGi := cr (cr (cr (cr aEe.body)))
def bGh := cl (cr (cl (cr (cr (cr aEe.body)))))
def aIi (r0 r6 : DV) (h : H) : aQ := vK (aA r0) λ x1 => vK (aG 0 x1) λ x2 => vK (aF h.get x2) λ x3 => wK (aB E 102 [x3] h) λ x4 h5 => dB 2 1 [(ii 0)] [(0, 1, r6), (1, 1, x4)] h5 λ x6 h7 => some ((.tup [x6, (ii 0)]), h7)
def bGI (r0 r6 r33 r34 : DV) (i2 : DV → H → aQ) (r35 : DV) (h : H) : aQ := vK (bF r35 r34) λ x1 => bK x1 (vK (cH 1 r33 r35) λ x2 => vK (aF h.get x2) λ x3 => vK (aA r0) λ x4 => vK (aG 1 x4) λ x5 => vK (aF h.get x5) λ x6 => wK (aB E 100 [x6, x3] h) λ x7 h8 => vK (aT 0 x7) λ x9 => vK (aT 1 x7) λ x10 => fC 6 6 (.list [(ii 0), (ii 0), (ii 0), (ii 0), (ii 0), .nils]) h8 λ x11 h12 => wK (cQ 6 x11 x9 h12) λ x13 h14 => vK (aA r0) λ x15 => vK (aG 1 x15) λ x16 => vK (aF h14.get x16) λ x17 => vK (aG 5 x11) λ x18 => vK (aF h14.get x18) λ x19 => vK (aA r0) λ x20 => vK (aG 6 x20) λ x21 => vK (aF h14.get x21) λ x22 => wK (aB E 106 [x19, x22] h14) λ x23 h24 => rK (zS (aF h24.get x16) x17) <| wK (aB E 168 [x17, x3, x23, r6] h24) λ x25 h26 => vK (bL r35 (ii 1)) λ x27 => i2 x27 h26) (aIi E r0 r6 h)
def aHQ (r0 r6 r33 r34 : DV) (n : Nat) : DV → H → aQ := Nat.rec (motive := λ _ => DV → H → aQ) (λ _ _ => none) (λ _ i => bGI E r0 r6 r33 r34 i) n
def aSN (r0 r1 : DV) (h : H) : aQ := cL r1 h λ x1 h2 => vK (aA r0) λ x3 => vK (aG 0 x3) λ x4 => vK (aF h2.get x4) λ x5 => vK (aG 3 x1) λ x6 => vK (aF h2.get x6) λ x7 => wK (aB E 166 [x5, x7] h2) λ x8 h9 => vK (aT 0 x8) λ x10 => vK (aT 1 x8) λ x11 => vK (cW x11 (ii 0)) λ x12 => bK x12 (some ((.tup [.nils, x11]), h9)) (vK (aA r0) λ x13 => vK (aG 1 x13) λ x14 => vK (aF h9.get x14) λ x15 => vK (aA r0) λ x16 => vK (aG 6 x16) λ x17 => vK (aF h9.get x17) λ x18 => wK (aB E 167 [x15, x18] h9) λ x19 h20 => vK (aW x19) λ x21 => aHQ E r0 x10 x19 x21 aY (ii 0) h20)
theorem bDR : Is E bGi (aZ aEe.res) (λ σ h => aIi E (σ p0) (σ p6) h) := Is.rf
abbrev bCm : fR (DV × H) := (bP (λ σ h => aIi E (σ p0) (σ p6) h) (aZ aEe.res))
theorem bDQ : Is E bGh (bH 0 (bCm E)) (λ σ h => aHQ E (σ p0) (σ p6) (σ p33) (σ p34) aY (σ p35) h) := Is.lp (λ n2 σ h => aHQ E (σ p0) (σ p6) (σ p33) (σ p34) n2 (σ p35) h) λ n2 => Is.aq (Is.leaf _)
theorem bDS : iS E aEe (aSN E) := Is.aq (Is.sq (Is.sq (Is.sq (Is.sq (bDR E) (Is.sq (Is.bk (bDQ E)) (Is.leaf _))) (Is.leaf _)) (Is.leaf _)) (Is.leaf _))
def aQV : bB := iN (aSN E)
theorem aKM : SQ aEe aQV := iV bDS
def aTJ := cm 131
def aSM (r0 r1 : DV) (h : H) : aQ := cL r1 h λ x1 h2 => vK (aA r0) λ x3 => vK (aG 0 x3) λ x4 => vK (aF h2.get x4) λ x5 => vK (aG 3 x1) λ x6 => vK (aF h2.get x6) λ x7 => wK (aB E 169 [x5, x7] h2) λ x8 h9 => vK (aA r0) λ x10 => vK (aG 0 x10) λ x11 => vK (aF h9.get x11) λ x12 => wK (aB E 102 [x12] h9) λ x13 h14 => dB 1 1 [(ii 0)] [(0, 1, x13)] h14 λ x15 h16 => some ((.tup [x15, x8]), h16)
theorem bDP : iS E aTJ (aSM E) := Is.rf
def aQU : bB := iN (aSM E)
theorem aKL : SQ aTJ aQU := iV bDP
def bFB := cm 135
def aSL (r0 : DV) (h : H) : aQ := vK (aA r0) λ x1 => vK (aG 1 x1) λ x2 => vK (aF h.get x2) λ x3 => wK (aB E 111 [x3, (.fn (.func 178) [] [])] h) λ x4 h5 => some (x4, h5)
theorem bDO : jX E bFB (aSL E) := Is.rf
def bBW : bB := jW (aSL E)
theorem aWA : SQ bFB bBW := kC bDO
def aIC := cm 136
def bGg := cr (cr aIC.body)
def aIJ := cl (cr (cl (cr aIC.body)))
def bGf := cr (cr (cr (cl aIJ)))
def bGe := cr (cr (cr (cl (cl (cr (cr (cl aIJ)))))))
def aIh (E : aX) (h : H) : aQ := some ((ii 0), h)
def aIg (E : aX) (i2 : DV → H → aQ) (r12 : DV) (h : H) : aQ := vK (bL r12 (ii 1)) λ x1 => i2 x1 h
def aIf (i2 : DV → H → aQ) (r0 r9 r12 : DV) (h : H) : aQ := vK (cW r9 (ii 0)) λ x1 => bK x1 (vK (aA r0) λ x2 => vK (aG 2 x2) λ x3 => wK (cQ 1 x3 (.bool true) h) λ x4 h5 => some (r9, h5)) (aIg E i2 r12 h)
def bGH (r0 r1 r10 r11 : DV) (i2 : DV → H → aQ) (r12 : DV) (h : H) : aQ := vK (bF r12 r11) λ x1 => bK x1 (vK (cH 1 r10 r12) λ x2 => vK (aF h.get x2) λ x3 => vK (bF r1 (ii 0)) λ x4 => aP x4 false (λ kk => kk r12 h) h λ x5 h6 => aP x4 false (λ kk => kk r1 h6) h6 λ x7 h8 => aP x4 false (λ kk => vK (bF x5 x7) λ v => kk v h8) h8 λ x9 h10 => vK (aK x4 (.bool true) x9) λ x11 => bK x11 (wK (mJ E x3 [] h10) λ x12 h13 => aIf E i2 r0 x12 r12 h13) (aIf E i2 r0 (ii 16) r12 h10)) (aIh E h)
def tQ (r0 r1 r10 r11 : DV) (n : Nat) : DV → H → aQ := Nat.rec (motive := λ _ => DV → H → aQ) (λ _ _ => none) (λ _ i => bGH E r0 r1 r10 r11 i) n
def aSK (r0 r1 r2 : DV) (h : H) : aQ := vK (aW r2) λ x1 => tQ E r0 r1 r2 x1 aY (ii 0) h
theorem bDM : Is E bGg (aZ aIC.res) (λ σ h => aIh E h) := Is.rf
abbrev aRA : fR (DV × H) := (bH 0 (bP (λ σ h => aIh E h) (aZ aIC.res)))
abbrev aRz (n2 : Nat) : fR (DV × H) := (bP (λ σ h => (tQ E (σ p0) (σ p1) (σ lT) (σ p11) n2) (σ rU) h) (aRA E))
theorem bDK (n2 : Nat) : Is E bGf (aRz E n2) (λ σ h => aIg E (tQ E (σ p0) (σ p1) (σ lT) (σ p11) n2) (σ rU) h) := Is.rf
abbrev bCl (n2 : Nat) : fR (DV × H) := (bP (λ σ h => aIg E (tQ E (σ p0) (σ p1) (σ lT) (σ p11) n2) (σ rU) h) (aRz E n2))
theorem bDJ (n2 : Nat) : Is E bGe (bH 1 (bCl E n2)) (λ σ h => aIf E (tQ E (σ p0) (σ p1) (σ lT) (σ p11) n2) (σ p0) (σ p9) (σ rU) h) := Is.rf
theorem bDL : Is E aIJ (aRA E) (λ σ h => tQ E (σ p0) (σ p1) (σ lT) (σ p11) aY (σ rU) h) := Is.lp (λ n2 σ h => tQ E (σ p0) (σ p1) (σ lT) (σ p11) n2 (σ rU) h) λ n2 => Is.aq (Is.sq (Is.sq (Is.sq (bDK E n2) (Is.bk (Is.sq (Is.sq (Is.sq (bDJ E n2) (Is.leaf _)) (Is.leaf _)) (Is.leaf _)))) (Is.leaf _)) (Is.leaf _))
theorem bDN : iB3 E aIC (aSK E) := Is.aq (Is.sq (Is.sq (bDM E) (Is.sq (Is.bk (bDL E)) (Is.leaf _))) (Is.leaf _))
def bBV : bB := fA3 (aSK E)
theorem aWz : SQ aIC bBV := eB3 bDN
def bFA := cm 137
def aSJ (E : aX) (r0 r1 r2 : DV) (h : H) : aQ := cL r0 h λ x1 h2 => cL r1 h2 λ x3 h4 => cL r2 h4 λ x5 h6 => some ((.fn (.func 179) [] [x1, x3, x5]), h6)
theorem bDI : iB3 E bFA (aSJ E) := Is.rf
def bBU : bB := fA3 (aSJ E)
theorem aWy : SQ bFA bBU := eB3 bDI
def bFz := cm 138
def aSI (r0 : DV) (h : H) : aQ := vK (aA r0) λ x1 => vK (aG 0 x1) λ x2 => vK (aF h.get x2) λ x3 => wK (aB E 181 [x3] h) λ x4 h5 => some ((ii 0), h5)
theorem bDH : jX E bFz (aSI E) := Is.rf
def bBT : bB := jW (aSI E)
theorem aWx : SQ bFz bBT := kC bDH
def aTI := cm 139
def aSH (E : aX) (r0 r1 : DV) (h : H) : aQ := vK (bY .ptr false h.get r0 .nilp) λ x1 => aP x1 false (λ kk => kk r1 h) h λ x2 h3 => aP x1 false (λ kk => vK (bF x2 (ii 0)) λ v => kk v h3) h3 λ x4 h5 => vK (aK x1 (.bool true) x4) λ x6 => aP x6 false (λ kk => kk r1 h5) h5 λ x7 h8 => aP x6 false (λ kk => kk r0 h8) h8 λ x9 h10 => aP x6 false (λ kk => vK (aA x9) λ v => kk v h10) h10 λ x11 h12 => aP x6 false (λ kk => vK (aG 0 x11) λ v => kk v h12) h12 λ x13 h14 => aP x6 false (λ kk => vK (aF h14.get x13) λ v => kk v h14) h14 λ x15 h16 => aP x6 false (λ kk => vK (aW x15) λ v => kk v h16) h16 λ x17 h18 => aP x6 false (λ kk => vK (dZ x7 x17) λ v => kk v h18) h18 λ x19 h20 => vK (aK x6 (.bool true) x19) λ x21 => bK x21 (some (.nilp, h20)) (vK (aA r0) λ x22 => vK (aG 0 x22) λ x23 => vK (aF h20.get x23) λ x24 => vK (cH 6 x24 r1) λ x25 => some (x25, h20))
theorem bDG : iS E aTI (aSH E) := Is.rf
def aQT : bB := iN (aSH E)
theorem aKK : SQ aTI aQT := iV bDG
def aTH := cm 140
def aSG (E : aX) (r0 : DV) (h : H) : aQ := vK (bY .nilL false h.get r0 .nils) λ x1 => bK x1 (some (.nils, h)) (dB 0 1 [(ii 0)] [] h λ x2 h3 => wK (cG 1 8 x2 r0 h3) λ x4 h5 => some (x4, h5))
theorem bDF : jX E aTH (aSG E) := Is.rf
def aQS : bB := jW (aSG E)
theorem aKJ : SQ aTH aQS := kC bDF
def bFy := cm 141
def aSF (E : aX) (h : H) : aQ := none
theorem bDE : iS E bFy (λ _ _ h => aSF E h) := Is.rf
def bBQ : bB := iN (λ _ _ h => aSF E h)
theorem aWw : SQ bFy bBQ := iV bDE
def bFx := cm 142
def aSE (r0 r1 : DV) (h : H) : aQ := cL r1 h λ x1 h2 => vK (bY .ptr false h2.get r0 .nilp) λ x3 => bK x3 (some ((.tup [(.str []), (ii 1)]), h2)) (vK (cR 2 h2.get x1) λ x4 => wK (aB E 75 [r0, x4] h2) λ x5 h6 => vK (bF x5 (ii 0)) λ x7 => bK x7 (some ((.tup [(.str []), (ii 7)]), h6)) (vK (aA r0) λ x8 => vK (aG 2 x8) λ x9 => vK (aF h6.get x9) λ x10 => bK x10 (some ((.tup [(.str []), (ii 16)]), h6)) (vK (aA r0) λ x11 => vK (aG 0 x11) λ x12 => vK (aF h6.get x12) λ x13 => vK (mR x5 (ii 9)) λ x14 => vK (bL x14 (ii 1)) λ x15 => wK (aB E 73 [x13, x15, (ii 8)] h6) λ x16 h17 => vK (aT 0 x16) λ x18 => vK (aT 1 x16) λ x19 => vK (cW x19 (ii 0)) λ x20 => bK x20 (some ((.tup [(.str []), x19]), h17)) (vK (aA r0) λ x21 => vK (aG 1 x21) λ x22 => vK (aF h17.get x22) λ x23 => vK (cH 4 x23 x5) λ x24 => vK (aG 3 x24) λ x25 => vK (aF h17.get x25) λ x26 => vK (jM x18 none (some x26)) λ x27 => some ((.tup [x27, (ii 0)]), h17)))))
theorem bDD : iS E bFx (aSE E) := Is.rf
def bBP : bB := iN (aSE E)
theorem aWv : SQ bFx bBP := iV bDD
def aEd := cm 143
def bGd := cr (cr (cr aEd.body))
def bGc := cl (cr (cl (cr (cr aEd.body))))
def aIe (E : aX) (h : H) : aQ := some ((.bool true), h)
def bGG (r0 r13 r14 : DV) (i2 : DV → H → aQ) (r15 : DV) (h : H) : aQ := vK (bF r15 r14) λ x1 => bK x1 (vK (cH 1 r13 r15) λ x2 => vK (aF h.get x2) λ x3 => vK (bF x3 (ii 0)) λ x4 => aP x4 false (λ kk => kk x3 h) h λ x5 h6 => aP x4 false (λ kk => vK (dA x5 (ii 63)) λ v => kk v h6) h6 λ x7 h8 => vK (aK x4 (.bool true) x7) λ x9 => aP x9 false (λ kk => kk r0 h8) h8 λ x10 h11 => aP x9 false (λ kk => kk r15 h11) h11 λ x12 h13 => aP x9 false (λ kk => vK (eF 1 x10 none (some x12)) λ v => kk v h13) h13 λ x14 h15 => aP x9 false (λ kk => kk x3 h15) h15 λ x16 h17 => aP x9 false (λ kk => wK (aB E 72 [x14, x16] h17) kk) h17 λ x18 h19 => vK (aK x9 (.bool true) x18) λ x20 => bK x20 (some ((.bool false), h19)) (vK (bL r15 (ii 1)) λ x21 => i2 x21 h19)) (aIe E h)
def aHP (r0 r13 r14 : DV) (n : Nat) : DV → H → aQ := Nat.rec (motive := λ _ => DV → H → aQ) (λ _ _ => none) (λ _ i => bGG E r0 r13 r14 i) n
def aSD (r0 : DV) (h : H) : aQ := vK (aW r0) λ x1 => vK (bF x1 (ii 2)) λ x2 => aP x2 false (λ kk => kk r0 h) h λ x3 h4 => aP x2 false (λ kk => vK (aW x3) λ v => kk v h4) h4 λ x5 h6 => aP x2 false (λ kk => vK (dA x5 (ii 8)) λ v => kk v h6) h6 λ x7 h8 => vK (aK x2 (.bool true) x7) λ x9 => bK x9 (some ((.bool false), h8)) (vK (aW r0) λ x10 => aHP E r0 r0 x10 aY (ii 0) h8)
theorem bDB : Is E bGd (aZ aEd.res) (λ σ h => aIe E h) := Is.rf
abbrev bCk : fR (DV × H) := (bH 0 (bP (λ σ h => aIe E h) (aZ aEd.res)))
theorem bDA : Is E bGc (bCk E) (λ σ h => aHP E (σ p0) (σ pU) (σ qU) aY (σ p15) h) := Is.lp (λ n2 σ h => aHP E (σ p0) (σ pU) (σ qU) n2 (σ p15) h) λ n2 => Is.aq (Is.leaf _)
theorem bDC : jX E aEd (aSD E) := Is.aq (Is.sq (Is.sq (Is.sq (bDB E) (Is.sq (Is.bk (bDA E)) (Is.leaf _))) (Is.leaf _)) (Is.leaf _))
def aQR : bB := jW (aSD E)
theorem aKI : SQ aEd aQR := kC bDC
def aTG := cm 144
def aSC (E : aX) (r0 r1 r2 : DV) (h : H) : aQ := vK (bL r2 r1) λ x1 => vK (aW r0) λ x2 => vK (aNe x1 x2) λ x3 => some (x3, h)
theorem bDz : iB3 E aTG (aSC E) := Is.rf
def aQQ : bB := fA3 (aSC E)
theorem aKH : SQ aTG aQQ := eB3 bDz
def fs0 : List FD := [⟨5, D5, S5⟩, ⟨8, D8, S8⟩, ⟨9, D9, S9⟩, ⟨10, D10, S10⟩, ⟨12, D12, S12⟩, ⟨13, D13, S13⟩, ⟨14, D14, S14⟩, ⟨15, D15, S15⟩, ⟨17, D17, S17⟩, ⟨18, D18, S18⟩, ⟨19, D19, S19⟩, ⟨20, D20, S20⟩, ⟨21, D21, S21⟩, ⟨22, D22, S22⟩, ⟨23, D23, S23⟩, ⟨25, D25, S25⟩, ⟨26, D26, S26⟩, ⟨27, D27, S27⟩, ⟨28, D28, S28⟩, ⟨29, D29, S29⟩, ⟨30, D30, S30⟩, ⟨31, D31, S31⟩, ⟨33, D33, S33⟩, ⟨34, D34, S34⟩, ⟨35, D35, S35⟩, ⟨36, D36, S36⟩, ⟨37, D37, S37⟩, ⟨39, D39, S39⟩, ⟨40, D40, S40⟩, ⟨41, D41, S41⟩, ⟨42, D42, S42⟩, ⟨43, D43, S43⟩, ⟨44, D44, S44⟩, ⟨45, D45, S45⟩, ⟨46, D46, S46⟩, ⟨47, D47, S47⟩, ⟨48, D48, S48⟩, ⟨49, D49, S49⟩, ⟨50, D50, S50⟩, ⟨51, D51, S51⟩, ⟨52, D52, S52⟩, ⟨53, D53, S53⟩, ⟨54, D54, S54⟩, ⟨55, D55, S55⟩, ⟨56, D56, S56⟩, ⟨57, D57, S57⟩, ⟨58, D58, S58⟩, ⟨59, D59, S59⟩, ⟨60, D60, S60⟩, ⟨61, D61, S61⟩, ⟨62, D62, S62⟩, ⟨63, D63, S63⟩, ⟨65, D65, S65⟩, ⟨66, D66, S66⟩, ⟨67, D67, S67⟩, ⟨68, D68, S68⟩, ⟨69, D69, S69⟩, ⟨70, D70, S70⟩, ⟨71, D71, S71⟩, ⟨72, D72, S72⟩, ⟨73, D73, S73⟩, ⟨74, D74, S74⟩, ⟨75, D75, S75⟩, ⟨76, D76, S76⟩, ⟨77, D77, S77⟩, ⟨78, D78, S78⟩, ⟨79, D79, S79⟩, ⟨80, D80, S80⟩, ⟨81, D81, S81⟩, ⟨82, D82, S82⟩, ⟨83, D83, S83⟩, ⟨84, D84, S84⟩, ⟨85, D85, S85⟩, ⟨86, D86, S86⟩, ⟨87, D87, S87⟩, ⟨88, D88, S88⟩, ⟨89, D89, S89⟩, ⟨90, D90, S90⟩, ⟨91, D91, S91⟩, ⟨92, D92, S92⟩, ⟨93, D93, S93⟩, ⟨94, D94, S94⟩, ⟨95, D95, S95⟩, ⟨96, D96, S96⟩, ⟨97, D97, S97⟩, ⟨100, aTV, aRm⟩, ⟨101, bFH, bCb⟩, ⟨102, aTU, aRl⟩, ⟨103, aEk, aRk⟩, ⟨104, aTT, aRj⟩, ⟨105, aEj, aRi⟩, ⟨106, aEi, aHH⟩, ⟨107, bFG, aBy⟩, ⟨108, bFF, aHG⟩, ⟨109, bFE, aRh⟩, ⟨110, bFD, aRg⟩, ⟨111, aIG, bBZ⟩, ⟨112, bFC, bBY⟩, ⟨113, aEh, aRf⟩, ⟨114, aTS, aGc⟩, ⟨115, aTR, aHF⟩, ⟨116, aEg, aHE⟩, ⟨117, aTQ, aHD⟩, ⟨118, aTP, aHC⟩, ⟨119, aEf, aRe⟩, ⟨120, aIF, aRd⟩, ⟨121, aTO, aRc⟩, ⟨122, aTN, aRb⟩, ⟨123, aTM, aRa⟩, ⟨124, aTL, aQZ⟩, ⟨125, aTK, aQY⟩, ⟨126, aIE, aQX⟩, ⟨129, aID, aQW⟩, ⟨130, aEe, aQV⟩, ⟨131, aTJ, aQU⟩, ⟨135, bFB, bBW⟩, ⟨136, aIC, bBV⟩, ⟨137, bFA, bBU⟩, ⟨138, bFz, bBT⟩, ⟨139, aTI, aQT⟩, ⟨140, aTH, aQS⟩, ⟨141, bFy, bBQ⟩, ⟨142, bFx, bBP⟩, ⟨143, aEd, aQR⟩, ⟨144, aTG, aQQ⟩]
theorem bAc : oK fs0 := ⟨bJY, ⟨bJJ, ⟨bJG, ⟨bCa, ⟨bBX, ⟨bBS, ⟨bBO, ⟨bBN, ⟨bBK, ⟨bBG, ⟨bBE, ⟨bBC, ⟨bBB, ⟨bBz, ⟨bBy, ⟨bBx, ⟨aQr, ⟨aQq, ⟨bBw, ⟨aQp, ⟨bBv, ⟨bBu, ⟨bBt, ⟨bBs, ⟨bBr, ⟨bBq, ⟨bBp, ⟨bBo, ⟨bBn, ⟨aQo, ⟨aQn, ⟨bBm, ⟨bBl, ⟨bBk, ⟨bBj, ⟨aQm, ⟨aQl, ⟨aQk, ⟨aQj, ⟨aQi, ⟨aQh, ⟨aQg, ⟨aQf, ⟨aQe, ⟨bBh, ⟨bBg, ⟨bBf, ⟨bBe, ⟨bBd, ⟨bBc, ⟨aQd, ⟨bBb, ⟨aQc, ⟨bBa, ⟨bAZ, ⟨bAY, ⟨aQb, ⟨aQa, ⟨aPZ, ⟨aPY, ⟨bAX, ⟨bAW, ⟨bAV, ⟨aPX, ⟨aPW, ⟨aPV, ⟨aPU, ⟨aPT, ⟨aPS, ⟨aPR, ⟨aPQ, ⟨aPP, ⟨aPO, ⟨aPN, ⟨aPM, ⟨aPL, ⟨aPK, ⟨aPJ, ⟨bAN, ⟨bAM, ⟨aPI, ⟨bAL, ⟨bAK, ⟨bAJ, ⟨bAI, ⟨aLh, ⟨aWH, ⟨aLg, ⟨aLf, ⟨aLe, ⟨aLd, ⟨aLc, ⟨aWG, ⟨aWF, ⟨aWE, ⟨aWD, ⟨aWC, ⟨aWB, ⟨aLb, ⟨aLa, ⟨aKZ, ⟨aKY, ⟨aKX, ⟨aKW, ⟨aKV, ⟨aKU, ⟨aKT, ⟨aKS, ⟨aKR, ⟨aKQ, ⟨aKP, ⟨aKO, ⟨aKN, ⟨aKM, ⟨aKL, ⟨aWA, ⟨aWz, ⟨aWy, ⟨aWx, ⟨aKK, ⟨aKJ, ⟨aWw, ⟨aWv, ⟨aKI, ⟨aKH, trivial⟩⟩⟩⟩⟩⟩⟩⟩⟩⟩⟩⟩⟩⟩⟩⟩⟩⟩⟩⟩⟩⟩⟩⟩⟩⟩⟩⟩⟩⟩⟩⟩⟩⟩⟩⟩⟩⟩⟩⟩⟩⟩⟩⟩⟩⟩⟩⟩⟩⟩⟩⟩⟩⟩⟩⟩⟩⟩⟩⟩⟩⟩⟩⟩⟩⟩⟩⟩⟩⟩⟩⟩⟩⟩⟩⟩⟩⟩⟩⟩⟩⟩⟩⟩⟩⟩⟩⟩⟩⟩⟩⟩⟩⟩⟩⟩⟩⟩⟩⟩⟩⟩⟩⟩⟩⟩⟩⟩⟩⟩⟩⟩⟩⟩⟩⟩⟩⟩⟩⟩⟩⟩⟩⟩⟩
end Go.Proofs.YthpciaidbgjoeaaGreat
end

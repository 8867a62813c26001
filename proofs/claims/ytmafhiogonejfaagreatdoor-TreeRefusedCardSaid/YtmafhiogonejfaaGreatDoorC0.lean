/- The functions of the program as D's and as plain Lean functions, and that both are the same. No condition. -/
import Derived.KernelRfl
import Derived.Test.YtmafhiogonejfaaGreatDoorDd
set_option linter.unusedVariables false
noncomputable section
namespace Go.Proofs.YtmafhiogonejfaaGreatDoor
open Go.DI
variable (E : bO)
def p0 : Pa := .h
def p1 : Pa := .l p0
def p2 : Pa := .r p0
def p3 : Pa := .l p1
def p4 : Pa := .r p1
def p5 : Pa := .l p2
def p6 : Pa := .r p2
def p7 : Pa := .l p3
def p8 : Pa := .r p3
def p9 : Pa := .l p4
def p10 : Pa := .r p4
def p11 : Pa := .l p5
def p12 : Pa := .r p5
def p13 : Pa := .l p6
def p14 : Pa := .r p6
def p15 : Pa := .l p7
def p16 : Pa := .r p7
def p17 : Pa := .l p8
def p18 : Pa := .r p8
def p19 : Pa := .l p9
def p20 : Pa := .r p9
def p21 : Pa := .l p10
def p22 : Pa := .r p10
def p23 : Pa := .l p11
def p24 : Pa := .r p11
def p25 : Pa := .l p12
def p26 : Pa := .r p12
def p27 : Pa := .l p13
def p28 : Pa := .r p13
def p29 : Pa := .l p14
def p30 : Pa := .r p14
def p31 : Pa := .l p15
def p32 : Pa := .r p15
def p33 : Pa := .l p16
def p34 : Pa := .r p16
def p35 : Pa := .l p17
def p36 : Pa := .r p17
def p37 : Pa := .l p18
def p38 : Pa := .r p18
def p39 : Pa := .l p19
def p40 : Pa := .r p19
def p41 : Pa := .l p20
def p42 : Pa := .r p20
def p43 : Pa := .l p21
def p44 : Pa := .r p21
def p45 : Pa := .l p22
def p46 : Pa := .r p22
def p47 : Pa := .l p23
def p48 : Pa := .r p23
def p49 : Pa := .l p24
def p50 : Pa := .r p24
def p51 : Pa := .l p25
def p52 : Pa := .r p25
def p53 : Pa := .l p26
def p54 : Pa := .r p26
def p55 : Pa := .l p27
def p56 : Pa := .r p27
def p57 : Pa := .l p28
def p58 : Pa := .r p28
def p59 : Pa := .l p29
def p60 : Pa := .r p29
def p61 : Pa := .l p30
def p62 : Pa := .r p30
def p63 : Pa := .l p31
def p64 : Pa := .r p31
def p65 : Pa := .l p32
def p66 : Pa := .r p32
def p67 : Pa := .l p33
def p68 : Pa := .r p33
def p69 : Pa := .l p34
def p70 : Pa := .r p34
def p71 : Pa := .l p35
def p72 : Pa := .r p35
def p73 : Pa := .l p36
def p74 : Pa := .r p36
def p75 : Pa := .l p37
def p76 : Pa := .r p37
def p77 : Pa := .l p38
def p78 : Pa := .r p38
def p79 : Pa := .l p39
def p80 : Pa := .r p39
def p81 : Pa := .l p40
def p82 : Pa := .r p40
def p83 : Pa := .l p41
def p84 : Pa := .r p41
def p85 : Pa := .l p42
def p86 : Pa := .r p42
def p87 : Pa := .l p43
def p88 : Pa := .r p43
def p89 : Pa := .l p44
def p90 : Pa := .r p44
def p91 : Pa := .l p45
def p92 : Pa := .r p45
def p93 : Pa := .l p46
def p94 : Pa := .r p46
def p95 : Pa := .l p47
def p96 : Pa := .r p47
def p97 : Pa := .l p48
def p98 : Pa := .r p48
def p99 : Pa := .l p49
def bIg : Pa := .r p49
def p101 : Pa := .l p50
def bBq : Pa := .r p50
def p103 : Pa := .l p51
def bBp : Pa := .r p51
def bIf : Pa := .l p52
def bIe : Pa := .r p52
def p107 : Pa := .l p53
def p108 : Pa := .r p53
def bBo : Pa := .l p54
def p110 : Pa := .r p54
def p111 : Pa := .l p55
def p112 : Pa := .r p55
def p113 : Pa := .l p56
def bBn : Pa := .r p56
def p115 : Pa := .l p57
def p116 : Pa := .r p57
def p117 : Pa := .l p58
def p118 : Pa := .r p58
def p119 : Pa := .l p59
def p120 : Pa := .r p59
def p121 : Pa := .l p60
def p122 : Pa := .r p60
def p123 : Pa := .l p61
def p124 : Pa := .r p61
def p125 : Pa := .l p62
def p126 : Pa := .r p62
def p127 : Pa := .l p63
def p128 : Pa := .r p63
def p129 : Pa := .l p64
def p130 : Pa := .r p64
def p131 : Pa := .l p65
def p132 : Pa := .r p65
def p133 : Pa := .l p66
def p134 : Pa := .r p66
def p135 : Pa := .l p67
def p136 : Pa := .r p67
def p137 : Pa := .l p68
def p138 : Pa := .r p68
def p139 : Pa := .l p69
def p140 : Pa := .r p69
def p141 : Pa := .l p70
def p142 : Pa := .r p70
def o0 : aT := .r p0
def o1 : aT := .r p1
def o2 : aT := .r p2
def o3 : aT := .r p3
def o4 : aT := .r p4
def o5 : aT := .r p5
def o6 : aT := .r p6
def o7 : aT := .r p7
def o8 : aT := .r p8
def o9 : aT := .r p9
def fS : aT := .r p10
def gE : aT := .r p11
def fV : aT := .r p12
def gN : aT := .r p13
def iU : aT := .r p14
def jO : aT := .r p15
def iC : aT := .r p16
def iT : aT := .r p17
def iH : aT := .r p18
def iQ : aT := .r p19
def jD : aT := .r p20
def iG : aT := .r p21
def kD : aT := .r p22
def iD : aT := .r p23
def iP : aT := .r p24
def kU : aT := .r p25
def lY : aT := .r p26
def lD : aT := .r p27
def lW : aT := .r p28
def mN : aT := .r p29
def mD : aT := .r p30
def oD : aT := .r p31
def lC : aT := .r p32
def mX : aT := .r p33
def mR : aT := .r p34
def rA : aT := .r p35
def mW : aT := .r p36
def pA : aT := .r p37
def tF : aT := .r p38
def rN : aT := .r p39
def qZ : aT := .r p40
def wO : aT := .r p41
def uC : aT := .r p42
def uB : aT := .r p43
def tZ : aT := .r p44
def zV : aT := .r p45
def xY : aT := .r p46
def o47 : aT := .r p47
def o48 : aT := .r p48
def o49 : aT := .r p49
def o50 : aT := .r p50
def o51 : aT := .r p51
def o52 : aT := .r p52
def o53 : aT := .r p53
def o54 : aT := .r p54
def o55 : aT := .r p55
def o56 : aT := .r p56
def o57 : aT := .r p57
def o58 : aT := .r p58
def o59 : aT := .r p59
def o60 : aT := .r p60
def o61 : aT := .r p61
def o62 : aT := .r p62
def o63 : aT := .r p63
def o64 : aT := .r p64
def o65 : aT := .r p65
def o66 : aT := .r p66
def o67 : aT := .r p67
def o68 : aT := .r p68
def o69 : aT := .r p69
def o70 : aT := .r p70
def o71 : aT := .r p71
def o72 : aT := .r p72
def o73 : aT := .r p73
def o74 : aT := .r p74
def o75 : aT := .r p75
def o76 : aT := .r p76
def o77 : aT := .r p77
def o78 : aT := .r p78
def o79 : aT := .r p79
def o80 : aT := .r p80
def o81 : aT := .r p81
def o82 : aT := .r p82
def o83 : aT := .r p83
def o84 : aT := .r p84
def o85 : aT := .r p85
def o86 : aT := .r p86
def o87 : aT := .r p87
def o88 : aT := .r p88
def o89 : aT := .r p89
def o90 : aT := .r p90
def o91 : aT := .r p91
def o92 : aT := .r p92
def o93 : aT := .r p93
def o94 : aT := .r p94
def o95 : aT := .r p95
def o96 : aT := .r p96
def o97 : aT := .r p97
def o98 : aT := .r p98
def o99 : aT := .r p99
def bBJ : aT := .r bIg
def o101 : aT := .r p101
def aUo : aT := .r bBq
def bIz : aT := .r p103
def bBI : aT := .r bBp
def bBH : aT := .r bIf
def bBG : aT := .r bIe
def bBF : aT := .r p107
def bIy : aT := .r p108
def bBE : aT := .r bBo
def bIx : aT := .r p110
def bBD : aT := .r p111
def o112 : aT := .r p112
def bIw : aT := .r p113
def bBC : aT := .r bBn
def bBB : aT := .r p115
def bIv : aT := .r p116
def o117 : aT := .r p117
def o118 : aT := .r p118
def o119 : aT := .r p119
def o121 : aT := .r p121
def o122 : aT := .r p122
def bIu : aT := .r p123
def o124 : aT := .r p124
def o125 : aT := .r p125
def o126 : aT := .r p126
def o127 : aT := .r p127
def o128 : aT := .r p128
def o129 : aT := .r p129
def o130 : aT := .r p130
def o131 : aT := .r p131
def o132 : aT := .r p132
def o133 : aT := .r p133
def o134 : aT := .r p134
def o135 : aT := .r p135
def o136 : aT := .r p136
def bBA : aT := .r p138
def o139 : aT := .r p139
def o140 : aT := .r p140
def o141 : aT := .r p141
def R9 : List RV := [(.r p2)]
def bEH (h : H) : aU := wK (aD E 28 [] h) λ x1 h2 => some (x1, h2)
def C9_1 : DC := (zs 87 [zF 28 [],zT 2 87] .ret)
def bAJ (r0 r3 r4 : DV) (i2 : DV → H → aU) (r5 : DV) (h : H) : aU := vK (bX r0) λ x1 => vK (cT r5 x1) λ x2 => bK x2 (wK (aD E 24 [r3] h) λ x3 h4 => vK (aK 2 h4.get r4) λ x5 => vK (bR 6 r0 r5) λ x6 => vK (aK 6 h4.get x6) λ x7 => eD 2 2 (.list [.nils, (ii 0)]) h4 λ x8 h9 => wK (aD E 29 [r3, x5, x7] h9) λ x10 h11 => vK (aI 0 x10) λ x12 => vK (aI 1 x10) λ x13 => wK (bU 2 x8 x12 h11) λ x14 h15 => vK (kT x13) λ x16 => bE x16 false (λ kk => vK (aK 2 h15.get x8) λ v => kk v h15) h15 λ x17 h18 => bE x16 false (λ kk => vK (aK 2 h18.get r4) λ v => kk v h18) h18 λ x19 h20 => bE x16 false (λ kk => wK (aD E 25 [x17] h20) kk) h20 λ x21 h22 => rK (gB x16 false (rcK (aK 2 h22.get r4) x19)) <| bE x16 false (λ kk => wK (aD E 25 [x19] h22) kk) h22 λ x23 h24 => bE x16 false (λ kk => vK (bV x21 x23) λ v => kk v h24) h24 λ x25 h26 => bE x16 false (λ kk => kk x25 h26) h26 λ x27 h28 => bE x27 true (λ kk => kk r3 h28) h28 λ x29 h30 => bE x27 true (λ kk => kk x3 h30) h30 λ x31 h32 => bE x27 true (λ kk => wK (aD E 24 [x29] h32) kk) h32 λ x33 h34 => bE x27 true (λ kk => vK (dD x33 x31) λ v => kk v h34) h34 λ x35 h36 => bE x16 false (λ kk => vK (aX x27 x35 (.bool false)) λ v => kk v h36) h36 λ x37 h38 => vK (aX x16 (.bool true) x37) λ x39 => bK x39 (some ((.bool false), h38)) (vK (aK 2 h38.get x8) λ x40 => wK (bU 2 r4 x40 h38) λ x41 h42 => wK (aD E 24 [r3] h42) λ x43 h44 => vK (bR 6 r0 r5) λ x45 => vK (aF 3 x45) λ x46 => vK (aG h44.get x46) λ x47 => vK (bR 6 r0 r5) λ x48 => vK (aF 1 x48) λ x49 => vK (aG h44.get x49) λ x50 => vK (bR 6 r0 r5) λ x51 => vK (aF 2 x51) λ x52 => vK (aG h44.get x52) λ x53 => wK (aD E 33 [r3, x47, x50, x53] h44) λ x54 h55 => vK (bR 6 r0 r5) λ x56 => vK (aF 3 x56) λ x57 => vK (aG h55.get x57) λ x58 => wK (aD E 34 [r3, x58] h55) λ x59 h60 => vK (bR 6 r0 r5) λ x61 => vK (aF 3 x61) λ x62 => vK (aG h60.get x62) λ x63 => wK (aD E 35 [r3, x63] h60) λ x64 h65 => wK (aD E 24 [r3] h65) λ x66 h67 => vK (dD x66 x43) λ x68 => bK x68 (some ((.bool false), h67)) (vK (bJ r5 (ii 1)) λ x69 => i2 x69 h67))) (bEH E h)
def aOy (r0 r3 r4 : DV) (n : Nat) : DV → H → aU := Nat.rec (motive := λ _ => DV → H → aU) (λ _ _ => none) (λ _ i => bAJ E r0 r3 r4 i) n
def C9_2 : DC := (.loop (zq (zs 16 [zM 5,zM 0,zX (.lenL iT),zX (.bin .lss iC iH)] (.cond iQ .skip (.exit 0))) (zq (.block 1 (zs 22 [zM 3,zF 24 [kD],zT 6 23] (zq (zd 25 [yA 0 (zM 3),yA 1 (zX (.ldN 2 o4)),yA 2 (zM 0),yA 3 (zM 5),yA 4 (zX (.iaS 6 lD lW)),yA 5 (zX (.ldN 6 mN)),yA 10 (zY 7 (.alc 2 2 (.list [.nils,(.int .i64 (.ofNat 0))]))),yA 6 (zF 29 [kU,lY,mD]),yA 7 (zT 24 31),yA 8 (zX (.ext 0 iP)),yA 9 (zX (.ext 1 iP)),yA 11 (zW (.st 2 o7 lC)),yA 12 (zT 8 33)]) (zq (zq (zd 41 [yA 0 (zT 34 8),yA 1 (zY 35 (.not mR)),yA 2 (zT 36 35),yA 3 (zD ⟨(some p37),(some (p36,false)),(.e (.ldN 2 o7))⟩),yA 5 (zD ⟨(some p39),(some (p36,false)),(.e (.ldN 2 o4))⟩),yB 4 (zD ⟨(some p38),(some (p36,false)),(.c (.f 25 [pA]))⟩) [5] false,yA 6 (zD ⟨(some p40),(some (p36,false)),(.c (.f 25 [rN]))⟩),yA 7 (zG 36 false (.bin .eql tF qZ)),yA 8 (zL 36 false 41),yA 9 (zL 42 true 3),yA 11 (zD ⟨(some p45),(some (p42,true)),(.e (.mv o6))⟩),yA 10 (zD ⟨(some p44),(some (p42,true)),(.c (.f 24 [uB]))⟩),yA 12 (zD ⟨(some p46),(some (p42,true)),(.e (.bin .neq tZ zV))⟩),yA 13 (zD ⟨(some p47),(some (p36,false)),(.e (.pick uC xY (.c (.bool false))))⟩),yA 14 (zY 48 (.pick mW (.c (.bool true)) o47))]) (.cond o48 (zs 2 [zX (.mv (.c (.bool false)))] .ret) .skip)) (zs 49 [zX (.ldN 2 o7),zW (.st 2 o4 o49)] (zs 50 [zM 3,zF 24 [o50],zT 9 51] (zq (zd 52 [yA 0 (zM 3),yA 1 (zM 0),yA 2 (zM 5),yA 3 (zX (.iaS 6 o53 o54)),yA 4 (zX (.fa 3 o55)),yA 5 (zX (.ld o56)),yA 6 (zM 0),yA 7 (zM 5),yA 8 (zX (.iaS 6 o58 o59)),yA 9 (zX (.fa 1 o60)),yA 10 (zX (.ld o61)),yA 11 (zM 0),yA 12 (zM 5),yA 13 (zX (.iaS 6 o63 o64)),yA 14 (zX (.fa 2 o65)),yA 15 (zX (.ld o66)),yA 16 (zF 33 [o52,o57,o62,o67])]) (zs 69 [zM 3,zM 0,zM 5,zX (.iaS 6 o70 o71),zX (.fa 3 o72),zX (.ld o73),zF 34 [o69,o74]] (zs 76 [zM 3,zM 0,zM 5,zX (.iaS 6 o77 o78),zX (.fa 3 o79),zX (.ld o80),zF 35 [o76,o81]] (zs 83 [zM 3,zF 24 [o83],zM 9,zX (.bin .neq o84 o85)] (.cond o86 (zs 2 [zX (.mv (.c (.bool false)))] .ret) .skip))))))))))) (zr 20 [zM 5,zX (.bin .add jD (zk 1)),zT 5 21]))))
def bEI (r0 : DV) (h : H) : aU := wK (aD E 20 [r0] h) λ x1 h2 => vK (bV x1 (ii 0)) λ x3 => bK x3 (wK (aD E 28 [] h2) λ x4 h5 => some (x4, h5)) (wK (aD E 21 [] h2) λ x6 h7 => wK (aD E 22 [] h7) λ x8 h9 => eD 2 2 (.list [.nils, (ii 0)]) h9 λ x10 h11 => wK (bU 2 x10 x8 h11) λ x12 h13 => aOy E r0 x6 x10 aR (ii 0) h13)
def C9_0 : DC := (zs 2 [zX (.mv (.c (.bool false)))] (zq (zs 10 [zM 0,zF 20 [fS],zX (.bin .eql gE (zk 0))] (.cond fV (zs 13 [zF 28 [],zT 2 13] .ret) .skip)) (zs 14 [zF 21 [],zF 22 [],zY 4 (.alc 2 2 (.list [.nils,(.int .i64 (.ofNat 0))])),zT 3 14,zW (.st 2 o4 jO)] (zq (zs 5 [zX (.mv (zk 0))] (.block 0 C9_2)) C9_1))))
theorem I9_1 : Is E C9_1 (bN R9) (λ σ h => bEH E h) := λ σ h => by kernel_rfl
abbrev K9_3 : gS (DV × H) := (bL 0 (cF (λ σ h => bEH E h) (bN R9)))
theorem I9_2 : Is E C9_2 (K9_3 E) (λ σ h => aOy E (σ p0) (σ p3) (σ p4) aR (σ p5) h) := Is.loop (λ n2 σ h => aOy E (σ p0) (σ p3) (σ p4) n2 (σ p5) h) (by kernel_rfl) λ n2 => Is.as (Is.leaf _) λ σ h => by kernel_rfl
theorem I9_0 : oE E C9_0 R9 (bEI E) := Is.as (Is.seq (Is.seq (Is.seq (Is.seq (I9_1 E) (Is.seq (Is.block (I9_2 E)) (Is.leaf _))) (Is.leaf _)) (Is.leaf _)) (Is.leaf _)) λ σ h => by kernel_rfl
def D9 : DF := ⟨1, 88, C9_0, R9⟩
def S9 : cE := oF (bEI E)
theorem bTB : SQ D9 S9 := λ E => oJ (d := D9) (I9_0 E) rfl
def R20 : List RV := [(.r p2)]
def aWY (E : bO) (h : H) : aU := some ((ii 1), h)
def bHM : DC := (zs 2 [zX (.mv (zk 1))] .ret)
def aMK (r0 : DV) (i2 : DV → H → aU) (r3 : DV) (h : H) : aU := vK (bX r0) λ x1 => vK (cT r3 x1) λ x2 => bK x2 (vK (bR 6 r0 r3) λ x3 => vK (aF 3 x3) λ x4 => vK (aG h.get x4) λ x5 => vK (bZ x5) λ x6 => vK (eF x6 (ii 600)) λ x7 => bE x7 false (λ kk => kk r0 h) h λ x8 h9 => bE x7 false (λ kk => kk r3 h9) h9 λ x10 h11 => bE x7 false (λ kk => vK (bR 6 x8 x10) λ v => kk v h11) h11 λ x12 h13 => bE x7 false (λ kk => vK (aF 4 x12) λ v => kk v h13) h13 λ x14 h15 => bE x7 false (λ kk => vK (aG h15.get x14) λ v => kk v h15) h15 λ x16 h17 => bE x7 false (λ kk => vK (bZ x16) λ v => kk v h17) h17 λ x18 h19 => bE x7 false (λ kk => vK (eF x18 (ii 600)) λ v => kk v h19) h19 λ x20 h21 => vK (aX x7 (.bool true) x20) λ x22 => bE x22 false (λ kk => kk r0 h21) h21 λ x23 h24 => bE x22 false (λ kk => kk r3 h24) h24 λ x25 h26 => bE x22 false (λ kk => vK (bR 6 x23 x25) λ v => kk v h26) h26 λ x27 h28 => bE x22 false (λ kk => vK (aF 5 x27) λ v => kk v h28) h28 λ x29 h30 => bE x22 false (λ kk => vK (aG h30.get x29) λ v => kk v h30) h30 λ x31 h32 => bE x22 false (λ kk => vK (bZ x31) λ v => kk v h32) h32 λ x33 h34 => bE x22 false (λ kk => vK (eF x33 (ii 20000)) λ v => kk v h34) h34 λ x35 h36 => vK (aX x22 (.bool true) x35) λ x37 => bK x37 (some ((ii 0), h36)) (vK (bJ r3 (ii 1)) λ x38 => i2 x38 h36)) (aWY E h)
def aHu (r0 : DV) (n : Nat) : DV → H → aU := Nat.rec (motive := λ _ => DV → H → aU) (λ _ _ => none) (λ _ i => aMK E r0 i) n
def bHL : DC := (.loop (zq (zs 7 [zM 3,zM 0,zX (.lenL o8),zX (.bin .lss o7 o9)] (.cond fS .skip (.exit 0))) (zq (.block 1 (zs 13 [zM 0,zM 3,zX (.iaS 6 gN iU),zX (.fa 3 jO),zX (.ld iC),zX (.lenS iT),zX (.bin .gtr iH (zk 600)),zM 19,zL 20 false 0,zL 20 false 3,zG 20 false (.iaS 6 iG kD),zG 20 false (.fa 4 iD),zG 20 false (.ld iP),zG 20 false (.lenS kU),zG 20 false (.bin .gtr lY (zk 600)),zX (.pick jD (.c (.bool true)) lD),zM 28,zL 29 false 0,zL 29 false 3,zG 29 false (.iaS 6 mD oD),zG 29 false (.fa 5 lC),zG 29 false (.ld mX),zG 29 false (.lenS mR),zG 29 false (.bin .gtr rA (zk 20000)),zX (.pick mN (.c (.bool true)) mW)] (.cond pA (zs 2 [zX (.mv (zk 0))] .ret) .skip))) (zr 11 [zM 3,zX (.bin .add gE (zk 1)),zT 3 12]))))
def aRF (r0 : DV) (h : H) : aU := vK (bX r0) λ x1 => vK (eF x1 (ii 60)) λ x2 => bK x2 (some ((ii 0), h)) (aHu E r0 aR (ii 0) h)
def bHN : DC := (zs 2 [zX (.mv (zk 0))] (zq (zs 4 [zM 0,zX (.lenL o4),zX (.bin .gtr o5 (zk 60))] (.cond o6 (zs 2 [zX (.mv (zk 0))] .ret) .skip)) (zq (zs 3 [zX (.mv (zk 0))] (.block 0 bHL)) bHM)))
theorem bXs : Is E bHM (bN R20) (λ σ h => aWY E h) := λ σ h => by kernel_rfl
abbrev bVD : gS (DV × H) := (bL 0 (cF (λ σ h => aWY E h) (bN R20)))
theorem bXr : Is E bHL (bVD E) (λ σ h => aHu E (σ p0) aR (σ p3) h) := Is.loop (λ n2 σ h => aHu E (σ p0) n2 (σ p3) h) (by kernel_rfl) λ n2 => Is.as (Is.leaf _) λ σ h => by kernel_rfl
theorem bXt : oE E bHN R20 (aRF E) := Is.as (Is.seq (Is.seq (Is.seq (bXs E) (Is.seq (Is.block (bXr E)) (Is.leaf _))) (Is.leaf _)) (Is.leaf _)) λ σ h => by kernel_rfl
def D20 : DF := ⟨1, 38, bHN, R20⟩
def S20 : cE := oF (aRF E)
theorem bKt : SQ D20 S20 := λ E => oJ (d := D20) (bXt E) rfl
def R21 : List RV := [(.r p0)]
def bFW (h : H) : aU := vK (eI (zR [(ii 0), .nili] 256 ++ [(ii 0), (ii 0)]) []) λ x1 => eC x1 h λ x2 h3 => vK (aL x2) λ x4 => vK (aF 0 x4) λ x5 => wK (aD E 65 [] h3) λ x6 h7 => vK (eI [.nilp] [(0, 1, x6)]) λ x8 => vK (lO 256 2 x5 (ii 1)) λ x9 => vK (aF 1 x9) λ x10 => wK (bU 1 x10 (.ifc 120 x8) h7) λ x11 h12 => some (x2, h12)
def bHK : DC := (zs 0 [zX (.mv (.c .nilp))] (zs 2 [zX (.bld (zR [(.int .i64 (.ofNat 0)),.nili] 256 ++ [(.int .i64 (.ofNat 0)),(.int .i64 (.ofNat 0))]) []),zX (.box o2),zT 1 3] (zq (zd 4 [yA 0 (zM 1),yA 4 (zY 8 (.nilchk o4)),yA 5 (zY 9 (.fa 0 o8)),yA 1 (zF 65 []),yA 2 (zX (.bld [.nilp] [(0,1,o5)])),yA 3 (zX (.mkI 120 o6)),yA 6 (zY 10 (.iaA 256 2 o9 (zk 1))),yA 7 (zY 11 (.fa 1 fS)),yA 8 (zW (.st 1 gE o7))]) (zs 0 [zT 12 1,zM 12] .ret))))
theorem bXq : iA0 E bHK R21 (bFW E) := λ σ h => by kernel_rfl
def D21 : DF := ⟨0, 13, bHK, R21⟩
def S21 : cE := fA0 (bFW E)
theorem bKs : SQ D21 S21 := λ E => eA0 (d := D21) (bXq E) rfl
def R22 : List RV := [(.cells p0 2)]
def aRE (E : bO) (h : H) : aU := eD 2 2 (.list [.nils, (ii 0)]) h λ x1 h2 => vK (eI [(ii 0), (ii 0), (ii 0), (.str []), .nils] [(0, 1, (ii 1)), (2, 1, (ii 2))]) λ x3 => gO 1 5 [(ii 0), (ii 0), (ii 0), (.str []), .nils] [(0, 5, x3)] h2 λ x4 h5 => vK (eI [.nils, (ii 0)] [(0, 1, x4)]) λ x6 => wK (bU 2 x1 x6 h5) λ x7 h8 => vK (aK 2 h8.get x1) λ x9 => some (x9, h8)
def bHJ : DC := (zs 0 [zX (.alc 2 2 (.list [.nils,(.int .i64 (.ofNat 0))]))] (zs 1 [zX (.bld [(.int .i64 (.ofNat 0)),(.int .i64 (.ofNat 0)),(.int .i64 (.ofNat 0)),(.str []),.nils] [(0,1,(zk 1)),(2,1,(zk 2))]),zX (.bsl 1 5 [(.int .i64 (.ofNat 0)),(.int .i64 (.ofNat 0)),(.int .i64 (.ofNat 0)),(.str []),.nils] [(0,5,o1)]),zX (.bld [.nils,(.int .i64 (.ofNat 0))] [(0,1,o2)]),zW (.st 2 o0 o3)] .ret))
theorem bXp : iA0 E bHJ R22 (aRE E) := λ σ h => by kernel_rfl
def D22 : DF := ⟨0, 4, bHJ, R22⟩
def S22 : cE := fA0 (aRE E)
theorem bKr : SQ D22 S22 := λ E => eA0 (d := D22) (bXp E) rfl
def R24 : List RV := [(.r p2)]
def aRC (E : bO) (r3 : DV) (h : H) : aU := vK (aG h.get r3) λ x1 => vK (mO h.get x1) λ x2 => some (x2, h)
def bHE : DC := (zs 44 [zX (.ld o3),zX (.b2s tZ),zT 2 45] .ret)
def aMs (E : bO) (i5 : DV → H → aU) (r33 : DV) (h : H) : aU := vK (bJ r33 (ii 1)) λ x1 => i5 x1 h
def bHC : DC := (zr 33 [zY 43 (.bin .add mX (zk 1)),zM 43])
def aMI (r3 r4 r32 : DV) (i5 : DV → H → aU) (r33 : DV) (h : H) : aU := vK (cT r33 (ii 256)) λ x1 => bK x1 (vK (xV 256 2 true r32 r33) λ x2 => eD 1 1 (.list [(ii 0)]) h λ x3 h4 => eD 2 2 (.list [(ii 0), .nili]) h4 λ x5 h6 => wK (bU 1 x3 r33 h6) λ x7 h8 => wK (bU 2 x5 x2 h8) λ x9 h10 => vK (aF 1 x5) λ x11 => vK (aG h10.get x11) λ x12 => vK (dT .nilI false h10.get x12 .nili) λ x13 => bK x13 (aMs E i5 r33 h10) (wK (oN E r4 [(.fn (.func 76) [] [x3, x5])] h10) λ x14 h15 => aMs E i5 r33 h15)) (aRC E r3 h)
def aDa (r3 r4 r32 : DV) (n : Nat) : DV → H → aU := Nat.rec (motive := λ _ => DV → H → aU) (λ _ _ => none) (λ _ i => aMI E r3 r4 r32 i) n
def bHD : DC := (.loop (zs 34 [zX (.bin .lss mX (zk 256))] (zq (.cond mR .skip (.exit 2)) (zq (.block 3 (zs 35 [zM 33,zX (.ixA 256 2 true lC mX),zY 8 (.alc 1 1 (.list [(.int .i64 (.ofNat 0))])),zY 9 (.alc 2 2 (.list [(.int .i64 (.ofNat 0)),.nili])),zW (.st 1 o8 rA),zW (.st 2 o9 mW)] (zq (zs 37 [zX (.fa 1 o9),zX (.ld pA),zX (.eqv .nilI false tF (.c .nili))] (.cond rN (.exit 3) .skip)) (zr 40 [zM 4,zX (.mkF (.func 76) [] [o8,o9]),zD ⟨(some p42),none,(.c (.v qZ [wO]))⟩])))) bHC))))
def aMu (r1 r3 r4 r5 : DV) (h : H) : aU := wK (oN E r4 [(.fn (.func 75) [] [r1, r5])] h) λ x1 h2 => vK (aG h2.get r1) λ x3 => vK (aL x3) λ x4 => vK (aF 0 x4) λ x5 => vK (aK 512 h2.get x5) λ x6 => aDa E r3 r4 x6 aR (ii 0) h2
def bHH : DC := (zs 26 [zM 4,zX (.mkF (.func 75) [] [o1,o5]),zD ⟨(some p28),none,(.c (.v lY [lD]))⟩] (zq (zs 29 [zX (.ld o1),zX (.nilchk mN),zX (.fa 0 mD),zX (.ldN 512 oD),zX (.mv (zk 0))] (.block 2 bHD)) bHE))
def aMt (E : bO) (i2 : DV → H → aU) (r17 : DV) (h : H) : aU := vK (bJ r17 (ii 1)) λ x1 => i2 x1 h
def bHF : DC := (zr 17 [zY 25 (.bin .add iT (zk 1)),zM 25])
def aMJ (r1 r3 r4 r5 r16 : DV) (i2 : DV → H → aU) (r17 : DV) (h : H) : aU := vK (cT r17 (ii 256)) λ x1 => bK x1 (vK (xV 256 2 true r16 r17) λ x2 => eD 2 2 (.list [(ii 0), .nili]) h λ x3 h4 => wK (bU 2 x3 x2 h4) λ x5 h6 => vK (aF 1 x3) λ x7 => vK (aG h6.get x7) λ x8 => vK (dT .nilI true h6.get x8 .nili) λ x9 => bK x9 (vK (aG h6.get r5) λ x10 => vK (bJ x10 (ii 1)) λ x11 => wK (bU 1 r5 x11 h6) λ x12 h13 => aMt E i2 r17 h13) (aMt E i2 r17 h6)) (aMu E r1 r3 r4 r5 h)
def aDb (r1 r3 r4 r5 r16 : DV) (n : Nat) : DV → H → aU := Nat.rec (motive := λ _ => DV → H → aU) (λ _ _ => none) (λ _ i => aMJ E r1 r3 r4 r5 r16 i) n
def bHG : DC := (.loop (zs 18 [zX (.bin .lss iT (zk 256))] (zq (.cond iH .skip (.exit 0)) (zq (.block 1 (zs 7 [zY 19 (.ixA 256 2 true iC iT),zX (.alc 2 2 (.list [(.int .i64 (.ofNat 0)),.nili])),zW (.st 2 o7 iQ)] (zs 20 [zX (.fa 1 o7),zX (.ld jD),zX (.eqv .nilI true iG (.c .nili))] (.cond kD (zr 23 [zX (.ld o5),zX (.bin .add iD (zk 1)),zW (.st 1 o5 iP)]) .skip)))) bHF))))
def aRD (r0 : DV) (h : H) : aU := eC r0 h λ x1 h2 => vK (aG h2.get x1) λ x3 => vK (dT .ptr false h2.get x3 .nilp) λ x4 => bK x4 (some ((.str []), h2)) (eD 1 1 (.list [.nils]) h2 λ x5 h6 => eD 1 1 (.list [(ii 0)]) h6 λ x7 h8 => wK (bU 1 x7 (ii 0) h8) λ x9 h10 => vK (aG h10.get x1) λ x11 => vK (aL x11) λ x12 => vK (aF 0 x12) λ x13 => vK (aK 512 h10.get x13) λ x14 => aDb E x1 x5 (.fn (.func 74) [] [x5]) x7 x14 aR (ii 0) h10)
def bHI : DC := (zs 1 [zX (.box o0),zX (.mv (.c (.str [])))] (zq (zs 10 [zX (.ld o1),zX (.eqv .ptr false fS (.c .nilp))] (.cond gE (zs 2 [zX (.mv (.c (.str [])))] .ret) .skip)) (zs 3 [zX (.alc 1 1 (.list [.nils]))] (zs 4 [zY 12 (.mkF (.func 74) [] [o3]),zM 12] (zs 5 [zX (.alc 1 1 (.list [(.int .i64 (.ofNat 0))])),zW (.st 1 o5 (zk 0))] (zq (zs 13 [zX (.ld o1),zX (.nilchk gN),zX (.fa 0 iU),zX (.ldN 512 jO),zX (.mv (zk 0))] (.block 0 bHG)) bHH))))))
theorem bXk : Is E bHE (bN R24) (λ σ h => aRC E (σ p3) h) := λ σ h => by kernel_rfl
abbrev bFM : gS (DV × H) := (cF (λ σ h => aRC E (σ p3) h) (bN R24))
abbrev bVC (n5 : Nat) : gS (DV × H) := (cF (λ σ h => (aDa E (σ p3) (σ p4) (σ p32) n5) (σ p33) h) (bL 2 (bFM E)))
theorem bXi (n5 : Nat) : Is E bHC (bVC E n5) (λ σ h => aMs E (aDa E (σ p3) (σ p4) (σ p32) n5) (σ p33) h) := λ σ h => by kernel_rfl
theorem bXj : Is E bHD (bL 2 (bFM E)) (λ σ h => aDa E (σ p3) (σ p4) (σ p32) aR (σ p33) h) := Is.loop (λ n5 σ h => aDa E (σ p3) (σ p4) (σ p32) n5 (σ p33) h) (by kernel_rfl) λ n5 => Is.as (Is.seq (Is.seq (Is.seq (bXi E n5) (Is.leaf _)) (Is.leaf _)) (Is.leaf _)) λ σ h => by kernel_rfl
theorem bXn : Is E bHH (bN R24) (λ σ h => aMu E (σ p1) (σ p3) (σ p4) (σ p5) h) := Is.as (Is.seq (Is.seq (bXk E) (Is.seq (Is.block (bXj E)) (Is.leaf _))) (Is.leaf _)) λ σ h => by kernel_rfl
abbrev bFL : gS (DV × H) := (cF (λ σ h => aMu E (σ p1) (σ p3) (σ p4) (σ p5) h) (bN R24))
abbrev bKR (n2 : Nat) : gS (DV × H) := (cF (λ σ h => (aDb E (σ p1) (σ p3) (σ p4) (σ p5) (σ p16) n2) (σ p17) h) (bL 0 (bFL E)))
theorem bXl (n2 : Nat) : Is E bHF (bKR E n2) (λ σ h => aMt E (aDb E (σ p1) (σ p3) (σ p4) (σ p5) (σ p16) n2) (σ p17) h) := λ σ h => by kernel_rfl
theorem bXm : Is E bHG (bL 0 (bFL E)) (λ σ h => aDb E (σ p1) (σ p3) (σ p4) (σ p5) (σ p16) aR (σ p17) h) := Is.loop (λ n2 σ h => aDb E (σ p1) (σ p3) (σ p4) (σ p5) (σ p16) n2 (σ p17) h) (by kernel_rfl) λ n2 => Is.as (Is.seq (Is.seq (Is.seq (bXl E n2) (Is.leaf _)) (Is.leaf _)) (Is.leaf _)) λ σ h => by kernel_rfl
theorem bXo : oE E bHI R24 (aRD E) := Is.as (Is.seq (Is.seq (Is.seq (Is.seq (Is.seq (Is.seq (bXn E) (Is.seq (Is.block (bXm E)) (Is.leaf _))) (Is.leaf _)) (Is.leaf _)) (Is.leaf _)) (Is.leaf _)) (Is.leaf _)) λ σ h => by kernel_rfl
def D24 : DF := ⟨1, 46, bHI, R24⟩
def S24 : cE := oF (aRD E)
theorem bKq : SQ D24 S24 := λ E => oJ (d := D24) (bXo E) rfl
def R25 : List RV := [(.r p2)]
def aWW (E : bO) (r3 : DV) (h : H) : aU := some (r3, h)
def bHA : DC := (zs 2 [zT 55 3,zM 55] .ret)
def aMr (E : bO) (i2 : DV → DV → H → aU) (r3 r4 : DV) (h : H) : aU := vK (bJ r4 (ii 1)) λ x1 => i2 r3 x1 h
def bHy : DC := (zr 19 [zM 4,zX (.bin .add iQ (zk 1)),zT 4 20])
def aMH (r1 : DV) (i2 : DV → DV → H → aU) (r3 r4 : DV) (h : H) : aU := vK (aF 0 r1) λ x1 => vK (aG h.get x1) λ x2 => vK (bX x2) λ x3 => vK (cT r4 x3) λ x4 => bK x4 (vK (aF 0 r1) λ x5 => vK (aG h.get x5) λ x6 => vK (bR 5 x6 r4) λ x7 => vK (aK 5 h.get x7) λ x8 => eD 5 5 (.list [(ii 0), (ii 0), (ii 0), (.str []), .nils]) h λ x9 h10 => wK (bU 5 x9 x8 h10) λ x11 h12 => vK (aF 0 x9) λ x13 => vK (aG h12.get x13) λ x14 => vK (aF 1 x9) λ x15 => vK (aG h12.get x15) λ x16 => vK (aF 2 x9) λ x17 => vK (aG h12.get x17) λ x18 => vK (fB .u8 x18) λ x19 => gO 1 1 [(.int .u8 (.ofNat 0))] [(0, 1, x19)] h12 λ x20 h21 => vK (mO h21.get x20) λ x22 => wK (aD E 53 [x14] h21) λ x23 h24 => rK (rcK (mO h24.get x20) x22) <| rK (rcK (aG h24.get x17) x18) <| rK (rcK (aG h24.get x15) x16) <| wK (aD E 53 [x16] h24) λ x25 h26 => rK (rcK (mO h26.get x20) x22) <| rK (rcK (aG h26.get x17) x18) <| vK (bJ x23 x25) λ x27 => vK (bJ x27 x22) λ x28 => vK (bJ r3 x28) λ x29 => vK (aF 2 x9) λ x30 => vK (aG h26.get x30) λ x31 => vK (bV x31 (ii 1)) λ x32 => bK x32 (vK (aF 3 x9) λ x33 => vK (aG h26.get x33) λ x34 => wK (aD E 54 [x34] h26) λ x35 h36 => vK (bJ x29 x35) λ x37 => aMr E i2 x37 r4 h36) (vK (aF 4 x9) λ x38 => vK (aG h26.get x38) λ x39 => wK (aD E 77 [x39] h26) λ x40 h41 => wK (aD E 54 [x40] h41) λ x42 h43 => vK (bJ x29 x42) λ x44 => aMr E i2 x44 r4 h43)) (aWW E r3 h)
def aBd (r1 : DV) (n : Nat) : DV → DV → H → aU := Nat.rec (motive := λ _ => DV → DV → H → aU) (λ _ _ _ => none) (λ _ i => aMH E r1 i) n
def bHz : DC := (.loop (zq (zs 14 [zM 4,zX (.fa 0 o1),zX (.ld jO),zX (.lenL iC),zX (.bin .lss iU iT)] (.cond iH .skip (.exit 0))) (zq (.block 1 (zs 21 [zX (.fa 0 o1),zX (.ld iG),zM 4,zX (.iaS 5 kD iD),zX (.ldN 5 iP),zY 5 (.alc 5 5 (.list [(.int .i64 (.ofNat 0)),(.int .i64 (.ofNat 0)),(.int .i64 (.ofNat 0)),(.str []),.nils])),zW (.st 5 o5 kU)] (zq (zd 26 [yA 0 (zM 3),yA 1 (zX (.fa 0 o5)),yA 2 (zX (.ld lD)),yA 4 (zY 30 (.fa 1 o5)),yA 5 (zY 31 (.ld mD)),yA 8 (zY 34 (.fa 2 o5)),yA 9 (zY 35 (.ld mR)),yA 10 (zY 36 (.conv .u8 rA)),yA 11 (zY 37 (.bsl 1 1 [(.int .u8 (.ofNat 0))] [(0,1,mW)])),yA 12 (zY 38 (.b2s pA)),yB 3 (zF 53 [lW]) [12,9,5] false,yB 6 (zD ⟨(some p32),none,(.c (.f 53 [oD]))⟩) [12,9] false,yA 7 (zY 33 (.bin .add mN lC)),yA 13 (zY 39 (.bin .add mX tF)),yA 14 (zY 40 (.bin .add lY rN)),yB 15 (zT 3 40) [] true]) (zs 41 [zX (.fa 2 o5),zX (.ld wO),zX (.bin .eql uC (zk 1))] (.cond uB (zr 44 [zM 3,zX (.fa 3 o5),zX (.ld zV),zF 54 [xY],zX (.bin .add tZ o47),zT 3 48]) (zr 49 [zM 3,zX (.fa 4 o5),zX (.ld o50),zF 77 [o51],zF 54 [o52],zX (.bin .add o49 o53),zT 3 54])))))) bHy)))
def aRB (r0 : DV) (h : H) : aU := eC r0 h λ x1 h2 => vK (aF 1 x1) λ x3 => vK (aG h2.get x3) λ x4 => vK (aF 0 x1) λ x5 => vK (aG h2.get x5) λ x6 => vK (bX x6) λ x7 => wK (aD E 53 [x4] h2) λ x8 h9 => rK (rcK (aG h9.get x5) x6) <| wK (aD E 53 [x7] h9) λ x10 h11 => vK (bJ x8 x10) λ x12 => aBd E x1 aR x12 (ii 0) h11
def bHB : DC := (zs 1 [zX (.box o0),zX (.mv (.c (.str [])))] (zq (zd 9 [yA 0 (zY 6 (.fa 1 o1)),yA 1 (zY 7 (.ld o6)),yA 3 (zX (.fa 0 o1)),yA 4 (zX (.ld o9)),yA 5 (zX (.lenL fS)),yB 2 (zD ⟨(some p8),none,(.c (.f 53 [o7]))⟩) [4] false,yA 6 (zF 53 [gE]),yA 7 (zX (.bin .add o8 fV)),yA 8 (zT 3 13)]) (zq (zs 4 [zX (.mv (zk 0))] (.block 0 bHz)) bHA)))
theorem bXg : Is E bHA (bN R25) (λ σ h => aWW E (σ p3) h) := λ σ h => by kernel_rfl
abbrev bFK : gS (DV × H) := (cF (λ σ h => aWW E (σ p3) h) (bN R25))
abbrev bVB (n2 : Nat) : gS (DV × H) := (cF (λ σ h => (aBd E (σ p1) n2) (σ p3) (σ p4) h) (bL 0 (bFK E)))
theorem bXe (n2 : Nat) : Is E bHy (bVB E n2) (λ σ h => aMr E (aBd E (σ p1) n2) (σ p3) (σ p4) h) := λ σ h => by kernel_rfl
theorem bXf : Is E bHz (bL 0 (bFK E)) (λ σ h => aBd E (σ p1) aR (σ p3) (σ p4) h) := Is.loop (λ n2 σ h => aBd E (σ p1) n2 (σ p3) (σ p4) h) (by kernel_rfl) λ n2 => Is.as (Is.seq (Is.seq (bXe E n2) (Is.leaf _)) (Is.leaf _)) λ σ h => by kernel_rfl
theorem bXh : oE E bHB R25 (aRB E) := Is.as (Is.seq (Is.seq (Is.seq (bXg E) (Is.seq (Is.block (bXf E)) (Is.leaf _))) (Is.leaf _)) (Is.leaf _)) λ σ h => by kernel_rfl
def D25 : DF := ⟨1, 56, bHB, R25⟩
def S25 : cE := oF (aRB E)
theorem bKp : SQ D25 S25 := λ E => oJ (d := D25) (bXh E) rfl
def R28 : List RV := [(.r p0)]
def bFV (h : H) : aU := wK (aD E 21 [] h) λ x1 h2 => vK (dT .ptr false h2.get x1 .nilp) λ x3 => bK x3 (some ((.bool false), h2)) (wK (aD E 40 [x1, (.str [47, 97])] h2) λ x4 h5 => wK (aD E 41 [x1, (.str [47, 97, 47, 98])] h5) λ x6 h7 => wK (aD E 43 [x1, (.str [47, 97])] h7) λ x8 h9 => wK (aD E 46 [x1, (.str [47, 97, 47, 98]), (ii 2), (.str [120, 121])] h9) λ x10 h11 => wK (aD E 33 [x1, (.str [47, 97, 47, 98]), (ii 1), (ii 9)] h11) λ x12 h13 => vK (aI 0 x12) λ x14 => vK (aI 1 x12) λ x15 => wK (aD E 44 [x1, (.str [47, 97, 47, 98]), (.str [47, 99])] h13) λ x16 h17 => wK (aD E 44 [x1, (.str [47, 97]), (.str [47, 97, 47, 100])] h17) λ x18 h19 => wK (aD E 34 [x1, (.str [47, 99])] h19) λ x20 h21 => vK (aI 0 x20) λ x22 => vK (aI 1 x20) λ x23 => eD 5 5 (.list [(ii 0), (ii 0), (ii 0), (ii 0), (ii 0)]) h21 λ x24 h25 => wK (bU 5 x24 x22 h25) λ x26 h27 => wK (aD E 35 [x1, (.str [47])] h27) λ x28 h29 => vK (aI 0 x28) λ x30 => vK (aI 1 x28) λ x31 => wK (aD E 24 [x1] h29) λ x32 h33 => wK (aD E 78 [x32] h33) λ x34 h35 => vK (aI 0 x34) λ x36 => vK (aI 1 x34) λ x37 => vK (bV x4 (ii 0)) λ x38 => bE x38 true (λ kk => kk x6 h35) h35 λ x39 h40 => bE x38 true (λ kk => vK (bV x39 (ii 0)) λ v => kk v h40) h40 λ x41 h42 => vK (aX x38 x41 (.bool false)) λ x43 => bE x43 true (λ kk => kk x8 h42) h42 λ x44 h45 => bE x43 true (λ kk => vK (bV x44 (ii 14)) λ v => kk v h45) h45 λ x46 h47 => vK (aX x43 x46 (.bool false)) λ x48 => bE x48 true (λ kk => kk x10 h47) h47 λ x49 h50 => bE x48 true (λ kk => vK (bV x49 (ii 0)) λ v => kk v h50) h50 λ x51 h52 => vK (aX x48 x51 (.bool false)) λ x53 => bE x53 true (λ kk => kk x14 h52) h52 λ x54 h55 => bE x53 true (λ kk => vK (bV x54 (.str [0, 120, 121])) λ v => kk v h55) h55 λ x56 h57 => vK (aX x53 x56 (.bool false)) λ x58 => bE x58 true (λ kk => kk x15 h57) h57 λ x59 h60 => bE x58 true (λ kk => vK (bV x59 (ii 0)) λ v => kk v h60) h60 λ x61 h62 => vK (aX x58 x61 (.bool false)) λ x63 => bE x63 true (λ kk => kk x16 h62) h62 λ x64 h65 => bE x63 true (λ kk => vK (bV x64 (ii 0)) λ v => kk v h65) h65 λ x66 h67 => vK (aX x63 x66 (.bool false)) λ x68 => bE x68 true (λ kk => kk x18 h67) h67 λ x69 h70 => bE x68 true (λ kk => vK (bV x69 (ii 1)) λ v => kk v h70) h70 λ x71 h72 => vK (aX x68 x71 (.bool false)) λ x73 => bE x73 true (λ kk => vK (aK 5 h72.get x24) λ v => kk v h72) h72 λ x74 h75 => bE x73 true (λ kk => vK (eI [(ii 0), (ii 0), (ii 0), (ii 0), (ii 0)] [(0, 1, (ii 3)), (1, 1, (ii 2)), (2, 1, (ii 1)), (3, 1, (ii 4)), (4, 1, (ii 1))]) λ v => kk v h75) h75 λ x76 h77 => bE x73 true (λ kk => vK (aDM false (.leaf .int 0 (.leaf .int 1 (.leaf .int 2 (.leaf .int 3 (.leaf .int 4 .nil))))) h77.get x74 x76) λ v => kk v h77) h77 λ x78 h79 => vK (aX x73 x78 (.bool false)) λ x80 => bE x80 true (λ kk => kk x23 h79) h79 λ x81 h82 => bE x80 true (λ kk => vK (bV x81 (ii 0)) λ v => kk v h82) h82 λ x83 h84 => vK (aX x80 x83 (.bool false)) λ x85 => bE x85 true (λ kk => kk x30 h84) h84 λ x86 h87 => bE x85 true (λ kk => gO 2 1 [(.str [])] [(0, 1, (.str [97])), (1, 1, (.str [99]))] h87 kk) h87 λ x88 h89 => bE x85 true (λ kk => wK (aD E 79 [x86, x88] h89) kk) h89 λ x90 h91 => vK (aX x85 x90 (.bool false)) λ x92 => bE x92 true (λ kk => kk x31 h91) h91 λ x93 h94 => bE x92 true (λ kk => vK (bV x93 (ii 0)) λ v => kk v h94) h94 λ x95 h96 => vK (aX x92 x95 (.bool false)) λ x97 => bE x97 true (λ kk => kk x37 h96) h96 λ x98 h99 => bE x97 true (λ kk => vK (bV x98 (ii 0)) λ v => kk v h99) h99 λ x100 h101 => vK (aX x97 x100 (.bool false)) λ x102 => bE x102 true (λ kk => kk x36 h101) h101 λ x103 h104 => bE x102 true (λ kk => wK (aD E 31 [x103] h104) kk) h104 λ x105 h106 => bE x102 true (λ kk => vK (bV x105 (ii 4)) λ v => kk v h106) h106 λ x107 h108 => vK (aX x102 x107 (.bool false)) λ x109 => bE x109 true (λ kk => kk x1 h108) h108 λ x110 h111 => bE x109 true (λ kk => wK (aD E 42 [x110, (.str [47, 97])] h111) kk) h111 λ x112 h113 => bE x109 true (λ kk => vK (bV x112 (ii 12)) λ v => kk v h113) h113 λ x114 h115 => vK (aX x109 x114 (.bool false)) λ x116 => bE x116 true (λ kk => kk x1 h115) h115 λ x117 h118 => bE x116 true (λ kk => wK (aD E 43 [x117, (.str [47, 97])] h118) kk) h118 λ x119 h120 => bE x116 true (λ kk => vK (bV x119 (ii 0)) λ v => kk v h120) h120 λ x121 h122 => vK (aX x116 x121 (.bool false)) λ x123 => some (x123, h122))
def bHx : DC := (zs 0 [zX (.mv (.c (.bool false)))] (zs 16 [zF 21 [],zT 1 16] (zq (zs 17 [zM 1,zX (.eqv .ptr false iT (.c .nilp))] (.cond iH (zs 0 [zX (.mv (.c (.bool false)))] .ret) .skip)) (zs 19 [zM 1,zF 40 [iQ,(.c (.str [47,97]))],zM 1,zF 41 [iG,(.c (.str [47,97,47,98]))],zM 1,zF 43 [iD,(.c (.str [47,97]))],zT 2 20,zT 3 22,zT 4 24] (zs 25 [zM 1,zF 46 [kU,(.c (.str [47,97,47,98])),(zk 2),(.c (.str [120,121]))],zT 5 26] (zs 28 [zM 1,zF 33 [lW,(.c (.str [47,97,47,98])),(zk 1),(zk 9)],zT 27 29,zX (.ext 0 lD),zX (.ext 1 lD),zT 6 30,zT 7 31] (zs 32 [zM 1,zF 44 [lC,(.c (.str [47,97,47,98])),(.c (.str [47,99]))],zT 8 33] (zs 34 [zM 1,zF 44 [mR,(.c (.str [47,97])),(.c (.str [47,97,47,100]))],zT 9 35] (zs 37 [zM 1,zF 34 [pA,(.c (.str [47,99]))],zT 36 38,zX (.ext 0 mW),zX (.ext 1 mW),zY 10 (.alc 5 5 (.list [(.int .i64 (.ofNat 0)),(.int .i64 (.ofNat 0)),(.int .i64 (.ofNat 0)),(.int .i64 (.ofNat 0)),(.int .i64 (.ofNat 0))])),zW (.st 5 fS rN),zT 11 40] (zs 42 [zM 1,zF 35 [uC,(.c (.str [47]))],zT 41 43,zX (.ext 0 wO),zX (.ext 1 wO),zT 12 44,zT 13 45] (zs 47 [zM 1,zF 24 [o47],zF 78 [o48],zT 46 49,zX (.ext 0 xY),zX (.ext 1 xY),zT 14 50,zT 15 51] (zs 52 [zM 2,zX (.bin .eql o52 (zk 0)),zM 53,zL 54 true 3,zG 54 true (.bin .eql o55 (zk 0)),zX (.pick o54 o56 (.c (.bool false))),zM 57,zL 58 true 4,zG 58 true (.bin .eql o59 (zk 14)),zX (.pick o58 o60 (.c (.bool false))),zM 61,zL 62 true 5,zG 62 true (.bin .eql o63 (zk 0)),zX (.pick o62 o64 (.c (.bool false))),zM 65,zL 66 true 6,zG 66 true (.bin .eql o67 (.c (.str [0,120,121]))),zX (.pick o66 o68 (.c (.bool false))),zM 69,zL 70 true 7,zG 70 true (.bin .eql o71 (zk 0)),zX (.pick o70 o72 (.c (.bool false))),zM 73,zL 74 true 8,zG 74 true (.bin .eql o75 (zk 0)),zX (.pick o74 o76 (.c (.bool false))),zM 77,zL 78 true 9,zG 78 true (.bin .eql o79 (zk 1)),zX (.pick o78 o80 (.c (.bool false))),zM 81,zG 82 true (.ldN 5 fS),zG 82 true (.bld [(.int .i64 (.ofNat 0)),(.int .i64 (.ofNat 0)),(.int .i64 (.ofNat 0)),(.int .i64 (.ofNat 0)),(.int .i64 (.ofNat 0))] [(0,1,(zk 3)),(1,1,(zk 2)),(2,1,(zk 1)),(3,1,(zk 4)),(4,1,(zk 1))]),zG 82 true (.eqs false (.leaf .int 0 (.leaf .int 1 (.leaf .int 2 (.leaf .int 3 (.leaf .int 4 .nil))))) o83 o84),zX (.pick o82 o85 (.c (.bool false))),zM 86,zL 87 true 11,zG 87 true (.bin .eql o88 (zk 0)),zX (.pick o87 o89 (.c (.bool false))),zM 90,zL 91 true 12,zG 91 true (.bsl 2 1 [(.str [])] [(0,1,(.c (.str [97]))),(1,1,(.c (.str [99])))]),zD ⟨(some p94),(some (p91,true)),(.c (.f 79 [o92,o93]))⟩,zY 95 (.pick o91 o94 (.c (.bool false))),zT 96 95,zD ⟨(some p97),(some (p96,true)),(.e (.mv gN))⟩,zD ⟨(some p98),(some (p96,true)),(.e (.bin .eql o97 (zk 0)))⟩,zY 99 (.pick o96 o98 (.c (.bool false))),zT 100 99,zD ⟨(some p101),(some (bIg,true)),(.e (.mv jO))⟩,zD ⟨(some bBq),(some (bIg,true)),(.e (.bin .eql o101 (zk 0)))⟩,zY 103 (.pick bBJ aUo (.c (.bool false))),zT 104 103,zD ⟨(some bIf),(some (bBp,true)),(.e (.mv iU))⟩,zD ⟨(some bIe),(some (bBp,true)),(.c (.f 31 [bBH]))⟩,zD ⟨(some p107),(some (bBp,true)),(.e (.bin .eql bBG (zk 4)))⟩,zY 108 (.pick bBI bBF (.c (.bool false))),zT 109 108,zD ⟨(some p110),(some (bBo,true)),(.e (.mv o1))⟩,zD ⟨(some p111),(some (bBo,true)),(.c (.f 42 [bIx,(.c (.str [47,97]))]))⟩,zD ⟨(some p112),(some (bBo,true)),(.e (.bin .eql bBD (zk 12)))⟩,zY 113 (.pick bBE o112 (.c (.bool false))),zT 114 113,zD ⟨(some p115),(some (bBn,true)),(.e (.mv o1))⟩,zD ⟨(some p116),(some (bBn,true)),(.c (.f 43 [bBB,(.c (.str [47,97]))]))⟩,zD ⟨(some p117),(some (bBn,true)),(.e (.bin .eql bIv (zk 0)))⟩,zY 118 (.pick bBC o117 (.c (.bool false))),zT 0 118] .ret))))))))))))
theorem bXd : iA0 E bHx R28 (bFV E) := λ σ h => by kernel_rfl
def D28 : DF := ⟨0, 119, bHx, R28⟩
def S28 : cE := fA0 (bFV E)
theorem bKo : SQ D28 S28 := λ E => eA0 (d := D28) (bXd E) rfl
def R29 : List RV := [(.cells p6 2),(.r p7)]
def sE (E : bO) (r6 r8 r9 r10 : DV) (h : H) : aU := vK (aK 2 h.get r8) λ x1 => vK (bV r10 r9) λ x2 => wK (bU 2 r6 x1 h) λ x3 h4 => vK (aK 2 h4.get r6) λ x5 => some ((.tup [x5, x2]), h4)
def bHv : DC := (zs 138 [zX (.ldN 2 o8),zM 10,zM 9,zX (.bin .eql o139 o140),zW (.st 2 o6 bBA),zT 7 141] .ret)
def aRA (r0 r1 r2 : DV) (h : H) : aU := eC r1 h λ x1 h2 => eC r2 h2 λ x3 h4 => eD 2 2 (.list [.nils, (ii 0)]) h4 λ x5 h6 => vK (aK 2 h6.get x1) λ x7 => eD 2 2 (.list [.nils, (ii 0)]) h6 λ x8 h9 => wK (bU 2 x8 x7 h9) λ x10 h11 => vK (aF 0 x3) λ x12 => vK (aG h11.get x12) λ x13 => vK (bV x13 (ii 1)) λ x14 => bK x14 (vK (aK 2 h11.get x1) λ x15 => vK (aF 3 x3) λ x16 => vK (aG h11.get x16) λ x17 => wK (aD E 66 [x15, x17, (ii 2)] h11) λ x18 h19 => vK (aI 0 x18) λ x20 => vK (aI 1 x18) λ x21 => wK (bU 2 x8 x20 h19) λ x22 h23 => vK (aF 3 x3) λ x24 => vK (aG h23.get x24) λ x25 => wK (aD E 40 [r0, x25] h23) λ x26 h27 => sE E x5 x8 x21 x26 h27) (vK (bV x13 (ii 2)) λ x28 => bK x28 (vK (aK 2 h11.get x1) λ x29 => vK (aF 3 x3) λ x30 => vK (aG h11.get x30) λ x31 => wK (aD E 66 [x29, x31, (ii 1)] h11) λ x32 h33 => vK (aI 0 x32) λ x34 => vK (aI 1 x32) λ x35 => wK (bU 2 x8 x34 h33) λ x36 h37 => vK (aF 3 x3) λ x38 => vK (aG h37.get x38) λ x39 => wK (aD E 41 [r0, x39] h37) λ x40 h41 => sE E x5 x8 x35 x40 h41) (vK (bV x13 (ii 3)) λ x42 => bK x42 (vK (aK 2 h11.get x1) λ x43 => vK (aF 3 x3) λ x44 => vK (aG h11.get x44) λ x45 => wK (aD E 67 [x43, x45] h11) λ x46 h47 => vK (aI 0 x46) λ x48 => vK (aI 1 x46) λ x49 => wK (bU 2 x8 x48 h47) λ x50 h51 => vK (aF 3 x3) λ x52 => vK (aG h51.get x52) λ x53 => wK (aD E 42 [r0, x53] h51) λ x54 h55 => sE E x5 x8 x49 x54 h55) (vK (bV x13 (ii 4)) λ x56 => bK x56 (vK (aK 2 h11.get x1) λ x57 => vK (aF 3 x3) λ x58 => vK (aG h11.get x58) λ x59 => wK (aD E 68 [x57, x59] h11) λ x60 h61 => vK (aI 0 x60) λ x62 => vK (aI 1 x60) λ x63 => wK (bU 2 x8 x62 h61) λ x64 h65 => vK (aF 3 x3) λ x66 => vK (aG h65.get x66) λ x67 => wK (aD E 43 [r0, x67] h65) λ x68 h69 => sE E x5 x8 x63 x68 h69) (vK (bV x13 (ii 5)) λ x70 => bK x70 (vK (aK 2 h11.get x1) λ x71 => vK (aF 3 x3) λ x72 => vK (aG h11.get x72) λ x73 => vK (aF 4 x3) λ x74 => vK (aG h11.get x74) λ x75 => wK (aD E 69 [x71, x73, x75] h11) λ x76 h77 => vK (aI 0 x76) λ x78 => vK (aI 1 x76) λ x79 => wK (bU 2 x8 x78 h77) λ x80 h81 => vK (aF 3 x3) λ x82 => vK (aG h81.get x82) λ x83 => vK (aF 4 x3) λ x84 => vK (aG h81.get x84) λ x85 => wK (aD E 44 [r0, x83, x85] h81) λ x86 h87 => sE E x5 x8 x79 x86 h87) (vK (bV x13 (ii 6)) λ x88 => bK x88 (vK (aK 2 h11.get x1) λ x89 => vK (aF 3 x3) λ x90 => vK (aG h11.get x90) λ x91 => vK (aF 4 x3) λ x92 => vK (aG h11.get x92) λ x93 => wK (aD E 70 [x89, x91, x93] h11) λ x94 h95 => vK (aI 0 x94) λ x96 => vK (aI 1 x94) λ x97 => wK (bU 2 x8 x96 h95) λ x98 h99 => vK (aF 3 x3) λ x100 => vK (aG h99.get x100) λ x101 => vK (aF 4 x3) λ x102 => vK (aG h99.get x102) λ x103 => wK (aD E 45 [r0, x101, x103] h99) λ x104 h105 => sE E x5 x8 x97 x104 h105) (vK (bV x13 (ii 7)) λ x106 => bK x106 (vK (aK 2 h11.get x1) λ x107 => vK (aF 3 x3) λ x108 => vK (aG h11.get x108) λ x109 => vK (aF 1 x3) λ x110 => vK (aG h11.get x110) λ x111 => vK (aF 5 x3) λ x112 => vK (aG h11.get x112) λ x113 => wK (aD E 71 [x107, x109, x111, x113] h11) λ x114 h115 => vK (aI 0 x114) λ x116 => vK (aI 1 x114) λ x117 => wK (bU 2 x8 x116 h115) λ x118 h119 => vK (aF 3 x3) λ x120 => vK (aG h119.get x120) λ x121 => vK (aF 1 x3) λ x122 => vK (aG h119.get x122) λ x123 => vK (aF 5 x3) λ x124 => vK (aG h119.get x124) λ x125 => wK (aD E 46 [r0, x121, x123, x125] h119) λ x126 h127 => sE E x5 x8 x117 x126 h127) (vK (bV x13 (ii 8)) λ x128 => bK x128 (vK (aK 2 h11.get x1) λ x129 => vK (aF 3 x3) λ x130 => vK (aG h11.get x130) λ x131 => vK (aF 2 x3) λ x132 => vK (aG h11.get x132) λ x133 => wK (aD E 72 [x129, x131, x133] h11) λ x134 h135 => vK (aI 0 x134) λ x136 => vK (aI 1 x134) λ x137 => wK (bU 2 x8 x136 h135) λ x138 h139 => vK (aF 3 x3) λ x140 => vK (aG h139.get x140) λ x141 => vK (aF 2 x3) λ x142 => vK (aG h139.get x142) λ x143 => wK (aD E 47 [r0, x141, x143] h139) λ x144 h145 => sE E x5 x8 x137 x144 h145) (sE E x5 x8 (ii 0) (ii 0) h11))))))))
def bHw : DC := (zs 4 [zX (.box o1),zX (.box o2),zX (.alc 2 2 (.list [.nils,(.int .i64 (.ofNat 0))])),zX (.mv (.c (.bool false)))] (zs 8 [zY 11 (.ldN 2 o4),zX (.alc 2 2 (.list [.nils,(.int .i64 (.ofNat 0))])),zW (.st 2 o8 gE),zX (.mv (zk 0)),zX (.mv (zk 0))] (zq (zs 12 [zX (.fa 0 o5),zX (.ld fV)] (.block 0 (zs 14 [zY 15 (.bin .eql gN (zk 1)),zM 15] (.cond iU (zs 17 [zX (.ldN 2 o4),zX (.fa 3 o5),zX (.ld iH),zF 66 [iT,iQ,(zk 2)],zT 16 20,zX (.ext 0 iC),zX (.ext 1 iC),zW (.st 2 o8 iG),zT 9 22] (zr 23 [zM 0,zX (.fa 3 o5),zX (.ld iP),zF 40 [iD,kU],zT 10 26])) (zs 27 [zY 28 (.bin .eql gN (zk 2)),zM 28] (.cond lD (zs 30 [zX (.ldN 2 o4),zX (.fa 3 o5),zX (.ld oD),zF 66 [mD,lC,(zk 1)],zT 29 33,zX (.ext 0 mN),zX (.ext 1 mN),zW (.st 2 o8 mR),zT 9 35] (zr 36 [zM 0,zX (.fa 3 o5),zX (.ld pA),zF 41 [mW,tF],zT 10 39])) (zs 40 [zY 41 (.bin .eql gN (zk 3)),zM 41] (.cond qZ (zs 43 [zX (.ldN 2 o4),zX (.fa 3 o5),zX (.ld tZ),zF 67 [uB,zV],zT 42 46,zX (.ext 0 uC),zX (.ext 1 uC),zW (.st 2 o8 o47),zT 9 48] (zr 49 [zM 0,zX (.fa 3 o5),zX (.ld o50),zF 42 [o49,o51],zT 10 52])) (zs 53 [zY 54 (.bin .eql gN (zk 4)),zM 54] (.cond o53 (zs 56 [zX (.ldN 2 o4),zX (.fa 3 o5),zX (.ld o57),zF 68 [o56,o58],zT 55 59,zX (.ext 0 o55),zX (.ext 1 o55),zW (.st 2 o8 o60),zT 9 61] (zr 62 [zM 0,zX (.fa 3 o5),zX (.ld o63),zF 43 [o62,o64],zT 10 65])) (zs 66 [zY 67 (.bin .eql gN (zk 5)),zM 67] (.cond o66 (zs 69 [zX (.ldN 2 o4),zX (.fa 3 o5),zX (.ld o70),zX (.fa 4 o5),zX (.ld o72),zF 69 [o69,o71,o73],zT 68 74,zX (.ext 0 o68),zX (.ext 1 o68),zW (.st 2 o8 o75),zT 9 76] (zr 77 [zM 0,zX (.fa 3 o5),zX (.ld o78),zX (.fa 4 o5),zX (.ld o80),zF 44 [o77,o79,o81],zT 10 82])) (zs 83 [zY 84 (.bin .eql gN (zk 6)),zM 84] (.cond o83 (zs 86 [zX (.ldN 2 o4),zX (.fa 3 o5),zX (.ld o87),zX (.fa 4 o5),zX (.ld o89),zF 70 [o86,o88,o90],zT 85 91,zX (.ext 0 o85),zX (.ext 1 o85),zW (.st 2 o8 o92),zT 9 93] (zr 94 [zM 0,zX (.fa 3 o5),zX (.ld o95),zX (.fa 4 o5),zX (.ld o97),zF 45 [o94,o96,o98],zT 10 99])) (zs 100 [zY 101 (.bin .eql gN (zk 7)),zM 101] (.cond bBJ (zs 103 [zX (.ldN 2 o4),zX (.fa 3 o5),zX (.ld bBI),zX (.fa 1 o5),zX (.ld bBG),zX (.fa 5 o5),zX (.ld bIy),zF 71 [bIz,bBH,bBF,bBE],zT 102 110,zX (.ext 0 aUo),zX (.ext 1 aUo),zW (.st 2 o8 bBD),zT 9 112] (zr 113 [zM 0,zX (.fa 3 o5),zX (.ld bBC),zX (.fa 1 o5),zX (.ld bIv),zX (.fa 5 o5),zX (.ld o118),zF 46 [bIw,bBB,o117,o119],zT 10 120])) (zs 121 [zY 122 (.bin .eql gN (zk 8)),zM 122] (.cond o121 (zs 124 [zX (.ldN 2 o4),zX (.fa 3 o5),zX (.ld o125),zX (.fa 2 o5),zX (.ld o127),zF 72 [o124,o126,o128],zT 123 129,zX (.ext 0 bIu),zX (.ext 1 bIu),zW (.st 2 o8 o130),zT 9 131] (zr 132 [zM 0,zX (.fa 3 o5),zX (.ld o133),zX (.fa 2 o5),zX (.ld o135),zF 47 [o132,o134,o136],zT 10 137])) .skip)))))))))))))))))) bHv)))
theorem bXb : Is E bHv (bN R29) (λ σ h => sE E (σ p6) (σ p8) (σ p9) (σ p10) h) := λ σ h => by kernel_rfl
theorem bXc : iA3 E bHw R29 (aRA E) := Is.as (Is.seq (Is.seq (Is.seq (bXb E) (Is.leaf _)) (Is.leaf _)) (Is.leaf _)) λ σ h => by kernel_rfl
def D29 : DF := ⟨3, 142, bHw, R29⟩
def S29 : cE := fA3 (aRA E)
theorem bKn : SQ D29 S29 := λ E => eA3 (d := D29) (bXc E) rfl
def R31 : List RV := [(.r p2)]
def bFU (E : bO) (r0 : DV) (h : H) : aU := vK (dT .ptr false h.get r0 .nilp) λ x1 => bK x1 (some ((ii 0), h)) (vK (aL r0) λ x2 => vK (aF 513 x2) λ x3 => vK (aG h.get x3) λ x4 => some (x4, h))
def bHu : DC := (zs 2 [zX (.mv (zk 0))] (zq (zs 3 [zM 0,zX (.eqv .ptr false o3 (.c .nilp))] (.cond o4 (zs 2 [zX (.mv (zk 0))] .ret) .skip)) (zs 5 [zM 0,zX (.nilchk o5),zX (.fa 513 o6),zX (.ld o7),zT 2 8] .ret)))
theorem bXa : oE E bHu R31 (bFU E) := λ σ h => by kernel_rfl
def D31 : DF := ⟨1, 9, bHu, R31⟩
def S31 : cE := oF (bFU E)
theorem bKm : SQ D31 S31 := λ E => oJ (d := D31) (bXa E) rfl
def R32 : List RV := [(.r p2)]
def aRy (E : bO) (r3 : DV) (h : H) : aU := some (r3, h)
def bHs : DC := (zs 2 [zT 21 3,zM 21] .ret)
def aMG (r1 : DV) (i2 : DV → DV → H → aU) (r3 r4 : DV) (h : H) : aU := vK (aF 0 r1) λ x1 => vK (aG h.get x1) λ x2 => vK (bX x2) λ x3 => vK (cT r4 x3) λ x4 => bK x4 (vK (aF 0 r1) λ x5 => vK (aG h.get x5) λ x6 => vK (bR 5 x6 r4) λ x7 => vK (aF 3 x7) λ x8 => vK (aG h.get x8) λ x9 => vK (bZ x9) λ x10 => vK (bJ r3 x10) λ x11 => vK (bJ r4 (ii 1)) λ x12 => i2 x11 x12 h) (aRy E r3 h)
def aFh (r1 : DV) (n : Nat) : DV → DV → H → aU := Nat.rec (motive := λ _ => DV → DV → H → aU) (λ _ _ _ => none) (λ _ i => aMG E r1 i) n
def bHr : DC := (.loop (zq (zs 5 [zM 4,zX (.fa 0 o1),zX (.ld o6),zX (.lenL o7),zX (.bin .lss o5 o8)] (.cond o9 .skip (.exit 0))) (zq (.block 1 (zr 12 [zM 3,zX (.fa 0 o1),zX (.ld gN),zM 4,zX (.iaS 5 iU jO),zX (.fa 3 iC),zX (.ld iT),zX (.lenS iH),zX (.bin .add fV iQ),zT 3 20])) (zr 10 [zM 4,zX (.bin .add fS (zk 1)),zT 4 11]))))
def aRz (r0 : DV) (h : H) : aU := eC r0 h λ x1 h2 => aFh E x1 aR (ii 0) (ii 0) h2
def bHt : DC := (zs 1 [zX (.box o0),zX (.mv (zk 0))] (zs 3 [zX (.mv (zk 0))] (zq (zs 4 [zX (.mv (zk 0))] (.block 0 bHr)) bHs)))
theorem bWY : Is E bHs (bN R32) (λ σ h => aRy E (σ p3) h) := λ σ h => by kernel_rfl
abbrev bVA : gS (DV × H) := (cF (λ σ h => aRy E (σ p3) h) (bN R32))
theorem bWX : Is E bHr (bL 0 (bVA E)) (λ σ h => aFh E (σ p1) aR (σ p3) (σ p4) h) := Is.loop (λ n2 σ h => aFh E (σ p1) n2 (σ p3) (σ p4) h) (by kernel_rfl) λ n2 => Is.as (Is.leaf _) λ σ h => by kernel_rfl
theorem bWZ : oE E bHt R32 (aRz E) := Is.as (Is.seq (Is.seq (Is.seq (bWY E) (Is.seq (Is.block (bWX E)) (Is.leaf _))) (Is.leaf _)) (Is.leaf _)) λ σ h => by kernel_rfl
def D32 : DF := ⟨1, 22, bHt, R32⟩
def S32 : cE := oF (aRz E)
theorem bKl : SQ D32 S32 := λ E => oJ (d := D32) (bWZ E) rfl
def R33 : List RV := [(.r p8),(.r p9)]
def aRx (r0 r1 r2 r3 : DV) (h : H) : aU := wK (aD E 83 [r0, r1] h) λ x1 h2 => vK (aI 0 x1) λ x3 => vK (aI 1 x1) λ x4 => vK (dD x4 (ii 0)) λ x5 => bK x5 (some ((.tup [(.str []), x4]), h2)) (wK (aD E 84 [x3, r2, r3] h2) λ x6 h7 => vK (aI 0 x6) λ x8 => vK (aI 1 x6) λ x9 => some ((.tup [x8, x9]), h7))
def bHq : DC := (zs 8 [zX (.mv (.c (.str []))),zX (.mv (zk 0))] (zs 13 [zM 0,zM 1,zF 83 [gN,iU],zT 12 15,zX (.ext 0 fV),zX (.ext 1 fV),zT 10 16,zT 11 17] (zq (zs 18 [zM 11,zX (.bin .neq iH (zk 0))] (.cond iQ (zs 8 [zT 20 11,zX (.mv (.c (.str []))),zM 20] .ret) .skip)) (zs 21 [zM 10,zM 2,zM 3,zF 84 [iG,kD,iD],zX (.ext 0 iP),zX (.ext 1 iP),zT 8 25,zT 9 26] .ret))))
theorem bWW : iA4 E bHq R33 (aRx E) := λ σ h => by kernel_rfl
def D33 : DF := ⟨4, 27, bHq, R33⟩
def S33 : cE := fA4 (aRx E)
theorem bKk : SQ D33 S33 := λ E => eA4 (d := D33) (bWW E) rfl
def R34 : List RV := [(.cells p4 5),(.r p5)]
def aMq (E : bO) (r4 r9 : DV) (h : H) : aU := vK (aK 5 h.get r9) λ x1 => wK (bU 5 r4 x1 h) λ x2 h3 => vK (aK 5 h3.get r4) λ x4 => some ((.tup [x4, (ii 0)]), h3)
def bHo : DC := (zs 5 [zY 47 (.ldN 5 o9),zW (.st 5 o4 o47),zX (.mv (zk 0))] .ret)
def aRw (r0 r1 : DV) (h : H) : aU := eD 5 5 (.list [(ii 0), (ii 0), (ii 0), (ii 0), (ii 0)]) h λ x1 h2 => wK (aD E 85 [r0, r1] h2) λ x3 h4 => vK (aI 0 x3) λ x5 => vK (aI 1 x3) λ x6 => vK (dD x6 (ii 0)) λ x7 => bK x7 (vK (eI [(ii 0), (ii 0), (ii 0), (ii 0), (ii 0)] []) λ x8 => wK (bU 5 x1 x8 h4) λ x9 h10 => vK (aK 5 h10.get x1) λ x11 => some ((.tup [x11, x6]), h10)) (vK (aL r0) λ x12 => vK (aF 0 x12) λ x13 => vK (lO 256 2 x13 x5) λ x14 => vK (aK 2 h4.get x14) λ x15 => eD 2 2 (.list [(ii 0), .nili]) h4 λ x16 h17 => wK (bU 2 x16 x15 h17) λ x18 h19 => vK (aF 0 x16) λ x20 => vK (aG h19.get x20) λ x21 => vK (aF 1 x16) λ x22 => vK (aG h19.get x22) λ x23 => vK (aF 1 x16) λ x24 => vK (aG h19.get x24) λ x25 => eD 5 5 (.list [(ii 0), (ii 0), (ii 0), (ii 0), (ii 0)]) h19 λ x26 h27 => wK (vJ E [(120, 217), (141, 221)] x23 [] h27) λ x28 h29 => rK (rcK (aG h29.get x24) x25) <| rK (rcK (aG h29.get x20) x21) <| wK (vJ E [(120, 218), (141, 222)] x25 [] h29) λ x30 h31 => rK (rcK (aG h31.get x20) x21) <| vK (eI [(ii 0), (ii 0), (ii 0), (ii 0), (ii 0)] [(0, 1, x5), (1, 1, x21), (2, 1, x28), (3, 1, x30), (4, 1, (ii 1))]) λ x32 => wK (bU 5 x26 x32 h31) λ x33 h34 => wK (aD E 86 [r0, x5] h34) λ x35 h36 => vK (dT .ptr true h36.get x35 .nilp) λ x37 => bK x37 (vK (aL x35) λ x38 => vK (aF 1 x38) λ x39 => vK (aG h36.get x39) λ x40 => vK (aF 4 x26) λ x41 => wK (bU 1 x41 x40 h36) λ x42 h43 => aMq E x1 x26 h43) (aMq E x1 x26 h36))
def bHp : DC := (zs 4 [zX (.alc 5 5 (.list [(.int .i64 (.ofNat 0)),(.int .i64 (.ofNat 0)),(.int .i64 (.ofNat 0)),(.int .i64 (.ofNat 0)),(.int .i64 (.ofNat 0))])),zX (.mv (zk 0))] (zs 12 [zM 0,zM 1,zF 85 [fV,gN],zT 11 14,zX (.ext 0 gE),zX (.ext 1 gE),zT 6 15,zT 7 16] (zq (zs 17 [zM 7,zX (.bin .neq iT (zk 0))] (.cond iH (zs 19 [zX (.bld [(.int .i64 (.ofNat 0)),(.int .i64 (.ofNat 0)),(.int .i64 (.ofNat 0)),(.int .i64 (.ofNat 0)),(.int .i64 (.ofNat 0))] []),zM 7,zW (.st 5 o4 iQ),zT 5 20] .ret) .skip)) (zs 21 [zM 0,zM 6,zX (.nilchk iG),zX (.fa 0 iD),zX (.iaA 256 2 iP kD),zX (.ldN 2 kU),zY 8 (.alc 2 2 (.list [(.int .i64 (.ofNat 0)),.nili])),zW (.st 2 o8 lY)] (zq (zd 27 [yA 0 (zM 6),yA 1 (zX (.fa 0 o8)),yA 2 (zX (.ld lW)),yA 3 (zX (.fa 1 o8)),yA 4 (zX (.ld mD)),yA 6 (zY 33 (.fa 1 o8)),yA 7 (zY 34 (.ld mX)),yA 10 (zY 9 (.alc 5 5 (.list [(.int .i64 (.ofNat 0)),(.int .i64 (.ofNat 0)),(.int .i64 (.ofNat 0)),(.int .i64 (.ofNat 0)),(.int .i64 (.ofNat 0))]))),yB 5 (zD ⟨(some p32),none,(.c (.m [(120,217),(141,221)] oD []))⟩) [7,2] false,yB 8 (zD ⟨(some p35),none,(.c (.m [(120,218),(141,222)] mR []))⟩) [2] false,yA 9 (zY 36 (.bld [(.int .i64 (.ofNat 0)),(.int .i64 (.ofNat 0)),(.int .i64 (.ofNat 0)),(.int .i64 (.ofNat 0)),(.int .i64 (.ofNat 0))] [(0,1,lD),(1,1,mN),(2,1,lC),(3,1,rA),(4,1,(zk 1))])),yA 11 (zW (.st 5 o9 mW))]) (zq (zs 37 [zM 0,zM 6,zF 86 [pA,tF],zT 10 39] (zs 40 [zM 10,zX (.eqv .ptr true qZ (.c .nilp))] (.cond wO (zr 42 [zM 10,zX (.nilchk uC),zX (.fa 1 uB),zX (.ld tZ),zX (.fa 4 o9),zW (.st 1 xY zV)]) .skip))) bHo))))))
theorem bWU : Is E bHo (bN R34) (λ σ h => aMq E (σ p4) (σ p9) h) := λ σ h => by kernel_rfl
theorem bWV : nK E bHp R34 (aRw E) := Is.as (Is.seq (Is.seq (Is.seq (Is.seq (Is.seq (Is.seq (bWU E) (Is.leaf _)) (Is.leaf _)) (Is.leaf _)) (Is.leaf _)) (Is.leaf _)) (Is.leaf _)) λ σ h => by kernel_rfl
def D34 : DF := ⟨2, 48, bHp, R34⟩
def S34 : cE := nL (aRw E)
theorem bKj : SQ D34 S34 := λ E => nY (d := D34) (bWV E) rfl
def R35 : List RV := [(.r p4),(.r p5)]
def aRv (r0 r1 : DV) (h : H) : aU := wK (aD E 85 [r0, r1] h) λ x1 h2 => vK (aI 0 x1) λ x3 => vK (aI 1 x1) λ x4 => vK (dD x4 (ii 0)) λ x5 => bK x5 (some ((.tup [.nils, x4]), h2)) (wK (aD E 87 [r0, x3] h2) λ x6 h7 => vK (dT .ptr false h7.get x6 .nilp) λ x8 => bK x8 (some ((.tup [.nils, (ii 13)]), h7)) (wK (aD E 88 [x6] h7) λ x9 h10 => some ((.tup [x9, (ii 0)]), h10)))
def bHn : DC := (zs 4 [zX (.mv (.c .nils)),zX (.mv (zk 0))] (zs 10 [zM 0,zM 1,zF 85 [fS,gE],zT 9 12,zX (.ext 0 o9),zX (.ext 1 o9),zT 6 13,zT 7 14] (zq (zs 15 [zM 7,zX (.bin .neq jO (zk 0))] (.cond iC (zs 4 [zT 17 7,zX (.mv (.c .nils)),zM 17] .ret) .skip)) (zs 18 [zM 0,zM 6,zF 87 [iH,iQ],zT 8 20] (zq (zs 21 [zM 8,zX (.eqv .ptr false iG (.c .nilp))] (.cond kD (zs 4 [zX (.mv (.c .nils)),zX (.mv (zk 13))] .ret) .skip)) (zs 23 [zM 8,zF 88 [iD],zT 4 24,zY 5 (.mv (zk 0))] .ret))))))
theorem bWT : nK E bHn R35 (aRv E) := λ σ h => by kernel_rfl
def D35 : DF := ⟨2, 25, bHn, R35⟩
def S35 : cE := nL (aRv E)
theorem bKi : SQ D35 S35 := λ E => nY (d := D35) (bWT E) rfl
def R40 : List RV := [(.r p4)]
def aRu (r0 r1 : DV) (h : H) : aU := wK (aD E 65 [] h) λ x1 h2 => vK (eI [.nilp] [(0, 1, x1)]) λ x3 => wK (aD E 94 [r0, r1, (.ifc 120 x3)] h2) λ x4 h5 => some (x4, h5)
def bHm : DC := (zs 4 [zX (.mv (zk 0))] (zs 5 [zM 0,zM 1,zF 65 [],zX (.bld [.nilp] [(0,1,o7)]),zX (.mkI 120 o8),zF 94 [o5,o6,o9],zT 4 10] .ret))
theorem bWS : nK E bHm R40 (aRu E) := λ σ h => by kernel_rfl
def D40 : DF := ⟨2, 11, bHm, R40⟩
def S40 : cE := nL (aRu E)
theorem bKh : SQ D40 S40 := λ E => nY (d := D40) (bWS E) rfl
def R41 : List RV := [(.r p4)]
def aRt (r0 r1 : DV) (h : H) : aU := vK (eI [(.str []), (ii 0)] [(1, 1, (ii 1))]) λ x1 => eC x1 h λ x2 h3 => wK (aD E 94 [r0, r1, (.ifc 141 x2)] h3) λ x4 h5 => some (x4, h5)
def bHl : DC := (zs 4 [zX (.mv (zk 0))] (zs 5 [zM 0,zM 1,zX (.bld [(.str []),(.int .i64 (.ofNat 0))] [(1,1,(zk 1))]),zX (.box o7),zX (.mkI 141 o8),zF 94 [o5,o6,o9],zT 4 10] .ret))
theorem bWR : nK E bHl R41 (aRt E) := λ σ h => by kernel_rfl
def D41 : DF := ⟨2, 11, bHl, R41⟩
def S41 : cE := nL (aRt E)
theorem bKg : SQ D41 S41 := λ E => nY (d := D41) (bWR E) rfl
def R42 : List RV := [(.r p4)]
def aWV (E : bO) (h : H) : aU := some ((ii 0), h)
def bHj : DC := (zs 4 [zX (.mv (zk 0))] .ret)
def aRs (r0 r1 : DV) (h : H) : aU := wK (aD E 85 [r0, r1] h) λ x1 h2 => vK (aI 0 x1) λ x3 => vK (aI 1 x1) λ x4 => vK (dD x4 (ii 0)) λ x5 => bK x5 (some (x4, h2)) (wK (aD E 86 [r0, x3] h2) λ x6 h7 => vK (dT .ptr false h7.get x6 .nilp) λ x8 => bK x8 (some ((ii 12), h7)) (wK (aD E 95 [r0, r1] h7) λ x9 h10 => vK (aI 0 x9) λ x11 => vK (aI 1 x9) λ x12 => eD 2 2 (.list [.nilp, (.str [])]) h10 λ x13 h14 => wK (bU 2 x13 x11 h14) λ x15 h16 => vK (aF 0 x13) λ x17 => vK (aG h16.get x17) λ x18 => vK (aF 1 x13) λ x19 => vK (aG h16.get x19) λ x20 => wK (aD E 96 [x18, x20] h16) λ x21 h22 => vK (aL x6) λ x23 => vK (aF 1 x23) λ x24 => vK (aG h22.get x24) λ x25 => vK (fA x25 (ii 1)) λ x26 => vK (aL x6) λ x27 => vK (aF 1 x27) λ x28 => wK (bU 1 x28 x26 h22) λ x29 h30 => vK (aL x6) λ x31 => vK (aF 1 x31) λ x32 => vK (aG h30.get x32) λ x33 => vK (bV x33 (ii 0)) λ x34 => bK x34 (vK (aL r0) λ x35 => vK (aF 513 x35) λ x36 => vK (aG h30.get x36) λ x37 => vK (aL x6) λ x38 => vK (aF 0 x38) λ x39 => vK (aG h30.get x39) λ x40 => vK (bZ x40) λ x41 => vK (fA x37 x41) λ x42 => vK (aL r0) λ x43 => vK (aF 513 x43) λ x44 => wK (bU 1 x44 x42 h30) λ x45 h46 => vK (eI [(ii 0), .nili] []) λ x47 => vK (aL r0) λ x48 => vK (aF 0 x48) λ x49 => vK (lO 256 2 x49 x3) λ x50 => wK (bU 2 x50 x47 h46) λ x51 h52 => aWV E h52) (aWV E h30)))
def bHk : DC := (zs 4 [zX (.mv (zk 0))] (zs 11 [zM 0,zM 1,zF 85 [gE,fV],zT 10 13,zX (.ext 0 fS),zX (.ext 1 fS),zT 5 14,zT 6 15] (zq (zs 16 [zM 6,zX (.bin .neq iC (zk 0))] (.cond iT (zs 4 [zT 18 6,zM 18] .ret) .skip)) (zs 19 [zM 0,zM 5,zF 86 [iQ,jD],zT 7 21] (zq (zs 22 [zM 7,zX (.eqv .ptr false kD (.c .nilp))] (.cond iD (zs 4 [zX (.mv (zk 12))] .ret) .skip)) (zs 25 [zM 0,zM 1,zF 95 [kU,lY],zT 24 27,zX (.ext 0 iP),zX (.ext 1 iP),zY 8 (.alc 2 2 (.list [.nilp,(.str [])])),zW (.st 2 o8 lW),zT 9 29] (zs 30 [zX (.fa 0 o8),zX (.ld mD),zX (.fa 1 o8),zX (.ld lC),zF 96 [oD,mX]] (zq (zs 35 [zM 7,zX (.nilchk rA),zX (.fa 1 mW),zX (.ld pA),zX (.bin .sub tF (zk 1)),zX (.nilchk rA),zX (.fa 1 qZ),zW (.st 1 wO rN)] (zs 42 [zM 7,zX (.nilchk uC),zX (.fa 1 uB),zX (.ld tZ),zX (.bin .eql zV (zk 0))] (.cond xY (zq (zd 47 [yA 0 (zM 0),yA 1 (zX (.nilchk o47)),yA 2 (zX (.fa 513 o48)),yA 3 (zX (.ld o49)),yA 4 (zM 7),yA 5 (zX (.nilchk o51)),yA 6 (zX (.fa 0 o52)),yA 7 (zX (.ld o53)),yA 8 (zX (.lenS o54)),yA 9 (zX (.bin .sub o50 o55)),yA 10 (zX (.nilchk o47)),yA 11 (zX (.fa 513 o57)),yA 12 (zW (.st 1 o58 o56))]) (zr 59 [zM 0,zM 5,zX (.bld [(.int .i64 (.ofNat 0)),.nili] []),zX (.nilchk o59),zX (.fa 0 o62),zX (.iaA 256 2 o63 o60),zW (.st 2 o64 o61)])) .skip))) bHj))))))))
theorem bWP : Is E bHj (bN R42) (λ σ h => aWV E h) := λ σ h => by kernel_rfl
theorem bWQ : nK E bHk R42 (aRs E) := Is.as (Is.seq (Is.seq (Is.seq (Is.seq (Is.seq (Is.seq (Is.seq (Is.seq (bWP E) (Is.leaf _)) (Is.leaf _)) (Is.leaf _)) (Is.leaf _)) (Is.leaf _)) (Is.leaf _)) (Is.leaf _)) (Is.leaf _)) λ σ h => by kernel_rfl
def D42 : DF := ⟨2, 65, bHk, R42⟩
def S42 : cE := nL (aRs E)
theorem bKf : SQ D42 S42 := λ E => nY (d := D42) (bWQ E) rfl
def R43 : List RV := [(.r p4)]
def aRr (r0 r1 : DV) (h : H) : aU := wK (aD E 85 [r0, r1] h) λ x1 h2 => vK (aI 0 x1) λ x3 => vK (aI 1 x1) λ x4 => vK (dD x4 (ii 0)) λ x5 => bK x5 (some (x4, h2)) (wK (aD E 87 [r0, x3] h2) λ x6 h7 => vK (dT .ptr false h7.get x6 .nilp) λ x8 => bK x8 (some ((ii 13), h7)) (vK (bV x3 (ii 1)) λ x9 => bK x9 (some ((ii 1), h7)) (wK (aD E 97 [x6] h7) λ x10 h11 => vK (eF x10 (ii 0)) λ x12 => bK x12 (some ((ii 14), h11)) (wK (aD E 95 [r0, r1] h11) λ x13 h14 => vK (aI 0 x13) λ x15 => vK (aI 1 x13) λ x16 => eD 2 2 (.list [.nilp, (.str [])]) h14 λ x17 h18 => wK (bU 2 x17 x15 h18) λ x19 h20 => vK (aF 0 x17) λ x21 => vK (aG h20.get x21) λ x22 => vK (aF 1 x17) λ x23 => vK (aG h20.get x23) λ x24 => wK (aD E 96 [x22, x24] h20) λ x25 h26 => vK (eI [(ii 0), .nili] []) λ x27 => vK (aL r0) λ x28 => vK (aF 0 x28) λ x29 => vK (lO 256 2 x29 x3) λ x30 => wK (bU 2 x30 x27 h26) λ x31 h32 => some ((ii 0), h32)))))
def bHi : DC := (zs 4 [zX (.mv (zk 0))] (zs 11 [zM 0,zM 1,zF 85 [gE,fV],zT 10 13,zX (.ext 0 fS),zX (.ext 1 fS),zT 5 14,zT 6 15] (zq (zs 16 [zM 6,zX (.bin .neq iC (zk 0))] (.cond iT (zs 4 [zT 18 6,zM 18] .ret) .skip)) (zs 19 [zM 0,zM 5,zF 87 [iQ,jD],zT 7 21] (zq (.block 0 (zs 23 [zM 7,zX (.eqv .ptr false iD (.c .nilp)),zT 22 24] (.cond kD (zs 4 [zX (.mv (zk 13))] .ret) (zs 26 [zM 5,zX (.bin .eql lY (zk 1)),zT 25 27] (.cond kU (zs 4 [zX (.mv (zk 1))] .ret) (zs 29 [zM 7,zF 97 [mN],zX (.bin .gtr mD (zk 0)),zT 28 31] (.cond lW (zs 4 [zX (.mv (zk 14))] .ret) .skip))))))) (zs 33 [zM 0,zM 1,zF 95 [mX,mR],zT 32 35,zX (.ext 0 lC),zX (.ext 1 lC),zY 8 (.alc 2 2 (.list [.nilp,(.str [])])),zW (.st 2 o8 mW),zT 9 37] (zs 38 [zX (.fa 0 o8),zX (.ld tF),zX (.fa 1 o8),zX (.ld qZ),zF 96 [rN,wO]] (zs 43 [zM 0,zM 5,zX (.bld [(.int .i64 (.ofNat 0)),.nili] []),zX (.nilchk uB),zX (.fa 0 xY),zX (.iaA 256 2 o47 tZ),zW (.st 2 o48 zV)] (zs 4 [zX (.mv (zk 0))] .ret)))))))))
theorem bWO : nK E bHi R43 (aRr E) := λ σ h => by kernel_rfl
def D43 : DF := ⟨2, 49, bHi, R43⟩
def S43 : cE := nL (aRr E)
theorem bKe : SQ D43 S43 := λ E => nY (d := D43) (bWO E) rfl
def R44 : List RV := [(.r p6)]
def aRq (r0 r1 r2 : DV) (h : H) : aU := wK (aD E 85 [r0, r1] h) λ x1 h2 => vK (aI 0 x1) λ x3 => vK (aI 1 x1) λ x4 => vK (dD x4 (ii 0)) λ x5 => bK x5 (some (x4, h2)) (wK (aD E 95 [r0, r2] h2) λ x6 h7 => vK (aI 0 x6) λ x8 => vK (aI 1 x6) λ x9 => eD 2 2 (.list [.nilp, (.str [])]) h7 λ x10 h11 => wK (bU 2 x10 x8 h11) λ x12 h13 => vK (dD x9 (ii 0)) λ x14 => bK x14 (some (x9, h13)) (vK (bV x3 (ii 1)) λ x15 => bE x15 false (λ kk => kk r1 h13) h13 λ x16 h17 => bE x15 false (λ kk => kk r2 h17) h17 λ x18 h19 => bE x15 false (λ kk => wK (aD E 98 [x16, x18] h19) kk) h19 λ x20 h21 => vK (aX x15 (.bool true) x20) λ x22 => bK x22 (some ((ii 1), h21)) (wK (aD E 95 [r0, r1] h21) λ x23 h24 => vK (aI 0 x23) λ x25 => vK (aI 1 x23) λ x26 => eD 2 2 (.list [.nilp, (.str [])]) h24 λ x27 h28 => wK (bU 2 x27 x25 h28) λ x29 h30 => vK (aK 2 h30.get x27) λ x31 => vK (aK 2 h30.get x10) λ x32 => vK (aDM false (.leaf .ptr 0 (.leaf .str 1 .nil)) h30.get x31 x32) λ x33 => bK x33 (some ((ii 0), h30)) (vK (aK 2 h30.get x10) λ x34 => wK (aD E 99 [x34] h30) λ x35 h36 => bK x35 (some ((ii 6), h36)) (vK (aF 0 x27) λ x37 => vK (aG h36.get x37) λ x38 => vK (aF 1 x27) λ x39 => vK (aG h36.get x39) λ x40 => wK (aD E 96 [x38, x40] h36) λ x41 h42 => vK (aF 0 x10) λ x43 => vK (aG h42.get x43) λ x44 => vK (aF 1 x10) λ x45 => vK (aG h42.get x45) λ x46 => wK (aD E 100 [x44, x46, x3] h42) λ x47 h48 => some ((ii 0), h48))))))
def bHh : DC := (zs 6 [zX (.mv (zk 0))] (zs 13 [zM 0,zM 1,zF 85 [gN,iU],zT 12 15,zX (.ext 0 fV),zX (.ext 1 fV),zT 7 16,zT 8 17] (zq (zs 18 [zM 8,zX (.bin .neq iH (zk 0))] (.cond iQ (zs 6 [zT 20 8,zM 20] .ret) .skip)) (zs 22 [zM 0,zM 2,zF 95 [kD,iD],zT 21 24,zX (.ext 0 iG),zX (.ext 1 iG),zY 9 (.alc 2 2 (.list [.nilp,(.str [])])),zW (.st 2 o9 kU),zT 8 26] (zq (.block 0 (zs 28 [zM 8,zX (.bin .neq lW (zk 0)),zT 27 29] (.cond lD (zs 6 [zT 30 8,zM 30] .ret) (zs 32 [zM 7,zX (.bin .eql lC (zk 1)),zM 33,zL 34 false 1,zL 34 false 2,zD ⟨(some p37),(some (p34,false)),(.c (.f 98 [rA,mW]))⟩,zY 38 (.pick mR (.c (.bool true)) pA),zT 31 38] (.cond oD (zs 6 [zX (.mv (zk 1))] .ret) .skip))))) (zs 40 [zM 0,zM 1,zF 95 [qZ,wO],zT 39 42,zX (.ext 0 rN),zX (.ext 1 rN),zY 10 (.alc 2 2 (.list [.nilp,(.str [])])),zW (.st 2 fS uB),zT 11 44] (zq (.block 1 (zs 46 [zX (.ldN 2 fS),zX (.ldN 2 o9),zX (.eqs false (.leaf .ptr 0 (.leaf .str 1 .nil)) xY o47),zT 45 48] (.cond zV (zs 6 [zX (.mv (zk 0))] .ret) (zs 50 [zX (.ldN 2 o9),zF 99 [o50],zT 49 51] (.cond o49 (zs 6 [zX (.mv (zk 6))] .ret) .skip))))) (zs 52 [zX (.fa 0 fS),zX (.ld o52),zX (.fa 1 fS),zX (.ld o54),zF 96 [o53,o55]] (zs 57 [zX (.fa 0 o9),zX (.ld o57),zX (.fa 1 o9),zX (.ld o59),zM 7,zF 100 [o58,o60,o61]] (zs 6 [zX (.mv (zk 0))] .ret))))))))))
theorem bWN : iA3 E bHh R44 (aRq E) := λ σ h => by kernel_rfl
def D44 : DF := ⟨3, 63, bHh, R44⟩
def S44 : cE := fA3 (aRq E)
theorem bKd : SQ D44 S44 := λ E => eA3 (d := D44) (bWN E) rfl
def R45 : List RV := [(.r p6)]
def aRp (r0 r1 r2 : DV) (h : H) : aU := wK (aD E 85 [r0, r1] h) λ x1 h2 => vK (aI 0 x1) λ x3 => vK (aI 1 x1) λ x4 => vK (dD x4 (ii 0)) λ x5 => bK x5 (some (x4, h2)) (wK (aD E 95 [r0, r2] h2) λ x6 h7 => vK (aI 0 x6) λ x8 => vK (aI 1 x6) λ x9 => eD 2 2 (.list [.nilp, (.str [])]) h7 λ x10 h11 => wK (bU 2 x10 x8 h11) λ x12 h13 => vK (dD x9 (ii 0)) λ x14 => bK x14 (some (x9, h13)) (wK (aD E 86 [r0, x3] h13) λ x15 h16 => vK (dT .ptr false h16.get x15 .nilp) λ x17 => bK x17 (some ((ii 12), h16)) (vK (aK 2 h16.get x10) λ x18 => wK (aD E 99 [x18] h16) λ x19 h20 => bK x19 (some ((ii 6), h20)) (vK (aL x15) λ x21 => vK (aF 1 x21) λ x22 => vK (aG h20.get x22) λ x23 => vK (nO x23 (ii 100)) λ x24 => bK x24 (some ((ii 5), h20)) (vK (aL x15) λ x25 => vK (aF 1 x25) λ x26 => vK (aG h20.get x26) λ x27 => vK (bJ x27 (ii 1)) λ x28 => vK (aL x15) λ x29 => vK (aF 1 x29) λ x30 => wK (bU 1 x30 x28 h20) λ x31 h32 => vK (aF 0 x10) λ x33 => vK (aG h32.get x33) λ x34 => vK (aF 1 x10) λ x35 => vK (aG h32.get x35) λ x36 => wK (aD E 100 [x34, x36, x3] h32) λ x37 h38 => some ((ii 0), h38))))))
def bHg : DC := (zs 6 [zX (.mv (zk 0))] (zs 12 [zM 0,zM 1,zF 85 [fV,gN],zT 11 14,zX (.ext 0 gE),zX (.ext 1 gE),zT 7 15,zT 8 16] (zq (zs 17 [zM 8,zX (.bin .neq iT (zk 0))] (.cond iH (zs 6 [zT 19 8,zM 19] .ret) .skip)) (zs 21 [zM 0,zM 2,zF 95 [iG,kD],zT 20 23,zX (.ext 0 jD),zX (.ext 1 jD),zY 9 (.alc 2 2 (.list [.nilp,(.str [])])),zW (.st 2 o9 iP),zT 8 25] (zq (zs 26 [zM 8,zX (.bin .neq lY (zk 0))] (.cond lD (zs 6 [zT 28 8,zM 28] .ret) .skip)) (zs 29 [zM 0,zM 7,zF 86 [mN,mD],zT 10 31] (zq (.block 0 (zs 33 [zM 10,zX (.eqv .ptr false mX (.c .nilp)),zT 32 34] (.cond lC (zs 6 [zX (.mv (zk 12))] .ret) (zs 36 [zX (.ldN 2 o9),zF 99 [mW],zT 35 37] (.cond rA (zs 6 [zX (.mv (zk 6))] .ret) (zs 39 [zM 10,zX (.nilchk rN),zX (.fa 1 qZ),zX (.ld wO),zX (.bin .geq uC (zk 100)),zT 38 43] (.cond tF (zs 6 [zX (.mv (zk 5))] .ret) .skip))))))) (zs 44 [zM 10,zX (.nilchk tZ),zX (.fa 1 zV),zX (.ld xY),zX (.bin .add o47 (zk 1)),zX (.nilchk tZ),zX (.fa 1 o49),zW (.st 1 o50 o48)] (zs 51 [zX (.fa 0 o9),zX (.ld o51),zX (.fa 1 o9),zX (.ld o53),zM 7,zF 100 [o52,o54,o55]] (zs 6 [zX (.mv (zk 0))] .ret))))))))))
theorem bWM : iA3 E bHg R45 (aRp E) := λ σ h => by kernel_rfl
def D45 : DF := ⟨3, 57, bHg, R45⟩
def S45 : cE := fA3 (aRp E)
theorem bKc : SQ D45 S45 := λ E => eA3 (d := D45) (bWM E) rfl
def R46 : List RV := [(.r p8)]
def aRo (r0 r1 r2 r3 : DV) (h : H) : aU := wK (aD E 83 [r0, r1] h) λ x1 h2 => vK (aI 0 x1) λ x3 => vK (aI 1 x1) λ x4 => vK (dD x4 (ii 0)) λ x5 => bK x5 (some (x4, h2)) (wK (aD E 92 [r0, x3, r2, r3] h2) λ x6 h7 => some (x6, h7))
def bHf : DC := (zs 8 [zX (.mv (zk 0))] (zs 12 [zM 0,zM 1,zF 83 [fV,gN],zT 11 14,zX (.ext 0 gE),zX (.ext 1 gE),zT 9 15,zT 10 16] (zq (zs 17 [zM 10,zX (.bin .neq iT (zk 0))] (.cond iH (zs 8 [zT 19 10,zM 19] .ret) .skip)) (zs 20 [zM 0,zM 9,zM 2,zM 3,zF 92 [jD,iG,kD,iD],zT 8 24] .ret))))
theorem bWL : iA4 E bHf R46 (aRo E) := λ σ h => by kernel_rfl
def D46 : DF := ⟨4, 25, bHf, R46⟩
def S46 : cE := fA4 (aRo E)
theorem bKb : SQ D46 S46 := λ E => eA4 (d := D46) (bWL E) rfl
def R47 : List RV := [(.r p6)]
def aRn (r0 r1 r2 : DV) (h : H) : aU := wK (aD E 83 [r0, r1] h) λ x1 h2 => vK (aI 0 x1) λ x3 => vK (aI 1 x1) λ x4 => vK (dD x4 (ii 0)) λ x5 => bK x5 (some (x4, h2)) (vK (cT r2 (ii 0)) λ x6 => bE x6 false (λ kk => kk r2 h2) h2 λ x7 h8 => bE x6 false (λ kk => vK (eF x7 (ii 16384)) λ v => kk v h8) h8 λ x9 h10 => vK (aX x6 (.bool true) x9) λ x11 => bK x11 (some ((ii 1), h10)) (vK (aL x3) λ x12 => vK (aF 0 x12) λ x13 => vK (aG h10.get x13) λ x14 => vK (aL x3) λ x15 => vK (aF 0 x15) λ x16 => vK (aG h10.get x16) λ x17 => vK (bZ x17) λ x18 => vK (aDd r2 x18) λ x19 => vK (gX x14 none (some x19)) λ x20 => wK (aD E 101 [x20, r2] h10) λ x21 h22 => vK (aI 0 x21) λ x23 => vK (aI 1 x21) λ x24 => wK (aD E 102 [r0, x3, x23] h22) λ x25 h26 => some (x25, h26)))
def bHe : DC := (zs 6 [zX (.mv (zk 0))] (zs 12 [zM 0,zM 1,zF 83 [fV,gN],zT 11 14,zX (.ext 0 gE),zX (.ext 1 gE),zT 7 15,zT 8 16] (zq (.block 0 (zs 18 [zM 8,zX (.bin .neq iH (zk 0)),zT 17 19] (.cond iT (zs 6 [zT 20 8,zM 20] .ret) (zs 22 [zM 2,zX (.bin .lss kD (zk 0)),zM 23,zL 24 false 2,zG 24 false (.bin .gtr kU (zk 16384)),zX (.pick iP (.c (.bool true)) lY),zT 21 27] (.cond iG (zs 6 [zX (.mv (zk 1))] .ret) .skip))))) (zq (zd 29 [yA 0 (zM 7),yA 1 (zX (.nilchk mN)),yA 2 (zX (.fa 0 mD)),yA 3 (zX (.ld oD)),yA 4 (zM 2),yA 5 (zM 7),yA 6 (zX (.nilchk mR)),yA 7 (zX (.fa 0 rA)),yA 8 (zX (.ld mW)),yA 9 (zX (.lenS pA)),yA 10 (zX (.mn mX tF)),yA 11 (zX (.slS lC none (some rN))),yA 12 (zM 2),yA 13 (zF 101 [qZ,wO]),yA 14 (zT 28 42),yA 15 (zX (.ext 0 lW)),yA 16 (zX (.ext 1 lW)),yA 17 (zT 9 43),yA 18 (zT 10 44)]) (zs 45 [zM 0,zM 7,zM 9,zF 102 [zV,xY,o47],zT 6 48] .ret)))))
theorem bWK : iA3 E bHe R47 (aRn E) := λ σ h => by kernel_rfl
def D47 : DF := ⟨3, 49, bHe, R47⟩
def S47 : cE := fA3 (aRn E)
theorem bKa : SQ D47 S47 := λ E => eA3 (d := D47) (bWK E) rfl
def R48 : List RV := [(.r p2)]
def aRm (E : bO) (r0 : DV) (h : H) : aU := vK (aBl r0 (ii 0)) λ x1 => vK (aDd x1 (ii 65536)) λ x2 => vK (eI [(ii 0), .nils, (ii 0)] [(0, 1, x2)]) λ x3 => eC x3 h λ x4 h5 => some (x4, h5)
def bHd : DC := (zs 2 [zX (.mv (.c .nilp))] (zs 3 [zM 0,zX (.mx o3 (zk 0)),zX (.mn o4 (zk 65536)),zX (.bld [(.int .i64 (.ofNat 0)),.nils,(.int .i64 (.ofNat 0))] [(0,1,o5)]),zX (.box o6),zT 2 7] .ret))
theorem bWJ : oE E bHd R48 (aRm E) := λ σ h => by kernel_rfl
def D48 : DF := ⟨1, 8, bHd, R48⟩
def S48 : cE := oF (aRm E)
theorem bJZ : SQ D48 S48 := λ E => oJ (d := D48) (bWJ E) rfl
def R49 : List RV := []
def aRk (r0 r3 : DV) (h : H) : aU := wK (aD E 103 [r0, (.fn (.func 104) [] [r3])] h) λ x1 h2 => some ((.tup []), h2)
def bHb : DC := (zr 24 [zM 0,zX (.mkF (.func 104) [] [o3]),zF 103 [iP,kU]])
def aRl (r0 r1 : DV) (h : H) : aU := eC r1 h λ x1 h2 => vK (dT .ptr true h2.get r0 .nilp) λ x3 => bE x3 true (λ kk => kk r0 h2) h2 λ x4 h5 => bE x3 true (λ kk => vK (aL x4) λ v => kk v h5) h5 λ x6 h7 => bE x3 true (λ kk => vK (aF 2 x6) λ v => kk v h7) h7 λ x8 h9 => bE x3 true (λ kk => vK (aG h9.get x8) λ v => kk v h9) h9 λ x10 h11 => bE x3 true (λ kk => vK (bV x10 (ii 0)) λ v => kk v h11) h11 λ x12 h13 => vK (aX x3 x12 (.bool false)) λ x14 => bE x14 true (λ kk => vK (aG h13.get x1) λ v => kk v h13) h13 λ x15 h16 => bE x14 true (λ kk => vK (cT x15 (ii 0)) λ v => kk v h16) h16 λ x17 h18 => bE x14 true (λ kk => kk x17 h18) h18 λ x19 h20 => bE x19 false (λ kk => vK (aG h20.get x1) λ v => kk v h20) h20 λ x21 h22 => bE x19 false (λ kk => vK (eF x21 (ii 255)) λ v => kk v h22) h22 λ x23 h24 => bE x14 true (λ kk => vK (aX x19 (.bool true) x23) λ v => kk v h24) h24 λ x25 h26 => vK (aX x14 x25 (.bool false)) λ x27 => bK x27 (vK (aL r0) λ x28 => vK (aF 2 x28) λ x29 => wK (bU 1 x29 (ii 1) h26) λ x30 h31 => aRk E r0 x1 h31) (aRk E r0 x1 h26)
def bHc : DC := (zs 3 [zX (.box o1)] (zq (zs 4 [zM 0,zX (.eqv .ptr true o4 (.c .nilp)),zM 5,zL 6 true 0,zG 6 true (.nilchk o7),zG 6 true (.fa 2 o8),zG 6 true (.ld o9),zG 6 true (.bin .eql fS (zk 0)),zX (.pick o6 gE (.c (.bool false))),zM 12,zG 13 true (.ld o3),zG 13 true (.bin .lss iU (zk 0)),zL 13 true 15,zG 16 false (.ld o3),zG 16 false (.bin .gtr iT (zk 255)),zG 13 true (.pick iC (.c (.bool true)) iH),zX (.pick gN iQ (.c (.bool false)))] (.cond jD (zr 21 [zM 0,zX (.nilchk iG),zX (.fa 2 kD),zW (.st 1 iD (zk 1))]) .skip)) bHb))
theorem bWH : Is E bHb (bN R49) (λ σ h => aRk E (σ p0) (σ p3) h) := λ σ h => by kernel_rfl
theorem bWI : nK E bHc R49 (aRl E) := Is.as (Is.seq (Is.seq (bWH E) (Is.leaf _)) (Is.leaf _)) λ σ h => by kernel_rfl
def D49 : DF := ⟨2, 27, bHc, R49⟩
def S49 : cE := nL (aRl E)
theorem bJY : SQ D49 S49 := λ E => nY (d := D49) (bWI E) rfl
def R50 : List RV := []
def aRj (r0 r1 : DV) (h : H) : aU := eC r1 h λ x1 h2 => wK (aD E 103 [r0, (.fn (.func 105) [] [x1])] h2) λ x3 h4 => some ((.tup []), h4)
def bHa : DC := (zs 3 [zX (.box o1)] (zr 4 [zM 0,zX (.mkF (.func 105) [] [o3]),zF 103 [o4,o5]]))
theorem bWG : nK E bHa R50 (aRj E) := λ σ h => by kernel_rfl
def D50 : DF := ⟨2, 7, bHa, R50⟩
def S50 : cE := nL (aRj E)
theorem bJX : SQ D50 S50 := λ E => nY (d := D50) (bWG E) rfl
def R51 : List RV := []
def aRi (r0 r1 : DV) (h : H) : aU := eC r1 h λ x1 h2 => wK (aD E 103 [r0, (.fn (.func 107) [] [x1])] h2) λ x3 h4 => some ((.tup []), h4)
def bGZ : DC := (zs 3 [zX (.box o1)] (zr 4 [zM 0,zX (.mkF (.func 107) [] [o3]),zF 103 [o4,o5]]))
theorem bWF : nK E bGZ R51 (aRi E) := λ σ h => by kernel_rfl
def D51 : DF := ⟨2, 7, bGZ, R51⟩
def S51 : cE := nL (aRi E)
theorem bJW : SQ D51 S51 := λ E => nY (d := D51) (bWF E) rfl
def R52 : List RV := [(.r p2),(.r p3)]
def aRh (E : bO) (r0 : DV) (h : H) : aU := vK (dT .ptr false h.get r0 .nilp) λ x1 => bK x1 (some ((.tup [(.str []), (ii 1)]), h)) (vK (aL r0) λ x2 => vK (aF 2 x2) λ x3 => vK (aG h.get x3) λ x4 => vK (dD x4 (ii 0)) λ x5 => bK x5 (vK (aL r0) λ x6 => vK (aF 2 x6) λ x7 => vK (aG h.get x7) λ x8 => some ((.tup [(.str []), x8]), h)) (vK (aL r0) λ x9 => vK (aF 1 x9) λ x10 => vK (aG h.get x10) λ x11 => vK (mO h.get x11) λ x12 => some ((.tup [x12, (ii 0)]), h)))
def bGY : DC := (zs 2 [zX (.mv (.c (.str []))),zX (.mv (zk 0))] (zq (.block 0 (zs 5 [zM 0,zX (.eqv .ptr false o5 (.c .nilp)),zT 4 6] (.cond o4 (zs 2 [zX (.mv (.c (.str []))),zX (.mv (zk 1))] .ret) (zs 8 [zM 0,zX (.nilchk o8),zX (.fa 2 o9),zX (.ld fS),zX (.bin .neq gE (zk 0)),zT 7 12] (.cond o7 (zq (zd 13 [yA 0 (zM 0),yA 1 (zX (.nilchk gN)),yA 2 (zX (.fa 2 iU)),yA 3 (zX (.ld jO)),yA 4 (zY 2 (.mv (.c (.str [])))),yA 5 (zT 3 16)]) .ret) .skip))))) (zs 17 [zM 0,zX (.nilchk iT),zX (.fa 1 iH),zX (.ld iQ),zX (.b2s jD),zT 2 21,zY 3 (.mv (zk 0))] .ret)))
theorem bWE : oE E bGY R52 (aRh E) := λ σ h => by kernel_rfl
def D52 : DF := ⟨1, 22, bGY, R52⟩
def S52 : cE := oF (aRh E)
theorem bJV : SQ D52 S52 := λ E => oJ (d := D52) (bWE E) rfl
def R53 : List RV := [(.r p2)]
def aMp (E : bO) (r3 r4 : DV) (h : H) : aU := vK (fB .u8 r3) λ x1 => gO 1 1 [(.int .u8 (.ofNat 0))] [(0, 1, x1)] h λ x2 h3 => wK (cA 1 1 r4 x2 h3) λ x4 h5 => vK (mO h5.get x4) λ x6 => some (x6, h5)
def bGV : DC := (zs 23 [zM 4,zM 3,zX (.conv .u8 iP),zX (.bsl 1 1 [(.int .u8 (.ofNat 0))] [(0,1,kU)]),zD ⟨(some p27),none,(.w (.app 1 1 iD lY))⟩,zT 4 27] (zs 28 [zM 4,zX (.b2s lW),zT 2 29] .ret))
def aMF (i3 : DV → DV → H → aU) (r3 r4 : DV) (h : H) : aU := vK (nO r3 (.int .u64 (.ofNat 128))) λ x1 => bK x1 (vK (aDO r3 (.int .u64 (.ofNat 127))) λ x2 => vK (fB .u8 x2) λ x3 => vK (aRO x3 (.int .u8 (.ofNat 128))) λ x4 => gO 1 1 [(.int .u8 (.ofNat 0))] [(0, 1, x4)] h λ x5 h6 => wK (cA 1 1 r4 x5 h6) λ x7 h8 => vK (xT r3 (.int .u64 (.ofNat 7))) λ x9 => i3 x9 x7 h8) (aMp E r3 r4 h)
def aHt (n : Nat) : DV → DV → H → aU := Nat.rec (motive := λ _ => DV → DV → H → aU) (λ _ _ _ => none) (λ _ i => aMF E i) n
def bGU : DC := (.loop (zq (zs 12 [zM 3,zX (.bin .geq fV (.c (.int .u64 (.ofNat 128))))] (.cond gN .skip (.exit 0))) (.block 1 (zs 14 [zM 4,zM 3,zX (.bin .and jO (.c (.int .u64 (.ofNat 127)))),zX (.conv .u8 iC),zX (.bin .or iT (.c (.int .u8 (.ofNat 128)))),zX (.bsl 1 1 [(.int .u8 (.ofNat 0))] [(0,1,iH)]),zD ⟨(some p20),none,(.w (.app 1 1 iU iQ))⟩,zT 4 20] (zr 21 [zM 3,zX (.bin .shr iG (.c (.int .u64 (.ofNat 7)))),zT 3 22])))))
def aWU (r3 : DV) (h : H) : aU := aHt E aR r3 .nils h
def bGW : DC := (zs 4 [zX (.mv (.c .nils))] (zq (.block 0 bGU) bGV))
def aRg (r0 : DV) (h : H) : aU := vK (fB .u64 r0) λ x1 => vK (aDK x1 (.int .u64 (.ofNat 1))) λ x2 => vK (cT r0 (ii 0)) λ x3 => bK x3 (vK (aDJ x2 (.int .u64 (.ofNat 18446744073709551615))) λ x4 => aWU E x4 h) (aWU E x2 h)
def bGX : DC := (zs 2 [zX (.mv (.c (.str [])))] (zs 5 [zM 0,zX (.conv .u64 o5),zX (.bin .shl o6 (.c (.int .u64 (.ofNat 1)))),zT 3 7] (zq (zs 8 [zM 0,zX (.bin .lss o8 (zk 0))] (.cond o9 (zr 10 [zM 3,zX (.bin .xor fS (.c (.int .u64 (.ofNat 18446744073709551615)))),zT 3 11]) .skip)) bGW)))
theorem bWB : Is E bGV (bN R53) (λ σ h => aMp E (σ p3) (σ p4) h) := λ σ h => by kernel_rfl
abbrev bVz : gS (DV × H) := (cF (λ σ h => aMp E (σ p3) (σ p4) h) (bN R53))
theorem bWA : Is E bGU (bL 0 (bVz E)) (λ σ h => aHt E aR (σ p3) (σ p4) h) := Is.loop (λ n3 σ h => aHt E n3 (σ p3) (σ p4) h) (by kernel_rfl) λ n3 => Is.as (Is.leaf _) λ σ h => by kernel_rfl
theorem bWC : Is E bGW (bN R53) (λ σ h => aWU E (σ p3) h) := Is.as (Is.seq (Is.seq (bWB E) (Is.block (bWA E))) (Is.leaf _)) λ σ h => by kernel_rfl
theorem bWD : oE E bGX R53 (aRg E) := Is.as (Is.seq (Is.seq (Is.seq (bWC E) (Is.leaf _)) (Is.leaf _)) (Is.leaf _)) λ σ h => by kernel_rfl
def D53 : DF := ⟨1, 30, bGX, R53⟩
def S53 : cE := oF (aRg E)
theorem bJU : SQ D53 S53 := λ E => oJ (d := D53) (bWD E) rfl
def R54 : List RV := [(.r p2)]
def aRf (r0 : DV) (h : H) : aU := vK (bZ r0) λ x1 => wK (aD E 53 [x1] h) λ x2 h3 => vK (bJ x2 r0) λ x4 => some (x4, h3)
def bGT : DC := (zs 2 [zX (.mv (.c (.str [])))] (zs 3 [zM 0,zX (.lenS o3),zF 53 [o4],zM 0,zX (.bin .add o5 o6),zT 2 7] .ret))
theorem bWz : oE E bGT R54 (aRf E) := λ σ h => by kernel_rfl
def D54 : DF := ⟨1, 8, bGT, R54⟩
def S54 : cE := oF (aRf E)
theorem bJT : SQ D54 S54 := λ E => oJ (d := D54) (bWz E) rfl
def R55 : List RV := [(.r p2)]
def bFT (E : bO) (r0 : DV) (h : H) : aU := vK (eI [(.str []), (.bool false)] [(0, 1, r0)]) λ x1 => eC x1 h λ x2 h3 => some (x2, h3)
def bGS : DC := (zs 2 [zX (.mv (.c .nilp))] (zs 3 [zM 0,zX (.bld [(.str []),(.bool false)] [(0,1,o3)]),zX (.box o4),zT 2 5] .ret))
theorem bWy : oE E bGS R55 (bFT E) := λ σ h => by kernel_rfl
def D55 : DF := ⟨1, 6, bGS, R55⟩
def S55 : cE := oF (bFT E)
theorem bJR : SQ D55 S55 := λ E => oJ (d := D55) (bWy E) rfl
def R56 : List RV := [(.r p2)]
def bFS (r0 : DV) (h : H) : aU := wK (aD E 109 [r0, (ii 1)] h) λ x1 h2 => vK (aI 0 x1) λ x3 => vK (aI 1 x1) λ x4 => bK x4 (vK (gJ x3 (ii 0)) λ x5 => vK (fB .i64 x5) λ x6 => some (x6, h2)) (some ((ii 0), h2))
def bGR : DC := (zs 2 [zX (.mv (zk 0))] (zq (zs 6 [zM 0,zF 109 [o6,(zk 1)],zT 5 7,zX (.ext 0 o5),zX (.ext 1 o5),zT 3 8,zT 4 9] (zs 10 [zM 4] (.cond fS (zs 11 [zM 3,zX (.ixS gE (zk 0)),zX (.conv .i64 fV),zT 2 13] .ret) .skip))) (zs 2 [zX (.mv (zk 0))] .ret)))
theorem bWx : oE E bGR R56 (bFS E) := λ σ h => by kernel_rfl
def D56 : DF := ⟨1, 14, bGR, R56⟩
def S56 : cE := oF (bFS E)
theorem bJQ : SQ D56 S56 := λ E => oJ (d := D56) (bWx E) rfl
def R57 : List RV := [(.r p2)]
def bFR (r0 : DV) (h : H) : aU := vK (dT .ptr false h.get r0 .nilp) λ x1 => bK x1 (some ((ii 0), h)) (vK (aL r0) λ x2 => vK (aF 0 x2) λ x3 => vK (aG h.get x3) λ x4 => wK (aD E 110 [x4] h) λ x5 h6 => vK (aI 0 x5) λ x7 => vK (aI 1 x5) λ x8 => vK (bV x8 (ii 0)) λ x9 => bK x9 (wK (aD E 111 [r0] h6) λ x10 h11 => some ((ii 0), h11)) (wK (aD E 109 [r0, x8] h6) λ x12 h13 => vK (xT x7 (.int .u64 (.ofNat 1))) λ x14 => vK (fB .i64 x14) λ x15 => vK (aDO x7 (.int .u64 (.ofNat 1))) λ x16 => vK (fB .i64 x16) λ x17 => vK (aKq x17) λ x18 => vK (aDJ x15 x18) λ x19 => some (x19, h13)))
def bGQ : DC := (zs 2 [zX (.mv (zk 0))] (zq (zs 5 [zM 0,zX (.eqv .ptr false o5 (.c .nilp))] (.cond o6 (zs 2 [zX (.mv (zk 0))] .ret) .skip)) (zs 8 [zM 0,zX (.nilchk o8),zX (.fa 0 o9),zX (.ld fS),zF 110 [gE],zT 7 12,zX (.ext 0 o7),zX (.ext 1 o7),zT 3 13,zT 4 14] (zq (zs 15 [zM 4,zX (.bin .eql jO (zk 0))] (.cond iC (zs 17 [zM 0,zF 111 [iT]] (zs 2 [zX (.mv (zk 0))] .ret)) .skip)) (zs 19 [zM 0,zM 4,zF 109 [iQ,jD]] (zs 22 [zM 3,zX (.bin .shr kD (.c (.int .u64 (.ofNat 1)))),zX (.conv .i64 iD),zM 3,zX (.bin .and kU (.c (.int .u64 (.ofNat 1)))),zX (.conv .i64 lY),zX (.neg lD),zX (.bin .xor iP lW),zT 2 29] .ret))))))
theorem bWw : oE E bGQ R57 (bFR E) := λ σ h => by kernel_rfl
def D57 : DF := ⟨1, 30, bGQ, R57⟩
def S57 : cE := oF (bFR E)
theorem bJP : SQ D57 S57 := λ E => oJ (d := D57) (bWw E) rfl
def R58 : List RV := [(.r p2)]
def bFQ (r0 : DV) (h : H) : aU := wK (aD E 57 [r0] h) λ x1 h2 => wK (aD E 109 [r0, x1] h2) λ x3 h4 => vK (aI 0 x3) λ x5 => vK (aI 1 x3) λ x6 => some (x5, h4)
def bGP : DC := (zs 2 [zX (.mv (.c (.str [])))] (zs 6 [zM 0,zM 0,zF 57 [o7],zF 109 [o6,o8],zT 5 9,zX (.ext 0 o5),zX (.ext 1 o5),zT 3 10,zT 4 11] (zs 2 [zT 12 3,zM 12] .ret)))
theorem bWv : oE E bGP R58 (bFQ E) := λ σ h => by kernel_rfl
def D58 : DF := ⟨1, 13, bGP, R58⟩
def S58 : cE := oF (bFQ E)
theorem bJO : SQ D58 S58 := λ E => oJ (d := D58) (bWv E) rfl
def R59 : List RV := [(.r p2)]
def bFP (E : bO) (r0 : DV) (h : H) : aU := vK (dT .ptr false h.get r0 .nilp) λ x1 => bK x1 (some ((ii 1), h)) (vK (aL r0) λ x2 => vK (aF 1 x2) λ x3 => vK (aG h.get x3) λ x4 => bE x4 false (λ kk => kk r0 h) h λ x5 h6 => bE x4 false (λ kk => vK (aL x5) λ v => kk v h6) h6 λ x7 h8 => bE x4 false (λ kk => vK (aF 0 x7) λ v => kk v h8) h8 λ x9 h10 => bE x4 false (λ kk => vK (aG h10.get x9) λ v => kk v h10) h10 λ x11 h12 => bE x4 false (λ kk => vK (dD x11 (.str [])) λ v => kk v h12) h12 λ x13 h14 => vK (aX x4 (.bool true) x13) λ x15 => bK x15 (some ((ii 3), h14)) (some ((ii 0), h14)))
def bGO : DC := (zs 2 [zX (.mv (zk 0))] (zq (.block 0 (zs 4 [zM 0,zX (.eqv .ptr false o4 (.c .nilp)),zT 3 5] (.cond o3 (zs 2 [zX (.mv (zk 1))] .ret) (zs 7 [zM 0,zX (.nilchk o7),zX (.fa 1 o8),zX (.ld o9),zM 10,zL 11 false 0,zG 11 false (.nilchk fV),zG 11 false (.fa 0 gN),zG 11 false (.ld iU),zG 11 false (.bin .neq jO (.c (.str []))),zX (.pick gE (.c (.bool true)) iC),zT 6 17] (.cond o6 (zs 2 [zX (.mv (zk 3))] .ret) .skip))))) (zs 2 [zX (.mv (zk 0))] .ret)))
theorem bWu : oE E bGO R59 (bFP E) := λ σ h => by kernel_rfl
def D59 : DF := ⟨1, 18, bGO, R59⟩
def S59 : cE := oF (bFP E)
theorem bJN : SQ D59 S59 := λ E => oJ (d := D59) (bWu E) rfl
def R65 : List RV := [(.r p0)]
def aRe (E : bO) (h : H) : aU := vK (eI [.nils] []) λ x1 => eC x1 h λ x2 h3 => some (x2, h3)
def bGN : DC := (zs 0 [zX (.mv (.c .nilp))] (zs 1 [zX (.bld [.nils] []),zX (.box o1),zT 0 2] .ret))
theorem bWt : iA0 E bGN R65 (aRe E) := λ σ h => by kernel_rfl
def D65 : DF := ⟨0, 3, bGN, R65⟩
def S65 : cE := fA0 (aRe E)
theorem bJM : SQ D65 S65 := λ E => eA0 (d := D65) (bWt E) rfl
def R66 : List RV := [(.cells p6 2),(.r p7)]
def aHv (E : bO) (r2 r3 r6 r11 r12 : DV) (h : H) : aU := vK (aF 0 r3) λ x1 => vK (aG h.get x1) λ x2 => vK (dK 5 x2 none (some r12)) λ x3 => vK (aF 1 r3) λ x4 => vK (aG h.get x4) λ x5 => vK (eI [(ii 0), (ii 0), (ii 0), (.str []), .nils] [(0, 1, r11), (1, 1, x5), (2, 1, r2)]) λ x6 => gO 1 5 [(ii 0), (ii 0), (ii 0), (.str []), .nils] [(0, 5, x6)] h λ x7 h8 => vK (aF 0 r3) λ x9 => vK (aG h8.get x9) λ x10 => vK (dK 5 x10 (some r12) none) λ x11 => wK (cA 5 64 .nils x3 h8) λ x12 h13 => rK (rcK (aG h13.get x9) x10) <| rK (rcK (aG h13.get x4) x5) <| wK (cA 5 64 x12 x7 h13) λ x14 h15 => rK (rcK (aG h15.get x9) x10) <| wK (cA 5 64 x14 x11 h15) λ x16 h17 => vK (aF 0 r3) λ x18 => wK (bU 1 x18 x16 h17) λ x19 h20 => vK (aK 2 h20.get r3) λ x21 => wK (bU 2 r6 x21 h20) λ x22 h23 => vK (aK 2 h23.get r6) λ x24 => some ((.tup [x24, (ii 0)]), h23)
def bGJ : DC := (zq (zd 69 [yA 0 (zY 64 (.fa 0 o3)),yA 1 (zY 65 (.ld o64)),yA 2 (zT 66 12),yA 3 (zY 67 (.slL 5 o65 none (some o66))),yA 5 (zM 11),yA 6 (zX (.fa 1 o3)),yA 7 (zX (.ld o70)),yA 8 (zM 2),yA 9 (zX (.bld [(.int .i64 (.ofNat 0)),(.int .i64 (.ofNat 0)),(.int .i64 (.ofNat 0)),(.str []),.nils] [(0,1,o69),(1,1,o71),(2,1,o72)])),yA 10 (zX (.bsl 1 5 [(.int .i64 (.ofNat 0)),(.int .i64 (.ofNat 0)),(.int .i64 (.ofNat 0)),(.str []),.nils] [(0,5,o73)])),yA 12 (zY 76 (.fa 0 o3)),yA 13 (zY 77 (.ld o76)),yA 14 (zT 78 12),yA 15 (zY 79 (.slL 5 o77 (some o78) none)),yB 4 (zD ⟨(some p68),none,(.w (.app 5 64 (.c .nils) o67))⟩) [13,7] false,yB 11 (zD ⟨(some p75),none,(.w (.app 5 64 o68 o74))⟩) [13] false,yA 16 (zD ⟨(some p80),none,(.w (.app 5 64 o75 o79))⟩),yA 17 (zY 81 (.fa 0 o3)),yA 18 (zW (.st 1 o81 o80))]) (zs 7 [zY 82 (.ldN 2 o3),zW (.st 2 o6 o82),zX (.mv (zk 0))] .ret))
def aMD (r2 r3 r6 r11 : DV) (i4 : DV → H → aU) (r12 : DV) (h : H) : aU := vK (aF 0 r3) λ x1 => vK (aG h.get x1) λ x2 => vK (bX x2) λ x3 => vK (cT r12 x3) λ x4 => bE x4 true (λ kk => vK (aF 0 r3) λ v => kk v h) h λ x5 h6 => bE x4 true (λ kk => vK (aG h6.get x5) λ v => kk v h6) h6 λ x7 h8 => bE x4 true (λ kk => kk r12 h8) h8 λ x9 h10 => bE x4 true (λ kk => vK (bR 5 x7 x9) λ v => kk v h10) h10 λ x11 h12 => bE x4 true (λ kk => vK (aF 0 x11) λ v => kk v h12) h12 λ x13 h14 => bE x4 true (λ kk => vK (aG h14.get x13) λ v => kk v h14) h14 λ x15 h16 => bE x4 true (λ kk => kk r11 h16) h16 λ x17 h18 => bE x4 true (λ kk => vK (cT x15 x17) λ v => kk v h18) h18 λ x19 h20 => vK (aX x4 x19 (.bool false)) λ x21 => bK x21 (vK (bJ r12 (ii 1)) λ x22 => i4 x22 h20) (aHv E r2 r3 r6 r11 r12 h20)
def aHr (r2 r3 r6 r11 : DV) (n : Nat) : DV → H → aU := Nat.rec (motive := λ _ => DV → H → aU) (λ _ _ => none) (λ _ i => aMD E r2 r3 r6 r11 i) n
def bGI : DC := (.loop (zq (zs 47 [zM 12,zX (.fa 0 o3),zX (.ld o48),zX (.lenL o49),zX (.bin .lss o47 o50),zM 51,zG 52 true (.fa 0 o3),zG 52 true (.ld o53),zL 52 true 12,zG 52 true (.iaS 5 o54 o55),zG 52 true (.fa 0 o56),zG 52 true (.ld o57),zL 52 true 11,zG 52 true (.bin .lss o58 o59),zX (.pick o52 o60 (.c (.bool false)))] (.cond o61 .skip (.exit 2))) (.block 3 (zr 62 [zM 12,zX (.bin .add o62 (zk 1)),zT 12 63]))))
def aMo (r2 r3 r6 r8 r9 r11 : DV) (h : H) : aU := vK (nO r11 (ii 256)) λ x1 => bK x1 (vK (aK 2 h.get r3) λ x2 => wK (bU 2 r6 x2 h) λ x3 h4 => vK (aK 2 h4.get r6) λ x5 => some ((.tup [x5, (ii 5)]), h4)) (vK (aK 2 h.get r3) λ x6 => wK (aD E 123 [x6, r8, r9, r11] h) λ x7 h8 => wK (bU 2 r3 x7 h8) λ x9 h10 => vK (aF 1 r3) λ x11 => vK (aG h10.get x11) λ x12 => vK (bJ x12 (ii 1)) λ x13 => vK (aF 1 r3) λ x14 => wK (bU 1 x14 x13 h10) λ x15 h16 => aHr E r2 r3 r6 r11 aR (ii 0) h16)
def bGL : DC := (zq (zs 35 [zM 11,zX (.bin .geq rA (zk 256))] (.cond mW (zs 7 [zY 37 (.ldN 2 o3),zW (.st 2 o6 pA),zX (.mv (zk 5))] .ret) .skip)) (zs 38 [zX (.ldN 2 o3),zM 8,zM 9,zM 11,zF 123 [tF,rN,qZ,wO],zW (.st 2 o3 uC)] (zs 43 [zX (.fa 1 o3),zX (.ld uB),zX (.bin .add tZ (zk 1)),zX (.fa 1 o3),zW (.st 1 xY zV)] (zs 12 [zX (.mv (zk 0))] (zq (.block 2 bGI) bGJ)))))
def aME (r2 r3 r6 r8 r9 : DV) (i2 : DV → H → aU) (r11 : DV) (h : H) : aU := vK (aK 2 h.get r3) λ x1 => wK (aD E 122 [x1, r11] h) λ x2 h3 => vK (nO x2 (ii 0)) λ x4 => bK x4 (vK (bJ r11 (ii 1)) λ x5 => i2 x5 h3) (aMo E r2 r3 r6 r8 r9 r11 h3)
def aHs (r2 r3 r6 r8 r9 : DV) (n : Nat) : DV → H → aU := Nat.rec (motive := λ _ => DV → H → aU) (λ _ _ => none) (λ _ i => aME E r2 r3 r6 r8 r9 i) n
def bGK : DC := (.loop (zq (zs 29 [zX (.ldN 2 o3),zM 11,zF 122 [mN,mD],zX (.bin .geq oD (zk 0))] (.cond lC .skip (.exit 0))) (.block 1 (zr 33 [zM 11,zX (.bin .add mX (zk 1)),zT 11 34]))))
def aRd (r0 r1 r2 : DV) (h : H) : aU := eC r0 h λ x1 h2 => eD 2 2 (.list [.nils, (ii 0)]) h2 λ x3 h4 => vK (aK 2 h4.get x1) λ x5 => wK (aD E 120 [x5, r1] h4) λ x6 h7 => vK (aI 0 x6) λ x8 => vK (aI 1 x6) λ x9 => vK (aI 2 x6) λ x10 => vK (dD x10 (ii 0)) λ x11 => bK x11 (vK (aK 2 h7.get x1) λ x12 => wK (bU 2 x3 x12 h7) λ x13 h14 => vK (aK 2 h14.get x3) λ x15 => some ((.tup [x15, x10]), h14)) (vK (aK 2 h7.get x1) λ x16 => wK (aD E 121 [x16, x8, x9] h7) λ x17 h18 => bK x17 (vK (aK 2 h18.get x1) λ x19 => wK (bU 2 x3 x19 h18) λ x20 h21 => vK (aK 2 h21.get x3) λ x22 => some ((.tup [x22, (ii 6)]), h21)) (aHs E r2 x1 x3 x8 x9 aR (ii 2) h18))
def bGM : DC := (zs 6 [zY 3 (.box o0),zX (.alc 2 2 (.list [.nils,(.int .i64 (.ofNat 0))])),zX (.mv (zk 0))] (zs 14 [zX (.ldN 2 o3),zM 1,zF 120 [iU,jO],zT 13 16,zX (.ext 0 gN),zX (.ext 1 gN),zX (.ext 2 gN),zT 8 17,zT 9 18,zT 10 19] (zq (zs 20 [zM 10,zX (.bin .neq jD (zk 0))] (.cond iG (zs 22 [zX (.ldN 2 o3),zM 10,zW (.st 2 o6 kD),zT 7 23] .ret) .skip)) (zq (zs 24 [zX (.ldN 2 o3),zM 8,zM 9,zF 121 [iP,kU,lY]] (.cond lD (zs 7 [zY 28 (.ldN 2 o3),zW (.st 2 o6 lW),zX (.mv (zk 6))] .ret) .skip)) (zs 11 [zX (.mv (zk 2))] (zq (.block 0 bGK) bGL))))))
theorem bWp : Is E bGJ (bN R66) (λ σ h => aHv E (σ p2) (σ p3) (σ p6) (σ p11) (σ p12) h) := λ σ h => by kernel_rfl
abbrev bVy : gS (DV × H) := (cF (λ σ h => aHv E (σ p2) (σ p3) (σ p6) (σ p11) (σ p12) h) (bN R66))
theorem bWo : Is E bGI (bL 2 (bVy E)) (λ σ h => aHr E (σ p2) (σ p3) (σ p6) (σ p11) aR (σ p12) h) := Is.loop (λ n4 σ h => aHr E (σ p2) (σ p3) (σ p6) (σ p11) n4 (σ p12) h) (by kernel_rfl) λ n4 => Is.as (Is.leaf _) λ σ h => by kernel_rfl
theorem bWr : Is E bGL (bN R66) (λ σ h => aMo E (σ p2) (σ p3) (σ p6) (σ p8) (σ p9) (σ p11) h) := Is.as (Is.seq (Is.seq (Is.seq (Is.seq (Is.seq (bWp E) (Is.block (bWo E))) (Is.leaf _)) (Is.leaf _)) (Is.leaf _)) (Is.leaf _)) λ σ h => by kernel_rfl
abbrev bVx : gS (DV × H) := (cF (λ σ h => aMo E (σ p2) (σ p3) (σ p6) (σ p8) (σ p9) (σ p11) h) (bN R66))
theorem bWq : Is E bGK (bL 0 (bVx E)) (λ σ h => aHs E (σ p2) (σ p3) (σ p6) (σ p8) (σ p9) aR (σ p11) h) := Is.loop (λ n2 σ h => aHs E (σ p2) (σ p3) (σ p6) (σ p8) (σ p9) n2 (σ p11) h) (by kernel_rfl) λ n2 => Is.as (Is.leaf _) λ σ h => by kernel_rfl
theorem bWs : iA3 E bGM R66 (aRd E) := Is.as (Is.seq (Is.seq (Is.seq (Is.seq (Is.seq (Is.seq (bWr E) (Is.block (bWq E))) (Is.leaf _)) (Is.leaf _)) (Is.leaf _)) (Is.leaf _)) (Is.leaf _)) λ σ h => by kernel_rfl
def D66 : DF := ⟨3, 83, bGM, R66⟩
def S66 : cE := fA3 (aRd E)
theorem bJL : SQ D66 S66 := λ E => eA3 (d := D66) (bWs E) rfl
def R67 : List RV := [(.cells p4 2),(.r p5)]
def aWT (E : bO) (r2 r4 : DV) (h : H) : aU := vK (aK 2 h.get r2) λ x1 => wK (bU 2 r4 x1 h) λ x2 h3 => vK (aK 2 h3.get r4) λ x4 => some ((.tup [x4, (ii 0)]), h3)
def bGG : DC := (zs 5 [zY 54 (.ldN 2 o2),zW (.st 2 o4 o54),zX (.mv (zk 0))] .ret)
def aRc (r0 r1 : DV) (h : H) : aU := eC r0 h λ x1 h2 => eD 2 2 (.list [.nils, (ii 0)]) h2 λ x3 h4 => vK (aK 2 h4.get x1) λ x5 => wK (aD E 124 [x5, r1] h4) λ x6 h7 => vK (aI 0 x6) λ x8 => vK (aI 1 x6) λ x9 => vK (dD x9 (ii 0)) λ x10 => bK x10 (vK (aK 2 h7.get x1) λ x11 => wK (bU 2 x3 x11 h7) λ x12 h13 => vK (aK 2 h13.get x3) λ x14 => some ((.tup [x14, x9]), h13)) (vK (aF 0 x1) λ x15 => vK (aG h7.get x15) λ x16 => vK (bR 5 x16 x8) λ x17 => vK (aF 2 x17) λ x18 => vK (aG h7.get x18) λ x19 => vK (bV x19 (ii 2)) λ x20 => bK x20 (vK (aK 2 h7.get x1) λ x21 => wK (bU 2 x3 x21 h7) λ x22 h23 => vK (aK 2 h23.get x3) λ x24 => some ((.tup [x24, (ii 12)]), h23)) (vK (aF 0 x1) λ x25 => vK (aG h7.get x25) λ x26 => vK (bR 5 x26 x8) λ x27 => vK (aF 0 x27) λ x28 => vK (aG h7.get x28) λ x29 => vK (aK 2 h7.get x1) λ x30 => wK (aD E 120 [x30, r1] h7) λ x31 h32 => vK (aI 0 x31) λ x33 => vK (aI 1 x31) λ x34 => vK (aI 2 x31) λ x35 => vK (aK 2 h32.get x1) λ x36 => wK (aD E 125 [x36, x33, x34] h32) λ x37 h38 => wK (bU 2 x1 x37 h38) λ x39 h40 => vK (aK 2 h40.get x1) λ x41 => wK (aD E 126 [x41, x29] h40) λ x42 h43 => vK (bV x42 (ii 0)) λ x44 => bK x44 (vK (aK 2 h43.get x1) λ x45 => wK (aD E 127 [x45, x29] h43) λ x46 h47 => wK (bU 2 x1 x46 h47) λ x48 h49 => aWT E x1 x3 h49) (aWT E x1 x3 h43)))
def bGH : DC := (zs 4 [zY 2 (.box o0),zX (.alc 2 2 (.list [.nils,(.int .i64 (.ofNat 0))])),zX (.mv (zk 0))] (zs 13 [zX (.ldN 2 o2),zM 1,zF 124 [gN,iU],zT 12 15,zX (.ext 0 fV),zX (.ext 1 fV),zT 6 16,zT 7 17] (zq (zs 18 [zM 7,zX (.bin .neq iH (zk 0))] (.cond iQ (zs 20 [zX (.ldN 2 o2),zM 7,zW (.st 2 o4 jD),zT 5 21] .ret) .skip)) (zq (zs 22 [zX (.fa 0 o2),zX (.ld kD),zM 6,zX (.iaS 5 iD iP),zX (.fa 2 kU),zX (.ld lY),zX (.bin .eql lD (zk 2))] (.cond lW (zs 5 [zY 29 (.ldN 2 o2),zW (.st 2 o4 mN),zX (.mv (zk 12))] .ret) .skip)) (zs 30 [zX (.fa 0 o2),zX (.ld mD),zM 6,zX (.iaS 5 oD lC),zX (.fa 0 mX),zX (.ld mR),zT 8 35] (zs 37 [zX (.ldN 2 o2),zM 1,zF 120 [pA,tF],zT 36 39,zX (.ext 0 mW),zX (.ext 1 mW),zX (.ext 2 mW),zT 9 40,zT 10 41,zT 11 42] (zs 43 [zX (.ldN 2 o2),zM 9,zM 10,zF 125 [uB,tZ,zV],zW (.st 2 o2 xY)] (zq (zs 47 [zX (.ldN 2 o2),zM 8,zF 126 [o47,o48],zX (.bin .eql o49 (zk 0))] (.cond o50 (zr 51 [zX (.ldN 2 o2),zM 8,zF 127 [o51,o52],zW (.st 2 o2 o53)]) .skip)) bGG))))))))
theorem bWm : Is E bGG (bN R67) (λ σ h => aWT E (σ p2) (σ p4) h) := λ σ h => by kernel_rfl
theorem bWn : nK E bGH R67 (aRc E) := Is.as (Is.seq (Is.seq (Is.seq (Is.seq (Is.seq (Is.seq (Is.seq (Is.seq (bWm E) (Is.leaf _)) (Is.leaf _)) (Is.leaf _)) (Is.leaf _)) (Is.leaf _)) (Is.leaf _)) (Is.leaf _)) (Is.leaf _)) λ σ h => by kernel_rfl
def D67 : DF := ⟨2, 55, bGH, R67⟩
def S67 : cE := nL (aRc E)
theorem bJJ : SQ D67 S67 := λ E => nY (d := D67) (bWn E) rfl
def R68 : List RV := [(.cells p4 2),(.r p5)]
def aRb (r0 r1 : DV) (h : H) : aU := eC r0 h λ x1 h2 => eD 2 2 (.list [.nils, (ii 0)]) h2 λ x3 h4 => vK (aK 2 h4.get x1) λ x5 => wK (aD E 124 [x5, r1] h4) λ x6 h7 => vK (aI 0 x6) λ x8 => vK (aI 1 x6) λ x9 => vK (dD x9 (ii 0)) λ x10 => bK x10 (vK (aK 2 h7.get x1) λ x11 => wK (bU 2 x3 x11 h7) λ x12 h13 => vK (aK 2 h13.get x3) λ x14 => some ((.tup [x14, x9]), h13)) (vK (aF 0 x1) λ x15 => vK (aG h7.get x15) λ x16 => vK (bR 5 x16 x8) λ x17 => vK (aF 2 x17) λ x18 => vK (aG h7.get x18) λ x19 => vK (bV x19 (ii 1)) λ x20 => bK x20 (vK (aK 2 h7.get x1) λ x21 => wK (bU 2 x3 x21 h7) λ x22 h23 => vK (aK 2 h23.get x3) λ x24 => some ((.tup [x24, (ii 13)]), h23)) (vK (aF 0 x1) λ x25 => vK (aG h7.get x25) λ x26 => vK (bR 5 x26 x8) λ x27 => vK (aF 0 x27) λ x28 => vK (aG h7.get x28) λ x29 => vK (bV x29 (ii 1)) λ x30 => bK x30 (vK (aK 2 h7.get x1) λ x31 => wK (bU 2 x3 x31 h7) λ x32 h33 => vK (aK 2 h33.get x3) λ x34 => some ((.tup [x34, (ii 1)]), h33)) (vK (aF 0 x1) λ x35 => vK (aG h7.get x35) λ x36 => vK (bR 5 x36 x8) λ x37 => vK (aF 4 x37) λ x38 => vK (aG h7.get x38) λ x39 => vK (bX x39) λ x40 => vK (eF x40 (ii 0)) λ x41 => bK x41 (vK (aK 2 h7.get x1) λ x42 => wK (bU 2 x3 x42 h7) λ x43 h44 => vK (aK 2 h44.get x3) λ x45 => some ((.tup [x45, (ii 14)]), h44)) (vK (aF 0 x1) λ x46 => vK (aG h7.get x46) λ x47 => vK (bR 5 x47 x8) λ x48 => vK (aF 0 x48) λ x49 => vK (aG h7.get x49) λ x50 => vK (aK 2 h7.get x1) λ x51 => wK (aD E 120 [x51, r1] h7) λ x52 h53 => vK (aI 0 x52) λ x54 => vK (aI 1 x52) λ x55 => vK (aI 2 x52) λ x56 => vK (aK 2 h53.get x1) λ x57 => wK (aD E 125 [x57, x54, x55] h53) λ x58 h59 => wK (aD E 127 [x58, x50] h59) λ x60 h61 => wK (bU 2 x3 x60 h61) λ x62 h63 => vK (aK 2 h63.get x3) λ x64 => some ((.tup [x64, (ii 0)]), h63)))))
def bGF : DC := (zs 4 [zY 2 (.box o0),zX (.alc 2 2 (.list [.nils,(.int .i64 (.ofNat 0))])),zX (.mv (zk 0))] (zs 13 [zX (.ldN 2 o2),zM 1,zF 124 [gN,iU],zT 12 15,zX (.ext 0 fV),zX (.ext 1 fV),zT 6 16,zT 7 17] (zq (.block 0 (zs 19 [zM 7,zX (.bin .neq iQ (zk 0)),zT 18 20] (.cond iH (zs 21 [zX (.ldN 2 o2),zM 7,zW (.st 2 o4 iG),zT 5 22] .ret) (zs 24 [zX (.fa 0 o2),zX (.ld iP),zM 6,zX (.iaS 5 kU lY),zX (.fa 2 lD),zX (.ld lW),zX (.bin .eql mN (zk 1)),zT 23 30] (.cond iD (zs 5 [zY 31 (.ldN 2 o2),zW (.st 2 o4 oD),zX (.mv (zk 13))] .ret) (zs 33 [zX (.fa 0 o2),zX (.ld mX),zM 6,zX (.iaS 5 mR rA),zX (.fa 0 mW),zX (.ld pA),zX (.bin .eql tF (zk 1)),zT 32 39] (.cond lC (zs 5 [zY 40 (.ldN 2 o2),zW (.st 2 o4 qZ),zX (.mv (zk 1))] .ret) (zs 42 [zX (.fa 0 o2),zX (.ld uC),zM 6,zX (.iaS 5 uB tZ),zX (.fa 4 zV),zX (.ld xY),zX (.lenL o47),zX (.bin .gtr o48 (zk 0)),zT 41 49] (.cond wO (zs 5 [zY 50 (.ldN 2 o2),zW (.st 2 o4 o50),zX (.mv (zk 14))] .ret) .skip))))))))) (zs 51 [zX (.fa 0 o2),zX (.ld o51),zM 6,zX (.iaS 5 o52 o53),zX (.fa 0 o54),zX (.ld o55),zT 8 56] (zs 58 [zX (.ldN 2 o2),zM 1,zF 120 [o58,o59],zT 57 60,zX (.ext 0 o57),zX (.ext 1 o57),zX (.ext 2 o57),zT 9 61,zT 10 62,zT 11 63] (zs 64 [zX (.ldN 2 o2),zM 9,zM 10,zF 125 [o64,o65,o66],zM 8,zF 127 [o67,o68],zW (.st 2 o4 o69),zY 5 (.mv (zk 0))] .ret))))))
theorem bWl : nK E bGF R68 (aRb E) := λ σ h => by kernel_rfl
def D68 : DF := ⟨2, 70, bGF, R68⟩
def S68 : cE := nL (aRb E)
theorem bJI : SQ D68 S68 := λ E => nY (d := D68) (bWl E) rfl
def R69 : List RV := [(.cells p6 2),(.r p7)]
def aRa (r0 r1 r2 : DV) (h : H) : aU := eC r0 h λ x1 h2 => eD 2 2 (.list [.nils, (ii 0)]) h2 λ x3 h4 => vK (aK 2 h4.get x1) λ x5 => wK (aD E 124 [x5, r1] h4) λ x6 h7 => vK (aI 0 x6) λ x8 => vK (aI 1 x6) λ x9 => vK (dD x9 (ii 0)) λ x10 => bK x10 (vK (aK 2 h7.get x1) λ x11 => wK (bU 2 x3 x11 h7) λ x12 h13 => vK (aK 2 h13.get x3) λ x14 => some ((.tup [x14, x9]), h13)) (vK (aK 2 h7.get x1) λ x15 => wK (aD E 120 [x15, r2] h7) λ x16 h17 => vK (aI 0 x16) λ x18 => vK (aI 1 x16) λ x19 => vK (aI 2 x16) λ x20 => vK (dD x20 (ii 0)) λ x21 => bK x21 (vK (aK 2 h17.get x1) λ x22 => wK (bU 2 x3 x22 h17) λ x23 h24 => vK (aK 2 h24.get x3) λ x25 => some ((.tup [x25, x20]), h24)) (vK (aF 0 x1) λ x26 => vK (aG h17.get x26) λ x27 => vK (bR 5 x27 x8) λ x28 => vK (aF 0 x28) λ x29 => vK (aG h17.get x29) λ x30 => vK (bV x30 (ii 1)) λ x31 => bE x31 false (λ kk => kk r1 h17) h17 λ x32 h33 => bE x31 false (λ kk => kk r2 h33) h33 λ x34 h35 => bE x31 false (λ kk => wK (aD E 128 [x32, x34] h35) kk) h35 λ x36 h37 => vK (aX x31 (.bool true) x36) λ x38 => bK x38 (vK (aK 2 h37.get x1) λ x39 => wK (bU 2 x3 x39 h37) λ x40 h41 => vK (aK 2 h41.get x3) λ x42 => some ((.tup [x42, (ii 1)]), h41)) (wK (aD E 129 [r1] h37) λ x43 h44 => vK (aI 0 x43) λ x45 => vK (aI 1 x43) λ x46 => wK (aD E 129 [r2] h44) λ x47 h48 => vK (aI 0 x47) λ x49 => vK (aI 1 x47) λ x50 => vK (bV x45 x49) λ x51 => bK x51 (vK (aK 2 h48.get x1) λ x52 => wK (bU 2 x3 x52 h48) λ x53 h54 => vK (aK 2 h54.get x3) λ x55 => some ((.tup [x55, (ii 0)]), h54)) (vK (aK 2 h48.get x1) λ x56 => wK (aD E 120 [x56, r2] h48) λ x57 h58 => vK (aI 0 x57) λ x59 => vK (aI 1 x57) λ x60 => vK (aI 2 x57) λ x61 => vK (aK 2 h58.get x1) λ x62 => wK (aD E 121 [x62, x59, x19] h58) λ x63 h64 => bK x63 (vK (aK 2 h64.get x1) λ x65 => wK (bU 2 x3 x65 h64) λ x66 h67 => vK (aK 2 h67.get x3) λ x68 => some ((.tup [x68, (ii 6)]), h67)) (vK (aK 2 h64.get x1) λ x69 => wK (aD E 120 [x69, r1] h64) λ x70 h71 => vK (aI 0 x70) λ x72 => vK (aI 1 x70) λ x73 => vK (aI 2 x70) λ x74 => vK (aK 2 h71.get x1) λ x75 => wK (aD E 125 [x75, x72, x73] h71) λ x76 h77 => wK (bU 2 x1 x76 h77) λ x78 h79 => vK (aK 2 h79.get x1) λ x80 => wK (aD E 123 [x80, x59, x19, x30] h79) λ x81 h82 => wK (bU 2 x3 x81 h82) λ x83 h84 => vK (aK 2 h84.get x3) λ x85 => some ((.tup [x85, (ii 0)]), h84))))))
def bGE : DC := (zs 6 [zY 3 (.box o0),zX (.alc 2 2 (.list [.nils,(.int .i64 (.ofNat 0))])),zX (.mv (zk 0))] (zs 24 [zX (.ldN 2 o3),zM 1,zF 124 [iP,kU],zT 23 26,zX (.ext 0 iD),zX (.ext 1 iD),zT 8 27,zT 9 28] (zq (zs 29 [zM 9,zX (.bin .neq mN (zk 0))] (.cond mD (zs 31 [zX (.ldN 2 o3),zM 9,zW (.st 2 o6 oD),zT 7 32] .ret) .skip)) (zs 34 [zX (.ldN 2 o3),zM 2,zF 120 [mR,rA],zT 33 36,zX (.ext 0 mX),zX (.ext 1 mX),zX (.ext 2 mX),zT 10 37,zT 11 38,zT 9 39] (zq (zs 40 [zM 9,zX (.bin .neq qZ (zk 0))] (.cond wO (zs 42 [zX (.ldN 2 o3),zM 9,zW (.st 2 o6 uC),zT 7 43] .ret) .skip)) (zs 44 [zX (.fa 0 o3),zX (.ld tZ),zM 8,zX (.iaS 5 zV xY),zX (.fa 0 o47),zX (.ld o48),zT 12 49] (zq (zs 50 [zM 12,zX (.bin .eql o50 (zk 1)),zM 51,zL 52 false 1,zL 52 false 2,zD ⟨(some p55),(some (p52,false)),(.c (.f 128 [o53,o54]))⟩,zY 56 (.pick o52 (.c (.bool true)) o55)] (.cond o56 (zs 7 [zY 57 (.ldN 2 o3),zW (.st 2 o6 o57),zX (.mv (zk 1))] .ret) .skip)) (zs 59 [zM 1,zF 129 [o59],zT 58 60,zX (.ext 0 o58),zX (.ext 1 o58),zT 13 61,zT 14 62] (zs 64 [zM 2,zF 129 [o64],zT 63 65,zX (.ext 0 o63),zX (.ext 1 o63),zT 15 66,zT 16 67] (zq (zs 68 [zM 13,zM 15,zX (.bin .eql o68 o69)] (.cond o70 (zs 7 [zY 71 (.ldN 2 o3),zW (.st 2 o6 o71),zX (.mv (zk 0))] .ret) .skip)) (zs 73 [zX (.ldN 2 o3),zM 2,zF 120 [o73,o74],zT 72 75,zX (.ext 0 o72),zX (.ext 1 o72),zX (.ext 2 o72),zT 17 76,zT 18 77,zT 19 78] (zq (zs 79 [zX (.ldN 2 o3),zM 17,zM 11,zF 121 [o79,o80,o81]] (.cond o82 (zs 7 [zY 83 (.ldN 2 o3),zW (.st 2 o6 o83),zX (.mv (zk 6))] .ret) .skip)) (zs 85 [zX (.ldN 2 o3),zM 1,zF 120 [o85,o86],zT 84 87,zX (.ext 0 o84),zX (.ext 1 o84),zX (.ext 2 o84),zT 20 88,zT 21 89,zT 22 90] (zs 91 [zX (.ldN 2 o3),zM 20,zM 21,zF 125 [o91,o92,o93],zW (.st 2 o3 o94)] (zs 95 [zX (.ldN 2 o3),zM 17,zM 11,zM 12,zF 123 [o95,o96,o97,o98],zW (.st 2 o6 o99),zY 7 (.mv (zk 0))] .ret)))))))))))))))
theorem bWk : iA3 E bGE R69 (aRa E) := λ σ h => by kernel_rfl
def D69 : DF := ⟨3, 100, bGE, R69⟩
def S69 : cE := fA3 (aRa E)
theorem bJH : SQ D69 S69 := λ E => eA3 (d := D69) (bWk E) rfl
def R70 : List RV := [(.cells p6 2),(.r p7)]
def aQZ (r0 r1 r2 : DV) (h : H) : aU := eC r0 h λ x1 h2 => eD 2 2 (.list [.nils, (ii 0)]) h2 λ x3 h4 => vK (aK 2 h4.get x1) λ x5 => wK (aD E 124 [x5, r1] h4) λ x6 h7 => vK (aI 0 x6) λ x8 => vK (aI 1 x6) λ x9 => vK (dD x9 (ii 0)) λ x10 => bK x10 (vK (aK 2 h7.get x1) λ x11 => wK (bU 2 x3 x11 h7) λ x12 h13 => vK (aK 2 h13.get x3) λ x14 => some ((.tup [x14, x9]), h13)) (vK (aK 2 h7.get x1) λ x15 => wK (aD E 120 [x15, r2] h7) λ x16 h17 => vK (aI 0 x16) λ x18 => vK (aI 1 x16) λ x19 => vK (aI 2 x16) λ x20 => vK (dD x20 (ii 0)) λ x21 => bK x21 (vK (aK 2 h17.get x1) λ x22 => wK (bU 2 x3 x22 h17) λ x23 h24 => vK (aK 2 h24.get x3) λ x25 => some ((.tup [x25, x20]), h24)) (vK (aF 0 x1) λ x26 => vK (aG h17.get x26) λ x27 => vK (bR 5 x27 x8) λ x28 => vK (aF 2 x28) λ x29 => vK (aG h17.get x29) λ x30 => vK (bV x30 (ii 2)) λ x31 => bK x31 (vK (aK 2 h17.get x1) λ x32 => wK (bU 2 x3 x32 h17) λ x33 h34 => vK (aK 2 h34.get x3) λ x35 => some ((.tup [x35, (ii 12)]), h34)) (vK (aK 2 h17.get x1) λ x36 => wK (aD E 121 [x36, x18, x19] h17) λ x37 h38 => bK x37 (vK (aK 2 h38.get x1) λ x39 => wK (bU 2 x3 x39 h38) λ x40 h41 => vK (aK 2 h41.get x3) λ x42 => some ((.tup [x42, (ii 6)]), h41)) (vK (aK 2 h38.get x1) λ x43 => vK (aF 0 x1) λ x44 => vK (aG h38.get x44) λ x45 => vK (bR 5 x45 x8) λ x46 => vK (aF 0 x46) λ x47 => vK (aG h38.get x47) λ x48 => wK (aD E 126 [x43, x48] h38) λ x49 h50 => vK (nO x49 (ii 100)) λ x51 => bK x51 (vK (aK 2 h50.get x1) λ x52 => wK (bU 2 x3 x52 h50) λ x53 h54 => vK (aK 2 h54.get x3) λ x55 => some ((.tup [x55, (ii 5)]), h54)) (vK (aK 2 h50.get x1) λ x56 => vK (aF 0 x1) λ x57 => vK (aG h50.get x57) λ x58 => vK (bR 5 x58 x8) λ x59 => vK (aF 0 x59) λ x60 => vK (aG h50.get x60) λ x61 => wK (aD E 123 [x56, x18, x19, x61] h50) λ x62 h63 => wK (bU 2 x3 x62 h63) λ x64 h65 => vK (aK 2 h65.get x3) λ x66 => some ((.tup [x66, (ii 0)]), h65))))))
def bGD : DC := (zs 6 [zY 3 (.box o0),zX (.alc 2 2 (.list [.nils,(.int .i64 (.ofNat 0))])),zX (.mv (zk 0))] (zs 13 [zX (.ldN 2 o3),zM 1,zF 124 [gN,iU],zT 12 15,zX (.ext 0 fV),zX (.ext 1 fV),zT 8 16,zT 9 17] (zq (zs 18 [zM 9,zX (.bin .neq iH (zk 0))] (.cond iQ (zs 20 [zX (.ldN 2 o3),zM 9,zW (.st 2 o6 jD),zT 7 21] .ret) .skip)) (zs 23 [zX (.ldN 2 o3),zM 2,zF 120 [iD,iP],zT 22 25,zX (.ext 0 kD),zX (.ext 1 kD),zX (.ext 2 kD),zT 10 26,zT 11 27,zT 9 28] (zq (.block 0 (zs 30 [zM 9,zX (.bin .neq mD (zk 0)),zT 29 31] (.cond mN (zs 32 [zX (.ldN 2 o3),zM 9,zW (.st 2 o6 lC),zT 7 33] .ret) (zs 35 [zX (.fa 0 o3),zX (.ld rA),zM 8,zX (.iaS 5 mW pA),zX (.fa 2 tF),zX (.ld rN),zX (.bin .eql qZ (zk 2)),zT 34 41] (.cond mR (zs 7 [zY 42 (.ldN 2 o3),zW (.st 2 o6 uC),zX (.mv (zk 12))] .ret) (zs 44 [zX (.ldN 2 o3),zM 10,zM 11,zF 121 [tZ,zV,xY],zT 43 47] (.cond uB (zs 7 [zY 48 (.ldN 2 o3),zW (.st 2 o6 o48),zX (.mv (zk 6))] .ret) (zq (zd 50 [yA 0 (zX (.ldN 2 o3)),yA 1 (zX (.fa 0 o3)),yA 2 (zX (.ld o51)),yA 3 (zM 8),yA 4 (zX (.iaS 5 o52 o53)),yA 5 (zX (.fa 0 o54)),yA 6 (zX (.ld o55)),yA 7 (zF 126 [o50,o56]),yA 8 (zX (.bin .geq o57 (zk 100))),yA 9 (zT 49 58)]) (.cond o49 (zs 7 [zY 59 (.ldN 2 o3),zW (.st 2 o6 o59),zX (.mv (zk 5))] .ret) .skip))))))))) (zq (zd 60 [yA 0 (zX (.ldN 2 o3)),yA 1 (zM 10),yA 2 (zM 11),yA 3 (zX (.fa 0 o3)),yA 4 (zX (.ld o63)),yA 5 (zM 8),yA 6 (zX (.iaS 5 o64 o65)),yA 7 (zX (.fa 0 o66)),yA 8 (zX (.ld o67)),yA 9 (zF 123 [o60,o61,o62,o68]),yA 10 (zW (.st 2 o6 o69)),yA 11 (zY 7 (.mv (zk 0)))]) .ret))))))
theorem bWj : iA3 E bGD R70 (aQZ E) := λ σ h => by kernel_rfl
def D70 : DF := ⟨3, 70, bGD, R70⟩
def S70 : cE := fA3 (aQZ E)
theorem bJG : SQ D70 S70 := λ E => eA3 (d := D70) (bWj E) rfl
def R71 : List RV := [(.cells p8 2),(.r p9)]
def aQY (r0 r1 r2 r3 : DV) (h : H) : aU := eC r0 h λ x1 h2 => eD 2 2 (.list [.nils, (ii 0)]) h2 λ x3 h4 => vK (aK 2 h4.get x1) λ x5 => wK (aD E 130 [x5, r1] h4) λ x6 h7 => vK (aI 0 x6) λ x8 => vK (aI 1 x6) λ x9 => vK (dD x9 (ii 0)) λ x10 => bK x10 (vK (aK 2 h7.get x1) λ x11 => wK (bU 2 x3 x11 h7) λ x12 h13 => vK (aK 2 h13.get x3) λ x14 => some ((.tup [x14, x9]), h13)) (vK (aK 2 h7.get x1) λ x15 => wK (aD E 90 [x15, x8, r2, r3] h7) λ x16 h17 => vK (aI 0 x16) λ x18 => vK (aI 1 x16) λ x19 => wK (bU 2 x3 x18 h17) λ x20 h21 => vK (aK 2 h21.get x3) λ x22 => some ((.tup [x22, x19]), h21))
def bGC : DC := (zs 8 [zY 4 (.box o0),zX (.alc 2 2 (.list [.nils,(.int .i64 (.ofNat 0))])),zX (.mv (zk 0))] (zs 13 [zX (.ldN 2 o4),zM 1,zF 130 [gN,iU],zT 12 15,zX (.ext 0 fV),zX (.ext 1 fV),zT 10 16,zT 11 17] (zq (zs 18 [zM 11,zX (.bin .neq iH (zk 0))] (.cond iQ (zs 20 [zX (.ldN 2 o4),zM 11,zW (.st 2 o8 jD),zT 9 21] .ret) .skip)) (zs 22 [zX (.ldN 2 o4),zM 10,zM 2,zM 3,zF 90 [kD,iD,iP,kU],zX (.ext 0 lY),zX (.ext 1 lY),zW (.st 2 o8 lD),zT 9 28] .ret))))
theorem bWi : iA4 E bGC R71 (aQY E) := λ σ h => by kernel_rfl
def D71 : DF := ⟨4, 29, bGC, R71⟩
def S71 : cE := fA4 (aQY E)
theorem bJF : SQ D71 S71 := λ E => eA4 (d := D71) (bWi E) rfl
def R72 : List RV := [(.cells p6 2),(.r p7)]
def aMn (r2 r3 r6 r8 r10 : DV) (h : H) : aU := vK (aK 2 h.get r3) λ x1 => vK (gX r10 none (some r2)) λ x2 => wK (aD E 132 [x1, r8, x2] h) λ x3 h4 => vK (aI 0 x3) λ x5 => vK (aI 1 x3) λ x6 => wK (bU 2 r6 x5 h4) λ x7 h8 => vK (aK 2 h8.get r6) λ x9 => some ((.tup [x9, x6]), h8)
def bGA : DC := (zq (zd 45 [yA 0 (zX (.ldN 2 o3)),yA 1 (zM 8),yA 2 (zM 10),yA 3 (zM 2),yA 4 (zX (.slS o47 none (some o48))),yA 5 (zF 132 [zV,xY,o49]),yA 6 (zX (.ext 0 o50)),yA 7 (zX (.ext 1 o50)),yA 8 (zW (.st 2 o6 o51)),yA 9 (zT 7 52)]) .ret)
def aQX (r0 r1 r2 : DV) (h : H) : aU := eC r0 h λ x1 h2 => eD 2 2 (.list [.nils, (ii 0)]) h2 λ x3 h4 => vK (aK 2 h4.get x1) λ x5 => wK (aD E 130 [x5, r1] h4) λ x6 h7 => vK (aI 0 x6) λ x8 => vK (aI 1 x6) λ x9 => vK (dD x9 (ii 0)) λ x10 => bK x10 (vK (aK 2 h7.get x1) λ x11 => wK (bU 2 x3 x11 h7) λ x12 h13 => vK (aK 2 h13.get x3) λ x14 => some ((.tup [x14, x9]), h13)) (vK (cT r2 (ii 0)) λ x15 => bE x15 false (λ kk => kk r2 h7) h7 λ x16 h17 => bE x15 false (λ kk => vK (eF x16 (ii 16384)) λ v => kk v h17) h17 λ x18 h19 => vK (aX x15 (.bool true) x18) λ x20 => bK x20 (vK (aK 2 h19.get x1) λ x21 => wK (bU 2 x3 x21 h19) λ x22 h23 => vK (aK 2 h23.get x3) λ x24 => some ((.tup [x24, (ii 1)]), h23)) (vK (aF 0 x1) λ x25 => vK (aG h19.get x25) λ x26 => vK (bR 5 x26 x8) λ x27 => vK (aF 3 x27) λ x28 => vK (aG h19.get x28) λ x29 => vK (bZ x29) λ x30 => vK (eF r2 x30) λ x31 => bK x31 (vK (bZ x29) λ x32 => vK (fA r2 x32) λ x33 => wK (aD E 131 [x33] h19) λ x34 h35 => vK (bJ x29 x34) λ x36 => aMn E r2 x1 x3 x8 x36 h35) (aMn E r2 x1 x3 x8 x29 h19)))
def bGB : DC := (zs 6 [zY 3 (.box o0),zX (.alc 2 2 (.list [.nils,(.int .i64 (.ofNat 0))])),zX (.mv (zk 0))] (zs 12 [zX (.ldN 2 o3),zM 1,zF 130 [fV,gN],zT 11 14,zX (.ext 0 gE),zX (.ext 1 gE),zT 8 15,zT 9 16] (zq (zs 17 [zM 9,zX (.bin .neq iT (zk 0))] (.cond iH (zs 19 [zX (.ldN 2 o3),zM 9,zW (.st 2 o6 iQ),zT 7 20] .ret) .skip)) (zq (zs 21 [zM 2,zX (.bin .lss iG (zk 0)),zM 22,zL 23 false 2,zG 23 false (.bin .gtr iP (zk 16384)),zX (.pick iD (.c (.bool true)) kU)] (.cond lY (zs 7 [zY 27 (.ldN 2 o3),zW (.st 2 o6 lD),zX (.mv (zk 1))] .ret) .skip)) (zs 28 [zX (.fa 0 o3),zX (.ld lW),zM 8,zX (.iaS 5 mN mD),zX (.fa 3 oD),zX (.ld lC),zT 10 33] (zq (zs 34 [zM 2,zM 10,zX (.lenS rA),zX (.bin .gtr mR mW)] (.cond pA (zr 38 [zM 10,zM 2,zM 10,zX (.lenS qZ),zX (.bin .sub rN wO),zF 131 [uC],zX (.bin .add tF uB),zT 10 44]) .skip)) bGA))))))
theorem bWg : Is E bGA (bN R72) (λ σ h => aMn E (σ p2) (σ p3) (σ p6) (σ p8) (σ p10) h) := λ σ h => by kernel_rfl
theorem bWh : iA3 E bGB R72 (aQX E) := Is.as (Is.seq (Is.seq (Is.seq (Is.seq (Is.seq (Is.seq (bWg E) (Is.leaf _)) (Is.leaf _)) (Is.leaf _)) (Is.leaf _)) (Is.leaf _)) (Is.leaf _)) λ σ h => by kernel_rfl
def D72 : DF := ⟨3, 53, bGB, R72⟩
def S72 : cE := fA3 (aQX E)
theorem bJE : SQ D72 S72 := λ E => eA3 (d := D72) (bWh E) rfl
def R74 : List RV := []
def aQW (r0 r1 : DV) (h : H) : aU := wK (aD E 48 [(ii 65536)] h) λ x1 h2 => wK (oN E r0 [x1] h2) λ x3 h4 => wK (aD E 52 [x1] h4) λ x5 h6 => vK (aI 0 x5) λ x7 => vK (aI 1 x5) λ x8 => vK (aG h6.get r1) λ x9 => wK (cA 1 1 x9 x7 h6) λ x10 h11 => wK (bU 1 r1 x10 h11) λ x12 h13 => some ((.tup []), h13)
def bGz : DC := (zs 6 [zF 48 [(zk 65536)],zT 3 6] (zs 7 [zM 0,zM 3,zD ⟨(some p9),none,(.c (.v o7 [o8]))⟩] (zs 11 [zM 3,zF 52 [gE],zT 10 12,zX (.ext 0 fS),zX (.ext 1 fS),zT 4 13,zT 5 14] (zr 15 [zX (.ld o1),zM 4,zD ⟨(some p17),none,(.w (.app 1 1 jO iC))⟩,zW (.st 1 o1 iT)]))))
theorem bWf : nK E bGz R74 (aQW E) := λ σ h => by kernel_rfl
def D74 : DF := ⟨2, 18, bGz, R74⟩
def S74 : cE := nL (aQW E)
theorem bJD : SQ D74 S74 := λ E => nY (d := D74) (bWf E) rfl
def R75 : List RV := []
def aQV (r0 r1 r2 : DV) (h : H) : aU := vK (aG h.get r1) λ x1 => vK (aL x1) λ x2 => vK (aF 512 x2) λ x3 => vK (aG h.get x3) λ x4 => wK (aD E 50 [r0, x4] h) λ x5 h6 => vK (aG h6.get r2) λ x7 => wK (aD E 50 [r0, x7] h6) λ x8 h9 => some ((.tup []), h9)
def bGy : DC := (zs 4 [zM 0,zX (.ld o1),zX (.nilchk o5),zX (.fa 512 o6),zX (.ld o7),zF 50 [o4,o8]] (zr 10 [zM 0,zX (.ld o2),zF 50 [fS,gE]]))
theorem bWe : iA3 E bGy R75 (aQV E) := λ σ h => by kernel_rfl
def D75 : DF := ⟨3, 13, bGy, R75⟩
def S75 : cE := fA3 (aQV E)
theorem bJC : SQ D75 S75 := λ E => eA3 (d := D75) (bWe E) rfl
def R76 : List RV := []
def aQU (r0 r1 r2 : DV) (h : H) : aU := vK (aG h.get r1) λ x1 => wK (aD E 50 [r0, x1] h) λ x2 h3 => vK (aF 0 r2) λ x4 => vK (aG h3.get x4) λ x5 => wK (aD E 50 [r0, x5] h3) λ x6 h7 => vK (aF 1 r2) λ x8 => vK (aG h7.get x8) λ x9 => wK (vJ E [(120, 217), (141, 221)] x9 [] h7) λ x10 h11 => wK (aD E 49 [r0, x10] h11) λ x12 h13 => vK (aF 1 r2) λ x14 => vK (aG h13.get x14) λ x15 => wK (vJ E [(120, 219), (141, 223)] x15 [] h13) λ x16 h17 => wK (aD E 51 [r0, x16] h17) λ x18 h19 => some ((.tup []), h19)
def bGx : DC := (zs 4 [zM 0,zX (.ld o1),zF 50 [o4,o5]] (zs 7 [zM 0,zX (.fa 0 o2),zX (.ld o8),zF 50 [o7,o9]] (zs 15 [zT 11 0,zY 12 (.fa 1 o2),zY 13 (.ld fV),zD ⟨(some p14),none,(.c (.m [(120,217),(141,221)] gN []))⟩,zF 49 [gE,iU]] (zr 20 [zT 16 0,zY 17 (.fa 1 o2),zY 18 (.ld iT),zD ⟨(some p19),none,(.c (.m [(120,219),(141,223)] iH []))⟩,zF 51 [iC,iQ]]))))
theorem bWd : iA3 E bGx R76 (aQU E) := λ σ h => by kernel_rfl
def D76 : DF := ⟨3, 21, bGx, R76⟩
def S76 : cE := fA3 (aQU E)
theorem bJB : SQ D76 S76 := λ E => eA3 (d := D76) (bWd E) rfl
def R77 : List RV := [(.r p2)]
def aWS (E : bO) (r3 : DV) (h : H) : aU := some (r3, h)
def bGv : DC := (zs 2 [zT 29 3,zM 29] .ret)
def aMC (r0 : DV) (i2 : DV → DV → H → aU) (r3 r4 : DV) (h : H) : aU := vK (bX r0) λ x1 => vK (cT r4 x1) λ x2 => bK x2 (vK (bR 2 r0 r4) λ x3 => vK (aF 0 x3) λ x4 => vK (aG h.get x4) λ x5 => vK (bR 2 r0 r4) λ x6 => vK (aF 1 x6) λ x7 => vK (aG h.get x7) λ x8 => wK (aD E 54 [x5] h) λ x9 h10 => rK (rcK (aG h10.get x7) x8) <| wK (aD E 53 [x8] h10) λ x11 h12 => vK (bJ x9 x11) λ x13 => vK (bJ r3 x13) λ x14 => vK (bJ r4 (ii 1)) λ x15 => i2 x14 x15 h12) (aWS E r3 h)
def aHq (r0 : DV) (n : Nat) : DV → DV → H → aU := Nat.rec (motive := λ _ => DV → DV → H → aU) (λ _ _ _ => none) (λ _ i => aMC E r0 i) n
def bGu : DC := (.loop (zq (zs 8 [zM 4,zM 0,zX (.lenL o9),zX (.bin .lss o8 fS)] (.cond gE .skip (.exit 0))) (zq (.block 1 (zd 21 [yA 0 (zT 14 3),yA 1 (zT 15 0),yA 2 (zT 16 4),yA 3 (zY 17 (.iaS 2 jO iC)),yA 4 (zY 18 (.fa 0 iT)),yA 5 (zY 19 (.ld iH)),yA 7 (zM 0),yA 8 (zM 4),yA 9 (zX (.iaS 2 iG kD)),yA 10 (zX (.fa 1 iD)),yA 11 (zX (.ld iP)),yB 6 (zD ⟨(some p20),none,(.c (.f 54 [iQ]))⟩) [11] false,yA 12 (zF 53 [kU]),yA 13 (zX (.bin .add jD lY)),yA 14 (zX (.bin .add iU lD)),yB 15 (zT 3 28) [] true])) (zr 12 [zM 4,zX (.bin .add fV (zk 1)),zT 4 13]))))
def aQT (r0 : DV) (h : H) : aU := vK (bX r0) λ x1 => wK (aD E 53 [x1] h) λ x2 h3 => aHq E r0 aR x2 (ii 0) h3
def bGw : DC := (zs 2 [zX (.mv (.c (.str [])))] (zs 5 [zM 0,zX (.lenL o5),zF 53 [o6],zT 3 7] (zq (zs 4 [zX (.mv (zk 0))] (.block 0 bGu)) bGv)))
theorem bWb : Is E bGv (bN R77) (λ σ h => aWS E (σ p3) h) := λ σ h => by kernel_rfl
abbrev bVw : gS (DV × H) := (cF (λ σ h => aWS E (σ p3) h) (bN R77))
theorem bWa : Is E bGu (bL 0 (bVw E)) (λ σ h => aHq E (σ p0) aR (σ p3) (σ p4) h) := Is.loop (λ n2 σ h => aHq E (σ p0) n2 (σ p3) (σ p4) h) (by kernel_rfl) λ n2 => Is.as (Is.leaf _) λ σ h => by kernel_rfl
theorem bWc : oE E bGw R77 (aQT E) := Is.as (Is.seq (Is.seq (Is.seq (bWb E) (Is.seq (Is.block (bWa E)) (Is.leaf _))) (Is.leaf _)) (Is.leaf _)) λ σ h => by kernel_rfl
def D77 : DF := ⟨1, 30, bGw, R77⟩
def S77 : cE := oF (aQT E)
theorem bJA : SQ D77 S77 := λ E => oJ (d := D77) (bWc E) rfl
def R78 : List RV := [(.r p2),(.r p3)]
def aWR (r4 r5 : DV) (h : H) : aU := wK (aD E 59 [r4] h) λ x1 h2 => vK (dD x1 (ii 0)) λ x3 => bE x3 false (λ kk => kk r5 h2) h2 λ x4 h5 => bE x3 false (λ kk => wK (aD E 135 [x4] h5) kk) h5 λ x6 h7 => bE x3 false (λ kk => vK (kT x6) λ v => kk v h7) h7 λ x8 h9 => vK (aX x3 (.bool true) x8) λ x10 => bK x10 (some ((.tup [.nilp, (ii 3)]), h9)) (some ((.tup [r5, (ii 0)]), h9))
def bGs : DC := (zq (zs 48 [zM 4,zF 59 [o48],zX (.bin .neq o49 (zk 0)),zM 50,zL 51 false 5,zD ⟨(some p53),(some (p51,false)),(.c (.f 135 [o52]))⟩,zD ⟨(some p54),(some (p51,false)),(.e (.not o53))⟩,zY 55 (.pick o51 (.c (.bool true)) o54)] (.cond o55 (zs 2 [zX (.mv (.c .nilp)),zX (.mv (zk 3))] .ret) .skip)) (zs 2 [zT 56 5,zM 56,zX (.mv (zk 0))] .ret))
def bYc (r4 r5 r34 : DV) (i2 : DV → DV → H → aU) (r7 r35 : DV) (h : H) : aU := vK (cT r35 r34) λ x1 => bK x1 (wK (aD E 134 [r5, r4, r7] h) λ x2 h3 => vK (aI 0 x2) λ x4 => vK (aI 1 x2) λ x5 => vK (kT x5) λ x6 => bK x6 (some ((.tup [.nilp, (ii 3)]), h3)) (vK (bJ r35 (ii 1)) λ x7 => i2 x4 x7 h3)) (aWR E r4 r5 h)
def aWx (r4 r5 r34 : DV) (n : Nat) : DV → DV → H → aU := Nat.rec (motive := λ _ => DV → DV → H → aU) (λ _ _ _ => none) (λ _ i => bYc E r4 r5 r34 i) n
def bGr : DC := (.loop (zs 36 [zX (.bin .lss rA mR)] (zq (.cond mW .skip (.exit 0)) (zq (.block 1 (zs 38 [zM 5,zM 4,zM 7,zF 134 [tF,rN,qZ],zT 37 41,zX (.ext 0 pA),zX (.ext 1 pA),zT 8 42,zT 9 43] (zq (zs 44 [zM 9,zX (.not tZ)] (.cond zV (zs 2 [zX (.mv (.c .nilp)),zX (.mv (zk 3))] .ret) .skip)) (zr 7 [zT 46 8,zM 46])))) (zr 35 [zY 47 (.bin .add rA (zk 1)),zM 47])))))
def bFO (r0 : DV) (h : H) : aU := wK (aD E 55 [r0] h) λ x1 h2 => vK (eI (zR [(ii 0), .nili] 256 ++ [(ii 0), (ii 0)]) []) λ x3 => eC x3 h2 λ x4 h5 => wK (aD E 57 [x1] h5) λ x6 h7 => vK (aL x4) λ x8 => vK (aF 512 x8) λ x9 => wK (bU 1 x9 x6 h7) λ x10 h11 => wK (aD E 57 [x1] h11) λ x12 h13 => vK (aL x4) λ x14 => vK (aF 512 x14) λ x15 => vK (aG h13.get x15) λ x16 => vK (cT x16 (ii 0)) λ x17 => bE x17 false (λ kk => kk x12 h13) h13 λ x18 h19 => bE x17 false (λ kk => vK (cT x18 (ii 0)) λ v => kk v h19) h19 λ x20 h21 => vK (aX x17 (.bool true) x20) λ x22 => bE x22 false (λ kk => kk x12 h21) h21 λ x23 h24 => bE x22 false (λ kk => vK (nO x23 (ii 256)) λ v => kk v h24) h24 λ x25 h26 => vK (aX x22 (.bool true) x25) λ x27 => bK x27 (some ((.tup [.nilp, (ii 3)]), h26)) (aWx E x1 x4 x12 aR (ii 0) (ii 0) h26)
def bGt : DC := (zs 2 [zX (.mv (.c .nilp)),zX (.mv (zk 0))] (zs 10 [zM 0,zF 55 [fS],zX (.bld (zR [(.int .i64 (.ofNat 0)),.nili] 256 ++ [(.int .i64 (.ofNat 0)),(.int .i64 (.ofNat 0))]) []),zX (.box fV),zT 4 11,zT 5 13] (zs 14 [zM 5,zM 4,zF 57 [jO],zX (.nilchk iU),zX (.fa 512 iT),zW (.st 1 iH iC)] (zs 19 [zM 4,zF 57 [iQ],zT 6 20] (zq (zs 21 [zM 5,zX (.nilchk iG),zX (.fa 512 kD),zX (.ld iD),zX (.bin .lss iP (zk 0)),zM 25,zL 26 false 6,zG 26 false (.bin .lss lD (zk 0)),zX (.pick lY (.c (.bool true)) lW),zM 29,zL 30 false 6,zG 30 false (.bin .geq oD (zk 256)),zX (.pick mD (.c (.bool true)) lC)] (.cond mX (zs 2 [zX (.mv (.c .nilp)),zX (.mv (zk 3))] .ret) .skip)) (zs 7 [zX (.mv (zk 0))] (zq (zs 34 [zM 6,zX (.mv (zk 0))] (.block 0 bGr)) bGs)))))))
theorem bVY : Is E bGs (bN R78) (λ σ h => aWR E (σ p4) (σ p5) h) := λ σ h => by kernel_rfl
abbrev bVv : gS (DV × H) := (cF (λ σ h => aWR E (σ p4) (σ p5) h) (bN R78))
theorem bVX : Is E bGr (bL 0 (bVv E)) (λ σ h => aWx E (σ p4) (σ p5) (σ p34) aR (σ p7) (σ p35) h) := Is.loop (λ n2 σ h => aWx E (σ p4) (σ p5) (σ p34) n2 (σ p7) (σ p35) h) (by kernel_rfl) λ n2 => Is.as (Is.leaf _) λ σ h => by kernel_rfl
theorem bVZ : oE E bGt R78 (bFO E) := Is.as (Is.seq (Is.seq (Is.seq (Is.seq (Is.seq (Is.seq (Is.seq (bVY E) (Is.seq (Is.block (bVX E)) (Is.leaf _))) (Is.leaf _)) (Is.leaf _)) (Is.leaf _)) (Is.leaf _)) (Is.leaf _)) (Is.leaf _)) λ σ h => by kernel_rfl
def D78 : DF := ⟨1, 57, bGt, R78⟩
def S78 : cE := oF (bFO E)
theorem bJz : SQ D78 S78 := λ E => oJ (d := D78) (bVZ E) rfl
def R79 : List RV := [(.r p4)]
def aWQ (E : bO) (h : H) : aU := some ((.bool true), h)
def bGp : DC := (zs 4 [zX (.mv (.c (.bool true)))] .ret)
def bYb (r0 r1 : DV) (i2 : DV → H → aU) (r5 : DV) (h : H) : aU := vK (bX r0) λ x1 => vK (cT r5 x1) λ x2 => bK x2 (vK (bR 1 r0 r5) λ x3 => vK (aG h.get x3) λ x4 => vK (bR 1 r1 r5) λ x5 => vK (aG h.get x5) λ x6 => vK (dD x4 x6) λ x7 => bK x7 (some ((.bool false), h)) (vK (bJ r5 (ii 1)) λ x8 => i2 x8 h)) (aWQ E h)
def aWw (r0 r1 : DV) (n : Nat) : DV → H → aU := Nat.rec (motive := λ _ => DV → H → aU) (λ _ _ => none) (λ _ i => bYb E r0 r1 i) n
def bGo : DC := (.loop (zq (zs 11 [zM 5,zM 0,zX (.lenL fV),zX (.bin .lss gE gN)] (.cond iU .skip (.exit 0))) (zq (.block 1 (zq (zd 17 [yA 0 (zM 0),yA 1 (zM 5),yA 2 (zX (.iaS 1 iT iH)),yA 3 (zX (.ld iQ)),yA 4 (zM 1),yA 5 (zM 5),yA 6 (zX (.iaS 1 iG kD)),yA 7 (zX (.ld iD)),yA 8 (zX (.bin .neq jD iP))]) (.cond kU (zs 4 [zX (.mv (.c (.bool false)))] .ret) .skip))) (zr 15 [zM 5,zX (.bin .add jO (zk 1)),zT 5 16]))))
def bFN (r0 r1 : DV) (h : H) : aU := vK (bX r0) λ x1 => vK (bX r1) λ x2 => vK (dD x1 x2) λ x3 => bK x3 (some ((.bool false), h)) (aWw E r0 r1 aR (ii 0) h)
def bGq : DC := (zs 4 [zX (.mv (.c (.bool false)))] (zq (zs 6 [zM 0,zX (.lenL o6),zM 1,zX (.lenL o8),zX (.bin .neq o7 o9)] (.cond fS (zs 4 [zX (.mv (.c (.bool false)))] .ret) .skip)) (zq (zs 5 [zX (.mv (zk 0))] (.block 0 bGo)) bGp)))
theorem bVV : Is E bGp (bN R79) (λ σ h => aWQ E h) := λ σ h => by kernel_rfl
abbrev bVu : gS (DV × H) := (bL 0 (cF (λ σ h => aWQ E h) (bN R79)))
theorem bVU : Is E bGo (bVu E) (λ σ h => aWw E (σ p0) (σ p1) aR (σ p5) h) := Is.loop (λ n2 σ h => aWw E (σ p0) (σ p1) n2 (σ p5) h) (by kernel_rfl) λ n2 => Is.as (Is.leaf _) λ σ h => by kernel_rfl
theorem bVW : nK E bGq R79 (bFN E) := Is.as (Is.seq (Is.seq (Is.seq (bVV E) (Is.seq (Is.block (bVU E)) (Is.leaf _))) (Is.leaf _)) (Is.leaf _)) λ σ h => by kernel_rfl
def D79 : DF := ⟨2, 26, bGq, R79⟩
def S79 : cE := nL (bFN E)
theorem bJy : SQ D79 S79 := λ E => nY (d := D79) (bVW E) rfl
def R83 : List RV := [(.r p4),(.r p5)]
def aQS (r0 r1 : DV) (h : H) : aU := wK (aD E 85 [r0, r1] h) λ x1 h2 => vK (aI 0 x1) λ x3 => vK (aI 1 x1) λ x4 => vK (dD x4 (ii 0)) λ x5 => bK x5 (some ((.tup [.nilp, x4]), h2)) (wK (aD E 86 [r0, x3] h2) λ x6 h7 => vK (dT .ptr false h7.get x6 .nilp) λ x8 => bK x8 (some ((.tup [.nilp, (ii 12)]), h7)) (some ((.tup [x6, (ii 0)]), h7)))
def bGn : DC := (zs 4 [zX (.mv (.c .nilp)),zX (.mv (zk 0))] (zs 10 [zM 0,zM 1,zF 85 [fS,gE],zT 9 12,zX (.ext 0 o9),zX (.ext 1 o9),zT 6 13,zT 7 14] (zq (zs 15 [zM 7,zX (.bin .neq jO (zk 0))] (.cond iC (zs 4 [zT 17 7,zX (.mv (.c .nilp)),zM 17] .ret) .skip)) (zs 18 [zM 0,zM 6,zF 86 [iH,iQ],zT 8 20] (zq (zs 21 [zM 8,zX (.eqv .ptr false iG (.c .nilp))] (.cond kD (zs 4 [zX (.mv (.c .nilp)),zX (.mv (zk 12))] .ret) .skip)) (zs 4 [zT 23 8,zM 23,zX (.mv (zk 0))] .ret))))))
theorem bVT : nK E bGn R83 (aQS E) := λ σ h => by kernel_rfl
def D83 : DF := ⟨2, 24, bGn, R83⟩
def S83 : cE := nL (aQS E)
theorem bJx : SQ D83 S83 := λ E => nY (d := D83) (bVT E) rfl
def R84 : List RV := [(.r p6),(.r p7)]
def aQR (E : bO) (r0 r1 r2 : DV) (h : H) : aU := vK (cT r1 (ii 0)) λ x1 => bE x1 false (λ kk => kk r2 h) h λ x2 h3 => bE x1 false (λ kk => vK (cT x2 (ii 0)) λ v => kk v h3) h3 λ x4 h5 => vK (aX x1 (.bool true) x4) λ x6 => bK x6 (some ((.tup [(.str []), (ii 1)]), h5)) (vK (aL r0) λ x7 => vK (aF 0 x7) λ x8 => vK (aG h5.get x8) λ x9 => vK (aL r0) λ x10 => vK (aF 0 x10) λ x11 => vK (aG h5.get x11) λ x12 => vK (bZ x12) λ x13 => vK (aDd r1 x13) λ x14 => vK (gX x9 (some x14) none) λ x15 => vK (bZ x15) λ x16 => vK (aDd r2 x16) λ x17 => vK (gX x15 none (some x17)) λ x18 => some ((.tup [x18, (ii 0)]), h5))
def bGm : DC := (zs 6 [zX (.mv (.c (.str []))),zX (.mv (zk 0))] (zq (zs 9 [zM 1,zX (.bin .lss o9 (zk 0)),zM 10,zL 11 false 2,zG 11 false (.bin .lss fV (zk 0)),zX (.pick gE (.c (.bool true)) gN)] (.cond iU (zs 6 [zX (.mv (.c (.str []))),zX (.mv (zk 1))] .ret) .skip)) (zq (zd 15 [yA 0 (zM 0),yA 1 (zX (.nilchk jO)),yA 2 (zX (.fa 0 iC)),yA 3 (zX (.ld iT)),yA 4 (zM 1),yA 5 (zM 0),yA 6 (zX (.nilchk jD)),yA 7 (zX (.fa 0 iG)),yA 8 (zX (.ld kD)),yA 9 (zX (.lenS iD)),yA 10 (zX (.mn iQ iP)),yA 11 (zX (.slS iH (some kU) none)),yA 12 (zT 8 26)]) (zs 27 [zM 8,zM 2,zM 8,zX (.lenS mN),zX (.mn lW mD),zX (.slS lD none (some oD)),zT 6 32,zY 7 (.mv (zk 0))] .ret))))
theorem bVS : iA3 E bGm R84 (aQR E) := λ σ h => by kernel_rfl
def D84 : DF := ⟨3, 33, bGm, R84⟩
def S84 : cE := fA3 (aQR E)
theorem bJw : SQ D84 S84 := λ E => eA3 (d := D84) (bVS E) rfl
def R85 : List RV := [(.r p4),(.r p5)]
def aQQ (r0 r1 : DV) (h : H) : aU := vK (dT .ptr false h.get r0 .nilp) λ x1 => bK x1 (some ((.tup [(ii 0), (ii 1)]), h)) (wK (aD E 137 [r1] h) λ x2 h3 => vK (aI 0 x2) λ x4 => vK (aI 1 x2) λ x5 => vK (dD x5 (ii 0)) λ x6 => bK x6 (some ((.tup [(ii 0), x5]), h3)) (wK (aD E 138 [r0, x4] h3) λ x7 h8 => vK (aI 0 x7) λ x9 => vK (aI 1 x7) λ x10 => some ((.tup [x9, x10]), h8)))
def bGl : DC := (zs 4 [zX (.mv (zk 0)),zX (.mv (zk 0))] (zq (zs 8 [zM 0,zX (.eqv .ptr false o8 (.c .nilp))] (.cond o9 (zs 4 [zX (.mv (zk 0)),zX (.mv (zk 1))] .ret) .skip)) (zs 11 [zM 1,zF 137 [gE],zT 10 12,zX (.ext 0 fS),zX (.ext 1 fS),zT 6 13,zT 7 14] (zq (zs 15 [zM 7,zX (.bin .neq jO (zk 0))] (.cond iC (zs 4 [zT 17 7,zX (.mv (zk 0)),zM 17] .ret) .skip)) (zs 18 [zM 0,zM 6,zF 138 [iH,iQ],zX (.ext 0 jD),zX (.ext 1 jD),zT 4 21,zT 5 22] .ret)))))
theorem bVR : nK E bGl R85 (aQQ E) := λ σ h => by kernel_rfl
def D85 : DF := ⟨2, 23, bGl, R85⟩
def S85 : cE := nL (aQQ E)
theorem bJv : SQ D85 S85 := λ E => nY (d := D85) (bVR E) rfl
def R86 : List RV := [(.r p4)]
def aQP (E : bO) (r0 r1 : DV) (h : H) : aU := vK (aL r0) λ x1 => vK (aF 0 x1) λ x2 => vK (lO 256 2 x2 r1) λ x3 => vK (aF 1 x3) λ x4 => vK (aG h.get x4) λ x5 => vK (tT 141 .nilp true x5) λ x6 => vK (aI 0 x6) λ x7 => vK (aI 1 x6) λ x8 => some (x7, h)
def bGk : DC := (zs 4 [zX (.mv (.c .nilp))] (zs 8 [zM 0,zM 1,zX (.nilchk o8),zX (.fa 0 fS),zX (.iaA 256 2 gE o9),zX (.fa 1 fV),zX (.ld gN),zX (.tas 141 .nilp true iU),zT 7 15,zX (.ext 0 o7),zX (.ext 1 o7),zT 5 16,zT 6 17] (zs 4 [zT 18 5,zM 18] .ret)))
theorem bVQ : nK E bGk R86 (aQP E) := λ σ h => by kernel_rfl
def D86 : DF := ⟨2, 19, bGk, R86⟩
def S86 : cE := nL (aQP E)
theorem bJu : SQ D86 S86 := λ E => nY (d := D86) (bVQ E) rfl
def R87 : List RV := [(.r p4)]
def aQO (E : bO) (r0 r1 : DV) (h : H) : aU := vK (aL r0) λ x1 => vK (aF 0 x1) λ x2 => vK (lO 256 2 x2 r1) λ x3 => vK (aF 1 x3) λ x4 => vK (aG h.get x4) λ x5 => vK (tT 120 (.agg [.nilp]) true x5) λ x6 => vK (aI 0 x6) λ x7 => vK (aI 1 x6) λ x8 => eD 1 1 (.list [.nilp]) h λ x9 h10 => wK (bU 1 x9 x7 h10) λ x11 h12 => vK (kT x8) λ x13 => bK x13 (some (.nilp, h12)) (vK (aF 0 x9) λ x14 => vK (aG h12.get x14) λ x15 => some (x15, h12))
def bGj : DC := (zs 4 [zX (.mv (.c .nilp))] (zs 8 [zM 0,zM 1,zX (.nilchk o8),zX (.fa 0 fS),zX (.iaA 256 2 gE o9),zX (.fa 1 fV),zX (.ld gN),zX (.tas 120 (.agg [.nilp]) true iU),zT 7 15,zX (.ext 0 o7),zX (.ext 1 o7),zY 5 (.alc 1 1 (.list [.nilp])),zW (.st 1 o5 iC),zT 6 17] (zq (zs 18 [zM 6,zX (.not iH)] (.cond iQ (zs 4 [zX (.mv (.c .nilp))] .ret) .skip)) (zs 20 [zX (.fa 0 o5),zX (.ld jD),zT 4 21] .ret))))
theorem bVP : nK E bGj R87 (aQO E) := λ σ h => by kernel_rfl
def D87 : DF := ⟨2, 22, bGj, R87⟩
def S87 : cE := nL (aQO E)
theorem bJt : SQ D87 S87 := λ E => nY (d := D87) (bVP E) rfl
def R88 : List RV := [(.r p2)]
def aWP (E : bO) (r3 : DV) (h : H) : aU := some (r3, h)
def bGh : DC := (zs 2 [zT 23 3,zM 23] .ret)
def aMB (r11 r12 : DV) (i2 : DV → DV → H → aU) (r3 r13 : DV) (h : H) : aU := vK (cT r13 r12) λ x1 => bK x1 (vK (bR 2 r11 r13) λ x2 => vK (aK 2 h.get x2) λ x3 => eD 2 2 (.list [(.str []), (ii 0)]) h λ x4 h5 => wK (bU 2 x4 x3 h5) λ x6 h7 => vK (aF 0 x4) λ x8 => vK (aG h7.get x8) λ x9 => gO 1 1 [(.str [])] [(0, 1, x9)] h7 λ x10 h11 => wK (cA 1 16 r3 x10 h11) λ x12 h13 => vK (bJ r13 (ii 1)) λ x14 => i2 x12 x14 h13) (aWP E r3 h)
def aHp (r11 r12 : DV) (n : Nat) : DV → DV → H → aU := Nat.rec (motive := λ _ => DV → DV → H → aU) (λ _ _ _ => none) (λ _ i => aMB E r11 r12 i) n
def bGg : DC := (.loop (zs 14 [zX (.bin .lss gN fV)] (zq (.cond iU .skip (.exit 0)) (zq (.block 1 (zs 15 [zX (.iaS 2 gE gN),zX (.ldN 2 jO),zY 5 (.alc 2 2 (.list [(.str []),(.int .i64 (.ofNat 0))])),zW (.st 2 o5 iC)] (zr 17 [zM 3,zX (.fa 0 o5),zX (.ld iH),zX (.bsl 1 1 [(.str [])] [(0,1,iQ)]),zD ⟨(some p21),none,(.w (.app 1 16 iT jD))⟩,zT 3 21]))) (zr 13 [zY 22 (.bin .add gN (zk 1)),zM 22])))))
def aQN (r0 : DV) (h : H) : aU := vK (dT .ptr false h.get r0 .nilp) λ x1 => bK x1 (some (.nils, h)) (vK (aL r0) λ x2 => vK (aF 0 x2) λ x3 => vK (aG h.get x3) λ x4 => vK (bX x4) λ x5 => aHp E x4 x5 aR .nils (ii 0) h)
def bGi : DC := (zs 2 [zX (.mv (.c .nils))] (zq (zs 6 [zM 0,zX (.eqv .ptr false o6 (.c .nilp))] (.cond o7 (zs 2 [zX (.mv (.c .nils))] .ret) .skip)) (zs 3 [zX (.mv (.c .nils))] (zq (zs 8 [zM 0,zX (.nilchk o8),zX (.fa 0 o9),zX (.ld fS),zX (.lenL gE),zX (.mv (zk 0))] (.block 0 bGg)) bGh))))
theorem bVN : Is E bGh (bN R88) (λ σ h => aWP E (σ p3) h) := λ σ h => by kernel_rfl
abbrev bVt : gS (DV × H) := (cF (λ σ h => aWP E (σ p3) h) (bN R88))
theorem bVM : Is E bGg (bL 0 (bVt E)) (λ σ h => aHp E (σ p11) (σ p12) aR (σ p3) (σ p13) h) := Is.loop (λ n2 σ h => aHp E (σ p11) (σ p12) n2 (σ p3) (σ p13) h) (by kernel_rfl) λ n2 => Is.as (Is.leaf _) λ σ h => by kernel_rfl
theorem bVO : oE E bGi R88 (aQN E) := Is.as (Is.seq (Is.seq (Is.seq (Is.seq (bVN E) (Is.seq (Is.block (bVM E)) (Is.leaf _))) (Is.leaf _)) (Is.leaf _)) (Is.leaf _)) λ σ h => by kernel_rfl
def D88 : DF := ⟨1, 24, bGi, R88⟩
def S88 : cE := oF (aQN E)
theorem bJs : SQ D88 S88 := λ E => oJ (d := D88) (bVO E) rfl
def fs0 : List FD := [⟨9, D9, S9⟩, ⟨20, D20, S20⟩, ⟨21, D21, S21⟩, ⟨22, D22, S22⟩, ⟨24, D24, S24⟩, ⟨25, D25, S25⟩, ⟨28, D28, S28⟩, ⟨29, D29, S29⟩, ⟨31, D31, S31⟩, ⟨32, D32, S32⟩, ⟨33, D33, S33⟩, ⟨34, D34, S34⟩, ⟨35, D35, S35⟩, ⟨40, D40, S40⟩, ⟨41, D41, S41⟩, ⟨42, D42, S42⟩, ⟨43, D43, S43⟩, ⟨44, D44, S44⟩, ⟨45, D45, S45⟩, ⟨46, D46, S46⟩, ⟨47, D47, S47⟩, ⟨48, D48, S48⟩, ⟨49, D49, S49⟩, ⟨50, D50, S50⟩, ⟨51, D51, S51⟩, ⟨52, D52, S52⟩, ⟨53, D53, S53⟩, ⟨54, D54, S54⟩, ⟨55, D55, S55⟩, ⟨56, D56, S56⟩, ⟨57, D57, S57⟩, ⟨58, D58, S58⟩, ⟨59, D59, S59⟩, ⟨65, D65, S65⟩, ⟨66, D66, S66⟩, ⟨67, D67, S67⟩, ⟨68, D68, S68⟩, ⟨69, D69, S69⟩, ⟨70, D70, S70⟩, ⟨71, D71, S71⟩, ⟨72, D72, S72⟩, ⟨74, D74, S74⟩, ⟨75, D75, S75⟩, ⟨76, D76, S76⟩, ⟨77, D77, S77⟩, ⟨78, D78, S78⟩, ⟨79, D79, S79⟩, ⟨83, D83, S83⟩, ⟨84, D84, S84⟩, ⟨85, D85, S85⟩, ⟨86, D86, S86⟩, ⟨87, D87, S87⟩, ⟨88, D88, S88⟩]
theorem bIH : sK fs0 := ⟨bTB, ⟨bKt, ⟨bKs, ⟨bKr, ⟨bKq, ⟨bKp, ⟨bKo, ⟨bKn, ⟨bKm, ⟨bKl, ⟨bKk, ⟨bKj, ⟨bKi, ⟨bKh, ⟨bKg, ⟨bKf, ⟨bKe, ⟨bKd, ⟨bKc, ⟨bKb, ⟨bKa, ⟨bJZ, ⟨bJY, ⟨bJX, ⟨bJW, ⟨bJV, ⟨bJU, ⟨bJT, ⟨bJR, ⟨bJQ, ⟨bJP, ⟨bJO, ⟨bJN, ⟨bJM, ⟨bJL, ⟨bJJ, ⟨bJI, ⟨bJH, ⟨bJG, ⟨bJF, ⟨bJE, ⟨bJD, ⟨bJC, ⟨bJB, ⟨bJA, ⟨bJz, ⟨bJy, ⟨bJx, ⟨bJw, ⟨bJv, ⟨bJu, ⟨bJt, ⟨bJs, trivial⟩⟩⟩⟩⟩⟩⟩⟩⟩⟩⟩⟩⟩⟩⟩⟩⟩⟩⟩⟩⟩⟩⟩⟩⟩⟩⟩⟩⟩⟩⟩⟩⟩⟩⟩⟩⟩⟩⟩⟩⟩⟩⟩⟩⟩⟩⟩⟩⟩⟩⟩⟩⟩
end Go.Proofs.YtmafhiogonejfaaGreatDoor
end

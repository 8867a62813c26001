/- The functions of the program as D's and as plain Lean functions, and that both are the same. No condition. -/
import Derived.KernelRfl
import Derived.Test.YtmafhiogonejfaaGreatDoorDd
set_option linter.unusedVariables false
noncomputable section
namespace Go.Proofs.YtmafhiogonejfaaGreatDoor
open Go.DI
variable (E : bO)
def p0 : Pa := .h
def p1 : Pa := .l p0
def p2 : Pa := .r p0
def p3 : Pa := .l p1
def p4 : Pa := .r p1
def p5 : Pa := .l p2
def p6 : Pa := .r p2
def p7 : Pa := .l p3
def p8 : Pa := .r p3
def p9 : Pa := .l p4
def p10 : Pa := .r p4
def p11 : Pa := .l p5
def p12 : Pa := .r p5
def p13 : Pa := .l p6
def p14 : Pa := .r p6
def p15 : Pa := .l p7
def p16 : Pa := .r p7
def p17 : Pa := .l p8
def p18 : Pa := .r p8
def p19 : Pa := .l p9
def p20 : Pa := .r p9
def p21 : Pa := .l p10
def p22 : Pa := .r p10
def p23 : Pa := .l p11
def p24 : Pa := .r p11
def p25 : Pa := .l p12
def p26 : Pa := .r p12
def p27 : Pa := .l p13
def p28 : Pa := .r p13
def p29 : Pa := .l p14
def p30 : Pa := .r p14
def p31 : Pa := .l p15
def p32 : Pa := .r p15
def p33 : Pa := .l p16
def p34 : Pa := .r p16
def p35 : Pa := .l p17
def p36 : Pa := .r p17
def p37 : Pa := .l p18
def p38 : Pa := .r p18
def p39 : Pa := .l p19
def p40 : Pa := .r p19
def p41 : Pa := .l p20
def p42 : Pa := .r p20
def p43 : Pa := .l p21
def p44 : Pa := .r p21
def p45 : Pa := .l p22
def p46 : Pa := .r p22
def p47 : Pa := .l p23
def p48 : Pa := .r p23
def p49 : Pa := .l p24
def p50 : Pa := .r p24
def p51 : Pa := .l p25
def p52 : Pa := .r p25
def p53 : Pa := .l p26
def p54 : Pa := .r p26
def p55 : Pa := .l p27
def p56 : Pa := .r p27
def p57 : Pa := .l p28
def p58 : Pa := .r p28
def p59 : Pa := .l p29
def p60 : Pa := .r p29
def p61 : Pa := .l p30
def p62 : Pa := .r p30
def p63 : Pa := .l p31
def p64 : Pa := .r p31
def p65 : Pa := .l p32
def p66 : Pa := .r p32
def p67 : Pa := .l p33
def p68 : Pa := .r p33
def p69 : Pa := .l p34
def p70 : Pa := .r p34
def p71 : Pa := .l p35
def p72 : Pa := .r p35
def p73 : Pa := .l p36
def p74 : Pa := .r p36
def p75 : Pa := .l p37
def p76 : Pa := .r p37
def p77 : Pa := .l p38
def p78 : Pa := .r p38
def p79 : Pa := .l p39
def p80 : Pa := .r p39
def p81 : Pa := .l p40
def p82 : Pa := .r p40
def p83 : Pa := .l p41
def p84 : Pa := .r p41
def p85 : Pa := .l p42
def p86 : Pa := .r p42
def p87 : Pa := .l p43
def p88 : Pa := .r p43
def p89 : Pa := .l p44
def p90 : Pa := .r p44
def p91 : Pa := .l p45
def p92 : Pa := .r p45
def p93 : Pa := .l p46
def p94 : Pa := .r p46
def p95 : Pa := .l p47
def p96 : Pa := .r p47
def p97 : Pa := .l p48
def p98 : Pa := .r p48
def p99 : Pa := .l p49
def bIU : Pa := .r p49
def p101 : Pa := .l p50
def bCd : Pa := .r p50
def p103 : Pa := .l p51
def bCc : Pa := .r p51
def bIT : Pa := .l p52
def bIS : Pa := .r p52
def p107 : Pa := .l p53
def p108 : Pa := .r p53
def bCb : Pa := .l p54
def p110 : Pa := .r p54
def p111 : Pa := .l p55
def p112 : Pa := .r p55
def p113 : Pa := .l p56
def bCa : Pa := .r p56
def p115 : Pa := .l p57
def p116 : Pa := .r p57
def p117 : Pa := .l p58
def p118 : Pa := .r p58
def p119 : Pa := .l p59
def p120 : Pa := .r p59
def p121 : Pa := .l p60
def p122 : Pa := .r p60
def p123 : Pa := .l p61
def p124 : Pa := .r p61
def p125 : Pa := .l p62
def p126 : Pa := .r p62
def p127 : Pa := .l p63
def p128 : Pa := .r p63
def p129 : Pa := .l p64
def p130 : Pa := .r p64
def p131 : Pa := .l p65
def p132 : Pa := .r p65
def p133 : Pa := .l p66
def aUI : Pa := .r p66
def p135 : Pa := .l p67
def p136 : Pa := .r p67
def p137 : Pa := .l p68
def p138 : Pa := .r p68
def p139 : Pa := .l p69
def p140 : Pa := .r p69
def p141 : Pa := .l p70
def p142 : Pa := .r p70
def p143 : Pa := .l p71
def o0 : aT := .r p0
def o1 : aT := .r p1
def o2 : aT := .r p2
def o3 : aT := .r p3
def o4 : aT := .r p4
def o5 : aT := .r p5
def o6 : aT := .r p6
def o7 : aT := .r p7
def o8 : aT := .r p8
def o9 : aT := .r p9
def fR : aT := .r p10
def fZ : aT := .r p11
def fL : aT := .r p12
def fX : aT := .r p13
def iO : aT := .r p14
def iW : aT := .r p15
def iG : aT := .r p16
def iL : aT := .r p17
def iC : aT := .r p18
def iN : aT := .r p19
def iV : aT := .r p20
def gZ : aT := .r p21
def jV : aT := .r p22
def iB : aT := .r p23
def iP : aT := .r p24
def kJ : aT := .r p25
def mA : aT := .r p26
def lB : aT := .r p27
def lK : aT := .r p28
def lZ : aT := .r p29
def lY : aT := .r p30
def nH : aT := .r p31
def lF : aT := .r p32
def mX : aT := .r p33
def mW : aT := .r p34
def qG : aT := .r p35
def mZ : aT := .r p36
def pR : aT := .r p37
def uD : aT := .r p38
def rT : aT := .r p39
def rE : aT := .r p40
def vG : aT := .r p41
def uN : aT := .r p42
def uM : aT := .r p43
def uJ : aT := .r p44
def o45 : aT := .r p45
def zJ : aT := .r p46
def o47 : aT := .r p47
def o48 : aT := .r p48
def o49 : aT := .r p49
def o50 : aT := .r p50
def o51 : aT := .r p51
def o52 : aT := .r p52
def o53 : aT := .r p53
def o54 : aT := .r p54
def o55 : aT := .r p55
def o56 : aT := .r p56
def o57 : aT := .r p57
def o58 : aT := .r p58
def o59 : aT := .r p59
def o60 : aT := .r p60
def o61 : aT := .r p61
def o62 : aT := .r p62
def o63 : aT := .r p63
def o64 : aT := .r p64
def o65 : aT := .r p65
def o66 : aT := .r p66
def o67 : aT := .r p67
def o68 : aT := .r p68
def o69 : aT := .r p69
def o70 : aT := .r p70
def o71 : aT := .r p71
def o72 : aT := .r p72
def o73 : aT := .r p73
def o74 : aT := .r p74
def o75 : aT := .r p75
def o76 : aT := .r p76
def o77 : aT := .r p77
def o78 : aT := .r p78
def o79 : aT := .r p79
def o80 : aT := .r p80
def o81 : aT := .r p81
def o82 : aT := .r p82
def o83 : aT := .r p83
def o84 : aT := .r p84
def o85 : aT := .r p85
def o86 : aT := .r p86
def o87 : aT := .r p87
def o88 : aT := .r p88
def o89 : aT := .r p89
def o90 : aT := .r p90
def o91 : aT := .r p91
def o92 : aT := .r p92
def o93 : aT := .r p93
def o94 : aT := .r p94
def o95 : aT := .r p95
def o96 : aT := .r p96
def o97 : aT := .r p97
def o98 : aT := .r p98
def o99 : aT := .r p99
def aUZ : aT := .r bIU
def bJE : aT := .r p101
def aUY : aT := .r bCd
def aUX : aT := .r p103
def aUW : aT := .r bCc
def aUV : aT := .r bIT
def bCp : aT := .r bIS
def bCo : aT := .r p107
def bJD : aT := .r p108
def aSV : aT := .r bCb
def bCn : aT := .r p110
def aUU : aT := .r p111
def o112 : aT := .r p112
def bJC : aT := .r p113
def bCm : aT := .r bCa
def aUT : aT := .r p115
def bJB : aT := .r p116
def bJA : aT := .r p117
def bJz : aT := .r p118
def bJy : aT := .r p119
def o120 : aT := .r p120
def bJx : aT := .r p121
def o122 : aT := .r p122
def bJw : aT := .r p123
def bJv : aT := .r p124
def bJu : aT := .r p125
def bJt : aT := .r p126
def o127 : aT := .r p127
def o128 : aT := .r p128
def o129 : aT := .r p129
def bJs : aT := .r p130
def o131 : aT := .r p131
def bJr : aT := .r p132
def o133 : aT := .r p133
def bJq : aT := .r aUI
def bJp : aT := .r p135
def bJo : aT := .r p136
def o137 : aT := .r p137
def aUS : aT := .r p138
def bJn : aT := .r p139
def o140 : aT := .r p140
def o141 : aT := .r p141
def o142 : aT := .r p142
def R10 : List RV := [(.r p6)]
def aHT (r2 r7 r8 r12 r13 : DV) (h : H) : aU := vK (aK 2 h.get r8) λ x1 => vK (aK 5 h.get r12) λ x2 => wK (aD E 36 [x1, x2, (ii 1), r2] h) λ x3 h4 => vK (aG 0 x3) λ x5 => vK (aG 1 x3) λ x6 => dZ 2 2 (.list [.nils, (ii 0)]) h4 λ x7 h8 => wK (bQ 2 x7 x5 h8) λ x9 h10 => vK (aK 5 h10.get r12) λ x11 => wK (aD E 37 [r7, x11, (ii 1), r2] h10) λ x12 h13 => vK (aK 5 h13.get r12) λ x14 => wK (aD E 38 [r7, x14, (ii 0), (ii 100)] h13) λ x15 h16 => vK (aG 0 x15) λ x17 => vK (aG 1 x15) λ x18 => vK (aK 2 h16.get x7) λ x19 => vK (aK 5 h16.get r12) λ x20 => wK (aD E 39 [x19, x20, (ii 0), (ii 100)] h16) λ x21 h22 => vK (aG 0 x21) λ x23 => vK (aG 1 x21) λ x24 => vK (dA r13 (ii 0)) λ x25 => bA x25 true (λ kk => kk x12 h22) h22 λ x26 h27 => bA x25 true (λ kk => vK (dA x26 (ii 7)) λ v => kk v h27) h27 λ x28 h29 => vK (aQ x25 x28 (.bool false)) λ x30 => bK x30 (some ((.bool false), h29)) (vK (bP x12 x6) λ x31 => bA x31 true (λ kk => kk x17 h29) h29 λ x32 h33 => bA x31 true (λ kk => kk x23 h33) h33 λ x34 h35 => bA x31 true (λ kk => vK (bP x32 x34) λ v => kk v h35) h35 λ x36 h37 => vK (aQ x31 x36 (.bool false)) λ x38 => bA x38 true (λ kk => kk x18 h37) h37 λ x39 h40 => bA x38 true (λ kk => kk x24 h40) h40 λ x41 h42 => bA x38 true (λ kk => vK (bP x39 x41) λ v => kk v h42) h42 λ x43 h44 => vK (aQ x38 x43 (.bool false)) λ x45 => bA x45 true (λ kk => kk r7 h44) h44 λ x46 h47 => bA x45 true (λ kk => vK (aK 2 h47.get x7) λ v => kk v h47) h47 λ x48 h49 => bA x45 true (λ kk => wK (aD E 24 [x46] h49) kk) h49 λ x50 h51 => rK (gB x45 true (rcK (aK 2 h51.get x7) x48)) <| bA x45 true (λ kk => wK (aD E 25 [x48] h51) kk) h51 λ x52 h53 => bA x45 true (λ kk => vK (bP x50 x52) λ v => kk v h53) h53 λ x54 h55 => vK (aQ x45 x54 (.bool false)) λ x56 => bA x56 true (λ kk => wK (aD E 28 [] h55) kk) h55 λ x57 h58 => vK (aQ x56 x57 (.bool false)) λ x59 => some (x59, h58))
def bIy : DC := (zs 93 [zX (.ldN 2 o8),zX (.ldN 5 fL),zM 2,zF 36 [o93,o94,(zk 1),o95],zT 92 96,zX (.ext 0 o92),zX (.ext 1 o92),zY 17 (.alc 2 2 (.list [.nils,(.int .i64 (.ofNat 0))])),zW (.st 2 iL o97),zT 18 98] (zs 99 [zM 7,zX (.ldN 5 fL),zM 2,zF 37 [o99,aUZ,(zk 1),bJE],zT 19 102] (zs 104 [zM 7,zX (.ldN 5 fL),zF 38 [aUW,aUV,(zk 0),(zk 100)],zT 103 106,zX (.ext 0 aUX),zX (.ext 1 aUX),zT 20 107,zT 21 108] (zs 110 [zX (.ldN 2 iL),zX (.ldN 5 fL),zF 39 [bCn,aUU,(zk 0),(zk 100)],zT 109 112,zX (.ext 0 aSV),zX (.ext 1 aSV),zT 22 113,zT 23 114] (zq (zs 115 [zM 13,zX (.bin .neq aUT (zk 0)),zM 116,zL 117 true 19,zG 117 true (.bin .neq bJz (zk 7)),zX (.pick bJA bJy (.c (.bool false)))] (.cond o120 (zs 6 [zX (.mv (.c (.bool false)))] .ret) .skip)) (zq (zd 121 [yA 0 (zM 19),yA 1 (zM 18),yA 2 (zX (.bin .eql bJx o122)),yA 3 (zM 123),yA 4 (zL 124 true 20),yA 5 (zL 124 true 22),yA 6 (zG 124 true (.bin .eql bJu bJt)),yA 7 (zX (.pick bJv o127 (.c (.bool false)))),yA 8 (zM 128),yA 9 (zL 129 true 21),yA 10 (zL 129 true 23),yA 11 (zG 129 true (.bin .eql bJs o131)),yA 12 (zX (.pick o129 bJr (.c (.bool false)))),yA 13 (zM 133),yA 14 (zL 134 true 7),yA 16 (zD ⟨(some p137),(some (aUI,true)),(.e (.ldN 2 iL))⟩),yB 15 (zD ⟨(some p136),(some (aUI,true)),(.c (.f 24 [bJp]))⟩) [16] false,yA 17 (zD ⟨(some p138),(some (aUI,true)),(.c (.f 25 [o137]))⟩),yA 18 (zD ⟨(some p139),(some (aUI,true)),(.e (.bin .eql bJo aUS))⟩),yA 19 (zY 140 (.pick bJq bJn (.c (.bool false)))),yA 20 (zT 141 140),yA 21 (zD ⟨(some p142),(some (p141,true)),(.c (.f 28 []))⟩),yA 22 (zY 143 (.pick o141 o142 (.c (.bool false)))),yA 23 (zT 6 143)]) .ret))))))
def aNo (r0 r2 r7 r8 r12 r13 : DV) (i4 : DV → H → aU) (r14 : DV) (h : H) : aU := vK (cB r0) λ x1 => vK (cJ r14 x1) λ x2 => bA x2 true (λ kk => kk r14 h) h λ x3 h4 => bA x2 true (λ kk => vK (mI x3 (ii 0)) λ v => kk v h4) h4 λ x5 h6 => vK (aQ x2 x5 (.bool false)) λ x7 => bK x7 (vK (aK 2 h6.get r8) λ x8 => vK (cC 6 r0 r14) λ x9 => vK (aK 6 h6.get x9) λ x10 => dZ 2 2 (.list [.nils, (ii 0)]) h6 λ x11 h12 => wK (aD E 29 [r7, x8, x10] h12) λ x13 h14 => vK (aG 0 x13) λ x15 => vK (aG 1 x13) λ x16 => wK (bQ 2 x11 x15 h14) λ x17 h18 => vK (aK 2 h18.get x11) λ x19 => wK (bQ 2 r8 x19 h18) λ x20 h21 => vK (kD x16) λ x22 => bK x22 (some ((.bool false), h21)) (vK (bJ r14 (ii 1)) λ x23 => i4 x23 h21)) (aHT E r2 r7 r8 r12 r13 h6)
def aHP (r0 r2 r7 r8 r12 r13 : DV) (n : Nat) : DV → H → aU := Nat.rec (motive := λ _ => DV → H → aU) (λ _ _ => none) (λ _ i => aNo E r0 r2 r7 r8 r12 r13 i) n
def bIx : DC := (.loop (zq (zs 69 [zM 14,zM 0,zX (.lenL o70),zX (.bin .lss o69 o71),zM 72,zL 73 true 14,zG 73 true (.bin .geq o74 (zk 0)),zX (.pick o73 o75 (.c (.bool false)))] (.cond o76 .skip (.exit 2))) (zq (.block 3 (zq (zd 80 [yA 0 (zM 7),yA 1 (zX (.ldN 2 o8)),yA 2 (zM 0),yA 3 (zM 14),yA 4 (zX (.iaS 6 o82 o83)),yA 5 (zX (.ldN 6 o84)),yA 10 (zY 15 (.alc 2 2 (.list [.nils,(.int .i64 (.ofNat 0))]))),yA 6 (zF 29 [o80,o81,o85]),yA 7 (zT 79 86),yA 8 (zX (.ext 0 o79)),yA 9 (zX (.ext 1 o79)),yA 11 (zW (.st 2 iW o87)),yA 12 (zT 16 88)]) (zs 89 [zX (.ldN 2 iW),zW (.st 2 o8 o89)] (zs 90 [zM 16,zX (.not o90)] (.cond o91 (zs 6 [zX (.mv (.c (.bool false)))] .ret) .skip))))) (zr 77 [zM 14,zX (.bin .add o77 (zk 1)),zT 14 78]))))
def aMY (r0 r1 r2 r7 r8 : DV) (h : H) : aU := wK (aD E 34 [r7, r1] h) λ x1 h2 => vK (aG 0 x1) λ x3 => vK (aG 1 x1) λ x4 => dZ 5 5 (.list [(ii 0), (ii 0), (ii 0), (ii 0), (ii 0)]) h2 λ x5 h6 => wK (bQ 5 x5 x3 h6) λ x7 h8 => vK (cB r0) λ x9 => vK (aGW x9 (ii 2)) λ x10 => aHP E r0 r2 r7 r8 x5 x4 aR x10 h8
def bIA : DC := (zs 61 [zM 7,zM 1,zF 34 [o61,o62],zT 60 63,zX (.ext 0 o60),zX (.ext 1 o60),zY 12 (.alc 5 5 (.list [(.int .i64 (.ofNat 0)),(.int .i64 (.ofNat 0)),(.int .i64 (.ofNat 0)),(.int .i64 (.ofNat 0)),(.int .i64 (.ofNat 0))])),zW (.st 5 fL o64),zT 13 65] (zq (zs 66 [zM 0,zX (.lenL o66),zX (.bin .quo o67 (zk 2)),zT 14 68] (.block 2 bIx)) bIy))
def aNp (r0 r1 r2 r7 r8 : DV) (i2 : DV → H → aU) (r9 : DV) (h : H) : aU := vK (cB r0) λ x1 => vK (aGW x1 (ii 2)) λ x2 => vK (cJ r9 x2) λ x3 => bK x3 (vK (aK 2 h.get r8) λ x4 => vK (cC 6 r0 r9) λ x5 => vK (aK 6 h.get x5) λ x6 => dZ 2 2 (.list [.nils, (ii 0)]) h λ x7 h8 => wK (aD E 29 [r7, x4, x6] h8) λ x9 h10 => vK (aG 0 x9) λ x11 => vK (aG 1 x9) λ x12 => wK (bQ 2 x7 x11 h10) λ x13 h14 => vK (aK 2 h14.get x7) λ x15 => wK (bQ 2 r8 x15 h14) λ x16 h17 => vK (kD x12) λ x18 => bK x18 (some ((.bool false), h17)) (vK (bJ r9 (ii 1)) λ x19 => i2 x19 h17)) (aMY E r0 r1 r2 r7 r8 h)
def aHQ (r0 r1 r2 r7 r8 : DV) (n : Nat) : DV → H → aU := Nat.rec (motive := λ _ => DV → H → aU) (λ _ _ => none) (λ _ i => aNp E r0 r1 r2 r7 r8 i) n
def bIz : DC := (.loop (zq (zs 40 [zM 9,zM 0,zX (.lenL vG),zX (.bin .quo uN (zk 2)),zX (.bin .lss rE uM)] (.cond uJ .skip (.exit 0))) (zq (.block 1 (zq (zd 48 [yA 0 (zM 7),yA 1 (zX (.ldN 2 o8)),yA 2 (zM 0),yA 3 (zM 9),yA 4 (zX (.iaS 6 o50 o51)),yA 5 (zX (.ldN 6 o52)),yA 10 (zY 10 (.alc 2 2 (.list [.nils,(.int .i64 (.ofNat 0))]))),yA 6 (zF 29 [o48,o49,o53]),yA 7 (zT 47 54),yA 8 (zX (.ext 0 o47)),yA 9 (zX (.ext 1 o47)),yA 11 (zW (.st 2 fR o55)),yA 12 (zT 11 56)]) (zs 57 [zX (.ldN 2 fR),zW (.st 2 o8 o57)] (zs 58 [zM 11,zX (.not o58)] (.cond o59 (zs 6 [zX (.mv (.c (.bool false)))] .ret) .skip))))) (zr 45 [zM 9,zX (.bin .add o45 (zk 1)),zT 9 46]))))
def aSg (r0 r1 r2 : DV) (h : H) : aU := wK (aD E 20 [r0] h) λ x1 h2 => vK (bP x1 (ii 0)) λ x3 => bA x3 false (λ kk => kk r1 h2) h2 λ x4 h5 => bA x3 false (λ kk => vK (bZ x4) λ v => kk v h5) h5 λ x6 h7 => bA x3 false (λ kk => vK (eH x6 (ii 600)) λ v => kk v h7) h7 λ x8 h9 => vK (aQ x3 (.bool true) x8) λ x10 => bA x10 false (λ kk => kk r2 h9) h9 λ x11 h12 => bA x10 false (λ kk => vK (bZ x11) λ v => kk v h12) h12 λ x13 h14 => bA x10 false (λ kk => vK (eH x13 (ii 20000)) λ v => kk v h14) h14 λ x15 h16 => vK (aQ x10 (.bool true) x15) λ x17 => bK x17 (wK (aD E 28 [] h16) λ x18 h19 => some (x18, h19)) (wK (aD E 21 [] h16) λ x20 h21 => wK (aD E 22 [] h21) λ x22 h23 => dZ 2 2 (.list [.nils, (ii 0)]) h23 λ x24 h25 => wK (bQ 2 x24 x22 h25) λ x26 h27 => aHQ E r0 r1 r2 x20 x24 aR (ii 0) h27)
def bIB : DC := (zs 6 [zX (.mv (.c (.bool false)))] (zq (zs 24 [zM 0,zF 20 [iP],zX (.bin .eql kJ (zk 0)),zM 26,zL 27 false 1,zG 27 false (.lenS lK),zG 27 false (.bin .gtr lZ (zk 600)),zX (.pick lB (.c (.bool true)) lY),zM 31,zL 32 false 2,zG 32 false (.lenS mX),zG 32 false (.bin .gtr mW (zk 20000)),zX (.pick lF (.c (.bool true)) qG)] (.cond mZ (zs 37 [zF 28 [],zT 6 37] .ret) .skip)) (zs 38 [zF 21 [],zF 22 [],zY 8 (.alc 2 2 (.list [.nils,(.int .i64 (.ofNat 0))])),zT 7 38,zW (.st 2 o8 rT)] (zq (zs 9 [zX (.mv (zk 0))] (.block 0 bIz)) bIA))))
theorem bYW : Is E bIy (bN R10) (λ σ h => aHT E (σ p2) (σ p7) (σ p8) (σ p12) (σ p13) h) := λ σ h => by kernel_rfl
abbrev bWX : gW (DV × H) := (cH (λ σ h => aHT E (σ p2) (σ p7) (σ p8) (σ p12) (σ p13) h) (bN R10))
theorem bYV : Is E bIx (bL 2 (bWX E)) (λ σ h => aHP E (σ p0) (σ p2) (σ p7) (σ p8) (σ p12) (σ p13) aR (σ p14) h) := Is.loop (λ n4 σ h => aHP E (σ p0) (σ p2) (σ p7) (σ p8) (σ p12) (σ p13) n4 (σ p14) h) (by kernel_rfl) λ n4 => Is.as (Is.leaf _) λ σ h => by kernel_rfl
theorem bYY : Is E bIA (bN R10) (λ σ h => aMY E (σ p0) (σ p1) (σ p2) (σ p7) (σ p8) h) := Is.as (Is.seq (Is.seq (bYW E) (Is.seq (Is.block (bYV E)) (Is.leaf _))) (Is.leaf _)) λ σ h => by kernel_rfl
abbrev bWW : gW (DV × H) := (cH (λ σ h => aMY E (σ p0) (σ p1) (σ p2) (σ p7) (σ p8) h) (bN R10))
theorem bYX : Is E bIz (bL 0 (bWW E)) (λ σ h => aHQ E (σ p0) (σ p1) (σ p2) (σ p7) (σ p8) aR (σ p9) h) := Is.loop (λ n2 σ h => aHQ E (σ p0) (σ p1) (σ p2) (σ p7) (σ p8) n2 (σ p9) h) (by kernel_rfl) λ n2 => Is.as (Is.leaf _) λ σ h => by kernel_rfl
theorem bYZ : iA3 E bIB R10 (aSg E) := Is.as (Is.seq (Is.seq (Is.seq (Is.seq (bYY E) (Is.seq (Is.block (bYX E)) (Is.leaf _))) (Is.leaf _)) (Is.leaf _)) (Is.leaf _)) λ σ h => by kernel_rfl
def D10 : DF := ⟨3, 144, bIB, R10⟩
def S10 : cE := fA3 (aSg E)
theorem bMb : SQ D10 S10 := λ E => eA3 (d := D10) (bYZ E) rfl
def R20 : List RV := [(.r p2)]
def aXK (E : bO) (h : H) : aU := some ((ii 1), h)
def bIv : DC := (zs 2 [zX (.mv (zk 1))] .ret)
def aNn (r0 : DV) (i2 : DV → H → aU) (r3 : DV) (h : H) : aU := vK (cB r0) λ x1 => vK (cJ r3 x1) λ x2 => bK x2 (vK (cC 6 r0 r3) λ x3 => vK (aF 3 x3) λ x4 => vK (aI h.get x4) λ x5 => vK (bZ x5) λ x6 => vK (eH x6 (ii 600)) λ x7 => bA x7 false (λ kk => kk r0 h) h λ x8 h9 => bA x7 false (λ kk => kk r3 h9) h9 λ x10 h11 => bA x7 false (λ kk => vK (cC 6 x8 x10) λ v => kk v h11) h11 λ x12 h13 => bA x7 false (λ kk => vK (aF 4 x12) λ v => kk v h13) h13 λ x14 h15 => bA x7 false (λ kk => vK (aI h15.get x14) λ v => kk v h15) h15 λ x16 h17 => bA x7 false (λ kk => vK (bZ x16) λ v => kk v h17) h17 λ x18 h19 => bA x7 false (λ kk => vK (eH x18 (ii 600)) λ v => kk v h19) h19 λ x20 h21 => vK (aQ x7 (.bool true) x20) λ x22 => bA x22 false (λ kk => kk r0 h21) h21 λ x23 h24 => bA x22 false (λ kk => kk r3 h24) h24 λ x25 h26 => bA x22 false (λ kk => vK (cC 6 x23 x25) λ v => kk v h26) h26 λ x27 h28 => bA x22 false (λ kk => vK (aF 5 x27) λ v => kk v h28) h28 λ x29 h30 => bA x22 false (λ kk => vK (aI h30.get x29) λ v => kk v h30) h30 λ x31 h32 => bA x22 false (λ kk => vK (bZ x31) λ v => kk v h32) h32 λ x33 h34 => bA x22 false (λ kk => vK (eH x33 (ii 20000)) λ v => kk v h34) h34 λ x35 h36 => vK (aQ x22 (.bool true) x35) λ x37 => bK x37 (some ((ii 0), h36)) (vK (bJ r3 (ii 1)) λ x38 => i2 x38 h36)) (aXK E h)
def aHO (r0 : DV) (n : Nat) : DV → H → aU := Nat.rec (motive := λ _ => DV → H → aU) (λ _ _ => none) (λ _ i => aNn E r0 i) n
def bIu : DC := (.loop (zq (zs 7 [zM 3,zM 0,zX (.lenL o8),zX (.bin .lss o7 o9)] (.cond fR .skip (.exit 0))) (zq (.block 1 (zs 13 [zM 0,zM 3,zX (.iaS 6 fX iO),zX (.fa 3 iW),zX (.ld iG),zX (.lenS iL),zX (.bin .gtr iC (zk 600)),zM 19,zL 20 false 0,zL 20 false 3,zG 20 false (.iaS 6 gZ jV),zG 20 false (.fa 4 iB),zG 20 false (.ld iP),zG 20 false (.lenS kJ),zG 20 false (.bin .gtr mA (zk 600)),zX (.pick iV (.c (.bool true)) lB),zM 28,zL 29 false 0,zL 29 false 3,zG 29 false (.iaS 6 lY nH),zG 29 false (.fa 5 lF),zG 29 false (.ld mX),zG 29 false (.lenS mW),zG 29 false (.bin .gtr qG (zk 20000)),zX (.pick lZ (.c (.bool true)) mZ)] (.cond pR (zs 2 [zX (.mv (zk 0))] .ret) .skip))) (zr 11 [zM 3,zX (.bin .add fZ (zk 1)),zT 3 12]))))
def aSf (r0 : DV) (h : H) : aU := vK (cB r0) λ x1 => vK (eH x1 (ii 60)) λ x2 => bK x2 (some ((ii 0), h)) (aHO E r0 aR (ii 0) h)
def bIw : DC := (zs 2 [zX (.mv (zk 0))] (zq (zs 4 [zM 0,zX (.lenL o4),zX (.bin .gtr o5 (zk 60))] (.cond o6 (zs 2 [zX (.mv (zk 0))] .ret) .skip)) (zq (zs 3 [zX (.mv (zk 0))] (.block 0 bIu)) bIv)))
theorem bYT : Is E bIv (bN R20) (λ σ h => aXK E h) := λ σ h => by kernel_rfl
abbrev bWV : gW (DV × H) := (bL 0 (cH (λ σ h => aXK E h) (bN R20)))
theorem bYS : Is E bIu (bWV E) (λ σ h => aHO E (σ p0) aR (σ p3) h) := Is.loop (λ n2 σ h => aHO E (σ p0) n2 (σ p3) h) (by kernel_rfl) λ n2 => Is.as (Is.leaf _) λ σ h => by kernel_rfl
theorem bYU : oQ E bIw R20 (aSf E) := Is.as (Is.seq (Is.seq (Is.seq (bYT E) (Is.seq (Is.block (bYS E)) (Is.leaf _))) (Is.leaf _)) (Is.leaf _)) λ σ h => by kernel_rfl
def D20 : DF := ⟨1, 38, bIw, R20⟩
def S20 : cE := oR (aSf E)
theorem bLH : SQ D20 S20 := λ E => oV (d := D20) (bYU E) rfl
def R21 : List RV := [(.r p0)]
def bGy (h : H) : aU := vK (eM (zR [(ii 0), .nili] 256 ++ [(ii 0), (ii 0)]) []) λ x1 => dN x1 h λ x2 h3 => vK (aL x2) λ x4 => vK (aF 0 x4) λ x5 => wK (aD E 65 [] h3) λ x6 h7 => vK (eM [.nilp] [(0, 1, x6)]) λ x8 => vK (lG 256 2 x5 (ii 1)) λ x9 => vK (aF 1 x9) λ x10 => wK (bQ 1 x10 (.ifc 120 x8) h7) λ x11 h12 => some (x2, h12)
def bIt : DC := (zs 0 [zX (.mv (.c .nilp))] (zs 2 [zX (.bld (zR [(.int .i64 (.ofNat 0)),.nili] 256 ++ [(.int .i64 (.ofNat 0)),(.int .i64 (.ofNat 0))]) []),zX (.box o2),zT 1 3] (zq (zd 4 [yA 0 (zM 1),yA 4 (zY 8 (.nilchk o4)),yA 5 (zY 9 (.fa 0 o8)),yA 1 (zF 65 []),yA 2 (zX (.bld [.nilp] [(0,1,o5)])),yA 3 (zX (.mkI 120 o6)),yA 6 (zY 10 (.iaA 256 2 o9 (zk 1))),yA 7 (zY 11 (.fa 1 fR)),yA 8 (zW (.st 1 fZ o7))]) (zs 0 [zT 12 1,zM 12] .ret))))
theorem bYR : iA0 E bIt R21 (bGy E) := λ σ h => by kernel_rfl
def D21 : DF := ⟨0, 13, bIt, R21⟩
def S21 : cE := fA0 (bGy E)
theorem bLG : SQ D21 S21 := λ E => eA0 (d := D21) (bYR E) rfl
def R22 : List RV := [(.cells p0 2)]
def aSe (E : bO) (h : H) : aU := dZ 2 2 (.list [.nils, (ii 0)]) h λ x1 h2 => vK (eM [(ii 0), (ii 0), (ii 0), (.str []), .nils] [(0, 1, (ii 1)), (2, 1, (ii 2))]) λ x3 => gT 1 5 [(ii 0), (ii 0), (ii 0), (.str []), .nils] [(0, 5, x3)] h2 λ x4 h5 => vK (eM [.nils, (ii 0)] [(0, 1, x4)]) λ x6 => wK (bQ 2 x1 x6 h5) λ x7 h8 => vK (aK 2 h8.get x1) λ x9 => some (x9, h8)
def bIs : DC := (zs 0 [zX (.alc 2 2 (.list [.nils,(.int .i64 (.ofNat 0))]))] (zs 1 [zX (.bld [(.int .i64 (.ofNat 0)),(.int .i64 (.ofNat 0)),(.int .i64 (.ofNat 0)),(.str []),.nils] [(0,1,(zk 1)),(2,1,(zk 2))]),zX (.bsl 1 5 [(.int .i64 (.ofNat 0)),(.int .i64 (.ofNat 0)),(.int .i64 (.ofNat 0)),(.str []),.nils] [(0,5,o1)]),zX (.bld [.nils,(.int .i64 (.ofNat 0))] [(0,1,o2)]),zW (.st 2 o0 o3)] .ret))
theorem bYQ : iA0 E bIs R22 (aSe E) := λ σ h => by kernel_rfl
def D22 : DF := ⟨0, 4, bIs, R22⟩
def S22 : cE := fA0 (aSe E)
theorem bLF : SQ D22 S22 := λ E => eA0 (d := D22) (bYQ E) rfl
def R24 : List RV := [(.r p2)]
def aSc (E : bO) (r3 : DV) (h : H) : aU := vK (aI h.get r3) λ x1 => vK (mY h.get x1) λ x2 => some (x2, h)
def bIn : DC := (zs 44 [zX (.ld o3),zX (.b2s uJ),zT 2 45] .ret)
def aMV (E : bO) (i5 : DV → H → aU) (r33 : DV) (h : H) : aU := vK (bJ r33 (ii 1)) λ x1 => i5 x1 h
def bIl : DC := (zr 33 [zY 43 (.bin .add mX (zk 1)),zM 43])
def aNl (r3 r4 r32 : DV) (i5 : DV → H → aU) (r33 : DV) (h : H) : aU := vK (cJ r33 (ii 256)) λ x1 => bK x1 (vK (yM 256 2 true r32 r33) λ x2 => dZ 1 1 (.list [(ii 0)]) h λ x3 h4 => dZ 2 2 (.list [(ii 0), .nili]) h4 λ x5 h6 => wK (bQ 1 x3 r33 h6) λ x7 h8 => wK (bQ 2 x5 x2 h8) λ x9 h10 => vK (aF 1 x5) λ x11 => vK (aI h10.get x11) λ x12 => vK (dS .nilI false h10.get x12 .nili) λ x13 => bK x13 (aMV E i5 r33 h10) (wK (oW E r4 [(.fn (.func 76) [] [x3, x5])] h10) λ x14 h15 => aMV E i5 r33 h15)) (aSc E r3 h)
def aDp (r3 r4 r32 : DV) (n : Nat) : DV → H → aU := Nat.rec (motive := λ _ => DV → H → aU) (λ _ _ => none) (λ _ i => aNl E r3 r4 r32 i) n
def bIm : DC := (.loop (zs 34 [zX (.bin .lss mX (zk 256))] (zq (.cond mW .skip (.exit 2)) (zq (.block 3 (zs 35 [zM 33,zX (.ixA 256 2 true lF mX),zY 8 (.alc 1 1 (.list [(.int .i64 (.ofNat 0))])),zY 9 (.alc 2 2 (.list [(.int .i64 (.ofNat 0)),.nili])),zW (.st 1 o8 qG),zW (.st 2 o9 mZ)] (zq (zs 37 [zX (.fa 1 o9),zX (.ld pR),zX (.eqv .nilI false uD (.c .nili))] (.cond rT (.exit 3) .skip)) (zr 40 [zM 4,zX (.mkF (.func 76) [] [o8,o9]),zD ⟨(some p42),none,(.c (.v rE [vG]))⟩])))) bIl))))
def aMX (r1 r3 r4 r5 : DV) (h : H) : aU := wK (oW E r4 [(.fn (.func 75) [] [r1, r5])] h) λ x1 h2 => vK (aI h2.get r1) λ x3 => vK (aL x3) λ x4 => vK (aF 0 x4) λ x5 => vK (aK 512 h2.get x5) λ x6 => aDp E r3 r4 x6 aR (ii 0) h2
def bIq : DC := (zs 26 [zM 4,zX (.mkF (.func 75) [] [o1,o5]),zD ⟨(some p28),none,(.c (.v mA [lB]))⟩] (zq (zs 29 [zX (.ld o1),zX (.nilchk lZ),zX (.fa 0 lY),zX (.ldN 512 nH),zX (.mv (zk 0))] (.block 2 bIm)) bIn))
def aMW (E : bO) (i2 : DV → H → aU) (r17 : DV) (h : H) : aU := vK (bJ r17 (ii 1)) λ x1 => i2 x1 h
def bIo : DC := (zr 17 [zY 25 (.bin .add iL (zk 1)),zM 25])
def aNm (r1 r3 r4 r5 r16 : DV) (i2 : DV → H → aU) (r17 : DV) (h : H) : aU := vK (cJ r17 (ii 256)) λ x1 => bK x1 (vK (yM 256 2 true r16 r17) λ x2 => dZ 2 2 (.list [(ii 0), .nili]) h λ x3 h4 => wK (bQ 2 x3 x2 h4) λ x5 h6 => vK (aF 1 x3) λ x7 => vK (aI h6.get x7) λ x8 => vK (dS .nilI true h6.get x8 .nili) λ x9 => bK x9 (vK (aI h6.get r5) λ x10 => vK (bJ x10 (ii 1)) λ x11 => wK (bQ 1 r5 x11 h6) λ x12 h13 => aMW E i2 r17 h13) (aMW E i2 r17 h6)) (aMX E r1 r3 r4 r5 h)
def aDq (r1 r3 r4 r5 r16 : DV) (n : Nat) : DV → H → aU := Nat.rec (motive := λ _ => DV → H → aU) (λ _ _ => none) (λ _ i => aNm E r1 r3 r4 r5 r16 i) n
def bIp : DC := (.loop (zs 18 [zX (.bin .lss iL (zk 256))] (zq (.cond iC .skip (.exit 0)) (zq (.block 1 (zs 7 [zY 19 (.ixA 256 2 true iG iL),zX (.alc 2 2 (.list [(.int .i64 (.ofNat 0)),.nili])),zW (.st 2 o7 iN)] (zs 20 [zX (.fa 1 o7),zX (.ld iV),zX (.eqv .nilI true gZ (.c .nili))] (.cond jV (zr 23 [zX (.ld o5),zX (.bin .add iB (zk 1)),zW (.st 1 o5 iP)]) .skip)))) bIo))))
def aSd (r0 : DV) (h : H) : aU := dN r0 h λ x1 h2 => vK (aI h2.get x1) λ x3 => vK (dS .ptr false h2.get x3 .nilp) λ x4 => bK x4 (some ((.str []), h2)) (dZ 1 1 (.list [.nils]) h2 λ x5 h6 => dZ 1 1 (.list [(ii 0)]) h6 λ x7 h8 => wK (bQ 1 x7 (ii 0) h8) λ x9 h10 => vK (aI h10.get x1) λ x11 => vK (aL x11) λ x12 => vK (aF 0 x12) λ x13 => vK (aK 512 h10.get x13) λ x14 => aDq E x1 x5 (.fn (.func 74) [] [x5]) x7 x14 aR (ii 0) h10)
def bIr : DC := (zs 1 [zX (.box o0),zX (.mv (.c (.str [])))] (zq (zs 10 [zX (.ld o1),zX (.eqv .ptr false fR (.c .nilp))] (.cond fZ (zs 2 [zX (.mv (.c (.str [])))] .ret) .skip)) (zs 3 [zX (.alc 1 1 (.list [.nils]))] (zs 4 [zY 12 (.mkF (.func 74) [] [o3]),zM 12] (zs 5 [zX (.alc 1 1 (.list [(.int .i64 (.ofNat 0))])),zW (.st 1 o5 (zk 0))] (zq (zs 13 [zX (.ld o1),zX (.nilchk fX),zX (.fa 0 iO),zX (.ldN 512 iW),zX (.mv (zk 0))] (.block 0 bIp)) bIq))))))
theorem bYL : Is E bIn (bN R24) (λ σ h => aSc E (σ p3) h) := λ σ h => by kernel_rfl
abbrev bGl : gW (DV × H) := (cH (λ σ h => aSc E (σ p3) h) (bN R24))
abbrev bWU (n5 : Nat) : gW (DV × H) := (cH (λ σ h => (aDp E (σ p3) (σ p4) (σ p32) n5) (σ p33) h) (bL 2 (bGl E)))
theorem bYJ (n5 : Nat) : Is E bIl (bWU E n5) (λ σ h => aMV E (aDp E (σ p3) (σ p4) (σ p32) n5) (σ p33) h) := λ σ h => by kernel_rfl
theorem bYK : Is E bIm (bL 2 (bGl E)) (λ σ h => aDp E (σ p3) (σ p4) (σ p32) aR (σ p33) h) := Is.loop (λ n5 σ h => aDp E (σ p3) (σ p4) (σ p32) n5 (σ p33) h) (by kernel_rfl) λ n5 => Is.as (Is.seq (Is.seq (Is.seq (bYJ E n5) (Is.leaf _)) (Is.leaf _)) (Is.leaf _)) λ σ h => by kernel_rfl
theorem bYO : Is E bIq (bN R24) (λ σ h => aMX E (σ p1) (σ p3) (σ p4) (σ p5) h) := Is.as (Is.seq (Is.seq (bYL E) (Is.seq (Is.block (bYK E)) (Is.leaf _))) (Is.leaf _)) λ σ h => by kernel_rfl
abbrev bGk : gW (DV × H) := (cH (λ σ h => aMX E (σ p1) (σ p3) (σ p4) (σ p5) h) (bN R24))
abbrev bMg (n2 : Nat) : gW (DV × H) := (cH (λ σ h => (aDq E (σ p1) (σ p3) (σ p4) (σ p5) (σ p16) n2) (σ p17) h) (bL 0 (bGk E)))
theorem bYM (n2 : Nat) : Is E bIo (bMg E n2) (λ σ h => aMW E (aDq E (σ p1) (σ p3) (σ p4) (σ p5) (σ p16) n2) (σ p17) h) := λ σ h => by kernel_rfl
theorem bYN : Is E bIp (bL 0 (bGk E)) (λ σ h => aDq E (σ p1) (σ p3) (σ p4) (σ p5) (σ p16) aR (σ p17) h) := Is.loop (λ n2 σ h => aDq E (σ p1) (σ p3) (σ p4) (σ p5) (σ p16) n2 (σ p17) h) (by kernel_rfl) λ n2 => Is.as (Is.seq (Is.seq (Is.seq (bYM E n2) (Is.leaf _)) (Is.leaf _)) (Is.leaf _)) λ σ h => by kernel_rfl
theorem bYP : oQ E bIr R24 (aSd E) := Is.as (Is.seq (Is.seq (Is.seq (Is.seq (Is.seq (Is.seq (bYO E) (Is.seq (Is.block (bYN E)) (Is.leaf _))) (Is.leaf _)) (Is.leaf _)) (Is.leaf _)) (Is.leaf _)) (Is.leaf _)) λ σ h => by kernel_rfl
def D24 : DF := ⟨1, 46, bIr, R24⟩
def S24 : cE := oR (aSd E)
theorem bLE : SQ D24 S24 := λ E => oV (d := D24) (bYP E) rfl
def R25 : List RV := [(.r p2)]
def aXI (E : bO) (r3 : DV) (h : H) : aU := some (r3, h)
def bIj : DC := (zs 2 [zT 55 3,zM 55] .ret)
def aMU (E : bO) (i2 : DV → DV → H → aU) (r3 r4 : DV) (h : H) : aU := vK (bJ r4 (ii 1)) λ x1 => i2 r3 x1 h
def bIh : DC := (zr 19 [zM 4,zX (.bin .add iN (zk 1)),zT 4 20])
def aNk (r1 : DV) (i2 : DV → DV → H → aU) (r3 r4 : DV) (h : H) : aU := vK (aF 0 r1) λ x1 => vK (aI h.get x1) λ x2 => vK (cB x2) λ x3 => vK (cJ r4 x3) λ x4 => bK x4 (vK (aF 0 r1) λ x5 => vK (aI h.get x5) λ x6 => vK (cC 5 x6 r4) λ x7 => vK (aK 5 h.get x7) λ x8 => dZ 5 5 (.list [(ii 0), (ii 0), (ii 0), (.str []), .nils]) h λ x9 h10 => wK (bQ 5 x9 x8 h10) λ x11 h12 => vK (aF 0 x9) λ x13 => vK (aI h12.get x13) λ x14 => vK (aF 1 x9) λ x15 => vK (aI h12.get x15) λ x16 => vK (aF 2 x9) λ x17 => vK (aI h12.get x17) λ x18 => vK (fF .u8 x18) λ x19 => gT 1 1 [(.int .u8 (.ofNat 0))] [(0, 1, x19)] h12 λ x20 h21 => vK (mY h21.get x20) λ x22 => wK (aD E 53 [x14] h21) λ x23 h24 => rK (rcK (mY h24.get x20) x22) <| rK (rcK (aI h24.get x17) x18) <| rK (rcK (aI h24.get x15) x16) <| wK (aD E 53 [x16] h24) λ x25 h26 => rK (rcK (mY h26.get x20) x22) <| rK (rcK (aI h26.get x17) x18) <| vK (bJ x23 x25) λ x27 => vK (bJ x27 x22) λ x28 => vK (bJ r3 x28) λ x29 => vK (aF 2 x9) λ x30 => vK (aI h26.get x30) λ x31 => vK (bP x31 (ii 1)) λ x32 => bK x32 (vK (aF 3 x9) λ x33 => vK (aI h26.get x33) λ x34 => wK (aD E 54 [x34] h26) λ x35 h36 => vK (bJ x29 x35) λ x37 => aMU E i2 x37 r4 h36) (vK (aF 4 x9) λ x38 => vK (aI h26.get x38) λ x39 => wK (aD E 77 [x39] h26) λ x40 h41 => wK (aD E 54 [x40] h41) λ x42 h43 => vK (bJ x29 x42) λ x44 => aMU E i2 x44 r4 h43)) (aXI E r3 h)
def aBr (r1 : DV) (n : Nat) : DV → DV → H → aU := Nat.rec (motive := λ _ => DV → DV → H → aU) (λ _ _ _ => none) (λ _ i => aNk E r1 i) n
def bIi : DC := (.loop (zq (zs 14 [zM 4,zX (.fa 0 o1),zX (.ld iW),zX (.lenL iG),zX (.bin .lss iO iL)] (.cond iC .skip (.exit 0))) (zq (.block 1 (zs 21 [zX (.fa 0 o1),zX (.ld gZ),zM 4,zX (.iaS 5 jV iB),zX (.ldN 5 iP),zY 5 (.alc 5 5 (.list [(.int .i64 (.ofNat 0)),(.int .i64 (.ofNat 0)),(.int .i64 (.ofNat 0)),(.str []),.nils])),zW (.st 5 o5 kJ)] (zq (zd 26 [yA 0 (zM 3),yA 1 (zX (.fa 0 o5)),yA 2 (zX (.ld lB)),yA 4 (zY 30 (.fa 1 o5)),yA 5 (zY 31 (.ld lY)),yA 8 (zY 34 (.fa 2 o5)),yA 9 (zY 35 (.ld mW)),yA 10 (zY 36 (.conv .u8 qG)),yA 11 (zY 37 (.bsl 1 1 [(.int .u8 (.ofNat 0))] [(0,1,mZ)])),yA 12 (zY 38 (.b2s pR)),yB 3 (zF 53 [lK]) [12,9,5] false,yB 6 (zD ⟨(some p32),none,(.c (.f 53 [nH]))⟩) [12,9] false,yA 7 (zY 33 (.bin .add lZ lF)),yA 13 (zY 39 (.bin .add mX uD)),yA 14 (zY 40 (.bin .add mA rT)),yB 15 (zT 3 40) [] true]) (zs 41 [zX (.fa 2 o5),zX (.ld vG),zX (.bin .eql uN (zk 1))] (.cond uM (zr 44 [zM 3,zX (.fa 3 o5),zX (.ld o45),zF 54 [zJ],zX (.bin .add uJ o47),zT 3 48]) (zr 49 [zM 3,zX (.fa 4 o5),zX (.ld o50),zF 77 [o51],zF 54 [o52],zX (.bin .add o49 o53),zT 3 54])))))) bIh)))
def aSb (r0 : DV) (h : H) : aU := dN r0 h λ x1 h2 => vK (aF 1 x1) λ x3 => vK (aI h2.get x3) λ x4 => vK (aF 0 x1) λ x5 => vK (aI h2.get x5) λ x6 => vK (cB x6) λ x7 => wK (aD E 53 [x4] h2) λ x8 h9 => rK (rcK (aI h9.get x5) x6) <| wK (aD E 53 [x7] h9) λ x10 h11 => vK (bJ x8 x10) λ x12 => aBr E x1 aR x12 (ii 0) h11
def bIk : DC := (zs 1 [zX (.box o0),zX (.mv (.c (.str [])))] (zq (zd 9 [yA 0 (zY 6 (.fa 1 o1)),yA 1 (zY 7 (.ld o6)),yA 3 (zX (.fa 0 o1)),yA 4 (zX (.ld o9)),yA 5 (zX (.lenL fR)),yB 2 (zD ⟨(some p8),none,(.c (.f 53 [o7]))⟩) [4] false,yA 6 (zF 53 [fZ]),yA 7 (zX (.bin .add o8 fL)),yA 8 (zT 3 13)]) (zq (zs 4 [zX (.mv (zk 0))] (.block 0 bIi)) bIj)))
theorem bYH : Is E bIj (bN R25) (λ σ h => aXI E (σ p3) h) := λ σ h => by kernel_rfl
abbrev bGj : gW (DV × H) := (cH (λ σ h => aXI E (σ p3) h) (bN R25))
abbrev bWT (n2 : Nat) : gW (DV × H) := (cH (λ σ h => (aBr E (σ p1) n2) (σ p3) (σ p4) h) (bL 0 (bGj E)))
theorem bYF (n2 : Nat) : Is E bIh (bWT E n2) (λ σ h => aMU E (aBr E (σ p1) n2) (σ p3) (σ p4) h) := λ σ h => by kernel_rfl
theorem bYG : Is E bIi (bL 0 (bGj E)) (λ σ h => aBr E (σ p1) aR (σ p3) (σ p4) h) := Is.loop (λ n2 σ h => aBr E (σ p1) n2 (σ p3) (σ p4) h) (by kernel_rfl) λ n2 => Is.as (Is.seq (Is.seq (bYF E n2) (Is.leaf _)) (Is.leaf _)) λ σ h => by kernel_rfl
theorem bYI : oQ E bIk R25 (aSb E) := Is.as (Is.seq (Is.seq (Is.seq (bYH E) (Is.seq (Is.block (bYG E)) (Is.leaf _))) (Is.leaf _)) (Is.leaf _)) λ σ h => by kernel_rfl
def D25 : DF := ⟨1, 56, bIk, R25⟩
def S25 : cE := oR (aSb E)
theorem bLD : SQ D25 S25 := λ E => oV (d := D25) (bYI E) rfl
def R28 : List RV := [(.r p0)]
def bGx (h : H) : aU := wK (aD E 21 [] h) λ x1 h2 => vK (dS .ptr false h2.get x1 .nilp) λ x3 => bK x3 (some ((.bool false), h2)) (wK (aD E 40 [x1, (.str [47, 97])] h2) λ x4 h5 => wK (aD E 41 [x1, (.str [47, 97, 47, 98])] h5) λ x6 h7 => wK (aD E 43 [x1, (.str [47, 97])] h7) λ x8 h9 => wK (aD E 46 [x1, (.str [47, 97, 47, 98]), (ii 2), (.str [120, 121])] h9) λ x10 h11 => wK (aD E 33 [x1, (.str [47, 97, 47, 98]), (ii 1), (ii 9)] h11) λ x12 h13 => vK (aG 0 x12) λ x14 => vK (aG 1 x12) λ x15 => wK (aD E 44 [x1, (.str [47, 97, 47, 98]), (.str [47, 99])] h13) λ x16 h17 => wK (aD E 44 [x1, (.str [47, 97]), (.str [47, 97, 47, 100])] h17) λ x18 h19 => wK (aD E 34 [x1, (.str [47, 99])] h19) λ x20 h21 => vK (aG 0 x20) λ x22 => vK (aG 1 x20) λ x23 => dZ 5 5 (.list [(ii 0), (ii 0), (ii 0), (ii 0), (ii 0)]) h21 λ x24 h25 => wK (bQ 5 x24 x22 h25) λ x26 h27 => wK (aD E 35 [x1, (.str [47])] h27) λ x28 h29 => vK (aG 0 x28) λ x30 => vK (aG 1 x28) λ x31 => wK (aD E 24 [x1] h29) λ x32 h33 => wK (aD E 78 [x32] h33) λ x34 h35 => vK (aG 0 x34) λ x36 => vK (aG 1 x34) λ x37 => vK (bP x4 (ii 0)) λ x38 => bA x38 true (λ kk => kk x6 h35) h35 λ x39 h40 => bA x38 true (λ kk => vK (bP x39 (ii 0)) λ v => kk v h40) h40 λ x41 h42 => vK (aQ x38 x41 (.bool false)) λ x43 => bA x43 true (λ kk => kk x8 h42) h42 λ x44 h45 => bA x43 true (λ kk => vK (bP x44 (ii 14)) λ v => kk v h45) h45 λ x46 h47 => vK (aQ x43 x46 (.bool false)) λ x48 => bA x48 true (λ kk => kk x10 h47) h47 λ x49 h50 => bA x48 true (λ kk => vK (bP x49 (ii 0)) λ v => kk v h50) h50 λ x51 h52 => vK (aQ x48 x51 (.bool false)) λ x53 => bA x53 true (λ kk => kk x14 h52) h52 λ x54 h55 => bA x53 true (λ kk => vK (bP x54 (.str [0, 120, 121])) λ v => kk v h55) h55 λ x56 h57 => vK (aQ x53 x56 (.bool false)) λ x58 => bA x58 true (λ kk => kk x15 h57) h57 λ x59 h60 => bA x58 true (λ kk => vK (bP x59 (ii 0)) λ v => kk v h60) h60 λ x61 h62 => vK (aQ x58 x61 (.bool false)) λ x63 => bA x63 true (λ kk => kk x16 h62) h62 λ x64 h65 => bA x63 true (λ kk => vK (bP x64 (ii 0)) λ v => kk v h65) h65 λ x66 h67 => vK (aQ x63 x66 (.bool false)) λ x68 => bA x68 true (λ kk => kk x18 h67) h67 λ x69 h70 => bA x68 true (λ kk => vK (bP x69 (ii 1)) λ v => kk v h70) h70 λ x71 h72 => vK (aQ x68 x71 (.bool false)) λ x73 => bA x73 true (λ kk => vK (aK 5 h72.get x24) λ v => kk v h72) h72 λ x74 h75 => bA x73 true (λ kk => vK (eM [(ii 0), (ii 0), (ii 0), (ii 0), (ii 0)] [(0, 1, (ii 3)), (1, 1, (ii 2)), (2, 1, (ii 1)), (3, 1, (ii 4)), (4, 1, (ii 1))]) λ v => kk v h75) h75 λ x76 h77 => bA x73 true (λ kk => vK (aEa false (.leaf .int 0 (.leaf .int 1 (.leaf .int 2 (.leaf .int 3 (.leaf .int 4 .nil))))) h77.get x74 x76) λ v => kk v h77) h77 λ x78 h79 => vK (aQ x73 x78 (.bool false)) λ x80 => bA x80 true (λ kk => kk x23 h79) h79 λ x81 h82 => bA x80 true (λ kk => vK (bP x81 (ii 0)) λ v => kk v h82) h82 λ x83 h84 => vK (aQ x80 x83 (.bool false)) λ x85 => bA x85 true (λ kk => kk x30 h84) h84 λ x86 h87 => bA x85 true (λ kk => gT 2 1 [(.str [])] [(0, 1, (.str [97])), (1, 1, (.str [99]))] h87 kk) h87 λ x88 h89 => bA x85 true (λ kk => wK (aD E 79 [x86, x88] h89) kk) h89 λ x90 h91 => vK (aQ x85 x90 (.bool false)) λ x92 => bA x92 true (λ kk => kk x31 h91) h91 λ x93 h94 => bA x92 true (λ kk => vK (bP x93 (ii 0)) λ v => kk v h94) h94 λ x95 h96 => vK (aQ x92 x95 (.bool false)) λ x97 => bA x97 true (λ kk => kk x37 h96) h96 λ x98 h99 => bA x97 true (λ kk => vK (bP x98 (ii 0)) λ v => kk v h99) h99 λ x100 h101 => vK (aQ x97 x100 (.bool false)) λ x102 => bA x102 true (λ kk => kk x36 h101) h101 λ x103 h104 => bA x102 true (λ kk => wK (aD E 31 [x103] h104) kk) h104 λ x105 h106 => bA x102 true (λ kk => vK (bP x105 (ii 4)) λ v => kk v h106) h106 λ x107 h108 => vK (aQ x102 x107 (.bool false)) λ x109 => bA x109 true (λ kk => kk x1 h108) h108 λ x110 h111 => bA x109 true (λ kk => wK (aD E 42 [x110, (.str [47, 97])] h111) kk) h111 λ x112 h113 => bA x109 true (λ kk => vK (bP x112 (ii 12)) λ v => kk v h113) h113 λ x114 h115 => vK (aQ x109 x114 (.bool false)) λ x116 => bA x116 true (λ kk => kk x1 h115) h115 λ x117 h118 => bA x116 true (λ kk => wK (aD E 43 [x117, (.str [47, 97])] h118) kk) h118 λ x119 h120 => bA x116 true (λ kk => vK (bP x119 (ii 0)) λ v => kk v h120) h120 λ x121 h122 => vK (aQ x116 x121 (.bool false)) λ x123 => some (x123, h122))
def bIg : DC := (zs 0 [zX (.mv (.c (.bool false)))] (zs 16 [zF 21 [],zT 1 16] (zq (zs 17 [zM 1,zX (.eqv .ptr false iL (.c .nilp))] (.cond iC (zs 0 [zX (.mv (.c (.bool false)))] .ret) .skip)) (zs 19 [zM 1,zF 40 [iN,(.c (.str [47,97]))],zM 1,zF 41 [gZ,(.c (.str [47,97,47,98]))],zM 1,zF 43 [iB,(.c (.str [47,97]))],zT 2 20,zT 3 22,zT 4 24] (zs 25 [zM 1,zF 46 [kJ,(.c (.str [47,97,47,98])),(zk 2),(.c (.str [120,121]))],zT 5 26] (zs 28 [zM 1,zF 33 [lK,(.c (.str [47,97,47,98])),(zk 1),(zk 9)],zT 27 29,zX (.ext 0 lB),zX (.ext 1 lB),zT 6 30,zT 7 31] (zs 32 [zM 1,zF 44 [lF,(.c (.str [47,97,47,98])),(.c (.str [47,99]))],zT 8 33] (zs 34 [zM 1,zF 44 [mW,(.c (.str [47,97])),(.c (.str [47,97,47,100]))],zT 9 35] (zs 37 [zM 1,zF 34 [pR,(.c (.str [47,99]))],zT 36 38,zX (.ext 0 mZ),zX (.ext 1 mZ),zY 10 (.alc 5 5 (.list [(.int .i64 (.ofNat 0)),(.int .i64 (.ofNat 0)),(.int .i64 (.ofNat 0)),(.int .i64 (.ofNat 0)),(.int .i64 (.ofNat 0))])),zW (.st 5 fR rT),zT 11 40] (zs 42 [zM 1,zF 35 [uN,(.c (.str [47]))],zT 41 43,zX (.ext 0 vG),zX (.ext 1 vG),zT 12 44,zT 13 45] (zs 47 [zM 1,zF 24 [o47],zF 78 [o48],zT 46 49,zX (.ext 0 zJ),zX (.ext 1 zJ),zT 14 50,zT 15 51] (zs 52 [zM 2,zX (.bin .eql o52 (zk 0)),zM 53,zL 54 true 3,zG 54 true (.bin .eql o55 (zk 0)),zX (.pick o54 o56 (.c (.bool false))),zM 57,zL 58 true 4,zG 58 true (.bin .eql o59 (zk 14)),zX (.pick o58 o60 (.c (.bool false))),zM 61,zL 62 true 5,zG 62 true (.bin .eql o63 (zk 0)),zX (.pick o62 o64 (.c (.bool false))),zM 65,zL 66 true 6,zG 66 true (.bin .eql o67 (.c (.str [0,120,121]))),zX (.pick o66 o68 (.c (.bool false))),zM 69,zL 70 true 7,zG 70 true (.bin .eql o71 (zk 0)),zX (.pick o70 o72 (.c (.bool false))),zM 73,zL 74 true 8,zG 74 true (.bin .eql o75 (zk 0)),zX (.pick o74 o76 (.c (.bool false))),zM 77,zL 78 true 9,zG 78 true (.bin .eql o79 (zk 1)),zX (.pick o78 o80 (.c (.bool false))),zM 81,zG 82 true (.ldN 5 fR),zG 82 true (.bld [(.int .i64 (.ofNat 0)),(.int .i64 (.ofNat 0)),(.int .i64 (.ofNat 0)),(.int .i64 (.ofNat 0)),(.int .i64 (.ofNat 0))] [(0,1,(zk 3)),(1,1,(zk 2)),(2,1,(zk 1)),(3,1,(zk 4)),(4,1,(zk 1))]),zG 82 true (.eqs false (.leaf .int 0 (.leaf .int 1 (.leaf .int 2 (.leaf .int 3 (.leaf .int 4 .nil))))) o83 o84),zX (.pick o82 o85 (.c (.bool false))),zM 86,zL 87 true 11,zG 87 true (.bin .eql o88 (zk 0)),zX (.pick o87 o89 (.c (.bool false))),zM 90,zL 91 true 12,zG 91 true (.bsl 2 1 [(.str [])] [(0,1,(.c (.str [97]))),(1,1,(.c (.str [99])))]),zD ⟨(some p94),(some (p91,true)),(.c (.f 79 [o92,o93]))⟩,zY 95 (.pick o91 o94 (.c (.bool false))),zT 96 95,zD ⟨(some p97),(some (p96,true)),(.e (.mv fX))⟩,zD ⟨(some p98),(some (p96,true)),(.e (.bin .eql o97 (zk 0)))⟩,zY 99 (.pick o96 o98 (.c (.bool false))),zT 100 99,zD ⟨(some p101),(some (bIU,true)),(.e (.mv iW))⟩,zD ⟨(some bCd),(some (bIU,true)),(.e (.bin .eql bJE (zk 0)))⟩,zY 103 (.pick aUZ aUY (.c (.bool false))),zT 104 103,zD ⟨(some bIT),(some (bCc,true)),(.e (.mv iO))⟩,zD ⟨(some bIS),(some (bCc,true)),(.c (.f 31 [aUV]))⟩,zD ⟨(some p107),(some (bCc,true)),(.e (.bin .eql bCp (zk 4)))⟩,zY 108 (.pick aUW bCo (.c (.bool false))),zT 109 108,zD ⟨(some p110),(some (bCb,true)),(.e (.mv o1))⟩,zD ⟨(some p111),(some (bCb,true)),(.c (.f 42 [bCn,(.c (.str [47,97]))]))⟩,zD ⟨(some p112),(some (bCb,true)),(.e (.bin .eql aUU (zk 12)))⟩,zY 113 (.pick aSV o112 (.c (.bool false))),zT 114 113,zD ⟨(some p115),(some (bCa,true)),(.e (.mv o1))⟩,zD ⟨(some p116),(some (bCa,true)),(.c (.f 43 [aUT,(.c (.str [47,97]))]))⟩,zD ⟨(some p117),(some (bCa,true)),(.e (.bin .eql bJB (zk 0)))⟩,zY 118 (.pick bCm bJA (.c (.bool false))),zT 0 118] .ret))))))))))))
theorem bYE : iA0 E bIg R28 (bGx E) := λ σ h => by kernel_rfl
def D28 : DF := ⟨0, 119, bIg, R28⟩
def S28 : cE := fA0 (bGx E)
theorem bLC : SQ D28 S28 := λ E => eA0 (d := D28) (bYE E) rfl
def R29 : List RV := [(.cells p6 2),(.r p7)]
def sL (E : bO) (r6 r8 r9 r10 : DV) (h : H) : aU := vK (aK 2 h.get r8) λ x1 => vK (bP r10 r9) λ x2 => wK (bQ 2 r6 x1 h) λ x3 h4 => vK (aK 2 h4.get r6) λ x5 => some ((.tup [x5, x2]), h4)
def bIe : DC := (zs 138 [zX (.ldN 2 o8),zM 10,zM 9,zX (.bin .eql bJn o140),zW (.st 2 o6 aUS),zT 7 141] .ret)
def aSa (r0 r1 r2 : DV) (h : H) : aU := dN r1 h λ x1 h2 => dN r2 h2 λ x3 h4 => dZ 2 2 (.list [.nils, (ii 0)]) h4 λ x5 h6 => vK (aK 2 h6.get x1) λ x7 => dZ 2 2 (.list [.nils, (ii 0)]) h6 λ x8 h9 => wK (bQ 2 x8 x7 h9) λ x10 h11 => vK (aF 0 x3) λ x12 => vK (aI h11.get x12) λ x13 => vK (bP x13 (ii 1)) λ x14 => bK x14 (vK (aK 2 h11.get x1) λ x15 => vK (aF 3 x3) λ x16 => vK (aI h11.get x16) λ x17 => wK (aD E 66 [x15, x17, (ii 2)] h11) λ x18 h19 => vK (aG 0 x18) λ x20 => vK (aG 1 x18) λ x21 => wK (bQ 2 x8 x20 h19) λ x22 h23 => vK (aF 3 x3) λ x24 => vK (aI h23.get x24) λ x25 => wK (aD E 40 [r0, x25] h23) λ x26 h27 => sL E x5 x8 x21 x26 h27) (vK (bP x13 (ii 2)) λ x28 => bK x28 (vK (aK 2 h11.get x1) λ x29 => vK (aF 3 x3) λ x30 => vK (aI h11.get x30) λ x31 => wK (aD E 66 [x29, x31, (ii 1)] h11) λ x32 h33 => vK (aG 0 x32) λ x34 => vK (aG 1 x32) λ x35 => wK (bQ 2 x8 x34 h33) λ x36 h37 => vK (aF 3 x3) λ x38 => vK (aI h37.get x38) λ x39 => wK (aD E 41 [r0, x39] h37) λ x40 h41 => sL E x5 x8 x35 x40 h41) (vK (bP x13 (ii 3)) λ x42 => bK x42 (vK (aK 2 h11.get x1) λ x43 => vK (aF 3 x3) λ x44 => vK (aI h11.get x44) λ x45 => wK (aD E 67 [x43, x45] h11) λ x46 h47 => vK (aG 0 x46) λ x48 => vK (aG 1 x46) λ x49 => wK (bQ 2 x8 x48 h47) λ x50 h51 => vK (aF 3 x3) λ x52 => vK (aI h51.get x52) λ x53 => wK (aD E 42 [r0, x53] h51) λ x54 h55 => sL E x5 x8 x49 x54 h55) (vK (bP x13 (ii 4)) λ x56 => bK x56 (vK (aK 2 h11.get x1) λ x57 => vK (aF 3 x3) λ x58 => vK (aI h11.get x58) λ x59 => wK (aD E 68 [x57, x59] h11) λ x60 h61 => vK (aG 0 x60) λ x62 => vK (aG 1 x60) λ x63 => wK (bQ 2 x8 x62 h61) λ x64 h65 => vK (aF 3 x3) λ x66 => vK (aI h65.get x66) λ x67 => wK (aD E 43 [r0, x67] h65) λ x68 h69 => sL E x5 x8 x63 x68 h69) (vK (bP x13 (ii 5)) λ x70 => bK x70 (vK (aK 2 h11.get x1) λ x71 => vK (aF 3 x3) λ x72 => vK (aI h11.get x72) λ x73 => vK (aF 4 x3) λ x74 => vK (aI h11.get x74) λ x75 => wK (aD E 69 [x71, x73, x75] h11) λ x76 h77 => vK (aG 0 x76) λ x78 => vK (aG 1 x76) λ x79 => wK (bQ 2 x8 x78 h77) λ x80 h81 => vK (aF 3 x3) λ x82 => vK (aI h81.get x82) λ x83 => vK (aF 4 x3) λ x84 => vK (aI h81.get x84) λ x85 => wK (aD E 44 [r0, x83, x85] h81) λ x86 h87 => sL E x5 x8 x79 x86 h87) (vK (bP x13 (ii 6)) λ x88 => bK x88 (vK (aK 2 h11.get x1) λ x89 => vK (aF 3 x3) λ x90 => vK (aI h11.get x90) λ x91 => vK (aF 4 x3) λ x92 => vK (aI h11.get x92) λ x93 => wK (aD E 70 [x89, x91, x93] h11) λ x94 h95 => vK (aG 0 x94) λ x96 => vK (aG 1 x94) λ x97 => wK (bQ 2 x8 x96 h95) λ x98 h99 => vK (aF 3 x3) λ x100 => vK (aI h99.get x100) λ x101 => vK (aF 4 x3) λ x102 => vK (aI h99.get x102) λ x103 => wK (aD E 45 [r0, x101, x103] h99) λ x104 h105 => sL E x5 x8 x97 x104 h105) (vK (bP x13 (ii 7)) λ x106 => bK x106 (vK (aK 2 h11.get x1) λ x107 => vK (aF 3 x3) λ x108 => vK (aI h11.get x108) λ x109 => vK (aF 1 x3) λ x110 => vK (aI h11.get x110) λ x111 => vK (aF 5 x3) λ x112 => vK (aI h11.get x112) λ x113 => wK (aD E 71 [x107, x109, x111, x113] h11) λ x114 h115 => vK (aG 0 x114) λ x116 => vK (aG 1 x114) λ x117 => wK (bQ 2 x8 x116 h115) λ x118 h119 => vK (aF 3 x3) λ x120 => vK (aI h119.get x120) λ x121 => vK (aF 1 x3) λ x122 => vK (aI h119.get x122) λ x123 => vK (aF 5 x3) λ x124 => vK (aI h119.get x124) λ x125 => wK (aD E 46 [r0, x121, x123, x125] h119) λ x126 h127 => sL E x5 x8 x117 x126 h127) (vK (bP x13 (ii 8)) λ x128 => bK x128 (vK (aK 2 h11.get x1) λ x129 => vK (aF 3 x3) λ x130 => vK (aI h11.get x130) λ x131 => vK (aF 2 x3) λ x132 => vK (aI h11.get x132) λ x133 => wK (aD E 72 [x129, x131, x133] h11) λ x134 h135 => vK (aG 0 x134) λ x136 => vK (aG 1 x134) λ x137 => wK (bQ 2 x8 x136 h135) λ x138 h139 => vK (aF 3 x3) λ x140 => vK (aI h139.get x140) λ x141 => vK (aF 2 x3) λ x142 => vK (aI h139.get x142) λ x143 => wK (aD E 47 [r0, x141, x143] h139) λ x144 h145 => sL E x5 x8 x137 x144 h145) (sL E x5 x8 (ii 0) (ii 0) h11))))))))
def bIf : DC := (zs 4 [zX (.box o1),zX (.box o2),zX (.alc 2 2 (.list [.nils,(.int .i64 (.ofNat 0))])),zX (.mv (.c (.bool false)))] (zs 8 [zY 11 (.ldN 2 o4),zX (.alc 2 2 (.list [.nils,(.int .i64 (.ofNat 0))])),zW (.st 2 o8 fZ),zX (.mv (zk 0)),zX (.mv (zk 0))] (zq (zs 12 [zX (.fa 0 o5),zX (.ld fL)] (.block 0 (zs 14 [zY 15 (.bin .eql fX (zk 1)),zM 15] (.cond iO (zs 17 [zX (.ldN 2 o4),zX (.fa 3 o5),zX (.ld iC),zF 66 [iL,iN,(zk 2)],zT 16 20,zX (.ext 0 iG),zX (.ext 1 iG),zW (.st 2 o8 gZ),zT 9 22] (zr 23 [zM 0,zX (.fa 3 o5),zX (.ld iP),zF 40 [iB,kJ],zT 10 26])) (zs 27 [zY 28 (.bin .eql fX (zk 2)),zM 28] (.cond lB (zs 30 [zX (.ldN 2 o4),zX (.fa 3 o5),zX (.ld nH),zF 66 [lY,lF,(zk 1)],zT 29 33,zX (.ext 0 lZ),zX (.ext 1 lZ),zW (.st 2 o8 mW),zT 9 35] (zr 36 [zM 0,zX (.fa 3 o5),zX (.ld pR),zF 41 [mZ,uD],zT 10 39])) (zs 40 [zY 41 (.bin .eql fX (zk 3)),zM 41] (.cond rE (zs 43 [zX (.ldN 2 o4),zX (.fa 3 o5),zX (.ld uJ),zF 67 [uM,o45],zT 42 46,zX (.ext 0 uN),zX (.ext 1 uN),zW (.st 2 o8 o47),zT 9 48] (zr 49 [zM 0,zX (.fa 3 o5),zX (.ld o50),zF 42 [o49,o51],zT 10 52])) (zs 53 [zY 54 (.bin .eql fX (zk 4)),zM 54] (.cond o53 (zs 56 [zX (.ldN 2 o4),zX (.fa 3 o5),zX (.ld o57),zF 68 [o56,o58],zT 55 59,zX (.ext 0 o55),zX (.ext 1 o55),zW (.st 2 o8 o60),zT 9 61] (zr 62 [zM 0,zX (.fa 3 o5),zX (.ld o63),zF 43 [o62,o64],zT 10 65])) (zs 66 [zY 67 (.bin .eql fX (zk 5)),zM 67] (.cond o66 (zs 69 [zX (.ldN 2 o4),zX (.fa 3 o5),zX (.ld o70),zX (.fa 4 o5),zX (.ld o72),zF 69 [o69,o71,o73],zT 68 74,zX (.ext 0 o68),zX (.ext 1 o68),zW (.st 2 o8 o75),zT 9 76] (zr 77 [zM 0,zX (.fa 3 o5),zX (.ld o78),zX (.fa 4 o5),zX (.ld o80),zF 44 [o77,o79,o81],zT 10 82])) (zs 83 [zY 84 (.bin .eql fX (zk 6)),zM 84] (.cond o83 (zs 86 [zX (.ldN 2 o4),zX (.fa 3 o5),zX (.ld o87),zX (.fa 4 o5),zX (.ld o89),zF 70 [o86,o88,o90],zT 85 91,zX (.ext 0 o85),zX (.ext 1 o85),zW (.st 2 o8 o92),zT 9 93] (zr 94 [zM 0,zX (.fa 3 o5),zX (.ld o95),zX (.fa 4 o5),zX (.ld o97),zF 45 [o94,o96,o98],zT 10 99])) (zs 100 [zY 101 (.bin .eql fX (zk 7)),zM 101] (.cond aUZ (zs 103 [zX (.ldN 2 o4),zX (.fa 3 o5),zX (.ld aUW),zX (.fa 1 o5),zX (.ld bCp),zX (.fa 5 o5),zX (.ld bJD),zF 71 [aUX,aUV,bCo,aSV],zT 102 110,zX (.ext 0 aUY),zX (.ext 1 aUY),zW (.st 2 o8 aUU),zT 9 112] (zr 113 [zM 0,zX (.fa 3 o5),zX (.ld bCm),zX (.fa 1 o5),zX (.ld bJB),zX (.fa 5 o5),zX (.ld bJz),zF 46 [bJC,aUT,bJA,bJy],zT 10 120])) (zs 121 [zY 122 (.bin .eql fX (zk 8)),zM 122] (.cond bJx (zs 124 [zX (.ldN 2 o4),zX (.fa 3 o5),zX (.ld bJu),zX (.fa 2 o5),zX (.ld o127),zF 72 [bJv,bJt,o128],zT 123 129,zX (.ext 0 bJw),zX (.ext 1 bJw),zW (.st 2 o8 bJs),zT 9 131] (zr 132 [zM 0,zX (.fa 3 o5),zX (.ld o133),zX (.fa 2 o5),zX (.ld bJp),zF 47 [bJr,bJq,bJo],zT 10 137])) .skip)))))))))))))))))) bIe)))
theorem bYC : Is E bIe (bN R29) (λ σ h => sL E (σ p6) (σ p8) (σ p9) (σ p10) h) := λ σ h => by kernel_rfl
theorem bYD : iA3 E bIf R29 (aSa E) := Is.as (Is.seq (Is.seq (Is.seq (bYC E) (Is.leaf _)) (Is.leaf _)) (Is.leaf _)) λ σ h => by kernel_rfl
def D29 : DF := ⟨3, 142, bIf, R29⟩
def S29 : cE := fA3 (aSa E)
theorem bLB : SQ D29 S29 := λ E => eA3 (d := D29) (bYD E) rfl
def R31 : List RV := [(.r p2)]
def bGw (E : bO) (r0 : DV) (h : H) : aU := vK (dS .ptr false h.get r0 .nilp) λ x1 => bK x1 (some ((ii 0), h)) (vK (aL r0) λ x2 => vK (aF 513 x2) λ x3 => vK (aI h.get x3) λ x4 => some (x4, h))
def bId : DC := (zs 2 [zX (.mv (zk 0))] (zq (zs 3 [zM 0,zX (.eqv .ptr false o3 (.c .nilp))] (.cond o4 (zs 2 [zX (.mv (zk 0))] .ret) .skip)) (zs 5 [zM 0,zX (.nilchk o5),zX (.fa 513 o6),zX (.ld o7),zT 2 8] .ret)))
theorem bYB : oQ E bId R31 (bGw E) := λ σ h => by kernel_rfl
def D31 : DF := ⟨1, 9, bId, R31⟩
def S31 : cE := oR (bGw E)
theorem bLA : SQ D31 S31 := λ E => oV (d := D31) (bYB E) rfl
def R32 : List RV := [(.r p2)]
def aRY (E : bO) (r3 : DV) (h : H) : aU := some (r3, h)
def bIb : DC := (zs 2 [zT 21 3,zM 21] .ret)
def aNj (r1 : DV) (i2 : DV → DV → H → aU) (r3 r4 : DV) (h : H) : aU := vK (aF 0 r1) λ x1 => vK (aI h.get x1) λ x2 => vK (cB x2) λ x3 => vK (cJ r4 x3) λ x4 => bK x4 (vK (aF 0 r1) λ x5 => vK (aI h.get x5) λ x6 => vK (cC 5 x6 r4) λ x7 => vK (aF 3 x7) λ x8 => vK (aI h.get x8) λ x9 => vK (bZ x9) λ x10 => vK (bJ r3 x10) λ x11 => vK (bJ r4 (ii 1)) λ x12 => i2 x11 x12 h) (aRY E r3 h)
def aFx (r1 : DV) (n : Nat) : DV → DV → H → aU := Nat.rec (motive := λ _ => DV → DV → H → aU) (λ _ _ _ => none) (λ _ i => aNj E r1 i) n
def bIa : DC := (.loop (zq (zs 5 [zM 4,zX (.fa 0 o1),zX (.ld o6),zX (.lenL o7),zX (.bin .lss o5 o8)] (.cond o9 .skip (.exit 0))) (zq (.block 1 (zr 12 [zM 3,zX (.fa 0 o1),zX (.ld fX),zM 4,zX (.iaS 5 iO iW),zX (.fa 3 iG),zX (.ld iL),zX (.lenS iC),zX (.bin .add fL iN),zT 3 20])) (zr 10 [zM 4,zX (.bin .add fR (zk 1)),zT 4 11]))))
def aRZ (r0 : DV) (h : H) : aU := dN r0 h λ x1 h2 => aFx E x1 aR (ii 0) (ii 0) h2
def bIc : DC := (zs 1 [zX (.box o0),zX (.mv (zk 0))] (zs 3 [zX (.mv (zk 0))] (zq (zs 4 [zX (.mv (zk 0))] (.block 0 bIa)) bIb)))
theorem bYz : Is E bIb (bN R32) (λ σ h => aRY E (σ p3) h) := λ σ h => by kernel_rfl
abbrev bWS : gW (DV × H) := (cH (λ σ h => aRY E (σ p3) h) (bN R32))
theorem bYy : Is E bIa (bL 0 (bWS E)) (λ σ h => aFx E (σ p1) aR (σ p3) (σ p4) h) := Is.loop (λ n2 σ h => aFx E (σ p1) n2 (σ p3) (σ p4) h) (by kernel_rfl) λ n2 => Is.as (Is.leaf _) λ σ h => by kernel_rfl
theorem bYA : oQ E bIc R32 (aRZ E) := Is.as (Is.seq (Is.seq (Is.seq (bYz E) (Is.seq (Is.block (bYy E)) (Is.leaf _))) (Is.leaf _)) (Is.leaf _)) λ σ h => by kernel_rfl
def D32 : DF := ⟨1, 22, bIc, R32⟩
def S32 : cE := oR (aRZ E)
theorem bLz : SQ D32 S32 := λ E => oV (d := D32) (bYA E) rfl
def R33 : List RV := [(.r p8),(.r p9)]
def bGv (r0 r1 r2 r3 : DV) (h : H) : aU := wK (aD E 83 [r0, r1] h) λ x1 h2 => vK (aG 0 x1) λ x3 => vK (aG 1 x1) λ x4 => vK (dA x4 (ii 0)) λ x5 => bK x5 (some ((.tup [(.str []), x4]), h2)) (wK (aD E 84 [x3, r2, r3] h2) λ x6 h7 => vK (aG 0 x6) λ x8 => vK (aG 1 x6) λ x9 => some ((.tup [x8, x9]), h7))
def bHZ : DC := (zs 8 [zX (.mv (.c (.str []))),zX (.mv (zk 0))] (zs 13 [zM 0,zM 1,zF 83 [fX,iO],zT 12 15,zX (.ext 0 fL),zX (.ext 1 fL),zT 10 16,zT 11 17] (zq (zs 18 [zM 11,zX (.bin .neq iC (zk 0))] (.cond iN (zs 8 [zT 20 11,zX (.mv (.c (.str []))),zM 20] .ret) .skip)) (zs 21 [zM 10,zM 2,zM 3,zF 84 [gZ,jV,iB],zX (.ext 0 iP),zX (.ext 1 iP),zT 8 25,zT 9 26] .ret))))
theorem bYx : iA4 E bHZ R33 (bGv E) := λ σ h => by kernel_rfl
def D33 : DF := ⟨4, 27, bHZ, R33⟩
def S33 : cE := fA4 (bGv E)
theorem bLy : SQ D33 S33 := λ E => eA4 (d := D33) (bYx E) rfl
def R34 : List RV := [(.cells p4 5),(.r p5)]
def aMT (E : bO) (r4 r9 : DV) (h : H) : aU := vK (aK 5 h.get r9) λ x1 => wK (bQ 5 r4 x1 h) λ x2 h3 => vK (aK 5 h3.get r4) λ x4 => some ((.tup [x4, (ii 0)]), h3)
def bHX : DC := (zs 5 [zY 47 (.ldN 5 o9),zW (.st 5 o4 o47),zX (.mv (zk 0))] .ret)
def aRX (r0 r1 : DV) (h : H) : aU := dZ 5 5 (.list [(ii 0), (ii 0), (ii 0), (ii 0), (ii 0)]) h λ x1 h2 => wK (aD E 85 [r0, r1] h2) λ x3 h4 => vK (aG 0 x3) λ x5 => vK (aG 1 x3) λ x6 => vK (dA x6 (ii 0)) λ x7 => bK x7 (vK (eM [(ii 0), (ii 0), (ii 0), (ii 0), (ii 0)] []) λ x8 => wK (bQ 5 x1 x8 h4) λ x9 h10 => vK (aK 5 h10.get x1) λ x11 => some ((.tup [x11, x6]), h10)) (vK (aL r0) λ x12 => vK (aF 0 x12) λ x13 => vK (lG 256 2 x13 x5) λ x14 => vK (aK 2 h4.get x14) λ x15 => dZ 2 2 (.list [(ii 0), .nili]) h4 λ x16 h17 => wK (bQ 2 x16 x15 h17) λ x18 h19 => vK (aF 0 x16) λ x20 => vK (aI h19.get x20) λ x21 => vK (aF 1 x16) λ x22 => vK (aI h19.get x22) λ x23 => vK (aF 1 x16) λ x24 => vK (aI h19.get x24) λ x25 => dZ 5 5 (.list [(ii 0), (ii 0), (ii 0), (ii 0), (ii 0)]) h19 λ x26 h27 => wK (vW E [(120, 217), (141, 221)] x23 [] h27) λ x28 h29 => rK (rcK (aI h29.get x24) x25) <| rK (rcK (aI h29.get x20) x21) <| wK (vW E [(120, 218), (141, 222)] x25 [] h29) λ x30 h31 => rK (rcK (aI h31.get x20) x21) <| vK (eM [(ii 0), (ii 0), (ii 0), (ii 0), (ii 0)] [(0, 1, x5), (1, 1, x21), (2, 1, x28), (3, 1, x30), (4, 1, (ii 1))]) λ x32 => wK (bQ 5 x26 x32 h31) λ x33 h34 => wK (aD E 86 [r0, x5] h34) λ x35 h36 => vK (dS .ptr true h36.get x35 .nilp) λ x37 => bK x37 (vK (aL x35) λ x38 => vK (aF 1 x38) λ x39 => vK (aI h36.get x39) λ x40 => vK (aF 4 x26) λ x41 => wK (bQ 1 x41 x40 h36) λ x42 h43 => aMT E x1 x26 h43) (aMT E x1 x26 h36))
def bHY : DC := (zs 4 [zX (.alc 5 5 (.list [(.int .i64 (.ofNat 0)),(.int .i64 (.ofNat 0)),(.int .i64 (.ofNat 0)),(.int .i64 (.ofNat 0)),(.int .i64 (.ofNat 0))])),zX (.mv (zk 0))] (zs 12 [zM 0,zM 1,zF 85 [fL,fX],zT 11 14,zX (.ext 0 fZ),zX (.ext 1 fZ),zT 6 15,zT 7 16] (zq (zs 17 [zM 7,zX (.bin .neq iL (zk 0))] (.cond iC (zs 19 [zX (.bld [(.int .i64 (.ofNat 0)),(.int .i64 (.ofNat 0)),(.int .i64 (.ofNat 0)),(.int .i64 (.ofNat 0)),(.int .i64 (.ofNat 0))] []),zM 7,zW (.st 5 o4 iN),zT 5 20] .ret) .skip)) (zs 21 [zM 0,zM 6,zX (.nilchk gZ),zX (.fa 0 iB),zX (.iaA 256 2 iP jV),zX (.ldN 2 kJ),zY 8 (.alc 2 2 (.list [(.int .i64 (.ofNat 0)),.nili])),zW (.st 2 o8 mA)] (zq (zd 27 [yA 0 (zM 6),yA 1 (zX (.fa 0 o8)),yA 2 (zX (.ld lK)),yA 3 (zX (.fa 1 o8)),yA 4 (zX (.ld lY)),yA 6 (zY 33 (.fa 1 o8)),yA 7 (zY 34 (.ld mX)),yA 10 (zY 9 (.alc 5 5 (.list [(.int .i64 (.ofNat 0)),(.int .i64 (.ofNat 0)),(.int .i64 (.ofNat 0)),(.int .i64 (.ofNat 0)),(.int .i64 (.ofNat 0))]))),yB 5 (zD ⟨(some p32),none,(.c (.m [(120,217),(141,221)] nH []))⟩) [7,2] false,yB 8 (zD ⟨(some p35),none,(.c (.m [(120,218),(141,222)] mW []))⟩) [2] false,yA 9 (zY 36 (.bld [(.int .i64 (.ofNat 0)),(.int .i64 (.ofNat 0)),(.int .i64 (.ofNat 0)),(.int .i64 (.ofNat 0)),(.int .i64 (.ofNat 0))] [(0,1,lB),(1,1,lZ),(2,1,lF),(3,1,qG),(4,1,(zk 1))])),yA 11 (zW (.st 5 o9 mZ))]) (zq (zs 37 [zM 0,zM 6,zF 86 [pR,uD],zT 10 39] (zs 40 [zM 10,zX (.eqv .ptr true rE (.c .nilp))] (.cond vG (zr 42 [zM 10,zX (.nilchk uN),zX (.fa 1 uM),zX (.ld uJ),zX (.fa 4 o9),zW (.st 1 zJ o45)]) .skip))) bHX))))))
theorem bYv : Is E bHX (bN R34) (λ σ h => aMT E (σ p4) (σ p9) h) := λ σ h => by kernel_rfl
theorem bYw : nA E bHY R34 (aRX E) := Is.as (Is.seq (Is.seq (Is.seq (Is.seq (Is.seq (Is.seq (bYv E) (Is.leaf _)) (Is.leaf _)) (Is.leaf _)) (Is.leaf _)) (Is.leaf _)) (Is.leaf _)) λ σ h => by kernel_rfl
def D34 : DF := ⟨2, 48, bHY, R34⟩
def S34 : cE := nB (aRX E)
theorem bLx : SQ D34 S34 := λ E => nL (d := D34) (bYw E) rfl
def R35 : List RV := [(.r p4),(.r p5)]
def bGu (r0 r1 : DV) (h : H) : aU := wK (aD E 85 [r0, r1] h) λ x1 h2 => vK (aG 0 x1) λ x3 => vK (aG 1 x1) λ x4 => vK (dA x4 (ii 0)) λ x5 => bK x5 (some ((.tup [.nils, x4]), h2)) (wK (aD E 87 [r0, x3] h2) λ x6 h7 => vK (dS .ptr false h7.get x6 .nilp) λ x8 => bK x8 (some ((.tup [.nils, (ii 13)]), h7)) (wK (aD E 88 [x6] h7) λ x9 h10 => some ((.tup [x9, (ii 0)]), h10)))
def bHW : DC := (zs 4 [zX (.mv (.c .nils)),zX (.mv (zk 0))] (zs 10 [zM 0,zM 1,zF 85 [fR,fZ],zT 9 12,zX (.ext 0 o9),zX (.ext 1 o9),zT 6 13,zT 7 14] (zq (zs 15 [zM 7,zX (.bin .neq iW (zk 0))] (.cond iG (zs 4 [zT 17 7,zX (.mv (.c .nils)),zM 17] .ret) .skip)) (zs 18 [zM 0,zM 6,zF 87 [iC,iN],zT 8 20] (zq (zs 21 [zM 8,zX (.eqv .ptr false gZ (.c .nilp))] (.cond jV (zs 4 [zX (.mv (.c .nils)),zX (.mv (zk 13))] .ret) .skip)) (zs 23 [zM 8,zF 88 [iB],zT 4 24,zY 5 (.mv (zk 0))] .ret))))))
theorem bYu : nA E bHW R35 (bGu E) := λ σ h => by kernel_rfl
def D35 : DF := ⟨2, 25, bHW, R35⟩
def S35 : cE := nB (bGu E)
theorem bLw : SQ D35 S35 := λ E => nL (d := D35) (bYu E) rfl
def R36 : List RV := [(.cells p8 2),(.r p9)]
def aRW (r0 r1 r2 r3 : DV) (h : H) : aU := dN r0 h λ x1 h2 => dN r1 h2 λ x3 h4 => dZ 2 2 (.list [.nils, (ii 0)]) h4 λ x5 h6 => vK (aK 2 h6.get x1) λ x7 => vK (aK 5 h6.get x3) λ x8 => wK (aD E 89 [x7, x8] h6) λ x9 h10 => vK (cJ x9 (ii 0)) λ x11 => bK x11 (vK (aK 2 h10.get x1) λ x12 => wK (bQ 2 x5 x12 h10) λ x13 h14 => vK (aK 2 h14.get x5) λ x15 => some ((.tup [x15, (ii 7)]), h14)) (vK (aK 2 h10.get x1) λ x16 => wK (aD E 90 [x16, x9, r2, r3] h10) λ x17 h18 => vK (aG 0 x17) λ x19 => vK (aG 1 x17) λ x20 => wK (bQ 2 x5 x19 h18) λ x21 h22 => vK (aK 2 h22.get x5) λ x23 => some ((.tup [x23, x20]), h22))
def bHV : DC := (zs 4 [zX (.box o0),zX (.box o1),zY 8 (.alc 2 2 (.list [.nils,(.int .i64 (.ofNat 0))])),zY 9 (.mv (zk 0))] (zs 11 [zX (.ldN 2 o4),zX (.ldN 5 o5),zF 89 [fZ,fL],zT 10 13] (zq (zs 14 [zM 10,zX (.bin .lss iO (zk 0))] (.cond iW (zs 9 [zY 16 (.ldN 2 o4),zW (.st 2 o8 iG),zX (.mv (zk 7))] .ret) .skip)) (zs 17 [zX (.ldN 2 o4),zM 10,zM 2,zM 3,zF 90 [iL,iC,iN,iV],zX (.ext 0 gZ),zX (.ext 1 gZ),zW (.st 2 o8 jV),zT 9 23] .ret))))
theorem bYt : iA4 E bHV R36 (aRW E) := λ σ h => by kernel_rfl
def D36 : DF := ⟨4, 24, bHV, R36⟩
def S36 : cE := fA4 (aRW E)
theorem bLv : SQ D36 S36 := λ E => eA4 (d := D36) (bYt E) rfl
def R37 : List RV := [(.r p8)]
def aRV (r0 r1 r2 r3 : DV) (h : H) : aU := dN r1 h λ x1 h2 => vK (aK 5 h2.get x1) λ x3 => wK (aD E 91 [r0, x3] h2) λ x4 h5 => vK (aG 0 x4) λ x6 => vK (aG 1 x4) λ x7 => vK (dA x7 (ii 0)) λ x8 => bK x8 (some (x7, h5)) (wK (aD E 92 [r0, x6, r2, r3] h5) λ x9 h10 => some (x9, h10))
def bHU : DC := (zs 5 [zX (.box o1),zY 8 (.mv (zk 0))] (zs 12 [zM 0,zX (.ldN 5 o5),zF 91 [fL,fX],zT 11 14,zX (.ext 0 fZ),zX (.ext 1 fZ),zT 9 15,zT 10 16] (zq (zs 17 [zM 10,zX (.bin .neq iL (zk 0))] (.cond iC (zs 8 [zT 19 10,zM 19] .ret) .skip)) (zs 20 [zM 0,zM 9,zM 2,zM 3,zF 92 [iV,gZ,jV,iB],zT 8 24] .ret))))
theorem bYs : iA4 E bHU R37 (aRV E) := λ σ h => by kernel_rfl
def D37 : DF := ⟨4, 25, bHU, R37⟩
def S37 : cE := fA4 (aRV E)
theorem bLu : SQ D37 S37 := λ E => eA4 (d := D37) (bYs E) rfl
def R38 : List RV := [(.r p8),(.r p9)]
def aRU (r0 r1 r2 r3 : DV) (h : H) : aU := dN r1 h λ x1 h2 => vK (aK 5 h2.get x1) λ x3 => wK (aD E 91 [r0, x3] h2) λ x4 h5 => vK (aG 0 x4) λ x6 => vK (aG 1 x4) λ x7 => vK (dA x7 (ii 0)) λ x8 => bK x8 (some ((.tup [(.str []), x7]), h5)) (wK (aD E 84 [x6, r2, r3] h5) λ x9 h10 => vK (aG 0 x9) λ x11 => vK (aG 1 x9) λ x12 => some ((.tup [x11, x12]), h10))
def bHT : DC := (zs 8 [zY 5 (.box o1),zX (.mv (.c (.str []))),zX (.mv (zk 0))] (zs 13 [zM 0,zX (.ldN 5 o5),zF 91 [fX,iO],zT 12 15,zX (.ext 0 fL),zX (.ext 1 fL),zT 10 16,zT 11 17] (zq (zs 18 [zM 11,zX (.bin .neq iC (zk 0))] (.cond iN (zs 8 [zT 20 11,zX (.mv (.c (.str []))),zM 20] .ret) .skip)) (zs 21 [zM 10,zM 2,zM 3,zF 84 [gZ,jV,iB],zX (.ext 0 iP),zX (.ext 1 iP),zT 8 25,zT 9 26] .ret))))
theorem bYr : iA4 E bHT R38 (aRU E) := λ σ h => by kernel_rfl
def D38 : DF := ⟨4, 27, bHT, R38⟩
def S38 : cE := fA4 (aRU E)
theorem bLt : SQ D38 S38 := λ E => eA4 (d := D38) (bYr E) rfl
def R39 : List RV := [(.r p8),(.r p9)]
def aRT (r0 r1 r2 r3 : DV) (h : H) : aU := dN r0 h λ x1 h2 => dN r1 h2 λ x3 h4 => vK (aK 2 h4.get x1) λ x5 => vK (aK 5 h4.get x3) λ x6 => wK (aD E 89 [x5, x6] h4) λ x7 h8 => vK (cJ x7 (ii 0)) λ x9 => bK x9 (some ((.tup [(.str []), (ii 7)]), h8)) (vK (aK 2 h8.get x1) λ x10 => wK (aD E 93 [x10, x7, r2, r3] h8) λ x11 h12 => vK (aG 0 x11) λ x13 => vK (aG 1 x11) λ x14 => some ((.tup [x13, x14]), h12))
def bHS : DC := (zs 4 [zX (.box o0),zX (.box o1),zY 8 (.mv (.c (.str []))),zY 9 (.mv (zk 0))] (zs 11 [zX (.ldN 2 o4),zX (.ldN 5 o5),zF 89 [fZ,fL],zT 10 13] (zq (zs 14 [zM 10,zX (.bin .lss iO (zk 0))] (.cond iW (zs 8 [zX (.mv (.c (.str []))),zX (.mv (zk 7))] .ret) .skip)) (zs 16 [zX (.ldN 2 o4),zM 10,zM 2,zM 3,zF 93 [iG,iL,iC,iN],zX (.ext 0 iV),zX (.ext 1 iV),zT 8 21,zT 9 22] .ret))))
theorem bYq : iA4 E bHS R39 (aRT E) := λ σ h => by kernel_rfl
def D39 : DF := ⟨4, 23, bHS, R39⟩
def S39 : cE := fA4 (aRT E)
theorem bLs : SQ D39 S39 := λ E => eA4 (d := D39) (bYq E) rfl
def R40 : List RV := [(.r p4)]
def aRS (r0 r1 : DV) (h : H) : aU := wK (aD E 65 [] h) λ x1 h2 => vK (eM [.nilp] [(0, 1, x1)]) λ x3 => wK (aD E 94 [r0, r1, (.ifc 120 x3)] h2) λ x4 h5 => some (x4, h5)
def bHR : DC := (zs 4 [zX (.mv (zk 0))] (zs 5 [zM 0,zM 1,zF 65 [],zX (.bld [.nilp] [(0,1,o7)]),zX (.mkI 120 o8),zF 94 [o5,o6,o9],zT 4 10] .ret))
theorem bYp : nA E bHR R40 (aRS E) := λ σ h => by kernel_rfl
def D40 : DF := ⟨2, 11, bHR, R40⟩
def S40 : cE := nB (aRS E)
theorem bLr : SQ D40 S40 := λ E => nL (d := D40) (bYp E) rfl
def R41 : List RV := [(.r p4)]
def aRR (r0 r1 : DV) (h : H) : aU := vK (eM [(.str []), (ii 0)] [(1, 1, (ii 1))]) λ x1 => dN x1 h λ x2 h3 => wK (aD E 94 [r0, r1, (.ifc 141 x2)] h3) λ x4 h5 => some (x4, h5)
def bHQ : DC := (zs 4 [zX (.mv (zk 0))] (zs 5 [zM 0,zM 1,zX (.bld [(.str []),(.int .i64 (.ofNat 0))] [(1,1,(zk 1))]),zX (.box o7),zX (.mkI 141 o8),zF 94 [o5,o6,o9],zT 4 10] .ret))
theorem bYo : nA E bHQ R41 (aRR E) := λ σ h => by kernel_rfl
def D41 : DF := ⟨2, 11, bHQ, R41⟩
def S41 : cE := nB (aRR E)
theorem bLq : SQ D41 S41 := λ E => nL (d := D41) (bYo E) rfl
def R42 : List RV := [(.r p4)]
def aXH (E : bO) (h : H) : aU := some ((ii 0), h)
def bHO : DC := (zs 4 [zX (.mv (zk 0))] .ret)
def aRQ (r0 r1 : DV) (h : H) : aU := wK (aD E 85 [r0, r1] h) λ x1 h2 => vK (aG 0 x1) λ x3 => vK (aG 1 x1) λ x4 => vK (dA x4 (ii 0)) λ x5 => bK x5 (some (x4, h2)) (wK (aD E 86 [r0, x3] h2) λ x6 h7 => vK (dS .ptr false h7.get x6 .nilp) λ x8 => bK x8 (some ((ii 12), h7)) (wK (aD E 95 [r0, r1] h7) λ x9 h10 => vK (aG 0 x9) λ x11 => vK (aG 1 x9) λ x12 => dZ 2 2 (.list [.nilp, (.str [])]) h10 λ x13 h14 => wK (bQ 2 x13 x11 h14) λ x15 h16 => vK (aF 0 x13) λ x17 => vK (aI h16.get x17) λ x18 => vK (aF 1 x13) λ x19 => vK (aI h16.get x19) λ x20 => wK (aD E 96 [x18, x20] h16) λ x21 h22 => vK (aL x6) λ x23 => vK (aF 1 x23) λ x24 => vK (aI h22.get x24) λ x25 => vK (fC x25 (ii 1)) λ x26 => vK (aL x6) λ x27 => vK (aF 1 x27) λ x28 => wK (bQ 1 x28 x26 h22) λ x29 h30 => vK (aL x6) λ x31 => vK (aF 1 x31) λ x32 => vK (aI h30.get x32) λ x33 => vK (bP x33 (ii 0)) λ x34 => bK x34 (vK (aL r0) λ x35 => vK (aF 513 x35) λ x36 => vK (aI h30.get x36) λ x37 => vK (aL x6) λ x38 => vK (aF 0 x38) λ x39 => vK (aI h30.get x39) λ x40 => vK (bZ x40) λ x41 => vK (fC x37 x41) λ x42 => vK (aL r0) λ x43 => vK (aF 513 x43) λ x44 => wK (bQ 1 x44 x42 h30) λ x45 h46 => vK (eM [(ii 0), .nili] []) λ x47 => vK (aL r0) λ x48 => vK (aF 0 x48) λ x49 => vK (lG 256 2 x49 x3) λ x50 => wK (bQ 2 x50 x47 h46) λ x51 h52 => aXH E h52) (aXH E h30)))
def bHP : DC := (zs 4 [zX (.mv (zk 0))] (zs 11 [zM 0,zM 1,zF 85 [fZ,fL],zT 10 13,zX (.ext 0 fR),zX (.ext 1 fR),zT 5 14,zT 6 15] (zq (zs 16 [zM 6,zX (.bin .neq iG (zk 0))] (.cond iL (zs 4 [zT 18 6,zM 18] .ret) .skip)) (zs 19 [zM 0,zM 5,zF 86 [iN,iV],zT 7 21] (zq (zs 22 [zM 7,zX (.eqv .ptr false jV (.c .nilp))] (.cond iB (zs 4 [zX (.mv (zk 12))] .ret) .skip)) (zs 25 [zM 0,zM 1,zF 95 [kJ,mA],zT 24 27,zX (.ext 0 iP),zX (.ext 1 iP),zY 8 (.alc 2 2 (.list [.nilp,(.str [])])),zW (.st 2 o8 lK),zT 9 29] (zs 30 [zX (.fa 0 o8),zX (.ld lY),zX (.fa 1 o8),zX (.ld lF),zF 96 [nH,mX]] (zq (zs 35 [zM 7,zX (.nilchk qG),zX (.fa 1 mZ),zX (.ld pR),zX (.bin .sub uD (zk 1)),zX (.nilchk qG),zX (.fa 1 rE),zW (.st 1 vG rT)] (zs 42 [zM 7,zX (.nilchk uN),zX (.fa 1 uM),zX (.ld uJ),zX (.bin .eql o45 (zk 0))] (.cond zJ (zq (zd 47 [yA 0 (zM 0),yA 1 (zX (.nilchk o47)),yA 2 (zX (.fa 513 o48)),yA 3 (zX (.ld o49)),yA 4 (zM 7),yA 5 (zX (.nilchk o51)),yA 6 (zX (.fa 0 o52)),yA 7 (zX (.ld o53)),yA 8 (zX (.lenS o54)),yA 9 (zX (.bin .sub o50 o55)),yA 10 (zX (.nilchk o47)),yA 11 (zX (.fa 513 o57)),yA 12 (zW (.st 1 o58 o56))]) (zr 59 [zM 0,zM 5,zX (.bld [(.int .i64 (.ofNat 0)),.nili] []),zX (.nilchk o59),zX (.fa 0 o62),zX (.iaA 256 2 o63 o60),zW (.st 2 o64 o61)])) .skip))) bHO))))))))
theorem bYm : Is E bHO (bN R42) (λ σ h => aXH E h) := λ σ h => by kernel_rfl
theorem bYn : nA E bHP R42 (aRQ E) := Is.as (Is.seq (Is.seq (Is.seq (Is.seq (Is.seq (Is.seq (Is.seq (Is.seq (bYm E) (Is.leaf _)) (Is.leaf _)) (Is.leaf _)) (Is.leaf _)) (Is.leaf _)) (Is.leaf _)) (Is.leaf _)) (Is.leaf _)) λ σ h => by kernel_rfl
def D42 : DF := ⟨2, 65, bHP, R42⟩
def S42 : cE := nB (aRQ E)
theorem bLp : SQ D42 S42 := λ E => nL (d := D42) (bYn E) rfl
def R43 : List RV := [(.r p4)]
def aRP (r0 r1 : DV) (h : H) : aU := wK (aD E 85 [r0, r1] h) λ x1 h2 => vK (aG 0 x1) λ x3 => vK (aG 1 x1) λ x4 => vK (dA x4 (ii 0)) λ x5 => bK x5 (some (x4, h2)) (wK (aD E 87 [r0, x3] h2) λ x6 h7 => vK (dS .ptr false h7.get x6 .nilp) λ x8 => bK x8 (some ((ii 13), h7)) (vK (bP x3 (ii 1)) λ x9 => bK x9 (some ((ii 1), h7)) (wK (aD E 97 [x6] h7) λ x10 h11 => vK (eH x10 (ii 0)) λ x12 => bK x12 (some ((ii 14), h11)) (wK (aD E 95 [r0, r1] h11) λ x13 h14 => vK (aG 0 x13) λ x15 => vK (aG 1 x13) λ x16 => dZ 2 2 (.list [.nilp, (.str [])]) h14 λ x17 h18 => wK (bQ 2 x17 x15 h18) λ x19 h20 => vK (aF 0 x17) λ x21 => vK (aI h20.get x21) λ x22 => vK (aF 1 x17) λ x23 => vK (aI h20.get x23) λ x24 => wK (aD E 96 [x22, x24] h20) λ x25 h26 => vK (eM [(ii 0), .nili] []) λ x27 => vK (aL r0) λ x28 => vK (aF 0 x28) λ x29 => vK (lG 256 2 x29 x3) λ x30 => wK (bQ 2 x30 x27 h26) λ x31 h32 => some ((ii 0), h32)))))
def bHN : DC := (zs 4 [zX (.mv (zk 0))] (zs 11 [zM 0,zM 1,zF 85 [fZ,fL],zT 10 13,zX (.ext 0 fR),zX (.ext 1 fR),zT 5 14,zT 6 15] (zq (zs 16 [zM 6,zX (.bin .neq iG (zk 0))] (.cond iL (zs 4 [zT 18 6,zM 18] .ret) .skip)) (zs 19 [zM 0,zM 5,zF 87 [iN,iV],zT 7 21] (zq (.block 0 (zs 23 [zM 7,zX (.eqv .ptr false iB (.c .nilp)),zT 22 24] (.cond jV (zs 4 [zX (.mv (zk 13))] .ret) (zs 26 [zM 5,zX (.bin .eql mA (zk 1)),zT 25 27] (.cond kJ (zs 4 [zX (.mv (zk 1))] .ret) (zs 29 [zM 7,zF 97 [lZ],zX (.bin .gtr lY (zk 0)),zT 28 31] (.cond lK (zs 4 [zX (.mv (zk 14))] .ret) .skip))))))) (zs 33 [zM 0,zM 1,zF 95 [mX,mW],zT 32 35,zX (.ext 0 lF),zX (.ext 1 lF),zY 8 (.alc 2 2 (.list [.nilp,(.str [])])),zW (.st 2 o8 mZ),zT 9 37] (zs 38 [zX (.fa 0 o8),zX (.ld uD),zX (.fa 1 o8),zX (.ld rE),zF 96 [rT,vG]] (zs 43 [zM 0,zM 5,zX (.bld [(.int .i64 (.ofNat 0)),.nili] []),zX (.nilchk uM),zX (.fa 0 zJ),zX (.iaA 256 2 o47 uJ),zW (.st 2 o48 o45)] (zs 4 [zX (.mv (zk 0))] .ret)))))))))
theorem bYl : nA E bHN R43 (aRP E) := λ σ h => by kernel_rfl
def D43 : DF := ⟨2, 49, bHN, R43⟩
def S43 : cE := nB (aRP E)
theorem bLo : SQ D43 S43 := λ E => nL (d := D43) (bYl E) rfl
def R44 : List RV := [(.r p6)]
def aRO (r0 r1 r2 : DV) (h : H) : aU := wK (aD E 85 [r0, r1] h) λ x1 h2 => vK (aG 0 x1) λ x3 => vK (aG 1 x1) λ x4 => vK (dA x4 (ii 0)) λ x5 => bK x5 (some (x4, h2)) (wK (aD E 95 [r0, r2] h2) λ x6 h7 => vK (aG 0 x6) λ x8 => vK (aG 1 x6) λ x9 => dZ 2 2 (.list [.nilp, (.str [])]) h7 λ x10 h11 => wK (bQ 2 x10 x8 h11) λ x12 h13 => vK (dA x9 (ii 0)) λ x14 => bK x14 (some (x9, h13)) (vK (bP x3 (ii 1)) λ x15 => bA x15 false (λ kk => kk r1 h13) h13 λ x16 h17 => bA x15 false (λ kk => kk r2 h17) h17 λ x18 h19 => bA x15 false (λ kk => wK (aD E 98 [x16, x18] h19) kk) h19 λ x20 h21 => vK (aQ x15 (.bool true) x20) λ x22 => bK x22 (some ((ii 1), h21)) (wK (aD E 95 [r0, r1] h21) λ x23 h24 => vK (aG 0 x23) λ x25 => vK (aG 1 x23) λ x26 => dZ 2 2 (.list [.nilp, (.str [])]) h24 λ x27 h28 => wK (bQ 2 x27 x25 h28) λ x29 h30 => vK (aK 2 h30.get x27) λ x31 => vK (aK 2 h30.get x10) λ x32 => vK (aEa false (.leaf .ptr 0 (.leaf .str 1 .nil)) h30.get x31 x32) λ x33 => bK x33 (some ((ii 0), h30)) (vK (aK 2 h30.get x10) λ x34 => wK (aD E 99 [x34] h30) λ x35 h36 => bK x35 (some ((ii 6), h36)) (vK (aF 0 x27) λ x37 => vK (aI h36.get x37) λ x38 => vK (aF 1 x27) λ x39 => vK (aI h36.get x39) λ x40 => wK (aD E 96 [x38, x40] h36) λ x41 h42 => vK (aF 0 x10) λ x43 => vK (aI h42.get x43) λ x44 => vK (aF 1 x10) λ x45 => vK (aI h42.get x45) λ x46 => wK (aD E 100 [x44, x46, x3] h42) λ x47 h48 => some ((ii 0), h48))))))
def bHM : DC := (zs 6 [zX (.mv (zk 0))] (zs 13 [zM 0,zM 1,zF 85 [fX,iO],zT 12 15,zX (.ext 0 fL),zX (.ext 1 fL),zT 7 16,zT 8 17] (zq (zs 18 [zM 8,zX (.bin .neq iC (zk 0))] (.cond iN (zs 6 [zT 20 8,zM 20] .ret) .skip)) (zs 22 [zM 0,zM 2,zF 95 [jV,iB],zT 21 24,zX (.ext 0 gZ),zX (.ext 1 gZ),zY 9 (.alc 2 2 (.list [.nilp,(.str [])])),zW (.st 2 o9 kJ),zT 8 26] (zq (.block 0 (zs 28 [zM 8,zX (.bin .neq lK (zk 0)),zT 27 29] (.cond lB (zs 6 [zT 30 8,zM 30] .ret) (zs 32 [zM 7,zX (.bin .eql lF (zk 1)),zM 33,zL 34 false 1,zL 34 false 2,zD ⟨(some p37),(some (p34,false)),(.c (.f 98 [qG,mZ]))⟩,zY 38 (.pick mW (.c (.bool true)) pR),zT 31 38] (.cond nH (zs 6 [zX (.mv (zk 1))] .ret) .skip))))) (zs 40 [zM 0,zM 1,zF 95 [rE,vG],zT 39 42,zX (.ext 0 rT),zX (.ext 1 rT),zY 10 (.alc 2 2 (.list [.nilp,(.str [])])),zW (.st 2 fR uM),zT 11 44] (zq (.block 1 (zs 46 [zX (.ldN 2 fR),zX (.ldN 2 o9),zX (.eqs false (.leaf .ptr 0 (.leaf .str 1 .nil)) zJ o47),zT 45 48] (.cond o45 (zs 6 [zX (.mv (zk 0))] .ret) (zs 50 [zX (.ldN 2 o9),zF 99 [o50],zT 49 51] (.cond o49 (zs 6 [zX (.mv (zk 6))] .ret) .skip))))) (zs 52 [zX (.fa 0 fR),zX (.ld o52),zX (.fa 1 fR),zX (.ld o54),zF 96 [o53,o55]] (zs 57 [zX (.fa 0 o9),zX (.ld o57),zX (.fa 1 o9),zX (.ld o59),zM 7,zF 100 [o58,o60,o61]] (zs 6 [zX (.mv (zk 0))] .ret))))))))))
theorem bYk : iA3 E bHM R44 (aRO E) := λ σ h => by kernel_rfl
def D44 : DF := ⟨3, 63, bHM, R44⟩
def S44 : cE := fA3 (aRO E)
theorem bLn : SQ D44 S44 := λ E => eA3 (d := D44) (bYk E) rfl
def R45 : List RV := [(.r p6)]
def aRN (r0 r1 r2 : DV) (h : H) : aU := wK (aD E 85 [r0, r1] h) λ x1 h2 => vK (aG 0 x1) λ x3 => vK (aG 1 x1) λ x4 => vK (dA x4 (ii 0)) λ x5 => bK x5 (some (x4, h2)) (wK (aD E 95 [r0, r2] h2) λ x6 h7 => vK (aG 0 x6) λ x8 => vK (aG 1 x6) λ x9 => dZ 2 2 (.list [.nilp, (.str [])]) h7 λ x10 h11 => wK (bQ 2 x10 x8 h11) λ x12 h13 => vK (dA x9 (ii 0)) λ x14 => bK x14 (some (x9, h13)) (wK (aD E 86 [r0, x3] h13) λ x15 h16 => vK (dS .ptr false h16.get x15 .nilp) λ x17 => bK x17 (some ((ii 12), h16)) (vK (aK 2 h16.get x10) λ x18 => wK (aD E 99 [x18] h16) λ x19 h20 => bK x19 (some ((ii 6), h20)) (vK (aL x15) λ x21 => vK (aF 1 x21) λ x22 => vK (aI h20.get x22) λ x23 => vK (mI x23 (ii 100)) λ x24 => bK x24 (some ((ii 5), h20)) (vK (aL x15) λ x25 => vK (aF 1 x25) λ x26 => vK (aI h20.get x26) λ x27 => vK (bJ x27 (ii 1)) λ x28 => vK (aL x15) λ x29 => vK (aF 1 x29) λ x30 => wK (bQ 1 x30 x28 h20) λ x31 h32 => vK (aF 0 x10) λ x33 => vK (aI h32.get x33) λ x34 => vK (aF 1 x10) λ x35 => vK (aI h32.get x35) λ x36 => wK (aD E 100 [x34, x36, x3] h32) λ x37 h38 => some ((ii 0), h38))))))
def bHL : DC := (zs 6 [zX (.mv (zk 0))] (zs 12 [zM 0,zM 1,zF 85 [fL,fX],zT 11 14,zX (.ext 0 fZ),zX (.ext 1 fZ),zT 7 15,zT 8 16] (zq (zs 17 [zM 8,zX (.bin .neq iL (zk 0))] (.cond iC (zs 6 [zT 19 8,zM 19] .ret) .skip)) (zs 21 [zM 0,zM 2,zF 95 [gZ,jV],zT 20 23,zX (.ext 0 iV),zX (.ext 1 iV),zY 9 (.alc 2 2 (.list [.nilp,(.str [])])),zW (.st 2 o9 iP),zT 8 25] (zq (zs 26 [zM 8,zX (.bin .neq mA (zk 0))] (.cond lB (zs 6 [zT 28 8,zM 28] .ret) .skip)) (zs 29 [zM 0,zM 7,zF 86 [lZ,lY],zT 10 31] (zq (.block 0 (zs 33 [zM 10,zX (.eqv .ptr false mX (.c .nilp)),zT 32 34] (.cond lF (zs 6 [zX (.mv (zk 12))] .ret) (zs 36 [zX (.ldN 2 o9),zF 99 [mZ],zT 35 37] (.cond qG (zs 6 [zX (.mv (zk 6))] .ret) (zs 39 [zM 10,zX (.nilchk rT),zX (.fa 1 rE),zX (.ld vG),zX (.bin .geq uN (zk 100)),zT 38 43] (.cond uD (zs 6 [zX (.mv (zk 5))] .ret) .skip))))))) (zs 44 [zM 10,zX (.nilchk uJ),zX (.fa 1 o45),zX (.ld zJ),zX (.bin .add o47 (zk 1)),zX (.nilchk uJ),zX (.fa 1 o49),zW (.st 1 o50 o48)] (zs 51 [zX (.fa 0 o9),zX (.ld o51),zX (.fa 1 o9),zX (.ld o53),zM 7,zF 100 [o52,o54,o55]] (zs 6 [zX (.mv (zk 0))] .ret))))))))))
theorem bYj : iA3 E bHL R45 (aRN E) := λ σ h => by kernel_rfl
def D45 : DF := ⟨3, 57, bHL, R45⟩
def S45 : cE := fA3 (aRN E)
theorem bLm : SQ D45 S45 := λ E => eA3 (d := D45) (bYj E) rfl
def R46 : List RV := [(.r p8)]
def aRM (r0 r1 r2 r3 : DV) (h : H) : aU := wK (aD E 83 [r0, r1] h) λ x1 h2 => vK (aG 0 x1) λ x3 => vK (aG 1 x1) λ x4 => vK (dA x4 (ii 0)) λ x5 => bK x5 (some (x4, h2)) (wK (aD E 92 [r0, x3, r2, r3] h2) λ x6 h7 => some (x6, h7))
def bHK : DC := (zs 8 [zX (.mv (zk 0))] (zs 12 [zM 0,zM 1,zF 83 [fL,fX],zT 11 14,zX (.ext 0 fZ),zX (.ext 1 fZ),zT 9 15,zT 10 16] (zq (zs 17 [zM 10,zX (.bin .neq iL (zk 0))] (.cond iC (zs 8 [zT 19 10,zM 19] .ret) .skip)) (zs 20 [zM 0,zM 9,zM 2,zM 3,zF 92 [iV,gZ,jV,iB],zT 8 24] .ret))))
theorem bYi : iA4 E bHK R46 (aRM E) := λ σ h => by kernel_rfl
def D46 : DF := ⟨4, 25, bHK, R46⟩
def S46 : cE := fA4 (aRM E)
theorem bLl : SQ D46 S46 := λ E => eA4 (d := D46) (bYi E) rfl
def R47 : List RV := [(.r p6)]
def aRL (r0 r1 r2 : DV) (h : H) : aU := wK (aD E 83 [r0, r1] h) λ x1 h2 => vK (aG 0 x1) λ x3 => vK (aG 1 x1) λ x4 => vK (dA x4 (ii 0)) λ x5 => bK x5 (some (x4, h2)) (vK (cJ r2 (ii 0)) λ x6 => bA x6 false (λ kk => kk r2 h2) h2 λ x7 h8 => bA x6 false (λ kk => vK (eH x7 (ii 16384)) λ v => kk v h8) h8 λ x9 h10 => vK (aQ x6 (.bool true) x9) λ x11 => bK x11 (some ((ii 1), h10)) (vK (aL x3) λ x12 => vK (aF 0 x12) λ x13 => vK (aI h10.get x13) λ x14 => vK (aL x3) λ x15 => vK (aF 0 x15) λ x16 => vK (aI h10.get x16) λ x17 => vK (bZ x17) λ x18 => vK (aAv r2 x18) λ x19 => vK (gY x14 none (some x19)) λ x20 => wK (aD E 101 [x20, r2] h10) λ x21 h22 => vK (aG 0 x21) λ x23 => vK (aG 1 x21) λ x24 => wK (aD E 102 [r0, x3, x23] h22) λ x25 h26 => some (x25, h26)))
def bHJ : DC := (zs 6 [zX (.mv (zk 0))] (zs 12 [zM 0,zM 1,zF 83 [fL,fX],zT 11 14,zX (.ext 0 fZ),zX (.ext 1 fZ),zT 7 15,zT 8 16] (zq (.block 0 (zs 18 [zM 8,zX (.bin .neq iC (zk 0)),zT 17 19] (.cond iL (zs 6 [zT 20 8,zM 20] .ret) (zs 22 [zM 2,zX (.bin .lss jV (zk 0)),zM 23,zL 24 false 2,zG 24 false (.bin .gtr kJ (zk 16384)),zX (.pick iP (.c (.bool true)) mA),zT 21 27] (.cond gZ (zs 6 [zX (.mv (zk 1))] .ret) .skip))))) (zq (zd 29 [yA 0 (zM 7),yA 1 (zX (.nilchk lZ)),yA 2 (zX (.fa 0 lY)),yA 3 (zX (.ld nH)),yA 4 (zM 2),yA 5 (zM 7),yA 6 (zX (.nilchk mW)),yA 7 (zX (.fa 0 qG)),yA 8 (zX (.ld mZ)),yA 9 (zX (.lenS pR)),yA 10 (zX (.mn mX uD)),yA 11 (zX (.slS lF none (some rT))),yA 12 (zM 2),yA 13 (zF 101 [rE,vG]),yA 14 (zT 28 42),yA 15 (zX (.ext 0 lK)),yA 16 (zX (.ext 1 lK)),yA 17 (zT 9 43),yA 18 (zT 10 44)]) (zs 45 [zM 0,zM 7,zM 9,zF 102 [o45,zJ,o47],zT 6 48] .ret)))))
theorem bYh : iA3 E bHJ R47 (aRL E) := λ σ h => by kernel_rfl
def D47 : DF := ⟨3, 49, bHJ, R47⟩
def S47 : cE := fA3 (aRL E)
theorem bLk : SQ D47 S47 := λ E => eA3 (d := D47) (bYh E) rfl
def R48 : List RV := [(.r p2)]
def aRK (E : bO) (r0 : DV) (h : H) : aU := vK (aBz r0 (ii 0)) λ x1 => vK (aAv x1 (ii 65536)) λ x2 => vK (eM [(ii 0), .nils, (ii 0)] [(0, 1, x2)]) λ x3 => dN x3 h λ x4 h5 => some (x4, h5)
def bHI : DC := (zs 2 [zX (.mv (.c .nilp))] (zs 3 [zM 0,zX (.mx o3 (zk 0)),zX (.mn o4 (zk 65536)),zX (.bld [(.int .i64 (.ofNat 0)),.nils,(.int .i64 (.ofNat 0))] [(0,1,o5)]),zX (.box o6),zT 2 7] .ret))
theorem bYg : oQ E bHI R48 (aRK E) := λ σ h => by kernel_rfl
def D48 : DF := ⟨1, 8, bHI, R48⟩
def S48 : cE := oR (aRK E)
theorem bLj : SQ D48 S48 := λ E => oV (d := D48) (bYg E) rfl
def R49 : List RV := []
def aRI (r0 r3 : DV) (h : H) : aU := wK (aD E 103 [r0, (.fn (.func 104) [] [r3])] h) λ x1 h2 => some ((.tup []), h2)
def bHG : DC := (zr 24 [zM 0,zX (.mkF (.func 104) [] [o3]),zF 103 [iP,kJ]])
def aRJ (r0 r1 : DV) (h : H) : aU := dN r1 h λ x1 h2 => vK (dS .ptr true h2.get r0 .nilp) λ x3 => bA x3 true (λ kk => kk r0 h2) h2 λ x4 h5 => bA x3 true (λ kk => vK (aL x4) λ v => kk v h5) h5 λ x6 h7 => bA x3 true (λ kk => vK (aF 2 x6) λ v => kk v h7) h7 λ x8 h9 => bA x3 true (λ kk => vK (aI h9.get x8) λ v => kk v h9) h9 λ x10 h11 => bA x3 true (λ kk => vK (bP x10 (ii 0)) λ v => kk v h11) h11 λ x12 h13 => vK (aQ x3 x12 (.bool false)) λ x14 => bA x14 true (λ kk => vK (aI h13.get x1) λ v => kk v h13) h13 λ x15 h16 => bA x14 true (λ kk => vK (cJ x15 (ii 0)) λ v => kk v h16) h16 λ x17 h18 => bA x14 true (λ kk => kk x17 h18) h18 λ x19 h20 => bA x19 false (λ kk => vK (aI h20.get x1) λ v => kk v h20) h20 λ x21 h22 => bA x19 false (λ kk => vK (eH x21 (ii 255)) λ v => kk v h22) h22 λ x23 h24 => bA x14 true (λ kk => vK (aQ x19 (.bool true) x23) λ v => kk v h24) h24 λ x25 h26 => vK (aQ x14 x25 (.bool false)) λ x27 => bK x27 (vK (aL r0) λ x28 => vK (aF 2 x28) λ x29 => wK (bQ 1 x29 (ii 1) h26) λ x30 h31 => aRI E r0 x1 h31) (aRI E r0 x1 h26)
def bHH : DC := (zs 3 [zX (.box o1)] (zq (zs 4 [zM 0,zX (.eqv .ptr true o4 (.c .nilp)),zM 5,zL 6 true 0,zG 6 true (.nilchk o7),zG 6 true (.fa 2 o8),zG 6 true (.ld o9),zG 6 true (.bin .eql fR (zk 0)),zX (.pick o6 fZ (.c (.bool false))),zM 12,zG 13 true (.ld o3),zG 13 true (.bin .lss iO (zk 0)),zL 13 true 15,zG 16 false (.ld o3),zG 16 false (.bin .gtr iL (zk 255)),zG 13 true (.pick iG (.c (.bool true)) iC),zX (.pick fX iN (.c (.bool false)))] (.cond iV (zr 21 [zM 0,zX (.nilchk gZ),zX (.fa 2 jV),zW (.st 1 iB (zk 1))]) .skip)) bHG))
theorem bYe : Is E bHG (bN R49) (λ σ h => aRI E (σ p0) (σ p3) h) := λ σ h => by kernel_rfl
theorem bYf : nA E bHH R49 (aRJ E) := Is.as (Is.seq (Is.seq (bYe E) (Is.leaf _)) (Is.leaf _)) λ σ h => by kernel_rfl
def D49 : DF := ⟨2, 27, bHH, R49⟩
def S49 : cE := nB (aRJ E)
theorem bLi : SQ D49 S49 := λ E => nL (d := D49) (bYf E) rfl
def R50 : List RV := []
def aRH (r0 r1 : DV) (h : H) : aU := dN r1 h λ x1 h2 => wK (aD E 103 [r0, (.fn (.func 105) [] [x1])] h2) λ x3 h4 => some ((.tup []), h4)
def bHF : DC := (zs 3 [zX (.box o1)] (zr 4 [zM 0,zX (.mkF (.func 105) [] [o3]),zF 103 [o4,o5]]))
theorem bYd : nA E bHF R50 (aRH E) := λ σ h => by kernel_rfl
def D50 : DF := ⟨2, 7, bHF, R50⟩
def S50 : cE := nB (aRH E)
theorem bLh : SQ D50 S50 := λ E => nL (d := D50) (bYd E) rfl
def R51 : List RV := []
def aRG (r0 r1 : DV) (h : H) : aU := dN r1 h λ x1 h2 => wK (aD E 103 [r0, (.fn (.func 107) [] [x1])] h2) λ x3 h4 => some ((.tup []), h4)
def bHE : DC := (zs 3 [zX (.box o1)] (zr 4 [zM 0,zX (.mkF (.func 107) [] [o3]),zF 103 [o4,o5]]))
theorem bYc : nA E bHE R51 (aRG E) := λ σ h => by kernel_rfl
def D51 : DF := ⟨2, 7, bHE, R51⟩
def S51 : cE := nB (aRG E)
theorem bLg : SQ D51 S51 := λ E => nL (d := D51) (bYc E) rfl
def R52 : List RV := [(.r p2),(.r p3)]
def aRF (E : bO) (r0 : DV) (h : H) : aU := vK (dS .ptr false h.get r0 .nilp) λ x1 => bK x1 (some ((.tup [(.str []), (ii 1)]), h)) (vK (aL r0) λ x2 => vK (aF 2 x2) λ x3 => vK (aI h.get x3) λ x4 => vK (dA x4 (ii 0)) λ x5 => bK x5 (vK (aL r0) λ x6 => vK (aF 2 x6) λ x7 => vK (aI h.get x7) λ x8 => some ((.tup [(.str []), x8]), h)) (vK (aL r0) λ x9 => vK (aF 1 x9) λ x10 => vK (aI h.get x10) λ x11 => vK (mY h.get x11) λ x12 => some ((.tup [x12, (ii 0)]), h)))
def bHD : DC := (zs 2 [zX (.mv (.c (.str []))),zX (.mv (zk 0))] (zq (.block 0 (zs 5 [zM 0,zX (.eqv .ptr false o5 (.c .nilp)),zT 4 6] (.cond o4 (zs 2 [zX (.mv (.c (.str []))),zX (.mv (zk 1))] .ret) (zs 8 [zM 0,zX (.nilchk o8),zX (.fa 2 o9),zX (.ld fR),zX (.bin .neq fZ (zk 0)),zT 7 12] (.cond o7 (zq (zd 13 [yA 0 (zM 0),yA 1 (zX (.nilchk fX)),yA 2 (zX (.fa 2 iO)),yA 3 (zX (.ld iW)),yA 4 (zY 2 (.mv (.c (.str [])))),yA 5 (zT 3 16)]) .ret) .skip))))) (zs 17 [zM 0,zX (.nilchk iL),zX (.fa 1 iC),zX (.ld iN),zX (.b2s iV),zT 2 21,zY 3 (.mv (zk 0))] .ret)))
theorem bYb : oQ E bHD R52 (aRF E) := λ σ h => by kernel_rfl
def D52 : DF := ⟨1, 22, bHD, R52⟩
def S52 : cE := oR (aRF E)
theorem bLf : SQ D52 S52 := λ E => oV (d := D52) (bYb E) rfl
def R53 : List RV := [(.r p2)]
def aMS (E : bO) (r3 r4 : DV) (h : H) : aU := vK (fF .u8 r3) λ x1 => gT 1 1 [(.int .u8 (.ofNat 0))] [(0, 1, x1)] h λ x2 h3 => wK (cF 1 1 r4 x2 h3) λ x4 h5 => vK (mY h5.get x4) λ x6 => some (x6, h5)
def bHA : DC := (zs 23 [zM 4,zM 3,zX (.conv .u8 iP),zX (.bsl 1 1 [(.int .u8 (.ofNat 0))] [(0,1,kJ)]),zD ⟨(some p27),none,(.w (.app 1 1 iB mA))⟩,zT 4 27] (zs 28 [zM 4,zX (.b2s lK),zT 2 29] .ret))
def aNi (i3 : DV → DV → H → aU) (r3 r4 : DV) (h : H) : aU := vK (mI r3 (.int .u64 (.ofNat 128))) λ x1 => bK x1 (vK (aEc r3 (.int .u64 (.ofNat 127))) λ x2 => vK (fF .u8 x2) λ x3 => vK (aSo x3 (.int .u8 (.ofNat 128))) λ x4 => gT 1 1 [(.int .u8 (.ofNat 0))] [(0, 1, x4)] h λ x5 h6 => wK (cF 1 1 r4 x5 h6) λ x7 h8 => vK (yK r3 (.int .u64 (.ofNat 7))) λ x9 => i3 x9 x7 h8) (aMS E r3 r4 h)
def aHN (n : Nat) : DV → DV → H → aU := Nat.rec (motive := λ _ => DV → DV → H → aU) (λ _ _ _ => none) (λ _ i => aNi E i) n
def bHz : DC := (.loop (zq (zs 12 [zM 3,zX (.bin .geq fL (.c (.int .u64 (.ofNat 128))))] (.cond fX .skip (.exit 0))) (.block 1 (zs 14 [zM 4,zM 3,zX (.bin .and iW (.c (.int .u64 (.ofNat 127)))),zX (.conv .u8 iG),zX (.bin .or iL (.c (.int .u8 (.ofNat 128)))),zX (.bsl 1 1 [(.int .u8 (.ofNat 0))] [(0,1,iC)]),zD ⟨(some p20),none,(.w (.app 1 1 iO iN))⟩,zT 4 20] (zr 21 [zM 3,zX (.bin .shr gZ (.c (.int .u64 (.ofNat 7)))),zT 3 22])))))
def aXG (r3 : DV) (h : H) : aU := aHN E aR r3 .nils h
def bHB : DC := (zs 4 [zX (.mv (.c .nils))] (zq (.block 0 bHz) bHA))
def aRE (r0 : DV) (h : H) : aU := vK (fF .u64 r0) λ x1 => vK (aDY x1 (.int .u64 (.ofNat 1))) λ x2 => vK (cJ r0 (ii 0)) λ x3 => bK x3 (vK (aDW x2 (.int .u64 (.ofNat 18446744073709551615))) λ x4 => aXG E x4 h) (aXG E x2 h)
def bHC : DC := (zs 2 [zX (.mv (.c (.str [])))] (zs 5 [zM 0,zX (.conv .u64 o5),zX (.bin .shl o6 (.c (.int .u64 (.ofNat 1)))),zT 3 7] (zq (zs 8 [zM 0,zX (.bin .lss o8 (zk 0))] (.cond o9 (zr 10 [zM 3,zX (.bin .xor fR (.c (.int .u64 (.ofNat 18446744073709551615)))),zT 3 11]) .skip)) bHB)))
theorem bXY : Is E bHA (bN R53) (λ σ h => aMS E (σ p3) (σ p4) h) := λ σ h => by kernel_rfl
abbrev bWR : gW (DV × H) := (cH (λ σ h => aMS E (σ p3) (σ p4) h) (bN R53))
theorem bXX : Is E bHz (bL 0 (bWR E)) (λ σ h => aHN E aR (σ p3) (σ p4) h) := Is.loop (λ n3 σ h => aHN E n3 (σ p3) (σ p4) h) (by kernel_rfl) λ n3 => Is.as (Is.leaf _) λ σ h => by kernel_rfl
theorem bXZ : Is E bHB (bN R53) (λ σ h => aXG E (σ p3) h) := Is.as (Is.seq (Is.seq (bXY E) (Is.block (bXX E))) (Is.leaf _)) λ σ h => by kernel_rfl
theorem bYa : oQ E bHC R53 (aRE E) := Is.as (Is.seq (Is.seq (Is.seq (bXZ E) (Is.leaf _)) (Is.leaf _)) (Is.leaf _)) λ σ h => by kernel_rfl
def D53 : DF := ⟨1, 30, bHC, R53⟩
def S53 : cE := oR (aRE E)
theorem bLe : SQ D53 S53 := λ E => oV (d := D53) (bYa E) rfl
def R54 : List RV := [(.r p2)]
def aRD (r0 : DV) (h : H) : aU := vK (bZ r0) λ x1 => wK (aD E 53 [x1] h) λ x2 h3 => vK (bJ x2 r0) λ x4 => some (x4, h3)
def bHy : DC := (zs 2 [zX (.mv (.c (.str [])))] (zs 3 [zM 0,zX (.lenS o3),zF 53 [o4],zM 0,zX (.bin .add o5 o6),zT 2 7] .ret))
theorem bXW : oQ E bHy R54 (aRD E) := λ σ h => by kernel_rfl
def D54 : DF := ⟨1, 8, bHy, R54⟩
def S54 : cE := oR (aRD E)
theorem bLd : SQ D54 S54 := λ E => oV (d := D54) (bXW E) rfl
def R55 : List RV := [(.r p2)]
def bGt (E : bO) (r0 : DV) (h : H) : aU := vK (eM [(.str []), (.bool false)] [(0, 1, r0)]) λ x1 => dN x1 h λ x2 h3 => some (x2, h3)
def bHx : DC := (zs 2 [zX (.mv (.c .nilp))] (zs 3 [zM 0,zX (.bld [(.str []),(.bool false)] [(0,1,o3)]),zX (.box o4),zT 2 5] .ret))
theorem bXV : oQ E bHx R55 (bGt E) := λ σ h => by kernel_rfl
def D55 : DF := ⟨1, 6, bHx, R55⟩
def S55 : cE := oR (bGt E)
theorem bLc : SQ D55 S55 := λ E => oV (d := D55) (bXV E) rfl
def R56 : List RV := [(.r p2)]
def bGs (r0 : DV) (h : H) : aU := wK (aD E 109 [r0, (ii 1)] h) λ x1 h2 => vK (aG 0 x1) λ x3 => vK (aG 1 x1) λ x4 => bK x4 (vK (gQ x3 (ii 0)) λ x5 => vK (fF .i64 x5) λ x6 => some (x6, h2)) (some ((ii 0), h2))
def bHw : DC := (zs 2 [zX (.mv (zk 0))] (zq (zs 6 [zM 0,zF 109 [o6,(zk 1)],zT 5 7,zX (.ext 0 o5),zX (.ext 1 o5),zT 3 8,zT 4 9] (zs 10 [zM 4] (.cond fR (zs 11 [zM 3,zX (.ixS fZ (zk 0)),zX (.conv .i64 fL),zT 2 13] .ret) .skip))) (zs 2 [zX (.mv (zk 0))] .ret)))
theorem bXU : oQ E bHw R56 (bGs E) := λ σ h => by kernel_rfl
def D56 : DF := ⟨1, 14, bHw, R56⟩
def S56 : cE := oR (bGs E)
theorem bLb : SQ D56 S56 := λ E => oV (d := D56) (bXU E) rfl
def R57 : List RV := [(.r p2)]
def bGr (r0 : DV) (h : H) : aU := vK (dS .ptr false h.get r0 .nilp) λ x1 => bK x1 (some ((ii 0), h)) (vK (aL r0) λ x2 => vK (aF 0 x2) λ x3 => vK (aI h.get x3) λ x4 => wK (aD E 110 [x4] h) λ x5 h6 => vK (aG 0 x5) λ x7 => vK (aG 1 x5) λ x8 => vK (bP x8 (ii 0)) λ x9 => bK x9 (wK (aD E 111 [r0] h6) λ x10 h11 => some ((ii 0), h11)) (wK (aD E 109 [r0, x8] h6) λ x12 h13 => vK (yK x7 (.int .u64 (.ofNat 1))) λ x14 => vK (fF .i64 x14) λ x15 => vK (aEc x7 (.int .u64 (.ofNat 1))) λ x16 => vK (fF .i64 x16) λ x17 => vK (aKS x17) λ x18 => vK (aDW x15 x18) λ x19 => some (x19, h13)))
def bHv : DC := (zs 2 [zX (.mv (zk 0))] (zq (zs 5 [zM 0,zX (.eqv .ptr false o5 (.c .nilp))] (.cond o6 (zs 2 [zX (.mv (zk 0))] .ret) .skip)) (zs 8 [zM 0,zX (.nilchk o8),zX (.fa 0 o9),zX (.ld fR),zF 110 [fZ],zT 7 12,zX (.ext 0 o7),zX (.ext 1 o7),zT 3 13,zT 4 14] (zq (zs 15 [zM 4,zX (.bin .eql iW (zk 0))] (.cond iG (zs 17 [zM 0,zF 111 [iL]] (zs 2 [zX (.mv (zk 0))] .ret)) .skip)) (zs 19 [zM 0,zM 4,zF 109 [iN,iV]] (zs 22 [zM 3,zX (.bin .shr jV (.c (.int .u64 (.ofNat 1)))),zX (.conv .i64 iB),zM 3,zX (.bin .and kJ (.c (.int .u64 (.ofNat 1)))),zX (.conv .i64 mA),zX (.neg lB),zX (.bin .xor iP lK),zT 2 29] .ret))))))
theorem bXT : oQ E bHv R57 (bGr E) := λ σ h => by kernel_rfl
def D57 : DF := ⟨1, 30, bHv, R57⟩
def S57 : cE := oR (bGr E)
theorem bLa : SQ D57 S57 := λ E => oV (d := D57) (bXT E) rfl
def R58 : List RV := [(.r p2)]
def bGq (r0 : DV) (h : H) : aU := wK (aD E 57 [r0] h) λ x1 h2 => wK (aD E 109 [r0, x1] h2) λ x3 h4 => vK (aG 0 x3) λ x5 => vK (aG 1 x3) λ x6 => some (x5, h4)
def bHu : DC := (zs 2 [zX (.mv (.c (.str [])))] (zs 6 [zM 0,zM 0,zF 57 [o7],zF 109 [o6,o8],zT 5 9,zX (.ext 0 o5),zX (.ext 1 o5),zT 3 10,zT 4 11] (zs 2 [zT 12 3,zM 12] .ret)))
theorem bXS : oQ E bHu R58 (bGq E) := λ σ h => by kernel_rfl
def D58 : DF := ⟨1, 13, bHu, R58⟩
def S58 : cE := oR (bGq E)
theorem bKZ : SQ D58 S58 := λ E => oV (d := D58) (bXS E) rfl
def R59 : List RV := [(.r p2)]
def bGp (E : bO) (r0 : DV) (h : H) : aU := vK (dS .ptr false h.get r0 .nilp) λ x1 => bK x1 (some ((ii 1), h)) (vK (aL r0) λ x2 => vK (aF 1 x2) λ x3 => vK (aI h.get x3) λ x4 => bA x4 false (λ kk => kk r0 h) h λ x5 h6 => bA x4 false (λ kk => vK (aL x5) λ v => kk v h6) h6 λ x7 h8 => bA x4 false (λ kk => vK (aF 0 x7) λ v => kk v h8) h8 λ x9 h10 => bA x4 false (λ kk => vK (aI h10.get x9) λ v => kk v h10) h10 λ x11 h12 => bA x4 false (λ kk => vK (dA x11 (.str [])) λ v => kk v h12) h12 λ x13 h14 => vK (aQ x4 (.bool true) x13) λ x15 => bK x15 (some ((ii 3), h14)) (some ((ii 0), h14)))
def bHt : DC := (zs 2 [zX (.mv (zk 0))] (zq (.block 0 (zs 4 [zM 0,zX (.eqv .ptr false o4 (.c .nilp)),zT 3 5] (.cond o3 (zs 2 [zX (.mv (zk 1))] .ret) (zs 7 [zM 0,zX (.nilchk o7),zX (.fa 1 o8),zX (.ld o9),zM 10,zL 11 false 0,zG 11 false (.nilchk fL),zG 11 false (.fa 0 fX),zG 11 false (.ld iO),zG 11 false (.bin .neq iW (.c (.str []))),zX (.pick fZ (.c (.bool true)) iG),zT 6 17] (.cond o6 (zs 2 [zX (.mv (zk 3))] .ret) .skip))))) (zs 2 [zX (.mv (zk 0))] .ret)))
theorem bXR : oQ E bHt R59 (bGp E) := λ σ h => by kernel_rfl
def D59 : DF := ⟨1, 18, bHt, R59⟩
def S59 : cE := oR (bGp E)
theorem bKY : SQ D59 S59 := λ E => oV (d := D59) (bXR E) rfl
def R65 : List RV := [(.r p0)]
def aRC (E : bO) (h : H) : aU := vK (eM [.nils] []) λ x1 => dN x1 h λ x2 h3 => some (x2, h3)
def bHs : DC := (zs 0 [zX (.mv (.c .nilp))] (zs 1 [zX (.bld [.nils] []),zX (.box o1),zT 0 2] .ret))
theorem bXQ : iA0 E bHs R65 (aRC E) := λ σ h => by kernel_rfl
def D65 : DF := ⟨0, 3, bHs, R65⟩
def S65 : cE := fA0 (aRC E)
theorem bKX : SQ D65 S65 := λ E => eA0 (d := D65) (bXQ E) rfl
def R66 : List RV := [(.cells p6 2),(.r p7)]
def aHS (E : bO) (r2 r3 r6 r11 r12 : DV) (h : H) : aU := vK (aF 0 r3) λ x1 => vK (aI h.get x1) λ x2 => vK (dK 5 x2 none (some r12)) λ x3 => vK (aF 1 r3) λ x4 => vK (aI h.get x4) λ x5 => vK (eM [(ii 0), (ii 0), (ii 0), (.str []), .nils] [(0, 1, r11), (1, 1, x5), (2, 1, r2)]) λ x6 => gT 1 5 [(ii 0), (ii 0), (ii 0), (.str []), .nils] [(0, 5, x6)] h λ x7 h8 => vK (aF 0 r3) λ x9 => vK (aI h8.get x9) λ x10 => vK (dK 5 x10 (some r12) none) λ x11 => wK (cF 5 64 .nils x3 h8) λ x12 h13 => rK (rcK (aI h13.get x9) x10) <| rK (rcK (aI h13.get x4) x5) <| wK (cF 5 64 x12 x7 h13) λ x14 h15 => rK (rcK (aI h15.get x9) x10) <| wK (cF 5 64 x14 x11 h15) λ x16 h17 => vK (aF 0 r3) λ x18 => wK (bQ 1 x18 x16 h17) λ x19 h20 => vK (aK 2 h20.get r3) λ x21 => wK (bQ 2 r6 x21 h20) λ x22 h23 => vK (aK 2 h23.get r6) λ x24 => some ((.tup [x24, (ii 0)]), h23)
def bHo : DC := (zq (zd 69 [yA 0 (zY 64 (.fa 0 o3)),yA 1 (zY 65 (.ld o64)),yA 2 (zT 66 12),yA 3 (zY 67 (.slL 5 o65 none (some o66))),yA 5 (zM 11),yA 6 (zX (.fa 1 o3)),yA 7 (zX (.ld o70)),yA 8 (zM 2),yA 9 (zX (.bld [(.int .i64 (.ofNat 0)),(.int .i64 (.ofNat 0)),(.int .i64 (.ofNat 0)),(.str []),.nils] [(0,1,o69),(1,1,o71),(2,1,o72)])),yA 10 (zX (.bsl 1 5 [(.int .i64 (.ofNat 0)),(.int .i64 (.ofNat 0)),(.int .i64 (.ofNat 0)),(.str []),.nils] [(0,5,o73)])),yA 12 (zY 76 (.fa 0 o3)),yA 13 (zY 77 (.ld o76)),yA 14 (zT 78 12),yA 15 (zY 79 (.slL 5 o77 (some o78) none)),yB 4 (zD ⟨(some p68),none,(.w (.app 5 64 (.c .nils) o67))⟩) [13,7] false,yB 11 (zD ⟨(some p75),none,(.w (.app 5 64 o68 o74))⟩) [13] false,yA 16 (zD ⟨(some p80),none,(.w (.app 5 64 o75 o79))⟩),yA 17 (zY 81 (.fa 0 o3)),yA 18 (zW (.st 1 o81 o80))]) (zs 7 [zY 82 (.ldN 2 o3),zW (.st 2 o6 o82),zX (.mv (zk 0))] .ret))
def aNg (r2 r3 r6 r11 : DV) (i4 : DV → H → aU) (r12 : DV) (h : H) : aU := vK (aF 0 r3) λ x1 => vK (aI h.get x1) λ x2 => vK (cB x2) λ x3 => vK (cJ r12 x3) λ x4 => bA x4 true (λ kk => vK (aF 0 r3) λ v => kk v h) h λ x5 h6 => bA x4 true (λ kk => vK (aI h6.get x5) λ v => kk v h6) h6 λ x7 h8 => bA x4 true (λ kk => kk r12 h8) h8 λ x9 h10 => bA x4 true (λ kk => vK (cC 5 x7 x9) λ v => kk v h10) h10 λ x11 h12 => bA x4 true (λ kk => vK (aF 0 x11) λ v => kk v h12) h12 λ x13 h14 => bA x4 true (λ kk => vK (aI h14.get x13) λ v => kk v h14) h14 λ x15 h16 => bA x4 true (λ kk => kk r11 h16) h16 λ x17 h18 => bA x4 true (λ kk => vK (cJ x15 x17) λ v => kk v h18) h18 λ x19 h20 => vK (aQ x4 x19 (.bool false)) λ x21 => bK x21 (vK (bJ r12 (ii 1)) λ x22 => i4 x22 h20) (aHS E r2 r3 r6 r11 r12 h20)
def aHL (r2 r3 r6 r11 : DV) (n : Nat) : DV → H → aU := Nat.rec (motive := λ _ => DV → H → aU) (λ _ _ => none) (λ _ i => aNg E r2 r3 r6 r11 i) n
def bHn : DC := (.loop (zq (zs 47 [zM 12,zX (.fa 0 o3),zX (.ld o48),zX (.lenL o49),zX (.bin .lss o47 o50),zM 51,zG 52 true (.fa 0 o3),zG 52 true (.ld o53),zL 52 true 12,zG 52 true (.iaS 5 o54 o55),zG 52 true (.fa 0 o56),zG 52 true (.ld o57),zL 52 true 11,zG 52 true (.bin .lss o58 o59),zX (.pick o52 o60 (.c (.bool false)))] (.cond o61 .skip (.exit 2))) (.block 3 (zr 62 [zM 12,zX (.bin .add o62 (zk 1)),zT 12 63]))))
def aMR (r2 r3 r6 r8 r9 r11 : DV) (h : H) : aU := vK (mI r11 (ii 256)) λ x1 => bK x1 (vK (aK 2 h.get r3) λ x2 => wK (bQ 2 r6 x2 h) λ x3 h4 => vK (aK 2 h4.get r6) λ x5 => some ((.tup [x5, (ii 5)]), h4)) (vK (aK 2 h.get r3) λ x6 => wK (aD E 123 [x6, r8, r9, r11] h) λ x7 h8 => wK (bQ 2 r3 x7 h8) λ x9 h10 => vK (aF 1 r3) λ x11 => vK (aI h10.get x11) λ x12 => vK (bJ x12 (ii 1)) λ x13 => vK (aF 1 r3) λ x14 => wK (bQ 1 x14 x13 h10) λ x15 h16 => aHL E r2 r3 r6 r11 aR (ii 0) h16)
def bHq : DC := (zq (zs 35 [zM 11,zX (.bin .geq qG (zk 256))] (.cond mZ (zs 7 [zY 37 (.ldN 2 o3),zW (.st 2 o6 pR),zX (.mv (zk 5))] .ret) .skip)) (zs 38 [zX (.ldN 2 o3),zM 8,zM 9,zM 11,zF 123 [uD,rT,rE,vG],zW (.st 2 o3 uN)] (zs 43 [zX (.fa 1 o3),zX (.ld uM),zX (.bin .add uJ (zk 1)),zX (.fa 1 o3),zW (.st 1 zJ o45)] (zs 12 [zX (.mv (zk 0))] (zq (.block 2 bHn) bHo)))))
def aNh (r2 r3 r6 r8 r9 : DV) (i2 : DV → H → aU) (r11 : DV) (h : H) : aU := vK (aK 2 h.get r3) λ x1 => wK (aD E 122 [x1, r11] h) λ x2 h3 => vK (mI x2 (ii 0)) λ x4 => bK x4 (vK (bJ r11 (ii 1)) λ x5 => i2 x5 h3) (aMR E r2 r3 r6 r8 r9 r11 h3)
def aHM (r2 r3 r6 r8 r9 : DV) (n : Nat) : DV → H → aU := Nat.rec (motive := λ _ => DV → H → aU) (λ _ _ => none) (λ _ i => aNh E r2 r3 r6 r8 r9 i) n
def bHp : DC := (.loop (zq (zs 29 [zX (.ldN 2 o3),zM 11,zF 122 [lZ,lY],zX (.bin .geq nH (zk 0))] (.cond lF .skip (.exit 0))) (.block 1 (zr 33 [zM 11,zX (.bin .add mX (zk 1)),zT 11 34]))))
def aRB (r0 r1 r2 : DV) (h : H) : aU := dN r0 h λ x1 h2 => dZ 2 2 (.list [.nils, (ii 0)]) h2 λ x3 h4 => vK (aK 2 h4.get x1) λ x5 => wK (aD E 120 [x5, r1] h4) λ x6 h7 => vK (aG 0 x6) λ x8 => vK (aG 1 x6) λ x9 => vK (aG 2 x6) λ x10 => vK (dA x10 (ii 0)) λ x11 => bK x11 (vK (aK 2 h7.get x1) λ x12 => wK (bQ 2 x3 x12 h7) λ x13 h14 => vK (aK 2 h14.get x3) λ x15 => some ((.tup [x15, x10]), h14)) (vK (aK 2 h7.get x1) λ x16 => wK (aD E 121 [x16, x8, x9] h7) λ x17 h18 => bK x17 (vK (aK 2 h18.get x1) λ x19 => wK (bQ 2 x3 x19 h18) λ x20 h21 => vK (aK 2 h21.get x3) λ x22 => some ((.tup [x22, (ii 6)]), h21)) (aHM E r2 x1 x3 x8 x9 aR (ii 2) h18))
def bHr : DC := (zs 6 [zY 3 (.box o0),zX (.alc 2 2 (.list [.nils,(.int .i64 (.ofNat 0))])),zX (.mv (zk 0))] (zs 14 [zX (.ldN 2 o3),zM 1,zF 120 [iO,iW],zT 13 16,zX (.ext 0 fX),zX (.ext 1 fX),zX (.ext 2 fX),zT 8 17,zT 9 18,zT 10 19] (zq (zs 20 [zM 10,zX (.bin .neq iV (zk 0))] (.cond gZ (zs 22 [zX (.ldN 2 o3),zM 10,zW (.st 2 o6 jV),zT 7 23] .ret) .skip)) (zq (zs 24 [zX (.ldN 2 o3),zM 8,zM 9,zF 121 [iP,kJ,mA]] (.cond lB (zs 7 [zY 28 (.ldN 2 o3),zW (.st 2 o6 lK),zX (.mv (zk 6))] .ret) .skip)) (zs 11 [zX (.mv (zk 2))] (zq (.block 0 bHp) bHq))))))
theorem bXM : Is E bHo (bN R66) (λ σ h => aHS E (σ p2) (σ p3) (σ p6) (σ p11) (σ p12) h) := λ σ h => by kernel_rfl
abbrev bWQ : gW (DV × H) := (cH (λ σ h => aHS E (σ p2) (σ p3) (σ p6) (σ p11) (σ p12) h) (bN R66))
theorem bXL : Is E bHn (bL 2 (bWQ E)) (λ σ h => aHL E (σ p2) (σ p3) (σ p6) (σ p11) aR (σ p12) h) := Is.loop (λ n4 σ h => aHL E (σ p2) (σ p3) (σ p6) (σ p11) n4 (σ p12) h) (by kernel_rfl) λ n4 => Is.as (Is.leaf _) λ σ h => by kernel_rfl
theorem bXO : Is E bHq (bN R66) (λ σ h => aMR E (σ p2) (σ p3) (σ p6) (σ p8) (σ p9) (σ p11) h) := Is.as (Is.seq (Is.seq (Is.seq (Is.seq (Is.seq (bXM E) (Is.block (bXL E))) (Is.leaf _)) (Is.leaf _)) (Is.leaf _)) (Is.leaf _)) λ σ h => by kernel_rfl
abbrev bWP : gW (DV × H) := (cH (λ σ h => aMR E (σ p2) (σ p3) (σ p6) (σ p8) (σ p9) (σ p11) h) (bN R66))
theorem bXN : Is E bHp (bL 0 (bWP E)) (λ σ h => aHM E (σ p2) (σ p3) (σ p6) (σ p8) (σ p9) aR (σ p11) h) := Is.loop (λ n2 σ h => aHM E (σ p2) (σ p3) (σ p6) (σ p8) (σ p9) n2 (σ p11) h) (by kernel_rfl) λ n2 => Is.as (Is.leaf _) λ σ h => by kernel_rfl
theorem bXP : iA3 E bHr R66 (aRB E) := Is.as (Is.seq (Is.seq (Is.seq (Is.seq (Is.seq (Is.seq (bXO E) (Is.block (bXN E))) (Is.leaf _)) (Is.leaf _)) (Is.leaf _)) (Is.leaf _)) (Is.leaf _)) λ σ h => by kernel_rfl
def D66 : DF := ⟨3, 83, bHr, R66⟩
def S66 : cE := fA3 (aRB E)
theorem bKW : SQ D66 S66 := λ E => eA3 (d := D66) (bXP E) rfl
def R67 : List RV := [(.cells p4 2),(.r p5)]
def aXF (E : bO) (r2 r4 : DV) (h : H) : aU := vK (aK 2 h.get r2) λ x1 => wK (bQ 2 r4 x1 h) λ x2 h3 => vK (aK 2 h3.get r4) λ x4 => some ((.tup [x4, (ii 0)]), h3)
def bHl : DC := (zs 5 [zY 54 (.ldN 2 o2),zW (.st 2 o4 o54),zX (.mv (zk 0))] .ret)
def aRA (r0 r1 : DV) (h : H) : aU := dN r0 h λ x1 h2 => dZ 2 2 (.list [.nils, (ii 0)]) h2 λ x3 h4 => vK (aK 2 h4.get x1) λ x5 => wK (aD E 124 [x5, r1] h4) λ x6 h7 => vK (aG 0 x6) λ x8 => vK (aG 1 x6) λ x9 => vK (dA x9 (ii 0)) λ x10 => bK x10 (vK (aK 2 h7.get x1) λ x11 => wK (bQ 2 x3 x11 h7) λ x12 h13 => vK (aK 2 h13.get x3) λ x14 => some ((.tup [x14, x9]), h13)) (vK (aF 0 x1) λ x15 => vK (aI h7.get x15) λ x16 => vK (cC 5 x16 x8) λ x17 => vK (aF 2 x17) λ x18 => vK (aI h7.get x18) λ x19 => vK (bP x19 (ii 2)) λ x20 => bK x20 (vK (aK 2 h7.get x1) λ x21 => wK (bQ 2 x3 x21 h7) λ x22 h23 => vK (aK 2 h23.get x3) λ x24 => some ((.tup [x24, (ii 12)]), h23)) (vK (aF 0 x1) λ x25 => vK (aI h7.get x25) λ x26 => vK (cC 5 x26 x8) λ x27 => vK (aF 0 x27) λ x28 => vK (aI h7.get x28) λ x29 => vK (aK 2 h7.get x1) λ x30 => wK (aD E 120 [x30, r1] h7) λ x31 h32 => vK (aG 0 x31) λ x33 => vK (aG 1 x31) λ x34 => vK (aG 2 x31) λ x35 => vK (aK 2 h32.get x1) λ x36 => wK (aD E 125 [x36, x33, x34] h32) λ x37 h38 => wK (bQ 2 x1 x37 h38) λ x39 h40 => vK (aK 2 h40.get x1) λ x41 => wK (aD E 126 [x41, x29] h40) λ x42 h43 => vK (bP x42 (ii 0)) λ x44 => bK x44 (vK (aK 2 h43.get x1) λ x45 => wK (aD E 127 [x45, x29] h43) λ x46 h47 => wK (bQ 2 x1 x46 h47) λ x48 h49 => aXF E x1 x3 h49) (aXF E x1 x3 h43)))
def bHm : DC := (zs 4 [zY 2 (.box o0),zX (.alc 2 2 (.list [.nils,(.int .i64 (.ofNat 0))])),zX (.mv (zk 0))] (zs 13 [zX (.ldN 2 o2),zM 1,zF 124 [fX,iO],zT 12 15,zX (.ext 0 fL),zX (.ext 1 fL),zT 6 16,zT 7 17] (zq (zs 18 [zM 7,zX (.bin .neq iC (zk 0))] (.cond iN (zs 20 [zX (.ldN 2 o2),zM 7,zW (.st 2 o4 iV),zT 5 21] .ret) .skip)) (zq (zs 22 [zX (.fa 0 o2),zX (.ld jV),zM 6,zX (.iaS 5 iB iP),zX (.fa 2 kJ),zX (.ld mA),zX (.bin .eql lB (zk 2))] (.cond lK (zs 5 [zY 29 (.ldN 2 o2),zW (.st 2 o4 lZ),zX (.mv (zk 12))] .ret) .skip)) (zs 30 [zX (.fa 0 o2),zX (.ld lY),zM 6,zX (.iaS 5 nH lF),zX (.fa 0 mX),zX (.ld mW),zT 8 35] (zs 37 [zX (.ldN 2 o2),zM 1,zF 120 [pR,uD],zT 36 39,zX (.ext 0 mZ),zX (.ext 1 mZ),zX (.ext 2 mZ),zT 9 40,zT 10 41,zT 11 42] (zs 43 [zX (.ldN 2 o2),zM 9,zM 10,zF 125 [uM,uJ,o45],zW (.st 2 o2 zJ)] (zq (zs 47 [zX (.ldN 2 o2),zM 8,zF 126 [o47,o48],zX (.bin .eql o49 (zk 0))] (.cond o50 (zr 51 [zX (.ldN 2 o2),zM 8,zF 127 [o51,o52],zW (.st 2 o2 o53)]) .skip)) bHl))))))))
theorem bXJ : Is E bHl (bN R67) (λ σ h => aXF E (σ p2) (σ p4) h) := λ σ h => by kernel_rfl
theorem bXK : nA E bHm R67 (aRA E) := Is.as (Is.seq (Is.seq (Is.seq (Is.seq (Is.seq (Is.seq (Is.seq (Is.seq (bXJ E) (Is.leaf _)) (Is.leaf _)) (Is.leaf _)) (Is.leaf _)) (Is.leaf _)) (Is.leaf _)) (Is.leaf _)) (Is.leaf _)) λ σ h => by kernel_rfl
def D67 : DF := ⟨2, 55, bHm, R67⟩
def S67 : cE := nB (aRA E)
theorem bKV : SQ D67 S67 := λ E => nL (d := D67) (bXK E) rfl
def R68 : List RV := [(.cells p4 2),(.r p5)]
def aRz (r0 r1 : DV) (h : H) : aU := dN r0 h λ x1 h2 => dZ 2 2 (.list [.nils, (ii 0)]) h2 λ x3 h4 => vK (aK 2 h4.get x1) λ x5 => wK (aD E 124 [x5, r1] h4) λ x6 h7 => vK (aG 0 x6) λ x8 => vK (aG 1 x6) λ x9 => vK (dA x9 (ii 0)) λ x10 => bK x10 (vK (aK 2 h7.get x1) λ x11 => wK (bQ 2 x3 x11 h7) λ x12 h13 => vK (aK 2 h13.get x3) λ x14 => some ((.tup [x14, x9]), h13)) (vK (aF 0 x1) λ x15 => vK (aI h7.get x15) λ x16 => vK (cC 5 x16 x8) λ x17 => vK (aF 2 x17) λ x18 => vK (aI h7.get x18) λ x19 => vK (bP x19 (ii 1)) λ x20 => bK x20 (vK (aK 2 h7.get x1) λ x21 => wK (bQ 2 x3 x21 h7) λ x22 h23 => vK (aK 2 h23.get x3) λ x24 => some ((.tup [x24, (ii 13)]), h23)) (vK (aF 0 x1) λ x25 => vK (aI h7.get x25) λ x26 => vK (cC 5 x26 x8) λ x27 => vK (aF 0 x27) λ x28 => vK (aI h7.get x28) λ x29 => vK (bP x29 (ii 1)) λ x30 => bK x30 (vK (aK 2 h7.get x1) λ x31 => wK (bQ 2 x3 x31 h7) λ x32 h33 => vK (aK 2 h33.get x3) λ x34 => some ((.tup [x34, (ii 1)]), h33)) (vK (aF 0 x1) λ x35 => vK (aI h7.get x35) λ x36 => vK (cC 5 x36 x8) λ x37 => vK (aF 4 x37) λ x38 => vK (aI h7.get x38) λ x39 => vK (cB x39) λ x40 => vK (eH x40 (ii 0)) λ x41 => bK x41 (vK (aK 2 h7.get x1) λ x42 => wK (bQ 2 x3 x42 h7) λ x43 h44 => vK (aK 2 h44.get x3) λ x45 => some ((.tup [x45, (ii 14)]), h44)) (vK (aF 0 x1) λ x46 => vK (aI h7.get x46) λ x47 => vK (cC 5 x47 x8) λ x48 => vK (aF 0 x48) λ x49 => vK (aI h7.get x49) λ x50 => vK (aK 2 h7.get x1) λ x51 => wK (aD E 120 [x51, r1] h7) λ x52 h53 => vK (aG 0 x52) λ x54 => vK (aG 1 x52) λ x55 => vK (aG 2 x52) λ x56 => vK (aK 2 h53.get x1) λ x57 => wK (aD E 125 [x57, x54, x55] h53) λ x58 h59 => wK (aD E 127 [x58, x50] h59) λ x60 h61 => wK (bQ 2 x3 x60 h61) λ x62 h63 => vK (aK 2 h63.get x3) λ x64 => some ((.tup [x64, (ii 0)]), h63)))))
def bHk : DC := (zs 4 [zY 2 (.box o0),zX (.alc 2 2 (.list [.nils,(.int .i64 (.ofNat 0))])),zX (.mv (zk 0))] (zs 13 [zX (.ldN 2 o2),zM 1,zF 124 [fX,iO],zT 12 15,zX (.ext 0 fL),zX (.ext 1 fL),zT 6 16,zT 7 17] (zq (.block 0 (zs 19 [zM 7,zX (.bin .neq iN (zk 0)),zT 18 20] (.cond iC (zs 21 [zX (.ldN 2 o2),zM 7,zW (.st 2 o4 gZ),zT 5 22] .ret) (zs 24 [zX (.fa 0 o2),zX (.ld iP),zM 6,zX (.iaS 5 kJ mA),zX (.fa 2 lB),zX (.ld lK),zX (.bin .eql lZ (zk 1)),zT 23 30] (.cond iB (zs 5 [zY 31 (.ldN 2 o2),zW (.st 2 o4 nH),zX (.mv (zk 13))] .ret) (zs 33 [zX (.fa 0 o2),zX (.ld mX),zM 6,zX (.iaS 5 mW qG),zX (.fa 0 mZ),zX (.ld pR),zX (.bin .eql uD (zk 1)),zT 32 39] (.cond lF (zs 5 [zY 40 (.ldN 2 o2),zW (.st 2 o4 rE),zX (.mv (zk 1))] .ret) (zs 42 [zX (.fa 0 o2),zX (.ld uN),zM 6,zX (.iaS 5 uM uJ),zX (.fa 4 o45),zX (.ld zJ),zX (.lenL o47),zX (.bin .gtr o48 (zk 0)),zT 41 49] (.cond vG (zs 5 [zY 50 (.ldN 2 o2),zW (.st 2 o4 o50),zX (.mv (zk 14))] .ret) .skip))))))))) (zs 51 [zX (.fa 0 o2),zX (.ld o51),zM 6,zX (.iaS 5 o52 o53),zX (.fa 0 o54),zX (.ld o55),zT 8 56] (zs 58 [zX (.ldN 2 o2),zM 1,zF 120 [o58,o59],zT 57 60,zX (.ext 0 o57),zX (.ext 1 o57),zX (.ext 2 o57),zT 9 61,zT 10 62,zT 11 63] (zs 64 [zX (.ldN 2 o2),zM 9,zM 10,zF 125 [o64,o65,o66],zM 8,zF 127 [o67,o68],zW (.st 2 o4 o69),zY 5 (.mv (zk 0))] .ret))))))
theorem bXI : nA E bHk R68 (aRz E) := λ σ h => by kernel_rfl
def D68 : DF := ⟨2, 70, bHk, R68⟩
def S68 : cE := nB (aRz E)
theorem bKU : SQ D68 S68 := λ E => nL (d := D68) (bXI E) rfl
def R69 : List RV := [(.cells p6 2),(.r p7)]
def aRy (r0 r1 r2 : DV) (h : H) : aU := dN r0 h λ x1 h2 => dZ 2 2 (.list [.nils, (ii 0)]) h2 λ x3 h4 => vK (aK 2 h4.get x1) λ x5 => wK (aD E 124 [x5, r1] h4) λ x6 h7 => vK (aG 0 x6) λ x8 => vK (aG 1 x6) λ x9 => vK (dA x9 (ii 0)) λ x10 => bK x10 (vK (aK 2 h7.get x1) λ x11 => wK (bQ 2 x3 x11 h7) λ x12 h13 => vK (aK 2 h13.get x3) λ x14 => some ((.tup [x14, x9]), h13)) (vK (aK 2 h7.get x1) λ x15 => wK (aD E 120 [x15, r2] h7) λ x16 h17 => vK (aG 0 x16) λ x18 => vK (aG 1 x16) λ x19 => vK (aG 2 x16) λ x20 => vK (dA x20 (ii 0)) λ x21 => bK x21 (vK (aK 2 h17.get x1) λ x22 => wK (bQ 2 x3 x22 h17) λ x23 h24 => vK (aK 2 h24.get x3) λ x25 => some ((.tup [x25, x20]), h24)) (vK (aF 0 x1) λ x26 => vK (aI h17.get x26) λ x27 => vK (cC 5 x27 x8) λ x28 => vK (aF 0 x28) λ x29 => vK (aI h17.get x29) λ x30 => vK (bP x30 (ii 1)) λ x31 => bA x31 false (λ kk => kk r1 h17) h17 λ x32 h33 => bA x31 false (λ kk => kk r2 h33) h33 λ x34 h35 => bA x31 false (λ kk => wK (aD E 128 [x32, x34] h35) kk) h35 λ x36 h37 => vK (aQ x31 (.bool true) x36) λ x38 => bK x38 (vK (aK 2 h37.get x1) λ x39 => wK (bQ 2 x3 x39 h37) λ x40 h41 => vK (aK 2 h41.get x3) λ x42 => some ((.tup [x42, (ii 1)]), h41)) (wK (aD E 129 [r1] h37) λ x43 h44 => vK (aG 0 x43) λ x45 => vK (aG 1 x43) λ x46 => wK (aD E 129 [r2] h44) λ x47 h48 => vK (aG 0 x47) λ x49 => vK (aG 1 x47) λ x50 => vK (bP x45 x49) λ x51 => bK x51 (vK (aK 2 h48.get x1) λ x52 => wK (bQ 2 x3 x52 h48) λ x53 h54 => vK (aK 2 h54.get x3) λ x55 => some ((.tup [x55, (ii 0)]), h54)) (vK (aK 2 h48.get x1) λ x56 => wK (aD E 120 [x56, r2] h48) λ x57 h58 => vK (aG 0 x57) λ x59 => vK (aG 1 x57) λ x60 => vK (aG 2 x57) λ x61 => vK (aK 2 h58.get x1) λ x62 => wK (aD E 121 [x62, x59, x19] h58) λ x63 h64 => bK x63 (vK (aK 2 h64.get x1) λ x65 => wK (bQ 2 x3 x65 h64) λ x66 h67 => vK (aK 2 h67.get x3) λ x68 => some ((.tup [x68, (ii 6)]), h67)) (vK (aK 2 h64.get x1) λ x69 => wK (aD E 120 [x69, r1] h64) λ x70 h71 => vK (aG 0 x70) λ x72 => vK (aG 1 x70) λ x73 => vK (aG 2 x70) λ x74 => vK (aK 2 h71.get x1) λ x75 => wK (aD E 125 [x75, x72, x73] h71) λ x76 h77 => wK (bQ 2 x1 x76 h77) λ x78 h79 => vK (aK 2 h79.get x1) λ x80 => wK (aD E 123 [x80, x59, x19, x30] h79) λ x81 h82 => wK (bQ 2 x3 x81 h82) λ x83 h84 => vK (aK 2 h84.get x3) λ x85 => some ((.tup [x85, (ii 0)]), h84))))))
def bHj : DC := (zs 6 [zY 3 (.box o0),zX (.alc 2 2 (.list [.nils,(.int .i64 (.ofNat 0))])),zX (.mv (zk 0))] (zs 24 [zX (.ldN 2 o3),zM 1,zF 124 [iP,kJ],zT 23 26,zX (.ext 0 iB),zX (.ext 1 iB),zT 8 27,zT 9 28] (zq (zs 29 [zM 9,zX (.bin .neq lZ (zk 0))] (.cond lY (zs 31 [zX (.ldN 2 o3),zM 9,zW (.st 2 o6 nH),zT 7 32] .ret) .skip)) (zs 34 [zX (.ldN 2 o3),zM 2,zF 120 [mW,qG],zT 33 36,zX (.ext 0 mX),zX (.ext 1 mX),zX (.ext 2 mX),zT 10 37,zT 11 38,zT 9 39] (zq (zs 40 [zM 9,zX (.bin .neq rE (zk 0))] (.cond vG (zs 42 [zX (.ldN 2 o3),zM 9,zW (.st 2 o6 uN),zT 7 43] .ret) .skip)) (zs 44 [zX (.fa 0 o3),zX (.ld uJ),zM 8,zX (.iaS 5 o45 zJ),zX (.fa 0 o47),zX (.ld o48),zT 12 49] (zq (zs 50 [zM 12,zX (.bin .eql o50 (zk 1)),zM 51,zL 52 false 1,zL 52 false 2,zD ⟨(some p55),(some (p52,false)),(.c (.f 128 [o53,o54]))⟩,zY 56 (.pick o52 (.c (.bool true)) o55)] (.cond o56 (zs 7 [zY 57 (.ldN 2 o3),zW (.st 2 o6 o57),zX (.mv (zk 1))] .ret) .skip)) (zs 59 [zM 1,zF 129 [o59],zT 58 60,zX (.ext 0 o58),zX (.ext 1 o58),zT 13 61,zT 14 62] (zs 64 [zM 2,zF 129 [o64],zT 63 65,zX (.ext 0 o63),zX (.ext 1 o63),zT 15 66,zT 16 67] (zq (zs 68 [zM 13,zM 15,zX (.bin .eql o68 o69)] (.cond o70 (zs 7 [zY 71 (.ldN 2 o3),zW (.st 2 o6 o71),zX (.mv (zk 0))] .ret) .skip)) (zs 73 [zX (.ldN 2 o3),zM 2,zF 120 [o73,o74],zT 72 75,zX (.ext 0 o72),zX (.ext 1 o72),zX (.ext 2 o72),zT 17 76,zT 18 77,zT 19 78] (zq (zs 79 [zX (.ldN 2 o3),zM 17,zM 11,zF 121 [o79,o80,o81]] (.cond o82 (zs 7 [zY 83 (.ldN 2 o3),zW (.st 2 o6 o83),zX (.mv (zk 6))] .ret) .skip)) (zs 85 [zX (.ldN 2 o3),zM 1,zF 120 [o85,o86],zT 84 87,zX (.ext 0 o84),zX (.ext 1 o84),zX (.ext 2 o84),zT 20 88,zT 21 89,zT 22 90] (zs 91 [zX (.ldN 2 o3),zM 20,zM 21,zF 125 [o91,o92,o93],zW (.st 2 o3 o94)] (zs 95 [zX (.ldN 2 o3),zM 17,zM 11,zM 12,zF 123 [o95,o96,o97,o98],zW (.st 2 o6 o99),zY 7 (.mv (zk 0))] .ret)))))))))))))))
theorem bXH : iA3 E bHj R69 (aRy E) := λ σ h => by kernel_rfl
def D69 : DF := ⟨3, 100, bHj, R69⟩
def S69 : cE := fA3 (aRy E)
theorem bKT : SQ D69 S69 := λ E => eA3 (d := D69) (bXH E) rfl
def R70 : List RV := [(.cells p6 2),(.r p7)]
def aRx (r0 r1 r2 : DV) (h : H) : aU := dN r0 h λ x1 h2 => dZ 2 2 (.list [.nils, (ii 0)]) h2 λ x3 h4 => vK (aK 2 h4.get x1) λ x5 => wK (aD E 124 [x5, r1] h4) λ x6 h7 => vK (aG 0 x6) λ x8 => vK (aG 1 x6) λ x9 => vK (dA x9 (ii 0)) λ x10 => bK x10 (vK (aK 2 h7.get x1) λ x11 => wK (bQ 2 x3 x11 h7) λ x12 h13 => vK (aK 2 h13.get x3) λ x14 => some ((.tup [x14, x9]), h13)) (vK (aK 2 h7.get x1) λ x15 => wK (aD E 120 [x15, r2] h7) λ x16 h17 => vK (aG 0 x16) λ x18 => vK (aG 1 x16) λ x19 => vK (aG 2 x16) λ x20 => vK (dA x20 (ii 0)) λ x21 => bK x21 (vK (aK 2 h17.get x1) λ x22 => wK (bQ 2 x3 x22 h17) λ x23 h24 => vK (aK 2 h24.get x3) λ x25 => some ((.tup [x25, x20]), h24)) (vK (aF 0 x1) λ x26 => vK (aI h17.get x26) λ x27 => vK (cC 5 x27 x8) λ x28 => vK (aF 2 x28) λ x29 => vK (aI h17.get x29) λ x30 => vK (bP x30 (ii 2)) λ x31 => bK x31 (vK (aK 2 h17.get x1) λ x32 => wK (bQ 2 x3 x32 h17) λ x33 h34 => vK (aK 2 h34.get x3) λ x35 => some ((.tup [x35, (ii 12)]), h34)) (vK (aK 2 h17.get x1) λ x36 => wK (aD E 121 [x36, x18, x19] h17) λ x37 h38 => bK x37 (vK (aK 2 h38.get x1) λ x39 => wK (bQ 2 x3 x39 h38) λ x40 h41 => vK (aK 2 h41.get x3) λ x42 => some ((.tup [x42, (ii 6)]), h41)) (vK (aK 2 h38.get x1) λ x43 => vK (aF 0 x1) λ x44 => vK (aI h38.get x44) λ x45 => vK (cC 5 x45 x8) λ x46 => vK (aF 0 x46) λ x47 => vK (aI h38.get x47) λ x48 => wK (aD E 126 [x43, x48] h38) λ x49 h50 => vK (mI x49 (ii 100)) λ x51 => bK x51 (vK (aK 2 h50.get x1) λ x52 => wK (bQ 2 x3 x52 h50) λ x53 h54 => vK (aK 2 h54.get x3) λ x55 => some ((.tup [x55, (ii 5)]), h54)) (vK (aK 2 h50.get x1) λ x56 => vK (aF 0 x1) λ x57 => vK (aI h50.get x57) λ x58 => vK (cC 5 x58 x8) λ x59 => vK (aF 0 x59) λ x60 => vK (aI h50.get x60) λ x61 => wK (aD E 123 [x56, x18, x19, x61] h50) λ x62 h63 => wK (bQ 2 x3 x62 h63) λ x64 h65 => vK (aK 2 h65.get x3) λ x66 => some ((.tup [x66, (ii 0)]), h65))))))
def bHi : DC := (zs 6 [zY 3 (.box o0),zX (.alc 2 2 (.list [.nils,(.int .i64 (.ofNat 0))])),zX (.mv (zk 0))] (zs 13 [zX (.ldN 2 o3),zM 1,zF 124 [fX,iO],zT 12 15,zX (.ext 0 fL),zX (.ext 1 fL),zT 8 16,zT 9 17] (zq (zs 18 [zM 9,zX (.bin .neq iC (zk 0))] (.cond iN (zs 20 [zX (.ldN 2 o3),zM 9,zW (.st 2 o6 iV),zT 7 21] .ret) .skip)) (zs 23 [zX (.ldN 2 o3),zM 2,zF 120 [iB,iP],zT 22 25,zX (.ext 0 jV),zX (.ext 1 jV),zX (.ext 2 jV),zT 10 26,zT 11 27,zT 9 28] (zq (.block 0 (zs 30 [zM 9,zX (.bin .neq lY (zk 0)),zT 29 31] (.cond lZ (zs 32 [zX (.ldN 2 o3),zM 9,zW (.st 2 o6 lF),zT 7 33] .ret) (zs 35 [zX (.fa 0 o3),zX (.ld qG),zM 8,zX (.iaS 5 mZ pR),zX (.fa 2 uD),zX (.ld rT),zX (.bin .eql rE (zk 2)),zT 34 41] (.cond mW (zs 7 [zY 42 (.ldN 2 o3),zW (.st 2 o6 uN),zX (.mv (zk 12))] .ret) (zs 44 [zX (.ldN 2 o3),zM 10,zM 11,zF 121 [uJ,o45,zJ],zT 43 47] (.cond uM (zs 7 [zY 48 (.ldN 2 o3),zW (.st 2 o6 o48),zX (.mv (zk 6))] .ret) (zq (zd 50 [yA 0 (zX (.ldN 2 o3)),yA 1 (zX (.fa 0 o3)),yA 2 (zX (.ld o51)),yA 3 (zM 8),yA 4 (zX (.iaS 5 o52 o53)),yA 5 (zX (.fa 0 o54)),yA 6 (zX (.ld o55)),yA 7 (zF 126 [o50,o56]),yA 8 (zX (.bin .geq o57 (zk 100))),yA 9 (zT 49 58)]) (.cond o49 (zs 7 [zY 59 (.ldN 2 o3),zW (.st 2 o6 o59),zX (.mv (zk 5))] .ret) .skip))))))))) (zq (zd 60 [yA 0 (zX (.ldN 2 o3)),yA 1 (zM 10),yA 2 (zM 11),yA 3 (zX (.fa 0 o3)),yA 4 (zX (.ld o63)),yA 5 (zM 8),yA 6 (zX (.iaS 5 o64 o65)),yA 7 (zX (.fa 0 o66)),yA 8 (zX (.ld o67)),yA 9 (zF 123 [o60,o61,o62,o68]),yA 10 (zW (.st 2 o6 o69)),yA 11 (zY 7 (.mv (zk 0)))]) .ret))))))
theorem bXG : iA3 E bHi R70 (aRx E) := λ σ h => by kernel_rfl
def D70 : DF := ⟨3, 70, bHi, R70⟩
def S70 : cE := fA3 (aRx E)
theorem bKS : SQ D70 S70 := λ E => eA3 (d := D70) (bXG E) rfl
def R71 : List RV := [(.cells p8 2),(.r p9)]
def aRw (r0 r1 r2 r3 : DV) (h : H) : aU := dN r0 h λ x1 h2 => dZ 2 2 (.list [.nils, (ii 0)]) h2 λ x3 h4 => vK (aK 2 h4.get x1) λ x5 => wK (aD E 130 [x5, r1] h4) λ x6 h7 => vK (aG 0 x6) λ x8 => vK (aG 1 x6) λ x9 => vK (dA x9 (ii 0)) λ x10 => bK x10 (vK (aK 2 h7.get x1) λ x11 => wK (bQ 2 x3 x11 h7) λ x12 h13 => vK (aK 2 h13.get x3) λ x14 => some ((.tup [x14, x9]), h13)) (vK (aK 2 h7.get x1) λ x15 => wK (aD E 90 [x15, x8, r2, r3] h7) λ x16 h17 => vK (aG 0 x16) λ x18 => vK (aG 1 x16) λ x19 => wK (bQ 2 x3 x18 h17) λ x20 h21 => vK (aK 2 h21.get x3) λ x22 => some ((.tup [x22, x19]), h21))
def bHh : DC := (zs 8 [zY 4 (.box o0),zX (.alc 2 2 (.list [.nils,(.int .i64 (.ofNat 0))])),zX (.mv (zk 0))] (zs 13 [zX (.ldN 2 o4),zM 1,zF 130 [fX,iO],zT 12 15,zX (.ext 0 fL),zX (.ext 1 fL),zT 10 16,zT 11 17] (zq (zs 18 [zM 11,zX (.bin .neq iC (zk 0))] (.cond iN (zs 20 [zX (.ldN 2 o4),zM 11,zW (.st 2 o8 iV),zT 9 21] .ret) .skip)) (zs 22 [zX (.ldN 2 o4),zM 10,zM 2,zM 3,zF 90 [jV,iB,iP,kJ],zX (.ext 0 mA),zX (.ext 1 mA),zW (.st 2 o8 lB),zT 9 28] .ret))))
theorem bXF : iA4 E bHh R71 (aRw E) := λ σ h => by kernel_rfl
def D71 : DF := ⟨4, 29, bHh, R71⟩
def S71 : cE := fA4 (aRw E)
theorem bKR : SQ D71 S71 := λ E => eA4 (d := D71) (bXF E) rfl
def R72 : List RV := [(.cells p6 2),(.r p7)]
def aMQ (r2 r3 r6 r8 r10 : DV) (h : H) : aU := vK (aK 2 h.get r3) λ x1 => vK (gY r10 none (some r2)) λ x2 => wK (aD E 132 [x1, r8, x2] h) λ x3 h4 => vK (aG 0 x3) λ x5 => vK (aG 1 x3) λ x6 => wK (bQ 2 r6 x5 h4) λ x7 h8 => vK (aK 2 h8.get r6) λ x9 => some ((.tup [x9, x6]), h8)
def bHf : DC := (zq (zd 45 [yA 0 (zX (.ldN 2 o3)),yA 1 (zM 8),yA 2 (zM 10),yA 3 (zM 2),yA 4 (zX (.slS o47 none (some o48))),yA 5 (zF 132 [o45,zJ,o49]),yA 6 (zX (.ext 0 o50)),yA 7 (zX (.ext 1 o50)),yA 8 (zW (.st 2 o6 o51)),yA 9 (zT 7 52)]) .ret)
def aRv (r0 r1 r2 : DV) (h : H) : aU := dN r0 h λ x1 h2 => dZ 2 2 (.list [.nils, (ii 0)]) h2 λ x3 h4 => vK (aK 2 h4.get x1) λ x5 => wK (aD E 130 [x5, r1] h4) λ x6 h7 => vK (aG 0 x6) λ x8 => vK (aG 1 x6) λ x9 => vK (dA x9 (ii 0)) λ x10 => bK x10 (vK (aK 2 h7.get x1) λ x11 => wK (bQ 2 x3 x11 h7) λ x12 h13 => vK (aK 2 h13.get x3) λ x14 => some ((.tup [x14, x9]), h13)) (vK (cJ r2 (ii 0)) λ x15 => bA x15 false (λ kk => kk r2 h7) h7 λ x16 h17 => bA x15 false (λ kk => vK (eH x16 (ii 16384)) λ v => kk v h17) h17 λ x18 h19 => vK (aQ x15 (.bool true) x18) λ x20 => bK x20 (vK (aK 2 h19.get x1) λ x21 => wK (bQ 2 x3 x21 h19) λ x22 h23 => vK (aK 2 h23.get x3) λ x24 => some ((.tup [x24, (ii 1)]), h23)) (vK (aF 0 x1) λ x25 => vK (aI h19.get x25) λ x26 => vK (cC 5 x26 x8) λ x27 => vK (aF 3 x27) λ x28 => vK (aI h19.get x28) λ x29 => vK (bZ x29) λ x30 => vK (eH r2 x30) λ x31 => bK x31 (vK (bZ x29) λ x32 => vK (fC r2 x32) λ x33 => wK (aD E 131 [x33] h19) λ x34 h35 => vK (bJ x29 x34) λ x36 => aMQ E r2 x1 x3 x8 x36 h35) (aMQ E r2 x1 x3 x8 x29 h19)))
def bHg : DC := (zs 6 [zY 3 (.box o0),zX (.alc 2 2 (.list [.nils,(.int .i64 (.ofNat 0))])),zX (.mv (zk 0))] (zs 12 [zX (.ldN 2 o3),zM 1,zF 130 [fL,fX],zT 11 14,zX (.ext 0 fZ),zX (.ext 1 fZ),zT 8 15,zT 9 16] (zq (zs 17 [zM 9,zX (.bin .neq iL (zk 0))] (.cond iC (zs 19 [zX (.ldN 2 o3),zM 9,zW (.st 2 o6 iN),zT 7 20] .ret) .skip)) (zq (zs 21 [zM 2,zX (.bin .lss gZ (zk 0)),zM 22,zL 23 false 2,zG 23 false (.bin .gtr iP (zk 16384)),zX (.pick iB (.c (.bool true)) kJ)] (.cond mA (zs 7 [zY 27 (.ldN 2 o3),zW (.st 2 o6 lB),zX (.mv (zk 1))] .ret) .skip)) (zs 28 [zX (.fa 0 o3),zX (.ld lK),zM 8,zX (.iaS 5 lZ lY),zX (.fa 3 nH),zX (.ld lF),zT 10 33] (zq (zs 34 [zM 2,zM 10,zX (.lenS qG),zX (.bin .gtr mW mZ)] (.cond pR (zr 38 [zM 10,zM 2,zM 10,zX (.lenS rE),zX (.bin .sub rT vG),zF 131 [uN],zX (.bin .add uD uM),zT 10 44]) .skip)) bHf))))))
theorem bXD : Is E bHf (bN R72) (λ σ h => aMQ E (σ p2) (σ p3) (σ p6) (σ p8) (σ p10) h) := λ σ h => by kernel_rfl
theorem bXE : iA3 E bHg R72 (aRv E) := Is.as (Is.seq (Is.seq (Is.seq (Is.seq (Is.seq (Is.seq (bXD E) (Is.leaf _)) (Is.leaf _)) (Is.leaf _)) (Is.leaf _)) (Is.leaf _)) (Is.leaf _)) λ σ h => by kernel_rfl
def D72 : DF := ⟨3, 53, bHg, R72⟩
def S72 : cE := fA3 (aRv E)
theorem bKQ : SQ D72 S72 := λ E => eA3 (d := D72) (bXE E) rfl
def R74 : List RV := []
def aRu (r0 r1 : DV) (h : H) : aU := wK (aD E 48 [(ii 65536)] h) λ x1 h2 => wK (oW E r0 [x1] h2) λ x3 h4 => wK (aD E 52 [x1] h4) λ x5 h6 => vK (aG 0 x5) λ x7 => vK (aG 1 x5) λ x8 => vK (aI h6.get r1) λ x9 => wK (cF 1 1 x9 x7 h6) λ x10 h11 => wK (bQ 1 r1 x10 h11) λ x12 h13 => some ((.tup []), h13)
def bHe : DC := (zs 6 [zF 48 [(zk 65536)],zT 3 6] (zs 7 [zM 0,zM 3,zD ⟨(some p9),none,(.c (.v o7 [o8]))⟩] (zs 11 [zM 3,zF 52 [fZ],zT 10 12,zX (.ext 0 fR),zX (.ext 1 fR),zT 4 13,zT 5 14] (zr 15 [zX (.ld o1),zM 4,zD ⟨(some p17),none,(.w (.app 1 1 iW iG))⟩,zW (.st 1 o1 iL)]))))
theorem bXC : nA E bHe R74 (aRu E) := λ σ h => by kernel_rfl
def D74 : DF := ⟨2, 18, bHe, R74⟩
def S74 : cE := nB (aRu E)
theorem bKP : SQ D74 S74 := λ E => nL (d := D74) (bXC E) rfl
def R75 : List RV := []
def aRt (r0 r1 r2 : DV) (h : H) : aU := vK (aI h.get r1) λ x1 => vK (aL x1) λ x2 => vK (aF 512 x2) λ x3 => vK (aI h.get x3) λ x4 => wK (aD E 50 [r0, x4] h) λ x5 h6 => vK (aI h6.get r2) λ x7 => wK (aD E 50 [r0, x7] h6) λ x8 h9 => some ((.tup []), h9)
def bHd : DC := (zs 4 [zM 0,zX (.ld o1),zX (.nilchk o5),zX (.fa 512 o6),zX (.ld o7),zF 50 [o4,o8]] (zr 10 [zM 0,zX (.ld o2),zF 50 [fR,fZ]]))
theorem bXB : iA3 E bHd R75 (aRt E) := λ σ h => by kernel_rfl
def D75 : DF := ⟨3, 13, bHd, R75⟩
def S75 : cE := fA3 (aRt E)
theorem bKO : SQ D75 S75 := λ E => eA3 (d := D75) (bXB E) rfl
def R76 : List RV := []
def aRs (r0 r1 r2 : DV) (h : H) : aU := vK (aI h.get r1) λ x1 => wK (aD E 50 [r0, x1] h) λ x2 h3 => vK (aF 0 r2) λ x4 => vK (aI h3.get x4) λ x5 => wK (aD E 50 [r0, x5] h3) λ x6 h7 => vK (aF 1 r2) λ x8 => vK (aI h7.get x8) λ x9 => wK (vW E [(120, 217), (141, 221)] x9 [] h7) λ x10 h11 => wK (aD E 49 [r0, x10] h11) λ x12 h13 => vK (aF 1 r2) λ x14 => vK (aI h13.get x14) λ x15 => wK (vW E [(120, 219), (141, 223)] x15 [] h13) λ x16 h17 => wK (aD E 51 [r0, x16] h17) λ x18 h19 => some ((.tup []), h19)
def bHc : DC := (zs 4 [zM 0,zX (.ld o1),zF 50 [o4,o5]] (zs 7 [zM 0,zX (.fa 0 o2),zX (.ld o8),zF 50 [o7,o9]] (zs 15 [zT 11 0,zY 12 (.fa 1 o2),zY 13 (.ld fL),zD ⟨(some p14),none,(.c (.m [(120,217),(141,221)] fX []))⟩,zF 49 [fZ,iO]] (zr 20 [zT 16 0,zY 17 (.fa 1 o2),zY 18 (.ld iL),zD ⟨(some p19),none,(.c (.m [(120,219),(141,223)] iC []))⟩,zF 51 [iG,iN]]))))
theorem bXA : iA3 E bHc R76 (aRs E) := λ σ h => by kernel_rfl
def D76 : DF := ⟨3, 21, bHc, R76⟩
def S76 : cE := fA3 (aRs E)
theorem bKN : SQ D76 S76 := λ E => eA3 (d := D76) (bXA E) rfl
def R77 : List RV := [(.r p2)]
def aXE (E : bO) (r3 : DV) (h : H) : aU := some (r3, h)
def bHa : DC := (zs 2 [zT 29 3,zM 29] .ret)
def aNf (r0 : DV) (i2 : DV → DV → H → aU) (r3 r4 : DV) (h : H) : aU := vK (cB r0) λ x1 => vK (cJ r4 x1) λ x2 => bK x2 (vK (cC 2 r0 r4) λ x3 => vK (aF 0 x3) λ x4 => vK (aI h.get x4) λ x5 => vK (cC 2 r0 r4) λ x6 => vK (aF 1 x6) λ x7 => vK (aI h.get x7) λ x8 => wK (aD E 54 [x5] h) λ x9 h10 => rK (rcK (aI h10.get x7) x8) <| wK (aD E 53 [x8] h10) λ x11 h12 => vK (bJ x9 x11) λ x13 => vK (bJ r3 x13) λ x14 => vK (bJ r4 (ii 1)) λ x15 => i2 x14 x15 h12) (aXE E r3 h)
def aHK (r0 : DV) (n : Nat) : DV → DV → H → aU := Nat.rec (motive := λ _ => DV → DV → H → aU) (λ _ _ _ => none) (λ _ i => aNf E r0 i) n
def bGZ : DC := (.loop (zq (zs 8 [zM 4,zM 0,zX (.lenL o9),zX (.bin .lss o8 fR)] (.cond fZ .skip (.exit 0))) (zq (.block 1 (zd 21 [yA 0 (zT 14 3),yA 1 (zT 15 0),yA 2 (zT 16 4),yA 3 (zY 17 (.iaS 2 iW iG)),yA 4 (zY 18 (.fa 0 iL)),yA 5 (zY 19 (.ld iC)),yA 7 (zM 0),yA 8 (zM 4),yA 9 (zX (.iaS 2 gZ jV)),yA 10 (zX (.fa 1 iB)),yA 11 (zX (.ld iP)),yB 6 (zD ⟨(some p20),none,(.c (.f 54 [iN]))⟩) [11] false,yA 12 (zF 53 [kJ]),yA 13 (zX (.bin .add iV mA)),yA 14 (zX (.bin .add iO lB)),yB 15 (zT 3 28) [] true])) (zr 12 [zM 4,zX (.bin .add fL (zk 1)),zT 4 13]))))
def aRr (r0 : DV) (h : H) : aU := vK (cB r0) λ x1 => wK (aD E 53 [x1] h) λ x2 h3 => aHK E r0 aR x2 (ii 0) h3
def bHb : DC := (zs 2 [zX (.mv (.c (.str [])))] (zs 5 [zM 0,zX (.lenL o5),zF 53 [o6],zT 3 7] (zq (zs 4 [zX (.mv (zk 0))] (.block 0 bGZ)) bHa)))
theorem bXy : Is E bHa (bN R77) (λ σ h => aXE E (σ p3) h) := λ σ h => by kernel_rfl
abbrev bWO : gW (DV × H) := (cH (λ σ h => aXE E (σ p3) h) (bN R77))
theorem bXx : Is E bGZ (bL 0 (bWO E)) (λ σ h => aHK E (σ p0) aR (σ p3) (σ p4) h) := Is.loop (λ n2 σ h => aHK E (σ p0) n2 (σ p3) (σ p4) h) (by kernel_rfl) λ n2 => Is.as (Is.leaf _) λ σ h => by kernel_rfl
theorem bXz : oQ E bHb R77 (aRr E) := Is.as (Is.seq (Is.seq (Is.seq (bXy E) (Is.seq (Is.block (bXx E)) (Is.leaf _))) (Is.leaf _)) (Is.leaf _)) λ σ h => by kernel_rfl
def D77 : DF := ⟨1, 30, bHb, R77⟩
def S77 : cE := oR (aRr E)
theorem bKM : SQ D77 S77 := λ E => oV (d := D77) (bXz E) rfl
def R78 : List RV := [(.r p2),(.r p3)]
def aXD (r4 r5 : DV) (h : H) : aU := wK (aD E 59 [r4] h) λ x1 h2 => vK (dA x1 (ii 0)) λ x3 => bA x3 false (λ kk => kk r5 h2) h2 λ x4 h5 => bA x3 false (λ kk => wK (aD E 135 [x4] h5) kk) h5 λ x6 h7 => bA x3 false (λ kk => vK (kD x6) λ v => kk v h7) h7 λ x8 h9 => vK (aQ x3 (.bool true) x8) λ x10 => bK x10 (some ((.tup [.nilp, (ii 3)]), h9)) (some ((.tup [r5, (ii 0)]), h9))
def bGX : DC := (zq (zs 48 [zM 4,zF 59 [o48],zX (.bin .neq o49 (zk 0)),zM 50,zL 51 false 5,zD ⟨(some p53),(some (p51,false)),(.c (.f 135 [o52]))⟩,zD ⟨(some p54),(some (p51,false)),(.e (.not o53))⟩,zY 55 (.pick o51 (.c (.bool true)) o54)] (.cond o55 (zs 2 [zX (.mv (.c .nilp)),zX (.mv (zk 3))] .ret) .skip)) (zs 2 [zT 56 5,zM 56,zX (.mv (zk 0))] .ret))
def bZG (r4 r5 r34 : DV) (i2 : DV → DV → H → aU) (r7 r35 : DV) (h : H) : aU := vK (cJ r35 r34) λ x1 => bK x1 (wK (aD E 134 [r5, r4, r7] h) λ x2 h3 => vK (aG 0 x2) λ x4 => vK (aG 1 x2) λ x5 => vK (kD x5) λ x6 => bK x6 (some ((.tup [.nilp, (ii 3)]), h3)) (vK (bJ r35 (ii 1)) λ x7 => i2 x4 x7 h3)) (aXD E r4 r5 h)
def aXj (r4 r5 r34 : DV) (n : Nat) : DV → DV → H → aU := Nat.rec (motive := λ _ => DV → DV → H → aU) (λ _ _ _ => none) (λ _ i => bZG E r4 r5 r34 i) n
def bGW : DC := (.loop (zs 36 [zX (.bin .lss qG mW)] (zq (.cond mZ .skip (.exit 0)) (zq (.block 1 (zs 38 [zM 5,zM 4,zM 7,zF 134 [uD,rT,rE],zT 37 41,zX (.ext 0 pR),zX (.ext 1 pR),zT 8 42,zT 9 43] (zq (zs 44 [zM 9,zX (.not uJ)] (.cond o45 (zs 2 [zX (.mv (.c .nilp)),zX (.mv (zk 3))] .ret) .skip)) (zr 7 [zT 46 8,zM 46])))) (zr 35 [zY 47 (.bin .add qG (zk 1)),zM 47])))))
def bGo (r0 : DV) (h : H) : aU := wK (aD E 55 [r0] h) λ x1 h2 => vK (eM (zR [(ii 0), .nili] 256 ++ [(ii 0), (ii 0)]) []) λ x3 => dN x3 h2 λ x4 h5 => wK (aD E 57 [x1] h5) λ x6 h7 => vK (aL x4) λ x8 => vK (aF 512 x8) λ x9 => wK (bQ 1 x9 x6 h7) λ x10 h11 => wK (aD E 57 [x1] h11) λ x12 h13 => vK (aL x4) λ x14 => vK (aF 512 x14) λ x15 => vK (aI h13.get x15) λ x16 => vK (cJ x16 (ii 0)) λ x17 => bA x17 false (λ kk => kk x12 h13) h13 λ x18 h19 => bA x17 false (λ kk => vK (cJ x18 (ii 0)) λ v => kk v h19) h19 λ x20 h21 => vK (aQ x17 (.bool true) x20) λ x22 => bA x22 false (λ kk => kk x12 h21) h21 λ x23 h24 => bA x22 false (λ kk => vK (mI x23 (ii 256)) λ v => kk v h24) h24 λ x25 h26 => vK (aQ x22 (.bool true) x25) λ x27 => bK x27 (some ((.tup [.nilp, (ii 3)]), h26)) (aXj E x1 x4 x12 aR (ii 0) (ii 0) h26)
def bGY : DC := (zs 2 [zX (.mv (.c .nilp)),zX (.mv (zk 0))] (zs 10 [zM 0,zF 55 [fR],zX (.bld (zR [(.int .i64 (.ofNat 0)),.nili] 256 ++ [(.int .i64 (.ofNat 0)),(.int .i64 (.ofNat 0))]) []),zX (.box fL),zT 4 11,zT 5 13] (zs 14 [zM 5,zM 4,zF 57 [iW],zX (.nilchk iO),zX (.fa 512 iL),zW (.st 1 iC iG)] (zs 19 [zM 4,zF 57 [iN],zT 6 20] (zq (zs 21 [zM 5,zX (.nilchk gZ),zX (.fa 512 jV),zX (.ld iB),zX (.bin .lss iP (zk 0)),zM 25,zL 26 false 6,zG 26 false (.bin .lss lB (zk 0)),zX (.pick mA (.c (.bool true)) lK),zM 29,zL 30 false 6,zG 30 false (.bin .geq nH (zk 256)),zX (.pick lY (.c (.bool true)) lF)] (.cond mX (zs 2 [zX (.mv (.c .nilp)),zX (.mv (zk 3))] .ret) .skip)) (zs 7 [zX (.mv (zk 0))] (zq (zs 34 [zM 6,zX (.mv (zk 0))] (.block 0 bGW)) bGX)))))))
theorem bXv : Is E bGX (bN R78) (λ σ h => aXD E (σ p4) (σ p5) h) := λ σ h => by kernel_rfl
abbrev bWN : gW (DV × H) := (cH (λ σ h => aXD E (σ p4) (σ p5) h) (bN R78))
theorem bXu : Is E bGW (bL 0 (bWN E)) (λ σ h => aXj E (σ p4) (σ p5) (σ p34) aR (σ p7) (σ p35) h) := Is.loop (λ n2 σ h => aXj E (σ p4) (σ p5) (σ p34) n2 (σ p7) (σ p35) h) (by kernel_rfl) λ n2 => Is.as (Is.leaf _) λ σ h => by kernel_rfl
theorem bXw : oQ E bGY R78 (bGo E) := Is.as (Is.seq (Is.seq (Is.seq (Is.seq (Is.seq (Is.seq (Is.seq (bXv E) (Is.seq (Is.block (bXu E)) (Is.leaf _))) (Is.leaf _)) (Is.leaf _)) (Is.leaf _)) (Is.leaf _)) (Is.leaf _)) (Is.leaf _)) λ σ h => by kernel_rfl
def D78 : DF := ⟨1, 57, bGY, R78⟩
def S78 : cE := oR (bGo E)
theorem bKL : SQ D78 S78 := λ E => oV (d := D78) (bXw E) rfl
def R79 : List RV := [(.r p4)]
def aXC (E : bO) (h : H) : aU := some ((.bool true), h)
def bGU : DC := (zs 4 [zX (.mv (.c (.bool true)))] .ret)
def bZF (r0 r1 : DV) (i2 : DV → H → aU) (r5 : DV) (h : H) : aU := vK (cB r0) λ x1 => vK (cJ r5 x1) λ x2 => bK x2 (vK (cC 1 r0 r5) λ x3 => vK (aI h.get x3) λ x4 => vK (cC 1 r1 r5) λ x5 => vK (aI h.get x5) λ x6 => vK (dA x4 x6) λ x7 => bK x7 (some ((.bool false), h)) (vK (bJ r5 (ii 1)) λ x8 => i2 x8 h)) (aXC E h)
def aXi (r0 r1 : DV) (n : Nat) : DV → H → aU := Nat.rec (motive := λ _ => DV → H → aU) (λ _ _ => none) (λ _ i => bZF E r0 r1 i) n
def bGT : DC := (.loop (zq (zs 11 [zM 5,zM 0,zX (.lenL fL),zX (.bin .lss fZ fX)] (.cond iO .skip (.exit 0))) (zq (.block 1 (zq (zd 17 [yA 0 (zM 0),yA 1 (zM 5),yA 2 (zX (.iaS 1 iL iC)),yA 3 (zX (.ld iN)),yA 4 (zM 1),yA 5 (zM 5),yA 6 (zX (.iaS 1 gZ jV)),yA 7 (zX (.ld iB)),yA 8 (zX (.bin .neq iV iP))]) (.cond kJ (zs 4 [zX (.mv (.c (.bool false)))] .ret) .skip))) (zr 15 [zM 5,zX (.bin .add iW (zk 1)),zT 5 16]))))
def bGn (r0 r1 : DV) (h : H) : aU := vK (cB r0) λ x1 => vK (cB r1) λ x2 => vK (dA x1 x2) λ x3 => bK x3 (some ((.bool false), h)) (aXi E r0 r1 aR (ii 0) h)
def bGV : DC := (zs 4 [zX (.mv (.c (.bool false)))] (zq (zs 6 [zM 0,zX (.lenL o6),zM 1,zX (.lenL o8),zX (.bin .neq o7 o9)] (.cond fR (zs 4 [zX (.mv (.c (.bool false)))] .ret) .skip)) (zq (zs 5 [zX (.mv (zk 0))] (.block 0 bGT)) bGU)))
theorem bXs : Is E bGU (bN R79) (λ σ h => aXC E h) := λ σ h => by kernel_rfl
abbrev bWM : gW (DV × H) := (bL 0 (cH (λ σ h => aXC E h) (bN R79)))
theorem bXr : Is E bGT (bWM E) (λ σ h => aXi E (σ p0) (σ p1) aR (σ p5) h) := Is.loop (λ n2 σ h => aXi E (σ p0) (σ p1) n2 (σ p5) h) (by kernel_rfl) λ n2 => Is.as (Is.leaf _) λ σ h => by kernel_rfl
theorem bXt : nA E bGV R79 (bGn E) := Is.as (Is.seq (Is.seq (Is.seq (bXs E) (Is.seq (Is.block (bXr E)) (Is.leaf _))) (Is.leaf _)) (Is.leaf _)) λ σ h => by kernel_rfl
def D79 : DF := ⟨2, 26, bGV, R79⟩
def S79 : cE := nB (bGn E)
theorem bKK : SQ D79 S79 := λ E => nL (d := D79) (bXt E) rfl
def R83 : List RV := [(.r p4),(.r p5)]
def aRq (r0 r1 : DV) (h : H) : aU := wK (aD E 85 [r0, r1] h) λ x1 h2 => vK (aG 0 x1) λ x3 => vK (aG 1 x1) λ x4 => vK (dA x4 (ii 0)) λ x5 => bK x5 (some ((.tup [.nilp, x4]), h2)) (wK (aD E 86 [r0, x3] h2) λ x6 h7 => vK (dS .ptr false h7.get x6 .nilp) λ x8 => bK x8 (some ((.tup [.nilp, (ii 12)]), h7)) (some ((.tup [x6, (ii 0)]), h7)))
def bGS : DC := (zs 4 [zX (.mv (.c .nilp)),zX (.mv (zk 0))] (zs 10 [zM 0,zM 1,zF 85 [fR,fZ],zT 9 12,zX (.ext 0 o9),zX (.ext 1 o9),zT 6 13,zT 7 14] (zq (zs 15 [zM 7,zX (.bin .neq iW (zk 0))] (.cond iG (zs 4 [zT 17 7,zX (.mv (.c .nilp)),zM 17] .ret) .skip)) (zs 18 [zM 0,zM 6,zF 86 [iC,iN],zT 8 20] (zq (zs 21 [zM 8,zX (.eqv .ptr false gZ (.c .nilp))] (.cond jV (zs 4 [zX (.mv (.c .nilp)),zX (.mv (zk 12))] .ret) .skip)) (zs 4 [zT 23 8,zM 23,zX (.mv (zk 0))] .ret))))))
theorem bXq : nA E bGS R83 (aRq E) := λ σ h => by kernel_rfl
def D83 : DF := ⟨2, 24, bGS, R83⟩
def S83 : cE := nB (aRq E)
theorem bKJ : SQ D83 S83 := λ E => nL (d := D83) (bXq E) rfl
def fs0 : List FD := [⟨10, D10, S10⟩, ⟨20, D20, S20⟩, ⟨21, D21, S21⟩, ⟨22, D22, S22⟩, ⟨24, D24, S24⟩, ⟨25, D25, S25⟩, ⟨28, D28, S28⟩, ⟨29, D29, S29⟩, ⟨31, D31, S31⟩, ⟨32, D32, S32⟩, ⟨33, D33, S33⟩, ⟨34, D34, S34⟩, ⟨35, D35, S35⟩, ⟨36, D36, S36⟩, ⟨37, D37, S37⟩, ⟨38, D38, S38⟩, ⟨39, D39, S39⟩, ⟨40, D40, S40⟩, ⟨41, D41, S41⟩, ⟨42, D42, S42⟩, ⟨43, D43, S43⟩, ⟨44, D44, S44⟩, ⟨45, D45, S45⟩, ⟨46, D46, S46⟩, ⟨47, D47, S47⟩, ⟨48, D48, S48⟩, ⟨49, D49, S49⟩, ⟨50, D50, S50⟩, ⟨51, D51, S51⟩, ⟨52, D52, S52⟩, ⟨53, D53, S53⟩, ⟨54, D54, S54⟩, ⟨55, D55, S55⟩, ⟨56, D56, S56⟩, ⟨57, D57, S57⟩, ⟨58, D58, S58⟩, ⟨59, D59, S59⟩, ⟨65, D65, S65⟩, ⟨66, D66, S66⟩, ⟨67, D67, S67⟩, ⟨68, D68, S68⟩, ⟨69, D69, S69⟩, ⟨70, D70, S70⟩, ⟨71, D71, S71⟩, ⟨72, D72, S72⟩, ⟨74, D74, S74⟩, ⟨75, D75, S75⟩, ⟨76, D76, S76⟩, ⟨77, D77, S77⟩, ⟨78, D78, S78⟩, ⟨79, D79, S79⟩, ⟨83, D83, S83⟩]
theorem bJQ : sR fs0 := ⟨bMb, ⟨bLH, ⟨bLG, ⟨bLF, ⟨bLE, ⟨bLD, ⟨bLC, ⟨bLB, ⟨bLA, ⟨bLz, ⟨bLy, ⟨bLx, ⟨bLw, ⟨bLv, ⟨bLu, ⟨bLt, ⟨bLs, ⟨bLr, ⟨bLq, ⟨bLp, ⟨bLo, ⟨bLn, ⟨bLm, ⟨bLl, ⟨bLk, ⟨bLj, ⟨bLi, ⟨bLh, ⟨bLg, ⟨bLf, ⟨bLe, ⟨bLd, ⟨bLc, ⟨bLb, ⟨bLa, ⟨bKZ, ⟨bKY, ⟨bKX, ⟨bKW, ⟨bKV, ⟨bKU, ⟨bKT, ⟨bKS, ⟨bKR, ⟨bKQ, ⟨bKP, ⟨bKO, ⟨bKN, ⟨bKM, ⟨bKL, ⟨bKK, ⟨bKJ, trivial⟩⟩⟩⟩⟩⟩⟩⟩⟩⟩⟩⟩⟩⟩⟩⟩⟩⟩⟩⟩⟩⟩⟩⟩⟩⟩⟩⟩⟩⟩⟩⟩⟩⟩⟩⟩⟩⟩⟩⟩⟩⟩⟩⟩⟩⟩⟩⟩⟩⟩⟩⟩
end Go.Proofs.YtmafhiogonejfaaGreatDoor
end

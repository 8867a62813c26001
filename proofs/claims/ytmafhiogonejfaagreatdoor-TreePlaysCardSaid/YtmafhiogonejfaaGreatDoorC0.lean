/- The functions of the program as D's and as plain Lean functions, and that both are the same. No condition. -/
import Derived.KernelRfl
import Derived.Test.YtmafhiogonejfaaGreatDoorDd
set_option linter.unusedVariables false
noncomputable section
namespace Go.Proofs.YtmafhiogonejfaaGreatDoor
open Go.DI
variable (E : bN)
def p0 : Pa := .h
def p1 : Pa := .l p0
def p2 : Pa := .r p0
def p3 : Pa := .l p1
def p4 : Pa := .r p1
def p5 : Pa := .l p2
def p6 : Pa := .r p2
def p7 : Pa := .l p3
def p8 : Pa := .r p3
def p9 : Pa := .l p4
def p10 : Pa := .r p4
def p11 : Pa := .l p5
def p12 : Pa := .r p5
def p13 : Pa := .l p6
def p14 : Pa := .r p6
def p15 : Pa := .l p7
def p16 : Pa := .r p7
def p17 : Pa := .l p8
def p18 : Pa := .r p8
def p19 : Pa := .l p9
def p20 : Pa := .r p9
def p21 : Pa := .l p10
def p22 : Pa := .r p10
def p23 : Pa := .l p11
def p24 : Pa := .r p11
def p25 : Pa := .l p12
def p26 : Pa := .r p12
def p27 : Pa := .l p13
def p28 : Pa := .r p13
def p29 : Pa := .l p14
def p30 : Pa := .r p14
def p31 : Pa := .l p15
def p32 : Pa := .r p15
def p33 : Pa := .l p16
def p34 : Pa := .r p16
def p35 : Pa := .l p17
def p36 : Pa := .r p17
def p37 : Pa := .l p18
def p38 : Pa := .r p18
def p39 : Pa := .l p19
def p40 : Pa := .r p19
def p41 : Pa := .l p20
def p42 : Pa := .r p20
def p43 : Pa := .l p21
def p44 : Pa := .r p21
def p45 : Pa := .l p22
def p46 : Pa := .r p22
def p47 : Pa := .l p23
def p48 : Pa := .r p23
def p49 : Pa := .l p24
def p50 : Pa := .r p24
def p51 : Pa := .l p25
def p52 : Pa := .r p25
def p53 : Pa := .l p26
def p54 : Pa := .r p26
def p55 : Pa := .l p27
def p56 : Pa := .r p27
def p57 : Pa := .l p28
def p58 : Pa := .r p28
def p59 : Pa := .l p29
def p60 : Pa := .r p29
def p61 : Pa := .l p30
def p62 : Pa := .r p30
def p63 : Pa := .l p31
def p64 : Pa := .r p31
def p65 : Pa := .l p32
def p66 : Pa := .r p32
def p67 : Pa := .l p33
def p68 : Pa := .r p33
def p69 : Pa := .l p34
def p70 : Pa := .r p34
def p71 : Pa := .l p35
def p72 : Pa := .r p35
def p73 : Pa := .l p36
def p74 : Pa := .r p36
def p75 : Pa := .l p37
def p76 : Pa := .r p37
def p77 : Pa := .l p38
def p78 : Pa := .r p38
def p79 : Pa := .l p39
def p80 : Pa := .r p39
def p81 : Pa := .l p40
def p82 : Pa := .r p40
def p83 : Pa := .l p41
def p84 : Pa := .r p41
def p85 : Pa := .l p42
def p86 : Pa := .r p42
def p87 : Pa := .l p43
def p88 : Pa := .r p43
def p89 : Pa := .l p44
def p90 : Pa := .r p44
def p91 : Pa := .l p45
def p92 : Pa := .r p45
def p93 : Pa := .l p46
def p94 : Pa := .r p46
def p95 : Pa := .l p47
def p96 : Pa := .r p47
def p97 : Pa := .l p48
def p98 : Pa := .r p48
def p99 : Pa := .l p49
def bJg : Pa := .r p49
def p101 : Pa := .l p50
def bCq : Pa := .r p50
def p103 : Pa := .l p51
def bCp : Pa := .r p51
def bJf : Pa := .l p52
def bJe : Pa := .r p52
def p107 : Pa := .l p53
def p108 : Pa := .r p53
def bCo : Pa := .l p54
def p110 : Pa := .r p54
def p111 : Pa := .l p55
def p112 : Pa := .r p55
def p113 : Pa := .l p56
def bCn : Pa := .r p56
def p115 : Pa := .l p57
def p116 : Pa := .r p57
def p117 : Pa := .l p58
def p118 : Pa := .r p58
def p119 : Pa := .l p59
def p120 : Pa := .r p59
def p121 : Pa := .l p60
def p122 : Pa := .r p60
def p123 : Pa := .l p61
def p124 : Pa := .r p61
def p125 : Pa := .l p62
def p126 : Pa := .r p62
def p127 : Pa := .l p63
def p128 : Pa := .r p63
def p129 : Pa := .l p64
def p130 : Pa := .r p64
def p131 : Pa := .l p65
def p132 : Pa := .r p65
def p133 : Pa := .l p66
def p134 : Pa := .r p66
def p135 : Pa := .l p67
def p136 : Pa := .r p67
def p137 : Pa := .l p68
def p138 : Pa := .r p68
def p139 : Pa := .l p69
def p140 : Pa := .r p69
def p141 : Pa := .l p70
def p142 : Pa := .r p70
def o0 : aU := .r p0
def o1 : aU := .r p1
def o2 : aU := .r p2
def o3 : aU := .r p3
def o4 : aU := .r p4
def o5 : aU := .r p5
def o6 : aU := .r p6
def o7 : aU := .r p7
def o8 : aU := .r p8
def o9 : aU := .r p9
def fS : aU := .r p10
def fY : aU := .r p11
def fV : aU := .r p12
def gA : aU := .r p13
def iP : aU := .r p14
def jH : aU := .r p15
def hU : aU := .r p16
def iI : aU := .r p17
def iD : aU := .r p18
def iO : aU := .r p19
def iS : aU := .r p20
def hM : aU := .r p21
def iX : aU := .r p22
def gW : aU := .r p23
def iN : aU := .r p24
def jY : aU := .r p25
def lM : aU := .r p26
def lG : aU := .r p27
def lL : aU := .r p28
def mK : aU := .r p29
def lR : aU := .r p30
def mV : aU := .r p31
def lF : aU := .r p32
def mF : aU := .r p33
def mE : aU := .r p34
def oW : aU := .r p35
def mD : aU := .r p36
def oP : aU := .r p37
def sU : aU := .r p38
def rN : aU := .r p39
def qT : aU := .r p40
def uE : aU := .r p41
def uJ : aU := .r p42
def uD : aU := .r p43
def rT : aU := .r p44
def xY : aU := .r p45
def uL : aU := .r p46
def xX : aU := .r p47
def o48 : aU := .r p48
def o49 : aU := .r p49
def o50 : aU := .r p50
def o51 : aU := .r p51
def o52 : aU := .r p52
def o53 : aU := .r p53
def o54 : aU := .r p54
def o55 : aU := .r p55
def o56 : aU := .r p56
def o57 : aU := .r p57
def o58 : aU := .r p58
def o59 : aU := .r p59
def o60 : aU := .r p60
def o61 : aU := .r p61
def o62 : aU := .r p62
def o63 : aU := .r p63
def o64 : aU := .r p64
def o65 : aU := .r p65
def o66 : aU := .r p66
def o67 : aU := .r p67
def o68 : aU := .r p68
def o69 : aU := .r p69
def o70 : aU := .r p70
def o71 : aU := .r p71
def o72 : aU := .r p72
def o73 : aU := .r p73
def o74 : aU := .r p74
def o75 : aU := .r p75
def o76 : aU := .r p76
def o77 : aU := .r p77
def o78 : aU := .r p78
def o79 : aU := .r p79
def o80 : aU := .r p80
def o81 : aU := .r p81
def o82 : aU := .r p82
def o83 : aU := .r p83
def o84 : aU := .r p84
def o85 : aU := .r p85
def o86 : aU := .r p86
def o87 : aU := .r p87
def o88 : aU := .r p88
def o89 : aU := .r p89
def o90 : aU := .r p90
def o91 : aU := .r p91
def o92 : aU := .r p92
def o93 : aU := .r p93
def o94 : aU := .r p94
def o95 : aU := .r p95
def o96 : aU := .r p96
def o97 : aU := .r p97
def o98 : aU := .r p98
def o99 : aU := .r p99
def bCH : aU := .r bJg
def o101 : aU := .r p101
def aVe : aU := .r bCq
def bJF : aU := .r p103
def bCG : aU := .r bCp
def bCF : aU := .r bJf
def bCE : aU := .r bJe
def bCD : aU := .r p107
def bJE : aU := .r p108
def bCC : aU := .r bCo
def bJD : aU := .r p110
def bCB : aU := .r p111
def o112 : aU := .r p112
def bJC : aU := .r p113
def bCA : aU := .r bCn
def bCz : aU := .r p115
def bJB : aU := .r p116
def o117 : aU := .r p117
def o118 : aU := .r p118
def o119 : aU := .r p119
def o121 : aU := .r p121
def o122 : aU := .r p122
def bJA : aU := .r p123
def o124 : aU := .r p124
def o125 : aU := .r p125
def o126 : aU := .r p126
def o127 : aU := .r p127
def o128 : aU := .r p128
def o129 : aU := .r p129
def o130 : aU := .r p130
def o131 : aU := .r p131
def o132 : aU := .r p132
def o133 : aU := .r p133
def o134 : aU := .r p134
def o135 : aU := .r p135
def o136 : aU := .r p136
def bCy : aU := .r p138
def o139 : aU := .r p139
def o140 : aU := .r p140
def o141 : aU := .r p141
def R8 : List RV := [(.r p2)]
def bFF (r3 r4 : DV) (h : H) : aV := vK (aK 2 h.get r4) λ x1 => wK (aD E 24 [r3] h) λ x2 h3 => rK (rcK (aK 2 h3.get r4) x1) <| wK (aD E 25 [x1] h3) λ x4 h5 => vK (bS x2 x4) λ x6 => bA x6 true (λ kk => wK (aD E 28 [] h5) kk) h5 λ x7 h8 => vK (aW x6 x7 (.bool false)) λ x9 => some (x9, h8)
def C8_1 : DC := (zq (zd 52 [yA 0 (zT 50 3),yA 2 (zX (.ldN 2 o4)),yB 1 (zD ⟨(some p51),none,(.c (.f 24 [o50]))⟩) [2] false,yA 3 (zF 25 [o52]),yA 4 (zX (.bin .eql o51 o53)),yA 5 (zM 54),yA 6 (zD ⟨(some p56),(some (p55,true)),(.c (.f 28 []))⟩),yA 7 (zY 57 (.pick o55 o56 (.c (.bool false)))),yA 8 (zT 2 57)]) .ret)
def bBE (r0 r3 r4 : DV) (i2 : DV → H → aV) (r5 : DV) (h : H) : aV := vK (cB r0) λ x1 => vK (cR r5 x1) λ x2 => bK x2 (vK (aK 2 h.get r4) λ x3 => vK (bZ 6 r0 r5) λ x4 => vK (aK 6 h.get x4) λ x5 => dZ 2 2 (.list [.nils, (ii 0)]) h λ x6 h7 => wK (aD E 29 [r3, x3, x5] h7) λ x8 h9 => vK (aH 0 x8) λ x10 => vK (aH 1 x8) λ x11 => wK (bR 2 x6 x10 h9) λ x12 h13 => vK (aK 2 h13.get x6) λ x14 => wK (bR 2 r4 x14 h13) λ x15 h16 => vK (kE x11) λ x17 => bA x17 false (λ kk => kk r3 h16) h16 λ x18 h19 => bA x17 false (λ kk => vK (aK 2 h19.get r4) λ v => kk v h19) h19 λ x20 h21 => bA x17 false (λ kk => kk r0 h21) h21 λ x22 h23 => bA x17 false (λ kk => kk r5 h23) h23 λ x24 h25 => bA x17 false (λ kk => vK (bZ 6 x22 x24) λ v => kk v h25) h25 λ x26 h27 => bA x17 false (λ kk => vK (aK 6 h27.get x26) λ v => kk v h27) h27 λ x28 h29 => bA x17 false (λ kk => wK (aD E 30 [x18, x20, x28] h29) kk) h29 λ x30 h31 => bA x17 false (λ kk => vK (kE x30) λ v => kk v h31) h31 λ x32 h33 => vK (aW x17 (.bool true) x32) λ x34 => bA x34 false (λ kk => kk r3 h33) h33 λ x35 h36 => bA x34 false (λ kk => vK (aK 2 h36.get r4) λ v => kk v h36) h36 λ x37 h38 => bA x34 false (λ kk => wK (aD E 31 [x35] h38) kk) h38 λ x39 h40 => rK (gB x34 false (rcK (aK 2 h40.get r4) x37)) <| bA x34 false (λ kk => wK (aD E 32 [x37] h40) kk) h40 λ x41 h42 => bA x34 false (λ kk => vK (dC x39 x41) λ v => kk v h42) h42 λ x43 h44 => vK (aW x34 (.bool true) x43) λ x45 => bK x45 (some ((.bool false), h44)) (vK (bL r5 (ii 1)) λ x46 => i2 x46 h44)) (bFF E r3 r4 h)
def aTV (r0 r3 r4 : DV) (n : Nat) : DV → H → aV := Nat.rec (motive := λ _ => DV → H → aV) (λ _ _ => none) (λ _ i => bBE E r0 r3 r4 i) n
def C8_2 : DC := (.loop (zq (zs 14 [zM 5,zM 0,zX (.lenL jH),zX (.bin .lss iP hU)] (.cond iI .skip (.exit 0))) (zq (.block 1 (zq (zd 21 [yA 0 (zM 3),yA 1 (zX (.ldN 2 o4)),yA 2 (zM 0),yA 3 (zM 5),yA 4 (zX (.iaS 6 gW iN)),yA 5 (zX (.ldN 6 jY)),yA 10 (zY 6 (.alc 2 2 (.list [.nils,(.int .i64 (.ofNat 0))]))),yA 6 (zF 29 [hM,iX,lM]),yA 7 (zT 20 27),yA 8 (zX (.ext 0 iS)),yA 9 (zX (.ext 1 iS)),yA 11 (zW (.st 2 o6 lL)),yA 12 (zT 7 29)]) (zs 30 [zX (.ldN 2 o6),zW (.st 2 o4 lR)] (zq (zd 31 [yA 0 (zM 7),yA 1 (zX (.not mV)),yA 2 (zM 32),yA 3 (zL 33 false 3),yA 4 (zG 33 false (.ldN 2 o4)),yA 5 (zL 33 false 0),yA 6 (zL 33 false 5),yA 7 (zG 33 false (.iaS 6 mD oP)),yA 8 (zG 33 false (.ldN 6 sU)),yA 9 (zD ⟨(some p40),(some (p33,false)),(.c (.f 30 [mE,oW,rN]))⟩),yA 10 (zD ⟨(some p41),(some (p33,false)),(.e (.not qT))⟩),yA 11 (zY 42 (.pick mF (.c (.bool true)) uE)),yA 12 (zT 43 42),yA 13 (zD ⟨(some p44),(some (p43,false)),(.e (.mv o3))⟩),yA 15 (zD ⟨(some p46),(some (p43,false)),(.e (.ldN 2 o4))⟩),yB 14 (zD ⟨(some p45),(some (p43,false)),(.c (.f 31 [rT]))⟩) [15] false,yA 16 (zD ⟨(some p47),(some (p43,false)),(.c (.f 32 [uL]))⟩),yA 17 (zD ⟨(some p48),(some (p43,false)),(.e (.bin .neq xY xX))⟩),yA 18 (zY 49 (.pick uD (.c (.bool true)) o48))]) (.cond o49 (zs 2 [zX (.mv (.c (.bool false)))] .ret) .skip))))) (zr 18 [zM 5,zX (.bin .add iD (zk 1)),zT 5 19]))))
def bFG (r0 : DV) (h : H) : aV := wK (aD E 20 [r0] h) λ x1 h2 => vK (bS x1 (ii 0)) λ x3 => bK x3 (wK (aD E 28 [] h2) λ x4 h5 => some (x4, h5)) (wK (aD E 21 [] h2) λ x6 h7 => wK (aD E 22 [] h7) λ x8 h9 => dZ 2 2 (.list [.nils, (ii 0)]) h9 λ x10 h11 => wK (bR 2 x10 x8 h11) λ x12 h13 => aTV E r0 x6 x10 aT (ii 0) h13)
def C8_0 : DC := (zs 2 [zX (.mv (.c (.bool false)))] (zq (zs 8 [zM 0,zF 20 [o8],zX (.bin .eql o9 (zk 0))] (.cond fS (zs 11 [zF 28 [],zT 2 11] .ret) .skip)) (zs 12 [zF 21 [],zF 22 [],zY 4 (.alc 2 2 (.list [.nils,(.int .i64 (.ofNat 0))])),zT 3 12,zW (.st 2 o4 gA)] (zq (zs 5 [zX (.mv (zk 0))] (.block 0 C8_2)) C8_1))))
theorem I8_1 : Is E C8_1 (bO R8) (λ σ h => bFF E (σ p3) (σ p4) h) := λ σ h => by kernel_rfl
abbrev K8_3 : gT (DV × H) := (cG (λ σ h => bFF E (σ p3) (σ p4) h) (bO R8))
theorem I8_2 : Is E C8_2 (bM 0 (K8_3 E)) (λ σ h => aTV E (σ p0) (σ p3) (σ p4) aT (σ p5) h) := Is.loop (λ n2 σ h => aTV E (σ p0) (σ p3) (σ p4) n2 (σ p5) h) (by kernel_rfl) λ n2 => Is.as (Is.leaf _) λ σ h => by kernel_rfl
theorem I8_0 : oA E C8_0 R8 (bFG E) := Is.as (Is.seq (Is.seq (Is.seq (Is.seq (I8_1 E) (Is.seq (Is.block (I8_2 E)) (Is.leaf _))) (Is.leaf _)) (Is.leaf _)) (Is.leaf _)) λ σ h => by kernel_rfl
def D8 : DF := ⟨1, 58, C8_0, R8⟩
def S8 : cD := oD (bFG E)
theorem bVb : SQ D8 S8 := λ E => oI (d := D8) (I8_0 E) rfl
def R20 : List RV := [(.r p2)]
def aXP (E : bN) (h : H) : aV := some ((ii 1), h)
def bII : DC := (zs 2 [zX (.mv (zk 1))] .ret)
def aNl (r0 : DV) (i2 : DV → H → aV) (r3 : DV) (h : H) : aV := vK (cB r0) λ x1 => vK (cR r3 x1) λ x2 => bK x2 (vK (bZ 6 r0 r3) λ x3 => vK (aF 3 x3) λ x4 => vK (aG h.get x4) λ x5 => vK (cA x5) λ x6 => vK (eJ x6 (ii 600)) λ x7 => bA x7 false (λ kk => kk r0 h) h λ x8 h9 => bA x7 false (λ kk => kk r3 h9) h9 λ x10 h11 => bA x7 false (λ kk => vK (bZ 6 x8 x10) λ v => kk v h11) h11 λ x12 h13 => bA x7 false (λ kk => vK (aF 4 x12) λ v => kk v h13) h13 λ x14 h15 => bA x7 false (λ kk => vK (aG h15.get x14) λ v => kk v h15) h15 λ x16 h17 => bA x7 false (λ kk => vK (cA x16) λ v => kk v h17) h17 λ x18 h19 => bA x7 false (λ kk => vK (eJ x18 (ii 600)) λ v => kk v h19) h19 λ x20 h21 => vK (aW x7 (.bool true) x20) λ x22 => bA x22 false (λ kk => kk r0 h21) h21 λ x23 h24 => bA x22 false (λ kk => kk r3 h24) h24 λ x25 h26 => bA x22 false (λ kk => vK (bZ 6 x23 x25) λ v => kk v h26) h26 λ x27 h28 => bA x22 false (λ kk => vK (aF 5 x27) λ v => kk v h28) h28 λ x29 h30 => bA x22 false (λ kk => vK (aG h30.get x29) λ v => kk v h30) h30 λ x31 h32 => bA x22 false (λ kk => vK (cA x31) λ v => kk v h32) h32 λ x33 h34 => bA x22 false (λ kk => vK (eJ x33 (ii 20000)) λ v => kk v h34) h34 λ x35 h36 => vK (aW x22 (.bool true) x35) λ x37 => bK x37 (some ((ii 0), h36)) (vK (bL r3 (ii 1)) λ x38 => i2 x38 h36)) (aXP E h)
def aHQ (r0 : DV) (n : Nat) : DV → H → aV := Nat.rec (motive := λ _ => DV → H → aV) (λ _ _ => none) (λ _ i => aNl E r0 i) n
def bIH : DC := (.loop (zq (zs 7 [zM 3,zM 0,zX (.lenL o8),zX (.bin .lss o7 o9)] (.cond fS .skip (.exit 0))) (zq (.block 1 (zs 13 [zM 0,zM 3,zX (.iaS 6 gA iP),zX (.fa 3 jH),zX (.ld hU),zX (.lenS iI),zX (.bin .gtr iD (zk 600)),zM 19,zL 20 false 0,zL 20 false 3,zG 20 false (.iaS 6 hM iX),zG 20 false (.fa 4 gW),zG 20 false (.ld iN),zG 20 false (.lenS jY),zG 20 false (.bin .gtr lM (zk 600)),zX (.pick iS (.c (.bool true)) lG),zM 28,zL 29 false 0,zL 29 false 3,zG 29 false (.iaS 6 lR mV),zG 29 false (.fa 5 lF),zG 29 false (.ld mF),zG 29 false (.lenS mE),zG 29 false (.bin .gtr oW (zk 20000)),zX (.pick mK (.c (.bool true)) mD)] (.cond oP (zs 2 [zX (.mv (zk 0))] .ret) .skip))) (zr 11 [zM 3,zX (.bin .add fY (zk 1)),zT 3 12]))))
def aSp (r0 : DV) (h : H) : aV := vK (cB r0) λ x1 => vK (eJ x1 (ii 60)) λ x2 => bK x2 (some ((ii 0), h)) (aHQ E r0 aT (ii 0) h)
def bIJ : DC := (zs 2 [zX (.mv (zk 0))] (zq (zs 4 [zM 0,zX (.lenL o4),zX (.bin .gtr o5 (zk 60))] (.cond o6 (zs 2 [zX (.mv (zk 0))] .ret) .skip)) (zq (zs 3 [zX (.mv (zk 0))] (.block 0 bIH)) bII)))
theorem bYY : Is E bII (bO R20) (λ σ h => aXP E h) := λ σ h => by kernel_rfl
abbrev bXd : gT (DV × H) := (bM 0 (cG (λ σ h => aXP E h) (bO R20)))
theorem bYX : Is E bIH (bXd E) (λ σ h => aHQ E (σ p0) aT (σ p3) h) := Is.loop (λ n2 σ h => aHQ E (σ p0) n2 (σ p3) h) (by kernel_rfl) λ n2 => Is.as (Is.leaf _) λ σ h => by kernel_rfl
theorem bYZ : oA E bIJ R20 (aSp E) := Is.as (Is.seq (Is.seq (Is.seq (bYY E) (Is.seq (Is.block (bYX E)) (Is.leaf _))) (Is.leaf _)) (Is.leaf _)) λ σ h => by kernel_rfl
def D20 : DF := ⟨1, 38, bIJ, R20⟩
def S20 : cD := oD (aSp E)
theorem bLC : SQ D20 S20 := λ E => oI (d := D20) (bYZ E) rfl
def R21 : List RV := [(.r p0)]
def bGM (h : H) : aV := vK (eC (zR [(ii 0), .nili] 256 ++ [(ii 0), (ii 0)]) []) λ x1 => dT x1 h λ x2 h3 => vK (aM x2) λ x4 => vK (aF 0 x4) λ x5 => wK (aD E 65 [] h3) λ x6 h7 => vK (eC [.nilp] [(0, 1, x6)]) λ x8 => vK (lV 256 2 x5 (ii 1)) λ x9 => vK (aF 1 x9) λ x10 => wK (bR 1 x10 (.ifc 120 x8) h7) λ x11 h12 => some (x2, h12)
def bIG : DC := (zs 0 [zX (.mv (.c .nilp))] (zs 2 [zX (.bld (zR [(.int .i64 (.ofNat 0)),.nili] 256 ++ [(.int .i64 (.ofNat 0)),(.int .i64 (.ofNat 0))]) []),zX (.box o2),zT 1 3] (zq (zd 4 [yA 0 (zM 1),yA 4 (zY 8 (.nilchk o4)),yA 5 (zY 9 (.fa 0 o8)),yA 1 (zF 65 []),yA 2 (zX (.bld [.nilp] [(0,1,o5)])),yA 3 (zX (.mkI 120 o6)),yA 6 (zY 10 (.iaA 256 2 o9 (zk 1))),yA 7 (zY 11 (.fa 1 fS)),yA 8 (zW (.st 1 fY o7))]) (zs 0 [zT 12 1,zM 12] .ret))))
theorem bYW : iA0 E bIG R21 (bGM E) := λ σ h => by kernel_rfl
def D21 : DF := ⟨0, 13, bIG, R21⟩
def S21 : cD := fA0 (bGM E)
theorem bLB : SQ D21 S21 := λ E => eA0 (d := D21) (bYW E) rfl
def R22 : List RV := [(.cells p0 2)]
def aSo (E : bN) (h : H) : aV := dZ 2 2 (.list [.nils, (ii 0)]) h λ x1 h2 => vK (eC [(ii 0), (ii 0), (ii 0), (.str []), .nils] [(0, 1, (ii 1)), (2, 1, (ii 2))]) λ x3 => gI 1 5 [(ii 0), (ii 0), (ii 0), (.str []), .nils] [(0, 5, x3)] h2 λ x4 h5 => vK (eC [.nils, (ii 0)] [(0, 1, x4)]) λ x6 => wK (bR 2 x1 x6 h5) λ x7 h8 => vK (aK 2 h8.get x1) λ x9 => some (x9, h8)
def bIF : DC := (zs 0 [zX (.alc 2 2 (.list [.nils,(.int .i64 (.ofNat 0))]))] (zs 1 [zX (.bld [(.int .i64 (.ofNat 0)),(.int .i64 (.ofNat 0)),(.int .i64 (.ofNat 0)),(.str []),.nils] [(0,1,(zk 1)),(2,1,(zk 2))]),zX (.bsl 1 5 [(.int .i64 (.ofNat 0)),(.int .i64 (.ofNat 0)),(.int .i64 (.ofNat 0)),(.str []),.nils] [(0,5,o1)]),zX (.bld [.nils,(.int .i64 (.ofNat 0))] [(0,1,o2)]),zW (.st 2 o0 o3)] .ret))
theorem bYV : iA0 E bIF R22 (aSo E) := λ σ h => by kernel_rfl
def D22 : DF := ⟨0, 4, bIF, R22⟩
def S22 : cD := fA0 (aSo E)
theorem bLA : SQ D22 S22 := λ E => eA0 (d := D22) (bYV E) rfl
def R24 : List RV := [(.r p2)]
def aSm (E : bN) (r3 : DV) (h : H) : aV := vK (aG h.get r3) λ x1 => vK (mU h.get x1) λ x2 => some (x2, h)
def bIA : DC := (zs 44 [zX (.ld o3),zX (.b2s rT),zT 2 45] .ret)
def aMS (E : bN) (i5 : DV → H → aV) (r33 : DV) (h : H) : aV := vK (bL r33 (ii 1)) λ x1 => i5 x1 h
def bIy : DC := (zr 33 [zY 43 (.bin .add mF (zk 1)),zM 43])
def aNj (r3 r4 r32 : DV) (i5 : DV → H → aV) (r33 : DV) (h : H) : aV := vK (cR r33 (ii 256)) λ x1 => bK x1 (vK (yG 256 2 true r32 r33) λ x2 => dZ 1 1 (.list [(ii 0)]) h λ x3 h4 => dZ 2 2 (.list [(ii 0), .nili]) h4 λ x5 h6 => wK (bR 1 x3 r33 h6) λ x7 h8 => wK (bR 2 x5 x2 h8) λ x9 h10 => vK (aF 1 x5) λ x11 => vK (aG h10.get x11) λ x12 => vK (dX .nilI false h10.get x12 .nili) λ x13 => bK x13 (aMS E i5 r33 h10) (wK (oQ E r4 [(.fn (.func 76) [] [x3, x5])] h10) λ x14 h15 => aMS E i5 r33 h15)) (aSm E r3 h)
def aDq (r3 r4 r32 : DV) (n : Nat) : DV → H → aV := Nat.rec (motive := λ _ => DV → H → aV) (λ _ _ => none) (λ _ i => aNj E r3 r4 r32 i) n
def bIz : DC := (.loop (zs 34 [zX (.bin .lss mF (zk 256))] (zq (.cond mE .skip (.exit 2)) (zq (.block 3 (zs 35 [zM 33,zX (.ixA 256 2 true lF mF),zY 8 (.alc 1 1 (.list [(.int .i64 (.ofNat 0))])),zY 9 (.alc 2 2 (.list [(.int .i64 (.ofNat 0)),.nili])),zW (.st 1 o8 oW),zW (.st 2 o9 mD)] (zq (zs 37 [zX (.fa 1 o9),zX (.ld oP),zX (.eqv .nilI false sU (.c .nili))] (.cond rN (.exit 3) .skip)) (zr 40 [zM 4,zX (.mkF (.func 76) [] [o8,o9]),zD ⟨(some p42),none,(.c (.v qT [uE]))⟩])))) bIy))))
def aMU (r1 r3 r4 r5 : DV) (h : H) : aV := wK (oQ E r4 [(.fn (.func 75) [] [r1, r5])] h) λ x1 h2 => vK (aG h2.get r1) λ x3 => vK (aM x3) λ x4 => vK (aF 0 x4) λ x5 => vK (aK 512 h2.get x5) λ x6 => aDq E r3 r4 x6 aT (ii 0) h2
def bID : DC := (zs 26 [zM 4,zX (.mkF (.func 75) [] [o1,o5]),zD ⟨(some p28),none,(.c (.v lM [lG]))⟩] (zq (zs 29 [zX (.ld o1),zX (.nilchk mK),zX (.fa 0 lR),zX (.ldN 512 mV),zX (.mv (zk 0))] (.block 2 bIz)) bIA))
def aMT (E : bN) (i2 : DV → H → aV) (r17 : DV) (h : H) : aV := vK (bL r17 (ii 1)) λ x1 => i2 x1 h
def bIB : DC := (zr 17 [zY 25 (.bin .add iI (zk 1)),zM 25])
def aNk (r1 r3 r4 r5 r16 : DV) (i2 : DV → H → aV) (r17 : DV) (h : H) : aV := vK (cR r17 (ii 256)) λ x1 => bK x1 (vK (yG 256 2 true r16 r17) λ x2 => dZ 2 2 (.list [(ii 0), .nili]) h λ x3 h4 => wK (bR 2 x3 x2 h4) λ x5 h6 => vK (aF 1 x3) λ x7 => vK (aG h6.get x7) λ x8 => vK (dX .nilI true h6.get x8 .nili) λ x9 => bK x9 (vK (aG h6.get r5) λ x10 => vK (bL x10 (ii 1)) λ x11 => wK (bR 1 r5 x11 h6) λ x12 h13 => aMT E i2 r17 h13) (aMT E i2 r17 h6)) (aMU E r1 r3 r4 r5 h)
def aDr (r1 r3 r4 r5 r16 : DV) (n : Nat) : DV → H → aV := Nat.rec (motive := λ _ => DV → H → aV) (λ _ _ => none) (λ _ i => aNk E r1 r3 r4 r5 r16 i) n
def bIC : DC := (.loop (zs 18 [zX (.bin .lss iI (zk 256))] (zq (.cond iD .skip (.exit 0)) (zq (.block 1 (zs 7 [zY 19 (.ixA 256 2 true hU iI),zX (.alc 2 2 (.list [(.int .i64 (.ofNat 0)),.nili])),zW (.st 2 o7 iO)] (zs 20 [zX (.fa 1 o7),zX (.ld iS),zX (.eqv .nilI true hM (.c .nili))] (.cond iX (zr 23 [zX (.ld o5),zX (.bin .add gW (zk 1)),zW (.st 1 o5 iN)]) .skip)))) bIB))))
def aSn (r0 : DV) (h : H) : aV := dT r0 h λ x1 h2 => vK (aG h2.get x1) λ x3 => vK (dX .ptr false h2.get x3 .nilp) λ x4 => bK x4 (some ((.str []), h2)) (dZ 1 1 (.list [.nils]) h2 λ x5 h6 => dZ 1 1 (.list [(ii 0)]) h6 λ x7 h8 => wK (bR 1 x7 (ii 0) h8) λ x9 h10 => vK (aG h10.get x1) λ x11 => vK (aM x11) λ x12 => vK (aF 0 x12) λ x13 => vK (aK 512 h10.get x13) λ x14 => aDr E x1 x5 (.fn (.func 74) [] [x5]) x7 x14 aT (ii 0) h10)
def bIE : DC := (zs 1 [zX (.box o0),zX (.mv (.c (.str [])))] (zq (zs 10 [zX (.ld o1),zX (.eqv .ptr false fS (.c .nilp))] (.cond fY (zs 2 [zX (.mv (.c (.str [])))] .ret) .skip)) (zs 3 [zX (.alc 1 1 (.list [.nils]))] (zs 4 [zY 12 (.mkF (.func 74) [] [o3]),zM 12] (zs 5 [zX (.alc 1 1 (.list [(.int .i64 (.ofNat 0))])),zW (.st 1 o5 (zk 0))] (zq (zs 13 [zX (.ld o1),zX (.nilchk gA),zX (.fa 0 iP),zX (.ldN 512 jH),zX (.mv (zk 0))] (.block 0 bIC)) bID))))))
theorem bYQ : Is E bIA (bO R24) (λ σ h => aSm E (σ p3) h) := λ σ h => by kernel_rfl
abbrev bGE : gT (DV × H) := (cG (λ σ h => aSm E (σ p3) h) (bO R24))
abbrev bXc (n5 : Nat) : gT (DV × H) := (cG (λ σ h => (aDq E (σ p3) (σ p4) (σ p32) n5) (σ p33) h) (bM 2 (bGE E)))
theorem bYO (n5 : Nat) : Is E bIy (bXc E n5) (λ σ h => aMS E (aDq E (σ p3) (σ p4) (σ p32) n5) (σ p33) h) := λ σ h => by kernel_rfl
theorem bYP : Is E bIz (bM 2 (bGE E)) (λ σ h => aDq E (σ p3) (σ p4) (σ p32) aT (σ p33) h) := Is.loop (λ n5 σ h => aDq E (σ p3) (σ p4) (σ p32) n5 (σ p33) h) (by kernel_rfl) λ n5 => Is.as (Is.seq (Is.seq (Is.seq (bYO E n5) (Is.leaf _)) (Is.leaf _)) (Is.leaf _)) λ σ h => by kernel_rfl
theorem bYT : Is E bID (bO R24) (λ σ h => aMU E (σ p1) (σ p3) (σ p4) (σ p5) h) := Is.as (Is.seq (Is.seq (bYQ E) (Is.seq (Is.block (bYP E)) (Is.leaf _))) (Is.leaf _)) λ σ h => by kernel_rfl
abbrev bGD : gT (DV × H) := (cG (λ σ h => aMU E (σ p1) (σ p3) (σ p4) (σ p5) h) (bO R24))
abbrev bMa (n2 : Nat) : gT (DV × H) := (cG (λ σ h => (aDr E (σ p1) (σ p3) (σ p4) (σ p5) (σ p16) n2) (σ p17) h) (bM 0 (bGD E)))
theorem bYR (n2 : Nat) : Is E bIB (bMa E n2) (λ σ h => aMT E (aDr E (σ p1) (σ p3) (σ p4) (σ p5) (σ p16) n2) (σ p17) h) := λ σ h => by kernel_rfl
theorem bYS : Is E bIC (bM 0 (bGD E)) (λ σ h => aDr E (σ p1) (σ p3) (σ p4) (σ p5) (σ p16) aT (σ p17) h) := Is.loop (λ n2 σ h => aDr E (σ p1) (σ p3) (σ p4) (σ p5) (σ p16) n2 (σ p17) h) (by kernel_rfl) λ n2 => Is.as (Is.seq (Is.seq (Is.seq (bYR E n2) (Is.leaf _)) (Is.leaf _)) (Is.leaf _)) λ σ h => by kernel_rfl
theorem bYU : oA E bIE R24 (aSn E) := Is.as (Is.seq (Is.seq (Is.seq (Is.seq (Is.seq (Is.seq (bYT E) (Is.seq (Is.block (bYS E)) (Is.leaf _))) (Is.leaf _)) (Is.leaf _)) (Is.leaf _)) (Is.leaf _)) (Is.leaf _)) λ σ h => by kernel_rfl
def D24 : DF := ⟨1, 46, bIE, R24⟩
def S24 : cD := oD (aSn E)
theorem bLz : SQ D24 S24 := λ E => oI (d := D24) (bYU E) rfl
def R25 : List RV := [(.r p2)]
def aXN (E : bN) (r3 : DV) (h : H) : aV := some (r3, h)
def bIw : DC := (zs 2 [zT 55 3,zM 55] .ret)
def aMR (E : bN) (i2 : DV → DV → H → aV) (r3 r4 : DV) (h : H) : aV := vK (bL r4 (ii 1)) λ x1 => i2 r3 x1 h
def bIu : DC := (zr 19 [zM 4,zX (.bin .add iO (zk 1)),zT 4 20])
def aNi (r1 : DV) (i2 : DV → DV → H → aV) (r3 r4 : DV) (h : H) : aV := vK (aF 0 r1) λ x1 => vK (aG h.get x1) λ x2 => vK (cB x2) λ x3 => vK (cR r4 x3) λ x4 => bK x4 (vK (aF 0 r1) λ x5 => vK (aG h.get x5) λ x6 => vK (bZ 5 x6 r4) λ x7 => vK (aK 5 h.get x7) λ x8 => dZ 5 5 (.list [(ii 0), (ii 0), (ii 0), (.str []), .nils]) h λ x9 h10 => wK (bR 5 x9 x8 h10) λ x11 h12 => vK (aF 0 x9) λ x13 => vK (aG h12.get x13) λ x14 => vK (aF 1 x9) λ x15 => vK (aG h12.get x15) λ x16 => vK (aF 2 x9) λ x17 => vK (aG h12.get x17) λ x18 => vK (fE .u8 x18) λ x19 => gI 1 1 [(.int .u8 (.ofNat 0))] [(0, 1, x19)] h12 λ x20 h21 => vK (mU h21.get x20) λ x22 => wK (aD E 53 [x14] h21) λ x23 h24 => rK (rcK (mU h24.get x20) x22) <| rK (rcK (aG h24.get x17) x18) <| rK (rcK (aG h24.get x15) x16) <| wK (aD E 53 [x16] h24) λ x25 h26 => rK (rcK (mU h26.get x20) x22) <| rK (rcK (aG h26.get x17) x18) <| vK (bL x23 x25) λ x27 => vK (bL x27 x22) λ x28 => vK (bL r3 x28) λ x29 => vK (aF 2 x9) λ x30 => vK (aG h26.get x30) λ x31 => vK (bS x31 (ii 1)) λ x32 => bK x32 (vK (aF 3 x9) λ x33 => vK (aG h26.get x33) λ x34 => wK (aD E 54 [x34] h26) λ x35 h36 => vK (bL x29 x35) λ x37 => aMR E i2 x37 r4 h36) (vK (aF 4 x9) λ x38 => vK (aG h26.get x38) λ x39 => wK (aD E 77 [x39] h26) λ x40 h41 => wK (aD E 54 [x40] h41) λ x42 h43 => vK (bL x29 x42) λ x44 => aMR E i2 x44 r4 h43)) (aXN E r3 h)
def aBj (r1 : DV) (n : Nat) : DV → DV → H → aV := Nat.rec (motive := λ _ => DV → DV → H → aV) (λ _ _ _ => none) (λ _ i => aNi E r1 i) n
def bIv : DC := (.loop (zq (zs 14 [zM 4,zX (.fa 0 o1),zX (.ld jH),zX (.lenL hU),zX (.bin .lss iP iI)] (.cond iD .skip (.exit 0))) (zq (.block 1 (zs 21 [zX (.fa 0 o1),zX (.ld hM),zM 4,zX (.iaS 5 iX gW),zX (.ldN 5 iN),zY 5 (.alc 5 5 (.list [(.int .i64 (.ofNat 0)),(.int .i64 (.ofNat 0)),(.int .i64 (.ofNat 0)),(.str []),.nils])),zW (.st 5 o5 jY)] (zq (zd 26 [yA 0 (zM 3),yA 1 (zX (.fa 0 o5)),yA 2 (zX (.ld lG)),yA 4 (zY 30 (.fa 1 o5)),yA 5 (zY 31 (.ld lR)),yA 8 (zY 34 (.fa 2 o5)),yA 9 (zY 35 (.ld mE)),yA 10 (zY 36 (.conv .u8 oW)),yA 11 (zY 37 (.bsl 1 1 [(.int .u8 (.ofNat 0))] [(0,1,mD)])),yA 12 (zY 38 (.b2s oP)),yB 3 (zF 53 [lL]) [12,9,5] false,yB 6 (zD ⟨(some p32),none,(.c (.f 53 [mV]))⟩) [12,9] false,yA 7 (zY 33 (.bin .add mK lF)),yA 13 (zY 39 (.bin .add mF sU)),yA 14 (zY 40 (.bin .add lM rN)),yB 15 (zT 3 40) [] true]) (zs 41 [zX (.fa 2 o5),zX (.ld uE),zX (.bin .eql uJ (zk 1))] (.cond uD (zr 44 [zM 3,zX (.fa 3 o5),zX (.ld xY),zF 54 [uL],zX (.bin .add rT xX),zT 3 48]) (zr 49 [zM 3,zX (.fa 4 o5),zX (.ld o50),zF 77 [o51],zF 54 [o52],zX (.bin .add o49 o53),zT 3 54])))))) bIu)))
def aSl (r0 : DV) (h : H) : aV := dT r0 h λ x1 h2 => vK (aF 1 x1) λ x3 => vK (aG h2.get x3) λ x4 => vK (aF 0 x1) λ x5 => vK (aG h2.get x5) λ x6 => vK (cB x6) λ x7 => wK (aD E 53 [x4] h2) λ x8 h9 => rK (rcK (aG h9.get x5) x6) <| wK (aD E 53 [x7] h9) λ x10 h11 => vK (bL x8 x10) λ x12 => aBj E x1 aT x12 (ii 0) h11
def bIx : DC := (zs 1 [zX (.box o0),zX (.mv (.c (.str [])))] (zq (zd 9 [yA 0 (zY 6 (.fa 1 o1)),yA 1 (zY 7 (.ld o6)),yA 3 (zX (.fa 0 o1)),yA 4 (zX (.ld o9)),yA 5 (zX (.lenL fS)),yB 2 (zD ⟨(some p8),none,(.c (.f 53 [o7]))⟩) [4] false,yA 6 (zF 53 [fY]),yA 7 (zX (.bin .add o8 fV)),yA 8 (zT 3 13)]) (zq (zs 4 [zX (.mv (zk 0))] (.block 0 bIv)) bIw)))
theorem bYM : Is E bIw (bO R25) (λ σ h => aXN E (σ p3) h) := λ σ h => by kernel_rfl
abbrev bGC : gT (DV × H) := (cG (λ σ h => aXN E (σ p3) h) (bO R25))
abbrev bXb (n2 : Nat) : gT (DV × H) := (cG (λ σ h => (aBj E (σ p1) n2) (σ p3) (σ p4) h) (bM 0 (bGC E)))
theorem bYK (n2 : Nat) : Is E bIu (bXb E n2) (λ σ h => aMR E (aBj E (σ p1) n2) (σ p3) (σ p4) h) := λ σ h => by kernel_rfl
theorem bYL : Is E bIv (bM 0 (bGC E)) (λ σ h => aBj E (σ p1) aT (σ p3) (σ p4) h) := Is.loop (λ n2 σ h => aBj E (σ p1) n2 (σ p3) (σ p4) h) (by kernel_rfl) λ n2 => Is.as (Is.seq (Is.seq (bYK E n2) (Is.leaf _)) (Is.leaf _)) λ σ h => by kernel_rfl
theorem bYN : oA E bIx R25 (aSl E) := Is.as (Is.seq (Is.seq (Is.seq (bYM E) (Is.seq (Is.block (bYL E)) (Is.leaf _))) (Is.leaf _)) (Is.leaf _)) λ σ h => by kernel_rfl
def D25 : DF := ⟨1, 56, bIx, R25⟩
def S25 : cD := oD (aSl E)
theorem bLy : SQ D25 S25 := λ E => oI (d := D25) (bYN E) rfl
def R28 : List RV := [(.r p0)]
def bGL (h : H) : aV := wK (aD E 21 [] h) λ x1 h2 => vK (dX .ptr false h2.get x1 .nilp) λ x3 => bK x3 (some ((.bool false), h2)) (wK (aD E 40 [x1, (.str [47, 97])] h2) λ x4 h5 => wK (aD E 41 [x1, (.str [47, 97, 47, 98])] h5) λ x6 h7 => wK (aD E 43 [x1, (.str [47, 97])] h7) λ x8 h9 => wK (aD E 46 [x1, (.str [47, 97, 47, 98]), (ii 2), (.str [120, 121])] h9) λ x10 h11 => wK (aD E 33 [x1, (.str [47, 97, 47, 98]), (ii 1), (ii 9)] h11) λ x12 h13 => vK (aH 0 x12) λ x14 => vK (aH 1 x12) λ x15 => wK (aD E 44 [x1, (.str [47, 97, 47, 98]), (.str [47, 99])] h13) λ x16 h17 => wK (aD E 44 [x1, (.str [47, 97]), (.str [47, 97, 47, 100])] h17) λ x18 h19 => wK (aD E 34 [x1, (.str [47, 99])] h19) λ x20 h21 => vK (aH 0 x20) λ x22 => vK (aH 1 x20) λ x23 => dZ 5 5 (.list [(ii 0), (ii 0), (ii 0), (ii 0), (ii 0)]) h21 λ x24 h25 => wK (bR 5 x24 x22 h25) λ x26 h27 => wK (aD E 35 [x1, (.str [47])] h27) λ x28 h29 => vK (aH 0 x28) λ x30 => vK (aH 1 x28) λ x31 => wK (aD E 24 [x1] h29) λ x32 h33 => wK (aD E 78 [x32] h33) λ x34 h35 => vK (aH 0 x34) λ x36 => vK (aH 1 x34) λ x37 => vK (bS x4 (ii 0)) λ x38 => bA x38 true (λ kk => kk x6 h35) h35 λ x39 h40 => bA x38 true (λ kk => vK (bS x39 (ii 0)) λ v => kk v h40) h40 λ x41 h42 => vK (aW x38 x41 (.bool false)) λ x43 => bA x43 true (λ kk => kk x8 h42) h42 λ x44 h45 => bA x43 true (λ kk => vK (bS x44 (ii 14)) λ v => kk v h45) h45 λ x46 h47 => vK (aW x43 x46 (.bool false)) λ x48 => bA x48 true (λ kk => kk x10 h47) h47 λ x49 h50 => bA x48 true (λ kk => vK (bS x49 (ii 0)) λ v => kk v h50) h50 λ x51 h52 => vK (aW x48 x51 (.bool false)) λ x53 => bA x53 true (λ kk => kk x14 h52) h52 λ x54 h55 => bA x53 true (λ kk => vK (bS x54 (.str [0, 120, 121])) λ v => kk v h55) h55 λ x56 h57 => vK (aW x53 x56 (.bool false)) λ x58 => bA x58 true (λ kk => kk x15 h57) h57 λ x59 h60 => bA x58 true (λ kk => vK (bS x59 (ii 0)) λ v => kk v h60) h60 λ x61 h62 => vK (aW x58 x61 (.bool false)) λ x63 => bA x63 true (λ kk => kk x16 h62) h62 λ x64 h65 => bA x63 true (λ kk => vK (bS x64 (ii 0)) λ v => kk v h65) h65 λ x66 h67 => vK (aW x63 x66 (.bool false)) λ x68 => bA x68 true (λ kk => kk x18 h67) h67 λ x69 h70 => bA x68 true (λ kk => vK (bS x69 (ii 1)) λ v => kk v h70) h70 λ x71 h72 => vK (aW x68 x71 (.bool false)) λ x73 => bA x73 true (λ kk => vK (aK 5 h72.get x24) λ v => kk v h72) h72 λ x74 h75 => bA x73 true (λ kk => vK (eC [(ii 0), (ii 0), (ii 0), (ii 0), (ii 0)] [(0, 1, (ii 3)), (1, 1, (ii 2)), (2, 1, (ii 1)), (3, 1, (ii 4)), (4, 1, (ii 1))]) λ v => kk v h75) h75 λ x76 h77 => bA x73 true (λ kk => vK (aAp false (.leaf .int 0 (.leaf .int 1 (.leaf .int 2 (.leaf .int 3 (.leaf .int 4 .nil))))) h77.get x74 x76) λ v => kk v h77) h77 λ x78 h79 => vK (aW x73 x78 (.bool false)) λ x80 => bA x80 true (λ kk => kk x23 h79) h79 λ x81 h82 => bA x80 true (λ kk => vK (bS x81 (ii 0)) λ v => kk v h82) h82 λ x83 h84 => vK (aW x80 x83 (.bool false)) λ x85 => bA x85 true (λ kk => kk x30 h84) h84 λ x86 h87 => bA x85 true (λ kk => gI 2 1 [(.str [])] [(0, 1, (.str [97])), (1, 1, (.str [99]))] h87 kk) h87 λ x88 h89 => bA x85 true (λ kk => wK (aD E 79 [x86, x88] h89) kk) h89 λ x90 h91 => vK (aW x85 x90 (.bool false)) λ x92 => bA x92 true (λ kk => kk x31 h91) h91 λ x93 h94 => bA x92 true (λ kk => vK (bS x93 (ii 0)) λ v => kk v h94) h94 λ x95 h96 => vK (aW x92 x95 (.bool false)) λ x97 => bA x97 true (λ kk => kk x37 h96) h96 λ x98 h99 => bA x97 true (λ kk => vK (bS x98 (ii 0)) λ v => kk v h99) h99 λ x100 h101 => vK (aW x97 x100 (.bool false)) λ x102 => bA x102 true (λ kk => kk x36 h101) h101 λ x103 h104 => bA x102 true (λ kk => wK (aD E 31 [x103] h104) kk) h104 λ x105 h106 => bA x102 true (λ kk => vK (bS x105 (ii 4)) λ v => kk v h106) h106 λ x107 h108 => vK (aW x102 x107 (.bool false)) λ x109 => bA x109 true (λ kk => kk x1 h108) h108 λ x110 h111 => bA x109 true (λ kk => wK (aD E 42 [x110, (.str [47, 97])] h111) kk) h111 λ x112 h113 => bA x109 true (λ kk => vK (bS x112 (ii 12)) λ v => kk v h113) h113 λ x114 h115 => vK (aW x109 x114 (.bool false)) λ x116 => bA x116 true (λ kk => kk x1 h115) h115 λ x117 h118 => bA x116 true (λ kk => wK (aD E 43 [x117, (.str [47, 97])] h118) kk) h118 λ x119 h120 => bA x116 true (λ kk => vK (bS x119 (ii 0)) λ v => kk v h120) h120 λ x121 h122 => vK (aW x116 x121 (.bool false)) λ x123 => some (x123, h122))
def bIt : DC := (zs 0 [zX (.mv (.c (.bool false)))] (zs 16 [zF 21 [],zT 1 16] (zq (zs 17 [zM 1,zX (.eqv .ptr false iI (.c .nilp))] (.cond iD (zs 0 [zX (.mv (.c (.bool false)))] .ret) .skip)) (zs 19 [zM 1,zF 40 [iO,(.c (.str [47,97]))],zM 1,zF 41 [hM,(.c (.str [47,97,47,98]))],zM 1,zF 43 [gW,(.c (.str [47,97]))],zT 2 20,zT 3 22,zT 4 24] (zs 25 [zM 1,zF 46 [jY,(.c (.str [47,97,47,98])),(zk 2),(.c (.str [120,121]))],zT 5 26] (zs 28 [zM 1,zF 33 [lL,(.c (.str [47,97,47,98])),(zk 1),(zk 9)],zT 27 29,zX (.ext 0 lG),zX (.ext 1 lG),zT 6 30,zT 7 31] (zs 32 [zM 1,zF 44 [lF,(.c (.str [47,97,47,98])),(.c (.str [47,99]))],zT 8 33] (zs 34 [zM 1,zF 44 [mE,(.c (.str [47,97])),(.c (.str [47,97,47,100]))],zT 9 35] (zs 37 [zM 1,zF 34 [oP,(.c (.str [47,99]))],zT 36 38,zX (.ext 0 mD),zX (.ext 1 mD),zY 10 (.alc 5 5 (.list [(.int .i64 (.ofNat 0)),(.int .i64 (.ofNat 0)),(.int .i64 (.ofNat 0)),(.int .i64 (.ofNat 0)),(.int .i64 (.ofNat 0))])),zW (.st 5 fS rN),zT 11 40] (zs 42 [zM 1,zF 35 [uJ,(.c (.str [47]))],zT 41 43,zX (.ext 0 uE),zX (.ext 1 uE),zT 12 44,zT 13 45] (zs 47 [zM 1,zF 24 [xX],zF 78 [o48],zT 46 49,zX (.ext 0 uL),zX (.ext 1 uL),zT 14 50,zT 15 51] (zs 52 [zM 2,zX (.bin .eql o52 (zk 0)),zM 53,zL 54 true 3,zG 54 true (.bin .eql o55 (zk 0)),zX (.pick o54 o56 (.c (.bool false))),zM 57,zL 58 true 4,zG 58 true (.bin .eql o59 (zk 14)),zX (.pick o58 o60 (.c (.bool false))),zM 61,zL 62 true 5,zG 62 true (.bin .eql o63 (zk 0)),zX (.pick o62 o64 (.c (.bool false))),zM 65,zL 66 true 6,zG 66 true (.bin .eql o67 (.c (.str [0,120,121]))),zX (.pick o66 o68 (.c (.bool false))),zM 69,zL 70 true 7,zG 70 true (.bin .eql o71 (zk 0)),zX (.pick o70 o72 (.c (.bool false))),zM 73,zL 74 true 8,zG 74 true (.bin .eql o75 (zk 0)),zX (.pick o74 o76 (.c (.bool false))),zM 77,zL 78 true 9,zG 78 true (.bin .eql o79 (zk 1)),zX (.pick o78 o80 (.c (.bool false))),zM 81,zG 82 true (.ldN 5 fS),zG 82 true (.bld [(.int .i64 (.ofNat 0)),(.int .i64 (.ofNat 0)),(.int .i64 (.ofNat 0)),(.int .i64 (.ofNat 0)),(.int .i64 (.ofNat 0))] [(0,1,(zk 3)),(1,1,(zk 2)),(2,1,(zk 1)),(3,1,(zk 4)),(4,1,(zk 1))]),zG 82 true (.eqs false (.leaf .int 0 (.leaf .int 1 (.leaf .int 2 (.leaf .int 3 (.leaf .int 4 .nil))))) o83 o84),zX (.pick o82 o85 (.c (.bool false))),zM 86,zL 87 true 11,zG 87 true (.bin .eql o88 (zk 0)),zX (.pick o87 o89 (.c (.bool false))),zM 90,zL 91 true 12,zG 91 true (.bsl 2 1 [(.str [])] [(0,1,(.c (.str [97]))),(1,1,(.c (.str [99])))]),zD ⟨(some p94),(some (p91,true)),(.c (.f 79 [o92,o93]))⟩,zY 95 (.pick o91 o94 (.c (.bool false))),zT 96 95,zD ⟨(some p97),(some (p96,true)),(.e (.mv gA))⟩,zD ⟨(some p98),(some (p96,true)),(.e (.bin .eql o97 (zk 0)))⟩,zY 99 (.pick o96 o98 (.c (.bool false))),zT 100 99,zD ⟨(some p101),(some (bJg,true)),(.e (.mv jH))⟩,zD ⟨(some bCq),(some (bJg,true)),(.e (.bin .eql o101 (zk 0)))⟩,zY 103 (.pick bCH aVe (.c (.bool false))),zT 104 103,zD ⟨(some bJf),(some (bCp,true)),(.e (.mv iP))⟩,zD ⟨(some bJe),(some (bCp,true)),(.c (.f 31 [bCF]))⟩,zD ⟨(some p107),(some (bCp,true)),(.e (.bin .eql bCE (zk 4)))⟩,zY 108 (.pick bCG bCD (.c (.bool false))),zT 109 108,zD ⟨(some p110),(some (bCo,true)),(.e (.mv o1))⟩,zD ⟨(some p111),(some (bCo,true)),(.c (.f 42 [bJD,(.c (.str [47,97]))]))⟩,zD ⟨(some p112),(some (bCo,true)),(.e (.bin .eql bCB (zk 12)))⟩,zY 113 (.pick bCC o112 (.c (.bool false))),zT 114 113,zD ⟨(some p115),(some (bCn,true)),(.e (.mv o1))⟩,zD ⟨(some p116),(some (bCn,true)),(.c (.f 43 [bCz,(.c (.str [47,97]))]))⟩,zD ⟨(some p117),(some (bCn,true)),(.e (.bin .eql bJB (zk 0)))⟩,zY 118 (.pick bCA o117 (.c (.bool false))),zT 0 118] .ret))))))))))))
theorem bYJ : iA0 E bIt R28 (bGL E) := λ σ h => by kernel_rfl
def D28 : DF := ⟨0, 119, bIt, R28⟩
def S28 : cD := fA0 (bGL E)
theorem bLx : SQ D28 S28 := λ E => eA0 (d := D28) (bYJ E) rfl
def R29 : List RV := [(.cells p6 2),(.r p7)]
def sN (E : bN) (r6 r8 r9 r10 : DV) (h : H) : aV := vK (aK 2 h.get r8) λ x1 => vK (bS r10 r9) λ x2 => wK (bR 2 r6 x1 h) λ x3 h4 => vK (aK 2 h4.get r6) λ x5 => some ((.tup [x5, x2]), h4)
def bIr : DC := (zs 138 [zX (.ldN 2 o8),zM 10,zM 9,zX (.bin .eql o139 o140),zW (.st 2 o6 bCy),zT 7 141] .ret)
def aSk (r0 r1 r2 : DV) (h : H) : aV := dT r1 h λ x1 h2 => dT r2 h2 λ x3 h4 => dZ 2 2 (.list [.nils, (ii 0)]) h4 λ x5 h6 => vK (aK 2 h6.get x1) λ x7 => dZ 2 2 (.list [.nils, (ii 0)]) h6 λ x8 h9 => wK (bR 2 x8 x7 h9) λ x10 h11 => vK (aF 0 x3) λ x12 => vK (aG h11.get x12) λ x13 => vK (bS x13 (ii 1)) λ x14 => bK x14 (vK (aK 2 h11.get x1) λ x15 => vK (aF 3 x3) λ x16 => vK (aG h11.get x16) λ x17 => wK (aD E 66 [x15, x17, (ii 2)] h11) λ x18 h19 => vK (aH 0 x18) λ x20 => vK (aH 1 x18) λ x21 => wK (bR 2 x8 x20 h19) λ x22 h23 => vK (aF 3 x3) λ x24 => vK (aG h23.get x24) λ x25 => wK (aD E 40 [r0, x25] h23) λ x26 h27 => sN E x5 x8 x21 x26 h27) (vK (bS x13 (ii 2)) λ x28 => bK x28 (vK (aK 2 h11.get x1) λ x29 => vK (aF 3 x3) λ x30 => vK (aG h11.get x30) λ x31 => wK (aD E 66 [x29, x31, (ii 1)] h11) λ x32 h33 => vK (aH 0 x32) λ x34 => vK (aH 1 x32) λ x35 => wK (bR 2 x8 x34 h33) λ x36 h37 => vK (aF 3 x3) λ x38 => vK (aG h37.get x38) λ x39 => wK (aD E 41 [r0, x39] h37) λ x40 h41 => sN E x5 x8 x35 x40 h41) (vK (bS x13 (ii 3)) λ x42 => bK x42 (vK (aK 2 h11.get x1) λ x43 => vK (aF 3 x3) λ x44 => vK (aG h11.get x44) λ x45 => wK (aD E 67 [x43, x45] h11) λ x46 h47 => vK (aH 0 x46) λ x48 => vK (aH 1 x46) λ x49 => wK (bR 2 x8 x48 h47) λ x50 h51 => vK (aF 3 x3) λ x52 => vK (aG h51.get x52) λ x53 => wK (aD E 42 [r0, x53] h51) λ x54 h55 => sN E x5 x8 x49 x54 h55) (vK (bS x13 (ii 4)) λ x56 => bK x56 (vK (aK 2 h11.get x1) λ x57 => vK (aF 3 x3) λ x58 => vK (aG h11.get x58) λ x59 => wK (aD E 68 [x57, x59] h11) λ x60 h61 => vK (aH 0 x60) λ x62 => vK (aH 1 x60) λ x63 => wK (bR 2 x8 x62 h61) λ x64 h65 => vK (aF 3 x3) λ x66 => vK (aG h65.get x66) λ x67 => wK (aD E 43 [r0, x67] h65) λ x68 h69 => sN E x5 x8 x63 x68 h69) (vK (bS x13 (ii 5)) λ x70 => bK x70 (vK (aK 2 h11.get x1) λ x71 => vK (aF 3 x3) λ x72 => vK (aG h11.get x72) λ x73 => vK (aF 4 x3) λ x74 => vK (aG h11.get x74) λ x75 => wK (aD E 69 [x71, x73, x75] h11) λ x76 h77 => vK (aH 0 x76) λ x78 => vK (aH 1 x76) λ x79 => wK (bR 2 x8 x78 h77) λ x80 h81 => vK (aF 3 x3) λ x82 => vK (aG h81.get x82) λ x83 => vK (aF 4 x3) λ x84 => vK (aG h81.get x84) λ x85 => wK (aD E 44 [r0, x83, x85] h81) λ x86 h87 => sN E x5 x8 x79 x86 h87) (vK (bS x13 (ii 6)) λ x88 => bK x88 (vK (aK 2 h11.get x1) λ x89 => vK (aF 3 x3) λ x90 => vK (aG h11.get x90) λ x91 => vK (aF 4 x3) λ x92 => vK (aG h11.get x92) λ x93 => wK (aD E 70 [x89, x91, x93] h11) λ x94 h95 => vK (aH 0 x94) λ x96 => vK (aH 1 x94) λ x97 => wK (bR 2 x8 x96 h95) λ x98 h99 => vK (aF 3 x3) λ x100 => vK (aG h99.get x100) λ x101 => vK (aF 4 x3) λ x102 => vK (aG h99.get x102) λ x103 => wK (aD E 45 [r0, x101, x103] h99) λ x104 h105 => sN E x5 x8 x97 x104 h105) (vK (bS x13 (ii 7)) λ x106 => bK x106 (vK (aK 2 h11.get x1) λ x107 => vK (aF 3 x3) λ x108 => vK (aG h11.get x108) λ x109 => vK (aF 1 x3) λ x110 => vK (aG h11.get x110) λ x111 => vK (aF 5 x3) λ x112 => vK (aG h11.get x112) λ x113 => wK (aD E 71 [x107, x109, x111, x113] h11) λ x114 h115 => vK (aH 0 x114) λ x116 => vK (aH 1 x114) λ x117 => wK (bR 2 x8 x116 h115) λ x118 h119 => vK (aF 3 x3) λ x120 => vK (aG h119.get x120) λ x121 => vK (aF 1 x3) λ x122 => vK (aG h119.get x122) λ x123 => vK (aF 5 x3) λ x124 => vK (aG h119.get x124) λ x125 => wK (aD E 46 [r0, x121, x123, x125] h119) λ x126 h127 => sN E x5 x8 x117 x126 h127) (vK (bS x13 (ii 8)) λ x128 => bK x128 (vK (aK 2 h11.get x1) λ x129 => vK (aF 3 x3) λ x130 => vK (aG h11.get x130) λ x131 => vK (aF 2 x3) λ x132 => vK (aG h11.get x132) λ x133 => wK (aD E 72 [x129, x131, x133] h11) λ x134 h135 => vK (aH 0 x134) λ x136 => vK (aH 1 x134) λ x137 => wK (bR 2 x8 x136 h135) λ x138 h139 => vK (aF 3 x3) λ x140 => vK (aG h139.get x140) λ x141 => vK (aF 2 x3) λ x142 => vK (aG h139.get x142) λ x143 => wK (aD E 47 [r0, x141, x143] h139) λ x144 h145 => sN E x5 x8 x137 x144 h145) (sN E x5 x8 (ii 0) (ii 0) h11))))))))
def bIs : DC := (zs 4 [zX (.box o1),zX (.box o2),zX (.alc 2 2 (.list [.nils,(.int .i64 (.ofNat 0))])),zX (.mv (.c (.bool false)))] (zs 8 [zY 11 (.ldN 2 o4),zX (.alc 2 2 (.list [.nils,(.int .i64 (.ofNat 0))])),zW (.st 2 o8 fY),zX (.mv (zk 0)),zX (.mv (zk 0))] (zq (zs 12 [zX (.fa 0 o5),zX (.ld fV)] (.block 0 (zs 14 [zY 15 (.bin .eql gA (zk 1)),zM 15] (.cond iP (zs 17 [zX (.ldN 2 o4),zX (.fa 3 o5),zX (.ld iD),zF 66 [iI,iO,(zk 2)],zT 16 20,zX (.ext 0 hU),zX (.ext 1 hU),zW (.st 2 o8 hM),zT 9 22] (zr 23 [zM 0,zX (.fa 3 o5),zX (.ld iN),zF 40 [gW,jY],zT 10 26])) (zs 27 [zY 28 (.bin .eql gA (zk 2)),zM 28] (.cond lG (zs 30 [zX (.ldN 2 o4),zX (.fa 3 o5),zX (.ld mV),zF 66 [lR,lF,(zk 1)],zT 29 33,zX (.ext 0 mK),zX (.ext 1 mK),zW (.st 2 o8 mE),zT 9 35] (zr 36 [zM 0,zX (.fa 3 o5),zX (.ld oP),zF 41 [mD,sU],zT 10 39])) (zs 40 [zY 41 (.bin .eql gA (zk 3)),zM 41] (.cond qT (zs 43 [zX (.ldN 2 o4),zX (.fa 3 o5),zX (.ld rT),zF 67 [uD,xY],zT 42 46,zX (.ext 0 uJ),zX (.ext 1 uJ),zW (.st 2 o8 xX),zT 9 48] (zr 49 [zM 0,zX (.fa 3 o5),zX (.ld o50),zF 42 [o49,o51],zT 10 52])) (zs 53 [zY 54 (.bin .eql gA (zk 4)),zM 54] (.cond o53 (zs 56 [zX (.ldN 2 o4),zX (.fa 3 o5),zX (.ld o57),zF 68 [o56,o58],zT 55 59,zX (.ext 0 o55),zX (.ext 1 o55),zW (.st 2 o8 o60),zT 9 61] (zr 62 [zM 0,zX (.fa 3 o5),zX (.ld o63),zF 43 [o62,o64],zT 10 65])) (zs 66 [zY 67 (.bin .eql gA (zk 5)),zM 67] (.cond o66 (zs 69 [zX (.ldN 2 o4),zX (.fa 3 o5),zX (.ld o70),zX (.fa 4 o5),zX (.ld o72),zF 69 [o69,o71,o73],zT 68 74,zX (.ext 0 o68),zX (.ext 1 o68),zW (.st 2 o8 o75),zT 9 76] (zr 77 [zM 0,zX (.fa 3 o5),zX (.ld o78),zX (.fa 4 o5),zX (.ld o80),zF 44 [o77,o79,o81],zT 10 82])) (zs 83 [zY 84 (.bin .eql gA (zk 6)),zM 84] (.cond o83 (zs 86 [zX (.ldN 2 o4),zX (.fa 3 o5),zX (.ld o87),zX (.fa 4 o5),zX (.ld o89),zF 70 [o86,o88,o90],zT 85 91,zX (.ext 0 o85),zX (.ext 1 o85),zW (.st 2 o8 o92),zT 9 93] (zr 94 [zM 0,zX (.fa 3 o5),zX (.ld o95),zX (.fa 4 o5),zX (.ld o97),zF 45 [o94,o96,o98],zT 10 99])) (zs 100 [zY 101 (.bin .eql gA (zk 7)),zM 101] (.cond bCH (zs 103 [zX (.ldN 2 o4),zX (.fa 3 o5),zX (.ld bCG),zX (.fa 1 o5),zX (.ld bCE),zX (.fa 5 o5),zX (.ld bJE),zF 71 [bJF,bCF,bCD,bCC],zT 102 110,zX (.ext 0 aVe),zX (.ext 1 aVe),zW (.st 2 o8 bCB),zT 9 112] (zr 113 [zM 0,zX (.fa 3 o5),zX (.ld bCA),zX (.fa 1 o5),zX (.ld bJB),zX (.fa 5 o5),zX (.ld o118),zF 46 [bJC,bCz,o117,o119],zT 10 120])) (zs 121 [zY 122 (.bin .eql gA (zk 8)),zM 122] (.cond o121 (zs 124 [zX (.ldN 2 o4),zX (.fa 3 o5),zX (.ld o125),zX (.fa 2 o5),zX (.ld o127),zF 72 [o124,o126,o128],zT 123 129,zX (.ext 0 bJA),zX (.ext 1 bJA),zW (.st 2 o8 o130),zT 9 131] (zr 132 [zM 0,zX (.fa 3 o5),zX (.ld o133),zX (.fa 2 o5),zX (.ld o135),zF 47 [o132,o134,o136],zT 10 137])) .skip)))))))))))))))))) bIr)))
theorem bYH : Is E bIr (bO R29) (λ σ h => sN E (σ p6) (σ p8) (σ p9) (σ p10) h) := λ σ h => by kernel_rfl
theorem bYI : iA3 E bIs R29 (aSk E) := Is.as (Is.seq (Is.seq (Is.seq (bYH E) (Is.leaf _)) (Is.leaf _)) (Is.leaf _)) λ σ h => by kernel_rfl
def D29 : DF := ⟨3, 142, bIs, R29⟩
def S29 : cD := fA3 (aSk E)
theorem bLw : SQ D29 S29 := λ E => eA3 (d := D29) (bYI E) rfl
def R30 : List RV := [(.r p6)]
def aSj (r0 r1 r2 : DV) (h : H) : aV := dT r1 h λ x1 h2 => dT r2 h2 λ x3 h4 => vK (aF 3 x3) λ x5 => vK (aG h4.get x5) λ x6 => vK (aF 1 x3) λ x7 => vK (aG h4.get x7) λ x8 => vK (aF 2 x3) λ x9 => vK (aG h4.get x9) λ x10 => wK (aD E 33 [r0, x6, x8, x10] h4) λ x11 h12 => vK (aH 0 x11) λ x13 => vK (aH 1 x11) λ x14 => vK (aK 2 h12.get x1) λ x15 => vK (aF 3 x3) λ x16 => vK (aG h12.get x16) λ x17 => vK (aF 1 x3) λ x18 => vK (aG h12.get x18) λ x19 => vK (aF 2 x3) λ x20 => vK (aG h12.get x20) λ x21 => wK (aD E 80 [x15, x17, x19, x21] h12) λ x22 h23 => vK (aH 0 x22) λ x24 => vK (aH 1 x22) λ x25 => vK (aF 3 x3) λ x26 => vK (aG h23.get x26) λ x27 => wK (aD E 34 [r0, x27] h23) λ x28 h29 => vK (aH 0 x28) λ x30 => vK (aH 1 x28) λ x31 => dZ 5 5 (.list [(ii 0), (ii 0), (ii 0), (ii 0), (ii 0)]) h29 λ x32 h33 => wK (bR 5 x32 x30 h33) λ x34 h35 => vK (aK 2 h35.get x1) λ x36 => vK (aF 3 x3) λ x37 => vK (aG h35.get x37) λ x38 => wK (aD E 81 [x36, x38] h35) λ x39 h40 => vK (aH 0 x39) λ x41 => vK (aH 1 x39) λ x42 => dZ 5 5 (.list [(ii 0), (ii 0), (ii 0), (ii 0), (ii 0)]) h40 λ x43 h44 => wK (bR 5 x43 x41 h44) λ x45 h46 => vK (aF 3 x3) λ x47 => vK (aG h46.get x47) λ x48 => wK (aD E 35 [r0, x48] h46) λ x49 h50 => vK (aH 0 x49) λ x51 => vK (aH 1 x49) λ x52 => vK (aK 2 h50.get x1) λ x53 => vK (aF 3 x3) λ x54 => vK (aG h50.get x54) λ x55 => wK (aD E 82 [x53, x55] h50) λ x56 h57 => vK (aH 0 x56) λ x58 => vK (aH 1 x56) λ x59 => vK (bS x13 x24) λ x60 => bA x60 true (λ kk => kk x14 h57) h57 λ x61 h62 => bA x60 true (λ kk => kk x25 h62) h62 λ x63 h64 => bA x60 true (λ kk => vK (bS x61 x63) λ v => kk v h64) h64 λ x65 h66 => vK (aW x60 x65 (.bool false)) λ x67 => bA x67 true (λ kk => vK (aK 5 h66.get x32) λ v => kk v h66) h66 λ x68 h69 => bA x67 true (λ kk => vK (aK 5 h69.get x43) λ v => kk v h69) h69 λ x70 h71 => bA x67 true (λ kk => vK (aAp false (.leaf .int 0 (.leaf .int 1 (.leaf .int 2 (.leaf .int 3 (.leaf .int 4 .nil))))) h71.get x68 x70) λ v => kk v h71) h71 λ x72 h73 => vK (aW x67 x72 (.bool false)) λ x74 => bA x74 true (λ kk => kk x31 h73) h73 λ x75 h76 => bA x74 true (λ kk => kk x42 h76) h76 λ x77 h78 => bA x74 true (λ kk => vK (bS x75 x77) λ v => kk v h78) h78 λ x79 h80 => vK (aW x74 x79 (.bool false)) λ x81 => bA x81 true (λ kk => kk x51 h80) h80 λ x82 h83 => bA x81 true (λ kk => kk x58 h83) h83 λ x84 h85 => bA x81 true (λ kk => wK (aD E 79 [x82, x84] h85) kk) h85 λ x86 h87 => vK (aW x81 x86 (.bool false)) λ x88 => bA x88 true (λ kk => kk x52 h87) h87 λ x89 h90 => bA x88 true (λ kk => kk x59 h90) h90 λ x91 h92 => bA x88 true (λ kk => vK (bS x89 x91) λ v => kk v h92) h92 λ x93 h94 => vK (aW x88 x93 (.bool false)) λ x95 => some (x95, h94)
def bIq : DC := (zs 4 [zX (.box o1),zX (.box o2),zX (.mv (.c (.bool false)))] (zs 20 [zM 0,zX (.fa 3 o5),zX (.ld hM),zX (.fa 1 o5),zX (.ld gW),zX (.fa 2 o5),zX (.ld jY),zF 33 [iS,iX,iN,lM],zT 19 27,zX (.ext 0 iO),zX (.ext 1 iO),zT 7 28,zT 8 29] (zs 31 [zX (.ldN 2 o4),zX (.fa 3 o5),zX (.ld lF),zX (.fa 1 o5),zX (.ld mE),zX (.fa 2 o5),zX (.ld mD),zF 80 [mV,mF,oW,oP],zT 30 38,zX (.ext 0 lR),zX (.ext 1 lR),zT 9 39,zT 10 40] (zs 42 [zM 0,zX (.fa 3 o5),zX (.ld uD),zF 34 [uJ,rT],zT 41 45,zX (.ext 0 uE),zX (.ext 1 uE),zY 11 (.alc 5 5 (.list [(.int .i64 (.ofNat 0)),(.int .i64 (.ofNat 0)),(.int .i64 (.ofNat 0)),(.int .i64 (.ofNat 0)),(.int .i64 (.ofNat 0))])),zW (.st 5 fY uL),zT 12 47] (zs 49 [zX (.ldN 2 o4),zX (.fa 3 o5),zX (.ld o50),zF 81 [o49,o51],zT 48 52,zX (.ext 0 o48),zX (.ext 1 o48),zY 13 (.alc 5 5 (.list [(.int .i64 (.ofNat 0)),(.int .i64 (.ofNat 0)),(.int .i64 (.ofNat 0)),(.int .i64 (.ofNat 0)),(.int .i64 (.ofNat 0))])),zW (.st 5 gA o53),zT 14 54] (zs 56 [zM 0,zX (.fa 3 o5),zX (.ld o57),zF 35 [o56,o58],zT 55 59,zX (.ext 0 o55),zX (.ext 1 o55),zT 15 60,zT 16 61] (zs 63 [zX (.ldN 2 o4),zX (.fa 3 o5),zX (.ld o64),zF 82 [o63,o65],zT 62 66,zX (.ext 0 o62),zX (.ext 1 o62),zT 17 67,zT 18 68] (zs 69 [zM 7,zM 9,zX (.bin .eql o69 o70),zM 71,zL 72 true 8,zL 72 true 10,zG 72 true (.bin .eql o73 o74),zX (.pick o72 o75 (.c (.bool false))),zM 76,zG 77 true (.ldN 5 fY),zG 77 true (.ldN 5 gA),zG 77 true (.eqs false (.leaf .int 0 (.leaf .int 1 (.leaf .int 2 (.leaf .int 3 (.leaf .int 4 .nil))))) o78 o79),zX (.pick o77 o80 (.c (.bool false))),zM 81,zL 82 true 12,zL 82 true 14,zG 82 true (.bin .eql o83 o84),zX (.pick o82 o85 (.c (.bool false))),zM 86,zL 87 true 15,zL 87 true 17,zD ⟨(some p90),(some (p87,true)),(.c (.f 79 [o88,o89]))⟩,zY 91 (.pick o87 o90 (.c (.bool false))),zT 92 91,zD ⟨(some p93),(some (p92,true)),(.e (.mv hU))⟩,zD ⟨(some p94),(some (p92,true)),(.e (.mv iD))⟩,zD ⟨(some p95),(some (p92,true)),(.e (.bin .eql o93 o94))⟩,zY 96 (.pick o92 o95 (.c (.bool false))),zT 6 96] .ret))))))))
theorem bYG : iA3 E bIq R30 (aSj E) := λ σ h => by kernel_rfl
def D30 : DF := ⟨3, 97, bIq, R30⟩
def S30 : cD := fA3 (aSj E)
theorem bLv : SQ D30 S30 := λ E => eA3 (d := D30) (bYG E) rfl
def R31 : List RV := [(.r p2)]
def aSi (E : bN) (r0 : DV) (h : H) : aV := vK (dX .ptr false h.get r0 .nilp) λ x1 => bK x1 (some ((ii 0), h)) (vK (aM r0) λ x2 => vK (aF 513 x2) λ x3 => vK (aG h.get x3) λ x4 => some (x4, h))
def bIp : DC := (zs 2 [zX (.mv (zk 0))] (zq (zs 3 [zM 0,zX (.eqv .ptr false o3 (.c .nilp))] (.cond o4 (zs 2 [zX (.mv (zk 0))] .ret) .skip)) (zs 5 [zM 0,zX (.nilchk o5),zX (.fa 513 o6),zX (.ld o7),zT 2 8] .ret)))
theorem bYF : oA E bIp R31 (aSi E) := λ σ h => by kernel_rfl
def D31 : DF := ⟨1, 9, bIp, R31⟩
def S31 : cD := oD (aSi E)
theorem bLu : SQ D31 S31 := λ E => oI (d := D31) (bYF E) rfl
def R32 : List RV := [(.r p2)]
def aSg (E : bN) (r3 : DV) (h : H) : aV := some (r3, h)
def bIn : DC := (zs 2 [zT 21 3,zM 21] .ret)
def aNh (r1 : DV) (i2 : DV → DV → H → aV) (r3 r4 : DV) (h : H) : aV := vK (aF 0 r1) λ x1 => vK (aG h.get x1) λ x2 => vK (cB x2) λ x3 => vK (cR r4 x3) λ x4 => bK x4 (vK (aF 0 r1) λ x5 => vK (aG h.get x5) λ x6 => vK (bZ 5 x6 r4) λ x7 => vK (aF 3 x7) λ x8 => vK (aG h.get x8) λ x9 => vK (cA x9) λ x10 => vK (bL r3 x10) λ x11 => vK (bL r4 (ii 1)) λ x12 => i2 x11 x12 h) (aSg E r3 h)
def aFt (r1 : DV) (n : Nat) : DV → DV → H → aV := Nat.rec (motive := λ _ => DV → DV → H → aV) (λ _ _ _ => none) (λ _ i => aNh E r1 i) n
def bIm : DC := (.loop (zq (zs 5 [zM 4,zX (.fa 0 o1),zX (.ld o6),zX (.lenL o7),zX (.bin .lss o5 o8)] (.cond o9 .skip (.exit 0))) (zq (.block 1 (zr 12 [zM 3,zX (.fa 0 o1),zX (.ld gA),zM 4,zX (.iaS 5 iP jH),zX (.fa 3 hU),zX (.ld iI),zX (.lenS iD),zX (.bin .add fV iO),zT 3 20])) (zr 10 [zM 4,zX (.bin .add fS (zk 1)),zT 4 11]))))
def aSh (r0 : DV) (h : H) : aV := dT r0 h λ x1 h2 => aFt E x1 aT (ii 0) (ii 0) h2
def bIo : DC := (zs 1 [zX (.box o0),zX (.mv (zk 0))] (zs 3 [zX (.mv (zk 0))] (zq (zs 4 [zX (.mv (zk 0))] (.block 0 bIm)) bIn)))
theorem bYD : Is E bIn (bO R32) (λ σ h => aSg E (σ p3) h) := λ σ h => by kernel_rfl
abbrev bXa : gT (DV × H) := (cG (λ σ h => aSg E (σ p3) h) (bO R32))
theorem bYC : Is E bIm (bM 0 (bXa E)) (λ σ h => aFt E (σ p1) aT (σ p3) (σ p4) h) := Is.loop (λ n2 σ h => aFt E (σ p1) n2 (σ p3) (σ p4) h) (by kernel_rfl) λ n2 => Is.as (Is.leaf _) λ σ h => by kernel_rfl
theorem bYE : oA E bIo R32 (aSh E) := Is.as (Is.seq (Is.seq (Is.seq (bYD E) (Is.seq (Is.block (bYC E)) (Is.leaf _))) (Is.leaf _)) (Is.leaf _)) λ σ h => by kernel_rfl
def D32 : DF := ⟨1, 22, bIo, R32⟩
def S32 : cD := oD (aSh E)
theorem bLt : SQ D32 S32 := λ E => oI (d := D32) (bYE E) rfl
def R33 : List RV := [(.r p8),(.r p9)]
def aSf (r0 r1 r2 r3 : DV) (h : H) : aV := wK (aD E 83 [r0, r1] h) λ x1 h2 => vK (aH 0 x1) λ x3 => vK (aH 1 x1) λ x4 => vK (dC x4 (ii 0)) λ x5 => bK x5 (some ((.tup [(.str []), x4]), h2)) (wK (aD E 84 [x3, r2, r3] h2) λ x6 h7 => vK (aH 0 x6) λ x8 => vK (aH 1 x6) λ x9 => some ((.tup [x8, x9]), h7))
def bIl : DC := (zs 8 [zX (.mv (.c (.str []))),zX (.mv (zk 0))] (zs 13 [zM 0,zM 1,zF 83 [gA,iP],zT 12 15,zX (.ext 0 fV),zX (.ext 1 fV),zT 10 16,zT 11 17] (zq (zs 18 [zM 11,zX (.bin .neq iD (zk 0))] (.cond iO (zs 8 [zT 20 11,zX (.mv (.c (.str []))),zM 20] .ret) .skip)) (zs 21 [zM 10,zM 2,zM 3,zF 84 [hM,iX,gW],zX (.ext 0 iN),zX (.ext 1 iN),zT 8 25,zT 9 26] .ret))))
theorem bYB : iA4 E bIl R33 (aSf E) := λ σ h => by kernel_rfl
def D33 : DF := ⟨4, 27, bIl, R33⟩
def S33 : cD := fA4 (aSf E)
theorem bLs : SQ D33 S33 := λ E => eA4 (d := D33) (bYB E) rfl
def R34 : List RV := [(.cells p4 5),(.r p5)]
def aMQ (E : bN) (r4 r9 : DV) (h : H) : aV := vK (aK 5 h.get r9) λ x1 => wK (bR 5 r4 x1 h) λ x2 h3 => vK (aK 5 h3.get r4) λ x4 => some ((.tup [x4, (ii 0)]), h3)
def bIj : DC := (zs 5 [zY 47 (.ldN 5 o9),zW (.st 5 o4 xX),zX (.mv (zk 0))] .ret)
def aSe (r0 r1 : DV) (h : H) : aV := dZ 5 5 (.list [(ii 0), (ii 0), (ii 0), (ii 0), (ii 0)]) h λ x1 h2 => wK (aD E 85 [r0, r1] h2) λ x3 h4 => vK (aH 0 x3) λ x5 => vK (aH 1 x3) λ x6 => vK (dC x6 (ii 0)) λ x7 => bK x7 (vK (eC [(ii 0), (ii 0), (ii 0), (ii 0), (ii 0)] []) λ x8 => wK (bR 5 x1 x8 h4) λ x9 h10 => vK (aK 5 h10.get x1) λ x11 => some ((.tup [x11, x6]), h10)) (vK (aM r0) λ x12 => vK (aF 0 x12) λ x13 => vK (lV 256 2 x13 x5) λ x14 => vK (aK 2 h4.get x14) λ x15 => dZ 2 2 (.list [(ii 0), .nili]) h4 λ x16 h17 => wK (bR 2 x16 x15 h17) λ x18 h19 => vK (aF 0 x16) λ x20 => vK (aG h19.get x20) λ x21 => vK (aF 1 x16) λ x22 => vK (aG h19.get x22) λ x23 => vK (aF 1 x16) λ x24 => vK (aG h19.get x24) λ x25 => dZ 5 5 (.list [(ii 0), (ii 0), (ii 0), (ii 0), (ii 0)]) h19 λ x26 h27 => wK (vS E [(120, 217), (141, 221)] x23 [] h27) λ x28 h29 => rK (rcK (aG h29.get x24) x25) <| rK (rcK (aG h29.get x20) x21) <| wK (vS E [(120, 218), (141, 222)] x25 [] h29) λ x30 h31 => rK (rcK (aG h31.get x20) x21) <| vK (eC [(ii 0), (ii 0), (ii 0), (ii 0), (ii 0)] [(0, 1, x5), (1, 1, x21), (2, 1, x28), (3, 1, x30), (4, 1, (ii 1))]) λ x32 => wK (bR 5 x26 x32 h31) λ x33 h34 => wK (aD E 86 [r0, x5] h34) λ x35 h36 => vK (dX .ptr true h36.get x35 .nilp) λ x37 => bK x37 (vK (aM x35) λ x38 => vK (aF 1 x38) λ x39 => vK (aG h36.get x39) λ x40 => vK (aF 4 x26) λ x41 => wK (bR 1 x41 x40 h36) λ x42 h43 => aMQ E x1 x26 h43) (aMQ E x1 x26 h36))
def bIk : DC := (zs 4 [zX (.alc 5 5 (.list [(.int .i64 (.ofNat 0)),(.int .i64 (.ofNat 0)),(.int .i64 (.ofNat 0)),(.int .i64 (.ofNat 0)),(.int .i64 (.ofNat 0))])),zX (.mv (zk 0))] (zs 12 [zM 0,zM 1,zF 85 [fV,gA],zT 11 14,zX (.ext 0 fY),zX (.ext 1 fY),zT 6 15,zT 7 16] (zq (zs 17 [zM 7,zX (.bin .neq iI (zk 0))] (.cond iD (zs 19 [zX (.bld [(.int .i64 (.ofNat 0)),(.int .i64 (.ofNat 0)),(.int .i64 (.ofNat 0)),(.int .i64 (.ofNat 0)),(.int .i64 (.ofNat 0))] []),zM 7,zW (.st 5 o4 iO),zT 5 20] .ret) .skip)) (zs 21 [zM 0,zM 6,zX (.nilchk hM),zX (.fa 0 gW),zX (.iaA 256 2 iN iX),zX (.ldN 2 jY),zY 8 (.alc 2 2 (.list [(.int .i64 (.ofNat 0)),.nili])),zW (.st 2 o8 lM)] (zq (zd 27 [yA 0 (zM 6),yA 1 (zX (.fa 0 o8)),yA 2 (zX (.ld lL)),yA 3 (zX (.fa 1 o8)),yA 4 (zX (.ld lR)),yA 6 (zY 33 (.fa 1 o8)),yA 7 (zY 34 (.ld mF)),yA 10 (zY 9 (.alc 5 5 (.list [(.int .i64 (.ofNat 0)),(.int .i64 (.ofNat 0)),(.int .i64 (.ofNat 0)),(.int .i64 (.ofNat 0)),(.int .i64 (.ofNat 0))]))),yB 5 (zD ⟨(some p32),none,(.c (.m [(120,217),(141,221)] mV []))⟩) [7,2] false,yB 8 (zD ⟨(some p35),none,(.c (.m [(120,218),(141,222)] mE []))⟩) [2] false,yA 9 (zY 36 (.bld [(.int .i64 (.ofNat 0)),(.int .i64 (.ofNat 0)),(.int .i64 (.ofNat 0)),(.int .i64 (.ofNat 0)),(.int .i64 (.ofNat 0))] [(0,1,lG),(1,1,mK),(2,1,lF),(3,1,oW),(4,1,(zk 1))])),yA 11 (zW (.st 5 o9 mD))]) (zq (zs 37 [zM 0,zM 6,zF 86 [oP,sU],zT 10 39] (zs 40 [zM 10,zX (.eqv .ptr true qT (.c .nilp))] (.cond uE (zr 42 [zM 10,zX (.nilchk uJ),zX (.fa 1 uD),zX (.ld rT),zX (.fa 4 o9),zW (.st 1 uL xY)]) .skip))) bIj))))))
theorem bYz : Is E bIj (bO R34) (λ σ h => aMQ E (σ p4) (σ p9) h) := λ σ h => by kernel_rfl
theorem bYA : mW E bIk R34 (aSe E) := Is.as (Is.seq (Is.seq (Is.seq (Is.seq (Is.seq (Is.seq (bYz E) (Is.leaf _)) (Is.leaf _)) (Is.leaf _)) (Is.leaf _)) (Is.leaf _)) (Is.leaf _)) λ σ h => by kernel_rfl
def D34 : DF := ⟨2, 48, bIk, R34⟩
def S34 : cD := mX (aSe E)
theorem bLr : SQ D34 S34 := λ E => nF (d := D34) (bYA E) rfl
def R35 : List RV := [(.r p4),(.r p5)]
def aSd (r0 r1 : DV) (h : H) : aV := wK (aD E 85 [r0, r1] h) λ x1 h2 => vK (aH 0 x1) λ x3 => vK (aH 1 x1) λ x4 => vK (dC x4 (ii 0)) λ x5 => bK x5 (some ((.tup [.nils, x4]), h2)) (wK (aD E 87 [r0, x3] h2) λ x6 h7 => vK (dX .ptr false h7.get x6 .nilp) λ x8 => bK x8 (some ((.tup [.nils, (ii 13)]), h7)) (wK (aD E 88 [x6] h7) λ x9 h10 => some ((.tup [x9, (ii 0)]), h10)))
def bIi : DC := (zs 4 [zX (.mv (.c .nils)),zX (.mv (zk 0))] (zs 10 [zM 0,zM 1,zF 85 [fS,fY],zT 9 12,zX (.ext 0 o9),zX (.ext 1 o9),zT 6 13,zT 7 14] (zq (zs 15 [zM 7,zX (.bin .neq jH (zk 0))] (.cond hU (zs 4 [zT 17 7,zX (.mv (.c .nils)),zM 17] .ret) .skip)) (zs 18 [zM 0,zM 6,zF 87 [iD,iO],zT 8 20] (zq (zs 21 [zM 8,zX (.eqv .ptr false hM (.c .nilp))] (.cond iX (zs 4 [zX (.mv (.c .nils)),zX (.mv (zk 13))] .ret) .skip)) (zs 23 [zM 8,zF 88 [gW],zT 4 24,zY 5 (.mv (zk 0))] .ret))))))
theorem bYy : mW E bIi R35 (aSd E) := λ σ h => by kernel_rfl
def D35 : DF := ⟨2, 25, bIi, R35⟩
def S35 : cD := mX (aSd E)
theorem bLq : SQ D35 S35 := λ E => nF (d := D35) (bYy E) rfl
def R40 : List RV := [(.r p4)]
def aSc (r0 r1 : DV) (h : H) : aV := wK (aD E 65 [] h) λ x1 h2 => vK (eC [.nilp] [(0, 1, x1)]) λ x3 => wK (aD E 94 [r0, r1, (.ifc 120 x3)] h2) λ x4 h5 => some (x4, h5)
def bIh : DC := (zs 4 [zX (.mv (zk 0))] (zs 5 [zM 0,zM 1,zF 65 [],zX (.bld [.nilp] [(0,1,o7)]),zX (.mkI 120 o8),zF 94 [o5,o6,o9],zT 4 10] .ret))
theorem bYx : mW E bIh R40 (aSc E) := λ σ h => by kernel_rfl
def D40 : DF := ⟨2, 11, bIh, R40⟩
def S40 : cD := mX (aSc E)
theorem bLp : SQ D40 S40 := λ E => nF (d := D40) (bYx E) rfl
def R41 : List RV := [(.r p4)]
def aSb (r0 r1 : DV) (h : H) : aV := vK (eC [(.str []), (ii 0)] [(1, 1, (ii 1))]) λ x1 => dT x1 h λ x2 h3 => wK (aD E 94 [r0, r1, (.ifc 141 x2)] h3) λ x4 h5 => some (x4, h5)
def bIg : DC := (zs 4 [zX (.mv (zk 0))] (zs 5 [zM 0,zM 1,zX (.bld [(.str []),(.int .i64 (.ofNat 0))] [(1,1,(zk 1))]),zX (.box o7),zX (.mkI 141 o8),zF 94 [o5,o6,o9],zT 4 10] .ret))
theorem bYw : mW E bIg R41 (aSb E) := λ σ h => by kernel_rfl
def D41 : DF := ⟨2, 11, bIg, R41⟩
def S41 : cD := mX (aSb E)
theorem bLo : SQ D41 S41 := λ E => nF (d := D41) (bYw E) rfl
def R42 : List RV := [(.r p4)]
def aXM (E : bN) (h : H) : aV := some ((ii 0), h)
def bIe : DC := (zs 4 [zX (.mv (zk 0))] .ret)
def aSa (r0 r1 : DV) (h : H) : aV := wK (aD E 85 [r0, r1] h) λ x1 h2 => vK (aH 0 x1) λ x3 => vK (aH 1 x1) λ x4 => vK (dC x4 (ii 0)) λ x5 => bK x5 (some (x4, h2)) (wK (aD E 86 [r0, x3] h2) λ x6 h7 => vK (dX .ptr false h7.get x6 .nilp) λ x8 => bK x8 (some ((ii 12), h7)) (wK (aD E 95 [r0, r1] h7) λ x9 h10 => vK (aH 0 x9) λ x11 => vK (aH 1 x9) λ x12 => dZ 2 2 (.list [.nilp, (.str [])]) h10 λ x13 h14 => wK (bR 2 x13 x11 h14) λ x15 h16 => vK (aF 0 x13) λ x17 => vK (aG h16.get x17) λ x18 => vK (aF 1 x13) λ x19 => vK (aG h16.get x19) λ x20 => wK (aD E 96 [x18, x20] h16) λ x21 h22 => vK (aM x6) λ x23 => vK (aF 1 x23) λ x24 => vK (aG h22.get x24) λ x25 => vK (fB x25 (ii 1)) λ x26 => vK (aM x6) λ x27 => vK (aF 1 x27) λ x28 => wK (bR 1 x28 x26 h22) λ x29 h30 => vK (aM x6) λ x31 => vK (aF 1 x31) λ x32 => vK (aG h30.get x32) λ x33 => vK (bS x33 (ii 0)) λ x34 => bK x34 (vK (aM r0) λ x35 => vK (aF 513 x35) λ x36 => vK (aG h30.get x36) λ x37 => vK (aM x6) λ x38 => vK (aF 0 x38) λ x39 => vK (aG h30.get x39) λ x40 => vK (cA x40) λ x41 => vK (fB x37 x41) λ x42 => vK (aM r0) λ x43 => vK (aF 513 x43) λ x44 => wK (bR 1 x44 x42 h30) λ x45 h46 => vK (eC [(ii 0), .nili] []) λ x47 => vK (aM r0) λ x48 => vK (aF 0 x48) λ x49 => vK (lV 256 2 x49 x3) λ x50 => wK (bR 2 x50 x47 h46) λ x51 h52 => aXM E h52) (aXM E h30)))
def bIf : DC := (zs 4 [zX (.mv (zk 0))] (zs 11 [zM 0,zM 1,zF 85 [fY,fV],zT 10 13,zX (.ext 0 fS),zX (.ext 1 fS),zT 5 14,zT 6 15] (zq (zs 16 [zM 6,zX (.bin .neq hU (zk 0))] (.cond iI (zs 4 [zT 18 6,zM 18] .ret) .skip)) (zs 19 [zM 0,zM 5,zF 86 [iO,iS],zT 7 21] (zq (zs 22 [zM 7,zX (.eqv .ptr false iX (.c .nilp))] (.cond gW (zs 4 [zX (.mv (zk 12))] .ret) .skip)) (zs 25 [zM 0,zM 1,zF 95 [jY,lM],zT 24 27,zX (.ext 0 iN),zX (.ext 1 iN),zY 8 (.alc 2 2 (.list [.nilp,(.str [])])),zW (.st 2 o8 lL),zT 9 29] (zs 30 [zX (.fa 0 o8),zX (.ld lR),zX (.fa 1 o8),zX (.ld lF),zF 96 [mV,mF]] (zq (zs 35 [zM 7,zX (.nilchk oW),zX (.fa 1 mD),zX (.ld oP),zX (.bin .sub sU (zk 1)),zX (.nilchk oW),zX (.fa 1 qT),zW (.st 1 uE rN)] (zs 42 [zM 7,zX (.nilchk uJ),zX (.fa 1 uD),zX (.ld rT),zX (.bin .eql xY (zk 0))] (.cond uL (zq (zd 47 [yA 0 (zM 0),yA 1 (zX (.nilchk xX)),yA 2 (zX (.fa 513 o48)),yA 3 (zX (.ld o49)),yA 4 (zM 7),yA 5 (zX (.nilchk o51)),yA 6 (zX (.fa 0 o52)),yA 7 (zX (.ld o53)),yA 8 (zX (.lenS o54)),yA 9 (zX (.bin .sub o50 o55)),yA 10 (zX (.nilchk xX)),yA 11 (zX (.fa 513 o57)),yA 12 (zW (.st 1 o58 o56))]) (zr 59 [zM 0,zM 5,zX (.bld [(.int .i64 (.ofNat 0)),.nili] []),zX (.nilchk o59),zX (.fa 0 o62),zX (.iaA 256 2 o63 o60),zW (.st 2 o64 o61)])) .skip))) bIe))))))))
theorem bYu : Is E bIe (bO R42) (λ σ h => aXM E h) := λ σ h => by kernel_rfl
theorem bYv : mW E bIf R42 (aSa E) := Is.as (Is.seq (Is.seq (Is.seq (Is.seq (Is.seq (Is.seq (Is.seq (Is.seq (bYu E) (Is.leaf _)) (Is.leaf _)) (Is.leaf _)) (Is.leaf _)) (Is.leaf _)) (Is.leaf _)) (Is.leaf _)) (Is.leaf _)) λ σ h => by kernel_rfl
def D42 : DF := ⟨2, 65, bIf, R42⟩
def S42 : cD := mX (aSa E)
theorem bLm : SQ D42 S42 := λ E => nF (d := D42) (bYv E) rfl
def R43 : List RV := [(.r p4)]
def aRZ (r0 r1 : DV) (h : H) : aV := wK (aD E 85 [r0, r1] h) λ x1 h2 => vK (aH 0 x1) λ x3 => vK (aH 1 x1) λ x4 => vK (dC x4 (ii 0)) λ x5 => bK x5 (some (x4, h2)) (wK (aD E 87 [r0, x3] h2) λ x6 h7 => vK (dX .ptr false h7.get x6 .nilp) λ x8 => bK x8 (some ((ii 13), h7)) (vK (bS x3 (ii 1)) λ x9 => bK x9 (some ((ii 1), h7)) (wK (aD E 97 [x6] h7) λ x10 h11 => vK (eJ x10 (ii 0)) λ x12 => bK x12 (some ((ii 14), h11)) (wK (aD E 95 [r0, r1] h11) λ x13 h14 => vK (aH 0 x13) λ x15 => vK (aH 1 x13) λ x16 => dZ 2 2 (.list [.nilp, (.str [])]) h14 λ x17 h18 => wK (bR 2 x17 x15 h18) λ x19 h20 => vK (aF 0 x17) λ x21 => vK (aG h20.get x21) λ x22 => vK (aF 1 x17) λ x23 => vK (aG h20.get x23) λ x24 => wK (aD E 96 [x22, x24] h20) λ x25 h26 => vK (eC [(ii 0), .nili] []) λ x27 => vK (aM r0) λ x28 => vK (aF 0 x28) λ x29 => vK (lV 256 2 x29 x3) λ x30 => wK (bR 2 x30 x27 h26) λ x31 h32 => some ((ii 0), h32)))))
def bId : DC := (zs 4 [zX (.mv (zk 0))] (zs 11 [zM 0,zM 1,zF 85 [fY,fV],zT 10 13,zX (.ext 0 fS),zX (.ext 1 fS),zT 5 14,zT 6 15] (zq (zs 16 [zM 6,zX (.bin .neq hU (zk 0))] (.cond iI (zs 4 [zT 18 6,zM 18] .ret) .skip)) (zs 19 [zM 0,zM 5,zF 87 [iO,iS],zT 7 21] (zq (.block 0 (zs 23 [zM 7,zX (.eqv .ptr false gW (.c .nilp)),zT 22 24] (.cond iX (zs 4 [zX (.mv (zk 13))] .ret) (zs 26 [zM 5,zX (.bin .eql lM (zk 1)),zT 25 27] (.cond jY (zs 4 [zX (.mv (zk 1))] .ret) (zs 29 [zM 7,zF 97 [mK],zX (.bin .gtr lR (zk 0)),zT 28 31] (.cond lL (zs 4 [zX (.mv (zk 14))] .ret) .skip))))))) (zs 33 [zM 0,zM 1,zF 95 [mF,mE],zT 32 35,zX (.ext 0 lF),zX (.ext 1 lF),zY 8 (.alc 2 2 (.list [.nilp,(.str [])])),zW (.st 2 o8 mD),zT 9 37] (zs 38 [zX (.fa 0 o8),zX (.ld sU),zX (.fa 1 o8),zX (.ld qT),zF 96 [rN,uE]] (zs 43 [zM 0,zM 5,zX (.bld [(.int .i64 (.ofNat 0)),.nili] []),zX (.nilchk uD),zX (.fa 0 uL),zX (.iaA 256 2 xX rT),zW (.st 2 o48 xY)] (zs 4 [zX (.mv (zk 0))] .ret)))))))))
theorem bYt : mW E bId R43 (aRZ E) := λ σ h => by kernel_rfl
def D43 : DF := ⟨2, 49, bId, R43⟩
def S43 : cD := mX (aRZ E)
theorem bLl : SQ D43 S43 := λ E => nF (d := D43) (bYt E) rfl
def R44 : List RV := [(.r p6)]
def aRY (r0 r1 r2 : DV) (h : H) : aV := wK (aD E 85 [r0, r1] h) λ x1 h2 => vK (aH 0 x1) λ x3 => vK (aH 1 x1) λ x4 => vK (dC x4 (ii 0)) λ x5 => bK x5 (some (x4, h2)) (wK (aD E 95 [r0, r2] h2) λ x6 h7 => vK (aH 0 x6) λ x8 => vK (aH 1 x6) λ x9 => dZ 2 2 (.list [.nilp, (.str [])]) h7 λ x10 h11 => wK (bR 2 x10 x8 h11) λ x12 h13 => vK (dC x9 (ii 0)) λ x14 => bK x14 (some (x9, h13)) (vK (bS x3 (ii 1)) λ x15 => bA x15 false (λ kk => kk r1 h13) h13 λ x16 h17 => bA x15 false (λ kk => kk r2 h17) h17 λ x18 h19 => bA x15 false (λ kk => wK (aD E 98 [x16, x18] h19) kk) h19 λ x20 h21 => vK (aW x15 (.bool true) x20) λ x22 => bK x22 (some ((ii 1), h21)) (wK (aD E 95 [r0, r1] h21) λ x23 h24 => vK (aH 0 x23) λ x25 => vK (aH 1 x23) λ x26 => dZ 2 2 (.list [.nilp, (.str [])]) h24 λ x27 h28 => wK (bR 2 x27 x25 h28) λ x29 h30 => vK (aK 2 h30.get x27) λ x31 => vK (aK 2 h30.get x10) λ x32 => vK (aAp false (.leaf .ptr 0 (.leaf .str 1 .nil)) h30.get x31 x32) λ x33 => bK x33 (some ((ii 0), h30)) (vK (aK 2 h30.get x10) λ x34 => wK (aD E 99 [x34] h30) λ x35 h36 => bK x35 (some ((ii 6), h36)) (vK (aF 0 x27) λ x37 => vK (aG h36.get x37) λ x38 => vK (aF 1 x27) λ x39 => vK (aG h36.get x39) λ x40 => wK (aD E 96 [x38, x40] h36) λ x41 h42 => vK (aF 0 x10) λ x43 => vK (aG h42.get x43) λ x44 => vK (aF 1 x10) λ x45 => vK (aG h42.get x45) λ x46 => wK (aD E 100 [x44, x46, x3] h42) λ x47 h48 => some ((ii 0), h48))))))
def bIc : DC := (zs 6 [zX (.mv (zk 0))] (zs 13 [zM 0,zM 1,zF 85 [gA,iP],zT 12 15,zX (.ext 0 fV),zX (.ext 1 fV),zT 7 16,zT 8 17] (zq (zs 18 [zM 8,zX (.bin .neq iD (zk 0))] (.cond iO (zs 6 [zT 20 8,zM 20] .ret) .skip)) (zs 22 [zM 0,zM 2,zF 95 [iX,gW],zT 21 24,zX (.ext 0 hM),zX (.ext 1 hM),zY 9 (.alc 2 2 (.list [.nilp,(.str [])])),zW (.st 2 o9 jY),zT 8 26] (zq (.block 0 (zs 28 [zM 8,zX (.bin .neq lL (zk 0)),zT 27 29] (.cond lG (zs 6 [zT 30 8,zM 30] .ret) (zs 32 [zM 7,zX (.bin .eql lF (zk 1)),zM 33,zL 34 false 1,zL 34 false 2,zD ⟨(some p37),(some (p34,false)),(.c (.f 98 [oW,mD]))⟩,zY 38 (.pick mE (.c (.bool true)) oP),zT 31 38] (.cond mV (zs 6 [zX (.mv (zk 1))] .ret) .skip))))) (zs 40 [zM 0,zM 1,zF 95 [qT,uE],zT 39 42,zX (.ext 0 rN),zX (.ext 1 rN),zY 10 (.alc 2 2 (.list [.nilp,(.str [])])),zW (.st 2 fS uD),zT 11 44] (zq (.block 1 (zs 46 [zX (.ldN 2 fS),zX (.ldN 2 o9),zX (.eqs false (.leaf .ptr 0 (.leaf .str 1 .nil)) uL xX),zT 45 48] (.cond xY (zs 6 [zX (.mv (zk 0))] .ret) (zs 50 [zX (.ldN 2 o9),zF 99 [o50],zT 49 51] (.cond o49 (zs 6 [zX (.mv (zk 6))] .ret) .skip))))) (zs 52 [zX (.fa 0 fS),zX (.ld o52),zX (.fa 1 fS),zX (.ld o54),zF 96 [o53,o55]] (zs 57 [zX (.fa 0 o9),zX (.ld o57),zX (.fa 1 o9),zX (.ld o59),zM 7,zF 100 [o58,o60,o61]] (zs 6 [zX (.mv (zk 0))] .ret))))))))))
theorem bYs : iA3 E bIc R44 (aRY E) := λ σ h => by kernel_rfl
def D44 : DF := ⟨3, 63, bIc, R44⟩
def S44 : cD := fA3 (aRY E)
theorem bLk : SQ D44 S44 := λ E => eA3 (d := D44) (bYs E) rfl
def R45 : List RV := [(.r p6)]
def aRX (r0 r1 r2 : DV) (h : H) : aV := wK (aD E 85 [r0, r1] h) λ x1 h2 => vK (aH 0 x1) λ x3 => vK (aH 1 x1) λ x4 => vK (dC x4 (ii 0)) λ x5 => bK x5 (some (x4, h2)) (wK (aD E 95 [r0, r2] h2) λ x6 h7 => vK (aH 0 x6) λ x8 => vK (aH 1 x6) λ x9 => dZ 2 2 (.list [.nilp, (.str [])]) h7 λ x10 h11 => wK (bR 2 x10 x8 h11) λ x12 h13 => vK (dC x9 (ii 0)) λ x14 => bK x14 (some (x9, h13)) (wK (aD E 86 [r0, x3] h13) λ x15 h16 => vK (dX .ptr false h16.get x15 .nilp) λ x17 => bK x17 (some ((ii 12), h16)) (vK (aK 2 h16.get x10) λ x18 => wK (aD E 99 [x18] h16) λ x19 h20 => bK x19 (some ((ii 6), h20)) (vK (aM x15) λ x21 => vK (aF 1 x21) λ x22 => vK (aG h20.get x22) λ x23 => vK (nS x23 (ii 100)) λ x24 => bK x24 (some ((ii 5), h20)) (vK (aM x15) λ x25 => vK (aF 1 x25) λ x26 => vK (aG h20.get x26) λ x27 => vK (bL x27 (ii 1)) λ x28 => vK (aM x15) λ x29 => vK (aF 1 x29) λ x30 => wK (bR 1 x30 x28 h20) λ x31 h32 => vK (aF 0 x10) λ x33 => vK (aG h32.get x33) λ x34 => vK (aF 1 x10) λ x35 => vK (aG h32.get x35) λ x36 => wK (aD E 100 [x34, x36, x3] h32) λ x37 h38 => some ((ii 0), h38))))))
def bIb : DC := (zs 6 [zX (.mv (zk 0))] (zs 12 [zM 0,zM 1,zF 85 [fV,gA],zT 11 14,zX (.ext 0 fY),zX (.ext 1 fY),zT 7 15,zT 8 16] (zq (zs 17 [zM 8,zX (.bin .neq iI (zk 0))] (.cond iD (zs 6 [zT 19 8,zM 19] .ret) .skip)) (zs 21 [zM 0,zM 2,zF 95 [hM,iX],zT 20 23,zX (.ext 0 iS),zX (.ext 1 iS),zY 9 (.alc 2 2 (.list [.nilp,(.str [])])),zW (.st 2 o9 iN),zT 8 25] (zq (zs 26 [zM 8,zX (.bin .neq lM (zk 0))] (.cond lG (zs 6 [zT 28 8,zM 28] .ret) .skip)) (zs 29 [zM 0,zM 7,zF 86 [mK,lR],zT 10 31] (zq (.block 0 (zs 33 [zM 10,zX (.eqv .ptr false mF (.c .nilp)),zT 32 34] (.cond lF (zs 6 [zX (.mv (zk 12))] .ret) (zs 36 [zX (.ldN 2 o9),zF 99 [mD],zT 35 37] (.cond oW (zs 6 [zX (.mv (zk 6))] .ret) (zs 39 [zM 10,zX (.nilchk rN),zX (.fa 1 qT),zX (.ld uE),zX (.bin .geq uJ (zk 100)),zT 38 43] (.cond sU (zs 6 [zX (.mv (zk 5))] .ret) .skip))))))) (zs 44 [zM 10,zX (.nilchk rT),zX (.fa 1 xY),zX (.ld uL),zX (.bin .add xX (zk 1)),zX (.nilchk rT),zX (.fa 1 o49),zW (.st 1 o50 o48)] (zs 51 [zX (.fa 0 o9),zX (.ld o51),zX (.fa 1 o9),zX (.ld o53),zM 7,zF 100 [o52,o54,o55]] (zs 6 [zX (.mv (zk 0))] .ret))))))))))
theorem bYr : iA3 E bIb R45 (aRX E) := λ σ h => by kernel_rfl
def D45 : DF := ⟨3, 57, bIb, R45⟩
def S45 : cD := fA3 (aRX E)
theorem bLj : SQ D45 S45 := λ E => eA3 (d := D45) (bYr E) rfl
def R46 : List RV := [(.r p8)]
def aRW (r0 r1 r2 r3 : DV) (h : H) : aV := wK (aD E 83 [r0, r1] h) λ x1 h2 => vK (aH 0 x1) λ x3 => vK (aH 1 x1) λ x4 => vK (dC x4 (ii 0)) λ x5 => bK x5 (some (x4, h2)) (wK (aD E 92 [r0, x3, r2, r3] h2) λ x6 h7 => some (x6, h7))
def bIa : DC := (zs 8 [zX (.mv (zk 0))] (zs 12 [zM 0,zM 1,zF 83 [fV,gA],zT 11 14,zX (.ext 0 fY),zX (.ext 1 fY),zT 9 15,zT 10 16] (zq (zs 17 [zM 10,zX (.bin .neq iI (zk 0))] (.cond iD (zs 8 [zT 19 10,zM 19] .ret) .skip)) (zs 20 [zM 0,zM 9,zM 2,zM 3,zF 92 [iS,hM,iX,gW],zT 8 24] .ret))))
theorem bYq : iA4 E bIa R46 (aRW E) := λ σ h => by kernel_rfl
def D46 : DF := ⟨4, 25, bIa, R46⟩
def S46 : cD := fA4 (aRW E)
theorem bLi : SQ D46 S46 := λ E => eA4 (d := D46) (bYq E) rfl
def R47 : List RV := [(.r p6)]
def aRV (r0 r1 r2 : DV) (h : H) : aV := wK (aD E 83 [r0, r1] h) λ x1 h2 => vK (aH 0 x1) λ x3 => vK (aH 1 x1) λ x4 => vK (dC x4 (ii 0)) λ x5 => bK x5 (some (x4, h2)) (vK (cR r2 (ii 0)) λ x6 => bA x6 false (λ kk => kk r2 h2) h2 λ x7 h8 => bA x6 false (λ kk => vK (eJ x7 (ii 16384)) λ v => kk v h8) h8 λ x9 h10 => vK (aW x6 (.bool true) x9) λ x11 => bK x11 (some ((ii 1), h10)) (vK (aM x3) λ x12 => vK (aF 0 x12) λ x13 => vK (aG h10.get x13) λ x14 => vK (aM x3) λ x15 => vK (aF 0 x15) λ x16 => vK (aG h10.get x16) λ x17 => vK (cA x17) λ x18 => vK (aAo r2 x18) λ x19 => vK (gV x14 none (some x19)) λ x20 => wK (aD E 101 [x20, r2] h10) λ x21 h22 => vK (aH 0 x21) λ x23 => vK (aH 1 x21) λ x24 => wK (aD E 102 [r0, x3, x23] h22) λ x25 h26 => some (x25, h26)))
def bHZ : DC := (zs 6 [zX (.mv (zk 0))] (zs 12 [zM 0,zM 1,zF 83 [fV,gA],zT 11 14,zX (.ext 0 fY),zX (.ext 1 fY),zT 7 15,zT 8 16] (zq (.block 0 (zs 18 [zM 8,zX (.bin .neq iD (zk 0)),zT 17 19] (.cond iI (zs 6 [zT 20 8,zM 20] .ret) (zs 22 [zM 2,zX (.bin .lss iX (zk 0)),zM 23,zL 24 false 2,zG 24 false (.bin .gtr jY (zk 16384)),zX (.pick iN (.c (.bool true)) lM),zT 21 27] (.cond hM (zs 6 [zX (.mv (zk 1))] .ret) .skip))))) (zq (zd 29 [yA 0 (zM 7),yA 1 (zX (.nilchk mK)),yA 2 (zX (.fa 0 lR)),yA 3 (zX (.ld mV)),yA 4 (zM 2),yA 5 (zM 7),yA 6 (zX (.nilchk mE)),yA 7 (zX (.fa 0 oW)),yA 8 (zX (.ld mD)),yA 9 (zX (.lenS oP)),yA 10 (zX (.mn mF sU)),yA 11 (zX (.slS lF none (some rN))),yA 12 (zM 2),yA 13 (zF 101 [qT,uE]),yA 14 (zT 28 42),yA 15 (zX (.ext 0 lL)),yA 16 (zX (.ext 1 lL)),yA 17 (zT 9 43),yA 18 (zT 10 44)]) (zs 45 [zM 0,zM 7,zM 9,zF 102 [xY,uL,xX],zT 6 48] .ret)))))
theorem bYp : iA3 E bHZ R47 (aRV E) := λ σ h => by kernel_rfl
def D47 : DF := ⟨3, 49, bHZ, R47⟩
def S47 : cD := fA3 (aRV E)
theorem bLh : SQ D47 S47 := λ E => eA3 (d := D47) (bYp E) rfl
def R48 : List RV := [(.r p2)]
def aRU (E : bN) (r0 : DV) (h : H) : aV := vK (aBq r0 (ii 0)) λ x1 => vK (aAo x1 (ii 65536)) λ x2 => vK (eC [(ii 0), .nils, (ii 0)] [(0, 1, x2)]) λ x3 => dT x3 h λ x4 h5 => some (x4, h5)
def bHY : DC := (zs 2 [zX (.mv (.c .nilp))] (zs 3 [zM 0,zX (.mx o3 (zk 0)),zX (.mn o4 (zk 65536)),zX (.bld [(.int .i64 (.ofNat 0)),.nils,(.int .i64 (.ofNat 0))] [(0,1,o5)]),zX (.box o6),zT 2 7] .ret))
theorem bYo : oA E bHY R48 (aRU E) := λ σ h => by kernel_rfl
def D48 : DF := ⟨1, 8, bHY, R48⟩
def S48 : cD := oD (aRU E)
theorem bLg : SQ D48 S48 := λ E => oI (d := D48) (bYo E) rfl
def R49 : List RV := []
def aRS (r0 r3 : DV) (h : H) : aV := wK (aD E 103 [r0, (.fn (.func 104) [] [r3])] h) λ x1 h2 => some ((.tup []), h2)
def bHW : DC := (zr 24 [zM 0,zX (.mkF (.func 104) [] [o3]),zF 103 [iN,jY]])
def aRT (r0 r1 : DV) (h : H) : aV := dT r1 h λ x1 h2 => vK (dX .ptr true h2.get r0 .nilp) λ x3 => bA x3 true (λ kk => kk r0 h2) h2 λ x4 h5 => bA x3 true (λ kk => vK (aM x4) λ v => kk v h5) h5 λ x6 h7 => bA x3 true (λ kk => vK (aF 2 x6) λ v => kk v h7) h7 λ x8 h9 => bA x3 true (λ kk => vK (aG h9.get x8) λ v => kk v h9) h9 λ x10 h11 => bA x3 true (λ kk => vK (bS x10 (ii 0)) λ v => kk v h11) h11 λ x12 h13 => vK (aW x3 x12 (.bool false)) λ x14 => bA x14 true (λ kk => vK (aG h13.get x1) λ v => kk v h13) h13 λ x15 h16 => bA x14 true (λ kk => vK (cR x15 (ii 0)) λ v => kk v h16) h16 λ x17 h18 => bA x14 true (λ kk => kk x17 h18) h18 λ x19 h20 => bA x19 false (λ kk => vK (aG h20.get x1) λ v => kk v h20) h20 λ x21 h22 => bA x19 false (λ kk => vK (eJ x21 (ii 255)) λ v => kk v h22) h22 λ x23 h24 => bA x14 true (λ kk => vK (aW x19 (.bool true) x23) λ v => kk v h24) h24 λ x25 h26 => vK (aW x14 x25 (.bool false)) λ x27 => bK x27 (vK (aM r0) λ x28 => vK (aF 2 x28) λ x29 => wK (bR 1 x29 (ii 1) h26) λ x30 h31 => aRS E r0 x1 h31) (aRS E r0 x1 h26)
def bHX : DC := (zs 3 [zX (.box o1)] (zq (zs 4 [zM 0,zX (.eqv .ptr true o4 (.c .nilp)),zM 5,zL 6 true 0,zG 6 true (.nilchk o7),zG 6 true (.fa 2 o8),zG 6 true (.ld o9),zG 6 true (.bin .eql fS (zk 0)),zX (.pick o6 fY (.c (.bool false))),zM 12,zG 13 true (.ld o3),zG 13 true (.bin .lss iP (zk 0)),zL 13 true 15,zG 16 false (.ld o3),zG 16 false (.bin .gtr iI (zk 255)),zG 13 true (.pick hU (.c (.bool true)) iD),zX (.pick gA iO (.c (.bool false)))] (.cond iS (zr 21 [zM 0,zX (.nilchk hM),zX (.fa 2 iX),zW (.st 1 gW (zk 1))]) .skip)) bHW))
theorem bYm : Is E bHW (bO R49) (λ σ h => aRS E (σ p0) (σ p3) h) := λ σ h => by kernel_rfl
theorem bYn : mW E bHX R49 (aRT E) := Is.as (Is.seq (Is.seq (bYm E) (Is.leaf _)) (Is.leaf _)) λ σ h => by kernel_rfl
def D49 : DF := ⟨2, 27, bHX, R49⟩
def S49 : cD := mX (aRT E)
theorem bLf : SQ D49 S49 := λ E => nF (d := D49) (bYn E) rfl
def R50 : List RV := []
def aRR (r0 r1 : DV) (h : H) : aV := dT r1 h λ x1 h2 => wK (aD E 103 [r0, (.fn (.func 105) [] [x1])] h2) λ x3 h4 => some ((.tup []), h4)
def bHV : DC := (zs 3 [zX (.box o1)] (zr 4 [zM 0,zX (.mkF (.func 105) [] [o3]),zF 103 [o4,o5]]))
theorem bYl : mW E bHV R50 (aRR E) := λ σ h => by kernel_rfl
def D50 : DF := ⟨2, 7, bHV, R50⟩
def S50 : cD := mX (aRR E)
theorem bLe : SQ D50 S50 := λ E => nF (d := D50) (bYl E) rfl
def R51 : List RV := []
def aRQ (r0 r1 : DV) (h : H) : aV := dT r1 h λ x1 h2 => wK (aD E 103 [r0, (.fn (.func 107) [] [x1])] h2) λ x3 h4 => some ((.tup []), h4)
def bHU : DC := (zs 3 [zX (.box o1)] (zr 4 [zM 0,zX (.mkF (.func 107) [] [o3]),zF 103 [o4,o5]]))
theorem bYk : mW E bHU R51 (aRQ E) := λ σ h => by kernel_rfl
def D51 : DF := ⟨2, 7, bHU, R51⟩
def S51 : cD := mX (aRQ E)
theorem bLd : SQ D51 S51 := λ E => nF (d := D51) (bYk E) rfl
def R52 : List RV := [(.r p2),(.r p3)]
def aRP (E : bN) (r0 : DV) (h : H) : aV := vK (dX .ptr false h.get r0 .nilp) λ x1 => bK x1 (some ((.tup [(.str []), (ii 1)]), h)) (vK (aM r0) λ x2 => vK (aF 2 x2) λ x3 => vK (aG h.get x3) λ x4 => vK (dC x4 (ii 0)) λ x5 => bK x5 (vK (aM r0) λ x6 => vK (aF 2 x6) λ x7 => vK (aG h.get x7) λ x8 => some ((.tup [(.str []), x8]), h)) (vK (aM r0) λ x9 => vK (aF 1 x9) λ x10 => vK (aG h.get x10) λ x11 => vK (mU h.get x11) λ x12 => some ((.tup [x12, (ii 0)]), h)))
def bHT : DC := (zs 2 [zX (.mv (.c (.str []))),zX (.mv (zk 0))] (zq (.block 0 (zs 5 [zM 0,zX (.eqv .ptr false o5 (.c .nilp)),zT 4 6] (.cond o4 (zs 2 [zX (.mv (.c (.str []))),zX (.mv (zk 1))] .ret) (zs 8 [zM 0,zX (.nilchk o8),zX (.fa 2 o9),zX (.ld fS),zX (.bin .neq fY (zk 0)),zT 7 12] (.cond o7 (zq (zd 13 [yA 0 (zM 0),yA 1 (zX (.nilchk gA)),yA 2 (zX (.fa 2 iP)),yA 3 (zX (.ld jH)),yA 4 (zY 2 (.mv (.c (.str [])))),yA 5 (zT 3 16)]) .ret) .skip))))) (zs 17 [zM 0,zX (.nilchk iI),zX (.fa 1 iD),zX (.ld iO),zX (.b2s iS),zT 2 21,zY 3 (.mv (zk 0))] .ret)))
theorem bYj : oA E bHT R52 (aRP E) := λ σ h => by kernel_rfl
def D52 : DF := ⟨1, 22, bHT, R52⟩
def S52 : cD := oD (aRP E)
theorem bLc : SQ D52 S52 := λ E => oI (d := D52) (bYj E) rfl
def R53 : List RV := [(.r p2)]
def aMP (E : bN) (r3 r4 : DV) (h : H) : aV := vK (fE .u8 r3) λ x1 => gI 1 1 [(.int .u8 (.ofNat 0))] [(0, 1, x1)] h λ x2 h3 => wK (cE 1 1 r4 x2 h3) λ x4 h5 => vK (mU h5.get x4) λ x6 => some (x6, h5)
def bHQ : DC := (zs 23 [zM 4,zM 3,zX (.conv .u8 iN),zX (.bsl 1 1 [(.int .u8 (.ofNat 0))] [(0,1,jY)]),zD ⟨(some p27),none,(.w (.app 1 1 gW lM))⟩,zT 4 27] (zs 28 [zM 4,zX (.b2s lL),zT 2 29] .ret))
def aNg (i3 : DV → DV → H → aV) (r3 r4 : DV) (h : H) : aV := vK (nS r3 (.int .u64 (.ofNat 128))) λ x1 => bK x1 (vK (aEc r3 (.int .u64 (.ofNat 127))) λ x2 => vK (fE .u8 x2) λ x3 => vK (aSz x3 (.int .u8 (.ofNat 128))) λ x4 => gI 1 1 [(.int .u8 (.ofNat 0))] [(0, 1, x4)] h λ x5 h6 => wK (cE 1 1 r4 x5 h6) λ x7 h8 => vK (yE r3 (.int .u64 (.ofNat 7))) λ x9 => i3 x9 x7 h8) (aMP E r3 r4 h)
def aHP (n : Nat) : DV → DV → H → aV := Nat.rec (motive := λ _ => DV → DV → H → aV) (λ _ _ _ => none) (λ _ i => aNg E i) n
def bHP : DC := (.loop (zq (zs 12 [zM 3,zX (.bin .geq fV (.c (.int .u64 (.ofNat 128))))] (.cond gA .skip (.exit 0))) (.block 1 (zs 14 [zM 4,zM 3,zX (.bin .and jH (.c (.int .u64 (.ofNat 127)))),zX (.conv .u8 hU),zX (.bin .or iI (.c (.int .u8 (.ofNat 128)))),zX (.bsl 1 1 [(.int .u8 (.ofNat 0))] [(0,1,iD)]),zD ⟨(some p20),none,(.w (.app 1 1 iP iO))⟩,zT 4 20] (zr 21 [zM 3,zX (.bin .shr hM (.c (.int .u64 (.ofNat 7)))),zT 3 22])))))
def aXL (r3 : DV) (h : H) : aV := aHP E aT r3 .nils h
def bHR : DC := (zs 4 [zX (.mv (.c .nils))] (zq (.block 0 bHP) bHQ))
def aRO (r0 : DV) (h : H) : aV := vK (fE .u64 r0) λ x1 => vK (aDZ x1 (.int .u64 (.ofNat 1))) λ x2 => vK (cR r0 (ii 0)) λ x3 => bK x3 (vK (aDX x2 (.int .u64 (.ofNat 18446744073709551615))) λ x4 => aXL E x4 h) (aXL E x2 h)
def bHS : DC := (zs 2 [zX (.mv (.c (.str [])))] (zs 5 [zM 0,zX (.conv .u64 o5),zX (.bin .shl o6 (.c (.int .u64 (.ofNat 1)))),zT 3 7] (zq (zs 8 [zM 0,zX (.bin .lss o8 (zk 0))] (.cond o9 (zr 10 [zM 3,zX (.bin .xor fS (.c (.int .u64 (.ofNat 18446744073709551615)))),zT 3 11]) .skip)) bHR)))
theorem bYg : Is E bHQ (bO R53) (λ σ h => aMP E (σ p3) (σ p4) h) := λ σ h => by kernel_rfl
abbrev bWZ : gT (DV × H) := (cG (λ σ h => aMP E (σ p3) (σ p4) h) (bO R53))
theorem bYf : Is E bHP (bM 0 (bWZ E)) (λ σ h => aHP E aT (σ p3) (σ p4) h) := Is.loop (λ n3 σ h => aHP E n3 (σ p3) (σ p4) h) (by kernel_rfl) λ n3 => Is.as (Is.leaf _) λ σ h => by kernel_rfl
theorem bYh : Is E bHR (bO R53) (λ σ h => aXL E (σ p3) h) := Is.as (Is.seq (Is.seq (bYg E) (Is.block (bYf E))) (Is.leaf _)) λ σ h => by kernel_rfl
theorem bYi : oA E bHS R53 (aRO E) := Is.as (Is.seq (Is.seq (Is.seq (bYh E) (Is.leaf _)) (Is.leaf _)) (Is.leaf _)) λ σ h => by kernel_rfl
def D53 : DF := ⟨1, 30, bHS, R53⟩
def S53 : cD := oD (aRO E)
theorem bLb : SQ D53 S53 := λ E => oI (d := D53) (bYi E) rfl
def R54 : List RV := [(.r p2)]
def aRN (r0 : DV) (h : H) : aV := vK (cA r0) λ x1 => wK (aD E 53 [x1] h) λ x2 h3 => vK (bL x2 r0) λ x4 => some (x4, h3)
def bHO : DC := (zs 2 [zX (.mv (.c (.str [])))] (zs 3 [zM 0,zX (.lenS o3),zF 53 [o4],zM 0,zX (.bin .add o5 o6),zT 2 7] .ret))
theorem bYe : oA E bHO R54 (aRN E) := λ σ h => by kernel_rfl
def D54 : DF := ⟨1, 8, bHO, R54⟩
def S54 : cD := oD (aRN E)
theorem bLa : SQ D54 S54 := λ E => oI (d := D54) (bYe E) rfl
def R55 : List RV := [(.r p2)]
def bGK (E : bN) (r0 : DV) (h : H) : aV := vK (eC [(.str []), (.bool false)] [(0, 1, r0)]) λ x1 => dT x1 h λ x2 h3 => some (x2, h3)
def bHN : DC := (zs 2 [zX (.mv (.c .nilp))] (zs 3 [zM 0,zX (.bld [(.str []),(.bool false)] [(0,1,o3)]),zX (.box o4),zT 2 5] .ret))
theorem bYd : oA E bHN R55 (bGK E) := λ σ h => by kernel_rfl
def D55 : DF := ⟨1, 6, bHN, R55⟩
def S55 : cD := oD (bGK E)
theorem bKZ : SQ D55 S55 := λ E => oI (d := D55) (bYd E) rfl
def R56 : List RV := [(.r p2)]
def bGJ (r0 : DV) (h : H) : aV := wK (aD E 109 [r0, (ii 1)] h) λ x1 h2 => vK (aH 0 x1) λ x3 => vK (aH 1 x1) λ x4 => bK x4 (vK (gO x3 (ii 0)) λ x5 => vK (fE .i64 x5) λ x6 => some (x6, h2)) (some ((ii 0), h2))
def bHM : DC := (zs 2 [zX (.mv (zk 0))] (zq (zs 6 [zM 0,zF 109 [o6,(zk 1)],zT 5 7,zX (.ext 0 o5),zX (.ext 1 o5),zT 3 8,zT 4 9] (zs 10 [zM 4] (.cond fS (zs 11 [zM 3,zX (.ixS fY (zk 0)),zX (.conv .i64 fV),zT 2 13] .ret) .skip))) (zs 2 [zX (.mv (zk 0))] .ret)))
theorem bYc : oA E bHM R56 (bGJ E) := λ σ h => by kernel_rfl
def D56 : DF := ⟨1, 14, bHM, R56⟩
def S56 : cD := oD (bGJ E)
theorem bKY : SQ D56 S56 := λ E => oI (d := D56) (bYc E) rfl
def R57 : List RV := [(.r p2)]
def bGI (r0 : DV) (h : H) : aV := vK (dX .ptr false h.get r0 .nilp) λ x1 => bK x1 (some ((ii 0), h)) (vK (aM r0) λ x2 => vK (aF 0 x2) λ x3 => vK (aG h.get x3) λ x4 => wK (aD E 110 [x4] h) λ x5 h6 => vK (aH 0 x5) λ x7 => vK (aH 1 x5) λ x8 => vK (bS x8 (ii 0)) λ x9 => bK x9 (wK (aD E 111 [r0] h6) λ x10 h11 => some ((ii 0), h11)) (wK (aD E 109 [r0, x8] h6) λ x12 h13 => vK (yE x7 (.int .u64 (.ofNat 1))) λ x14 => vK (fE .i64 x14) λ x15 => vK (aEc x7 (.int .u64 (.ofNat 1))) λ x16 => vK (fE .i64 x16) λ x17 => vK (aKQ x17) λ x18 => vK (aDX x15 x18) λ x19 => some (x19, h13)))
def bHL : DC := (zs 2 [zX (.mv (zk 0))] (zq (zs 5 [zM 0,zX (.eqv .ptr false o5 (.c .nilp))] (.cond o6 (zs 2 [zX (.mv (zk 0))] .ret) .skip)) (zs 8 [zM 0,zX (.nilchk o8),zX (.fa 0 o9),zX (.ld fS),zF 110 [fY],zT 7 12,zX (.ext 0 o7),zX (.ext 1 o7),zT 3 13,zT 4 14] (zq (zs 15 [zM 4,zX (.bin .eql jH (zk 0))] (.cond hU (zs 17 [zM 0,zF 111 [iI]] (zs 2 [zX (.mv (zk 0))] .ret)) .skip)) (zs 19 [zM 0,zM 4,zF 109 [iO,iS]] (zs 22 [zM 3,zX (.bin .shr iX (.c (.int .u64 (.ofNat 1)))),zX (.conv .i64 gW),zM 3,zX (.bin .and jY (.c (.int .u64 (.ofNat 1)))),zX (.conv .i64 lM),zX (.neg lG),zX (.bin .xor iN lL),zT 2 29] .ret))))))
theorem bYb : oA E bHL R57 (bGI E) := λ σ h => by kernel_rfl
def D57 : DF := ⟨1, 30, bHL, R57⟩
def S57 : cD := oD (bGI E)
theorem bKX : SQ D57 S57 := λ E => oI (d := D57) (bYb E) rfl
def R58 : List RV := [(.r p2)]
def bGH (r0 : DV) (h : H) : aV := wK (aD E 57 [r0] h) λ x1 h2 => wK (aD E 109 [r0, x1] h2) λ x3 h4 => vK (aH 0 x3) λ x5 => vK (aH 1 x3) λ x6 => some (x5, h4)
def bHK : DC := (zs 2 [zX (.mv (.c (.str [])))] (zs 6 [zM 0,zM 0,zF 57 [o7],zF 109 [o6,o8],zT 5 9,zX (.ext 0 o5),zX (.ext 1 o5),zT 3 10,zT 4 11] (zs 2 [zT 12 3,zM 12] .ret)))
theorem bYa : oA E bHK R58 (bGH E) := λ σ h => by kernel_rfl
def D58 : DF := ⟨1, 13, bHK, R58⟩
def S58 : cD := oD (bGH E)
theorem bKW : SQ D58 S58 := λ E => oI (d := D58) (bYa E) rfl
def R59 : List RV := [(.r p2)]
def bGG (E : bN) (r0 : DV) (h : H) : aV := vK (dX .ptr false h.get r0 .nilp) λ x1 => bK x1 (some ((ii 1), h)) (vK (aM r0) λ x2 => vK (aF 1 x2) λ x3 => vK (aG h.get x3) λ x4 => bA x4 false (λ kk => kk r0 h) h λ x5 h6 => bA x4 false (λ kk => vK (aM x5) λ v => kk v h6) h6 λ x7 h8 => bA x4 false (λ kk => vK (aF 0 x7) λ v => kk v h8) h8 λ x9 h10 => bA x4 false (λ kk => vK (aG h10.get x9) λ v => kk v h10) h10 λ x11 h12 => bA x4 false (λ kk => vK (dC x11 (.str [])) λ v => kk v h12) h12 λ x13 h14 => vK (aW x4 (.bool true) x13) λ x15 => bK x15 (some ((ii 3), h14)) (some ((ii 0), h14)))
def bHJ : DC := (zs 2 [zX (.mv (zk 0))] (zq (.block 0 (zs 4 [zM 0,zX (.eqv .ptr false o4 (.c .nilp)),zT 3 5] (.cond o3 (zs 2 [zX (.mv (zk 1))] .ret) (zs 7 [zM 0,zX (.nilchk o7),zX (.fa 1 o8),zX (.ld o9),zM 10,zL 11 false 0,zG 11 false (.nilchk fV),zG 11 false (.fa 0 gA),zG 11 false (.ld iP),zG 11 false (.bin .neq jH (.c (.str []))),zX (.pick fY (.c (.bool true)) hU),zT 6 17] (.cond o6 (zs 2 [zX (.mv (zk 3))] .ret) .skip))))) (zs 2 [zX (.mv (zk 0))] .ret)))
theorem bXZ : oA E bHJ R59 (bGG E) := λ σ h => by kernel_rfl
def D59 : DF := ⟨1, 18, bHJ, R59⟩
def S59 : cD := oD (bGG E)
theorem bKV : SQ D59 S59 := λ E => oI (d := D59) (bXZ E) rfl
def R65 : List RV := [(.r p0)]
def aRM (E : bN) (h : H) : aV := vK (eC [.nils] []) λ x1 => dT x1 h λ x2 h3 => some (x2, h3)
def bHI : DC := (zs 0 [zX (.mv (.c .nilp))] (zs 1 [zX (.bld [.nils] []),zX (.box o1),zT 0 2] .ret))
theorem bXY : iA0 E bHI R65 (aRM E) := λ σ h => by kernel_rfl
def D65 : DF := ⟨0, 3, bHI, R65⟩
def S65 : cD := fA0 (aRM E)
theorem bKU : SQ D65 S65 := λ E => eA0 (d := D65) (bXY E) rfl
def R66 : List RV := [(.cells p6 2),(.r p7)]
def aHR (E : bN) (r2 r3 r6 r11 r12 : DV) (h : H) : aV := vK (aF 0 r3) λ x1 => vK (aG h.get x1) λ x2 => vK (dM 5 x2 none (some r12)) λ x3 => vK (aF 1 r3) λ x4 => vK (aG h.get x4) λ x5 => vK (eC [(ii 0), (ii 0), (ii 0), (.str []), .nils] [(0, 1, r11), (1, 1, x5), (2, 1, r2)]) λ x6 => gI 1 5 [(ii 0), (ii 0), (ii 0), (.str []), .nils] [(0, 5, x6)] h λ x7 h8 => vK (aF 0 r3) λ x9 => vK (aG h8.get x9) λ x10 => vK (dM 5 x10 (some r12) none) λ x11 => wK (cE 5 64 .nils x3 h8) λ x12 h13 => rK (rcK (aG h13.get x9) x10) <| rK (rcK (aG h13.get x4) x5) <| wK (cE 5 64 x12 x7 h13) λ x14 h15 => rK (rcK (aG h15.get x9) x10) <| wK (cE 5 64 x14 x11 h15) λ x16 h17 => vK (aF 0 r3) λ x18 => wK (bR 1 x18 x16 h17) λ x19 h20 => vK (aK 2 h20.get r3) λ x21 => wK (bR 2 r6 x21 h20) λ x22 h23 => vK (aK 2 h23.get r6) λ x24 => some ((.tup [x24, (ii 0)]), h23)
def bHE : DC := (zq (zd 69 [yA 0 (zY 64 (.fa 0 o3)),yA 1 (zY 65 (.ld o64)),yA 2 (zT 66 12),yA 3 (zY 67 (.slL 5 o65 none (some o66))),yA 5 (zM 11),yA 6 (zX (.fa 1 o3)),yA 7 (zX (.ld o70)),yA 8 (zM 2),yA 9 (zX (.bld [(.int .i64 (.ofNat 0)),(.int .i64 (.ofNat 0)),(.int .i64 (.ofNat 0)),(.str []),.nils] [(0,1,o69),(1,1,o71),(2,1,o72)])),yA 10 (zX (.bsl 1 5 [(.int .i64 (.ofNat 0)),(.int .i64 (.ofNat 0)),(.int .i64 (.ofNat 0)),(.str []),.nils] [(0,5,o73)])),yA 12 (zY 76 (.fa 0 o3)),yA 13 (zY 77 (.ld o76)),yA 14 (zT 78 12),yA 15 (zY 79 (.slL 5 o77 (some o78) none)),yB 4 (zD ⟨(some p68),none,(.w (.app 5 64 (.c .nils) o67))⟩) [13,7] false,yB 11 (zD ⟨(some p75),none,(.w (.app 5 64 o68 o74))⟩) [13] false,yA 16 (zD ⟨(some p80),none,(.w (.app 5 64 o75 o79))⟩),yA 17 (zY 81 (.fa 0 o3)),yA 18 (zW (.st 1 o81 o80))]) (zs 7 [zY 82 (.ldN 2 o3),zW (.st 2 o6 o82),zX (.mv (zk 0))] .ret))
def aNe (r2 r3 r6 r11 : DV) (i4 : DV → H → aV) (r12 : DV) (h : H) : aV := vK (aF 0 r3) λ x1 => vK (aG h.get x1) λ x2 => vK (cB x2) λ x3 => vK (cR r12 x3) λ x4 => bA x4 true (λ kk => vK (aF 0 r3) λ v => kk v h) h λ x5 h6 => bA x4 true (λ kk => vK (aG h6.get x5) λ v => kk v h6) h6 λ x7 h8 => bA x4 true (λ kk => kk r12 h8) h8 λ x9 h10 => bA x4 true (λ kk => vK (bZ 5 x7 x9) λ v => kk v h10) h10 λ x11 h12 => bA x4 true (λ kk => vK (aF 0 x11) λ v => kk v h12) h12 λ x13 h14 => bA x4 true (λ kk => vK (aG h14.get x13) λ v => kk v h14) h14 λ x15 h16 => bA x4 true (λ kk => kk r11 h16) h16 λ x17 h18 => bA x4 true (λ kk => vK (cR x15 x17) λ v => kk v h18) h18 λ x19 h20 => vK (aW x4 x19 (.bool false)) λ x21 => bK x21 (vK (bL r12 (ii 1)) λ x22 => i4 x22 h20) (aHR E r2 r3 r6 r11 r12 h20)
def aHN (r2 r3 r6 r11 : DV) (n : Nat) : DV → H → aV := Nat.rec (motive := λ _ => DV → H → aV) (λ _ _ => none) (λ _ i => aNe E r2 r3 r6 r11 i) n
def bHD : DC := (.loop (zq (zs 47 [zM 12,zX (.fa 0 o3),zX (.ld o48),zX (.lenL o49),zX (.bin .lss xX o50),zM 51,zG 52 true (.fa 0 o3),zG 52 true (.ld o53),zL 52 true 12,zG 52 true (.iaS 5 o54 o55),zG 52 true (.fa 0 o56),zG 52 true (.ld o57),zL 52 true 11,zG 52 true (.bin .lss o58 o59),zX (.pick o52 o60 (.c (.bool false)))] (.cond o61 .skip (.exit 2))) (.block 3 (zr 62 [zM 12,zX (.bin .add o62 (zk 1)),zT 12 63]))))
def aMO (r2 r3 r6 r8 r9 r11 : DV) (h : H) : aV := vK (nS r11 (ii 256)) λ x1 => bK x1 (vK (aK 2 h.get r3) λ x2 => wK (bR 2 r6 x2 h) λ x3 h4 => vK (aK 2 h4.get r6) λ x5 => some ((.tup [x5, (ii 5)]), h4)) (vK (aK 2 h.get r3) λ x6 => wK (aD E 123 [x6, r8, r9, r11] h) λ x7 h8 => wK (bR 2 r3 x7 h8) λ x9 h10 => vK (aF 1 r3) λ x11 => vK (aG h10.get x11) λ x12 => vK (bL x12 (ii 1)) λ x13 => vK (aF 1 r3) λ x14 => wK (bR 1 x14 x13 h10) λ x15 h16 => aHN E r2 r3 r6 r11 aT (ii 0) h16)
def bHG : DC := (zq (zs 35 [zM 11,zX (.bin .geq oW (zk 256))] (.cond mD (zs 7 [zY 37 (.ldN 2 o3),zW (.st 2 o6 oP),zX (.mv (zk 5))] .ret) .skip)) (zs 38 [zX (.ldN 2 o3),zM 8,zM 9,zM 11,zF 123 [sU,rN,qT,uE],zW (.st 2 o3 uJ)] (zs 43 [zX (.fa 1 o3),zX (.ld uD),zX (.bin .add rT (zk 1)),zX (.fa 1 o3),zW (.st 1 uL xY)] (zs 12 [zX (.mv (zk 0))] (zq (.block 2 bHD) bHE)))))
def aNf (r2 r3 r6 r8 r9 : DV) (i2 : DV → H → aV) (r11 : DV) (h : H) : aV := vK (aK 2 h.get r3) λ x1 => wK (aD E 122 [x1, r11] h) λ x2 h3 => vK (nS x2 (ii 0)) λ x4 => bK x4 (vK (bL r11 (ii 1)) λ x5 => i2 x5 h3) (aMO E r2 r3 r6 r8 r9 r11 h3)
def aHO (r2 r3 r6 r8 r9 : DV) (n : Nat) : DV → H → aV := Nat.rec (motive := λ _ => DV → H → aV) (λ _ _ => none) (λ _ i => aNf E r2 r3 r6 r8 r9 i) n
def bHF : DC := (.loop (zq (zs 29 [zX (.ldN 2 o3),zM 11,zF 122 [mK,lR],zX (.bin .geq mV (zk 0))] (.cond lF .skip (.exit 0))) (.block 1 (zr 33 [zM 11,zX (.bin .add mF (zk 1)),zT 11 34]))))
def aRL (r0 r1 r2 : DV) (h : H) : aV := dT r0 h λ x1 h2 => dZ 2 2 (.list [.nils, (ii 0)]) h2 λ x3 h4 => vK (aK 2 h4.get x1) λ x5 => wK (aD E 120 [x5, r1] h4) λ x6 h7 => vK (aH 0 x6) λ x8 => vK (aH 1 x6) λ x9 => vK (aH 2 x6) λ x10 => vK (dC x10 (ii 0)) λ x11 => bK x11 (vK (aK 2 h7.get x1) λ x12 => wK (bR 2 x3 x12 h7) λ x13 h14 => vK (aK 2 h14.get x3) λ x15 => some ((.tup [x15, x10]), h14)) (vK (aK 2 h7.get x1) λ x16 => wK (aD E 121 [x16, x8, x9] h7) λ x17 h18 => bK x17 (vK (aK 2 h18.get x1) λ x19 => wK (bR 2 x3 x19 h18) λ x20 h21 => vK (aK 2 h21.get x3) λ x22 => some ((.tup [x22, (ii 6)]), h21)) (aHO E r2 x1 x3 x8 x9 aT (ii 2) h18))
def bHH : DC := (zs 6 [zY 3 (.box o0),zX (.alc 2 2 (.list [.nils,(.int .i64 (.ofNat 0))])),zX (.mv (zk 0))] (zs 14 [zX (.ldN 2 o3),zM 1,zF 120 [iP,jH],zT 13 16,zX (.ext 0 gA),zX (.ext 1 gA),zX (.ext 2 gA),zT 8 17,zT 9 18,zT 10 19] (zq (zs 20 [zM 10,zX (.bin .neq iS (zk 0))] (.cond hM (zs 22 [zX (.ldN 2 o3),zM 10,zW (.st 2 o6 iX),zT 7 23] .ret) .skip)) (zq (zs 24 [zX (.ldN 2 o3),zM 8,zM 9,zF 121 [iN,jY,lM]] (.cond lG (zs 7 [zY 28 (.ldN 2 o3),zW (.st 2 o6 lL),zX (.mv (zk 6))] .ret) .skip)) (zs 11 [zX (.mv (zk 2))] (zq (.block 0 bHF) bHG))))))
theorem bXU : Is E bHE (bO R66) (λ σ h => aHR E (σ p2) (σ p3) (σ p6) (σ p11) (σ p12) h) := λ σ h => by kernel_rfl
abbrev bWY : gT (DV × H) := (cG (λ σ h => aHR E (σ p2) (σ p3) (σ p6) (σ p11) (σ p12) h) (bO R66))
theorem bXT : Is E bHD (bM 2 (bWY E)) (λ σ h => aHN E (σ p2) (σ p3) (σ p6) (σ p11) aT (σ p12) h) := Is.loop (λ n4 σ h => aHN E (σ p2) (σ p3) (σ p6) (σ p11) n4 (σ p12) h) (by kernel_rfl) λ n4 => Is.as (Is.leaf _) λ σ h => by kernel_rfl
theorem bXW : Is E bHG (bO R66) (λ σ h => aMO E (σ p2) (σ p3) (σ p6) (σ p8) (σ p9) (σ p11) h) := Is.as (Is.seq (Is.seq (Is.seq (Is.seq (Is.seq (bXU E) (Is.block (bXT E))) (Is.leaf _)) (Is.leaf _)) (Is.leaf _)) (Is.leaf _)) λ σ h => by kernel_rfl
abbrev bWX : gT (DV × H) := (cG (λ σ h => aMO E (σ p2) (σ p3) (σ p6) (σ p8) (σ p9) (σ p11) h) (bO R66))
theorem bXV : Is E bHF (bM 0 (bWX E)) (λ σ h => aHO E (σ p2) (σ p3) (σ p6) (σ p8) (σ p9) aT (σ p11) h) := Is.loop (λ n2 σ h => aHO E (σ p2) (σ p3) (σ p6) (σ p8) (σ p9) n2 (σ p11) h) (by kernel_rfl) λ n2 => Is.as (Is.leaf _) λ σ h => by kernel_rfl
theorem bXX : iA3 E bHH R66 (aRL E) := Is.as (Is.seq (Is.seq (Is.seq (Is.seq (Is.seq (Is.seq (bXW E) (Is.block (bXV E))) (Is.leaf _)) (Is.leaf _)) (Is.leaf _)) (Is.leaf _)) (Is.leaf _)) λ σ h => by kernel_rfl
def D66 : DF := ⟨3, 83, bHH, R66⟩
def S66 : cD := fA3 (aRL E)
theorem bKT : SQ D66 S66 := λ E => eA3 (d := D66) (bXX E) rfl
def R67 : List RV := [(.cells p4 2),(.r p5)]
def aXK (E : bN) (r2 r4 : DV) (h : H) : aV := vK (aK 2 h.get r2) λ x1 => wK (bR 2 r4 x1 h) λ x2 h3 => vK (aK 2 h3.get r4) λ x4 => some ((.tup [x4, (ii 0)]), h3)
def bHB : DC := (zs 5 [zY 54 (.ldN 2 o2),zW (.st 2 o4 o54),zX (.mv (zk 0))] .ret)
def aRK (r0 r1 : DV) (h : H) : aV := dT r0 h λ x1 h2 => dZ 2 2 (.list [.nils, (ii 0)]) h2 λ x3 h4 => vK (aK 2 h4.get x1) λ x5 => wK (aD E 124 [x5, r1] h4) λ x6 h7 => vK (aH 0 x6) λ x8 => vK (aH 1 x6) λ x9 => vK (dC x9 (ii 0)) λ x10 => bK x10 (vK (aK 2 h7.get x1) λ x11 => wK (bR 2 x3 x11 h7) λ x12 h13 => vK (aK 2 h13.get x3) λ x14 => some ((.tup [x14, x9]), h13)) (vK (aF 0 x1) λ x15 => vK (aG h7.get x15) λ x16 => vK (bZ 5 x16 x8) λ x17 => vK (aF 2 x17) λ x18 => vK (aG h7.get x18) λ x19 => vK (bS x19 (ii 2)) λ x20 => bK x20 (vK (aK 2 h7.get x1) λ x21 => wK (bR 2 x3 x21 h7) λ x22 h23 => vK (aK 2 h23.get x3) λ x24 => some ((.tup [x24, (ii 12)]), h23)) (vK (aF 0 x1) λ x25 => vK (aG h7.get x25) λ x26 => vK (bZ 5 x26 x8) λ x27 => vK (aF 0 x27) λ x28 => vK (aG h7.get x28) λ x29 => vK (aK 2 h7.get x1) λ x30 => wK (aD E 120 [x30, r1] h7) λ x31 h32 => vK (aH 0 x31) λ x33 => vK (aH 1 x31) λ x34 => vK (aH 2 x31) λ x35 => vK (aK 2 h32.get x1) λ x36 => wK (aD E 125 [x36, x33, x34] h32) λ x37 h38 => wK (bR 2 x1 x37 h38) λ x39 h40 => vK (aK 2 h40.get x1) λ x41 => wK (aD E 126 [x41, x29] h40) λ x42 h43 => vK (bS x42 (ii 0)) λ x44 => bK x44 (vK (aK 2 h43.get x1) λ x45 => wK (aD E 127 [x45, x29] h43) λ x46 h47 => wK (bR 2 x1 x46 h47) λ x48 h49 => aXK E x1 x3 h49) (aXK E x1 x3 h43)))
def bHC : DC := (zs 4 [zY 2 (.box o0),zX (.alc 2 2 (.list [.nils,(.int .i64 (.ofNat 0))])),zX (.mv (zk 0))] (zs 13 [zX (.ldN 2 o2),zM 1,zF 124 [gA,iP],zT 12 15,zX (.ext 0 fV),zX (.ext 1 fV),zT 6 16,zT 7 17] (zq (zs 18 [zM 7,zX (.bin .neq iD (zk 0))] (.cond iO (zs 20 [zX (.ldN 2 o2),zM 7,zW (.st 2 o4 iS),zT 5 21] .ret) .skip)) (zq (zs 22 [zX (.fa 0 o2),zX (.ld iX),zM 6,zX (.iaS 5 gW iN),zX (.fa 2 jY),zX (.ld lM),zX (.bin .eql lG (zk 2))] (.cond lL (zs 5 [zY 29 (.ldN 2 o2),zW (.st 2 o4 mK),zX (.mv (zk 12))] .ret) .skip)) (zs 30 [zX (.fa 0 o2),zX (.ld lR),zM 6,zX (.iaS 5 mV lF),zX (.fa 0 mF),zX (.ld mE),zT 8 35] (zs 37 [zX (.ldN 2 o2),zM 1,zF 120 [oP,sU],zT 36 39,zX (.ext 0 mD),zX (.ext 1 mD),zX (.ext 2 mD),zT 9 40,zT 10 41,zT 11 42] (zs 43 [zX (.ldN 2 o2),zM 9,zM 10,zF 125 [uD,rT,xY],zW (.st 2 o2 uL)] (zq (zs 47 [zX (.ldN 2 o2),zM 8,zF 126 [xX,o48],zX (.bin .eql o49 (zk 0))] (.cond o50 (zr 51 [zX (.ldN 2 o2),zM 8,zF 127 [o51,o52],zW (.st 2 o2 o53)]) .skip)) bHB))))))))
theorem bXR : Is E bHB (bO R67) (λ σ h => aXK E (σ p2) (σ p4) h) := λ σ h => by kernel_rfl
theorem bXS : mW E bHC R67 (aRK E) := Is.as (Is.seq (Is.seq (Is.seq (Is.seq (Is.seq (Is.seq (Is.seq (Is.seq (bXR E) (Is.leaf _)) (Is.leaf _)) (Is.leaf _)) (Is.leaf _)) (Is.leaf _)) (Is.leaf _)) (Is.leaf _)) (Is.leaf _)) λ σ h => by kernel_rfl
def D67 : DF := ⟨2, 55, bHC, R67⟩
def S67 : cD := mX (aRK E)
theorem bKS : SQ D67 S67 := λ E => nF (d := D67) (bXS E) rfl
def R68 : List RV := [(.cells p4 2),(.r p5)]
def aRJ (r0 r1 : DV) (h : H) : aV := dT r0 h λ x1 h2 => dZ 2 2 (.list [.nils, (ii 0)]) h2 λ x3 h4 => vK (aK 2 h4.get x1) λ x5 => wK (aD E 124 [x5, r1] h4) λ x6 h7 => vK (aH 0 x6) λ x8 => vK (aH 1 x6) λ x9 => vK (dC x9 (ii 0)) λ x10 => bK x10 (vK (aK 2 h7.get x1) λ x11 => wK (bR 2 x3 x11 h7) λ x12 h13 => vK (aK 2 h13.get x3) λ x14 => some ((.tup [x14, x9]), h13)) (vK (aF 0 x1) λ x15 => vK (aG h7.get x15) λ x16 => vK (bZ 5 x16 x8) λ x17 => vK (aF 2 x17) λ x18 => vK (aG h7.get x18) λ x19 => vK (bS x19 (ii 1)) λ x20 => bK x20 (vK (aK 2 h7.get x1) λ x21 => wK (bR 2 x3 x21 h7) λ x22 h23 => vK (aK 2 h23.get x3) λ x24 => some ((.tup [x24, (ii 13)]), h23)) (vK (aF 0 x1) λ x25 => vK (aG h7.get x25) λ x26 => vK (bZ 5 x26 x8) λ x27 => vK (aF 0 x27) λ x28 => vK (aG h7.get x28) λ x29 => vK (bS x29 (ii 1)) λ x30 => bK x30 (vK (aK 2 h7.get x1) λ x31 => wK (bR 2 x3 x31 h7) λ x32 h33 => vK (aK 2 h33.get x3) λ x34 => some ((.tup [x34, (ii 1)]), h33)) (vK (aF 0 x1) λ x35 => vK (aG h7.get x35) λ x36 => vK (bZ 5 x36 x8) λ x37 => vK (aF 4 x37) λ x38 => vK (aG h7.get x38) λ x39 => vK (cB x39) λ x40 => vK (eJ x40 (ii 0)) λ x41 => bK x41 (vK (aK 2 h7.get x1) λ x42 => wK (bR 2 x3 x42 h7) λ x43 h44 => vK (aK 2 h44.get x3) λ x45 => some ((.tup [x45, (ii 14)]), h44)) (vK (aF 0 x1) λ x46 => vK (aG h7.get x46) λ x47 => vK (bZ 5 x47 x8) λ x48 => vK (aF 0 x48) λ x49 => vK (aG h7.get x49) λ x50 => vK (aK 2 h7.get x1) λ x51 => wK (aD E 120 [x51, r1] h7) λ x52 h53 => vK (aH 0 x52) λ x54 => vK (aH 1 x52) λ x55 => vK (aH 2 x52) λ x56 => vK (aK 2 h53.get x1) λ x57 => wK (aD E 125 [x57, x54, x55] h53) λ x58 h59 => wK (aD E 127 [x58, x50] h59) λ x60 h61 => wK (bR 2 x3 x60 h61) λ x62 h63 => vK (aK 2 h63.get x3) λ x64 => some ((.tup [x64, (ii 0)]), h63)))))
def bHA : DC := (zs 4 [zY 2 (.box o0),zX (.alc 2 2 (.list [.nils,(.int .i64 (.ofNat 0))])),zX (.mv (zk 0))] (zs 13 [zX (.ldN 2 o2),zM 1,zF 124 [gA,iP],zT 12 15,zX (.ext 0 fV),zX (.ext 1 fV),zT 6 16,zT 7 17] (zq (.block 0 (zs 19 [zM 7,zX (.bin .neq iO (zk 0)),zT 18 20] (.cond iD (zs 21 [zX (.ldN 2 o2),zM 7,zW (.st 2 o4 hM),zT 5 22] .ret) (zs 24 [zX (.fa 0 o2),zX (.ld iN),zM 6,zX (.iaS 5 jY lM),zX (.fa 2 lG),zX (.ld lL),zX (.bin .eql mK (zk 1)),zT 23 30] (.cond gW (zs 5 [zY 31 (.ldN 2 o2),zW (.st 2 o4 mV),zX (.mv (zk 13))] .ret) (zs 33 [zX (.fa 0 o2),zX (.ld mF),zM 6,zX (.iaS 5 mE oW),zX (.fa 0 mD),zX (.ld oP),zX (.bin .eql sU (zk 1)),zT 32 39] (.cond lF (zs 5 [zY 40 (.ldN 2 o2),zW (.st 2 o4 qT),zX (.mv (zk 1))] .ret) (zs 42 [zX (.fa 0 o2),zX (.ld uJ),zM 6,zX (.iaS 5 uD rT),zX (.fa 4 xY),zX (.ld uL),zX (.lenL xX),zX (.bin .gtr o48 (zk 0)),zT 41 49] (.cond uE (zs 5 [zY 50 (.ldN 2 o2),zW (.st 2 o4 o50),zX (.mv (zk 14))] .ret) .skip))))))))) (zs 51 [zX (.fa 0 o2),zX (.ld o51),zM 6,zX (.iaS 5 o52 o53),zX (.fa 0 o54),zX (.ld o55),zT 8 56] (zs 58 [zX (.ldN 2 o2),zM 1,zF 120 [o58,o59],zT 57 60,zX (.ext 0 o57),zX (.ext 1 o57),zX (.ext 2 o57),zT 9 61,zT 10 62,zT 11 63] (zs 64 [zX (.ldN 2 o2),zM 9,zM 10,zF 125 [o64,o65,o66],zM 8,zF 127 [o67,o68],zW (.st 2 o4 o69),zY 5 (.mv (zk 0))] .ret))))))
theorem bXQ : mW E bHA R68 (aRJ E) := λ σ h => by kernel_rfl
def D68 : DF := ⟨2, 70, bHA, R68⟩
def S68 : cD := mX (aRJ E)
theorem bKR : SQ D68 S68 := λ E => nF (d := D68) (bXQ E) rfl
def R69 : List RV := [(.cells p6 2),(.r p7)]
def aRI (r0 r1 r2 : DV) (h : H) : aV := dT r0 h λ x1 h2 => dZ 2 2 (.list [.nils, (ii 0)]) h2 λ x3 h4 => vK (aK 2 h4.get x1) λ x5 => wK (aD E 124 [x5, r1] h4) λ x6 h7 => vK (aH 0 x6) λ x8 => vK (aH 1 x6) λ x9 => vK (dC x9 (ii 0)) λ x10 => bK x10 (vK (aK 2 h7.get x1) λ x11 => wK (bR 2 x3 x11 h7) λ x12 h13 => vK (aK 2 h13.get x3) λ x14 => some ((.tup [x14, x9]), h13)) (vK (aK 2 h7.get x1) λ x15 => wK (aD E 120 [x15, r2] h7) λ x16 h17 => vK (aH 0 x16) λ x18 => vK (aH 1 x16) λ x19 => vK (aH 2 x16) λ x20 => vK (dC x20 (ii 0)) λ x21 => bK x21 (vK (aK 2 h17.get x1) λ x22 => wK (bR 2 x3 x22 h17) λ x23 h24 => vK (aK 2 h24.get x3) λ x25 => some ((.tup [x25, x20]), h24)) (vK (aF 0 x1) λ x26 => vK (aG h17.get x26) λ x27 => vK (bZ 5 x27 x8) λ x28 => vK (aF 0 x28) λ x29 => vK (aG h17.get x29) λ x30 => vK (bS x30 (ii 1)) λ x31 => bA x31 false (λ kk => kk r1 h17) h17 λ x32 h33 => bA x31 false (λ kk => kk r2 h33) h33 λ x34 h35 => bA x31 false (λ kk => wK (aD E 128 [x32, x34] h35) kk) h35 λ x36 h37 => vK (aW x31 (.bool true) x36) λ x38 => bK x38 (vK (aK 2 h37.get x1) λ x39 => wK (bR 2 x3 x39 h37) λ x40 h41 => vK (aK 2 h41.get x3) λ x42 => some ((.tup [x42, (ii 1)]), h41)) (wK (aD E 129 [r1] h37) λ x43 h44 => vK (aH 0 x43) λ x45 => vK (aH 1 x43) λ x46 => wK (aD E 129 [r2] h44) λ x47 h48 => vK (aH 0 x47) λ x49 => vK (aH 1 x47) λ x50 => vK (bS x45 x49) λ x51 => bK x51 (vK (aK 2 h48.get x1) λ x52 => wK (bR 2 x3 x52 h48) λ x53 h54 => vK (aK 2 h54.get x3) λ x55 => some ((.tup [x55, (ii 0)]), h54)) (vK (aK 2 h48.get x1) λ x56 => wK (aD E 120 [x56, r2] h48) λ x57 h58 => vK (aH 0 x57) λ x59 => vK (aH 1 x57) λ x60 => vK (aH 2 x57) λ x61 => vK (aK 2 h58.get x1) λ x62 => wK (aD E 121 [x62, x59, x19] h58) λ x63 h64 => bK x63 (vK (aK 2 h64.get x1) λ x65 => wK (bR 2 x3 x65 h64) λ x66 h67 => vK (aK 2 h67.get x3) λ x68 => some ((.tup [x68, (ii 6)]), h67)) (vK (aK 2 h64.get x1) λ x69 => wK (aD E 120 [x69, r1] h64) λ x70 h71 => vK (aH 0 x70) λ x72 => vK (aH 1 x70) λ x73 => vK (aH 2 x70) λ x74 => vK (aK 2 h71.get x1) λ x75 => wK (aD E 125 [x75, x72, x73] h71) λ x76 h77 => wK (bR 2 x1 x76 h77) λ x78 h79 => vK (aK 2 h79.get x1) λ x80 => wK (aD E 123 [x80, x59, x19, x30] h79) λ x81 h82 => wK (bR 2 x3 x81 h82) λ x83 h84 => vK (aK 2 h84.get x3) λ x85 => some ((.tup [x85, (ii 0)]), h84))))))
def bHz : DC := (zs 6 [zY 3 (.box o0),zX (.alc 2 2 (.list [.nils,(.int .i64 (.ofNat 0))])),zX (.mv (zk 0))] (zs 24 [zX (.ldN 2 o3),zM 1,zF 124 [iN,jY],zT 23 26,zX (.ext 0 gW),zX (.ext 1 gW),zT 8 27,zT 9 28] (zq (zs 29 [zM 9,zX (.bin .neq mK (zk 0))] (.cond lR (zs 31 [zX (.ldN 2 o3),zM 9,zW (.st 2 o6 mV),zT 7 32] .ret) .skip)) (zs 34 [zX (.ldN 2 o3),zM 2,zF 120 [mE,oW],zT 33 36,zX (.ext 0 mF),zX (.ext 1 mF),zX (.ext 2 mF),zT 10 37,zT 11 38,zT 9 39] (zq (zs 40 [zM 9,zX (.bin .neq qT (zk 0))] (.cond uE (zs 42 [zX (.ldN 2 o3),zM 9,zW (.st 2 o6 uJ),zT 7 43] .ret) .skip)) (zs 44 [zX (.fa 0 o3),zX (.ld rT),zM 8,zX (.iaS 5 xY uL),zX (.fa 0 xX),zX (.ld o48),zT 12 49] (zq (zs 50 [zM 12,zX (.bin .eql o50 (zk 1)),zM 51,zL 52 false 1,zL 52 false 2,zD ⟨(some p55),(some (p52,false)),(.c (.f 128 [o53,o54]))⟩,zY 56 (.pick o52 (.c (.bool true)) o55)] (.cond o56 (zs 7 [zY 57 (.ldN 2 o3),zW (.st 2 o6 o57),zX (.mv (zk 1))] .ret) .skip)) (zs 59 [zM 1,zF 129 [o59],zT 58 60,zX (.ext 0 o58),zX (.ext 1 o58),zT 13 61,zT 14 62] (zs 64 [zM 2,zF 129 [o64],zT 63 65,zX (.ext 0 o63),zX (.ext 1 o63),zT 15 66,zT 16 67] (zq (zs 68 [zM 13,zM 15,zX (.bin .eql o68 o69)] (.cond o70 (zs 7 [zY 71 (.ldN 2 o3),zW (.st 2 o6 o71),zX (.mv (zk 0))] .ret) .skip)) (zs 73 [zX (.ldN 2 o3),zM 2,zF 120 [o73,o74],zT 72 75,zX (.ext 0 o72),zX (.ext 1 o72),zX (.ext 2 o72),zT 17 76,zT 18 77,zT 19 78] (zq (zs 79 [zX (.ldN 2 o3),zM 17,zM 11,zF 121 [o79,o80,o81]] (.cond o82 (zs 7 [zY 83 (.ldN 2 o3),zW (.st 2 o6 o83),zX (.mv (zk 6))] .ret) .skip)) (zs 85 [zX (.ldN 2 o3),zM 1,zF 120 [o85,o86],zT 84 87,zX (.ext 0 o84),zX (.ext 1 o84),zX (.ext 2 o84),zT 20 88,zT 21 89,zT 22 90] (zs 91 [zX (.ldN 2 o3),zM 20,zM 21,zF 125 [o91,o92,o93],zW (.st 2 o3 o94)] (zs 95 [zX (.ldN 2 o3),zM 17,zM 11,zM 12,zF 123 [o95,o96,o97,o98],zW (.st 2 o6 o99),zY 7 (.mv (zk 0))] .ret)))))))))))))))
theorem bXP : iA3 E bHz R69 (aRI E) := λ σ h => by kernel_rfl
def D69 : DF := ⟨3, 100, bHz, R69⟩
def S69 : cD := fA3 (aRI E)
theorem bKQ : SQ D69 S69 := λ E => eA3 (d := D69) (bXP E) rfl
def R70 : List RV := [(.cells p6 2),(.r p7)]
def aRH (r0 r1 r2 : DV) (h : H) : aV := dT r0 h λ x1 h2 => dZ 2 2 (.list [.nils, (ii 0)]) h2 λ x3 h4 => vK (aK 2 h4.get x1) λ x5 => wK (aD E 124 [x5, r1] h4) λ x6 h7 => vK (aH 0 x6) λ x8 => vK (aH 1 x6) λ x9 => vK (dC x9 (ii 0)) λ x10 => bK x10 (vK (aK 2 h7.get x1) λ x11 => wK (bR 2 x3 x11 h7) λ x12 h13 => vK (aK 2 h13.get x3) λ x14 => some ((.tup [x14, x9]), h13)) (vK (aK 2 h7.get x1) λ x15 => wK (aD E 120 [x15, r2] h7) λ x16 h17 => vK (aH 0 x16) λ x18 => vK (aH 1 x16) λ x19 => vK (aH 2 x16) λ x20 => vK (dC x20 (ii 0)) λ x21 => bK x21 (vK (aK 2 h17.get x1) λ x22 => wK (bR 2 x3 x22 h17) λ x23 h24 => vK (aK 2 h24.get x3) λ x25 => some ((.tup [x25, x20]), h24)) (vK (aF 0 x1) λ x26 => vK (aG h17.get x26) λ x27 => vK (bZ 5 x27 x8) λ x28 => vK (aF 2 x28) λ x29 => vK (aG h17.get x29) λ x30 => vK (bS x30 (ii 2)) λ x31 => bK x31 (vK (aK 2 h17.get x1) λ x32 => wK (bR 2 x3 x32 h17) λ x33 h34 => vK (aK 2 h34.get x3) λ x35 => some ((.tup [x35, (ii 12)]), h34)) (vK (aK 2 h17.get x1) λ x36 => wK (aD E 121 [x36, x18, x19] h17) λ x37 h38 => bK x37 (vK (aK 2 h38.get x1) λ x39 => wK (bR 2 x3 x39 h38) λ x40 h41 => vK (aK 2 h41.get x3) λ x42 => some ((.tup [x42, (ii 6)]), h41)) (vK (aK 2 h38.get x1) λ x43 => vK (aF 0 x1) λ x44 => vK (aG h38.get x44) λ x45 => vK (bZ 5 x45 x8) λ x46 => vK (aF 0 x46) λ x47 => vK (aG h38.get x47) λ x48 => wK (aD E 126 [x43, x48] h38) λ x49 h50 => vK (nS x49 (ii 100)) λ x51 => bK x51 (vK (aK 2 h50.get x1) λ x52 => wK (bR 2 x3 x52 h50) λ x53 h54 => vK (aK 2 h54.get x3) λ x55 => some ((.tup [x55, (ii 5)]), h54)) (vK (aK 2 h50.get x1) λ x56 => vK (aF 0 x1) λ x57 => vK (aG h50.get x57) λ x58 => vK (bZ 5 x58 x8) λ x59 => vK (aF 0 x59) λ x60 => vK (aG h50.get x60) λ x61 => wK (aD E 123 [x56, x18, x19, x61] h50) λ x62 h63 => wK (bR 2 x3 x62 h63) λ x64 h65 => vK (aK 2 h65.get x3) λ x66 => some ((.tup [x66, (ii 0)]), h65))))))
def bHy : DC := (zs 6 [zY 3 (.box o0),zX (.alc 2 2 (.list [.nils,(.int .i64 (.ofNat 0))])),zX (.mv (zk 0))] (zs 13 [zX (.ldN 2 o3),zM 1,zF 124 [gA,iP],zT 12 15,zX (.ext 0 fV),zX (.ext 1 fV),zT 8 16,zT 9 17] (zq (zs 18 [zM 9,zX (.bin .neq iD (zk 0))] (.cond iO (zs 20 [zX (.ldN 2 o3),zM 9,zW (.st 2 o6 iS),zT 7 21] .ret) .skip)) (zs 23 [zX (.ldN 2 o3),zM 2,zF 120 [gW,iN],zT 22 25,zX (.ext 0 iX),zX (.ext 1 iX),zX (.ext 2 iX),zT 10 26,zT 11 27,zT 9 28] (zq (.block 0 (zs 30 [zM 9,zX (.bin .neq lR (zk 0)),zT 29 31] (.cond mK (zs 32 [zX (.ldN 2 o3),zM 9,zW (.st 2 o6 lF),zT 7 33] .ret) (zs 35 [zX (.fa 0 o3),zX (.ld oW),zM 8,zX (.iaS 5 mD oP),zX (.fa 2 sU),zX (.ld rN),zX (.bin .eql qT (zk 2)),zT 34 41] (.cond mE (zs 7 [zY 42 (.ldN 2 o3),zW (.st 2 o6 uJ),zX (.mv (zk 12))] .ret) (zs 44 [zX (.ldN 2 o3),zM 10,zM 11,zF 121 [rT,xY,uL],zT 43 47] (.cond uD (zs 7 [zY 48 (.ldN 2 o3),zW (.st 2 o6 o48),zX (.mv (zk 6))] .ret) (zq (zd 50 [yA 0 (zX (.ldN 2 o3)),yA 1 (zX (.fa 0 o3)),yA 2 (zX (.ld o51)),yA 3 (zM 8),yA 4 (zX (.iaS 5 o52 o53)),yA 5 (zX (.fa 0 o54)),yA 6 (zX (.ld o55)),yA 7 (zF 126 [o50,o56]),yA 8 (zX (.bin .geq o57 (zk 100))),yA 9 (zT 49 58)]) (.cond o49 (zs 7 [zY 59 (.ldN 2 o3),zW (.st 2 o6 o59),zX (.mv (zk 5))] .ret) .skip))))))))) (zq (zd 60 [yA 0 (zX (.ldN 2 o3)),yA 1 (zM 10),yA 2 (zM 11),yA 3 (zX (.fa 0 o3)),yA 4 (zX (.ld o63)),yA 5 (zM 8),yA 6 (zX (.iaS 5 o64 o65)),yA 7 (zX (.fa 0 o66)),yA 8 (zX (.ld o67)),yA 9 (zF 123 [o60,o61,o62,o68]),yA 10 (zW (.st 2 o6 o69)),yA 11 (zY 7 (.mv (zk 0)))]) .ret))))))
theorem bXO : iA3 E bHy R70 (aRH E) := λ σ h => by kernel_rfl
def D70 : DF := ⟨3, 70, bHy, R70⟩
def S70 : cD := fA3 (aRH E)
theorem bKP : SQ D70 S70 := λ E => eA3 (d := D70) (bXO E) rfl
def R71 : List RV := [(.cells p8 2),(.r p9)]
def aRG (r0 r1 r2 r3 : DV) (h : H) : aV := dT r0 h λ x1 h2 => dZ 2 2 (.list [.nils, (ii 0)]) h2 λ x3 h4 => vK (aK 2 h4.get x1) λ x5 => wK (aD E 130 [x5, r1] h4) λ x6 h7 => vK (aH 0 x6) λ x8 => vK (aH 1 x6) λ x9 => vK (dC x9 (ii 0)) λ x10 => bK x10 (vK (aK 2 h7.get x1) λ x11 => wK (bR 2 x3 x11 h7) λ x12 h13 => vK (aK 2 h13.get x3) λ x14 => some ((.tup [x14, x9]), h13)) (vK (aK 2 h7.get x1) λ x15 => wK (aD E 90 [x15, x8, r2, r3] h7) λ x16 h17 => vK (aH 0 x16) λ x18 => vK (aH 1 x16) λ x19 => wK (bR 2 x3 x18 h17) λ x20 h21 => vK (aK 2 h21.get x3) λ x22 => some ((.tup [x22, x19]), h21))
def bHx : DC := (zs 8 [zY 4 (.box o0),zX (.alc 2 2 (.list [.nils,(.int .i64 (.ofNat 0))])),zX (.mv (zk 0))] (zs 13 [zX (.ldN 2 o4),zM 1,zF 130 [gA,iP],zT 12 15,zX (.ext 0 fV),zX (.ext 1 fV),zT 10 16,zT 11 17] (zq (zs 18 [zM 11,zX (.bin .neq iD (zk 0))] (.cond iO (zs 20 [zX (.ldN 2 o4),zM 11,zW (.st 2 o8 iS),zT 9 21] .ret) .skip)) (zs 22 [zX (.ldN 2 o4),zM 10,zM 2,zM 3,zF 90 [iX,gW,iN,jY],zX (.ext 0 lM),zX (.ext 1 lM),zW (.st 2 o8 lG),zT 9 28] .ret))))
theorem bXN : iA4 E bHx R71 (aRG E) := λ σ h => by kernel_rfl
def D71 : DF := ⟨4, 29, bHx, R71⟩
def S71 : cD := fA4 (aRG E)
theorem bKO : SQ D71 S71 := λ E => eA4 (d := D71) (bXN E) rfl
def R72 : List RV := [(.cells p6 2),(.r p7)]
def aMN (r2 r3 r6 r8 r10 : DV) (h : H) : aV := vK (aK 2 h.get r3) λ x1 => vK (gV r10 none (some r2)) λ x2 => wK (aD E 132 [x1, r8, x2] h) λ x3 h4 => vK (aH 0 x3) λ x5 => vK (aH 1 x3) λ x6 => wK (bR 2 r6 x5 h4) λ x7 h8 => vK (aK 2 h8.get r6) λ x9 => some ((.tup [x9, x6]), h8)
def bHv : DC := (zq (zd 45 [yA 0 (zX (.ldN 2 o3)),yA 1 (zM 8),yA 2 (zM 10),yA 3 (zM 2),yA 4 (zX (.slS xX none (some o48))),yA 5 (zF 132 [xY,uL,o49]),yA 6 (zX (.ext 0 o50)),yA 7 (zX (.ext 1 o50)),yA 8 (zW (.st 2 o6 o51)),yA 9 (zT 7 52)]) .ret)
def aRF (r0 r1 r2 : DV) (h : H) : aV := dT r0 h λ x1 h2 => dZ 2 2 (.list [.nils, (ii 0)]) h2 λ x3 h4 => vK (aK 2 h4.get x1) λ x5 => wK (aD E 130 [x5, r1] h4) λ x6 h7 => vK (aH 0 x6) λ x8 => vK (aH 1 x6) λ x9 => vK (dC x9 (ii 0)) λ x10 => bK x10 (vK (aK 2 h7.get x1) λ x11 => wK (bR 2 x3 x11 h7) λ x12 h13 => vK (aK 2 h13.get x3) λ x14 => some ((.tup [x14, x9]), h13)) (vK (cR r2 (ii 0)) λ x15 => bA x15 false (λ kk => kk r2 h7) h7 λ x16 h17 => bA x15 false (λ kk => vK (eJ x16 (ii 16384)) λ v => kk v h17) h17 λ x18 h19 => vK (aW x15 (.bool true) x18) λ x20 => bK x20 (vK (aK 2 h19.get x1) λ x21 => wK (bR 2 x3 x21 h19) λ x22 h23 => vK (aK 2 h23.get x3) λ x24 => some ((.tup [x24, (ii 1)]), h23)) (vK (aF 0 x1) λ x25 => vK (aG h19.get x25) λ x26 => vK (bZ 5 x26 x8) λ x27 => vK (aF 3 x27) λ x28 => vK (aG h19.get x28) λ x29 => vK (cA x29) λ x30 => vK (eJ r2 x30) λ x31 => bK x31 (vK (cA x29) λ x32 => vK (fB r2 x32) λ x33 => wK (aD E 131 [x33] h19) λ x34 h35 => vK (bL x29 x34) λ x36 => aMN E r2 x1 x3 x8 x36 h35) (aMN E r2 x1 x3 x8 x29 h19)))
def bHw : DC := (zs 6 [zY 3 (.box o0),zX (.alc 2 2 (.list [.nils,(.int .i64 (.ofNat 0))])),zX (.mv (zk 0))] (zs 12 [zX (.ldN 2 o3),zM 1,zF 130 [fV,gA],zT 11 14,zX (.ext 0 fY),zX (.ext 1 fY),zT 8 15,zT 9 16] (zq (zs 17 [zM 9,zX (.bin .neq iI (zk 0))] (.cond iD (zs 19 [zX (.ldN 2 o3),zM 9,zW (.st 2 o6 iO),zT 7 20] .ret) .skip)) (zq (zs 21 [zM 2,zX (.bin .lss hM (zk 0)),zM 22,zL 23 false 2,zG 23 false (.bin .gtr iN (zk 16384)),zX (.pick gW (.c (.bool true)) jY)] (.cond lM (zs 7 [zY 27 (.ldN 2 o3),zW (.st 2 o6 lG),zX (.mv (zk 1))] .ret) .skip)) (zs 28 [zX (.fa 0 o3),zX (.ld lL),zM 8,zX (.iaS 5 mK lR),zX (.fa 3 mV),zX (.ld lF),zT 10 33] (zq (zs 34 [zM 2,zM 10,zX (.lenS oW),zX (.bin .gtr mE mD)] (.cond oP (zr 38 [zM 10,zM 2,zM 10,zX (.lenS qT),zX (.bin .sub rN uE),zF 131 [uJ],zX (.bin .add sU uD),zT 10 44]) .skip)) bHv))))))
theorem bXL : Is E bHv (bO R72) (λ σ h => aMN E (σ p2) (σ p3) (σ p6) (σ p8) (σ p10) h) := λ σ h => by kernel_rfl
theorem bXM : iA3 E bHw R72 (aRF E) := Is.as (Is.seq (Is.seq (Is.seq (Is.seq (Is.seq (Is.seq (bXL E) (Is.leaf _)) (Is.leaf _)) (Is.leaf _)) (Is.leaf _)) (Is.leaf _)) (Is.leaf _)) λ σ h => by kernel_rfl
def D72 : DF := ⟨3, 53, bHw, R72⟩
def S72 : cD := fA3 (aRF E)
theorem bKN : SQ D72 S72 := λ E => eA3 (d := D72) (bXM E) rfl
def R74 : List RV := []
def aRE (r0 r1 : DV) (h : H) : aV := wK (aD E 48 [(ii 65536)] h) λ x1 h2 => wK (oQ E r0 [x1] h2) λ x3 h4 => wK (aD E 52 [x1] h4) λ x5 h6 => vK (aH 0 x5) λ x7 => vK (aH 1 x5) λ x8 => vK (aG h6.get r1) λ x9 => wK (cE 1 1 x9 x7 h6) λ x10 h11 => wK (bR 1 r1 x10 h11) λ x12 h13 => some ((.tup []), h13)
def bHu : DC := (zs 6 [zF 48 [(zk 65536)],zT 3 6] (zs 7 [zM 0,zM 3,zD ⟨(some p9),none,(.c (.v o7 [o8]))⟩] (zs 11 [zM 3,zF 52 [fY],zT 10 12,zX (.ext 0 fS),zX (.ext 1 fS),zT 4 13,zT 5 14] (zr 15 [zX (.ld o1),zM 4,zD ⟨(some p17),none,(.w (.app 1 1 jH hU))⟩,zW (.st 1 o1 iI)]))))
theorem bXK : mW E bHu R74 (aRE E) := λ σ h => by kernel_rfl
def D74 : DF := ⟨2, 18, bHu, R74⟩
def S74 : cD := mX (aRE E)
theorem bKM : SQ D74 S74 := λ E => nF (d := D74) (bXK E) rfl
def R75 : List RV := []
def aRD (r0 r1 r2 : DV) (h : H) : aV := vK (aG h.get r1) λ x1 => vK (aM x1) λ x2 => vK (aF 512 x2) λ x3 => vK (aG h.get x3) λ x4 => wK (aD E 50 [r0, x4] h) λ x5 h6 => vK (aG h6.get r2) λ x7 => wK (aD E 50 [r0, x7] h6) λ x8 h9 => some ((.tup []), h9)
def bHt : DC := (zs 4 [zM 0,zX (.ld o1),zX (.nilchk o5),zX (.fa 512 o6),zX (.ld o7),zF 50 [o4,o8]] (zr 10 [zM 0,zX (.ld o2),zF 50 [fS,fY]]))
theorem bXJ : iA3 E bHt R75 (aRD E) := λ σ h => by kernel_rfl
def D75 : DF := ⟨3, 13, bHt, R75⟩
def S75 : cD := fA3 (aRD E)
theorem bKL : SQ D75 S75 := λ E => eA3 (d := D75) (bXJ E) rfl
def R76 : List RV := []
def aRC (r0 r1 r2 : DV) (h : H) : aV := vK (aG h.get r1) λ x1 => wK (aD E 50 [r0, x1] h) λ x2 h3 => vK (aF 0 r2) λ x4 => vK (aG h3.get x4) λ x5 => wK (aD E 50 [r0, x5] h3) λ x6 h7 => vK (aF 1 r2) λ x8 => vK (aG h7.get x8) λ x9 => wK (vS E [(120, 217), (141, 221)] x9 [] h7) λ x10 h11 => wK (aD E 49 [r0, x10] h11) λ x12 h13 => vK (aF 1 r2) λ x14 => vK (aG h13.get x14) λ x15 => wK (vS E [(120, 219), (141, 223)] x15 [] h13) λ x16 h17 => wK (aD E 51 [r0, x16] h17) λ x18 h19 => some ((.tup []), h19)
def bHs : DC := (zs 4 [zM 0,zX (.ld o1),zF 50 [o4,o5]] (zs 7 [zM 0,zX (.fa 0 o2),zX (.ld o8),zF 50 [o7,o9]] (zs 15 [zT 11 0,zY 12 (.fa 1 o2),zY 13 (.ld fV),zD ⟨(some p14),none,(.c (.m [(120,217),(141,221)] gA []))⟩,zF 49 [fY,iP]] (zr 20 [zT 16 0,zY 17 (.fa 1 o2),zY 18 (.ld iI),zD ⟨(some p19),none,(.c (.m [(120,219),(141,223)] iD []))⟩,zF 51 [hU,iO]]))))
theorem bXI : iA3 E bHs R76 (aRC E) := λ σ h => by kernel_rfl
def D76 : DF := ⟨3, 21, bHs, R76⟩
def S76 : cD := fA3 (aRC E)
theorem bKK : SQ D76 S76 := λ E => eA3 (d := D76) (bXI E) rfl
def R77 : List RV := [(.r p2)]
def aXJ (E : bN) (r3 : DV) (h : H) : aV := some (r3, h)
def bHq : DC := (zs 2 [zT 29 3,zM 29] .ret)
def aNd (r0 : DV) (i2 : DV → DV → H → aV) (r3 r4 : DV) (h : H) : aV := vK (cB r0) λ x1 => vK (cR r4 x1) λ x2 => bK x2 (vK (bZ 2 r0 r4) λ x3 => vK (aF 0 x3) λ x4 => vK (aG h.get x4) λ x5 => vK (bZ 2 r0 r4) λ x6 => vK (aF 1 x6) λ x7 => vK (aG h.get x7) λ x8 => wK (aD E 54 [x5] h) λ x9 h10 => rK (rcK (aG h10.get x7) x8) <| wK (aD E 53 [x8] h10) λ x11 h12 => vK (bL x9 x11) λ x13 => vK (bL r3 x13) λ x14 => vK (bL r4 (ii 1)) λ x15 => i2 x14 x15 h12) (aXJ E r3 h)
def aHM (r0 : DV) (n : Nat) : DV → DV → H → aV := Nat.rec (motive := λ _ => DV → DV → H → aV) (λ _ _ _ => none) (λ _ i => aNd E r0 i) n
def bHp : DC := (.loop (zq (zs 8 [zM 4,zM 0,zX (.lenL o9),zX (.bin .lss o8 fS)] (.cond fY .skip (.exit 0))) (zq (.block 1 (zd 21 [yA 0 (zT 14 3),yA 1 (zT 15 0),yA 2 (zT 16 4),yA 3 (zY 17 (.iaS 2 jH hU)),yA 4 (zY 18 (.fa 0 iI)),yA 5 (zY 19 (.ld iD)),yA 7 (zM 0),yA 8 (zM 4),yA 9 (zX (.iaS 2 hM iX)),yA 10 (zX (.fa 1 gW)),yA 11 (zX (.ld iN)),yB 6 (zD ⟨(some p20),none,(.c (.f 54 [iO]))⟩) [11] false,yA 12 (zF 53 [jY]),yA 13 (zX (.bin .add iS lM)),yA 14 (zX (.bin .add iP lG)),yB 15 (zT 3 28) [] true])) (zr 12 [zM 4,zX (.bin .add fV (zk 1)),zT 4 13]))))
def aRB (r0 : DV) (h : H) : aV := vK (cB r0) λ x1 => wK (aD E 53 [x1] h) λ x2 h3 => aHM E r0 aT x2 (ii 0) h3
def bHr : DC := (zs 2 [zX (.mv (.c (.str [])))] (zs 5 [zM 0,zX (.lenL o5),zF 53 [o6],zT 3 7] (zq (zs 4 [zX (.mv (zk 0))] (.block 0 bHp)) bHq)))
theorem bXG : Is E bHq (bO R77) (λ σ h => aXJ E (σ p3) h) := λ σ h => by kernel_rfl
abbrev bWW : gT (DV × H) := (cG (λ σ h => aXJ E (σ p3) h) (bO R77))
theorem bXF : Is E bHp (bM 0 (bWW E)) (λ σ h => aHM E (σ p0) aT (σ p3) (σ p4) h) := Is.loop (λ n2 σ h => aHM E (σ p0) n2 (σ p3) (σ p4) h) (by kernel_rfl) λ n2 => Is.as (Is.leaf _) λ σ h => by kernel_rfl
theorem bXH : oA E bHr R77 (aRB E) := Is.as (Is.seq (Is.seq (Is.seq (bXG E) (Is.seq (Is.block (bXF E)) (Is.leaf _))) (Is.leaf _)) (Is.leaf _)) λ σ h => by kernel_rfl
def D77 : DF := ⟨1, 30, bHr, R77⟩
def S77 : cD := oD (aRB E)
theorem bKJ : SQ D77 S77 := λ E => oI (d := D77) (bXH E) rfl
def R78 : List RV := [(.r p2),(.r p3)]
def aXI (r4 r5 : DV) (h : H) : aV := wK (aD E 59 [r4] h) λ x1 h2 => vK (dC x1 (ii 0)) λ x3 => bA x3 false (λ kk => kk r5 h2) h2 λ x4 h5 => bA x3 false (λ kk => wK (aD E 135 [x4] h5) kk) h5 λ x6 h7 => bA x3 false (λ kk => vK (kE x6) λ v => kk v h7) h7 λ x8 h9 => vK (aW x3 (.bool true) x8) λ x10 => bK x10 (some ((.tup [.nilp, (ii 3)]), h9)) (some ((.tup [r5, (ii 0)]), h9))
def bHn : DC := (zq (zs 48 [zM 4,zF 59 [o48],zX (.bin .neq o49 (zk 0)),zM 50,zL 51 false 5,zD ⟨(some p53),(some (p51,false)),(.c (.f 135 [o52]))⟩,zD ⟨(some p54),(some (p51,false)),(.e (.not o53))⟩,zY 55 (.pick o51 (.c (.bool true)) o54)] (.cond o55 (zs 2 [zX (.mv (.c .nilp)),zX (.mv (zk 3))] .ret) .skip)) (zs 2 [zT 56 5,zM 56,zX (.mv (zk 0))] .ret))
def bZH (r4 r5 r34 : DV) (i2 : DV → DV → H → aV) (r7 r35 : DV) (h : H) : aV := vK (cR r35 r34) λ x1 => bK x1 (wK (aD E 134 [r5, r4, r7] h) λ x2 h3 => vK (aH 0 x2) λ x4 => vK (aH 1 x2) λ x5 => vK (kE x5) λ x6 => bK x6 (some ((.tup [.nilp, (ii 3)]), h3)) (vK (bL r35 (ii 1)) λ x7 => i2 x4 x7 h3)) (aXI E r4 r5 h)
def aXo (r4 r5 r34 : DV) (n : Nat) : DV → DV → H → aV := Nat.rec (motive := λ _ => DV → DV → H → aV) (λ _ _ _ => none) (λ _ i => bZH E r4 r5 r34 i) n
def bHm : DC := (.loop (zs 36 [zX (.bin .lss oW mE)] (zq (.cond mD .skip (.exit 0)) (zq (.block 1 (zs 38 [zM 5,zM 4,zM 7,zF 134 [sU,rN,qT],zT 37 41,zX (.ext 0 oP),zX (.ext 1 oP),zT 8 42,zT 9 43] (zq (zs 44 [zM 9,zX (.not rT)] (.cond xY (zs 2 [zX (.mv (.c .nilp)),zX (.mv (zk 3))] .ret) .skip)) (zr 7 [zT 46 8,zM 46])))) (zr 35 [zY 47 (.bin .add oW (zk 1)),zM 47])))))
def bGF (r0 : DV) (h : H) : aV := wK (aD E 55 [r0] h) λ x1 h2 => vK (eC (zR [(ii 0), .nili] 256 ++ [(ii 0), (ii 0)]) []) λ x3 => dT x3 h2 λ x4 h5 => wK (aD E 57 [x1] h5) λ x6 h7 => vK (aM x4) λ x8 => vK (aF 512 x8) λ x9 => wK (bR 1 x9 x6 h7) λ x10 h11 => wK (aD E 57 [x1] h11) λ x12 h13 => vK (aM x4) λ x14 => vK (aF 512 x14) λ x15 => vK (aG h13.get x15) λ x16 => vK (cR x16 (ii 0)) λ x17 => bA x17 false (λ kk => kk x12 h13) h13 λ x18 h19 => bA x17 false (λ kk => vK (cR x18 (ii 0)) λ v => kk v h19) h19 λ x20 h21 => vK (aW x17 (.bool true) x20) λ x22 => bA x22 false (λ kk => kk x12 h21) h21 λ x23 h24 => bA x22 false (λ kk => vK (nS x23 (ii 256)) λ v => kk v h24) h24 λ x25 h26 => vK (aW x22 (.bool true) x25) λ x27 => bK x27 (some ((.tup [.nilp, (ii 3)]), h26)) (aXo E x1 x4 x12 aT (ii 0) (ii 0) h26)
def bHo : DC := (zs 2 [zX (.mv (.c .nilp)),zX (.mv (zk 0))] (zs 10 [zM 0,zF 55 [fS],zX (.bld (zR [(.int .i64 (.ofNat 0)),.nili] 256 ++ [(.int .i64 (.ofNat 0)),(.int .i64 (.ofNat 0))]) []),zX (.box fV),zT 4 11,zT 5 13] (zs 14 [zM 5,zM 4,zF 57 [jH],zX (.nilchk iP),zX (.fa 512 iI),zW (.st 1 iD hU)] (zs 19 [zM 4,zF 57 [iO],zT 6 20] (zq (zs 21 [zM 5,zX (.nilchk hM),zX (.fa 512 iX),zX (.ld gW),zX (.bin .lss iN (zk 0)),zM 25,zL 26 false 6,zG 26 false (.bin .lss lG (zk 0)),zX (.pick lM (.c (.bool true)) lL),zM 29,zL 30 false 6,zG 30 false (.bin .geq mV (zk 256)),zX (.pick lR (.c (.bool true)) lF)] (.cond mF (zs 2 [zX (.mv (.c .nilp)),zX (.mv (zk 3))] .ret) .skip)) (zs 7 [zX (.mv (zk 0))] (zq (zs 34 [zM 6,zX (.mv (zk 0))] (.block 0 bHm)) bHn)))))))
theorem bXD : Is E bHn (bO R78) (λ σ h => aXI E (σ p4) (σ p5) h) := λ σ h => by kernel_rfl
abbrev bWV : gT (DV × H) := (cG (λ σ h => aXI E (σ p4) (σ p5) h) (bO R78))
theorem bXC : Is E bHm (bM 0 (bWV E)) (λ σ h => aXo E (σ p4) (σ p5) (σ p34) aT (σ p7) (σ p35) h) := Is.loop (λ n2 σ h => aXo E (σ p4) (σ p5) (σ p34) n2 (σ p7) (σ p35) h) (by kernel_rfl) λ n2 => Is.as (Is.leaf _) λ σ h => by kernel_rfl
theorem bXE : oA E bHo R78 (bGF E) := Is.as (Is.seq (Is.seq (Is.seq (Is.seq (Is.seq (Is.seq (Is.seq (bXD E) (Is.seq (Is.block (bXC E)) (Is.leaf _))) (Is.leaf _)) (Is.leaf _)) (Is.leaf _)) (Is.leaf _)) (Is.leaf _)) (Is.leaf _)) λ σ h => by kernel_rfl
def D78 : DF := ⟨1, 57, bHo, R78⟩
def S78 : cD := oD (bGF E)
theorem bKI : SQ D78 S78 := λ E => oI (d := D78) (bXE E) rfl
def R79 : List RV := [(.r p4)]
def aXH (E : bN) (h : H) : aV := some ((.bool true), h)
def bHk : DC := (zs 4 [zX (.mv (.c (.bool true)))] .ret)
def aNc (r0 r1 : DV) (i2 : DV → H → aV) (r5 : DV) (h : H) : aV := vK (cB r0) λ x1 => vK (cR r5 x1) λ x2 => bK x2 (vK (bZ 1 r0 r5) λ x3 => vK (aG h.get x3) λ x4 => vK (bZ 1 r1 r5) λ x5 => vK (aG h.get x5) λ x6 => vK (dC x4 x6) λ x7 => bK x7 (some ((.bool false), h)) (vK (bL r5 (ii 1)) λ x8 => i2 x8 h)) (aXH E h)
def aHL (r0 r1 : DV) (n : Nat) : DV → H → aV := Nat.rec (motive := λ _ => DV → H → aV) (λ _ _ => none) (λ _ i => aNc E r0 r1 i) n
def bHj : DC := (.loop (zq (zs 11 [zM 5,zM 0,zX (.lenL fV),zX (.bin .lss fY gA)] (.cond iP .skip (.exit 0))) (zq (.block 1 (zq (zd 17 [yA 0 (zM 0),yA 1 (zM 5),yA 2 (zX (.iaS 1 iI iD)),yA 3 (zX (.ld iO)),yA 4 (zM 1),yA 5 (zM 5),yA 6 (zX (.iaS 1 hM iX)),yA 7 (zX (.ld gW)),yA 8 (zX (.bin .neq iS iN))]) (.cond jY (zs 4 [zX (.mv (.c (.bool false)))] .ret) .skip))) (zr 15 [zM 5,zX (.bin .add jH (zk 1)),zT 5 16]))))
def aRA (r0 r1 : DV) (h : H) : aV := vK (cB r0) λ x1 => vK (cB r1) λ x2 => vK (dC x1 x2) λ x3 => bK x3 (some ((.bool false), h)) (aHL E r0 r1 aT (ii 0) h)
def bHl : DC := (zs 4 [zX (.mv (.c (.bool false)))] (zq (zs 6 [zM 0,zX (.lenL o6),zM 1,zX (.lenL o8),zX (.bin .neq o7 o9)] (.cond fS (zs 4 [zX (.mv (.c (.bool false)))] .ret) .skip)) (zq (zs 5 [zX (.mv (zk 0))] (.block 0 bHj)) bHk)))
theorem bXA : Is E bHk (bO R79) (λ σ h => aXH E h) := λ σ h => by kernel_rfl
abbrev bWU : gT (DV × H) := (bM 0 (cG (λ σ h => aXH E h) (bO R79)))
theorem bXz : Is E bHj (bWU E) (λ σ h => aHL E (σ p0) (σ p1) aT (σ p5) h) := Is.loop (λ n2 σ h => aHL E (σ p0) (σ p1) n2 (σ p5) h) (by kernel_rfl) λ n2 => Is.as (Is.leaf _) λ σ h => by kernel_rfl
theorem bXB : mW E bHl R79 (aRA E) := Is.as (Is.seq (Is.seq (Is.seq (bXA E) (Is.seq (Is.block (bXz E)) (Is.leaf _))) (Is.leaf _)) (Is.leaf _)) λ σ h => by kernel_rfl
def D79 : DF := ⟨2, 26, bHl, R79⟩
def S79 : cD := mX (aRA E)
theorem bKH : SQ D79 S79 := λ E => nF (d := D79) (bXB E) rfl
def R80 : List RV := [(.r p8),(.r p9)]
def aRz (r0 r1 r2 r3 : DV) (h : H) : aV := dT r0 h λ x1 h2 => vK (aK 2 h2.get x1) λ x3 => wK (aD E 130 [x3, r1] h2) λ x4 h5 => vK (aH 0 x4) λ x6 => vK (aH 1 x4) λ x7 => vK (dC x7 (ii 0)) λ x8 => bK x8 (some ((.tup [(.str []), x7]), h5)) (vK (aK 2 h5.get x1) λ x9 => wK (aD E 93 [x9, x6, r2, r3] h5) λ x10 h11 => vK (aH 0 x10) λ x12 => vK (aH 1 x10) λ x13 => some ((.tup [x12, x13]), h11))
def bHi : DC := (zs 8 [zY 4 (.box o0),zX (.mv (.c (.str []))),zX (.mv (zk 0))] (zs 13 [zX (.ldN 2 o4),zM 1,zF 130 [gA,iP],zT 12 15,zX (.ext 0 fV),zX (.ext 1 fV),zT 10 16,zT 11 17] (zq (zs 18 [zM 11,zX (.bin .neq iD (zk 0))] (.cond iO (zs 8 [zT 20 11,zX (.mv (.c (.str []))),zM 20] .ret) .skip)) (zs 21 [zX (.ldN 2 o4),zM 10,zM 2,zM 3,zF 93 [hM,iX,gW,iN],zX (.ext 0 jY),zX (.ext 1 jY),zT 8 26,zT 9 27] .ret))))
theorem bXy : iA4 E bHi R80 (aRz E) := λ σ h => by kernel_rfl
def D80 : DF := ⟨4, 28, bHi, R80⟩
def S80 : cD := fA4 (aRz E)
theorem bKG : SQ D80 S80 := λ E => eA4 (d := D80) (bXy E) rfl
def R81 : List RV := [(.cells p4 5),(.r p5)]
def aMM (E : bN) (r4 r9 : DV) (h : H) : aV := vK (aK 5 h.get r9) λ x1 => wK (bR 5 r4 x1 h) λ x2 h3 => vK (aK 5 h3.get r4) λ x4 => some ((.tup [x4, (ii 0)]), h3)
def bHg : DC := (zs 5 [zY 47 (.ldN 5 o9),zW (.st 5 o4 xX),zX (.mv (zk 0))] .ret)
def aRy (r0 r1 : DV) (h : H) : aV := dT r0 h λ x1 h2 => dZ 5 5 (.list [(ii 0), (ii 0), (ii 0), (ii 0), (ii 0)]) h2 λ x3 h4 => vK (aK 2 h4.get x1) λ x5 => wK (aD E 124 [x5, r1] h4) λ x6 h7 => vK (aH 0 x6) λ x8 => vK (aH 1 x6) λ x9 => vK (dC x9 (ii 0)) λ x10 => bK x10 (vK (eC [(ii 0), (ii 0), (ii 0), (ii 0), (ii 0)] []) λ x11 => wK (bR 5 x3 x11 h7) λ x12 h13 => vK (aK 5 h13.get x3) λ x14 => some ((.tup [x14, x9]), h13)) (vK (aF 0 x1) λ x15 => vK (aG h7.get x15) λ x16 => vK (bZ 5 x16 x8) λ x17 => vK (aK 5 h7.get x17) λ x18 => dZ 5 5 (.list [(ii 0), (ii 0), (ii 0), (.str []), .nils]) h7 λ x19 h20 => wK (bR 5 x19 x18 h20) λ x21 h22 => vK (aF 0 x19) λ x23 => vK (aG h22.get x23) λ x24 => vK (aF 1 x19) λ x25 => vK (aG h22.get x25) λ x26 => vK (aF 2 x19) λ x27 => vK (aG h22.get x27) λ x28 => vK (aF 4 x19) λ x29 => vK (aG h22.get x29) λ x30 => vK (cB x30) λ x31 => vK (eC [(ii 0), (ii 0), (ii 0), (ii 0), (ii 0)] [(0, 1, x24), (1, 1, x26), (2, 1, x28), (3, 1, x31), (4, 1, (ii 1))]) λ x32 => dZ 5 5 (.list [(ii 0), (ii 0), (ii 0), (ii 0), (ii 0)]) h22 λ x33 h34 => wK (bR 5 x33 x32 h34) λ x35 h36 => vK (aF 2 x19) λ x37 => vK (aG h36.get x37) λ x38 => vK (bS x38 (ii 1)) λ x39 => bK x39 (vK (aF 3 x19) λ x40 => vK (aG h36.get x40) λ x41 => vK (cA x41) λ x42 => vK (aF 3 x33) λ x43 => wK (bR 1 x43 x42 h36) λ x44 h45 => vK (aK 2 h45.get x1) λ x46 => vK (aF 0 x19) λ x47 => vK (aG h45.get x47) λ x48 => wK (aD E 126 [x46, x48] h45) λ x49 h50 => vK (aF 4 x33) λ x51 => wK (bR 1 x51 x49 h50) λ x52 h53 => aMM E x3 x33 h53) (aMM E x3 x33 h36))
def bHh : DC := (zs 4 [zY 2 (.box o0),zX (.alc 5 5 (.list [(.int .i64 (.ofNat 0)),(.int .i64 (.ofNat 0)),(.int .i64 (.ofNat 0)),(.int .i64 (.ofNat 0)),(.int .i64 (.ofNat 0))])),zX (.mv (zk 0))] (zs 11 [zX (.ldN 2 o2),zM 1,zF 124 [fY,fV],zT 10 13,zX (.ext 0 fS),zX (.ext 1 fS),zT 6 14,zT 7 15] (zq (zs 16 [zM 7,zX (.bin .neq hU (zk 0))] (.cond iI (zs 18 [zX (.bld [(.int .i64 (.ofNat 0)),(.int .i64 (.ofNat 0)),(.int .i64 (.ofNat 0)),(.int .i64 (.ofNat 0)),(.int .i64 (.ofNat 0))] []),zM 7,zW (.st 5 o4 iD),zT 5 19] .ret) .skip)) (zs 20 [zX (.fa 0 o2),zX (.ld iS),zM 6,zX (.iaS 5 hM iX),zX (.ldN 5 gW),zY 8 (.alc 5 5 (.list [(.int .i64 (.ofNat 0)),(.int .i64 (.ofNat 0)),(.int .i64 (.ofNat 0)),(.str []),.nils])),zW (.st 5 o8 iN)] (zs 25 [zX (.fa 0 o8),zX (.ld jY),zX (.fa 1 o8),zX (.ld lG),zX (.fa 2 o8),zX (.ld mK),zX (.fa 4 o8),zX (.ld mV),zX (.lenL lF),zX (.bld [(.int .i64 (.ofNat 0)),(.int .i64 (.ofNat 0)),(.int .i64 (.ofNat 0)),(.int .i64 (.ofNat 0)),(.int .i64 (.ofNat 0))] [(0,1,lM),(1,1,lL),(2,1,lR),(3,1,mF),(4,1,(zk 1))]),zY 9 (.alc 5 5 (.list [(.int .i64 (.ofNat 0)),(.int .i64 (.ofNat 0)),(.int .i64 (.ofNat 0)),(.int .i64 (.ofNat 0)),(.int .i64 (.ofNat 0))])),zW (.st 5 o9 mE)] (zq (zs 35 [zX (.fa 2 o8),zX (.ld oW),zX (.bin .eql mD (zk 1))] (.cond oP (zs 38 [zX (.fa 3 o8),zX (.ld sU),zX (.lenS rN),zX (.fa 3 o9),zW (.st 1 uE qT)] (zr 42 [zX (.ldN 2 o2),zX (.fa 0 o8),zX (.ld uD),zF 126 [uJ,rT],zX (.fa 4 o9),zW (.st 1 uL xY)])) .skip)) bHg))))))
theorem bXw : Is E bHg (bO R81) (λ σ h => aMM E (σ p4) (σ p9) h) := λ σ h => by kernel_rfl
theorem bXx : mW E bHh R81 (aRy E) := Is.as (Is.seq (Is.seq (Is.seq (Is.seq (Is.seq (Is.seq (bXw E) (Is.leaf _)) (Is.leaf _)) (Is.leaf _)) (Is.leaf _)) (Is.leaf _)) (Is.leaf _)) λ σ h => by kernel_rfl
def D81 : DF := ⟨2, 48, bHh, R81⟩
def S81 : cD := mX (aRy E)
theorem bKF : SQ D81 S81 := λ E => nF (d := D81) (bXx E) rfl
def R82 : List RV := [(.r p4),(.r p5)]
def aRx (r0 r1 : DV) (h : H) : aV := dT r0 h λ x1 h2 => vK (aK 2 h2.get x1) λ x3 => wK (aD E 124 [x3, r1] h2) λ x4 h5 => vK (aH 0 x4) λ x6 => vK (aH 1 x4) λ x7 => vK (dC x7 (ii 0)) λ x8 => bK x8 (some ((.tup [.nils, x7]), h5)) (vK (aF 0 x1) λ x9 => vK (aG h5.get x9) λ x10 => vK (bZ 5 x10 x6) λ x11 => vK (aF 2 x11) λ x12 => vK (aG h5.get x12) λ x13 => vK (bS x13 (ii 1)) λ x14 => bK x14 (some ((.tup [.nils, (ii 13)]), h5)) (vK (aF 0 x1) λ x15 => vK (aG h5.get x15) λ x16 => vK (bZ 5 x16 x6) λ x17 => vK (aF 4 x17) λ x18 => vK (aG h5.get x18) λ x19 => wK (aD E 136 [x19] h5) λ x20 h21 => some ((.tup [x20, (ii 0)]), h21)))
def bHf : DC := (zs 4 [zY 2 (.box o0),zX (.mv (.c .nils)),zX (.mv (zk 0))] (zs 9 [zX (.ldN 2 o2),zM 1,zF 124 [o9,fS],zT 8 11,zX (.ext 0 o8),zX (.ext 1 o8),zT 6 12,zT 7 13] (zq (zs 14 [zM 7,zX (.bin .neq iP (zk 0))] (.cond jH (zs 4 [zT 16 7,zX (.mv (.c .nils)),zM 16] .ret) .skip)) (zq (zs 17 [zX (.fa 0 o2),zX (.ld iI),zM 6,zX (.iaS 5 iD iO),zX (.fa 2 iS),zX (.ld hM),zX (.bin .eql iX (zk 1))] (.cond gW (zs 4 [zX (.mv (.c .nils)),zX (.mv (zk 13))] .ret) .skip)) (zs 24 [zX (.fa 0 o2),zX (.ld iN),zM 6,zX (.iaS 5 jY lM),zX (.fa 4 lG),zX (.ld lL),zF 136 [mK],zT 4 30,zY 5 (.mv (zk 0))] .ret)))))
theorem bXv : mW E bHf R82 (aRx E) := λ σ h => by kernel_rfl
def D82 : DF := ⟨2, 31, bHf, R82⟩
def S82 : cD := mX (aRx E)
theorem bKE : SQ D82 S82 := λ E => nF (d := D82) (bXv E) rfl
def fs0 : List FD := [⟨8, D8, S8⟩, ⟨20, D20, S20⟩, ⟨21, D21, S21⟩, ⟨22, D22, S22⟩, ⟨24, D24, S24⟩, ⟨25, D25, S25⟩, ⟨28, D28, S28⟩, ⟨29, D29, S29⟩, ⟨30, D30, S30⟩, ⟨31, D31, S31⟩, ⟨32, D32, S32⟩, ⟨33, D33, S33⟩, ⟨34, D34, S34⟩, ⟨35, D35, S35⟩, ⟨40, D40, S40⟩, ⟨41, D41, S41⟩, ⟨42, D42, S42⟩, ⟨43, D43, S43⟩, ⟨44, D44, S44⟩, ⟨45, D45, S45⟩, ⟨46, D46, S46⟩, ⟨47, D47, S47⟩, ⟨48, D48, S48⟩, ⟨49, D49, S49⟩, ⟨50, D50, S50⟩, ⟨51, D51, S51⟩, ⟨52, D52, S52⟩, ⟨53, D53, S53⟩, ⟨54, D54, S54⟩, ⟨55, D55, S55⟩, ⟨56, D56, S56⟩, ⟨57, D57, S57⟩, ⟨58, D58, S58⟩, ⟨59, D59, S59⟩, ⟨65, D65, S65⟩, ⟨66, D66, S66⟩, ⟨67, D67, S67⟩, ⟨68, D68, S68⟩, ⟨69, D69, S69⟩, ⟨70, D70, S70⟩, ⟨71, D71, S71⟩, ⟨72, D72, S72⟩, ⟨74, D74, S74⟩, ⟨75, D75, S75⟩, ⟨76, D76, S76⟩, ⟨77, D77, S77⟩, ⟨78, D78, S78⟩, ⟨79, D79, S79⟩, ⟨80, D80, S80⟩, ⟨81, D81, S81⟩, ⟨82, D82, S82⟩]
theorem bJN : sT fs0 := ⟨bVb, ⟨bLC, ⟨bLB, ⟨bLA, ⟨bLz, ⟨bLy, ⟨bLx, ⟨bLw, ⟨bLv, ⟨bLu, ⟨bLt, ⟨bLs, ⟨bLr, ⟨bLq, ⟨bLp, ⟨bLo, ⟨bLm, ⟨bLl, ⟨bLk, ⟨bLj, ⟨bLi, ⟨bLh, ⟨bLg, ⟨bLf, ⟨bLe, ⟨bLd, ⟨bLc, ⟨bLb, ⟨bLa, ⟨bKZ, ⟨bKY, ⟨bKX, ⟨bKW, ⟨bKV, ⟨bKU, ⟨bKT, ⟨bKS, ⟨bKR, ⟨bKQ, ⟨bKP, ⟨bKO, ⟨bKN, ⟨bKM, ⟨bKL, ⟨bKK, ⟨bKJ, ⟨bKI, ⟨bKH, ⟨bKG, ⟨bKF, ⟨bKE, trivial⟩⟩⟩⟩⟩⟩⟩⟩⟩⟩⟩⟩⟩⟩⟩⟩⟩⟩⟩⟩⟩⟩⟩⟩⟩⟩⟩⟩⟩⟩⟩⟩⟩⟩⟩⟩⟩⟩⟩⟩⟩⟩⟩⟩⟩⟩⟩⟩⟩⟩⟩
end Go.Proofs.YtmafhiogonejfaaGreatDoor
end

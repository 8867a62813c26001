/- The functions of the program as D's and as plain Lean functions, and that both are the same. No condition. -/
import Derived.KernelRfl
import Derived.Test.YtgipaebiihefpaaDoorDc
set_option linter.unusedVariables false
namespace Go.Proofs.YtgipaebiihefpaaDoor
open Go.DI
def p0 : Pa := .h
def p1 : Pa := .l p0
def p2 : Pa := .r p0
def p3 : Pa := .l p1
def p4 : Pa := .r p1
def p5 : Pa := .l p2
def p6 : Pa := .r p2
def p7 : Pa := .l p3
def p8 : Pa := .r p3
def p9 : Pa := .l p4
def p10 : Pa := .r p4
def p11 : Pa := .l p5
def p12 : Pa := .r p5
def p13 : Pa := .l p6
def p14 : Pa := .r p6
def p15 : Pa := .l p7
def p16 : Pa := .r p7
def p17 : Pa := .l p8
def p18 : Pa := .r p8
def p19 : Pa := .l p9
def p20 : Pa := .r p9
def p21 : Pa := .l p10
def p22 : Pa := .r p10
def p23 : Pa := .l p11
def p24 : Pa := .r p11
def p25 : Pa := .l p12
def p26 : Pa := .r p12
def p27 : Pa := .l p13
def p28 : Pa := .r p13
def p29 : Pa := .l p14
def p30 : Pa := .r p14
def p31 : Pa := .l p15
def p32 : Pa := .r p15
def p33 : Pa := .l p16
def p34 : Pa := .r p16
def p35 : Pa := .l p17
def p36 : Pa := .r p17
def p37 : Pa := .l p18
def p38 : Pa := .r p18
def p39 : Pa := .l p19
def p40 : Pa := .r p19
def p41 : Pa := .l p20
def p42 : Pa := .r p20
def p43 : Pa := .l p21
def p44 : Pa := .r p21
def p45 : Pa := .l p22
def p46 : Pa := .r p22
def p47 : Pa := .l p23
def p48 : Pa := .r p23
def p49 : Pa := .l p24
def p50 : Pa := .r p24
def p51 : Pa := .l p25
def p52 : Pa := .r p25
def p53 : Pa := .l p26
def p54 : Pa := .r p26
def p55 : Pa := .l p27
def p56 : Pa := .r p27
def p57 : Pa := .l p28
def p58 : Pa := .r p28
def p59 : Pa := .l p29
def p60 : Pa := .r p29
def p61 : Pa := .l p30
def p62 : Pa := .r p30
def p63 : Pa := .l p31
def p64 : Pa := .r p31
def p65 : Pa := .l p32
def p66 : Pa := .r p32
def p67 : Pa := .l p33
def p68 : Pa := .r p33
def p69 : Pa := .l p34
def p70 : Pa := .r p34
def p71 : Pa := .l p35
def p72 : Pa := .r p35
def p73 : Pa := .l p36
def p74 : Pa := .r p36
def p75 : Pa := .l p37
def p76 : Pa := .r p37
def p77 : Pa := .l p38
def p78 : Pa := .r p38
def p79 : Pa := .l p39
def p80 : Pa := .r p39
def p81 : Pa := .l p40
def p82 : Pa := .r p40
def p83 : Pa := .l p41
def p84 : Pa := .r p41
def p85 : Pa := .l p42
def p86 : Pa := .r p42
def p87 : Pa := .l p43
def p88 : Pa := .r p43
def p89 : Pa := .l p44
def p90 : Pa := .r p44
def p91 : Pa := .l p45
def p92 : Pa := .r p45
def p93 : Pa := .l p46
def p94 : Pa := .r p46
def p95 : Pa := .l p47
def p96 : Pa := .r p47
def p97 : Pa := .l p48
def p98 : Pa := .r p48
def p99 : Pa := .l p49
def p100 : Pa := .r p49
def p101 : Pa := .l p50
def p102 : Pa := .r p50
def p103 : Pa := .l p51
def p104 : Pa := .r p51
def p105 : Pa := .l p52
def p106 : Pa := .r p52
def p107 : Pa := .l p53
def p108 : Pa := .r p53
def p109 : Pa := .l p54
def p110 : Pa := .r p54
def p111 : Pa := .l p55
def p112 : Pa := .r p55
def p113 : Pa := .l p56
def p114 : Pa := .r p56
def p115 : Pa := .l p57
def p116 : Pa := .r p57
def p117 : Pa := .l p58
def p118 : Pa := .r p58
def p119 : Pa := .l p59
def p120 : Pa := .r p59
def p121 : Pa := .l p60
def p122 : Pa := .r p60
def p123 : Pa := .l p61
def p124 : Pa := .r p61
def p125 : Pa := .l p62
def p126 : Pa := .r p62
def p127 : Pa := .l p63
def p128 : Pa := .r p63
def p129 : Pa := .l p64
def p130 : Pa := .r p64
def p131 : Pa := .l p65
def p132 : Pa := .r p65
def p133 : Pa := .l p66
def p134 : Pa := .r p66
def p135 : Pa := .l p67
def p136 : Pa := .r p67
def p137 : Pa := .l p68
def p138 : Pa := .r p68
def p139 : Pa := .l p69
def p140 : Pa := .r p69
def p141 : Pa := .l p70
def p142 : Pa := .r p70
def p143 : Pa := .l p71
def p144 : Pa := .r p71
def p145 : Pa := .l p72
def p146 : Pa := .r p72
def p147 : Pa := .l p73
def p148 : Pa := .r p73
def p149 : Pa := .l p74
def p150 : Pa := .r p74
def p151 : Pa := .l p75
def p152 : Pa := .r p75
def p153 : Pa := .l p76
def p154 : Pa := .r p76
def p155 : Pa := .l p77
def p156 : Pa := .r p77
def p157 : Pa := .l p78
def p158 : Pa := .r p78
def p159 : Pa := .l p79
def p160 : Pa := .r p79
def p161 : Pa := .l p80
def p162 : Pa := .r p80
def p163 : Pa := .l p81
def p164 : Pa := .r p81
def p165 : Pa := .l p82
def p166 : Pa := .r p82
def p167 : Pa := .l p83
def p168 : Pa := .r p83
def p169 : Pa := .l p84
def p170 : Pa := .r p84
def p171 : Pa := .l p85
def p172 : Pa := .r p85
def p173 : Pa := .l p86
def p174 : Pa := .r p86
def p175 : Pa := .l p87
def p176 : Pa := .r p87
def p177 : Pa := .l p88
def p178 : Pa := .r p88
def p179 : Pa := .l p89
def p180 : Pa := .r p89
def p181 : Pa := .l p90
def p182 : Pa := .r p90
def p183 : Pa := .l p91
def p184 : Pa := .r p91
def p185 : Pa := .l p92
def p186 : Pa := .r p92
/- hurdle/hurdlelaw01.BytesCuts -/
def R7 : List RV := [(.r p4)]
noncomputable def J7_0 (E : Env) (r0 r1 : DV) (h : H) : Ans :=
  vK (v_lenS r0) fun x1 =>
  vK (v_gtr x1 (.int .i64 (.ofNat 131072))) fun x2 =>
  gdK x2 false (fun kk => kk r1 h) h fun x3 h4 =>
  gdK x2 false (fun kk => vK (v_geq x3 (.int .i64 (.ofNat 0))) fun v => kk v h4) h4 fun x5 h6 =>
  gdK x2 false (fun kk => kk x5 h6) h6 fun x7 h8 =>
  gdK x7 true (fun kk => kk r1 h8) h8 fun x9 h10 =>
  gdK x7 true (fun kk => kk r0 h10) h10 fun x11 h12 =>
  gdK x7 true (fun kk => vK (v_lenS x11) fun v => kk v h12) h12 fun x13 h14 =>
  gdK x7 true (fun kk => vK (v_quo x13 (.int .i64 (.ofNat 1000))) fun v => kk v h14) h14 fun x15 h16 =>
  gdK x7 true (fun kk => vK (v_lss x9 x15) fun v => kk v h16) h16 fun x17 h18 =>
  gdK x2 false (fun kk => vK (v_pick x7 x17 (.bool false)) fun v => kk v h18) h18 fun x19 h20 =>
  vK (v_pick x2 (.bool true) x19) fun x21 =>
  bK x21
  (wK (callK E 25 [] h20) fun x22 h23 =>
  some (x22, h23))
  (wK (callK E 26 [r0, r1] h20) fun x24 h25 =>
  vK (v_ext 0 x24) fun x26 =>
  vK (v_ext 1 x24) fun x27 =>
  wK (callK E 27 [r0, r1] h25) fun x28 h29 =>
  vK (v_ext 0 x28) fun x30 =>
  vK (v_ext 1 x28) fun x31 =>
  wK (callK E 28 [r0, r1] h29) fun x32 h33 =>
  vK (v_ext 0 x32) fun x34 =>
  vK (v_ext 1 x32) fun x35 =>
  wK (callK E 29 [r0, r1] h33) fun x36 h37 =>
  vK (v_ext 0 x36) fun x38 =>
  vK (v_ext 1 x36) fun x39 =>
  vK (v_eql x26 x30) fun x40 =>
  gdK x40 true (fun kk => kk x27 h37) h37 fun x41 h42 =>
  gdK x40 true (fun kk => kk x31 h42) h42 fun x43 h44 =>
  gdK x40 true (fun kk => vK (v_eql x41 x43) fun v => kk v h44) h44 fun x45 h46 =>
  vK (v_pick x40 x45 (.bool false)) fun x47 =>
  gdK x47 true (fun kk => kk x34 h46) h46 fun x48 h49 =>
  gdK x47 true (fun kk => kk x38 h49) h49 fun x50 h51 =>
  gdK x47 true (fun kk => wK (callK E 20 [x48, x50] h51) kk) h51 fun x52 h53 =>
  vK (v_pick x47 x52 (.bool false)) fun x54 =>
  gdK x54 true (fun kk => kk x35 h53) h53 fun x55 h56 =>
  gdK x54 true (fun kk => kk x39 h56) h56 fun x57 h58 =>
  gdK x54 true (fun kk => vK (v_eql x55 x57) fun v => kk v h58) h58 fun x59 h60 =>
  vK (v_pick x54 x59 (.bool false)) fun x61 =>
  gdK x61 true (fun kk => wK (callK E 25 [] h60) kk) h60 fun x62 h63 =>
  vK (v_pick x61 x62 (.bool false)) fun x64 =>
  some (x64, h63))
def C7_0 : DC := (.seq (.reg [⟨(some p4), none, (.e (.mv (.c (.bool false))))⟩]) (.seq (.seq (.reg [⟨(some p13), none, (.e (.mv (.r p0)))⟩, ⟨(some p14), none, (.e (.lenS (.r p13)))⟩, ⟨(some p15), none, (.e (.bin .gtr (.r p14) (.c (.int .i64 (.ofNat 131072)))))⟩, ⟨(some p16), none, (.e (.mv (.r p15)))⟩, ⟨(some p17), (some (p16, false)), (.e (.mv (.r p1)))⟩, ⟨(some p18), (some (p16, false)), (.e (.bin .geq (.r p17) (.c (.int .i64 (.ofNat 0)))))⟩, ⟨(some p19), (some (p16, false)), (.e (.mv (.r p18)))⟩, ⟨(some p20), (some (p19, true)), (.e (.mv (.r p1)))⟩, ⟨(some p21), (some (p19, true)), (.e (.mv (.r p0)))⟩, ⟨(some p22), (some (p19, true)), (.e (.lenS (.r p21)))⟩, ⟨(some p23), (some (p19, true)), (.e (.bin .quo (.r p22) (.c (.int .i64 (.ofNat 1000)))))⟩, ⟨(some p24), (some (p19, true)), (.e (.bin .lss (.r p20) (.r p23)))⟩, ⟨(some p25), (some (p16, false)), (.e (.pick (.r p19) (.r p24) (.c (.bool false))))⟩, ⟨(some p26), none, (.e (.pick (.r p16) (.c (.bool true)) (.r p25)))⟩]) (.cond (.r p26) (.seq (.reg [⟨(some p27), none, (.c (.f 25 []))⟩, ⟨(some p4), none, (.e (.mv (.r p27)))⟩]) .ret) .skip)) (.seq (.reg [⟨(some p29), none, (.e (.mv (.r p0)))⟩, ⟨(some p30), none, (.e (.mv (.r p1)))⟩, ⟨(some p31), none, (.c (.f 26 [(.r p29), (.r p30)]))⟩, ⟨(some p28), none, (.e (.mv (.r p31)))⟩, ⟨(some p32), none, (.e (.ext 0 (.r p28)))⟩, ⟨(some p33), none, (.e (.ext 1 (.r p28)))⟩, ⟨(some p5), none, (.e (.mv (.r p32)))⟩, ⟨(some p6), none, (.e (.mv (.r p33)))⟩]) (.seq (.reg [⟨(some p35), none, (.e (.mv (.r p0)))⟩, ⟨(some p36), none, (.e (.mv (.r p1)))⟩, ⟨(some p37), none, (.c (.f 27 [(.r p35), (.r p36)]))⟩, ⟨(some p34), none, (.e (.mv (.r p37)))⟩, ⟨(some p38), none, (.e (.ext 0 (.r p34)))⟩, ⟨(some p39), none, (.e (.ext 1 (.r p34)))⟩, ⟨(some p7), none, (.e (.mv (.r p38)))⟩, ⟨(some p8), none, (.e (.mv (.r p39)))⟩]) (.seq (.reg [⟨(some p41), none, (.e (.mv (.r p0)))⟩, ⟨(some p42), none, (.e (.mv (.r p1)))⟩, ⟨(some p43), none, (.c (.f 28 [(.r p41), (.r p42)]))⟩, ⟨(some p40), none, (.e (.mv (.r p43)))⟩, ⟨(some p44), none, (.e (.ext 0 (.r p40)))⟩, ⟨(some p45), none, (.e (.ext 1 (.r p40)))⟩, ⟨(some p9), none, (.e (.mv (.r p44)))⟩, ⟨(some p10), none, (.e (.mv (.r p45)))⟩]) (.seq (.reg [⟨(some p47), none, (.e (.mv (.r p0)))⟩, ⟨(some p48), none, (.e (.mv (.r p1)))⟩, ⟨(some p49), none, (.c (.f 29 [(.r p47), (.r p48)]))⟩, ⟨(some p46), none, (.e (.mv (.r p49)))⟩, ⟨(some p50), none, (.e (.ext 0 (.r p46)))⟩, ⟨(some p51), none, (.e (.ext 1 (.r p46)))⟩, ⟨(some p11), none, (.e (.mv (.r p50)))⟩, ⟨(some p12), none, (.e (.mv (.r p51)))⟩]) (.seq (.reg [⟨(some p52), none, (.e (.mv (.r p5)))⟩, ⟨(some p53), none, (.e (.mv (.r p7)))⟩, ⟨(some p54), none, (.e (.bin .eql (.r p52) (.r p53)))⟩, ⟨(some p55), none, (.e (.mv (.r p54)))⟩, ⟨(some p56), (some (p55, true)), (.e (.mv (.r p6)))⟩, ⟨(some p57), (some (p55, true)), (.e (.mv (.r p8)))⟩, ⟨(some p58), (some (p55, true)), (.e (.bin .eql (.r p56) (.r p57)))⟩, ⟨(some p59), none, (.e (.pick (.r p55) (.r p58) (.c (.bool false))))⟩, ⟨(some p60), none, (.e (.mv (.r p59)))⟩, ⟨(some p61), (some (p60, true)), (.e (.mv (.r p9)))⟩, ⟨(some p62), (some (p60, true)), (.e (.mv (.r p11)))⟩, ⟨(some p63), (some (p60, true)), (.c (.f 20 [(.r p61), (.r p62)]))⟩, ⟨(some p64), none, (.e (.pick (.r p60) (.r p63) (.c (.bool false))))⟩, ⟨(some p65), none, (.e (.mv (.r p64)))⟩, ⟨(some p66), (some (p65, true)), (.e (.mv (.r p10)))⟩, ⟨(some p67), (some (p65, true)), (.e (.mv (.r p12)))⟩, ⟨(some p68), (some (p65, true)), (.e (.bin .eql (.r p66) (.r p67)))⟩, ⟨(some p69), none, (.e (.pick (.r p65) (.r p68) (.c (.bool false))))⟩, ⟨(some p70), none, (.e (.mv (.r p69)))⟩, ⟨(some p71), (some (p70, true)), (.c (.f 25 []))⟩, ⟨(some p72), none, (.e (.pick (.r p70) (.r p71) (.c (.bool false))))⟩, ⟨(some p4), none, (.e (.mv (.r p72)))⟩]) .ret)))))))
theorem I7_0 (E : Env) : Is E C7_0 (retK3 R7) (fun σ h => J7_0 E (σ p0) (σ p1) h) :=
  fun σ h => by kernel_rfl
def D7 : DF := ⟨2, 73, C7_0, R7⟩
noncomputable def S7 (E : Env) : Fun := fun args h => aS args fun r0 args => aS args fun r1 args => a0 args (J7_0 E r0 r1 h)
theorem S7_eq (E : Env) (args : List DV) (h : H) : runFn E D7 args h = S7 E args h :=
  Is.fn2 (d := D7) (I7_0 E) rfl (fun r0 r1 h => J7_0 E r0 r1 h) (fun r0 r1 h => by kernel_rfl) args h
/- hurdle/hurdlelaw01.BytesPuts -/
def R8 : List RV := [(.r p6)]
noncomputable def J8_0 (E : Env) (r0 r1 r2 : DV) (h : H) : Ans :=
  wK (callK E 30 [r0, r1, r2] h) fun x1 h2 =>
  vK (v_ext 0 x1) fun x3 =>
  vK (v_ext 1 x1) fun x4 =>
  wK (callK E 31 [r0, r1, r2] h2) fun x5 h6 =>
  vK (v_ext 0 x5) fun x7 =>
  vK (v_ext 1 x5) fun x8 =>
  vK (v_eql x3 x7) fun x9 =>
  gdK x9 true (fun kk => kk x4 h6) h6 fun x10 h11 =>
  gdK x9 true (fun kk => kk x8 h11) h11 fun x12 h13 =>
  gdK x9 true (fun kk => vK (v_eql x10 x12) fun v => kk v h13) h13 fun x14 h15 =>
  vK (v_pick x9 x14 (.bool false)) fun x16 =>
  gdK x16 true (fun kk => wK (callK E 25 [] h15) kk) h15 fun x17 h18 =>
  vK (v_pick x16 x17 (.bool false)) fun x19 =>
  some (x19, h18)
def C8_0 : DC := (.seq (.reg [⟨(some p6), none, (.e (.mv (.c (.bool false))))⟩]) (.seq (.reg [⟨(some p12), none, (.e (.mv (.r p0)))⟩, ⟨(some p13), none, (.e (.mv (.r p1)))⟩, ⟨(some p14), none, (.e (.mv (.r p2)))⟩, ⟨(some p15), none, (.c (.f 30 [(.r p12), (.r p13), (.r p14)]))⟩, ⟨(some p11), none, (.e (.mv (.r p15)))⟩, ⟨(some p16), none, (.e (.ext 0 (.r p11)))⟩, ⟨(some p17), none, (.e (.ext 1 (.r p11)))⟩, ⟨(some p7), none, (.e (.mv (.r p16)))⟩, ⟨(some p8), none, (.e (.mv (.r p17)))⟩]) (.seq (.reg [⟨(some p19), none, (.e (.mv (.r p0)))⟩, ⟨(some p20), none, (.e (.mv (.r p1)))⟩, ⟨(some p21), none, (.e (.mv (.r p2)))⟩, ⟨(some p22), none, (.c (.f 31 [(.r p19), (.r p20), (.r p21)]))⟩, ⟨(some p18), none, (.e (.mv (.r p22)))⟩, ⟨(some p23), none, (.e (.ext 0 (.r p18)))⟩, ⟨(some p24), none, (.e (.ext 1 (.r p18)))⟩, ⟨(some p9), none, (.e (.mv (.r p23)))⟩, ⟨(some p10), none, (.e (.mv (.r p24)))⟩]) (.seq (.reg [⟨(some p25), none, (.e (.mv (.r p7)))⟩, ⟨(some p26), none, (.e (.mv (.r p9)))⟩, ⟨(some p27), none, (.e (.bin .eql (.r p25) (.r p26)))⟩, ⟨(some p28), none, (.e (.mv (.r p27)))⟩, ⟨(some p29), (some (p28, true)), (.e (.mv (.r p8)))⟩, ⟨(some p30), (some (p28, true)), (.e (.mv (.r p10)))⟩, ⟨(some p31), (some (p28, true)), (.e (.bin .eql (.r p29) (.r p30)))⟩, ⟨(some p32), none, (.e (.pick (.r p28) (.r p31) (.c (.bool false))))⟩, ⟨(some p33), none, (.e (.mv (.r p32)))⟩, ⟨(some p34), (some (p33, true)), (.c (.f 25 []))⟩, ⟨(some p35), none, (.e (.pick (.r p33) (.r p34) (.c (.bool false))))⟩, ⟨(some p6), none, (.e (.mv (.r p35)))⟩]) .ret))))
theorem I8_0 (E : Env) : Is E C8_0 (retK3 R8) (fun σ h => J8_0 E (σ p0) (σ p1) (σ p2) h) :=
  fun σ h => by kernel_rfl
def D8 : DF := ⟨3, 36, C8_0, R8⟩
noncomputable def S8 (E : Env) : Fun := fun args h => aS args fun r0 args => aS args fun r1 args => aS args fun r2 args => a0 args (J8_0 E r0 r1 r2 h)
theorem S8_eq (E : Env) (args : List DV) (h : H) : runFn E D8 args h = S8 E args h :=
  Is.fn3 (d := D8) (I8_0 E) rfl (fun r0 r1 r2 h => J8_0 E r0 r1 r2 h) (fun r0 r1 r2 h => by kernel_rfl) args h
/- hurdle/hurdlelaw01.BytesTwice -/
def R9 : List RV := [(.r p4)]
noncomputable def J9_0 (E : Env) (r0 r1 : DV) (h : H) : Ans :=
  wK (callK E 32 [r0, r1] h) fun x1 h2 =>
  wK (callK E 32 [x1, r1] h2) fun x3 h4 =>
  vK (v_lenS x3) fun x5 =>
  vK (v_lenS r0) fun x6 =>
  vK (v_lenS r1) fun x7 =>
  vK (v_mx x6 x7) fun x8 =>
  vK (v_eql x5 x8) fun x9 =>
  gdK x9 true (fun kk => kk x3 h4) h4 fun x10 h11 =>
  gdK x9 true (fun kk => kk r0 h11) h11 fun x12 h13 =>
  gdK x9 true (fun kk => vK (v_lenS x12) fun v => kk v h13) h13 fun x14 h15 =>
  gdK x9 true (fun kk => vK (v_slS x10 none (some x14)) fun v => kk v h15) h15 fun x16 h17 =>
  gdK x9 true (fun kk => kk r0 h17) h17 fun x18 h19 =>
  gdK x9 true (fun kk => vK (v_eql x16 x18) fun v => kk v h19) h19 fun x20 h21 =>
  vK (v_pick x9 x20 (.bool false)) fun x22 =>
  gdK x22 true (fun kk => kk x3 h21) h21 fun x23 h24 =>
  gdK x22 true (fun kk => kk r0 h24) h24 fun x25 h26 =>
  gdK x22 true (fun kk => vK (v_lenS x25) fun v => kk v h26) h26 fun x27 h28 =>
  gdK x22 true (fun kk => vK (v_slS x23 (some x27) none) fun v => kk v h28) h28 fun x29 h30 =>
  gdK x22 true (fun kk => wK (callK E 33 [x29] h30) kk) h30 fun x31 h32 =>
  vK (v_pick x22 x31 (.bool false)) fun x33 =>
  gdK x33 true (fun kk => kk r0 h32) h32 fun x34 h35 =>
  gdK x33 true (fun kk => kk r0 h35) h35 fun x36 h37 =>
  gdK x33 true (fun kk => wK (callK E 32 [x34, x36] h37) kk) h37 fun x38 h39 =>
  gdK x33 true (fun kk => wK (callK E 33 [x38] h39) kk) h39 fun x40 h41 =>
  vK (v_pick x33 x40 (.bool false)) fun x42 =>
  gdK x42 true (fun kk => kk r0 h41) h41 fun x43 h44 =>
  gdK x42 true (fun kk => kk r1 h44) h44 fun x45 h46 =>
  gdK x42 true (fun kk => wK (callK E 32 [x43, x45] h46) kk) h46 fun x47 h48 =>
  gdK x42 true (fun kk => kk r1 h48) h48 fun x49 h50 =>
  gdK x42 true (fun kk => kk r0 h50) h50 fun x51 h52 =>
  gdK x42 true (fun kk => wK (callK E 32 [x49, x51] h52) kk) h52 fun x53 h54 =>
  gdK x42 true (fun kk => vK (v_eql x47 x53) fun v => kk v h54) h54 fun x55 h56 =>
  vK (v_pick x42 x55 (.bool false)) fun x57 =>
  gdK x57 true (fun kk => wK (callK E 25 [] h56) kk) h56 fun x58 h59 =>
  vK (v_pick x57 x58 (.bool false)) fun x60 =>
  some (x60, h59)
def C9_0 : DC := (.seq (.reg [⟨(some p4), none, (.e (.mv (.c (.bool false))))⟩]) (.seq (.reg [⟨(some p6), none, (.e (.mv (.r p0)))⟩, ⟨(some p7), none, (.e (.mv (.r p1)))⟩, ⟨(some p8), none, (.c (.f 32 [(.r p6), (.r p7)]))⟩, ⟨(some p9), none, (.e (.mv (.r p1)))⟩, ⟨(some p10), none, (.c (.f 32 [(.r p8), (.r p9)]))⟩, ⟨(some p5), none, (.e (.mv (.r p10)))⟩]) (.seq (.reg [⟨(some p11), none, (.e (.mv (.r p5)))⟩, ⟨(some p12), none, (.e (.lenS (.r p11)))⟩, ⟨(some p13), none, (.e (.mv (.r p0)))⟩, ⟨(some p14), none, (.e (.lenS (.r p13)))⟩, ⟨(some p15), none, (.e (.mv (.r p1)))⟩, ⟨(some p16), none, (.e (.lenS (.r p15)))⟩, ⟨(some p17), none, (.e (.mx (.r p14) (.r p16)))⟩, ⟨(some p18), none, (.e (.bin .eql (.r p12) (.r p17)))⟩, ⟨(some p19), none, (.e (.mv (.r p18)))⟩, ⟨(some p20), (some (p19, true)), (.e (.mv (.r p5)))⟩, ⟨(some p21), (some (p19, true)), (.e (.mv (.r p0)))⟩, ⟨(some p22), (some (p19, true)), (.e (.lenS (.r p21)))⟩, ⟨(some p23), (some (p19, true)), (.e (.slS (.r p20) none (some (.r p22))))⟩, ⟨(some p24), (some (p19, true)), (.e (.mv (.r p0)))⟩, ⟨(some p25), (some (p19, true)), (.e (.bin .eql (.r p23) (.r p24)))⟩, ⟨(some p26), none, (.e (.pick (.r p19) (.r p25) (.c (.bool false))))⟩, ⟨(some p27), none, (.e (.mv (.r p26)))⟩, ⟨(some p28), (some (p27, true)), (.e (.mv (.r p5)))⟩, ⟨(some p29), (some (p27, true)), (.e (.mv (.r p0)))⟩, ⟨(some p30), (some (p27, true)), (.e (.lenS (.r p29)))⟩, ⟨(some p31), (some (p27, true)), (.e (.slS (.r p28) (some (.r p30)) none))⟩, ⟨(some p32), (some (p27, true)), (.c (.f 33 [(.r p31)]))⟩, ⟨(some p33), none, (.e (.pick (.r p27) (.r p32) (.c (.bool false))))⟩, ⟨(some p34), none, (.e (.mv (.r p33)))⟩, ⟨(some p35), (some (p34, true)), (.e (.mv (.r p0)))⟩, ⟨(some p36), (some (p34, true)), (.e (.mv (.r p0)))⟩, ⟨(some p37), (some (p34, true)), (.c (.f 32 [(.r p35), (.r p36)]))⟩, ⟨(some p38), (some (p34, true)), (.c (.f 33 [(.r p37)]))⟩, ⟨(some p39), none, (.e (.pick (.r p34) (.r p38) (.c (.bool false))))⟩, ⟨(some p40), none, (.e (.mv (.r p39)))⟩, ⟨(some p41), (some (p40, true)), (.e (.mv (.r p0)))⟩, ⟨(some p42), (some (p40, true)), (.e (.mv (.r p1)))⟩, ⟨(some p43), (some (p40, true)), (.c (.f 32 [(.r p41), (.r p42)]))⟩, ⟨(some p44), (some (p40, true)), (.e (.mv (.r p1)))⟩, ⟨(some p45), (some (p40, true)), (.e (.mv (.r p0)))⟩, ⟨(some p46), (some (p40, true)), (.c (.f 32 [(.r p44), (.r p45)]))⟩, ⟨(some p47), (some (p40, true)), (.e (.bin .eql (.r p43) (.r p46)))⟩, ⟨(some p48), none, (.e (.pick (.r p40) (.r p47) (.c (.bool false))))⟩, ⟨(some p49), none, (.e (.mv (.r p48)))⟩, ⟨(some p50), (some (p49, true)), (.c (.f 25 []))⟩, ⟨(some p51), none, (.e (.pick (.r p49) (.r p50) (.c (.bool false))))⟩, ⟨(some p4), none, (.e (.mv (.r p51)))⟩]) .ret)))
theorem I9_0 (E : Env) : Is E C9_0 (retK3 R9) (fun σ h => J9_0 E (σ p0) (σ p1) h) :=
  fun σ h => by kernel_rfl
def D9 : DF := ⟨2, 52, C9_0, R9⟩
noncomputable def S9 (E : Env) : Fun := fun args h => aS args fun r0 args => aS args fun r1 args => a0 args (J9_0 E r0 r1 h)
theorem S9_eq (E : Env) (args : List DV) (h : H) : runFn E D9 args h = S9 E args h :=
  Is.fn2 (d := D9) (I9_0 E) rfl (fun r0 r1 h => J9_0 E r0 r1 h) (fun r0 r1 h => by kernel_rfl) args h
/- hurdle/hurdlelaw01.BytesRead -/
def R10 : List RV := [(.r p6)]
noncomputable def J10_0 (E : Env) (r0 r1 r2 : DV) (h : H) : Ans :=
  wK (callK E 30 [r0, r1, r2] h) fun x1 h2 =>
  vK (v_ext 0 x1) fun x3 =>
  vK (v_ext 1 x1) fun x4 =>
  vK (v_neq x4 (.int .i64 (.ofNat 0))) fun x5 =>
  bK x5
  (vK (v_eql x3 (.str [])) fun x6 =>
  gdK x6 true (fun kk => wK (callK E 25 [] h2) kk) h2 fun x7 h8 =>
  vK (v_pick x6 x7 (.bool false)) fun x9 =>
  some (x9, h8))
  (vK (v_lenS r2) fun x10 =>
  vK (v_add r1 x10) fun x11 =>
  vK (v_lenS x3) fun x12 =>
  vK (v_lenS r0) fun x13 =>
  vK (v_mx x13 x11) fun x14 =>
  vK (v_neq x12 x14) fun x15 =>
  gdK x15 false (fun kk => kk x3 h2) h2 fun x16 h17 =>
  gdK x15 false (fun kk => kk r1 h17) h17 fun x18 h19 =>
  gdK x15 false (fun kk => kk x11 h19) h19 fun x20 h21 =>
  gdK x15 false (fun kk => vK (v_slS x16 (some x18) (some x20)) fun v => kk v h21) h21 fun x22 h23 =>
  gdK x15 false (fun kk => kk r2 h23) h23 fun x24 h25 =>
  gdK x15 false (fun kk => vK (v_neq x22 x24) fun v => kk v h25) h25 fun x26 h27 =>
  vK (v_pick x15 (.bool true) x26) fun x28 =>
  bK x28
  (some ((.bool false), h27))
  (vK (v_lenS r0) fun x29 =>
  vK (v_mn r1 x29) fun x30 =>
  vK (v_slS x3 none (some x30)) fun x31 =>
  vK (v_slS r0 none (some x30)) fun x32 =>
  vK (v_eql x31 x32) fun x33 =>
  gdK x33 true (fun kk => kk x3 h27) h27 fun x34 h35 =>
  gdK x33 true (fun kk => kk x30 h35) h35 fun x36 h37 =>
  gdK x33 true (fun kk => kk r1 h37) h37 fun x38 h39 =>
  gdK x33 true (fun kk => vK (v_slS x34 (some x36) (some x38)) fun v => kk v h39) h39 fun x40 h41 =>
  gdK x33 true (fun kk => wK (callK E 33 [x40] h41) kk) h41 fun x42 h43 =>
  vK (v_pick x33 x42 (.bool false)) fun x44 =>
  gdK x44 true (fun kk => kk x11 h43) h43 fun x45 h46 =>
  gdK x44 true (fun kk => kk r0 h46) h46 fun x47 h48 =>
  gdK x44 true (fun kk => vK (v_lenS x47) fun v => kk v h48) h48 fun x49 h50 =>
  gdK x44 true (fun kk => vK (v_geq x45 x49) fun v => kk v h50) h50 fun x51 h52 =>
  gdK x44 true (fun kk => kk x51 h52) h52 fun x53 h54 =>
  gdK x53 false (fun kk => kk x3 h54) h54 fun x55 h56 =>
  gdK x53 false (fun kk => kk x11 h56) h56 fun x57 h58 =>
  gdK x53 false (fun kk => vK (v_slS x55 (some x57) none) fun v => kk v h58) h58 fun x59 h60 =>
  gdK x53 false (fun kk => kk r0 h60) h60 fun x61 h62 =>
  gdK x53 false (fun kk => kk x11 h62) h62 fun x63 h64 =>
  gdK x53 false (fun kk => vK (v_slS x61 (some x63) none) fun v => kk v h64) h64 fun x65 h66 =>
  gdK x53 false (fun kk => vK (v_eql x59 x65) fun v => kk v h66) h66 fun x67 h68 =>
  gdK x44 true (fun kk => vK (v_pick x53 (.bool true) x67) fun v => kk v h68) h68 fun x69 h70 =>
  vK (v_pick x44 x69 (.bool false)) fun x71 =>
  gdK x71 true (fun kk => wK (callK E 25 [] h70) kk) h70 fun x72 h73 =>
  vK (v_pick x71 x72 (.bool false)) fun x74 =>
  some (x74, h73)))
def C10_0 : DC := (.seq (.reg [⟨(some p6), none, (.e (.mv (.c (.bool false))))⟩]) (.seq (.reg [⟨(some p12), none, (.e (.mv (.r p0)))⟩, ⟨(some p13), none, (.e (.mv (.r p1)))⟩, ⟨(some p14), none, (.e (.mv (.r p2)))⟩, ⟨(some p15), none, (.c (.f 30 [(.r p12), (.r p13), (.r p14)]))⟩, ⟨(some p11), none, (.e (.mv (.r p15)))⟩, ⟨(some p16), none, (.e (.ext 0 (.r p11)))⟩, ⟨(some p17), none, (.e (.ext 1 (.r p11)))⟩, ⟨(some p7), none, (.e (.mv (.r p16)))⟩, ⟨(some p8), none, (.e (.mv (.r p17)))⟩]) (.seq (.seq (.reg [⟨(some p18), none, (.e (.mv (.r p8)))⟩, ⟨(some p19), none, (.e (.bin .neq (.r p18) (.c (.int .i64 (.ofNat 0)))))⟩]) (.cond (.r p19) (.seq (.reg [⟨(some p20), none, (.e (.mv (.r p7)))⟩, ⟨(some p21), none, (.e (.bin .eql (.r p20) (.c (.str []))))⟩, ⟨(some p22), none, (.e (.mv (.r p21)))⟩, ⟨(some p23), (some (p22, true)), (.c (.f 25 []))⟩, ⟨(some p24), none, (.e (.pick (.r p22) (.r p23) (.c (.bool false))))⟩, ⟨(some p6), none, (.e (.mv (.r p24)))⟩]) .ret) .skip)) (.seq (.reg [⟨(some p25), none, (.e (.mv (.r p1)))⟩, ⟨(some p26), none, (.e (.mv (.r p2)))⟩, ⟨(some p27), none, (.e (.lenS (.r p26)))⟩, ⟨(some p28), none, (.e (.bin .add (.r p25) (.r p27)))⟩, ⟨(some p9), none, (.e (.mv (.r p28)))⟩]) (.seq (.seq (.reg [⟨(some p29), none, (.e (.mv (.r p7)))⟩, ⟨(some p30), none, (.e (.lenS (.r p29)))⟩, ⟨(some p31), none, (.e (.mv (.r p0)))⟩, ⟨(some p32), none, (.e (.lenS (.r p31)))⟩, ⟨(some p33), none, (.e (.mv (.r p9)))⟩, ⟨(some p34), none, (.e (.mx (.r p32) (.r p33)))⟩, ⟨(some p35), none, (.e (.bin .neq (.r p30) (.r p34)))⟩, ⟨(some p36), none, (.e (.mv (.r p35)))⟩, ⟨(some p37), (some (p36, false)), (.e (.mv (.r p7)))⟩, ⟨(some p38), (some (p36, false)), (.e (.mv (.r p1)))⟩, ⟨(some p39), (some (p36, false)), (.e (.mv (.r p9)))⟩, ⟨(some p40), (some (p36, false)), (.e (.slS (.r p37) (some (.r p38)) (some (.r p39))))⟩, ⟨(some p41), (some (p36, false)), (.e (.mv (.r p2)))⟩, ⟨(some p42), (some (p36, false)), (.e (.bin .neq (.r p40) (.r p41)))⟩, ⟨(some p43), none, (.e (.pick (.r p36) (.c (.bool true)) (.r p42)))⟩]) (.cond (.r p43) (.seq (.reg [⟨(some p6), none, (.e (.mv (.c (.bool false))))⟩]) .ret) .skip)) (.seq (.reg [⟨(some p44), none, (.e (.mv (.r p1)))⟩, ⟨(some p45), none, (.e (.mv (.r p0)))⟩, ⟨(some p46), none, (.e (.lenS (.r p45)))⟩, ⟨(some p47), none, (.e (.mn (.r p44) (.r p46)))⟩, ⟨(some p10), none, (.e (.mv (.r p47)))⟩]) (.seq (.drg [⟨0, ⟨(some p48), none, (.e (.mv (.r p7)))⟩, [], false⟩, ⟨1, ⟨(some p49), none, (.e (.mv (.r p10)))⟩, [], false⟩, ⟨2, ⟨(some p50), none, (.e (.slS (.r p48) none (some (.r p49))))⟩, [], false⟩, ⟨3, ⟨(some p51), none, (.e (.mv (.r p0)))⟩, [], false⟩, ⟨4, ⟨(some p52), none, (.e (.mv (.r p10)))⟩, [], false⟩, ⟨5, ⟨(some p53), none, (.e (.slS (.r p51) none (some (.r p52))))⟩, [], false⟩, ⟨6, ⟨(some p54), none, (.e (.bin .eql (.r p50) (.r p53)))⟩, [], false⟩, ⟨7, ⟨(some p55), none, (.e (.mv (.r p54)))⟩, [], false⟩, ⟨8, ⟨(some p56), (some (p55, true)), (.e (.mv (.r p7)))⟩, [], false⟩, ⟨9, ⟨(some p57), (some (p55, true)), (.e (.mv (.r p10)))⟩, [], false⟩, ⟨10, ⟨(some p58), (some (p55, true)), (.e (.mv (.r p1)))⟩, [], false⟩, ⟨11, ⟨(some p59), (some (p55, true)), (.e (.slS (.r p56) (some (.r p57)) (some (.r p58))))⟩, [], false⟩, ⟨12, ⟨(some p60), (some (p55, true)), (.c (.f 33 [(.r p59)]))⟩, [], false⟩, ⟨13, ⟨(some p61), none, (.e (.pick (.r p55) (.r p60) (.c (.bool false))))⟩, [], false⟩, ⟨14, ⟨(some p62), none, (.e (.mv (.r p61)))⟩, [], false⟩, ⟨15, ⟨(some p63), (some (p62, true)), (.e (.mv (.r p9)))⟩, [], false⟩, ⟨16, ⟨(some p64), (some (p62, true)), (.e (.mv (.r p0)))⟩, [], false⟩, ⟨17, ⟨(some p65), (some (p62, true)), (.e (.lenS (.r p64)))⟩, [], false⟩, ⟨18, ⟨(some p66), (some (p62, true)), (.e (.bin .geq (.r p63) (.r p65)))⟩, [], false⟩, ⟨19, ⟨(some p67), (some (p62, true)), (.e (.mv (.r p66)))⟩, [], false⟩, ⟨20, ⟨(some p68), (some (p67, false)), (.e (.mv (.r p7)))⟩, [], false⟩, ⟨21, ⟨(some p69), (some (p67, false)), (.e (.mv (.r p9)))⟩, [], false⟩, ⟨22, ⟨(some p70), (some (p67, false)), (.e (.slS (.r p68) (some (.r p69)) none))⟩, [], false⟩, ⟨23, ⟨(some p71), (some (p67, false)), (.e (.mv (.r p0)))⟩, [], false⟩, ⟨24, ⟨(some p72), (some (p67, false)), (.e (.mv (.r p9)))⟩, [], false⟩, ⟨25, ⟨(some p73), (some (p67, false)), (.e (.slS (.r p71) (some (.r p72)) none))⟩, [], false⟩, ⟨26, ⟨(some p74), (some (p67, false)), (.e (.bin .eql (.r p70) (.r p73)))⟩, [], false⟩, ⟨27, ⟨(some p75), (some (p62, true)), (.e (.pick (.r p67) (.c (.bool true)) (.r p74)))⟩, [], false⟩, ⟨28, ⟨(some p76), none, (.e (.pick (.r p62) (.r p75) (.c (.bool false))))⟩, [], false⟩, ⟨29, ⟨(some p77), none, (.e (.mv (.r p76)))⟩, [], false⟩, ⟨30, ⟨(some p78), (some (p77, true)), (.c (.f 25 []))⟩, [], false⟩, ⟨31, ⟨(some p79), none, (.e (.pick (.r p77) (.r p78) (.c (.bool false))))⟩, [], false⟩, ⟨32, ⟨(some p6), none, (.e (.mv (.r p79)))⟩, [], false⟩]) .ret)))))))
theorem I10_0 (E : Env) : Is E C10_0 (retK3 R10) (fun σ h => J10_0 E (σ p0) (σ p1) (σ p2) h) :=
  fun σ h => by kernel_rfl
def D10 : DF := ⟨3, 80, C10_0, R10⟩
noncomputable def S10 (E : Env) : Fun := fun args h => aS args fun r0 args => aS args fun r1 args => aS args fun r2 args => a0 args (J10_0 E r0 r1 r2 h)
theorem S10_eq (E : Env) (args : List DV) (h : H) : runFn E D10 args h = S10 E args h :=
  Is.fn3 (d := D10) (I10_0 E) rfl (fun r0 r1 r2 h => J10_0 E r0 r1 r2 h) (fun r0 r1 r2 h => by kernel_rfl) args h
/- hurdle/hurdlelaw01.BytesXors -/
def R11 : List RV := [(.r p6)]
noncomputable def J11_0 (E : Env) (r0 r1 r2 : DV) (h : H) : Ans :=
  vK (v_lenL r2) fun x1 =>
  vK (v_gtr x1 (.int .i64 (.ofNat 40))) fun x2 =>
  bK x2
  (wK (callK E 25 [] h) fun x3 h4 =>
  some (x3, h4))
  (wK (callK E 32 [r0, r1] h) fun x5 h6 =>
  wK (callK E 34 [r0, r1] h6) fun x7 h8 =>
  vK (v_eql x5 x7) fun x9 =>
  gdK x9 true (fun kk => kk r2 h8) h8 fun x10 h11 =>
  gdK x9 true (fun kk => wK (callK E 35 [x10] h11) kk) h11 fun x12 h13 =>
  gdK x9 true (fun kk => kk r2 h13) h13 fun x14 h15 =>
  gdK x9 true (fun kk => wK (callK E 36 [x14] h15) kk) h15 fun x16 h17 =>
  gdK x9 true (fun kk => vK (v_eql x12 x16) fun v => kk v h17) h17 fun x18 h19 =>
  vK (v_pick x9 x18 (.bool false)) fun x20 =>
  gdK x20 true (fun kk => kk r0 h19) h19 fun x21 h22 =>
  gdK x20 true (fun kk => kk r1 h22) h22 fun x23 h24 =>
  gdK x20 true (fun kk => wK (callK E 37 [x21, x23] h24) kk) h24 fun x25 h26 =>
  gdK x20 true (fun kk => kk r0 h26) h26 fun x27 h28 =>
  gdK x20 true (fun kk => kk r1 h28) h28 fun x29 h30 =>
  gdK x20 true (fun kk => wK (callK E 38 [x27, x29] h30) kk) h30 fun x31 h32 =>
  gdK x20 true (fun kk => vK (v_eql x25 x31) fun v => kk v h32) h32 fun x33 h34 =>
  vK (v_pick x20 x33 (.bool false)) fun x35 =>
  gdK x35 true (fun kk => kk r0 h34) h34 fun x36 h37 =>
  gdK x35 true (fun kk => wK (callK E 33 [x36] h37) kk) h37 fun x38 h39 =>
  gdK x35 true (fun kk => kk r0 h39) h39 fun x40 h41 =>
  gdK x35 true (fun kk => wK (callK E 39 [x40] h41) kk) h41 fun x42 h43 =>
  gdK x35 true (fun kk => vK (v_eqv .bool false h43.get x38 x42) fun v => kk v h43) h43 fun x44 h45 =>
  vK (v_pick x35 x44 (.bool false)) fun x46 =>
  gdK x46 true (fun kk => wK (callK E 25 [] h45) kk) h45 fun x47 h48 =>
  vK (v_pick x46 x47 (.bool false)) fun x49 =>
  some (x49, h48))
def C11_0 : DC := (.seq (.reg [⟨(some p6), none, (.e (.mv (.c (.bool false))))⟩]) (.seq (.seq (.reg [⟨(some p7), none, (.e (.mv (.r p2)))⟩, ⟨(some p8), none, (.e (.lenL (.r p7)))⟩, ⟨(some p9), none, (.e (.bin .gtr (.r p8) (.c (.int .i64 (.ofNat 40)))))⟩]) (.cond (.r p9) (.seq (.reg [⟨(some p10), none, (.c (.f 25 []))⟩, ⟨(some p6), none, (.e (.mv (.r p10)))⟩]) .ret) .skip)) (.seq (.reg [⟨(some p11), none, (.e (.mv (.r p0)))⟩, ⟨(some p12), none, (.e (.mv (.r p1)))⟩, ⟨(some p13), none, (.c (.f 32 [(.r p11), (.r p12)]))⟩, ⟨(some p14), none, (.e (.mv (.r p0)))⟩, ⟨(some p15), none, (.e (.mv (.r p1)))⟩, ⟨(some p16), none, (.c (.f 34 [(.r p14), (.r p15)]))⟩, ⟨(some p17), none, (.e (.bin .eql (.r p13) (.r p16)))⟩, ⟨(some p18), none, (.e (.mv (.r p17)))⟩, ⟨(some p19), (some (p18, true)), (.e (.mv (.r p2)))⟩, ⟨(some p20), (some (p18, true)), (.c (.f 35 [(.r p19)]))⟩, ⟨(some p21), (some (p18, true)), (.e (.mv (.r p2)))⟩, ⟨(some p22), (some (p18, true)), (.c (.f 36 [(.r p21)]))⟩, ⟨(some p23), (some (p18, true)), (.e (.bin .eql (.r p20) (.r p22)))⟩, ⟨(some p24), none, (.e (.pick (.r p18) (.r p23) (.c (.bool false))))⟩, ⟨(some p25), none, (.e (.mv (.r p24)))⟩, ⟨(some p26), (some (p25, true)), (.e (.mv (.r p0)))⟩, ⟨(some p27), (some (p25, true)), (.e (.mv (.r p1)))⟩, ⟨(some p28), (some (p25, true)), (.c (.f 37 [(.r p26), (.r p27)]))⟩, ⟨(some p29), (some (p25, true)), (.e (.mv (.r p0)))⟩, ⟨(some p30), (some (p25, true)), (.e (.mv (.r p1)))⟩, ⟨(some p31), (some (p25, true)), (.c (.f 38 [(.r p29), (.r p30)]))⟩, ⟨(some p32), (some (p25, true)), (.e (.bin .eql (.r p28) (.r p31)))⟩, ⟨(some p33), none, (.e (.pick (.r p25) (.r p32) (.c (.bool false))))⟩, ⟨(some p34), none, (.e (.mv (.r p33)))⟩, ⟨(some p35), (some (p34, true)), (.e (.mv (.r p0)))⟩, ⟨(some p36), (some (p34, true)), (.c (.f 33 [(.r p35)]))⟩, ⟨(some p37), (some (p34, true)), (.e (.mv (.r p0)))⟩, ⟨(some p38), (some (p34, true)), (.c (.f 39 [(.r p37)]))⟩, ⟨(some p39), (some (p34, true)), (.e (.eqv .bool false (.r p36) (.r p38)))⟩, ⟨(some p40), none, (.e (.pick (.r p34) (.r p39) (.c (.bool false))))⟩, ⟨(some p41), none, (.e (.mv (.r p40)))⟩, ⟨(some p42), (some (p41, true)), (.c (.f 25 []))⟩, ⟨(some p43), none, (.e (.pick (.r p41) (.r p42) (.c (.bool false))))⟩, ⟨(some p6), none, (.e (.mv (.r p43)))⟩]) .ret)))
theorem I11_0 (E : Env) : Is E C11_0 (retK3 R11) (fun σ h => J11_0 E (σ p0) (σ p1) (σ p2) h) :=
  fun σ h => by kernel_rfl
def D11 : DF := ⟨3, 44, C11_0, R11⟩
noncomputable def S11 (E : Env) : Fun := fun args h => aS args fun r0 args => aS args fun r1 args => aS args fun r2 args => a0 args (J11_0 E r0 r1 r2 h)
theorem S11_eq (E : Env) (args : List DV) (h : H) : runFn E D11 args h = S11 E args h :=
  Is.fn3 (d := D11) (I11_0 E) rfl (fun r0 r1 r2 h => J11_0 E r0 r1 r2 h) (fun r0 r1 r2 h => by kernel_rfl) args h
/- hurdle/hurdlelaw01.BytesLost -/
def R12 : List RV := [(.r p4)]
noncomputable def J12_0 (E : Env) (r0 r1 : DV) (h : H) : Ans :=
  vK (v_lenL r0) fun x1 =>
  vK (v_eql x1 (.int .i64 (.ofNat 0))) fun x2 =>
  gdK x2 false (fun kk => kk r0 h) h fun x3 h4 =>
  gdK x2 false (fun kk => vK (v_lenL x3) fun v => kk v h4) h4 fun x5 h6 =>
  gdK x2 false (fun kk => vK (v_gtr x5 (.int .i64 (.ofNat 40))) fun v => kk v h6) h6 fun x7 h8 =>
  vK (v_pick x2 (.bool true) x7) fun x9 =>
  bK x9
  (wK (callK E 25 [] h8) fun x10 h11 =>
  some (x10, h11))
  (vK (v_conv .u64 r1) fun x12 =>
  vK (v_lenL r0) fun x13 =>
  vK (v_conv .u64 x13) fun x14 =>
  vK (v_rem x12 x14) fun x15 =>
  vK (v_conv .i64 x15) fun x16 =>
  vK (v_slL 1 r0 none (some x16)) fun x17 =>
  vK (v_add x16 (.int .i64 (.ofNat 1))) fun x18 =>
  vK (v_slL 1 r0 (some x18) none) fun x19 =>
  wK (dAppendF 1 16 .nils x17 h8) fun x20 h21 =>
  wK (dAppendF 1 16 x20 x19 h21) fun x22 h23 =>
  wK (callK E 35 [r0] h23) fun x24 h25 =>
  n_bsl 1 1 [(.str [])] [(0, 1, x24)] h25 fun x26 h27 =>
  wK (dAppendF 1 16 x22 x26 h27) fun x28 h29 =>
  wK (callK E 35 [x28] h29) fun x30 h31 =>
  vK (v_lenS x30) fun x32 =>
  vK (v_iaS 1 r0 x16) fun x33 =>
  vK (v_ld h31.get x33) fun x34 =>
  vK (v_lenS x34) fun x35 =>
  vK (v_geq x32 x35) fun x36 =>
  gdK x36 true (fun kk => kk x30 h31) h31 fun x37 h38 =>
  gdK x36 true (fun kk => kk r0 h38) h38 fun x39 h40 =>
  gdK x36 true (fun kk => kk x16 h40) h40 fun x41 h42 =>
  gdK x36 true (fun kk => vK (v_iaS 1 x39 x41) fun v => kk v h42) h42 fun x43 h44 =>
  gdK x36 true (fun kk => vK (v_ld h44.get x43) fun v => kk v h44) h44 fun x45 h46 =>
  gdK x36 true (fun kk => vK (v_lenS x45) fun v => kk v h46) h46 fun x47 h48 =>
  gdK x36 true (fun kk => vK (v_slS x37 none (some x47)) fun v => kk v h48) h48 fun x49 h50 =>
  gdK x36 true (fun kk => kk r0 h50) h50 fun x51 h52 =>
  gdK x36 true (fun kk => kk x16 h52) h52 fun x53 h54 =>
  gdK x36 true (fun kk => vK (v_iaS 1 x51 x53) fun v => kk v h54) h54 fun x55 h56 =>
  gdK x36 true (fun kk => vK (v_ld h56.get x55) fun v => kk v h56) h56 fun x57 h58 =>
  gdK x36 true (fun kk => vK (v_eql x49 x57) fun v => kk v h58) h58 fun x59 h60 =>
  vK (v_pick x36 x59 (.bool false)) fun x61 =>
  gdK x61 true (fun kk => kk x30 h60) h60 fun x62 h63 =>
  gdK x61 true (fun kk => kk r0 h63) h63 fun x64 h65 =>
  gdK x61 true (fun kk => kk x16 h65) h65 fun x66 h67 =>
  gdK x61 true (fun kk => vK (v_iaS 1 x64 x66) fun v => kk v h67) h67 fun x68 h69 =>
  gdK x61 true (fun kk => vK (v_ld h69.get x68) fun v => kk v h69) h69 fun x70 h71 =>
  gdK x61 true (fun kk => vK (v_lenS x70) fun v => kk v h71) h71 fun x72 h73 =>
  gdK x61 true (fun kk => vK (v_slS x62 (some x72) none) fun v => kk v h73) h73 fun x74 h75 =>
  gdK x61 true (fun kk => wK (callK E 33 [x74] h75) kk) h75 fun x76 h77 =>
  vK (v_pick x61 x76 (.bool false)) fun x78 =>
  gdK x78 true (fun kk => wK (callK E 25 [] h77) kk) h77 fun x79 h80 =>
  vK (v_pick x78 x79 (.bool false)) fun x81 =>
  some (x81, h80))
def C12_0 : DC := (.seq (.reg [⟨(some p4), none, (.e (.mv (.c (.bool false))))⟩]) (.seq (.seq (.reg [⟨(some p8), none, (.e (.mv (.r p0)))⟩, ⟨(some p9), none, (.e (.lenL (.r p8)))⟩, ⟨(some p10), none, (.e (.bin .eql (.r p9) (.c (.int .i64 (.ofNat 0)))))⟩, ⟨(some p11), none, (.e (.mv (.r p10)))⟩, ⟨(some p12), (some (p11, false)), (.e (.mv (.r p0)))⟩, ⟨(some p13), (some (p11, false)), (.e (.lenL (.r p12)))⟩, ⟨(some p14), (some (p11, false)), (.e (.bin .gtr (.r p13) (.c (.int .i64 (.ofNat 40)))))⟩, ⟨(some p15), none, (.e (.pick (.r p11) (.c (.bool true)) (.r p14)))⟩]) (.cond (.r p15) (.seq (.reg [⟨(some p16), none, (.c (.f 25 []))⟩, ⟨(some p4), none, (.e (.mv (.r p16)))⟩]) .ret) .skip)) (.seq (.reg [⟨(some p17), none, (.e (.mv (.r p1)))⟩, ⟨(some p18), none, (.e (.conv .u64 (.r p17)))⟩, ⟨(some p19), none, (.e (.mv (.r p0)))⟩, ⟨(some p20), none, (.e (.lenL (.r p19)))⟩, ⟨(some p21), none, (.e (.conv .u64 (.r p20)))⟩, ⟨(some p22), none, (.e (.bin .rem (.r p18) (.r p21)))⟩, ⟨(some p23), none, (.e (.conv .i64 (.r p22)))⟩, ⟨(some p5), none, (.e (.mv (.r p23)))⟩]) (.seq (.drg [⟨0, ⟨(some p24), none, (.e (.mv (.r p0)))⟩, [], false⟩, ⟨1, ⟨(some p25), none, (.e (.mv (.r p5)))⟩, [], false⟩, ⟨2, ⟨(some p26), none, (.e (.slL 1 (.r p24) none (some (.r p25))))⟩, [], false⟩, ⟨4, ⟨(some p28), none, (.e (.mv (.r p0)))⟩, [], false⟩, ⟨5, ⟨(some p29), none, (.e (.mv (.r p5)))⟩, [], false⟩, ⟨6, ⟨(some p30), none, (.e (.bin .add (.r p29) (.c (.int .i64 (.ofNat 1)))))⟩, [], false⟩, ⟨7, ⟨(some p31), none, (.e (.slL 1 (.r p28) (some (.r p30)) none))⟩, [], false⟩, ⟨3, ⟨(some p27), none, (.w (.app 1 16 (.c .nils) (.r p26)))⟩, [], false⟩, ⟨8, ⟨(some p32), none, (.w (.app 1 16 (.r p27) (.r p31)))⟩, [], false⟩, ⟨9, ⟨(some p6), none, (.e (.mv (.r p32)))⟩, [], false⟩]) (.seq (.reg [⟨(some p33), none, (.e (.mv (.r p6)))⟩, ⟨(some p34), none, (.e (.mv (.r p0)))⟩, ⟨(some p35), none, (.c (.f 35 [(.r p34)]))⟩, ⟨(some p36), none, (.e (.bsl 1 1 [(.str [])] [(0, 1, (.r p35))]))⟩, ⟨(some p37), none, (.w (.app 1 16 (.r p33) (.r p36)))⟩, ⟨(some p6), none, (.e (.mv (.r p37)))⟩]) (.seq (.reg [⟨(some p38), none, (.e (.mv (.r p6)))⟩, ⟨(some p39), none, (.c (.f 35 [(.r p38)]))⟩, ⟨(some p7), none, (.e (.mv (.r p39)))⟩]) (.seq (.drg [⟨0, ⟨(some p40), none, (.e (.mv (.r p7)))⟩, [], false⟩, ⟨1, ⟨(some p41), none, (.e (.lenS (.r p40)))⟩, [], false⟩, ⟨2, ⟨(some p42), none, (.e (.mv (.r p0)))⟩, [], false⟩, ⟨3, ⟨(some p43), none, (.e (.mv (.r p5)))⟩, [], false⟩, ⟨4, ⟨(some p44), none, (.e (.iaS 1 (.r p42) (.r p43)))⟩, [], false⟩, ⟨5, ⟨(some p45), none, (.e (.ld (.r p44)))⟩, [], false⟩, ⟨6, ⟨(some p46), none, (.e (.lenS (.r p45)))⟩, [], false⟩, ⟨7, ⟨(some p47), none, (.e (.bin .geq (.r p41) (.r p46)))⟩, [], false⟩, ⟨8, ⟨(some p48), none, (.e (.mv (.r p47)))⟩, [], false⟩, ⟨9, ⟨(some p49), (some (p48, true)), (.e (.mv (.r p7)))⟩, [], false⟩, ⟨10, ⟨(some p50), (some (p48, true)), (.e (.mv (.r p0)))⟩, [], false⟩, ⟨11, ⟨(some p51), (some (p48, true)), (.e (.mv (.r p5)))⟩, [], false⟩, ⟨12, ⟨(some p52), (some (p48, true)), (.e (.iaS 1 (.r p50) (.r p51)))⟩, [], false⟩, ⟨13, ⟨(some p53), (some (p48, true)), (.e (.ld (.r p52)))⟩, [], false⟩, ⟨14, ⟨(some p54), (some (p48, true)), (.e (.lenS (.r p53)))⟩, [], false⟩, ⟨15, ⟨(some p55), (some (p48, true)), (.e (.slS (.r p49) none (some (.r p54))))⟩, [], false⟩, ⟨16, ⟨(some p56), (some (p48, true)), (.e (.mv (.r p0)))⟩, [], false⟩, ⟨17, ⟨(some p57), (some (p48, true)), (.e (.mv (.r p5)))⟩, [], false⟩, ⟨18, ⟨(some p58), (some (p48, true)), (.e (.iaS 1 (.r p56) (.r p57)))⟩, [], false⟩, ⟨19, ⟨(some p59), (some (p48, true)), (.e (.ld (.r p58)))⟩, [], false⟩, ⟨20, ⟨(some p60), (some (p48, true)), (.e (.bin .eql (.r p55) (.r p59)))⟩, [], false⟩, ⟨21, ⟨(some p61), none, (.e (.pick (.r p48) (.r p60) (.c (.bool false))))⟩, [], false⟩, ⟨22, ⟨(some p62), none, (.e (.mv (.r p61)))⟩, [], false⟩, ⟨23, ⟨(some p63), (some (p62, true)), (.e (.mv (.r p7)))⟩, [], false⟩, ⟨24, ⟨(some p64), (some (p62, true)), (.e (.mv (.r p0)))⟩, [], false⟩, ⟨25, ⟨(some p65), (some (p62, true)), (.e (.mv (.r p5)))⟩, [], false⟩, ⟨26, ⟨(some p66), (some (p62, true)), (.e (.iaS 1 (.r p64) (.r p65)))⟩, [], false⟩, ⟨27, ⟨(some p67), (some (p62, true)), (.e (.ld (.r p66)))⟩, [], false⟩, ⟨28, ⟨(some p68), (some (p62, true)), (.e (.lenS (.r p67)))⟩, [], false⟩, ⟨29, ⟨(some p69), (some (p62, true)), (.e (.slS (.r p63) (some (.r p68)) none))⟩, [], false⟩, ⟨30, ⟨(some p70), (some (p62, true)), (.c (.f 33 [(.r p69)]))⟩, [], false⟩, ⟨31, ⟨(some p71), none, (.e (.pick (.r p62) (.r p70) (.c (.bool false))))⟩, [], false⟩, ⟨32, ⟨(some p72), none, (.e (.mv (.r p71)))⟩, [], false⟩, ⟨33, ⟨(some p73), (some (p72, true)), (.c (.f 25 []))⟩, [], false⟩, ⟨34, ⟨(some p74), none, (.e (.pick (.r p72) (.r p73) (.c (.bool false))))⟩, [], false⟩, ⟨35, ⟨(some p4), none, (.e (.mv (.r p74)))⟩, [], false⟩]) .ret)))))))
theorem I12_0 (E : Env) : Is E C12_0 (retK3 R12) (fun σ h => J12_0 E (σ p0) (σ p1) h) :=
  fun σ h => by kernel_rfl
def D12 : DF := ⟨2, 75, C12_0, R12⟩
noncomputable def S12 (E : Env) : Fun := fun args h => aS args fun r0 args => aS args fun r1 args => a0 args (J12_0 E r0 r1 h)
theorem S12_eq (E : Env) (args : List DV) (h : H) : runFn E D12 args h = S12 E args h :=
  Is.fn2 (d := D12) (I12_0 E) rfl (fun r0 r1 h => J12_0 E r0 r1 h) (fun r0 r1 h => by kernel_rfl) args h
/- hurdle/hurdleref01.Texts -/
def R20 : List RV := [(.r p4)]
noncomputable def J20_1 (E : Env) (h : H) : Ans :=
  some ((.bool true), h)
def C20_1 : DC := (.seq (.reg [⟨(some p4), none, (.e (.mv (.c (.bool true))))⟩]) .ret)
noncomputable def B20_2 (E : Env) (r0 r1 : DV) (i2 : DV → H → Ans) (r5 : DV) (h : H) : Ans :=
  vK (v_lenL r0) fun x1 =>
  vK (v_lss r5 x1) fun x2 =>
  bK x2
  (vK (v_iaS 1 r0 r5) fun x3 =>
  vK (v_ld h.get x3) fun x4 =>
  vK (v_iaS 1 r1 r5) fun x5 =>
  vK (v_ld h.get x5) fun x6 =>
  vK (v_neq x4 x6) fun x7 =>
  bK x7
  (some ((.bool false), h))
  (vK (v_add r5 (.int .i64 (.ofNat 1))) fun x8 =>
  i2 x8 h))
  (J20_1 E h)
noncomputable def L20_2 (E : Env) (r0 r1 : DV) (n : Nat) : DV → H → Ans := Nat.rec (motive := fun _ => DV → H → Ans) (fun _ _ => none) (fun _ i => B20_2 E r0 r1 i) n
def C20_2 : DC := (.loop (.seq (.seq (.reg [⟨(some p11), none, (.e (.mv (.r p5)))⟩, ⟨(some p12), none, (.e (.mv (.r p0)))⟩, ⟨(some p13), none, (.e (.lenL (.r p12)))⟩, ⟨(some p14), none, (.e (.bin .lss (.r p11) (.r p13)))⟩]) (.cond (.r p14) .skip (.exit 0))) (.seq (.block 1 (.seq (.drg [⟨0, ⟨(some p17), none, (.e (.mv (.r p0)))⟩, [], false⟩, ⟨1, ⟨(some p18), none, (.e (.mv (.r p5)))⟩, [], false⟩, ⟨2, ⟨(some p19), none, (.e (.iaS 1 (.r p17) (.r p18)))⟩, [], false⟩, ⟨3, ⟨(some p20), none, (.e (.ld (.r p19)))⟩, [], false⟩, ⟨4, ⟨(some p21), none, (.e (.mv (.r p1)))⟩, [], false⟩, ⟨5, ⟨(some p22), none, (.e (.mv (.r p5)))⟩, [], false⟩, ⟨6, ⟨(some p23), none, (.e (.iaS 1 (.r p21) (.r p22)))⟩, [], false⟩, ⟨7, ⟨(some p24), none, (.e (.ld (.r p23)))⟩, [], false⟩, ⟨8, ⟨(some p25), none, (.e (.bin .neq (.r p20) (.r p24)))⟩, [], false⟩]) (.cond (.r p25) (.seq (.reg [⟨(some p4), none, (.e (.mv (.c (.bool false))))⟩]) .ret) .skip))) (.reg [⟨(some p15), none, (.e (.mv (.r p5)))⟩, ⟨(some p16), none, (.e (.bin .add (.r p15) (.c (.int .i64 (.ofNat 1)))))⟩, ⟨(some p5), none, (.e (.mv (.r p16)))⟩]))))
noncomputable def J20_0 (E : Env) (r0 r1 : DV) (h : H) : Ans :=
  vK (v_lenL r0) fun x1 =>
  vK (v_lenL r1) fun x2 =>
  vK (v_neq x1 x2) fun x3 =>
  bK x3
  (some ((.bool false), h))
  (L20_2 E r0 r1 FUEL (.int .i64 (.ofNat 0)) h)
def C20_0 : DC := (.seq (.reg [⟨(some p4), none, (.e (.mv (.c (.bool false))))⟩]) (.seq (.seq (.reg [⟨(some p6), none, (.e (.mv (.r p0)))⟩, ⟨(some p7), none, (.e (.lenL (.r p6)))⟩, ⟨(some p8), none, (.e (.mv (.r p1)))⟩, ⟨(some p9), none, (.e (.lenL (.r p8)))⟩, ⟨(some p10), none, (.e (.bin .neq (.r p7) (.r p9)))⟩]) (.cond (.r p10) (.seq (.reg [⟨(some p4), none, (.e (.mv (.c (.bool false))))⟩]) .ret) .skip)) (.seq (.seq (.reg [⟨(some p5), none, (.e (.mv (.c (.int .i64 (.ofNat 0)))))⟩]) (.block 0 C20_2)) C20_1)))
theorem I20_1 (E : Env) : Is E C20_1 (retK3 R20) (fun σ h => J20_1 E h) :=
  fun σ h => by kernel_rfl
noncomputable abbrev K20_3 (E : Env) : KT2 (DV × H) := (blockK3 0 (thenK3 (fun σ h => J20_1 E h) (retK3 R20)))
theorem I20_2 (E : Env) : Is E C20_2 (K20_3 E) (fun σ h => L20_2 E (σ p0) (σ p1) FUEL (σ p5) h) :=
  Is.loop (fun n2 σ h => L20_2 E (σ p0) (σ p1) n2 (σ p5) h) (by kernel_rfl) fun n2 => Is.as (Is.leaf _) fun σ h => by kernel_rfl
theorem I20_0 (E : Env) : Is E C20_0 (retK3 R20) (fun σ h => J20_0 E (σ p0) (σ p1) h) :=
  Is.as (Is.seq (Is.seq (Is.seq (I20_1 E) (Is.seq (Is.block (I20_2 E)) (Is.leaf _))) (Is.leaf _)) (Is.leaf _)) fun σ h => by kernel_rfl
def D20 : DF := ⟨2, 26, C20_0, R20⟩
noncomputable def S20 (E : Env) : Fun := fun args h => aS args fun r0 args => aS args fun r1 args => a0 args (J20_0 E r0 r1 h)
theorem S20_eq (E : Env) (args : List DV) (h : H) : runFn E D20 args h = S20 E args h :=
  Is.fn2 (d := D20) (I20_0 E) rfl (fun r0 r1 h => J20_0 E r0 r1 h) (fun r0 r1 h => by kernel_rfl) args h
/- hurdle/hurdlelaw01.awake -/
def R25 : List RV := [(.r p0)]
noncomputable def J25_0 (E : Env) (h : H) : Ans :=
  wK (callK E 30 [(.str [97, 98, 99]), (.int .i64 (.ofNat 5)), (.str [120])] h) fun x1 h2 =>
  vK (v_ext 0 x1) fun x3 =>
  vK (v_ext 1 x1) fun x4 =>
  wK (callK E 26 [(.str [97]), (.int .i64 (.ofNat 3))] h2) fun x5 h6 =>
  vK (v_ext 0 x5) fun x7 =>
  vK (v_ext 1 x5) fun x8 =>
  wK (callK E 28 [(.str [97, 98, 99]), (.int .i64 (.ofNat 2))] h6) fun x9 h10 =>
  vK (v_ext 0 x9) fun x11 =>
  vK (v_ext 1 x9) fun x12 =>
  wK (callK E 30 [(.str []), (.int .i64 (.negSucc 0)), (.str [])] h10) fun x13 h14 =>
  vK (v_ext 0 x13) fun x15 =>
  vK (v_ext 1 x13) fun x16 =>
  vK (v_eql x3 (.str [97, 98, 99, 0, 0, 120])) fun x17 =>
  gdK x17 true (fun kk => kk x4 h14) h14 fun x18 h19 =>
  gdK x17 true (fun kk => vK (v_eql x18 (.int .i64 (.ofNat 0))) fun v => kk v h19) h19 fun x20 h21 =>
  vK (v_pick x17 x20 (.bool false)) fun x22 =>
  gdK x22 true (fun kk => kk x7 h21) h21 fun x23 h24 =>
  gdK x22 true (fun kk => vK (v_eql x23 (.str [97, 0, 0])) fun v => kk v h24) h24 fun x25 h26 =>
  vK (v_pick x22 x25 (.bool false)) fun x27 =>
  gdK x27 true (fun kk => kk x8 h26) h26 fun x28 h29 =>
  gdK x27 true (fun kk => vK (v_eql x28 (.int .i64 (.ofNat 0))) fun v => kk v h29) h29 fun x30 h31 =>
  vK (v_pick x27 x30 (.bool false)) fun x32 =>
  gdK x32 true (fun kk => kk x11 h31) h31 fun x33 h34 =>
  gdK x32 true (fun kk => n_bsl 2 1 [(.str [])] [(0, 1, (.str [97, 98])), (1, 1, (.str [99, 0]))] h34 kk) h34 fun x35 h36 =>
  gdK x32 true (fun kk => wK (callK E 20 [x33, x35] h36) kk) h36 fun x37 h38 =>
  vK (v_pick x32 x37 (.bool false)) fun x39 =>
  gdK x39 true (fun kk => kk x12 h38) h38 fun x40 h41 =>
  gdK x39 true (fun kk => vK (v_eql x40 (.int .i64 (.ofNat 0))) fun v => kk v h41) h41 fun x42 h43 =>
  vK (v_pick x39 x42 (.bool false)) fun x44 =>
  gdK x44 true (fun kk => kk x16 h43) h43 fun x45 h46 =>
  gdK x44 true (fun kk => vK (v_eql x45 (.int .i64 (.ofNat 1))) fun v => kk v h46) h46 fun x47 h48 =>
  vK (v_pick x44 x47 (.bool false)) fun x49 =>
  gdK x49 true (fun kk => wK (callK E 32 [(.str [97]), (.str [97, 98])] h48) kk) h48 fun x50 h51 =>
  gdK x49 true (fun kk => vK (v_eql x50 (.str [0, 98])) fun v => kk v h51) h51 fun x52 h53 =>
  vK (v_pick x49 x52 (.bool false)) fun x54 =>
  gdK x54 true (fun kk => wK (callK E 37 [(.str [97, 98, 99]), (.str [97, 98, 100])] h53) kk) h53 fun x55 h56 =>
  gdK x54 true (fun kk => vK (v_eql x55 (.int .i64 (.ofNat 2))) fun v => kk v h56) h56 fun x57 h58 =>
  vK (v_pick x54 x57 (.bool false)) fun x59 =>
  gdK x59 true (fun kk => wK (callK E 33 [(.str [0])] h58) kk) h58 fun x60 h61 =>
  vK (v_pick x59 x60 (.bool false)) fun x62 =>
  gdK x62 true (fun kk => wK (callK E 33 [(.str [97])] h61) kk) h61 fun x63 h64 =>
  gdK x62 true (fun kk => vK (v_not x63) fun v => kk v h64) h64 fun x65 h66 =>
  vK (v_pick x62 x65 (.bool false)) fun x67 =>
  some (x67, h66)
def C25_0 : DC := (.seq (.reg [⟨(some p0), none, (.e (.mv (.c (.bool false))))⟩]) (.seq (.reg [⟨(some p10), none, (.c (.f 30 [(.c (.str [97, 98, 99])), (.c (.int .i64 (.ofNat 5))), (.c (.str [120]))]))⟩, ⟨(some p9), none, (.e (.mv (.r p10)))⟩, ⟨(some p11), none, (.e (.ext 0 (.r p9)))⟩, ⟨(some p12), none, (.e (.ext 1 (.r p9)))⟩, ⟨(some p1), none, (.e (.mv (.r p11)))⟩, ⟨(some p2), none, (.e (.mv (.r p12)))⟩]) (.seq (.reg [⟨(some p14), none, (.c (.f 26 [(.c (.str [97])), (.c (.int .i64 (.ofNat 3)))]))⟩, ⟨(some p13), none, (.e (.mv (.r p14)))⟩, ⟨(some p15), none, (.e (.ext 0 (.r p13)))⟩, ⟨(some p16), none, (.e (.ext 1 (.r p13)))⟩, ⟨(some p3), none, (.e (.mv (.r p15)))⟩, ⟨(some p4), none, (.e (.mv (.r p16)))⟩]) (.seq (.reg [⟨(some p18), none, (.c (.f 28 [(.c (.str [97, 98, 99])), (.c (.int .i64 (.ofNat 2)))]))⟩, ⟨(some p17), none, (.e (.mv (.r p18)))⟩, ⟨(some p19), none, (.e (.ext 0 (.r p17)))⟩, ⟨(some p20), none, (.e (.ext 1 (.r p17)))⟩, ⟨(some p5), none, (.e (.mv (.r p19)))⟩, ⟨(some p6), none, (.e (.mv (.r p20)))⟩]) (.seq (.reg [⟨(some p22), none, (.c (.f 30 [(.c (.str [])), (.c (.int .i64 (.negSucc 0))), (.c (.str []))]))⟩, ⟨(some p21), none, (.e (.mv (.r p22)))⟩, ⟨(some p23), none, (.e (.ext 0 (.r p21)))⟩, ⟨(some p24), none, (.e (.ext 1 (.r p21)))⟩, ⟨(some p7), none, (.e (.mv (.r p23)))⟩, ⟨(some p8), none, (.e (.mv (.r p24)))⟩]) (.seq (.reg [⟨(some p25), none, (.e (.mv (.r p1)))⟩, ⟨(some p26), none, (.e (.bin .eql (.r p25) (.c (.str [97, 98, 99, 0, 0, 120]))))⟩, ⟨(some p27), none, (.e (.mv (.r p26)))⟩, ⟨(some p28), (some (p27, true)), (.e (.mv (.r p2)))⟩, ⟨(some p29), (some (p27, true)), (.e (.bin .eql (.r p28) (.c (.int .i64 (.ofNat 0)))))⟩, ⟨(some p30), none, (.e (.pick (.r p27) (.r p29) (.c (.bool false))))⟩, ⟨(some p31), none, (.e (.mv (.r p30)))⟩, ⟨(some p32), (some (p31, true)), (.e (.mv (.r p3)))⟩, ⟨(some p33), (some (p31, true)), (.e (.bin .eql (.r p32) (.c (.str [97, 0, 0]))))⟩, ⟨(some p34), none, (.e (.pick (.r p31) (.r p33) (.c (.bool false))))⟩, ⟨(some p35), none, (.e (.mv (.r p34)))⟩, ⟨(some p36), (some (p35, true)), (.e (.mv (.r p4)))⟩, ⟨(some p37), (some (p35, true)), (.e (.bin .eql (.r p36) (.c (.int .i64 (.ofNat 0)))))⟩, ⟨(some p38), none, (.e (.pick (.r p35) (.r p37) (.c (.bool false))))⟩, ⟨(some p39), none, (.e (.mv (.r p38)))⟩, ⟨(some p40), (some (p39, true)), (.e (.mv (.r p5)))⟩, ⟨(some p41), (some (p39, true)), (.e (.bsl 2 1 [(.str [])] [(0, 1, (.c (.str [97, 98]))), (1, 1, (.c (.str [99, 0])))]))⟩, ⟨(some p42), (some (p39, true)), (.c (.f 20 [(.r p40), (.r p41)]))⟩, ⟨(some p43), none, (.e (.pick (.r p39) (.r p42) (.c (.bool false))))⟩, ⟨(some p44), none, (.e (.mv (.r p43)))⟩, ⟨(some p45), (some (p44, true)), (.e (.mv (.r p6)))⟩, ⟨(some p46), (some (p44, true)), (.e (.bin .eql (.r p45) (.c (.int .i64 (.ofNat 0)))))⟩, ⟨(some p47), none, (.e (.pick (.r p44) (.r p46) (.c (.bool false))))⟩, ⟨(some p48), none, (.e (.mv (.r p47)))⟩, ⟨(some p49), (some (p48, true)), (.e (.mv (.r p8)))⟩, ⟨(some p50), (some (p48, true)), (.e (.bin .eql (.r p49) (.c (.int .i64 (.ofNat 1)))))⟩, ⟨(some p51), none, (.e (.pick (.r p48) (.r p50) (.c (.bool false))))⟩, ⟨(some p52), none, (.e (.mv (.r p51)))⟩, ⟨(some p53), (some (p52, true)), (.c (.f 32 [(.c (.str [97])), (.c (.str [97, 98]))]))⟩, ⟨(some p54), (some (p52, true)), (.e (.bin .eql (.r p53) (.c (.str [0, 98]))))⟩, ⟨(some p55), none, (.e (.pick (.r p52) (.r p54) (.c (.bool false))))⟩, ⟨(some p56), none, (.e (.mv (.r p55)))⟩, ⟨(some p57), (some (p56, true)), (.c (.f 37 [(.c (.str [97, 98, 99])), (.c (.str [97, 98, 100]))]))⟩, ⟨(some p58), (some (p56, true)), (.e (.bin .eql (.r p57) (.c (.int .i64 (.ofNat 2)))))⟩, ⟨(some p59), none, (.e (.pick (.r p56) (.r p58) (.c (.bool false))))⟩, ⟨(some p60), none, (.e (.mv (.r p59)))⟩, ⟨(some p61), (some (p60, true)), (.c (.f 33 [(.c (.str [0]))]))⟩, ⟨(some p62), none, (.e (.pick (.r p60) (.r p61) (.c (.bool false))))⟩, ⟨(some p63), none, (.e (.mv (.r p62)))⟩, ⟨(some p64), (some (p63, true)), (.c (.f 33 [(.c (.str [97]))]))⟩, ⟨(some p65), (some (p63, true)), (.e (.not (.r p64)))⟩, ⟨(some p66), none, (.e (.pick (.r p63) (.r p65) (.c (.bool false))))⟩, ⟨(some p0), none, (.e (.mv (.r p66)))⟩]) .ret))))))
theorem I25_0 (E : Env) : Is E C25_0 (retK3 R25) (fun σ h => J25_0 E h) :=
  fun σ h => by kernel_rfl
def D25 : DF := ⟨0, 67, C25_0, R25⟩
noncomputable def S25 (E : Env) : Fun := fun args h => a0 args (J25_0 E h)
theorem S25_eq (E : Env) (args : List DV) (h : H) : runFn E D25 args h = S25 E args h :=
  Is.fn0 (d := D25) (I25_0 E) rfl (fun h => J25_0 E h) (fun h => by kernel_rfl) args h
/- hurdle/bytes.Pad -/
def R26 : List RV := [(.r p4), (.r p5)]
noncomputable def J26_0 (E : Env) (r0 r1 : DV) (h : H) : Ans :=
  vK (v_lss r1 (.int .i64 (.ofNat 0))) fun x1 =>
  gdK x1 false (fun kk => kk r1 h) h fun x2 h3 =>
  gdK x1 false (fun kk => vK (v_gtr x2 (.int .i64 (.ofNat 65536))) fun v => kk v h3) h3 fun x4 h5 =>
  vK (v_pick x1 (.bool true) x4) fun x6 =>
  bK x6
  (some ((.tup [(.str []), (.int .i64 (.ofNat 1))]), h5))
  (vK (v_lenS r0) fun x7 =>
  vK (v_gtr x7 r1) fun x8 =>
  bK x8
  (some ((.tup [(.str []), (.int .i64 (.ofNat 2))]), h5))
  (vK (v_lenS r0) fun x9 =>
  vK (v_sub r1 x9) fun x10 =>
  wK (callK E 45 [x10] h5) fun x11 h12 =>
  vK (v_add r0 x11) fun x13 =>
  some ((.tup [x13, (.int .i64 (.ofNat 0))]), h12)))
def C26_0 : DC := (.seq (.reg [⟨(some p4), none, (.e (.mv (.c (.str []))))⟩, ⟨(some p5), none, (.e (.mv (.c (.int .i64 (.ofNat 0)))))⟩]) (.seq (.block 0 (.seq (.reg [⟨(some p7), none, (.e (.mv (.r p1)))⟩, ⟨(some p8), none, (.e (.bin .lss (.r p7) (.c (.int .i64 (.ofNat 0)))))⟩, ⟨(some p9), none, (.e (.mv (.r p8)))⟩, ⟨(some p10), (some (p9, false)), (.e (.mv (.r p1)))⟩, ⟨(some p11), (some (p9, false)), (.e (.bin .gtr (.r p10) (.c (.int .i64 (.ofNat 65536)))))⟩, ⟨(some p12), none, (.e (.pick (.r p9) (.c (.bool true)) (.r p11)))⟩, ⟨(some p6), none, (.e (.mv (.r p12)))⟩]) (.cond (.r p6) (.seq (.reg [⟨(some p4), none, (.e (.mv (.c (.str []))))⟩, ⟨(some p5), none, (.e (.mv (.c (.int .i64 (.ofNat 1)))))⟩]) .ret) (.seq (.reg [⟨(some p14), none, (.e (.mv (.r p0)))⟩, ⟨(some p15), none, (.e (.lenS (.r p14)))⟩, ⟨(some p16), none, (.e (.mv (.r p1)))⟩, ⟨(some p17), none, (.e (.bin .gtr (.r p15) (.r p16)))⟩, ⟨(some p13), none, (.e (.mv (.r p17)))⟩]) (.cond (.r p13) (.seq (.reg [⟨(some p4), none, (.e (.mv (.c (.str []))))⟩, ⟨(some p5), none, (.e (.mv (.c (.int .i64 (.ofNat 2)))))⟩]) .ret) .skip))))) (.seq (.reg [⟨(some p18), none, (.e (.mv (.r p0)))⟩, ⟨(some p19), none, (.e (.mv (.r p1)))⟩, ⟨(some p20), none, (.e (.mv (.r p0)))⟩, ⟨(some p21), none, (.e (.lenS (.r p20)))⟩, ⟨(some p22), none, (.e (.bin .sub (.r p19) (.r p21)))⟩, ⟨(some p23), none, (.c (.f 45 [(.r p22)]))⟩, ⟨(some p24), none, (.e (.bin .add (.r p18) (.r p23)))⟩, ⟨(some p4), none, (.e (.mv (.r p24)))⟩, ⟨(some p5), none, (.e (.mv (.c (.int .i64 (.ofNat 0)))))⟩]) .ret)))
theorem I26_0 (E : Env) : Is E C26_0 (retK3 R26) (fun σ h => J26_0 E (σ p0) (σ p1) h) :=
  fun σ h => by kernel_rfl
def D26 : DF := ⟨2, 25, C26_0, R26⟩
noncomputable def S26 (E : Env) : Fun := fun args h => aS args fun r0 args => aS args fun r1 args => a0 args (J26_0 E r0 r1 h)
theorem S26_eq (E : Env) (args : List DV) (h : H) : runFn E D26 args h = S26 E args h :=
  Is.fn2 (d := D26) (I26_0 E) rfl (fun r0 r1 h => J26_0 E r0 r1 h) (fun r0 r1 h => by kernel_rfl) args h
/- hurdle/hurdleref01.Pad -/
def R27 : List RV := [(.r p4), (.r p5)]
noncomputable def J27_0 (E : Env) (r0 r1 : DV) (h : H) : Ans :=
  vK (v_lss r1 (.int .i64 (.ofNat 0))) fun x1 =>
  gdK x1 false (fun kk => kk r1 h) h fun x2 h3 =>
  gdK x1 false (fun kk => vK (v_gtr x2 (.int .i64 (.ofNat 65536))) fun v => kk v h3) h3 fun x4 h5 =>
  vK (v_pick x1 (.bool true) x4) fun x6 =>
  bK x6
  (some ((.tup [(.str []), (.int .i64 (.ofNat 1))]), h5))
  (vK (v_lenS r0) fun x7 =>
  vK (v_gtr x7 r1) fun x8 =>
  bK x8
  (some ((.tup [(.str []), (.int .i64 (.ofNat 2))]), h5))
  (vK (v_lenS r0) fun x9 =>
  vK (v_sub r1 x9) fun x10 =>
  wK (callK E 46 [x10] h5) fun x11 h12 =>
  vK (v_add r0 x11) fun x13 =>
  some ((.tup [x13, (.int .i64 (.ofNat 0))]), h12)))
def C27_0 : DC := (.seq (.reg [⟨(some p4), none, (.e (.mv (.c (.str []))))⟩, ⟨(some p5), none, (.e (.mv (.c (.int .i64 (.ofNat 0)))))⟩]) (.seq (.seq (.reg [⟨(some p6), none, (.e (.mv (.r p1)))⟩, ⟨(some p7), none, (.e (.bin .lss (.r p6) (.c (.int .i64 (.ofNat 0)))))⟩, ⟨(some p8), none, (.e (.mv (.r p7)))⟩, ⟨(some p9), (some (p8, false)), (.e (.mv (.r p1)))⟩, ⟨(some p10), (some (p8, false)), (.e (.bin .gtr (.r p9) (.c (.int .i64 (.ofNat 65536)))))⟩, ⟨(some p11), none, (.e (.pick (.r p8) (.c (.bool true)) (.r p10)))⟩]) (.cond (.r p11) (.seq (.reg [⟨(some p4), none, (.e (.mv (.c (.str []))))⟩, ⟨(some p5), none, (.e (.mv (.c (.int .i64 (.ofNat 1)))))⟩]) .ret) .skip)) (.seq (.seq (.reg [⟨(some p12), none, (.e (.mv (.r p0)))⟩, ⟨(some p13), none, (.e (.lenS (.r p12)))⟩, ⟨(some p14), none, (.e (.mv (.r p1)))⟩, ⟨(some p15), none, (.e (.bin .gtr (.r p13) (.r p14)))⟩]) (.cond (.r p15) (.seq (.reg [⟨(some p4), none, (.e (.mv (.c (.str []))))⟩, ⟨(some p5), none, (.e (.mv (.c (.int .i64 (.ofNat 2)))))⟩]) .ret) .skip)) (.seq (.reg [⟨(some p16), none, (.e (.mv (.r p0)))⟩, ⟨(some p17), none, (.e (.mv (.r p1)))⟩, ⟨(some p18), none, (.e (.mv (.r p0)))⟩, ⟨(some p19), none, (.e (.lenS (.r p18)))⟩, ⟨(some p20), none, (.e (.bin .sub (.r p17) (.r p19)))⟩, ⟨(some p21), none, (.c (.f 46 [(.r p20)]))⟩, ⟨(some p22), none, (.e (.bin .add (.r p16) (.r p21)))⟩, ⟨(some p4), none, (.e (.mv (.r p22)))⟩, ⟨(some p5), none, (.e (.mv (.c (.int .i64 (.ofNat 0)))))⟩]) .ret))))
theorem I27_0 (E : Env) : Is E C27_0 (retK3 R27) (fun σ h => J27_0 E (σ p0) (σ p1) h) :=
  fun σ h => by kernel_rfl
def D27 : DF := ⟨2, 23, C27_0, R27⟩
noncomputable def S27 (E : Env) : Fun := fun args h => aS args fun r0 args => aS args fun r1 args => a0 args (J27_0 E r0 r1 h)
theorem S27_eq (E : Env) (args : List DV) (h : H) : runFn E D27 args h = S27 E args h :=
  Is.fn2 (d := D27) (I27_0 E) rfl (fun r0 r1 h => J27_0 E r0 r1 h) (fun r0 r1 h => by kernel_rfl) args h
/- hurdle/bytes.Cut -/
def R28 : List RV := [(.r p4), (.r p5)]
noncomputable def J28_3 (E : Env) (r6 : DV) (h : H) : Ans :=
  some ((.tup [r6, (.int .i64 (.ofNat 0))]), h)
def C28_3 : DC := (.seq (.reg [⟨(some p38), none, (.e (.mv (.r p6)))⟩, ⟨(some p4), none, (.e (.mv (.r p38)))⟩, ⟨(some p5), none, (.e (.mv (.c (.int .i64 (.ofNat 0)))))⟩]) .ret)
noncomputable def J28_1 (E : Env) (r0 r1 r6 : DV) (h : H) : Ans :=
  vK (v_neq r0 (.str [])) fun x1 =>
  bK x1
  (vK (v_lenS r0) fun x2 =>
  vK (v_sub r1 x2) fun x3 =>
  wK (callK E 45 [x3] h) fun x4 h5 =>
  vK (v_add r0 x4) fun x6 =>
  n_bsl 1 1 [(.str [])] [(0, 1, x6)] h5 fun x7 h8 =>
  wK (dAppendF 1 16 r6 x7 h8) fun x9 h10 =>
  J28_3 E x9 h10)
  (J28_3 E r6 h)
def C28_1 : DC := (.seq (.seq (.reg [⟨(some p26), none, (.e (.mv (.r p0)))⟩, ⟨(some p27), none, (.e (.bin .neq (.r p26) (.c (.str []))))⟩]) (.cond (.r p27) (.reg [⟨(some p28), none, (.e (.mv (.r p6)))⟩, ⟨(some p29), none, (.e (.mv (.r p0)))⟩, ⟨(some p30), none, (.e (.mv (.r p1)))⟩, ⟨(some p31), none, (.e (.mv (.r p0)))⟩, ⟨(some p32), none, (.e (.lenS (.r p31)))⟩, ⟨(some p33), none, (.e (.bin .sub (.r p30) (.r p32)))⟩, ⟨(some p34), none, (.c (.f 45 [(.r p33)]))⟩, ⟨(some p35), none, (.e (.bin .add (.r p29) (.r p34)))⟩, ⟨(some p36), none, (.e (.bsl 1 1 [(.str [])] [(0, 1, (.r p35))]))⟩, ⟨(some p37), none, (.w (.app 1 16 (.r p28) (.r p36)))⟩, ⟨(some p6), none, (.e (.mv (.r p37)))⟩]) .skip)) C28_3)
noncomputable def B28_2 (E : Env) (r1 : DV) (i2 : DV → DV → H → Ans) (r0 r6 : DV) (h : H) : Ans :=
  vK (v_lenS r0) fun x1 =>
  vK (v_gtr x1 r1) fun x2 =>
  bK x2
  (vK (v_slS r0 none (some r1)) fun x3 =>
  n_bsl 1 1 [(.str [])] [(0, 1, x3)] h fun x4 h5 =>
  wK (dAppendF 1 16 r6 x4 h5) fun x6 h7 =>
  vK (v_slS r0 (some r1) none) fun x8 =>
  i2 x8 x6 h7)
  (J28_1 E r0 r1 r6 h)
noncomputable def L28_2 (E : Env) (r1 : DV) (n : Nat) : DV → DV → H → Ans := Nat.rec (motive := fun _ => DV → DV → H → Ans) (fun _ _ _ => none) (fun _ i => B28_2 E r1 i) n
def C28_2 : DC := (.loop (.seq (.seq (.reg [⟨(some p13), none, (.e (.mv (.r p0)))⟩, ⟨(some p14), none, (.e (.lenS (.r p13)))⟩, ⟨(some p15), none, (.e (.mv (.r p1)))⟩, ⟨(some p16), none, (.e (.bin .gtr (.r p14) (.r p15)))⟩]) (.cond (.r p16) .skip (.exit 0))) (.seq (.block 1 (.reg [⟨(some p20), none, (.e (.mv (.r p6)))⟩, ⟨(some p21), none, (.e (.mv (.r p0)))⟩, ⟨(some p22), none, (.e (.mv (.r p1)))⟩, ⟨(some p23), none, (.e (.slS (.r p21) none (some (.r p22))))⟩, ⟨(some p24), none, (.e (.bsl 1 1 [(.str [])] [(0, 1, (.r p23))]))⟩, ⟨(some p25), none, (.w (.app 1 16 (.r p20) (.r p24)))⟩, ⟨(some p6), none, (.e (.mv (.r p25)))⟩])) (.reg [⟨(some p17), none, (.e (.mv (.r p0)))⟩, ⟨(some p18), none, (.e (.mv (.r p1)))⟩, ⟨(some p19), none, (.e (.slS (.r p17) (some (.r p18)) none))⟩, ⟨(some p0), none, (.e (.mv (.r p19)))⟩]))))
noncomputable def J28_0 (E : Env) (r0 r1 : DV) (h : H) : Ans :=
  vK (v_lss r1 (.int .i64 (.ofNat 1))) fun x1 =>
  gdK x1 false (fun kk => kk r1 h) h fun x2 h3 =>
  gdK x1 false (fun kk => vK (v_gtr x2 (.int .i64 (.ofNat 65536))) fun v => kk v h3) h3 fun x4 h5 =>
  vK (v_pick x1 (.bool true) x4) fun x6 =>
  bK x6
  (some ((.tup [.nils, (.int .i64 (.ofNat 1))]), h5))
  (L28_2 E r1 FUEL r0 .nils h5)
def C28_0 : DC := (.seq (.reg [⟨(some p4), none, (.e (.mv (.c .nils)))⟩, ⟨(some p5), none, (.e (.mv (.c (.int .i64 (.ofNat 0)))))⟩]) (.seq (.seq (.reg [⟨(some p7), none, (.e (.mv (.r p1)))⟩, ⟨(some p8), none, (.e (.bin .lss (.r p7) (.c (.int .i64 (.ofNat 1)))))⟩, ⟨(some p9), none, (.e (.mv (.r p8)))⟩, ⟨(some p10), (some (p9, false)), (.e (.mv (.r p1)))⟩, ⟨(some p11), (some (p9, false)), (.e (.bin .gtr (.r p10) (.c (.int .i64 (.ofNat 65536)))))⟩, ⟨(some p12), none, (.e (.pick (.r p9) (.c (.bool true)) (.r p11)))⟩]) (.cond (.r p12) (.seq (.reg [⟨(some p4), none, (.e (.mv (.c .nils)))⟩, ⟨(some p5), none, (.e (.mv (.c (.int .i64 (.ofNat 1)))))⟩]) .ret) .skip)) (.seq (.reg [⟨(some p6), none, (.e (.mv (.c .nils)))⟩]) (.seq (.block 0 C28_2) C28_1))))
theorem I28_3 (E : Env) : Is E C28_3 (retK3 R28) (fun σ h => J28_3 E (σ p6) h) :=
  fun σ h => by kernel_rfl
theorem I28_1 (E : Env) : Is E C28_1 (retK3 R28) (fun σ h => J28_1 E (σ p0) (σ p1) (σ p6) h) :=
  Is.as (Is.seq (I28_3 E) (Is.leaf _)) fun σ h => by kernel_rfl
noncomputable abbrev K28_4 (E : Env) : KT2 (DV × H) := (thenK3 (fun σ h => J28_1 E (σ p0) (σ p1) (σ p6) h) (retK3 R28))
theorem I28_2 (E : Env) : Is E C28_2 (blockK3 0 (K28_4 E)) (fun σ h => L28_2 E (σ p1) FUEL (σ p0) (σ p6) h) :=
  Is.loop (fun n2 σ h => L28_2 E (σ p1) n2 (σ p0) (σ p6) h) (by kernel_rfl) fun n2 => Is.as (Is.leaf _) fun σ h => by kernel_rfl
theorem I28_0 (E : Env) : Is E C28_0 (retK3 R28) (fun σ h => J28_0 E (σ p0) (σ p1) h) :=
  Is.as (Is.seq (Is.seq (Is.seq (Is.seq (I28_1 E) (Is.block (I28_2 E))) (Is.leaf _)) (Is.leaf _)) (Is.leaf _)) fun σ h => by kernel_rfl
def D28 : DF := ⟨2, 39, C28_0, R28⟩
noncomputable def S28 (E : Env) : Fun := fun args h => aS args fun r0 args => aS args fun r1 args => a0 args (J28_0 E r0 r1 h)
theorem S28_eq (E : Env) (args : List DV) (h : H) : runFn E D28 args h = S28 E args h :=
  Is.fn2 (d := D28) (I28_0 E) rfl (fun r0 r1 h => J28_0 E r0 r1 h) (fun r0 r1 h => by kernel_rfl) args h
/- hurdle/hurdleref01.Cut -/
def R29 : List RV := [(.r p4), (.r p5)]
noncomputable def J29_1 (E : Env) (r6 : DV) (h : H) : Ans :=
  some ((.tup [r6, (.int .i64 (.ofNat 0))]), h)
def C29_1 : DC := (.seq (.reg [⟨(some p41), none, (.e (.mv (.r p6)))⟩, ⟨(some p4), none, (.e (.mv (.r p41)))⟩, ⟨(some p5), none, (.e (.mv (.c (.int .i64 (.ofNat 0)))))⟩]) .ret)
noncomputable def B29_2 (E : Env) (r0 r1 : DV) (i2 : DV → DV → H → Ans) (r6 r7 : DV) (h : H) : Ans :=
  vK (v_lenS r0) fun x1 =>
  vK (v_lss r7 x1) fun x2 =>
  bK x2
  (vK (v_add r7 r1) fun x3 =>
  vK (v_lenS r0) fun x4 =>
  vK (v_mn x3 x4) fun x5 =>
  vK (v_slS r0 (some r7) (some x5)) fun x6 =>
  wK (callK E 27 [x6, r1] h) fun x7 h8 =>
  vK (v_ext 0 x7) fun x9 =>
  vK (v_ext 1 x7) fun x10 =>
  n_bsl 1 1 [(.str [])] [(0, 1, x9)] h8 fun x11 h12 =>
  wK (dAppendF 1 16 r6 x11 h12) fun x13 h14 =>
  vK (v_add r7 r1) fun x15 =>
  i2 x13 x15 h14)
  (J29_1 E r6 h)
noncomputable def L29_2 (E : Env) (r0 r1 : DV) (n : Nat) : DV → DV → H → Ans := Nat.rec (motive := fun _ => DV → DV → H → Ans) (fun _ _ _ => none) (fun _ i => B29_2 E r0 r1 i) n
def C29_2 : DC := (.loop (.seq (.seq (.reg [⟨(some p16), none, (.e (.mv (.r p7)))⟩, ⟨(some p17), none, (.e (.mv (.r p0)))⟩, ⟨(some p18), none, (.e (.lenS (.r p17)))⟩, ⟨(some p19), none, (.e (.bin .lss (.r p16) (.r p18)))⟩]) (.cond (.r p19) .skip (.exit 0))) (.seq (.block 1 (.seq (.reg [⟨(some p24), none, (.e (.mv (.r p0)))⟩, ⟨(some p25), none, (.e (.mv (.r p7)))⟩, ⟨(some p26), none, (.e (.mv (.r p7)))⟩, ⟨(some p27), none, (.e (.mv (.r p1)))⟩, ⟨(some p28), none, (.e (.bin .add (.r p26) (.r p27)))⟩, ⟨(some p29), none, (.e (.mv (.r p0)))⟩, ⟨(some p30), none, (.e (.lenS (.r p29)))⟩, ⟨(some p31), none, (.e (.mn (.r p28) (.r p30)))⟩, ⟨(some p32), none, (.e (.slS (.r p24) (some (.r p25)) (some (.r p31))))⟩, ⟨(some p33), none, (.e (.mv (.r p1)))⟩, ⟨(some p34), none, (.c (.f 27 [(.r p32), (.r p33)]))⟩, ⟨(some p23), none, (.e (.mv (.r p34)))⟩, ⟨(some p35), none, (.e (.ext 0 (.r p23)))⟩, ⟨(some p36), none, (.e (.ext 1 (.r p23)))⟩, ⟨(some p8), none, (.e (.mv (.r p35)))⟩, ⟨(some p9), none, (.e (.mv (.r p36)))⟩]) (.reg [⟨(some p37), none, (.e (.mv (.r p6)))⟩, ⟨(some p38), none, (.e (.mv (.r p8)))⟩, ⟨(some p39), none, (.e (.bsl 1 1 [(.str [])] [(0, 1, (.r p38))]))⟩, ⟨(some p40), none, (.w (.app 1 16 (.r p37) (.r p39)))⟩, ⟨(some p6), none, (.e (.mv (.r p40)))⟩]))) (.reg [⟨(some p20), none, (.e (.mv (.r p7)))⟩, ⟨(some p21), none, (.e (.mv (.r p1)))⟩, ⟨(some p22), none, (.e (.bin .add (.r p20) (.r p21)))⟩, ⟨(some p7), none, (.e (.mv (.r p22)))⟩]))))
noncomputable def J29_0 (E : Env) (r0 r1 : DV) (h : H) : Ans :=
  vK (v_lss r1 (.int .i64 (.ofNat 1))) fun x1 =>
  gdK x1 false (fun kk => kk r1 h) h fun x2 h3 =>
  gdK x1 false (fun kk => vK (v_gtr x2 (.int .i64 (.ofNat 65536))) fun v => kk v h3) h3 fun x4 h5 =>
  vK (v_pick x1 (.bool true) x4) fun x6 =>
  bK x6
  (some ((.tup [.nils, (.int .i64 (.ofNat 1))]), h5))
  (L29_2 E r0 r1 FUEL .nils (.int .i64 (.ofNat 0)) h5)
def C29_0 : DC := (.seq (.reg [⟨(some p4), none, (.e (.mv (.c .nils)))⟩, ⟨(some p5), none, (.e (.mv (.c (.int .i64 (.ofNat 0)))))⟩]) (.seq (.seq (.reg [⟨(some p10), none, (.e (.mv (.r p1)))⟩, ⟨(some p11), none, (.e (.bin .lss (.r p10) (.c (.int .i64 (.ofNat 1)))))⟩, ⟨(some p12), none, (.e (.mv (.r p11)))⟩, ⟨(some p13), (some (p12, false)), (.e (.mv (.r p1)))⟩, ⟨(some p14), (some (p12, false)), (.e (.bin .gtr (.r p13) (.c (.int .i64 (.ofNat 65536)))))⟩, ⟨(some p15), none, (.e (.pick (.r p12) (.c (.bool true)) (.r p14)))⟩]) (.cond (.r p15) (.seq (.reg [⟨(some p4), none, (.e (.mv (.c .nils)))⟩, ⟨(some p5), none, (.e (.mv (.c (.int .i64 (.ofNat 1)))))⟩]) .ret) .skip)) (.seq (.reg [⟨(some p6), none, (.e (.mv (.c .nils)))⟩]) (.seq (.seq (.reg [⟨(some p7), none, (.e (.mv (.c (.int .i64 (.ofNat 0)))))⟩]) (.block 0 C29_2)) C29_1))))
theorem I29_1 (E : Env) : Is E C29_1 (retK3 R29) (fun σ h => J29_1 E (σ p6) h) :=
  fun σ h => by kernel_rfl
noncomputable abbrev K29_3 (E : Env) : KT2 (DV × H) := (thenK3 (fun σ h => J29_1 E (σ p6) h) (retK3 R29))
theorem I29_2 (E : Env) : Is E C29_2 (blockK3 0 (K29_3 E)) (fun σ h => L29_2 E (σ p0) (σ p1) FUEL (σ p6) (σ p7) h) :=
  Is.loop (fun n2 σ h => L29_2 E (σ p0) (σ p1) n2 (σ p6) (σ p7) h) (by kernel_rfl) fun n2 => Is.as (Is.leaf _) fun σ h => by kernel_rfl
theorem I29_0 (E : Env) : Is E C29_0 (retK3 R29) (fun σ h => J29_0 E (σ p0) (σ p1) h) :=
  Is.as (Is.seq (Is.seq (Is.seq (Is.seq (I29_1 E) (Is.seq (Is.block (I29_2 E)) (Is.leaf _))) (Is.leaf _)) (Is.leaf _)) (Is.leaf _)) fun σ h => by kernel_rfl
def D29 : DF := ⟨2, 42, C29_0, R29⟩
noncomputable def S29 (E : Env) : Fun := fun args h => aS args fun r0 args => aS args fun r1 args => a0 args (J29_0 E r0 r1 h)
theorem S29_eq (E : Env) (args : List DV) (h : H) : runFn E D29 args h = S29 E args h :=
  Is.fn2 (d := D29) (I29_0 E) rfl (fun r0 r1 h => J29_0 E r0 r1 h) (fun r0 r1 h => by kernel_rfl) args h
/- hurdle/bytes.Put -/
def R30 : List RV := [(.r p6), (.r p7)]
noncomputable def J30_0 (E : Env) (r0 r1 r2 : DV) (h : H) : Ans :=
  vK (v_lss r1 (.int .i64 (.ofNat 0))) fun x1 =>
  bK x1
  (some ((.tup [(.str []), (.int .i64 (.ofNat 1))]), h))
  (vK (v_lenS r0) fun x2 =>
  vK (v_gtr x2 (.int .i64 (.ofNat 65536))) fun x3 =>
  gdK x3 false (fun kk => kk r2 h) h fun x4 h5 =>
  gdK x3 false (fun kk => vK (v_lenS x4) fun v => kk v h5) h5 fun x6 h7 =>
  gdK x3 false (fun kk => vK (v_gtr x6 (.int .i64 (.ofNat 65536))) fun v => kk v h7) h7 fun x8 h9 =>
  vK (v_pick x3 (.bool true) x8) fun x10 =>
  gdK x10 false (fun kk => kk r1 h9) h9 fun x11 h12 =>
  gdK x10 false (fun kk => kk r2 h12) h12 fun x13 h14 =>
  gdK x10 false (fun kk => vK (v_lenS x13) fun v => kk v h14) h14 fun x15 h16 =>
  gdK x10 false (fun kk => vK (v_sub (.int .i64 (.ofNat 65536)) x15) fun v => kk v h16) h16 fun x17 h18 =>
  gdK x10 false (fun kk => vK (v_gtr x11 x17) fun v => kk v h18) h18 fun x19 h20 =>
  vK (v_pick x10 (.bool true) x19) fun x21 =>
  bK x21
  (some ((.tup [(.str []), (.int .i64 (.ofNat 2))]), h20))
  (vK (v_lenS r0) fun x22 =>
  vK (v_lenS r2) fun x23 =>
  vK (v_add r1 x23) fun x24 =>
  vK (v_mx x22 x24) fun x25 =>
  n_mks 1 1 (.int .u8 (.ofNat 0)) x25 x25 h20 fun x26 h27 =>
  wK (dCopyF 1 x26 r0 h27) fun x28 h29 =>
  vK (v_slL 1 x26 (some r1) none) fun x30 =>
  wK (dCopyF 1 x30 r2 h29) fun x31 h32 =>
  vK (v_b2s h32.get x26) fun x33 =>
  some ((.tup [x33, (.int .i64 (.ofNat 0))]), h32)))
def C30_0 : DC := (.seq (.reg [⟨(some p6), none, (.e (.mv (.c (.str []))))⟩, ⟨(some p7), none, (.e (.mv (.c (.int .i64 (.ofNat 0)))))⟩]) (.seq (.block 0 (.seq (.reg [⟨(some p10), none, (.e (.mv (.r p1)))⟩, ⟨(some p11), none, (.e (.bin .lss (.r p10) (.c (.int .i64 (.ofNat 0)))))⟩, ⟨(some p9), none, (.e (.mv (.r p11)))⟩]) (.cond (.r p9) (.seq (.reg [⟨(some p6), none, (.e (.mv (.c (.str []))))⟩, ⟨(some p7), none, (.e (.mv (.c (.int .i64 (.ofNat 1)))))⟩]) .ret) (.seq (.reg [⟨(some p13), none, (.e (.mv (.r p0)))⟩, ⟨(some p14), none, (.e (.lenS (.r p13)))⟩, ⟨(some p15), none, (.e (.bin .gtr (.r p14) (.c (.int .i64 (.ofNat 65536)))))⟩, ⟨(some p16), none, (.e (.mv (.r p15)))⟩, ⟨(some p17), (some (p16, false)), (.e (.mv (.r p2)))⟩, ⟨(some p18), (some (p16, false)), (.e (.lenS (.r p17)))⟩, ⟨(some p19), (some (p16, false)), (.e (.bin .gtr (.r p18) (.c (.int .i64 (.ofNat 65536)))))⟩, ⟨(some p20), none, (.e (.pick (.r p16) (.c (.bool true)) (.r p19)))⟩, ⟨(some p21), none, (.e (.mv (.r p20)))⟩, ⟨(some p22), (some (p21, false)), (.e (.mv (.r p1)))⟩, ⟨(some p23), (some (p21, false)), (.e (.mv (.r p2)))⟩, ⟨(some p24), (some (p21, false)), (.e (.lenS (.r p23)))⟩, ⟨(some p25), (some (p21, false)), (.e (.bin .sub (.c (.int .i64 (.ofNat 65536))) (.r p24)))⟩, ⟨(some p26), (some (p21, false)), (.e (.bin .gtr (.r p22) (.r p25)))⟩, ⟨(some p27), none, (.e (.pick (.r p21) (.c (.bool true)) (.r p26)))⟩, ⟨(some p12), none, (.e (.mv (.r p27)))⟩]) (.cond (.r p12) (.seq (.reg [⟨(some p6), none, (.e (.mv (.c (.str []))))⟩, ⟨(some p7), none, (.e (.mv (.c (.int .i64 (.ofNat 2)))))⟩]) .ret) .skip))))) (.seq (.reg [⟨(some p28), none, (.e (.mv (.r p0)))⟩, ⟨(some p29), none, (.e (.lenS (.r p28)))⟩, ⟨(some p30), none, (.e (.mv (.r p1)))⟩, ⟨(some p31), none, (.e (.mv (.r p2)))⟩, ⟨(some p32), none, (.e (.lenS (.r p31)))⟩, ⟨(some p33), none, (.e (.bin .add (.r p30) (.r p32)))⟩, ⟨(some p34), none, (.e (.mx (.r p29) (.r p33)))⟩, ⟨(some p35), none, (.e (.mks 1 1 (.int .u8 (.ofNat 0)) (.r p34) (.r p34)))⟩, ⟨(some p8), none, (.e (.mv (.r p35)))⟩]) (.seq (.reg [⟨(some p36), none, (.e (.mv (.r p8)))⟩, ⟨(some p37), none, (.e (.mv (.r p0)))⟩, ⟨(some p38), none, (.w (.cpy 1 (.r p36) (.r p37)))⟩]) (.seq (.reg [⟨(some p39), none, (.e (.mv (.r p8)))⟩, ⟨(some p40), none, (.e (.mv (.r p1)))⟩, ⟨(some p41), none, (.e (.slL 1 (.r p39) (some (.r p40)) none))⟩, ⟨(some p42), none, (.e (.mv (.r p2)))⟩, ⟨(some p43), none, (.w (.cpy 1 (.r p41) (.r p42)))⟩]) (.seq (.reg [⟨(some p44), none, (.e (.mv (.r p8)))⟩, ⟨(some p45), none, (.e (.b2s (.r p44)))⟩, ⟨(some p6), none, (.e (.mv (.r p45)))⟩, ⟨(some p7), none, (.e (.mv (.c (.int .i64 (.ofNat 0)))))⟩]) .ret))))))
theorem I30_0 (E : Env) : Is E C30_0 (retK3 R30) (fun σ h => J30_0 E (σ p0) (σ p1) (σ p2) h) :=
  fun σ h => by kernel_rfl
def D30 : DF := ⟨3, 46, C30_0, R30⟩
noncomputable def S30 (E : Env) : Fun := fun args h => aS args fun r0 args => aS args fun r1 args => aS args fun r2 args => a0 args (J30_0 E r0 r1 r2 h)
theorem S30_eq (E : Env) (args : List DV) (h : H) : runFn E D30 args h = S30 E args h :=
  Is.fn3 (d := D30) (I30_0 E) rfl (fun r0 r1 r2 h => J30_0 E r0 r1 r2 h) (fun r0 r1 r2 h => by kernel_rfl) args h
/- hurdle/hurdleref01.Put -/
def R31 : List RV := [(.r p6), (.r p7)]
noncomputable def J31_3 (E : Env) (r8 : DV) (h : H) : Ans :=
  vK (v_b2s h.get r8) fun x1 =>
  some ((.tup [x1, (.int .i64 (.ofNat 0))]), h)
def C31_3 : DC := (.seq (.reg [⟨(some p53), none, (.e (.mv (.r p8)))⟩, ⟨(some p54), none, (.e (.b2s (.r p53)))⟩, ⟨(some p6), none, (.e (.mv (.r p54)))⟩, ⟨(some p7), none, (.e (.mv (.c (.int .i64 (.ofNat 0)))))⟩]) .ret)
noncomputable def B31_4 (E : Env) (r1 r2 r8 : DV) (i4 : DV → H → Ans) (r9 : DV) (h : H) : Ans :=
  vK (v_lenS r2) fun x1 =>
  vK (v_lss r9 x1) fun x2 =>
  bK x2
  (vK (v_add r1 r9) fun x3 =>
  vK (v_ixS r2 r9) fun x4 =>
  vK (v_iaS 1 r8 x3) fun x5 =>
  wK (dStF 1 x5 x4 h) fun x6 h7 =>
  vK (v_add r9 (.int .i64 (.ofNat 1))) fun x8 =>
  i4 x8 h7)
  (J31_3 E r8 h)
noncomputable def L31_4 (E : Env) (r1 r2 r8 : DV) (n : Nat) : DV → H → Ans := Nat.rec (motive := fun _ => DV → H → Ans) (fun _ _ => none) (fun _ i => B31_4 E r1 r2 r8 i) n
def C31_4 : DC := (.loop (.seq (.seq (.reg [⟨(some p39), none, (.e (.mv (.r p9)))⟩, ⟨(some p40), none, (.e (.mv (.r p2)))⟩, ⟨(some p41), none, (.e (.lenS (.r p40)))⟩, ⟨(some p42), none, (.e (.bin .lss (.r p39) (.r p41)))⟩]) (.cond (.r p42) .skip (.exit 2))) (.seq (.block 3 (.reg [⟨(some p45), none, (.e (.mv (.r p8)))⟩, ⟨(some p46), none, (.e (.mv (.r p1)))⟩, ⟨(some p47), none, (.e (.mv (.r p9)))⟩, ⟨(some p48), none, (.e (.bin .add (.r p46) (.r p47)))⟩, ⟨(some p49), none, (.e (.mv (.r p2)))⟩, ⟨(some p50), none, (.e (.mv (.r p9)))⟩, ⟨(some p51), none, (.e (.ixS (.r p49) (.r p50)))⟩, ⟨(some p52), none, (.e (.iaS 1 (.r p45) (.r p48)))⟩, ⟨none, none, (.w (.st 1 (.r p52) (.r p51)))⟩])) (.reg [⟨(some p43), none, (.e (.mv (.r p9)))⟩, ⟨(some p44), none, (.e (.bin .add (.r p43) (.c (.int .i64 (.ofNat 1)))))⟩, ⟨(some p9), none, (.e (.mv (.r p44)))⟩]))))
noncomputable def J31_1 (E : Env) (r1 r2 r8 : DV) (h : H) : Ans :=
  L31_4 E r1 r2 r8 FUEL (.int .i64 (.ofNat 0)) h
def C31_1 : DC := (.seq (.seq (.reg [⟨(some p9), none, (.e (.mv (.c (.int .i64 (.ofNat 0)))))⟩]) (.block 2 C31_4)) C31_3)
noncomputable def B31_2 (E : Env) (r1 r2 : DV) (i2 : DV → H → Ans) (r8 : DV) (h : H) : Ans :=
  vK (v_lenL r8) fun x1 =>
  vK (v_lenS r2) fun x2 =>
  vK (v_add r1 x2) fun x3 =>
  vK (v_lss x1 x3) fun x4 =>
  bK x4
  (n_bsl 1 1 [(.int .u8 (.ofNat 0))] [(0, 1, (.int .u8 (.ofNat 0)))] h fun x5 h6 =>
  wK (dAppendF 1 1 r8 x5 h6) fun x7 h8 =>
  i2 x7 h8)
  (J31_1 E r1 r2 r8 h)
noncomputable def L31_2 (E : Env) (r1 r2 : DV) (n : Nat) : DV → H → Ans := Nat.rec (motive := fun _ => DV → H → Ans) (fun _ _ => none) (fun _ i => B31_2 E r1 r2 i) n
def C31_2 : DC := (.loop (.seq (.seq (.reg [⟨(some p29), none, (.e (.mv (.r p8)))⟩, ⟨(some p30), none, (.e (.lenL (.r p29)))⟩, ⟨(some p31), none, (.e (.mv (.r p1)))⟩, ⟨(some p32), none, (.e (.mv (.r p2)))⟩, ⟨(some p33), none, (.e (.lenS (.r p32)))⟩, ⟨(some p34), none, (.e (.bin .add (.r p31) (.r p33)))⟩, ⟨(some p35), none, (.e (.bin .lss (.r p30) (.r p34)))⟩]) (.cond (.r p35) .skip (.exit 0))) (.block 1 (.reg [⟨(some p36), none, (.e (.mv (.r p8)))⟩, ⟨(some p37), none, (.e (.bsl 1 1 [(.int .u8 (.ofNat 0))] [(0, 1, (.c (.int .u8 (.ofNat 0))))]))⟩, ⟨(some p38), none, (.w (.app 1 1 (.r p36) (.r p37)))⟩, ⟨(some p8), none, (.e (.mv (.r p38)))⟩]))))
noncomputable def J31_0 (E : Env) (r0 r1 r2 : DV) (h : H) : Ans :=
  vK (v_lss r1 (.int .i64 (.ofNat 0))) fun x1 =>
  bK x1
  (some ((.tup [(.str []), (.int .i64 (.ofNat 1))]), h))
  (vK (v_lenS r0) fun x2 =>
  vK (v_gtr x2 (.int .i64 (.ofNat 65536))) fun x3 =>
  gdK x3 false (fun kk => kk r2 h) h fun x4 h5 =>
  gdK x3 false (fun kk => vK (v_lenS x4) fun v => kk v h5) h5 fun x6 h7 =>
  gdK x3 false (fun kk => vK (v_gtr x6 (.int .i64 (.ofNat 65536))) fun v => kk v h7) h7 fun x8 h9 =>
  vK (v_pick x3 (.bool true) x8) fun x10 =>
  gdK x10 false (fun kk => kk r1 h9) h9 fun x11 h12 =>
  gdK x10 false (fun kk => kk r2 h12) h12 fun x13 h14 =>
  gdK x10 false (fun kk => vK (v_lenS x13) fun v => kk v h14) h14 fun x15 h16 =>
  gdK x10 false (fun kk => vK (v_sub (.int .i64 (.ofNat 65536)) x15) fun v => kk v h16) h16 fun x17 h18 =>
  gdK x10 false (fun kk => vK (v_gtr x11 x17) fun v => kk v h18) h18 fun x19 h20 =>
  vK (v_pick x10 (.bool true) x19) fun x21 =>
  bK x21
  (some ((.tup [(.str []), (.int .i64 (.ofNat 2))]), h20))
  (n_s2b r0 h20 fun x22 h23 =>
  L31_2 E r1 r2 FUEL x22 h23))
def C31_0 : DC := (.seq (.reg [⟨(some p6), none, (.e (.mv (.c (.str []))))⟩, ⟨(some p7), none, (.e (.mv (.c (.int .i64 (.ofNat 0)))))⟩]) (.seq (.seq (.reg [⟨(some p10), none, (.e (.mv (.r p1)))⟩, ⟨(some p11), none, (.e (.bin .lss (.r p10) (.c (.int .i64 (.ofNat 0)))))⟩]) (.cond (.r p11) (.seq (.reg [⟨(some p6), none, (.e (.mv (.c (.str []))))⟩, ⟨(some p7), none, (.e (.mv (.c (.int .i64 (.ofNat 1)))))⟩]) .ret) .skip)) (.seq (.seq (.reg [⟨(some p12), none, (.e (.mv (.r p0)))⟩, ⟨(some p13), none, (.e (.lenS (.r p12)))⟩, ⟨(some p14), none, (.e (.bin .gtr (.r p13) (.c (.int .i64 (.ofNat 65536)))))⟩, ⟨(some p15), none, (.e (.mv (.r p14)))⟩, ⟨(some p16), (some (p15, false)), (.e (.mv (.r p2)))⟩, ⟨(some p17), (some (p15, false)), (.e (.lenS (.r p16)))⟩, ⟨(some p18), (some (p15, false)), (.e (.bin .gtr (.r p17) (.c (.int .i64 (.ofNat 65536)))))⟩, ⟨(some p19), none, (.e (.pick (.r p15) (.c (.bool true)) (.r p18)))⟩, ⟨(some p20), none, (.e (.mv (.r p19)))⟩, ⟨(some p21), (some (p20, false)), (.e (.mv (.r p1)))⟩, ⟨(some p22), (some (p20, false)), (.e (.mv (.r p2)))⟩, ⟨(some p23), (some (p20, false)), (.e (.lenS (.r p22)))⟩, ⟨(some p24), (some (p20, false)), (.e (.bin .sub (.c (.int .i64 (.ofNat 65536))) (.r p23)))⟩, ⟨(some p25), (some (p20, false)), (.e (.bin .gtr (.r p21) (.r p24)))⟩, ⟨(some p26), none, (.e (.pick (.r p20) (.c (.bool true)) (.r p25)))⟩]) (.cond (.r p26) (.seq (.reg [⟨(some p6), none, (.e (.mv (.c (.str []))))⟩, ⟨(some p7), none, (.e (.mv (.c (.int .i64 (.ofNat 2)))))⟩]) .ret) .skip)) (.seq (.reg [⟨(some p27), none, (.e (.mv (.r p0)))⟩, ⟨(some p28), none, (.e (.s2b (.r p27)))⟩, ⟨(some p8), none, (.e (.mv (.r p28)))⟩]) (.seq (.block 0 C31_2) C31_1)))))
theorem I31_3 (E : Env) : Is E C31_3 (retK3 R31) (fun σ h => J31_3 E (σ p8) h) :=
  fun σ h => by kernel_rfl
noncomputable abbrev K31_5 (E : Env) : KT2 (DV × H) := (thenK3 (fun σ h => J31_3 E (σ p8) h) (retK3 R31))
theorem I31_4 (E : Env) : Is E C31_4 (blockK3 2 (K31_5 E)) (fun σ h => L31_4 E (σ p1) (σ p2) (σ p8) FUEL (σ p9) h) :=
  Is.loop (fun n4 σ h => L31_4 E (σ p1) (σ p2) (σ p8) n4 (σ p9) h) (by kernel_rfl) fun n4 => Is.as (Is.leaf _) fun σ h => by kernel_rfl
theorem I31_1 (E : Env) : Is E C31_1 (retK3 R31) (fun σ h => J31_1 E (σ p1) (σ p2) (σ p8) h) :=
  Is.as (Is.seq (I31_3 E) (Is.seq (Is.block (I31_4 E)) (Is.leaf _))) fun σ h => by kernel_rfl
noncomputable abbrev K31_6 (E : Env) : KT2 (DV × H) := (thenK3 (fun σ h => J31_1 E (σ p1) (σ p2) (σ p8) h) (retK3 R31))
theorem I31_2 (E : Env) : Is E C31_2 (blockK3 0 (K31_6 E)) (fun σ h => L31_2 E (σ p1) (σ p2) FUEL (σ p8) h) :=
  Is.loop (fun n2 σ h => L31_2 E (σ p1) (σ p2) n2 (σ p8) h) (by kernel_rfl) fun n2 => Is.as (Is.leaf _) fun σ h => by kernel_rfl
theorem I31_0 (E : Env) : Is E C31_0 (retK3 R31) (fun σ h => J31_0 E (σ p0) (σ p1) (σ p2) h) :=
  Is.as (Is.seq (Is.seq (Is.seq (Is.seq (Is.seq (I31_1 E) (Is.block (I31_2 E))) (Is.leaf _)) (Is.leaf _)) (Is.leaf _)) (Is.leaf _)) fun σ h => by kernel_rfl
def D31 : DF := ⟨3, 55, C31_0, R31⟩
noncomputable def S31 (E : Env) : Fun := fun args h => aS args fun r0 args => aS args fun r1 args => aS args fun r2 args => a0 args (J31_0 E r0 r1 r2 h)
theorem S31_eq (E : Env) (args : List DV) (h : H) : runFn E D31 args h = S31 E args h :=
  Is.fn3 (d := D31) (I31_0 E) rfl (fun r0 r1 r2 h => J31_0 E r0 r1 r2 h) (fun r0 r1 r2 h => by kernel_rfl) args h
/- hurdle/bytes.Xor -/
def R32 : List RV := [(.r p4)]
noncomputable def J32_0 (E : Env) (r0 r1 : DV) (h : H) : Ans :=
  vK (v_lenS r0) fun x1 =>
  vK (v_lenS r1) fun x2 =>
  vK (v_mx x1 x2) fun x3 =>
  n_mks 1 1 (.int .u8 (.ofNat 0)) x3 x3 h fun x4 h5 =>
  wK (callK E 47 [x4, r0] h5) fun x6 h7 =>
  wK (callK E 47 [x4, r1] h7) fun x8 h9 =>
  vK (v_b2s h9.get x4) fun x10 =>
  some (x10, h9)
def C32_0 : DC := (.seq (.reg [⟨(some p4), none, (.e (.mv (.c (.str []))))⟩]) (.seq (.reg [⟨(some p6), none, (.e (.mv (.r p0)))⟩, ⟨(some p7), none, (.e (.lenS (.r p6)))⟩, ⟨(some p8), none, (.e (.mv (.r p1)))⟩, ⟨(some p9), none, (.e (.lenS (.r p8)))⟩, ⟨(some p10), none, (.e (.mx (.r p7) (.r p9)))⟩, ⟨(some p11), none, (.e (.mks 1 1 (.int .u8 (.ofNat 0)) (.r p10) (.r p10)))⟩, ⟨(some p5), none, (.e (.mv (.r p11)))⟩]) (.seq (.reg [⟨(some p12), none, (.e (.mv (.r p5)))⟩, ⟨(some p13), none, (.e (.mv (.r p0)))⟩, ⟨(some p14), none, (.c (.f 47 [(.r p12), (.r p13)]))⟩]) (.seq (.reg [⟨(some p15), none, (.e (.mv (.r p5)))⟩, ⟨(some p16), none, (.e (.mv (.r p1)))⟩, ⟨(some p17), none, (.c (.f 47 [(.r p15), (.r p16)]))⟩]) (.seq (.reg [⟨(some p18), none, (.e (.mv (.r p5)))⟩, ⟨(some p19), none, (.e (.b2s (.r p18)))⟩, ⟨(some p4), none, (.e (.mv (.r p19)))⟩]) .ret)))))
theorem I32_0 (E : Env) : Is E C32_0 (retK3 R32) (fun σ h => J32_0 E (σ p0) (σ p1) h) :=
  fun σ h => by kernel_rfl
def D32 : DF := ⟨2, 20, C32_0, R32⟩
noncomputable def S32 (E : Env) : Fun := fun args h => aS args fun r0 args => aS args fun r1 args => a0 args (J32_0 E r0 r1 h)
theorem S32_eq (E : Env) (args : List DV) (h : H) : runFn E D32 args h = S32 E args h :=
  Is.fn2 (d := D32) (I32_0 E) rfl (fun r0 r1 h => J32_0 E r0 r1 h) (fun r0 r1 h => by kernel_rfl) args h
/- hurdle/bytes.Zero -/
def R33 : List RV := [(.r p2)]
noncomputable def J33_0 (E : Env) (r0 : DV) (h : H) : Ans :=
  wK (callK E 48 [r0, (.str [0])] h) fun x1 h2 =>
  vK (v_eql x1 (.str [])) fun x3 =>
  some (x3, h2)
def C33_0 : DC := (.seq (.reg [⟨(some p2), none, (.e (.mv (.c (.bool false))))⟩]) (.seq (.reg [⟨(some p3), none, (.e (.mv (.r p0)))⟩, ⟨(some p4), none, (.c (.f 48 [(.r p3), (.c (.str [0]))]))⟩, ⟨(some p5), none, (.e (.bin .eql (.r p4) (.c (.str []))))⟩, ⟨(some p2), none, (.e (.mv (.r p5)))⟩]) .ret))
theorem I33_0 (E : Env) : Is E C33_0 (retK3 R33) (fun σ h => J33_0 E (σ p0) h) :=
  fun σ h => by kernel_rfl
def D33 : DF := ⟨1, 6, C33_0, R33⟩
noncomputable def S33 (E : Env) : Fun := fun args h => aS args fun r0 args => a0 args (J33_0 E r0 h)
theorem S33_eq (E : Env) (args : List DV) (h : H) : runFn E D33 args h = S33 E args h :=
  Is.fn1 (d := D33) (I33_0 E) rfl (fun r0 h => J33_0 E r0 h) (fun r0 h => by kernel_rfl) args h
/- hurdle/hurdleref01.Xor -/
def R34 : List RV := [(.r p4)]
noncomputable def J34_1 (E : Env) (r5 : DV) (h : H) : Ans :=
  vK (v_b2s h.get r5) fun x1 =>
  some (x1, h)
def C34_1 : DC := (.seq (.reg [⟨(some p42), none, (.e (.mv (.r p5)))⟩, ⟨(some p43), none, (.e (.b2s (.r p42)))⟩, ⟨(some p4), none, (.e (.mv (.r p43)))⟩]) .ret)
noncomputable def J34_3 (E : Env) (i2 : DV → DV → H → Ans) (r5 r6 : DV) (h : H) : Ans :=
  vK (v_add r6 (.int .i64 (.ofNat 1))) fun x1 =>
  i2 r5 x1 h
def C34_3 : DC := (.reg [⟨(some p18), none, (.e (.mv (.r p6)))⟩, ⟨(some p19), none, (.e (.bin .add (.r p18) (.c (.int .i64 (.ofNat 1)))))⟩, ⟨(some p6), none, (.e (.mv (.r p19)))⟩])
noncomputable def J34_5 (E : Env) (i2 : DV → DV → H → Ans) (r5 r6 r7 : DV) (h : H) : Ans :=
  n_bsl 1 1 [(.int .u8 (.ofNat 0))] [(0, 1, r7)] h fun x1 h2 =>
  wK (dAppendF 1 1 r5 x1 h2) fun x3 h4 =>
  J34_3 E i2 x3 r6 h4
def C34_5 : DC := (.reg [⟨(some p38), none, (.e (.mv (.r p5)))⟩, ⟨(some p39), none, (.e (.mv (.r p7)))⟩, ⟨(some p40), none, (.e (.bsl 1 1 [(.int .u8 (.ofNat 0))] [(0, 1, (.r p39))]))⟩, ⟨(some p41), none, (.w (.app 1 1 (.r p38) (.r p40)))⟩, ⟨(some p5), none, (.e (.mv (.r p41)))⟩])
noncomputable def J34_4 (E : Env) (i2 : DV → DV → H → Ans) (r1 r5 r6 r7 : DV) (h : H) : Ans :=
  vK (v_lenS r1) fun x1 =>
  vK (v_lss r6 x1) fun x2 =>
  bK x2
  (vK (v_ixS r1 r6) fun x3 =>
  vK (v_xor r7 x3) fun x4 =>
  J34_5 E i2 r5 r6 x4 h)
  (J34_5 E i2 r5 r6 r7 h)
def C34_4 : DC := (.seq (.seq (.reg [⟨(some p29), none, (.e (.mv (.r p6)))⟩, ⟨(some p30), none, (.e (.mv (.r p1)))⟩, ⟨(some p31), none, (.e (.lenS (.r p30)))⟩, ⟨(some p32), none, (.e (.bin .lss (.r p29) (.r p31)))⟩]) (.cond (.r p32) (.reg [⟨(some p33), none, (.e (.mv (.r p7)))⟩, ⟨(some p34), none, (.e (.mv (.r p1)))⟩, ⟨(some p35), none, (.e (.mv (.r p6)))⟩, ⟨(some p36), none, (.e (.ixS (.r p34) (.r p35)))⟩, ⟨(some p37), none, (.e (.bin .xor (.r p33) (.r p36)))⟩, ⟨(some p7), none, (.e (.mv (.r p37)))⟩]) .skip)) C34_5)
noncomputable def B34_2 (E : Env) (r0 r1 : DV) (i2 : DV → DV → H → Ans) (r5 r6 : DV) (h : H) : Ans :=
  vK (v_lenS r0) fun x1 =>
  vK (v_lss r6 x1) fun x2 =>
  gdK x2 false (fun kk => kk r6 h) h fun x3 h4 =>
  gdK x2 false (fun kk => kk r1 h4) h4 fun x5 h6 =>
  gdK x2 false (fun kk => vK (v_lenS x5) fun v => kk v h6) h6 fun x7 h8 =>
  gdK x2 false (fun kk => vK (v_lss x3 x7) fun v => kk v h8) h8 fun x9 h10 =>
  vK (v_pick x2 (.bool true) x9) fun x11 =>
  bK x11
  (vK (v_lenS r0) fun x12 =>
  vK (v_lss r6 x12) fun x13 =>
  bK x13
  (vK (v_ixS r0 r6) fun x14 =>
  vK (v_xor (.int .u8 (.ofNat 0)) x14) fun x15 =>
  J34_4 E i2 r1 r5 r6 x15 h10)
  (J34_4 E i2 r1 r5 r6 (.int .u8 (.ofNat 0)) h10))
  (J34_1 E r5 h10)
noncomputable def L34_2 (E : Env) (r0 r1 : DV) (n : Nat) : DV → DV → H → Ans := Nat.rec (motive := fun _ => DV → DV → H → Ans) (fun _ _ _ => none) (fun _ i => B34_2 E r0 r1 i) n
def C34_2 : DC := (.loop (.seq (.seq (.reg [⟨(some p8), none, (.e (.mv (.r p6)))⟩, ⟨(some p9), none, (.e (.mv (.r p0)))⟩, ⟨(some p10), none, (.e (.lenS (.r p9)))⟩, ⟨(some p11), none, (.e (.bin .lss (.r p8) (.r p10)))⟩, ⟨(some p12), none, (.e (.mv (.r p11)))⟩, ⟨(some p13), (some (p12, false)), (.e (.mv (.r p6)))⟩, ⟨(some p14), (some (p12, false)), (.e (.mv (.r p1)))⟩, ⟨(some p15), (some (p12, false)), (.e (.lenS (.r p14)))⟩, ⟨(some p16), (some (p12, false)), (.e (.bin .lss (.r p13) (.r p15)))⟩, ⟨(some p17), none, (.e (.pick (.r p12) (.c (.bool true)) (.r p16)))⟩]) (.cond (.r p17) .skip (.exit 0))) (.seq (.block 1 (.seq (.reg [⟨(some p7), none, (.e (.mv (.c (.int .u8 (.ofNat 0)))))⟩]) (.seq (.seq (.reg [⟨(some p20), none, (.e (.mv (.r p6)))⟩, ⟨(some p21), none, (.e (.mv (.r p0)))⟩, ⟨(some p22), none, (.e (.lenS (.r p21)))⟩, ⟨(some p23), none, (.e (.bin .lss (.r p20) (.r p22)))⟩]) (.cond (.r p23) (.reg [⟨(some p24), none, (.e (.mv (.r p7)))⟩, ⟨(some p25), none, (.e (.mv (.r p0)))⟩, ⟨(some p26), none, (.e (.mv (.r p6)))⟩, ⟨(some p27), none, (.e (.ixS (.r p25) (.r p26)))⟩, ⟨(some p28), none, (.e (.bin .xor (.r p24) (.r p27)))⟩, ⟨(some p7), none, (.e (.mv (.r p28)))⟩]) .skip)) C34_4))) C34_3)))
noncomputable def J34_0 (E : Env) (r0 r1 : DV) (h : H) : Ans :=
  L34_2 E r0 r1 FUEL .nils (.int .i64 (.ofNat 0)) h
def C34_0 : DC := (.seq (.reg [⟨(some p4), none, (.e (.mv (.c (.str []))))⟩]) (.seq (.reg [⟨(some p5), none, (.e (.mv (.c .nils)))⟩]) (.seq (.seq (.reg [⟨(some p6), none, (.e (.mv (.c (.int .i64 (.ofNat 0)))))⟩]) (.block 0 C34_2)) C34_1)))
theorem I34_1 (E : Env) : Is E C34_1 (retK3 R34) (fun σ h => J34_1 E (σ p5) h) :=
  fun σ h => by kernel_rfl
noncomputable abbrev K34_6 (E : Env) : KT2 (DV × H) := (thenK3 (fun σ h => J34_1 E (σ p5) h) (retK3 R34))
noncomputable abbrev K34_7 (E : Env) (n2 : Nat) : KT2 (DV × H) := (thenK3 (fun σ h => (L34_2 E (σ p0) (σ p1) n2) (σ p5) (σ p6) h) (blockK3 0 (K34_6 E)))
theorem I34_3 (E : Env) (n2 : Nat) : Is E C34_3 (K34_7 E n2) (fun σ h => J34_3 E (L34_2 E (σ p0) (σ p1) n2) (σ p5) (σ p6) h) :=
  fun σ h => by kernel_rfl
noncomputable abbrev K34_8 (E : Env) (n2 : Nat) : KT2 (DV × H) := (thenK3 (fun σ h => J34_3 E (L34_2 E (σ p0) (σ p1) n2) (σ p5) (σ p6) h) (K34_7 E n2))
theorem I34_5 (E : Env) (n2 : Nat) : Is E C34_5 (blockK3 1 (K34_8 E n2)) (fun σ h => J34_5 E (L34_2 E (σ p0) (σ p1) n2) (σ p5) (σ p6) (σ p7) h) :=
  fun σ h => by kernel_rfl
theorem I34_4 (E : Env) (n2 : Nat) : Is E C34_4 (blockK3 1 (K34_8 E n2)) (fun σ h => J34_4 E (L34_2 E (σ p0) (σ p1) n2) (σ p1) (σ p5) (σ p6) (σ p7) h) :=
  Is.as (Is.seq (I34_5 E n2) (Is.leaf _)) fun σ h => by kernel_rfl
theorem I34_2 (E : Env) : Is E C34_2 (blockK3 0 (K34_6 E)) (fun σ h => L34_2 E (σ p0) (σ p1) FUEL (σ p5) (σ p6) h) :=
  Is.loop (fun n2 σ h => L34_2 E (σ p0) (σ p1) n2 (σ p5) (σ p6) h) (by kernel_rfl) fun n2 => Is.as (Is.seq (Is.seq (I34_3 E n2) (Is.block (Is.seq (Is.seq (I34_4 E n2) (Is.leaf _)) (Is.leaf _)))) (Is.leaf _)) fun σ h => by kernel_rfl
theorem I34_0 (E : Env) : Is E C34_0 (retK3 R34) (fun σ h => J34_0 E (σ p0) (σ p1) h) :=
  Is.as (Is.seq (Is.seq (Is.seq (I34_1 E) (Is.seq (Is.block (I34_2 E)) (Is.leaf _))) (Is.leaf _)) (Is.leaf _)) fun σ h => by kernel_rfl
def D34 : DF := ⟨2, 44, C34_0, R34⟩
noncomputable def S34 (E : Env) : Fun := fun args h => aS args fun r0 args => aS args fun r1 args => a0 args (J34_0 E r0 r1 h)
theorem S34_eq (E : Env) (args : List DV) (h : H) : runFn E D34 args h = S34 E args h :=
  Is.fn2 (d := D34) (I34_0 E) rfl (fun r0 r1 h => J34_0 E r0 r1 h) (fun r0 r1 h => by kernel_rfl) args h
/- hurdle/bytes.Sum -/
def R35 : List RV := [(.r p2)]
noncomputable def J35_3 (E : Env) (r6 : DV) (h : H) : Ans :=
  vK (v_b2s h.get r6) fun x1 =>
  some (x1, h)
def C35_3 : DC := (.seq (.reg [⟨(some p32), none, (.e (.mv (.r p6)))⟩, ⟨(some p33), none, (.e (.b2s (.r p32)))⟩, ⟨(some p2), none, (.e (.mv (.r p33)))⟩]) .ret)
noncomputable def B35_4 (E : Env) (r6 r22 r23 : DV) (i4 : DV → H → Ans) (r24 : DV) (h : H) : Ans :=
  vK (v_lss r24 r23) fun x1 =>
  bK x1
  (vK (v_iaS 1 r22 r24) fun x2 =>
  vK (v_ld h.get x2) fun x3 =>
  wK (callK E 47 [r6, x3] h) fun x4 h5 =>
  vK (v_add r24 (.int .i64 (.ofNat 1))) fun x6 =>
  i4 x6 h5)
  (J35_3 E r6 h)
noncomputable def L35_4 (E : Env) (r6 r22 r23 : DV) (n : Nat) : DV → H → Ans := Nat.rec (motive := fun _ => DV → H → Ans) (fun _ _ => none) (fun _ i => B35_4 E r6 r22 r23 i) n
def C35_4 : DC := (.loop (.seq (.reg [⟨(some p25), none, (.e (.bin .lss (.r p24) (.r p23)))⟩]) (.seq (.cond (.r p25) .skip (.exit 2)) (.seq (.block 3 (.seq (.reg [⟨(some p26), none, (.e (.iaS 1 (.r p22) (.r p24)))⟩, ⟨(some p27), none, (.e (.ld (.r p26)))⟩, ⟨(some p8), none, (.e (.mv (.r p27)))⟩]) (.reg [⟨(some p28), none, (.e (.mv (.r p6)))⟩, ⟨(some p29), none, (.e (.mv (.r p8)))⟩, ⟨(some p30), none, (.c (.f 47 [(.r p28), (.r p29)]))⟩]))) (.reg [⟨(some p31), none, (.e (.bin .add (.r p24) (.c (.int .i64 (.ofNat 1)))))⟩, ⟨(some p24), none, (.e (.mv (.r p31)))⟩])))))
noncomputable def J35_1 (E : Env) (r0 r3 : DV) (h : H) : Ans :=
  n_mks 1 1 (.int .u8 (.ofNat 0)) r3 r3 h fun x1 h2 =>
  vK (v_lenL r0) fun x3 =>
  L35_4 E x1 r0 x3 FUEL (.int .i64 (.ofNat 0)) h2
def C35_1 : DC := (.seq (.reg [⟨(some p20), none, (.e (.mv (.r p3)))⟩, ⟨(some p21), none, (.e (.mks 1 1 (.int .u8 (.ofNat 0)) (.r p20) (.r p20)))⟩, ⟨(some p6), none, (.e (.mv (.r p21)))⟩]) (.seq (.seq (.reg [⟨(some p22), none, (.e (.mv (.r p0)))⟩, ⟨(some p23), none, (.e (.lenL (.r p22)))⟩, ⟨(some p24), none, (.e (.mv (.c (.int .i64 (.ofNat 0)))))⟩]) (.block 2 C35_4)) C35_3))
noncomputable def B35_2 (E : Env) (r0 r9 r10 : DV) (i2 : DV → DV → H → Ans) (r3 r11 : DV) (h : H) : Ans :=
  vK (v_lss r11 r10) fun x1 =>
  bK x1
  (vK (v_iaS 1 r9 r11) fun x2 =>
  vK (v_ld h.get x2) fun x3 =>
  vK (v_lenS x3) fun x4 =>
  vK (v_mx r3 x4) fun x5 =>
  vK (v_add r11 (.int .i64 (.ofNat 1))) fun x6 =>
  i2 x5 x6 h)
  (J35_1 E r0 r3 h)
noncomputable def L35_2 (E : Env) (r0 r9 r10 : DV) (n : Nat) : DV → DV → H → Ans := Nat.rec (motive := fun _ => DV → DV → H → Ans) (fun _ _ _ => none) (fun _ i => B35_2 E r0 r9 r10 i) n
def C35_2 : DC := (.loop (.seq (.reg [⟨(some p12), none, (.e (.bin .lss (.r p11) (.r p10)))⟩]) (.seq (.cond (.r p12) .skip (.exit 0)) (.seq (.block 1 (.seq (.reg [⟨(some p13), none, (.e (.iaS 1 (.r p9) (.r p11)))⟩, ⟨(some p14), none, (.e (.ld (.r p13)))⟩, ⟨(some p5), none, (.e (.mv (.r p14)))⟩]) (.reg [⟨(some p15), none, (.e (.mv (.r p3)))⟩, ⟨(some p16), none, (.e (.mv (.r p5)))⟩, ⟨(some p17), none, (.e (.lenS (.r p16)))⟩, ⟨(some p18), none, (.e (.mx (.r p15) (.r p17)))⟩, ⟨(some p3), none, (.e (.mv (.r p18)))⟩]))) (.reg [⟨(some p19), none, (.e (.bin .add (.r p11) (.c (.int .i64 (.ofNat 1)))))⟩, ⟨(some p11), none, (.e (.mv (.r p19)))⟩])))))
noncomputable def J35_0 (E : Env) (r0 : DV) (h : H) : Ans :=
  vK (v_lenL r0) fun x1 =>
  L35_2 E r0 r0 x1 FUEL (.int .i64 (.ofNat 0)) (.int .i64 (.ofNat 0)) h
def C35_0 : DC := (.seq (.reg [⟨(some p2), none, (.e (.mv (.c (.str []))))⟩]) (.seq (.reg [⟨(some p3), none, (.e (.mv (.c (.int .i64 (.ofNat 0)))))⟩]) (.seq (.seq (.reg [⟨(some p9), none, (.e (.mv (.r p0)))⟩, ⟨(some p10), none, (.e (.lenL (.r p9)))⟩, ⟨(some p11), none, (.e (.mv (.c (.int .i64 (.ofNat 0)))))⟩]) (.block 0 C35_2)) C35_1)))
theorem I35_3 (E : Env) : Is E C35_3 (retK3 R35) (fun σ h => J35_3 E (σ p6) h) :=
  fun σ h => by kernel_rfl
noncomputable abbrev K35_5 (E : Env) : KT2 (DV × H) := (thenK3 (fun σ h => J35_3 E (σ p6) h) (retK3 R35))
theorem I35_4 (E : Env) : Is E C35_4 (blockK3 2 (K35_5 E)) (fun σ h => L35_4 E (σ p6) (σ p22) (σ p23) FUEL (σ p24) h) :=
  Is.loop (fun n4 σ h => L35_4 E (σ p6) (σ p22) (σ p23) n4 (σ p24) h) (by kernel_rfl) fun n4 => Is.as (Is.leaf _) fun σ h => by kernel_rfl
theorem I35_1 (E : Env) : Is E C35_1 (retK3 R35) (fun σ h => J35_1 E (σ p0) (σ p3) h) :=
  Is.as (Is.seq (Is.seq (I35_3 E) (Is.seq (Is.block (I35_4 E)) (Is.leaf _))) (Is.leaf _)) fun σ h => by kernel_rfl
noncomputable abbrev K35_6 (E : Env) : KT2 (DV × H) := (thenK3 (fun σ h => J35_1 E (σ p0) (σ p3) h) (retK3 R35))
theorem I35_2 (E : Env) : Is E C35_2 (blockK3 0 (K35_6 E)) (fun σ h => L35_2 E (σ p0) (σ p9) (σ p10) FUEL (σ p3) (σ p11) h) :=
  Is.loop (fun n2 σ h => L35_2 E (σ p0) (σ p9) (σ p10) n2 (σ p3) (σ p11) h) (by kernel_rfl) fun n2 => Is.as (Is.leaf _) fun σ h => by kernel_rfl
theorem I35_0 (E : Env) : Is E C35_0 (retK3 R35) (fun σ h => J35_0 E (σ p0) h) :=
  Is.as (Is.seq (Is.seq (Is.seq (I35_1 E) (Is.seq (Is.block (I35_2 E)) (Is.leaf _))) (Is.leaf _)) (Is.leaf _)) fun σ h => by kernel_rfl
def D35 : DF := ⟨1, 34, C35_0, R35⟩
noncomputable def S35 (E : Env) : Fun := fun args h => aS args fun r0 args => a0 args (J35_0 E r0 h)
theorem S35_eq (E : Env) (args : List DV) (h : H) : runFn E D35 args h = S35 E args h :=
  Is.fn1 (d := D35) (I35_0 E) rfl (fun r0 h => J35_0 E r0 h) (fun r0 h => by kernel_rfl) args h
/- hurdle/hurdleref01.Sum -/
def R36 : List RV := [(.r p2)]
noncomputable def J36_1 (E : Env) (r3 : DV) (h : H) : Ans :=
  some (r3, h)
def C36_1 : DC := (.seq (.reg [⟨(some p17), none, (.e (.mv (.r p3)))⟩, ⟨(some p2), none, (.e (.mv (.r p17)))⟩]) .ret)
noncomputable def B36_2 (E : Env) (r0 : DV) (i2 : DV → DV → H → Ans) (r3 r4 : DV) (h : H) : Ans :=
  vK (v_lenL r0) fun x1 =>
  vK (v_lss r4 x1) fun x2 =>
  bK x2
  (vK (v_iaS 1 r0 r4) fun x3 =>
  vK (v_ld h.get x3) fun x4 =>
  wK (callK E 34 [r3, x4] h) fun x5 h6 =>
  vK (v_add r4 (.int .i64 (.ofNat 1))) fun x7 =>
  i2 x5 x7 h6)
  (J36_1 E r3 h)
noncomputable def L36_2 (E : Env) (r0 : DV) (n : Nat) : DV → DV → H → Ans := Nat.rec (motive := fun _ => DV → DV → H → Ans) (fun _ _ _ => none) (fun _ i => B36_2 E r0 i) n
def C36_2 : DC := (.loop (.seq (.seq (.reg [⟨(some p5), none, (.e (.mv (.r p4)))⟩, ⟨(some p6), none, (.e (.mv (.r p0)))⟩, ⟨(some p7), none, (.e (.lenL (.r p6)))⟩, ⟨(some p8), none, (.e (.bin .lss (.r p5) (.r p7)))⟩]) (.cond (.r p8) .skip (.exit 0))) (.seq (.block 1 (.reg [⟨(some p11), none, (.e (.mv (.r p3)))⟩, ⟨(some p12), none, (.e (.mv (.r p0)))⟩, ⟨(some p13), none, (.e (.mv (.r p4)))⟩, ⟨(some p14), none, (.e (.iaS 1 (.r p12) (.r p13)))⟩, ⟨(some p15), none, (.e (.ld (.r p14)))⟩, ⟨(some p16), none, (.c (.f 34 [(.r p11), (.r p15)]))⟩, ⟨(some p3), none, (.e (.mv (.r p16)))⟩])) (.reg [⟨(some p9), none, (.e (.mv (.r p4)))⟩, ⟨(some p10), none, (.e (.bin .add (.r p9) (.c (.int .i64 (.ofNat 1)))))⟩, ⟨(some p4), none, (.e (.mv (.r p10)))⟩]))))
noncomputable def J36_0 (E : Env) (r0 : DV) (h : H) : Ans :=
  L36_2 E r0 FUEL (.str []) (.int .i64 (.ofNat 0)) h
def C36_0 : DC := (.seq (.reg [⟨(some p2), none, (.e (.mv (.c (.str []))))⟩]) (.seq (.reg [⟨(some p3), none, (.e (.mv (.c (.str []))))⟩]) (.seq (.seq (.reg [⟨(some p4), none, (.e (.mv (.c (.int .i64 (.ofNat 0)))))⟩]) (.block 0 C36_2)) C36_1)))
theorem I36_1 (E : Env) : Is E C36_1 (retK3 R36) (fun σ h => J36_1 E (σ p3) h) :=
  fun σ h => by kernel_rfl
noncomputable abbrev K36_3 (E : Env) : KT2 (DV × H) := (thenK3 (fun σ h => J36_1 E (σ p3) h) (retK3 R36))
theorem I36_2 (E : Env) : Is E C36_2 (blockK3 0 (K36_3 E)) (fun σ h => L36_2 E (σ p0) FUEL (σ p3) (σ p4) h) :=
  Is.loop (fun n2 σ h => L36_2 E (σ p0) n2 (σ p3) (σ p4) h) (by kernel_rfl) fun n2 => Is.as (Is.leaf _) fun σ h => by kernel_rfl
theorem I36_0 (E : Env) : Is E C36_0 (retK3 R36) (fun σ h => J36_0 E (σ p0) h) :=
  Is.as (Is.seq (Is.seq (Is.seq (I36_1 E) (Is.seq (Is.block (I36_2 E)) (Is.leaf _))) (Is.leaf _)) (Is.leaf _)) fun σ h => by kernel_rfl
def D36 : DF := ⟨1, 18, C36_0, R36⟩
noncomputable def S36 (E : Env) : Fun := fun args h => aS args fun r0 args => a0 args (J36_0 E r0 h)
theorem S36_eq (E : Env) (args : List DV) (h : H) : runFn E D36 args h = S36 E args h :=
  Is.fn1 (d := D36) (I36_0 E) rfl (fun r0 h => J36_0 E r0 h) (fun r0 h => by kernel_rfl) args h
/- hurdle/bytes.Same -/
def R37 : List RV := [(.r p4)]
noncomputable def J37_1 (E : Env) (r5 : DV) (h : H) : Ans :=
  some (r5, h)
def C37_1 : DC := (.seq (.reg [⟨(some p25), none, (.e (.mv (.r p5)))⟩, ⟨(some p4), none, (.e (.mv (.r p25)))⟩]) .ret)
noncomputable def B37_2 (E : Env) (r0 r1 r5 r12 : DV) (i2 : DV → H → Ans) (r13 : DV) (h : H) : Ans :=
  vK (v_lss r13 r12) fun x1 =>
  bK x1
  (vK (v_ixS r0 r13) fun x2 =>
  vK (v_ixS r1 r13) fun x3 =>
  vK (v_neq x2 x3) fun x4 =>
  bK x4
  (some (r13, h))
  (vK (v_add r13 (.int .i64 (.ofNat 1))) fun x5 =>
  i2 x5 h))
  (J37_1 E r5 h)
noncomputable def L37_2 (E : Env) (r0 r1 r5 r12 : DV) (n : Nat) : DV → H → Ans := Nat.rec (motive := fun _ => DV → H → Ans) (fun _ _ => none) (fun _ i => B37_2 E r0 r1 r5 r12 i) n
def C37_2 : DC := (.loop (.seq (.reg [⟨(some p14), none, (.e (.bin .lss (.r p13) (.r p12)))⟩]) (.seq (.cond (.r p14) .skip (.exit 0)) (.seq (.block 1 (.seq (.reg [⟨(some p15), none, (.e (.mv (.r p13)))⟩, ⟨(some p6), none, (.e (.mv (.r p15)))⟩]) (.seq (.drg [⟨0, ⟨(some p16), none, (.e (.mv (.r p0)))⟩, [], false⟩, ⟨1, ⟨(some p17), none, (.e (.mv (.r p6)))⟩, [], false⟩, ⟨2, ⟨(some p18), none, (.e (.ixS (.r p16) (.r p17)))⟩, [], false⟩, ⟨3, ⟨(some p19), none, (.e (.mv (.r p1)))⟩, [], false⟩, ⟨4, ⟨(some p20), none, (.e (.mv (.r p6)))⟩, [], false⟩, ⟨5, ⟨(some p21), none, (.e (.ixS (.r p19) (.r p20)))⟩, [], false⟩, ⟨6, ⟨(some p22), none, (.e (.bin .neq (.r p18) (.r p21)))⟩, [], false⟩]) (.cond (.r p22) (.seq (.reg [⟨(some p23), none, (.e (.mv (.r p6)))⟩, ⟨(some p4), none, (.e (.mv (.r p23)))⟩]) .ret) .skip)))) (.reg [⟨(some p24), none, (.e (.bin .add (.r p13) (.c (.int .i64 (.ofNat 1)))))⟩, ⟨(some p13), none, (.e (.mv (.r p24)))⟩])))))
noncomputable def J37_0 (E : Env) (r0 r1 : DV) (h : H) : Ans :=
  vK (v_lenS r0) fun x1 =>
  vK (v_lenS r1) fun x2 =>
  vK (v_mn x1 x2) fun x3 =>
  L37_2 E r0 r1 x3 x3 FUEL (.int .i64 (.ofNat 0)) h
def C37_0 : DC := (.seq (.reg [⟨(some p4), none, (.e (.mv (.c (.int .i64 (.ofNat 0)))))⟩]) (.seq (.reg [⟨(some p7), none, (.e (.mv (.r p0)))⟩, ⟨(some p8), none, (.e (.lenS (.r p7)))⟩, ⟨(some p9), none, (.e (.mv (.r p1)))⟩, ⟨(some p10), none, (.e (.lenS (.r p9)))⟩, ⟨(some p11), none, (.e (.mn (.r p8) (.r p10)))⟩, ⟨(some p5), none, (.e (.mv (.r p11)))⟩]) (.seq (.seq (.reg [⟨(some p12), none, (.e (.mv (.r p5)))⟩, ⟨(some p13), none, (.e (.mv (.c (.int .i64 (.ofNat 0)))))⟩]) (.block 0 C37_2)) C37_1)))
theorem I37_1 (E : Env) : Is E C37_1 (retK3 R37) (fun σ h => J37_1 E (σ p5) h) :=
  fun σ h => by kernel_rfl
noncomputable abbrev K37_3 (E : Env) : KT2 (DV × H) := (thenK3 (fun σ h => J37_1 E (σ p5) h) (retK3 R37))
theorem I37_2 (E : Env) : Is E C37_2 (blockK3 0 (K37_3 E)) (fun σ h => L37_2 E (σ p0) (σ p1) (σ p5) (σ p12) FUEL (σ p13) h) :=
  Is.loop (fun n2 σ h => L37_2 E (σ p0) (σ p1) (σ p5) (σ p12) n2 (σ p13) h) (by kernel_rfl) fun n2 => Is.as (Is.leaf _) fun σ h => by kernel_rfl
theorem I37_0 (E : Env) : Is E C37_0 (retK3 R37) (fun σ h => J37_0 E (σ p0) (σ p1) h) :=
  Is.as (Is.seq (Is.seq (Is.seq (I37_1 E) (Is.seq (Is.block (I37_2 E)) (Is.leaf _))) (Is.leaf _)) (Is.leaf _)) fun σ h => by kernel_rfl
def D37 : DF := ⟨2, 26, C37_0, R37⟩
noncomputable def S37 (E : Env) : Fun := fun args h => aS args fun r0 args => aS args fun r1 args => a0 args (J37_0 E r0 r1 h)
theorem S37_eq (E : Env) (args : List DV) (h : H) : runFn E D37 args h = S37 E args h :=
  Is.fn2 (d := D37) (I37_0 E) rfl (fun r0 r1 h => J37_0 E r0 r1 h) (fun r0 r1 h => by kernel_rfl) args h
/- hurdle/hurdleref01.Same -/
def R38 : List RV := [(.r p4)]
noncomputable def J38_1 (E : Env) (r5 : DV) (h : H) : Ans :=
  some (r5, h)
def C38_1 : DC := (.seq (.reg [⟨(some p27), none, (.e (.mv (.r p5)))⟩, ⟨(some p4), none, (.e (.mv (.r p27)))⟩]) .ret)
noncomputable def B38_2 (E : Env) (r0 r1 : DV) (i2 : DV → H → Ans) (r5 : DV) (h : H) : Ans :=
  vK (v_lenS r0) fun x1 =>
  vK (v_lss r5 x1) fun x2 =>
  gdK x2 true (fun kk => kk r5 h) h fun x3 h4 =>
  gdK x2 true (fun kk => kk r1 h4) h4 fun x5 h6 =>
  gdK x2 true (fun kk => vK (v_lenS x5) fun v => kk v h6) h6 fun x7 h8 =>
  gdK x2 true (fun kk => vK (v_lss x3 x7) fun v => kk v h8) h8 fun x9 h10 =>
  vK (v_pick x2 x9 (.bool false)) fun x11 =>
  gdK x11 true (fun kk => kk r0 h10) h10 fun x12 h13 =>
  gdK x11 true (fun kk => kk r5 h13) h13 fun x14 h15 =>
  gdK x11 true (fun kk => vK (v_ixS x12 x14) fun v => kk v h15) h15 fun x16 h17 =>
  gdK x11 true (fun kk => kk r1 h17) h17 fun x18 h19 =>
  gdK x11 true (fun kk => kk r5 h19) h19 fun x20 h21 =>
  gdK x11 true (fun kk => vK (v_ixS x18 x20) fun v => kk v h21) h21 fun x22 h23 =>
  gdK x11 true (fun kk => vK (v_eql x16 x22) fun v => kk v h23) h23 fun x24 h25 =>
  vK (v_pick x11 x24 (.bool false)) fun x26 =>
  bK x26
  (vK (v_add r5 (.int .i64 (.ofNat 1))) fun x27 =>
  i2 x27 h25)
  (J38_1 E r5 h25)
noncomputable def L38_2 (E : Env) (r0 r1 : DV) (n : Nat) : DV → H → Ans := Nat.rec (motive := fun _ => DV → H → Ans) (fun _ _ => none) (fun _ i => B38_2 E r0 r1 i) n
def C38_2 : DC := (.loop (.seq (.seq (.drg [⟨0, ⟨(some p6), none, (.e (.mv (.r p5)))⟩, [], false⟩, ⟨1, ⟨(some p7), none, (.e (.mv (.r p0)))⟩, [], false⟩, ⟨2, ⟨(some p8), none, (.e (.lenS (.r p7)))⟩, [], false⟩, ⟨3, ⟨(some p9), none, (.e (.bin .lss (.r p6) (.r p8)))⟩, [], false⟩, ⟨4, ⟨(some p10), none, (.e (.mv (.r p9)))⟩, [], false⟩, ⟨5, ⟨(some p11), (some (p10, true)), (.e (.mv (.r p5)))⟩, [], false⟩, ⟨6, ⟨(some p12), (some (p10, true)), (.e (.mv (.r p1)))⟩, [], false⟩, ⟨7, ⟨(some p13), (some (p10, true)), (.e (.lenS (.r p12)))⟩, [], false⟩, ⟨8, ⟨(some p14), (some (p10, true)), (.e (.bin .lss (.r p11) (.r p13)))⟩, [], false⟩, ⟨9, ⟨(some p15), none, (.e (.pick (.r p10) (.r p14) (.c (.bool false))))⟩, [], false⟩, ⟨10, ⟨(some p16), none, (.e (.mv (.r p15)))⟩, [], false⟩, ⟨11, ⟨(some p17), (some (p16, true)), (.e (.mv (.r p0)))⟩, [], false⟩, ⟨12, ⟨(some p18), (some (p16, true)), (.e (.mv (.r p5)))⟩, [], false⟩, ⟨13, ⟨(some p19), (some (p16, true)), (.e (.ixS (.r p17) (.r p18)))⟩, [], false⟩, ⟨14, ⟨(some p20), (some (p16, true)), (.e (.mv (.r p1)))⟩, [], false⟩, ⟨15, ⟨(some p21), (some (p16, true)), (.e (.mv (.r p5)))⟩, [], false⟩, ⟨16, ⟨(some p22), (some (p16, true)), (.e (.ixS (.r p20) (.r p21)))⟩, [], false⟩, ⟨17, ⟨(some p23), (some (p16, true)), (.e (.bin .eql (.r p19) (.r p22)))⟩, [], false⟩, ⟨18, ⟨(some p24), none, (.e (.pick (.r p16) (.r p23) (.c (.bool false))))⟩, [], false⟩]) (.cond (.r p24) .skip (.exit 0))) (.block 1 (.reg [⟨(some p25), none, (.e (.mv (.r p5)))⟩, ⟨(some p26), none, (.e (.bin .add (.r p25) (.c (.int .i64 (.ofNat 1)))))⟩, ⟨(some p5), none, (.e (.mv (.r p26)))⟩]))))
noncomputable def J38_0 (E : Env) (r0 r1 : DV) (h : H) : Ans :=
  L38_2 E r0 r1 FUEL (.int .i64 (.ofNat 0)) h
def C38_0 : DC := (.seq (.reg [⟨(some p4), none, (.e (.mv (.c (.int .i64 (.ofNat 0)))))⟩]) (.seq (.reg [⟨(some p5), none, (.e (.mv (.c (.int .i64 (.ofNat 0)))))⟩]) (.seq (.block 0 C38_2) C38_1)))
theorem I38_1 (E : Env) : Is E C38_1 (retK3 R38) (fun σ h => J38_1 E (σ p5) h) :=
  fun σ h => by kernel_rfl
noncomputable abbrev K38_3 (E : Env) : KT2 (DV × H) := (thenK3 (fun σ h => J38_1 E (σ p5) h) (retK3 R38))
theorem I38_2 (E : Env) : Is E C38_2 (blockK3 0 (K38_3 E)) (fun σ h => L38_2 E (σ p0) (σ p1) FUEL (σ p5) h) :=
  Is.loop (fun n2 σ h => L38_2 E (σ p0) (σ p1) n2 (σ p5) h) (by kernel_rfl) fun n2 => Is.as (Is.leaf _) fun σ h => by kernel_rfl
theorem I38_0 (E : Env) : Is E C38_0 (retK3 R38) (fun σ h => J38_0 E (σ p0) (σ p1) h) :=
  Is.as (Is.seq (Is.seq (Is.seq (I38_1 E) (Is.block (I38_2 E))) (Is.leaf _)) (Is.leaf _)) fun σ h => by kernel_rfl
def D38 : DF := ⟨2, 28, C38_0, R38⟩
noncomputable def S38 (E : Env) : Fun := fun args h => aS args fun r0 args => aS args fun r1 args => a0 args (J38_0 E r0 r1 h)
theorem S38_eq (E : Env) (args : List DV) (h : H) : runFn E D38 args h = S38 E args h :=
  Is.fn2 (d := D38) (I38_0 E) rfl (fun r0 r1 h => J38_0 E r0 r1 h) (fun r0 r1 h => by kernel_rfl) args h
/- hurdle/hurdleref01.Zero -/
def R39 : List RV := [(.r p2)]
noncomputable def J39_1 (E : Env) (h : H) : Ans :=
  some ((.bool true), h)
def C39_1 : DC := (.seq (.reg [⟨(some p2), none, (.e (.mv (.c (.bool true))))⟩]) .ret)
noncomputable def B39_2 (E : Env) (r0 : DV) (i2 : DV → H → Ans) (r3 : DV) (h : H) : Ans :=
  vK (v_lenS r0) fun x1 =>
  vK (v_lss r3 x1) fun x2 =>
  bK x2
  (vK (v_ixS r0 r3) fun x3 =>
  vK (v_neq x3 (.int .u8 (.ofNat 0))) fun x4 =>
  bK x4
  (some ((.bool false), h))
  (vK (v_add r3 (.int .i64 (.ofNat 1))) fun x5 =>
  i2 x5 h))
  (J39_1 E h)
noncomputable def L39_2 (E : Env) (r0 : DV) (n : Nat) : DV → H → Ans := Nat.rec (motive := fun _ => DV → H → Ans) (fun _ _ => none) (fun _ i => B39_2 E r0 i) n
def C39_2 : DC := (.loop (.seq (.seq (.reg [⟨(some p4), none, (.e (.mv (.r p3)))⟩, ⟨(some p5), none, (.e (.mv (.r p0)))⟩, ⟨(some p6), none, (.e (.lenS (.r p5)))⟩, ⟨(some p7), none, (.e (.bin .lss (.r p4) (.r p6)))⟩]) (.cond (.r p7) .skip (.exit 0))) (.seq (.block 1 (.seq (.reg [⟨(some p10), none, (.e (.mv (.r p0)))⟩, ⟨(some p11), none, (.e (.mv (.r p3)))⟩, ⟨(some p12), none, (.e (.ixS (.r p10) (.r p11)))⟩, ⟨(some p13), none, (.e (.bin .neq (.r p12) (.c (.int .u8 (.ofNat 0)))))⟩]) (.cond (.r p13) (.seq (.reg [⟨(some p2), none, (.e (.mv (.c (.bool false))))⟩]) .ret) .skip))) (.reg [⟨(some p8), none, (.e (.mv (.r p3)))⟩, ⟨(some p9), none, (.e (.bin .add (.r p8) (.c (.int .i64 (.ofNat 1)))))⟩, ⟨(some p3), none, (.e (.mv (.r p9)))⟩]))))
noncomputable def J39_0 (E : Env) (r0 : DV) (h : H) : Ans :=
  L39_2 E r0 FUEL (.int .i64 (.ofNat 0)) h
def C39_0 : DC := (.seq (.reg [⟨(some p2), none, (.e (.mv (.c (.bool false))))⟩]) (.seq (.seq (.reg [⟨(some p3), none, (.e (.mv (.c (.int .i64 (.ofNat 0)))))⟩]) (.block 0 C39_2)) C39_1))
theorem I39_1 (E : Env) : Is E C39_1 (retK3 R39) (fun σ h => J39_1 E h) :=
  fun σ h => by kernel_rfl
noncomputable abbrev K39_3 (E : Env) : KT2 (DV × H) := (blockK3 0 (thenK3 (fun σ h => J39_1 E h) (retK3 R39)))
theorem I39_2 (E : Env) : Is E C39_2 (K39_3 E) (fun σ h => L39_2 E (σ p0) FUEL (σ p3) h) :=
  Is.loop (fun n2 σ h => L39_2 E (σ p0) n2 (σ p3) h) (by kernel_rfl) fun n2 => Is.as (Is.leaf _) fun σ h => by kernel_rfl
theorem I39_0 (E : Env) : Is E C39_0 (retK3 R39) (fun σ h => J39_0 E (σ p0) h) :=
  Is.as (Is.seq (Is.seq (I39_1 E) (Is.seq (Is.block (I39_2 E)) (Is.leaf _))) (Is.leaf _)) fun σ h => by kernel_rfl
def D39 : DF := ⟨1, 14, C39_0, R39⟩
noncomputable def S39 (E : Env) : Fun := fun args h => aS args fun r0 args => a0 args (J39_0 E r0 h)
theorem S39_eq (E : Env) (args : List DV) (h : H) : runFn E D39 args h = S39 E args h :=
  Is.fn1 (d := D39) (I39_0 E) rfl (fun r0 h => J39_0 E r0 h) (fun r0 h => by kernel_rfl) args h
/- hurdle/bytes.zeros -/
def R45 : List RV := [(.r p2)]
noncomputable def J45_0 (E : Env) (r0 : DV) (h : H) : Ans :=
  wK (callK E 54 [(.str [0]), r0] h) fun x1 h2 =>
  some (x1, h2)
def C45_0 : DC := (.seq (.reg [⟨(some p2), none, (.e (.mv (.c (.str []))))⟩]) (.seq (.reg [⟨(some p3), none, (.e (.mv (.r p0)))⟩, ⟨(some p4), none, (.c (.f 54 [(.c (.str [0])), (.r p3)]))⟩, ⟨(some p2), none, (.e (.mv (.r p4)))⟩]) .ret))
theorem I45_0 (E : Env) : Is E C45_0 (retK3 R45) (fun σ h => J45_0 E (σ p0) h) :=
  fun σ h => by kernel_rfl
def D45 : DF := ⟨1, 5, C45_0, R45⟩
noncomputable def S45 (E : Env) : Fun := fun args h => aS args fun r0 args => a0 args (J45_0 E r0 h)
theorem S45_eq (E : Env) (args : List DV) (h : H) : runFn E D45 args h = S45 E args h :=
  Is.fn1 (d := D45) (I45_0 E) rfl (fun r0 h => J45_0 E r0 h) (fun r0 h => by kernel_rfl) args h
/- hurdle/hurdleref01.Zeros -/
def R46 : List RV := [(.r p2)]
noncomputable def J46_0 (E : Env) (r0 : DV) (h : H) : Ans :=
  n_mks 1 1 (.int .u8 (.ofNat 0)) r0 r0 h fun x1 h2 =>
  vK (v_b2s h2.get x1) fun x3 =>
  some (x3, h2)
def C46_0 : DC := (.seq (.reg [⟨(some p2), none, (.e (.mv (.c (.str []))))⟩]) (.seq (.reg [⟨(some p3), none, (.e (.mv (.r p0)))⟩, ⟨(some p4), none, (.e (.mks 1 1 (.int .u8 (.ofNat 0)) (.r p3) (.r p3)))⟩, ⟨(some p5), none, (.e (.b2s (.r p4)))⟩, ⟨(some p2), none, (.e (.mv (.r p5)))⟩]) .ret))
theorem I46_0 (E : Env) : Is E C46_0 (retK3 R46) (fun σ h => J46_0 E (σ p0) h) :=
  fun σ h => by kernel_rfl
def D46 : DF := ⟨1, 6, C46_0, R46⟩
noncomputable def S46 (E : Env) : Fun := fun args h => aS args fun r0 args => a0 args (J46_0 E r0 h)
theorem S46_eq (E : Env) (args : List DV) (h : H) : runFn E D46 args h = S46 E args h :=
  Is.fn1 (d := D46) (I46_0 E) rfl (fun r0 h => J46_0 E r0 h) (fun r0 h => by kernel_rfl) args h
/- hurdle/bytes.into -/
def R47 : List RV := []
noncomputable def B47_1 (E : Env) (r0 r1 r6 : DV) (i1 : DV → H → Ans) (r7 : DV) (h : H) : Ans :=
  vK (v_lss r7 r6) fun x1 =>
  bK x1
  (vK (v_iaS 1 r0 r7) fun x2 =>
  vK (v_ld h.get x2) fun x3 =>
  vK (v_ixS r1 r7) fun x4 =>
  vK (v_xor x3 x4) fun x5 =>
  vK (v_iaS 1 r0 r7) fun x6 =>
  wK (dStF 1 x6 x5 h) fun x7 h8 =>
  vK (v_add r7 (.int .i64 (.ofNat 1))) fun x9 =>
  i1 x9 h8)
  (some ((.tup []), h))
noncomputable def L47_1 (E : Env) (r0 r1 r6 : DV) (n : Nat) : DV → H → Ans := Nat.rec (motive := fun _ => DV → H → Ans) (fun _ _ => none) (fun _ i => B47_1 E r0 r1 r6 i) n
def C47_1 : DC := (.loop (.seq (.reg [⟨(some p8), none, (.e (.bin .lss (.r p7) (.r p6)))⟩]) (.seq (.cond (.r p8) .skip (.exit 0)) (.seq (.block 1 (.seq (.reg [⟨(some p9), none, (.e (.mv (.r p7)))⟩, ⟨(some p4), none, (.e (.mv (.r p9)))⟩]) (.drg [⟨0, ⟨(some p10), none, (.e (.mv (.r p0)))⟩, [], false⟩, ⟨1, ⟨(some p11), none, (.e (.mv (.r p4)))⟩, [], false⟩, ⟨2, ⟨(some p12), none, (.e (.iaS 1 (.r p10) (.r p11)))⟩, [], false⟩, ⟨3, ⟨(some p13), none, (.e (.ld (.r p12)))⟩, [], false⟩, ⟨4, ⟨(some p14), none, (.e (.mv (.r p1)))⟩, [], false⟩, ⟨5, ⟨(some p15), none, (.e (.mv (.r p4)))⟩, [], false⟩, ⟨6, ⟨(some p16), none, (.e (.ixS (.r p14) (.r p15)))⟩, [], false⟩, ⟨7, ⟨(some p17), none, (.e (.bin .xor (.r p13) (.r p16)))⟩, [], false⟩, ⟨8, ⟨(some p18), none, (.e (.iaS 1 (.r p10) (.r p11)))⟩, [], false⟩, ⟨9, ⟨none, none, (.w (.st 1 (.r p18) (.r p17)))⟩, [], false⟩]))) (.reg [⟨(some p19), none, (.e (.bin .add (.r p7) (.c (.int .i64 (.ofNat 1)))))⟩, ⟨(some p7), none, (.e (.mv (.r p19)))⟩])))))
noncomputable def J47_0 (E : Env) (r0 r1 : DV) (h : H) : Ans :=
  vK (v_lenS r1) fun x1 =>
  L47_1 E r0 r1 x1 FUEL (.int .i64 (.ofNat 0)) h
def C47_0 : DC := (.seq (.reg [⟨(some p5), none, (.e (.mv (.r p1)))⟩, ⟨(some p6), none, (.e (.lenS (.r p5)))⟩, ⟨(some p7), none, (.e (.mv (.c (.int .i64 (.ofNat 0)))))⟩]) (.block 0 C47_1))
theorem I47_1 (E : Env) : Is E C47_1 (blockK3 0 (retK3 R47)) (fun σ h => L47_1 E (σ p0) (σ p1) (σ p6) FUEL (σ p7) h) :=
  Is.loop (fun n1 σ h => L47_1 E (σ p0) (σ p1) (σ p6) n1 (σ p7) h) (by kernel_rfl) fun n1 => Is.as (Is.leaf _) fun σ h => by kernel_rfl
theorem I47_0 (E : Env) : Is E C47_0 (retK3 R47) (fun σ h => J47_0 E (σ p0) (σ p1) h) :=
  Is.as (Is.seq (Is.block (I47_1 E)) (Is.leaf _)) fun σ h => by kernel_rfl
def D47 : DF := ⟨2, 20, C47_0, R47⟩
noncomputable def S47 (E : Env) : Fun := fun args h => aS args fun r0 args => aS args fun r1 args => a0 args (J47_0 E r0 r1 h)
theorem S47_eq (E : Env) (args : List DV) (h : H) : runFn E D47 args h = S47 E args h :=
  Is.fn2 (d := D47) (I47_0 E) rfl (fun r0 r1 h => J47_0 E r0 r1 h) (fun r0 r1 h => by kernel_rfl) args h
/- strings.Trim -/
def R48 : List RV := [(.r p4)]
noncomputable def J48_0 (E : Env) (r0 r1 : DV) (h : H) : Ans :=
  vK (v_eql r0 (.str [])) fun x1 =>
  gdK x1 false (fun kk => kk r1 h) h fun x2 h3 =>
  gdK x1 false (fun kk => vK (v_eql x2 (.str [])) fun v => kk v h3) h3 fun x4 h5 =>
  vK (v_pick x1 (.bool true) x4) fun x6 =>
  bK x6
  (some (r0, h5))
  (vK (v_lenS r1) fun x7 =>
  vK (v_eql x7 (.int .i64 (.ofNat 1))) fun x8 =>
  gdK x8 true (fun kk => kk r1 h5) h5 fun x9 h10 =>
  gdK x8 true (fun kk => vK (v_ixS x9 (.int .i64 (.ofNat 0))) fun v => kk v h10) h10 fun x11 h12 =>
  gdK x8 true (fun kk => vK (v_lss x11 (.int .u8 (.ofNat 128))) fun v => kk v h12) h12 fun x13 h14 =>
  vK (v_pick x8 x13 (.bool false)) fun x15 =>
  bK x15
  (vK (v_ixS r1 (.int .i64 (.ofNat 0))) fun x16 =>
  vK (v_ixS r1 (.int .i64 (.ofNat 0))) fun x17 =>
  wK (callK E 56 [r0, x16] h14) fun x18 h19 =>
  wK (callK E 55 [x18, x17] h19) fun x20 h21 =>
  some (x20, h21))
  (wK (callK E 57 [r1] h14) fun x22 h23 =>
  vK (v_ext 0 x22) fun x24 =>
  vK (v_ext 1 x22) fun x25 =>
  n_alc 256 256 (.full 256 (.bool false)) h23 fun x26 h27 =>
  wK (dStF 256 x26 x24 h27) fun x28 h29 =>
  bK x25
  (wK (callK E 59 [r0, x26] h29) fun x30 h31 =>
  wK (callK E 58 [x30, x26] h31) fun x32 h33 =>
  some (x32, h33))
  (wK (callK E 61 [r0, r1] h29) fun x34 h35 =>
  wK (callK E 60 [x34, r1] h35) fun x36 h37 =>
  some (x36, h37))))
def C48_0 : DC := (.seq (.reg [⟨(some p4), none, (.e (.mv (.c (.str []))))⟩]) (.seq (.seq (.reg [⟨(some p7), none, (.e (.mv (.r p0)))⟩, ⟨(some p8), none, (.e (.bin .eql (.r p7) (.c (.str []))))⟩, ⟨(some p9), none, (.e (.mv (.r p8)))⟩, ⟨(some p10), (some (p9, false)), (.e (.mv (.r p1)))⟩, ⟨(some p11), (some (p9, false)), (.e (.bin .eql (.r p10) (.c (.str []))))⟩, ⟨(some p12), none, (.e (.pick (.r p9) (.c (.bool true)) (.r p11)))⟩]) (.cond (.r p12) (.seq (.reg [⟨(some p13), none, (.e (.mv (.r p0)))⟩, ⟨(some p4), none, (.e (.mv (.r p13)))⟩]) .ret) .skip)) (.seq (.seq (.reg [⟨(some p14), none, (.e (.mv (.r p1)))⟩, ⟨(some p15), none, (.e (.lenS (.r p14)))⟩, ⟨(some p16), none, (.e (.bin .eql (.r p15) (.c (.int .i64 (.ofNat 1)))))⟩, ⟨(some p17), none, (.e (.mv (.r p16)))⟩, ⟨(some p18), (some (p17, true)), (.e (.mv (.r p1)))⟩, ⟨(some p19), (some (p17, true)), (.e (.ixS (.r p18) (.c (.int .i64 (.ofNat 0)))))⟩, ⟨(some p20), (some (p17, true)), (.e (.bin .lss (.r p19) (.c (.int .u8 (.ofNat 128)))))⟩, ⟨(some p21), none, (.e (.pick (.r p17) (.r p20) (.c (.bool false))))⟩]) (.cond (.r p21) (.seq (.drg [⟨0, ⟨(some p22), none, (.e (.mv (.r p0)))⟩, [], false⟩, ⟨1, ⟨(some p23), none, (.e (.mv (.r p1)))⟩, [], false⟩, ⟨2, ⟨(some p24), none, (.e (.ixS (.r p23) (.c (.int .i64 (.ofNat 0)))))⟩, [], false⟩, ⟨4, ⟨(some p26), none, (.e (.mv (.r p1)))⟩, [], false⟩, ⟨5, ⟨(some p27), none, (.e (.ixS (.r p26) (.c (.int .i64 (.ofNat 0)))))⟩, [], false⟩, ⟨3, ⟨(some p25), none, (.c (.f 56 [(.r p22), (.r p24)]))⟩, [], false⟩, ⟨6, ⟨(some p28), none, (.c (.f 55 [(.r p25), (.r p27)]))⟩, [], false⟩, ⟨7, ⟨(some p4), none, (.e (.mv (.r p28)))⟩, [], false⟩]) .ret) .skip)) (.seq (.seq (.reg [⟨(some p30), none, (.e (.mv (.r p1)))⟩, ⟨(some p31), none, (.c (.f 57 [(.r p30)]))⟩, ⟨(some p29), none, (.e (.mv (.r p31)))⟩, ⟨(some p32), none, (.e (.ext 0 (.r p29)))⟩, ⟨(some p33), none, (.e (.ext 1 (.r p29)))⟩, ⟨(some p5), none, (.e (.alc 256 256 (.full 256 (.bool false))))⟩, ⟨none, none, (.w (.st 256 (.r p5) (.r p32)))⟩, ⟨(some p6), none, (.e (.mv (.r p33)))⟩]) (.seq (.reg [⟨(some p34), none, (.e (.mv (.r p6)))⟩]) (.cond (.r p34) (.seq (.reg [⟨(some p35), none, (.e (.mv (.r p0)))⟩, ⟨(some p36), none, (.c (.f 59 [(.r p35), (.r p5)]))⟩, ⟨(some p37), none, (.c (.f 58 [(.r p36), (.r p5)]))⟩, ⟨(some p4), none, (.e (.mv (.r p37)))⟩]) .ret) .skip))) (.seq (.reg [⟨(some p38), none, (.e (.mv (.r p0)))⟩, ⟨(some p39), none, (.e (.mv (.r p1)))⟩, ⟨(some p40), none, (.c (.f 61 [(.r p38), (.r p39)]))⟩, ⟨(some p41), none, (.e (.mv (.r p1)))⟩, ⟨(some p42), none, (.c (.f 60 [(.r p40), (.r p41)]))⟩, ⟨(some p4), none, (.e (.mv (.r p42)))⟩]) .ret)))))
theorem I48_0 (E : Env) : Is E C48_0 (retK3 R48) (fun σ h => J48_0 E (σ p0) (σ p1) h) :=
  fun σ h => by kernel_rfl
def D48 : DF := ⟨2, 43, C48_0, R48⟩
noncomputable def S48 (E : Env) : Fun := fun args h => aS args fun r0 args => aS args fun r1 args => a0 args (J48_0 E r0 r1 h)
theorem S48_eq (E : Env) (args : List DV) (h : H) : runFn E D48 args h = S48 E args h :=
  Is.fn2 (d := D48) (I48_0 E) rfl (fun r0 r1 h => J48_0 E r0 r1 h) (fun r0 r1 h => by kernel_rfl) args h
/- strings.IndexByte -/
def R50 : List RV := [(.r p4)]
noncomputable def J50_0 (E : Env) (r0 r1 : DV) (h : H) : Ans :=
  wK (callK E 65 [r0, r1] h) fun x1 h2 =>
  some (x1, h2)
def C50_0 : DC := (.seq (.reg [⟨(some p4), none, (.e (.mv (.c (.int .i64 (.ofNat 0)))))⟩]) (.seq (.reg [⟨(some p5), none, (.e (.mv (.r p0)))⟩, ⟨(some p6), none, (.e (.mv (.r p1)))⟩, ⟨(some p7), none, (.c (.f 65 [(.r p5), (.r p6)]))⟩, ⟨(some p4), none, (.e (.mv (.r p7)))⟩]) .ret))
theorem I50_0 (E : Env) : Is E C50_0 (retK3 R50) (fun σ h => J50_0 E (σ p0) (σ p1) h) :=
  fun σ h => by kernel_rfl
def D50 : DF := ⟨2, 8, C50_0, R50⟩
noncomputable def S50 (E : Env) : Fun := fun args h => aS args fun r0 args => aS args fun r1 args => a0 args (J50_0 E r0 r1 h)
theorem S50_eq (E : Env) (args : List DV) (h : H) : runFn E D50 args h = S50 E args h :=
  Is.fn2 (d := D50) (I50_0 E) rfl (fun r0 r1 h => J50_0 E r0 r1 h) (fun r0 r1 h => by kernel_rfl) args h
/- strings.trimLeftByte -/
def R55 : List RV := [(.r p4)]
noncomputable def J55_1 (E : Env) (r0 : DV) (h : H) : Ans :=
  some (r0, h)
def C55_1 : DC := (.seq (.reg [⟨(some p16), none, (.e (.mv (.r p0)))⟩, ⟨(some p4), none, (.e (.mv (.r p16)))⟩]) .ret)
noncomputable def B55_2 (E : Env) (r1 : DV) (i2 : DV → H → Ans) (r0 : DV) (h : H) : Ans :=
  vK (v_lenS r0) fun x1 =>
  vK (v_gtr x1 (.int .i64 (.ofNat 0))) fun x2 =>
  gdK x2 true (fun kk => kk r0 h) h fun x3 h4 =>
  gdK x2 true (fun kk => vK (v_ixS x3 (.int .i64 (.ofNat 0))) fun v => kk v h4) h4 fun x5 h6 =>
  gdK x2 true (fun kk => kk r1 h6) h6 fun x7 h8 =>
  gdK x2 true (fun kk => vK (v_eql x5 x7) fun v => kk v h8) h8 fun x9 h10 =>
  vK (v_pick x2 x9 (.bool false)) fun x11 =>
  bK x11
  (vK (v_slS r0 (some (.int .i64 (.ofNat 1))) none) fun x12 =>
  i2 x12 h10)
  (J55_1 E r0 h10)
noncomputable def L55_2 (E : Env) (r1 : DV) (n : Nat) : DV → H → Ans := Nat.rec (motive := fun _ => DV → H → Ans) (fun _ _ => none) (fun _ i => B55_2 E r1 i) n
def C55_2 : DC := (.loop (.seq (.seq (.reg [⟨(some p5), none, (.e (.mv (.r p0)))⟩, ⟨(some p6), none, (.e (.lenS (.r p5)))⟩, ⟨(some p7), none, (.e (.bin .gtr (.r p6) (.c (.int .i64 (.ofNat 0)))))⟩, ⟨(some p8), none, (.e (.mv (.r p7)))⟩, ⟨(some p9), (some (p8, true)), (.e (.mv (.r p0)))⟩, ⟨(some p10), (some (p8, true)), (.e (.ixS (.r p9) (.c (.int .i64 (.ofNat 0)))))⟩, ⟨(some p11), (some (p8, true)), (.e (.mv (.r p1)))⟩, ⟨(some p12), (some (p8, true)), (.e (.bin .eql (.r p10) (.r p11)))⟩, ⟨(some p13), none, (.e (.pick (.r p8) (.r p12) (.c (.bool false))))⟩]) (.cond (.r p13) .skip (.exit 0))) (.block 1 (.reg [⟨(some p14), none, (.e (.mv (.r p0)))⟩, ⟨(some p15), none, (.e (.slS (.r p14) (some (.c (.int .i64 (.ofNat 1)))) none))⟩, ⟨(some p0), none, (.e (.mv (.r p15)))⟩]))))
noncomputable def J55_0 (E : Env) (r0 r1 : DV) (h : H) : Ans :=
  L55_2 E r1 FUEL r0 h
def C55_0 : DC := (.seq (.reg [⟨(some p4), none, (.e (.mv (.c (.str []))))⟩]) (.seq (.block 0 C55_2) C55_1))
theorem I55_1 (E : Env) : Is E C55_1 (retK3 R55) (fun σ h => J55_1 E (σ p0) h) :=
  fun σ h => by kernel_rfl
noncomputable abbrev K55_3 (E : Env) : KT2 (DV × H) := (thenK3 (fun σ h => J55_1 E (σ p0) h) (retK3 R55))
theorem I55_2 (E : Env) : Is E C55_2 (blockK3 0 (K55_3 E)) (fun σ h => L55_2 E (σ p1) FUEL (σ p0) h) :=
  Is.loop (fun n2 σ h => L55_2 E (σ p1) n2 (σ p0) h) (by kernel_rfl) fun n2 => Is.as (Is.leaf _) fun σ h => by kernel_rfl
theorem I55_0 (E : Env) : Is E C55_0 (retK3 R55) (fun σ h => J55_0 E (σ p0) (σ p1) h) :=
  Is.as (Is.seq (Is.seq (I55_1 E) (Is.block (I55_2 E))) (Is.leaf _)) fun σ h => by kernel_rfl
def D55 : DF := ⟨2, 17, C55_0, R55⟩
noncomputable def S55 (E : Env) : Fun := fun args h => aS args fun r0 args => aS args fun r1 args => a0 args (J55_0 E r0 r1 h)
theorem S55_eq (E : Env) (args : List DV) (h : H) : runFn E D55 args h = S55 E args h :=
  Is.fn2 (d := D55) (I55_0 E) rfl (fun r0 r1 h => J55_0 E r0 r1 h) (fun r0 r1 h => by kernel_rfl) args h
/- strings.trimRightByte -/
def R56 : List RV := [(.r p4)]
noncomputable def J56_1 (E : Env) (r0 : DV) (h : H) : Ans :=
  some (r0, h)
def C56_1 : DC := (.seq (.reg [⟨(some p22), none, (.e (.mv (.r p0)))⟩, ⟨(some p4), none, (.e (.mv (.r p22)))⟩]) .ret)
noncomputable def B56_2 (E : Env) (r1 : DV) (i2 : DV → H → Ans) (r0 : DV) (h : H) : Ans :=
  vK (v_lenS r0) fun x1 =>
  vK (v_gtr x1 (.int .i64 (.ofNat 0))) fun x2 =>
  gdK x2 true (fun kk => kk r0 h) h fun x3 h4 =>
  gdK x2 true (fun kk => kk r0 h4) h4 fun x5 h6 =>
  gdK x2 true (fun kk => vK (v_lenS x5) fun v => kk v h6) h6 fun x7 h8 =>
  gdK x2 true (fun kk => vK (v_sub x7 (.int .i64 (.ofNat 1))) fun v => kk v h8) h8 fun x9 h10 =>
  gdK x2 true (fun kk => vK (v_ixS x3 x9) fun v => kk v h10) h10 fun x11 h12 =>
  gdK x2 true (fun kk => kk r1 h12) h12 fun x13 h14 =>
  gdK x2 true (fun kk => vK (v_eql x11 x13) fun v => kk v h14) h14 fun x15 h16 =>
  vK (v_pick x2 x15 (.bool false)) fun x17 =>
  bK x17
  (vK (v_lenS r0) fun x18 =>
  vK (v_sub x18 (.int .i64 (.ofNat 1))) fun x19 =>
  vK (v_slS r0 none (some x19)) fun x20 =>
  i2 x20 h16)
  (J56_1 E r0 h16)
noncomputable def L56_2 (E : Env) (r1 : DV) (n : Nat) : DV → H → Ans := Nat.rec (motive := fun _ => DV → H → Ans) (fun _ _ => none) (fun _ i => B56_2 E r1 i) n
def C56_2 : DC := (.loop (.seq (.seq (.reg [⟨(some p5), none, (.e (.mv (.r p0)))⟩, ⟨(some p6), none, (.e (.lenS (.r p5)))⟩, ⟨(some p7), none, (.e (.bin .gtr (.r p6) (.c (.int .i64 (.ofNat 0)))))⟩, ⟨(some p8), none, (.e (.mv (.r p7)))⟩, ⟨(some p9), (some (p8, true)), (.e (.mv (.r p0)))⟩, ⟨(some p10), (some (p8, true)), (.e (.mv (.r p0)))⟩, ⟨(some p11), (some (p8, true)), (.e (.lenS (.r p10)))⟩, ⟨(some p12), (some (p8, true)), (.e (.bin .sub (.r p11) (.c (.int .i64 (.ofNat 1)))))⟩, ⟨(some p13), (some (p8, true)), (.e (.ixS (.r p9) (.r p12)))⟩, ⟨(some p14), (some (p8, true)), (.e (.mv (.r p1)))⟩, ⟨(some p15), (some (p8, true)), (.e (.bin .eql (.r p13) (.r p14)))⟩, ⟨(some p16), none, (.e (.pick (.r p8) (.r p15) (.c (.bool false))))⟩]) (.cond (.r p16) .skip (.exit 0))) (.block 1 (.reg [⟨(some p17), none, (.e (.mv (.r p0)))⟩, ⟨(some p18), none, (.e (.mv (.r p0)))⟩, ⟨(some p19), none, (.e (.lenS (.r p18)))⟩, ⟨(some p20), none, (.e (.bin .sub (.r p19) (.c (.int .i64 (.ofNat 1)))))⟩, ⟨(some p21), none, (.e (.slS (.r p17) none (some (.r p20))))⟩, ⟨(some p0), none, (.e (.mv (.r p21)))⟩]))))
noncomputable def J56_0 (E : Env) (r0 r1 : DV) (h : H) : Ans :=
  L56_2 E r1 FUEL r0 h
def C56_0 : DC := (.seq (.reg [⟨(some p4), none, (.e (.mv (.c (.str []))))⟩]) (.seq (.block 0 C56_2) C56_1))
theorem I56_1 (E : Env) : Is E C56_1 (retK3 R56) (fun σ h => J56_1 E (σ p0) h) :=
  fun σ h => by kernel_rfl
noncomputable abbrev K56_3 (E : Env) : KT2 (DV × H) := (thenK3 (fun σ h => J56_1 E (σ p0) h) (retK3 R56))
theorem I56_2 (E : Env) : Is E C56_2 (blockK3 0 (K56_3 E)) (fun σ h => L56_2 E (σ p1) FUEL (σ p0) h) :=
  Is.loop (fun n2 σ h => L56_2 E (σ p1) n2 (σ p0) h) (by kernel_rfl) fun n2 => Is.as (Is.leaf _) fun σ h => by kernel_rfl
theorem I56_0 (E : Env) : Is E C56_0 (retK3 R56) (fun σ h => J56_0 E (σ p0) (σ p1) h) :=
  Is.as (Is.seq (Is.seq (I56_1 E) (Is.block (I56_2 E))) (Is.leaf _)) fun σ h => by kernel_rfl
def D56 : DF := ⟨2, 23, C56_0, R56⟩
noncomputable def S56 (E : Env) : Fun := fun args h => aS args fun r0 args => aS args fun r1 args => a0 args (J56_0 E r0 r1 h)
theorem S56_eq (E : Env) (args : List DV) (h : H) : runFn E D56 args h = S56 E args h :=
  Is.fn2 (d := D56) (I56_0 E) rfl (fun r0 r1 h => J56_0 E r0 r1 h) (fun r0 r1 h => by kernel_rfl) args h
/- strings.makeASCIISet -/
def R57 : List RV := [(.cells p2 256), (.r p3)]
noncomputable def J57_1 (E : Env) (r2 : DV) (h : H) : Ans :=
  vK (v_ldN 256 h.get r2) fun x1 =>
  wK (dStF 256 r2 x1 h) fun x2 h3 =>
  vK (v_ldN 256 h3.get r2) fun x4 =>
  some ((.tup [x4, (.bool true)]), h3)
def C57_1 : DC := (.seq (.reg [⟨(some p20), none, (.e (.ldN 256 (.r p2)))⟩, ⟨none, none, (.w (.st 256 (.r p2) (.r p20)))⟩, ⟨(some p3), none, (.e (.mv (.c (.bool true))))⟩]) .ret)
noncomputable def B57_2 (E : Env) (r0 r2 : DV) (i2 : DV → H → Ans) (r4 : DV) (h : H) : Ans :=
  vK (v_lenS r0) fun x1 =>
  vK (v_lss r4 x1) fun x2 =>
  bK x2
  (vK (v_ixS r0 r4) fun x3 =>
  vK (v_geq x3 (.int .u8 (.ofNat 128))) fun x4 =>
  bK x4
  (vK (v_ldN 256 h.get r2) fun x5 =>
  wK (dStF 256 r2 x5 h) fun x6 h7 =>
  vK (v_ldN 256 h7.get r2) fun x8 =>
  some ((.tup [x8, (.bool false)]), h7))
  (vK (v_iaA 256 1 r2 x3) fun x9 =>
  wK (dStF 1 x9 (.bool true) h) fun x10 h11 =>
  vK (v_add r4 (.int .i64 (.ofNat 1))) fun x12 =>
  i2 x12 h11))
  (J57_1 E r2 h)
noncomputable def L57_2 (E : Env) (r0 r2 : DV) (n : Nat) : DV → H → Ans := Nat.rec (motive := fun _ => DV → H → Ans) (fun _ _ => none) (fun _ i => B57_2 E r0 r2 i) n
def C57_2 : DC := (.loop (.seq (.seq (.reg [⟨(some p6), none, (.e (.mv (.r p4)))⟩, ⟨(some p7), none, (.e (.mv (.r p0)))⟩, ⟨(some p8), none, (.e (.lenS (.r p7)))⟩, ⟨(some p9), none, (.e (.bin .lss (.r p6) (.r p8)))⟩]) (.cond (.r p9) .skip (.exit 0))) (.seq (.block 1 (.seq (.reg [⟨(some p12), none, (.e (.mv (.r p0)))⟩, ⟨(some p13), none, (.e (.mv (.r p4)))⟩, ⟨(some p14), none, (.e (.ixS (.r p12) (.r p13)))⟩, ⟨(some p5), none, (.e (.mv (.r p14)))⟩]) (.seq (.seq (.reg [⟨(some p15), none, (.e (.mv (.r p5)))⟩, ⟨(some p16), none, (.e (.bin .geq (.r p15) (.c (.int .u8 (.ofNat 128)))))⟩]) (.cond (.r p16) (.seq (.reg [⟨(some p17), none, (.e (.ldN 256 (.r p2)))⟩, ⟨none, none, (.w (.st 256 (.r p2) (.r p17)))⟩, ⟨(some p3), none, (.e (.mv (.c (.bool false))))⟩]) .ret) .skip)) (.reg [⟨(some p18), none, (.e (.mv (.r p5)))⟩, ⟨(some p19), none, (.e (.iaA 256 1 (.r p2) (.r p18)))⟩, ⟨none, none, (.w (.st 1 (.r p19) (.c (.bool true))))⟩])))) (.reg [⟨(some p10), none, (.e (.mv (.r p4)))⟩, ⟨(some p11), none, (.e (.bin .add (.r p10) (.c (.int .i64 (.ofNat 1)))))⟩, ⟨(some p4), none, (.e (.mv (.r p11)))⟩]))))
noncomputable def J57_0 (E : Env) (r0 : DV) (h : H) : Ans :=
  n_alc 256 256 (.full 256 (.bool false)) h fun x1 h2 =>
  L57_2 E r0 x1 FUEL (.int .i64 (.ofNat 0)) h2
def C57_0 : DC := (.seq (.reg [⟨(some p2), none, (.e (.alc 256 256 (.full 256 (.bool false))))⟩, ⟨(some p3), none, (.e (.mv (.c (.bool false))))⟩]) (.seq (.seq (.reg [⟨(some p4), none, (.e (.mv (.c (.int .i64 (.ofNat 0)))))⟩]) (.block 0 C57_2)) C57_1))
theorem I57_1 (E : Env) : Is E C57_1 (retK3 R57) (fun σ h => J57_1 E (σ p2) h) :=
  fun σ h => by kernel_rfl
noncomputable abbrev K57_3 (E : Env) : KT2 (DV × H) := (thenK3 (fun σ h => J57_1 E (σ p2) h) (retK3 R57))
theorem I57_2 (E : Env) : Is E C57_2 (blockK3 0 (K57_3 E)) (fun σ h => L57_2 E (σ p0) (σ p2) FUEL (σ p4) h) :=
  Is.loop (fun n2 σ h => L57_2 E (σ p0) (σ p2) n2 (σ p4) h) (by kernel_rfl) fun n2 => Is.as (Is.leaf _) fun σ h => by kernel_rfl
theorem I57_0 (E : Env) : Is E C57_0 (retK3 R57) (fun σ h => J57_0 E (σ p0) h) :=
  Is.as (Is.seq (Is.seq (I57_1 E) (Is.seq (Is.block (I57_2 E)) (Is.leaf _))) (Is.leaf _)) fun σ h => by kernel_rfl
def D57 : DF := ⟨1, 21, C57_0, R57⟩
noncomputable def S57 (E : Env) : Fun := fun args h => aS args fun r0 args => a0 args (J57_0 E r0 h)
theorem S57_eq (E : Env) (args : List DV) (h : H) : runFn E D57 args h = S57 E args h :=
  Is.fn1 (d := D57) (I57_0 E) rfl (fun r0 h => J57_0 E r0 h) (fun r0 h => by kernel_rfl) args h
/- strings.trimLeftASCII -/
def R58 : List RV := [(.r p4)]
noncomputable def J58_1 (E : Env) (r0 : DV) (h : H) : Ans :=
  some (r0, h)
def C58_1 : DC := (.seq (.reg [⟨(some p15), none, (.e (.mv (.r p0)))⟩, ⟨(some p4), none, (.e (.mv (.r p15)))⟩]) .ret)
noncomputable def B58_2 (E : Env) (r1 : DV) (i2 : DV → H → Ans) (r0 : DV) (h : H) : Ans :=
  vK (v_lenS r0) fun x1 =>
  vK (v_gtr x1 (.int .i64 (.ofNat 0))) fun x2 =>
  bK x2
  (vK (v_ixS r0 (.int .i64 (.ofNat 0))) fun x3 =>
  wK (callK E 71 [r1, x3] h) fun x4 h5 =>
  vK (v_not x4) fun x6 =>
  bK x6
  (J58_1 E r0 h5)
  (vK (v_slS r0 (some (.int .i64 (.ofNat 1))) none) fun x7 =>
  i2 x7 h5))
  (J58_1 E r0 h)
noncomputable def L58_2 (E : Env) (r1 : DV) (n : Nat) : DV → H → Ans := Nat.rec (motive := fun _ => DV → H → Ans) (fun _ _ => none) (fun _ i => B58_2 E r1 i) n
def C58_2 : DC := (.loop (.seq (.seq (.reg [⟨(some p5), none, (.e (.mv (.r p0)))⟩, ⟨(some p6), none, (.e (.lenS (.r p5)))⟩, ⟨(some p7), none, (.e (.bin .gtr (.r p6) (.c (.int .i64 (.ofNat 0)))))⟩]) (.cond (.r p7) .skip (.exit 0))) (.block 1 (.seq (.seq (.reg [⟨(some p8), none, (.e (.mv (.r p1)))⟩, ⟨(some p9), none, (.e (.mv (.r p0)))⟩, ⟨(some p10), none, (.e (.ixS (.r p9) (.c (.int .i64 (.ofNat 0)))))⟩, ⟨(some p11), none, (.c (.f 71 [(.r p8), (.r p10)]))⟩, ⟨(some p12), none, (.e (.not (.r p11)))⟩]) (.cond (.r p12) (.exit 0) .skip)) (.reg [⟨(some p13), none, (.e (.mv (.r p0)))⟩, ⟨(some p14), none, (.e (.slS (.r p13) (some (.c (.int .i64 (.ofNat 1)))) none))⟩, ⟨(some p0), none, (.e (.mv (.r p14)))⟩])))))
noncomputable def J58_0 (E : Env) (r0 r1 : DV) (h : H) : Ans :=
  L58_2 E r1 FUEL r0 h
def C58_0 : DC := (.seq (.reg [⟨(some p4), none, (.e (.mv (.c (.str []))))⟩]) (.seq (.block 0 C58_2) C58_1))
theorem I58_1 (E : Env) : Is E C58_1 (retK3 R58) (fun σ h => J58_1 E (σ p0) h) :=
  fun σ h => by kernel_rfl
noncomputable abbrev K58_3 (E : Env) : KT2 (DV × H) := (thenK3 (fun σ h => J58_1 E (σ p0) h) (retK3 R58))
theorem I58_2 (E : Env) : Is E C58_2 (blockK3 0 (K58_3 E)) (fun σ h => L58_2 E (σ p1) FUEL (σ p0) h) :=
  Is.loop (fun n2 σ h => L58_2 E (σ p1) n2 (σ p0) h) (by kernel_rfl) fun n2 => Is.as (Is.leaf _) fun σ h => by kernel_rfl
theorem I58_0 (E : Env) : Is E C58_0 (retK3 R58) (fun σ h => J58_0 E (σ p0) (σ p1) h) :=
  Is.as (Is.seq (Is.seq (I58_1 E) (Is.block (I58_2 E))) (Is.leaf _)) fun σ h => by kernel_rfl
def D58 : DF := ⟨2, 16, C58_0, R58⟩
noncomputable def S58 (E : Env) : Fun := fun args h => aS args fun r0 args => aS args fun r1 args => a0 args (J58_0 E r0 r1 h)
theorem S58_eq (E : Env) (args : List DV) (h : H) : runFn E D58 args h = S58 E args h :=
  Is.fn2 (d := D58) (I58_0 E) rfl (fun r0 r1 h => J58_0 E r0 r1 h) (fun r0 r1 h => by kernel_rfl) args h
/- strings.trimRightASCII -/
def R59 : List RV := [(.r p4)]
noncomputable def J59_1 (E : Env) (r0 : DV) (h : H) : Ans :=
  some (r0, h)
def C59_1 : DC := (.seq (.reg [⟨(some p21), none, (.e (.mv (.r p0)))⟩, ⟨(some p4), none, (.e (.mv (.r p21)))⟩]) .ret)
noncomputable def B59_2 (E : Env) (r1 : DV) (i2 : DV → H → Ans) (r0 : DV) (h : H) : Ans :=
  vK (v_lenS r0) fun x1 =>
  vK (v_gtr x1 (.int .i64 (.ofNat 0))) fun x2 =>
  bK x2
  (vK (v_lenS r0) fun x3 =>
  vK (v_sub x3 (.int .i64 (.ofNat 1))) fun x4 =>
  vK (v_ixS r0 x4) fun x5 =>
  wK (callK E 71 [r1, x5] h) fun x6 h7 =>
  vK (v_not x6) fun x8 =>
  bK x8
  (J59_1 E r0 h7)
  (vK (v_lenS r0) fun x9 =>
  vK (v_sub x9 (.int .i64 (.ofNat 1))) fun x10 =>
  vK (v_slS r0 none (some x10)) fun x11 =>
  i2 x11 h7))
  (J59_1 E r0 h)
noncomputable def L59_2 (E : Env) (r1 : DV) (n : Nat) : DV → H → Ans := Nat.rec (motive := fun _ => DV → H → Ans) (fun _ _ => none) (fun _ i => B59_2 E r1 i) n
def C59_2 : DC := (.loop (.seq (.seq (.reg [⟨(some p5), none, (.e (.mv (.r p0)))⟩, ⟨(some p6), none, (.e (.lenS (.r p5)))⟩, ⟨(some p7), none, (.e (.bin .gtr (.r p6) (.c (.int .i64 (.ofNat 0)))))⟩]) (.cond (.r p7) .skip (.exit 0))) (.block 1 (.seq (.seq (.reg [⟨(some p8), none, (.e (.mv (.r p1)))⟩, ⟨(some p9), none, (.e (.mv (.r p0)))⟩, ⟨(some p10), none, (.e (.mv (.r p0)))⟩, ⟨(some p11), none, (.e (.lenS (.r p10)))⟩, ⟨(some p12), none, (.e (.bin .sub (.r p11) (.c (.int .i64 (.ofNat 1)))))⟩, ⟨(some p13), none, (.e (.ixS (.r p9) (.r p12)))⟩, ⟨(some p14), none, (.c (.f 71 [(.r p8), (.r p13)]))⟩, ⟨(some p15), none, (.e (.not (.r p14)))⟩]) (.cond (.r p15) (.exit 0) .skip)) (.reg [⟨(some p16), none, (.e (.mv (.r p0)))⟩, ⟨(some p17), none, (.e (.mv (.r p0)))⟩, ⟨(some p18), none, (.e (.lenS (.r p17)))⟩, ⟨(some p19), none, (.e (.bin .sub (.r p18) (.c (.int .i64 (.ofNat 1)))))⟩, ⟨(some p20), none, (.e (.slS (.r p16) none (some (.r p19))))⟩, ⟨(some p0), none, (.e (.mv (.r p20)))⟩])))))
noncomputable def J59_0 (E : Env) (r0 r1 : DV) (h : H) : Ans :=
  L59_2 E r1 FUEL r0 h
def C59_0 : DC := (.seq (.reg [⟨(some p4), none, (.e (.mv (.c (.str []))))⟩]) (.seq (.block 0 C59_2) C59_1))
theorem I59_1 (E : Env) : Is E C59_1 (retK3 R59) (fun σ h => J59_1 E (σ p0) h) :=
  fun σ h => by kernel_rfl
noncomputable abbrev K59_3 (E : Env) : KT2 (DV × H) := (thenK3 (fun σ h => J59_1 E (σ p0) h) (retK3 R59))
theorem I59_2 (E : Env) : Is E C59_2 (blockK3 0 (K59_3 E)) (fun σ h => L59_2 E (σ p1) FUEL (σ p0) h) :=
  Is.loop (fun n2 σ h => L59_2 E (σ p1) n2 (σ p0) h) (by kernel_rfl) fun n2 => Is.as (Is.leaf _) fun σ h => by kernel_rfl
theorem I59_0 (E : Env) : Is E C59_0 (retK3 R59) (fun σ h => J59_0 E (σ p0) (σ p1) h) :=
  Is.as (Is.seq (Is.seq (I59_1 E) (Is.block (I59_2 E))) (Is.leaf _)) fun σ h => by kernel_rfl
def D59 : DF := ⟨2, 22, C59_0, R59⟩
noncomputable def S59 (E : Env) : Fun := fun args h => aS args fun r0 args => aS args fun r1 args => a0 args (J59_0 E r0 r1 h)
theorem S59_eq (E : Env) (args : List DV) (h : H) : runFn E D59 args h = S59 E args h :=
  Is.fn2 (d := D59) (I59_0 E) rfl (fun r0 r1 h => J59_0 E r0 r1 h) (fun r0 r1 h => by kernel_rfl) args h
/- strings.trimLeftUnicode -/
def R60 : List RV := [(.r p4)]
noncomputable def J60_1 (E : Env) (r0 : DV) (h : H) : Ans :=
  some (r0, h)
def C60_1 : DC := (.seq (.reg [⟨(some p22), none, (.e (.mv (.r p0)))⟩, ⟨(some p4), none, (.e (.mv (.r p22)))⟩]) .ret)
noncomputable def B60_2 (E : Env) (r1 : DV) (i2 : DV → H → Ans) (r0 : DV) (h : H) : Ans :=
  vK (v_lenS r0) fun x1 =>
  vK (v_gtr x1 (.int .i64 (.ofNat 0))) fun x2 =>
  bK x2
  (wK (callK E 72 [r0] h) fun x3 h4 =>
  vK (v_ext 0 x3) fun x5 =>
  vK (v_ext 1 x3) fun x6 =>
  wK (callK E 73 [r1, x5] h4) fun x7 h8 =>
  vK (v_not x7) fun x9 =>
  bK x9
  (J60_1 E r0 h8)
  (vK (v_slS r0 (some x6) none) fun x10 =>
  i2 x10 h8))
  (J60_1 E r0 h)
noncomputable def L60_2 (E : Env) (r1 : DV) (n : Nat) : DV → H → Ans := Nat.rec (motive := fun _ => DV → H → Ans) (fun _ _ => none) (fun _ i => B60_2 E r1 i) n
def C60_2 : DC := (.loop (.seq (.seq (.reg [⟨(some p7), none, (.e (.mv (.r p0)))⟩, ⟨(some p8), none, (.e (.lenS (.r p7)))⟩, ⟨(some p9), none, (.e (.bin .gtr (.r p8) (.c (.int .i64 (.ofNat 0)))))⟩]) (.cond (.r p9) .skip (.exit 0))) (.block 1 (.seq (.reg [⟨(some p11), none, (.e (.mv (.r p0)))⟩, ⟨(some p12), none, (.c (.f 72 [(.r p11)]))⟩, ⟨(some p10), none, (.e (.mv (.r p12)))⟩, ⟨(some p13), none, (.e (.ext 0 (.r p10)))⟩, ⟨(some p14), none, (.e (.ext 1 (.r p10)))⟩, ⟨(some p5), none, (.e (.mv (.r p13)))⟩, ⟨(some p6), none, (.e (.mv (.r p14)))⟩]) (.seq (.seq (.reg [⟨(some p15), none, (.e (.mv (.r p1)))⟩, ⟨(some p16), none, (.e (.mv (.r p5)))⟩, ⟨(some p17), none, (.c (.f 73 [(.r p15), (.r p16)]))⟩, ⟨(some p18), none, (.e (.not (.r p17)))⟩]) (.cond (.r p18) (.exit 0) .skip)) (.reg [⟨(some p19), none, (.e (.mv (.r p0)))⟩, ⟨(some p20), none, (.e (.mv (.r p6)))⟩, ⟨(some p21), none, (.e (.slS (.r p19) (some (.r p20)) none))⟩, ⟨(some p0), none, (.e (.mv (.r p21)))⟩]))))))
noncomputable def J60_0 (E : Env) (r0 r1 : DV) (h : H) : Ans :=
  L60_2 E r1 FUEL r0 h
def C60_0 : DC := (.seq (.reg [⟨(some p4), none, (.e (.mv (.c (.str []))))⟩]) (.seq (.block 0 C60_2) C60_1))
theorem I60_1 (E : Env) : Is E C60_1 (retK3 R60) (fun σ h => J60_1 E (σ p0) h) :=
  fun σ h => by kernel_rfl
noncomputable abbrev K60_3 (E : Env) : KT2 (DV × H) := (thenK3 (fun σ h => J60_1 E (σ p0) h) (retK3 R60))
theorem I60_2 (E : Env) : Is E C60_2 (blockK3 0 (K60_3 E)) (fun σ h => L60_2 E (σ p1) FUEL (σ p0) h) :=
  Is.loop (fun n2 σ h => L60_2 E (σ p1) n2 (σ p0) h) (by kernel_rfl) fun n2 => Is.as (Is.leaf _) fun σ h => by kernel_rfl
theorem I60_0 (E : Env) : Is E C60_0 (retK3 R60) (fun σ h => J60_0 E (σ p0) (σ p1) h) :=
  Is.as (Is.seq (Is.seq (I60_1 E) (Is.block (I60_2 E))) (Is.leaf _)) fun σ h => by kernel_rfl
def D60 : DF := ⟨2, 23, C60_0, R60⟩
noncomputable def S60 (E : Env) : Fun := fun args h => aS args fun r0 args => aS args fun r1 args => a0 args (J60_0 E r0 r1 h)
theorem S60_eq (E : Env) (args : List DV) (h : H) : runFn E D60 args h = S60 E args h :=
  Is.fn2 (d := D60) (I60_0 E) rfl (fun r0 r1 h => J60_0 E r0 r1 h) (fun r0 r1 h => by kernel_rfl) args h
/- strings.trimRightUnicode -/
def R61 : List RV := [(.r p4)]
noncomputable def J61_1 (E : Env) (r0 : DV) (h : H) : Ans :=
  some (r0, h)
def C61_1 : DC := (.seq (.reg [⟨(some p33), none, (.e (.mv (.r p0)))⟩, ⟨(some p4), none, (.e (.mv (.r p33)))⟩]) .ret)
noncomputable def J61_3 (E : Env) (i2 : DV → H → Ans) (r0 r1 r5 r6 : DV) (h : H) : Ans :=
  wK (callK E 73 [r1, r5] h) fun x1 h2 =>
  vK (v_not x1) fun x3 =>
  bK x3
  (J61_1 E r0 h2)
  (vK (v_lenS r0) fun x4 =>
  vK (v_sub x4 r6) fun x5 =>
  vK (v_slS r0 none (some x5)) fun x6 =>
  i2 x6 h2)
def C61_3 : DC := (.seq (.seq (.reg [⟨(some p23), none, (.e (.mv (.r p1)))⟩, ⟨(some p24), none, (.e (.mv (.r p5)))⟩, ⟨(some p25), none, (.c (.f 73 [(.r p23), (.r p24)]))⟩, ⟨(some p26), none, (.e (.not (.r p25)))⟩]) (.cond (.r p26) (.exit 0) .skip)) (.reg [⟨(some p27), none, (.e (.mv (.r p0)))⟩, ⟨(some p28), none, (.e (.mv (.r p0)))⟩, ⟨(some p29), none, (.e (.lenS (.r p28)))⟩, ⟨(some p30), none, (.e (.mv (.r p6)))⟩, ⟨(some p31), none, (.e (.bin .sub (.r p29) (.r p30)))⟩, ⟨(some p32), none, (.e (.slS (.r p27) none (some (.r p31))))⟩, ⟨(some p0), none, (.e (.mv (.r p32)))⟩]))
noncomputable def B61_2 (E : Env) (r1 : DV) (i2 : DV → H → Ans) (r0 : DV) (h : H) : Ans :=
  vK (v_lenS r0) fun x1 =>
  vK (v_gtr x1 (.int .i64 (.ofNat 0))) fun x2 =>
  bK x2
  (vK (v_lenS r0) fun x3 =>
  vK (v_sub x3 (.int .i64 (.ofNat 1))) fun x4 =>
  vK (v_ixS r0 x4) fun x5 =>
  vK (v_conv .i32 x5) fun x6 =>
  vK (v_geq x6 (.int .i32 (.ofNat 128))) fun x7 =>
  bK x7
  (wK (callK E 74 [r0] h) fun x8 h9 =>
  vK (v_ext 0 x8) fun x10 =>
  vK (v_ext 1 x8) fun x11 =>
  J61_3 E i2 r0 r1 x10 x11 h9)
  (J61_3 E i2 r0 r1 x6 (.int .i64 (.ofNat 1)) h))
  (J61_1 E r0 h)
noncomputable def L61_2 (E : Env) (r1 : DV) (n : Nat) : DV → H → Ans := Nat.rec (motive := fun _ => DV → H → Ans) (fun _ _ => none) (fun _ i => B61_2 E r1 i) n
def C61_2 : DC := (.loop (.seq (.seq (.reg [⟨(some p7), none, (.e (.mv (.r p0)))⟩, ⟨(some p8), none, (.e (.lenS (.r p7)))⟩, ⟨(some p9), none, (.e (.bin .gtr (.r p8) (.c (.int .i64 (.ofNat 0)))))⟩]) (.cond (.r p9) .skip (.exit 0))) (.block 1 (.seq (.reg [⟨(some p10), none, (.e (.mv (.r p0)))⟩, ⟨(some p11), none, (.e (.mv (.r p0)))⟩, ⟨(some p12), none, (.e (.lenS (.r p11)))⟩, ⟨(some p13), none, (.e (.bin .sub (.r p12) (.c (.int .i64 (.ofNat 1)))))⟩, ⟨(some p14), none, (.e (.ixS (.r p10) (.r p13)))⟩, ⟨(some p15), none, (.e (.conv .i32 (.r p14)))⟩, ⟨(some p5), none, (.e (.mv (.r p15)))⟩, ⟨(some p6), none, (.e (.mv (.c (.int .i64 (.ofNat 1)))))⟩]) (.seq (.seq (.reg [⟨(some p16), none, (.e (.mv (.r p5)))⟩, ⟨(some p17), none, (.e (.bin .geq (.r p16) (.c (.int .i32 (.ofNat 128)))))⟩]) (.cond (.r p17) (.reg [⟨(some p19), none, (.e (.mv (.r p0)))⟩, ⟨(some p20), none, (.c (.f 74 [(.r p19)]))⟩, ⟨(some p18), none, (.e (.mv (.r p20)))⟩, ⟨(some p21), none, (.e (.ext 0 (.r p18)))⟩, ⟨(some p22), none, (.e (.ext 1 (.r p18)))⟩, ⟨(some p5), none, (.e (.mv (.r p21)))⟩, ⟨(some p6), none, (.e (.mv (.r p22)))⟩]) .skip)) C61_3)))))
noncomputable def J61_0 (E : Env) (r0 r1 : DV) (h : H) : Ans :=
  L61_2 E r1 FUEL r0 h
def C61_0 : DC := (.seq (.reg [⟨(some p4), none, (.e (.mv (.c (.str []))))⟩]) (.seq (.block 0 C61_2) C61_1))
theorem I61_1 (E : Env) : Is E C61_1 (retK3 R61) (fun σ h => J61_1 E (σ p0) h) :=
  fun σ h => by kernel_rfl
noncomputable abbrev K61_4 (E : Env) : KT2 (DV × H) := (thenK3 (fun σ h => J61_1 E (σ p0) h) (retK3 R61))
noncomputable abbrev K61_5 (E : Env) (n2 : Nat) : KT2 (DV × H) := (thenK3 (fun σ h => (L61_2 E (σ p1) n2) (σ p0) h) (blockK3 0 (K61_4 E)))
theorem I61_3 (E : Env) (n2 : Nat) : Is E C61_3 (blockK3 1 (K61_5 E n2)) (fun σ h => J61_3 E (L61_2 E (σ p1) n2) (σ p0) (σ p1) (σ p5) (σ p6) h) :=
  fun σ h => by kernel_rfl
theorem I61_2 (E : Env) : Is E C61_2 (blockK3 0 (K61_4 E)) (fun σ h => L61_2 E (σ p1) FUEL (σ p0) h) :=
  Is.loop (fun n2 σ h => L61_2 E (σ p1) n2 (σ p0) h) (by kernel_rfl) fun n2 => Is.as (Is.seq (Is.block (Is.seq (Is.seq (I61_3 E n2) (Is.leaf _)) (Is.leaf _))) (Is.leaf _)) fun σ h => by kernel_rfl
theorem I61_0 (E : Env) : Is E C61_0 (retK3 R61) (fun σ h => J61_0 E (σ p0) (σ p1) h) :=
  Is.as (Is.seq (Is.seq (I61_1 E) (Is.block (I61_2 E))) (Is.leaf _)) fun σ h => by kernel_rfl
def D61 : DF := ⟨2, 34, C61_0, R61⟩
noncomputable def S61 (E : Env) : Fun := fun args h => aS args fun r0 args => aS args fun r1 args => a0 args (J61_0 E r0 r1 h)
theorem S61_eq (E : Env) (args : List DV) (h : H) : runFn E D61 args h = S61 E args h :=
  Is.fn2 (d := D61) (I61_0 E) rfl (fun r0 r1 h => J61_0 E r0 r1 h) (fun r0 r1 h => by kernel_rfl) args h
/- internal/stringslite.IndexByte -/
def R65 : List RV := [(.r p4)]
noncomputable def J65_0 (E : Env) (r0 r1 : DV) (h : H) : Ans :=
  vK (v_idxB r0 r1) fun x1 =>
  some (x1, h)
def C65_0 : DC := (.seq (.reg [⟨(some p4), none, (.e (.mv (.c (.int .i64 (.ofNat 0)))))⟩]) (.seq (.reg [⟨(some p5), none, (.e (.mv (.r p0)))⟩, ⟨(some p6), none, (.e (.mv (.r p1)))⟩, ⟨(some p7), none, (.e (.prm .idx (.r p5) (.r p6)))⟩, ⟨(some p4), none, (.e (.mv (.r p7)))⟩]) .ret))
theorem I65_0 (E : Env) : Is E C65_0 (retK3 R65) (fun σ h => J65_0 E (σ p0) (σ p1) h) :=
  fun σ h => by kernel_rfl
def D65 : DF := ⟨2, 8, C65_0, R65⟩
noncomputable def S65 (E : Env) : Fun := fun args h => aS args fun r0 args => aS args fun r1 args => a0 args (J65_0 E r0 r1 h)
theorem S65_eq (E : Env) (args : List DV) (h : H) : runFn E D65 args h = S65 E args h :=
  Is.fn2 (d := D65) (I65_0 E) rfl (fun r0 r1 h => J65_0 E r0 r1 h) (fun r0 r1 h => by kernel_rfl) args h
/- (*strings.asciiSet).contains -/
def R71 : List RV := [(.r p4)]
noncomputable def J71_0 (E : Env) (r0 r1 : DV) (h : H) : Ans :=
  vK (v_nilchk r0) fun x1 =>
  vK (v_iaA 256 1 x1 r1) fun x2 =>
  vK (v_ld h.get x2) fun x3 =>
  some (x3, h)
def C71_0 : DC := (.seq (.reg [⟨(some p4), none, (.e (.mv (.c (.bool false))))⟩]) (.seq (.reg [⟨(some p5), none, (.e (.mv (.r p0)))⟩, ⟨(some p6), none, (.e (.mv (.r p1)))⟩, ⟨(some p7), none, (.e (.nilchk (.r p5)))⟩, ⟨(some p8), none, (.e (.iaA 256 1 (.r p7) (.r p6)))⟩, ⟨(some p9), none, (.e (.ld (.r p8)))⟩, ⟨(some p4), none, (.e (.mv (.r p9)))⟩]) .ret))
theorem I71_0 (E : Env) : Is E C71_0 (retK3 R71) (fun σ h => J71_0 E (σ p0) (σ p1) h) :=
  fun σ h => by kernel_rfl
def D71 : DF := ⟨2, 10, C71_0, R71⟩
noncomputable def S71 (E : Env) : Fun := fun args h => aS args fun r0 args => aS args fun r1 args => a0 args (J71_0 E r0 r1 h)
theorem S71_eq (E : Env) (args : List DV) (h : H) : runFn E D71 args h = S71 E args h :=
  Is.fn2 (d := D71) (I71_0 E) rfl (fun r0 r1 h => J71_0 E r0 r1 h) (fun r0 r1 h => by kernel_rfl) args h
/- unicode/utf8.DecodeRuneInString -/
def R72 : List RV := [(.r p2), (.r p3)]
noncomputable def J72_0 (E : Env) (r0 : DV) (h : H) : Ans :=
  vK (v_neq r0 (.str [])) fun x1 =>
  gdK x1 true (fun kk => kk r0 h) h fun x2 h3 =>
  gdK x1 true (fun kk => vK (v_ixS x2 (.int .i64 (.ofNat 0))) fun v => kk v h3) h3 fun x4 h5 =>
  gdK x1 true (fun kk => vK (v_lss x4 (.int .u8 (.ofNat 128))) fun v => kk v h5) h5 fun x6 h7 =>
  vK (v_pick x1 x6 (.bool false)) fun x8 =>
  bK x8
  (vK (v_ixS r0 (.int .i64 (.ofNat 0))) fun x9 =>
  vK (v_conv .i32 x9) fun x10 =>
  some ((.tup [x10, (.int .i64 (.ofNat 1))]), h7))
  (wK (callK E 84 [r0] h7) fun x11 h12 =>
  vK (v_ext 0 x11) fun x13 =>
  vK (v_ext 1 x11) fun x14 =>
  some ((.tup [x13, x14]), h12))
def C72_0 : DC := (.seq (.reg [⟨(some p2), none, (.e (.mv (.c (.int .i32 (.ofNat 0)))))⟩, ⟨(some p3), none, (.e (.mv (.c (.int .i64 (.ofNat 0)))))⟩]) (.seq (.seq (.reg [⟨(some p4), none, (.e (.mv (.r p0)))⟩, ⟨(some p5), none, (.e (.bin .neq (.r p4) (.c (.str []))))⟩, ⟨(some p6), none, (.e (.mv (.r p5)))⟩, ⟨(some p7), (some (p6, true)), (.e (.mv (.r p0)))⟩, ⟨(some p8), (some (p6, true)), (.e (.ixS (.r p7) (.c (.int .i64 (.ofNat 0)))))⟩, ⟨(some p9), (some (p6, true)), (.e (.bin .lss (.r p8) (.c (.int .u8 (.ofNat 128)))))⟩, ⟨(some p10), none, (.e (.pick (.r p6) (.r p9) (.c (.bool false))))⟩]) (.cond (.r p10) (.seq (.reg [⟨(some p11), none, (.e (.mv (.r p0)))⟩, ⟨(some p12), none, (.e (.ixS (.r p11) (.c (.int .i64 (.ofNat 0)))))⟩, ⟨(some p13), none, (.e (.conv .i32 (.r p12)))⟩, ⟨(some p2), none, (.e (.mv (.r p13)))⟩, ⟨(some p3), none, (.e (.mv (.c (.int .i64 (.ofNat 1)))))⟩]) .ret) (.reg [⟨(some p15), none, (.e (.mv (.r p0)))⟩, ⟨(some p16), none, (.c (.f 84 [(.r p15)]))⟩, ⟨(some p14), none, (.e (.mv (.r p16)))⟩, ⟨(some p17), none, (.e (.ext 0 (.r p14)))⟩, ⟨(some p18), none, (.e (.ext 1 (.r p14)))⟩, ⟨(some p2), none, (.e (.mv (.r p17)))⟩, ⟨(some p3), none, (.e (.mv (.r p18)))⟩]))) .ret))
theorem I72_0 (E : Env) : Is E C72_0 (retK3 R72) (fun σ h => J72_0 E (σ p0) h) :=
  fun σ h => by kernel_rfl
def D72 : DF := ⟨1, 19, C72_0, R72⟩
noncomputable def S72 (E : Env) : Fun := fun args h => aS args fun r0 args => a0 args (J72_0 E r0 h)
theorem S72_eq (E : Env) (args : List DV) (h : H) : runFn E D72 args h = S72 E args h :=
  Is.fn1 (d := D72) (I72_0 E) rfl (fun r0 h => J72_0 E r0 h) (fun r0 h => by kernel_rfl) args h
/- strings.ContainsRune -/
def R73 : List RV := [(.r p4)]
noncomputable def J73_0 (E : Env) (r0 r1 : DV) (h : H) : Ans :=
  wK (callK E 85 [r0, r1] h) fun x1 h2 =>
  vK (v_geq x1 (.int .i64 (.ofNat 0))) fun x3 =>
  some (x3, h2)
def C73_0 : DC := (.seq (.reg [⟨(some p4), none, (.e (.mv (.c (.bool false))))⟩]) (.seq (.reg [⟨(some p5), none, (.e (.mv (.r p0)))⟩, ⟨(some p6), none, (.e (.mv (.r p1)))⟩, ⟨(some p7), none, (.c (.f 85 [(.r p5), (.r p6)]))⟩, ⟨(some p8), none, (.e (.bin .geq (.r p7) (.c (.int .i64 (.ofNat 0)))))⟩, ⟨(some p4), none, (.e (.mv (.r p8)))⟩]) .ret))
theorem I73_0 (E : Env) : Is E C73_0 (retK3 R73) (fun σ h => J73_0 E (σ p0) (σ p1) h) :=
  fun σ h => by kernel_rfl
def D73 : DF := ⟨2, 9, C73_0, R73⟩
noncomputable def S73 (E : Env) : Fun := fun args h => aS args fun r0 args => aS args fun r1 args => a0 args (J73_0 E r0 r1 h)
theorem S73_eq (E : Env) (args : List DV) (h : H) : runFn E D73 args h = S73 E args h :=
  Is.fn2 (d := D73) (I73_0 E) rfl (fun r0 r1 h => J73_0 E r0 r1 h) (fun r0 r1 h => by kernel_rfl) args h
/- unicode/utf8.DecodeLastRuneInString -/
def R74 : List RV := [(.r p2), (.r p3)]
noncomputable def J74_3 (E : Env) (r0 r4 r5 : DV) (h : H) : Ans :=
  vK (v_slS r0 (some r5) (some r4)) fun x1 =>
  wK (callK E 72 [x1] h) fun x2 h3 =>
  vK (v_ext 0 x2) fun x4 =>
  vK (v_ext 1 x2) fun x5 =>
  vK (v_add r5 x5) fun x6 =>
  vK (v_neq x6 r4) fun x7 =>
  bK x7
  (some ((.tup [(.int .i32 (.ofNat 65533)), (.int .i64 (.ofNat 1))]), h3))
  (some ((.tup [x4, x5]), h3))
def C74_3 : DC := (.seq (.reg [⟨(some p37), none, (.e (.mv (.r p0)))⟩, ⟨(some p38), none, (.e (.mv (.r p5)))⟩, ⟨(some p39), none, (.e (.mv (.r p4)))⟩, ⟨(some p40), none, (.e (.slS (.r p37) (some (.r p38)) (some (.r p39))))⟩, ⟨(some p41), none, (.c (.f 72 [(.r p40)]))⟩, ⟨(some p36), none, (.e (.mv (.r p41)))⟩, ⟨(some p42), none, (.e (.ext 0 (.r p36)))⟩, ⟨(some p43), none, (.e (.ext 1 (.r p36)))⟩, ⟨(some p2), none, (.e (.mv (.r p42)))⟩, ⟨(some p3), none, (.e (.mv (.r p43)))⟩]) (.seq (.seq (.reg [⟨(some p44), none, (.e (.mv (.r p5)))⟩, ⟨(some p45), none, (.e (.mv (.r p3)))⟩, ⟨(some p46), none, (.e (.bin .add (.r p44) (.r p45)))⟩, ⟨(some p47), none, (.e (.mv (.r p4)))⟩, ⟨(some p48), none, (.e (.bin .neq (.r p46) (.r p47)))⟩]) (.cond (.r p48) (.seq (.reg [⟨(some p2), none, (.e (.mv (.c (.int .i32 (.ofNat 65533)))))⟩, ⟨(some p3), none, (.e (.mv (.c (.int .i64 (.ofNat 1)))))⟩]) .ret) .skip)) (.seq (.reg [⟨(some p49), none, (.e (.mv (.r p2)))⟩, ⟨(some p50), none, (.e (.mv (.r p3)))⟩, ⟨(some p2), none, (.e (.mv (.r p49)))⟩, ⟨(some p3), none, (.e (.mv (.r p50)))⟩]) .ret)))
noncomputable def J74_1 (E : Env) (r0 r4 r5 : DV) (h : H) : Ans :=
  vK (v_lss r5 (.int .i64 (.ofNat 0))) fun x1 =>
  bK x1
  (J74_3 E r0 r4 (.int .i64 (.ofNat 0)) h)
  (J74_3 E r0 r4 r5 h)
def C74_1 : DC := (.seq (.seq (.reg [⟨(some p34), none, (.e (.mv (.r p5)))⟩, ⟨(some p35), none, (.e (.bin .lss (.r p34) (.c (.int .i64 (.ofNat 0)))))⟩]) (.cond (.r p35) (.reg [⟨(some p5), none, (.e (.mv (.c (.int .i64 (.ofNat 0)))))⟩]) .skip)) C74_3)
noncomputable def B74_2 (E : Env) (r0 r4 r6 : DV) (i2 : DV → H → Ans) (r5 : DV) (h : H) : Ans :=
  vK (v_geq r5 r6) fun x1 =>
  bK x1
  (vK (v_ixS r0 r5) fun x2 =>
  wK (callK E 86 [x2] h) fun x3 h4 =>
  bK x3
  (J74_1 E r0 r4 r5 h4)
  (vK (v_sub r5 (.int .i64 (.ofNat 1))) fun x5 =>
  i2 x5 h4))
  (J74_1 E r0 r4 r5 h)
noncomputable def L74_2 (E : Env) (r0 r4 r6 : DV) (n : Nat) : DV → H → Ans := Nat.rec (motive := fun _ => DV → H → Ans) (fun _ _ => none) (fun _ i => B74_2 E r0 r4 r6 i) n
def C74_2 : DC := (.loop (.seq (.seq (.reg [⟨(some p25), none, (.e (.mv (.r p5)))⟩, ⟨(some p26), none, (.e (.mv (.r p6)))⟩, ⟨(some p27), none, (.e (.bin .geq (.r p25) (.r p26)))⟩]) (.cond (.r p27) .skip (.exit 0))) (.seq (.block 1 (.seq (.reg [⟨(some p30), none, (.e (.mv (.r p0)))⟩, ⟨(some p31), none, (.e (.mv (.r p5)))⟩, ⟨(some p32), none, (.e (.ixS (.r p30) (.r p31)))⟩, ⟨(some p33), none, (.c (.f 86 [(.r p32)]))⟩]) (.cond (.r p33) (.exit 0) .skip))) (.reg [⟨(some p28), none, (.e (.mv (.r p5)))⟩, ⟨(some p29), none, (.e (.bin .sub (.r p28) (.c (.int .i64 (.ofNat 1)))))⟩, ⟨(some p5), none, (.e (.mv (.r p29)))⟩]))))
noncomputable def J74_0 (E : Env) (r0 : DV) (h : H) : Ans :=
  vK (v_lenS r0) fun x1 =>
  vK (v_eql x1 (.int .i64 (.ofNat 0))) fun x2 =>
  bK x2
  (some ((.tup [(.int .i32 (.ofNat 65533)), (.int .i64 (.ofNat 0))]), h))
  (vK (v_sub x1 (.int .i64 (.ofNat 1))) fun x3 =>
  vK (v_ixS r0 x3) fun x4 =>
  vK (v_conv .i32 x4) fun x5 =>
  vK (v_lss x5 (.int .i32 (.ofNat 128))) fun x6 =>
  bK x6
  (some ((.tup [x5, (.int .i64 (.ofNat 1))]), h))
  (vK (v_sub x1 (.int .i64 (.ofNat 4))) fun x7 =>
  vK (v_mx x7 (.int .i64 (.ofNat 0))) fun x8 =>
  vK (v_sub x3 (.int .i64 (.ofNat 1))) fun x9 =>
  L74_2 E r0 x1 x8 FUEL x9 h))
def C74_0 : DC := (.seq (.reg [⟨(some p2), none, (.e (.mv (.c (.int .i32 (.ofNat 0)))))⟩, ⟨(some p3), none, (.e (.mv (.c (.int .i64 (.ofNat 0)))))⟩]) (.seq (.reg [⟨(some p7), none, (.e (.mv (.r p0)))⟩, ⟨(some p8), none, (.e (.lenS (.r p7)))⟩, ⟨(some p4), none, (.e (.mv (.r p8)))⟩]) (.seq (.seq (.reg [⟨(some p9), none, (.e (.mv (.r p4)))⟩, ⟨(some p10), none, (.e (.bin .eql (.r p9) (.c (.int .i64 (.ofNat 0)))))⟩]) (.cond (.r p10) (.seq (.reg [⟨(some p2), none, (.e (.mv (.c (.int .i32 (.ofNat 65533)))))⟩, ⟨(some p3), none, (.e (.mv (.c (.int .i64 (.ofNat 0)))))⟩]) .ret) .skip)) (.seq (.reg [⟨(some p11), none, (.e (.mv (.r p4)))⟩, ⟨(some p12), none, (.e (.bin .sub (.r p11) (.c (.int .i64 (.ofNat 1)))))⟩, ⟨(some p5), none, (.e (.mv (.r p12)))⟩]) (.seq (.reg [⟨(some p13), none, (.e (.mv (.r p0)))⟩, ⟨(some p14), none, (.e (.mv (.r p5)))⟩, ⟨(some p15), none, (.e (.ixS (.r p13) (.r p14)))⟩, ⟨(some p16), none, (.e (.conv .i32 (.r p15)))⟩, ⟨(some p2), none, (.e (.mv (.r p16)))⟩]) (.seq (.seq (.reg [⟨(some p17), none, (.e (.mv (.r p2)))⟩, ⟨(some p18), none, (.e (.bin .lss (.r p17) (.c (.int .i32 (.ofNat 128)))))⟩]) (.cond (.r p18) (.seq (.reg [⟨(some p19), none, (.e (.mv (.r p2)))⟩, ⟨(some p2), none, (.e (.mv (.r p19)))⟩, ⟨(some p3), none, (.e (.mv (.c (.int .i64 (.ofNat 1)))))⟩]) .ret) .skip)) (.seq (.reg [⟨(some p20), none, (.e (.mv (.r p4)))⟩, ⟨(some p21), none, (.e (.bin .sub (.r p20) (.c (.int .i64 (.ofNat 4)))))⟩, ⟨(some p22), none, (.e (.mx (.r p21) (.c (.int .i64 (.ofNat 0)))))⟩, ⟨(some p6), none, (.e (.mv (.r p22)))⟩]) (.seq (.seq (.reg [⟨(some p23), none, (.e (.mv (.r p5)))⟩, ⟨(some p24), none, (.e (.bin .sub (.r p23) (.c (.int .i64 (.ofNat 1)))))⟩, ⟨(some p5), none, (.e (.mv (.r p24)))⟩]) (.block 0 C74_2)) C74_1))))))))
theorem I74_3 (E : Env) : Is E C74_3 (retK3 R74) (fun σ h => J74_3 E (σ p0) (σ p4) (σ p5) h) :=
  fun σ h => by kernel_rfl
theorem I74_1 (E : Env) : Is E C74_1 (retK3 R74) (fun σ h => J74_1 E (σ p0) (σ p4) (σ p5) h) :=
  Is.as (Is.seq (I74_3 E) (Is.leaf _)) fun σ h => by kernel_rfl
noncomputable abbrev K74_4 (E : Env) : KT2 (DV × H) := (thenK3 (fun σ h => J74_1 E (σ p0) (σ p4) (σ p5) h) (retK3 R74))
theorem I74_2 (E : Env) : Is E C74_2 (blockK3 0 (K74_4 E)) (fun σ h => L74_2 E (σ p0) (σ p4) (σ p6) FUEL (σ p5) h) :=
  Is.loop (fun n2 σ h => L74_2 E (σ p0) (σ p4) (σ p6) n2 (σ p5) h) (by kernel_rfl) fun n2 => Is.as (Is.leaf _) fun σ h => by kernel_rfl
theorem I74_0 (E : Env) : Is E C74_0 (retK3 R74) (fun σ h => J74_0 E (σ p0) h) :=
  Is.as (Is.seq (Is.seq (Is.seq (Is.seq (Is.seq (Is.seq (Is.seq (Is.seq (I74_1 E) (Is.seq (Is.block (I74_2 E)) (Is.leaf _))) (Is.leaf _)) (Is.leaf _)) (Is.leaf _)) (Is.leaf _)) (Is.leaf _)) (Is.leaf _)) (Is.leaf _)) fun σ h => by kernel_rfl
def D74 : DF := ⟨1, 51, C74_0, R74⟩
noncomputable def S74 (E : Env) : Fun := fun args h => aS args fun r0 args => a0 args (J74_0 E r0 h)
theorem S74_eq (E : Env) (args : List DV) (h : H) : runFn E D74 args h = S74 E args h :=
  Is.fn1 (d := D74) (I74_0 E) rfl (fun r0 h => J74_0 E r0 h) (fun r0 h => by kernel_rfl) args h
/- unicode/utf8.decodeRuneInStringSlow -/
def R84 : List RV := [(.r p2), (.r p3)]
noncomputable def J84_0 (E : Env) (r0 : DV) (h : H) : Ans :=
  vK (v_lenS r0) fun x1 =>
  vK (v_lss x1 (.int .i64 (.ofNat 1))) fun x2 =>
  bK x2
  (some ((.tup [(.int .i32 (.ofNat 65533)), (.int .i64 (.ofNat 0))]), h))
  (vK (v_ixS r0 (.int .i64 (.ofNat 0))) fun x3 =>
  none)
def C84_0 : DC := (.seq (.reg [⟨(some p2), none, (.e (.mv (.c (.int .i32 (.ofNat 0)))))⟩, ⟨(some p3), none, (.e (.mv (.c (.int .i64 (.ofNat 0)))))⟩]) (.seq (.reg [⟨(some p13), none, (.e (.mv (.r p0)))⟩, ⟨(some p14), none, (.e (.lenS (.r p13)))⟩, ⟨(some p4), none, (.e (.mv (.r p14)))⟩]) (.seq (.seq (.reg [⟨(some p15), none, (.e (.mv (.r p4)))⟩, ⟨(some p16), none, (.e (.bin .lss (.r p15) (.c (.int .i64 (.ofNat 1)))))⟩]) (.cond (.r p16) (.seq (.reg [⟨(some p2), none, (.e (.mv (.c (.int .i32 (.ofNat 65533)))))⟩, ⟨(some p3), none, (.e (.mv (.c (.int .i64 (.ofNat 0)))))⟩]) .ret) .skip)) (.seq (.reg [⟨(some p17), none, (.e (.mv (.r p0)))⟩, ⟨(some p18), none, (.e (.ixS (.r p17) (.c (.int .i64 (.ofNat 0)))))⟩, ⟨(some p5), none, (.e (.mv (.r p18)))⟩]) (.seq (.reg [⟨(some p19), none, (.e (.mv (.r p5)))⟩, ⟨(some p20), none, (.e .bad)⟩, ⟨(some p21), none, (.e (.ld (.r p20)))⟩, ⟨(some p6), none, (.e (.mv (.r p21)))⟩]) (.seq (.seq (.reg [⟨(some p22), none, (.e (.mv (.r p6)))⟩, ⟨(some p23), none, (.e (.bin .geq (.r p22) (.c (.int .u8 (.ofNat 240)))))⟩]) (.cond (.r p23) (.seq (.reg [⟨(some p24), none, (.e (.mv (.r p6)))⟩, ⟨(some p25), none, (.e (.conv .i32 (.r p24)))⟩, ⟨(some p26), none, (.e (.bin .shl (.r p25) (.c (.int .u64 (.ofNat 31)))))⟩, ⟨(some p27), none, (.e (.bin .shr (.r p26) (.c (.int .u64 (.ofNat 31)))))⟩, ⟨(some p7), none, (.e (.mv (.r p27)))⟩]) (.seq (.reg [⟨(some p28), none, (.e (.mv (.r p0)))⟩, ⟨(some p29), none, (.e (.ixS (.r p28) (.c (.int .i64 (.ofNat 0)))))⟩, ⟨(some p30), none, (.e (.conv .i32 (.r p29)))⟩, ⟨(some p31), none, (.e (.mv (.r p7)))⟩, ⟨(some p32), none, (.e (.bin .andNot (.r p30) (.r p31)))⟩, ⟨(some p33), none, (.e (.mv (.r p7)))⟩, ⟨(some p34), none, (.e (.bin .and (.c (.int .i32 (.ofNat 65533))) (.r p33)))⟩, ⟨(some p35), none, (.e (.bin .or (.r p32) (.r p34)))⟩, ⟨(some p2), none, (.e (.mv (.r p35)))⟩, ⟨(some p3), none, (.e (.mv (.c (.int .i64 (.ofNat 1)))))⟩]) .ret)) .skip)) (.seq (.reg [⟨(some p36), none, (.e (.mv (.r p6)))⟩, ⟨(some p37), none, (.e (.bin .and (.r p36) (.c (.int .u8 (.ofNat 7)))))⟩, ⟨(some p38), none, (.e (.conv .i64 (.r p37)))⟩, ⟨(some p8), none, (.e (.mv (.r p38)))⟩]) (.seq (.reg [⟨(some p39), none, (.e (.mv (.r p6)))⟩, ⟨(some p40), none, (.e (.bin .shr (.r p39) (.c (.int .u64 (.ofNat 4)))))⟩, ⟨(some p41), none, (.e .bad)⟩, ⟨(some p42), none, (.e (.ldN 2 (.r p41)))⟩, ⟨(some p9), none, (.e (.alc 2 2 (.list [(.int .u8 (.ofNat 0)), (.int .u8 (.ofNat 0))])))⟩, ⟨none, none, (.w (.st 2 (.r p9) (.r p42)))⟩]) (.seq (.seq (.reg [⟨(some p43), none, (.e (.mv (.r p4)))⟩, ⟨(some p44), none, (.e (.mv (.r p8)))⟩, ⟨(some p45), none, (.e (.bin .lss (.r p43) (.r p44)))⟩]) (.cond (.r p45) (.seq (.reg [⟨(some p2), none, (.e (.mv (.c (.int .i32 (.ofNat 65533)))))⟩, ⟨(some p3), none, (.e (.mv (.c (.int .i64 (.ofNat 1)))))⟩]) .ret) .skip)) (.seq (.reg [⟨(some p46), none, (.e (.mv (.r p0)))⟩, ⟨(some p47), none, (.e (.ixS (.r p46) (.c (.int .i64 (.ofNat 1)))))⟩, ⟨(some p10), none, (.e (.mv (.r p47)))⟩]) (.seq (.seq (.reg [⟨(some p48), none, (.e (.mv (.r p10)))⟩, ⟨(some p49), none, (.e (.fa 0 (.r p9)))⟩, ⟨(some p50), none, (.e (.ld (.r p49)))⟩, ⟨(some p51), none, (.e (.bin .lss (.r p48) (.r p50)))⟩, ⟨(some p52), none, (.e (.mv (.r p51)))⟩, ⟨(some p53), (some (p52, false)), (.e (.fa 1 (.r p9)))⟩, ⟨(some p54), (some (p52, false)), (.e (.ld (.r p53)))⟩, ⟨(some p55), (some (p52, false)), (.e (.mv (.r p10)))⟩, ⟨(some p56), (some (p52, false)), (.e (.bin .lss (.r p54) (.r p55)))⟩, ⟨(some p57), none, (.e (.pick (.r p52) (.c (.bool true)) (.r p56)))⟩]) (.cond (.r p57) (.seq (.reg [⟨(some p2), none, (.e (.mv (.c (.int .i32 (.ofNat 65533)))))⟩, ⟨(some p3), none, (.e (.mv (.c (.int .i64 (.ofNat 1)))))⟩]) .ret) .skip)) (.seq (.seq (.reg [⟨(some p58), none, (.e (.mv (.r p8)))⟩, ⟨(some p59), none, (.e (.bin .leq (.r p58) (.c (.int .i64 (.ofNat 2)))))⟩]) (.cond (.r p59) (.seq (.reg [⟨(some p60), none, (.e (.mv (.r p5)))⟩, ⟨(some p61), none, (.e (.bin .and (.r p60) (.c (.int .u8 (.ofNat 31)))))⟩, ⟨(some p62), none, (.e (.conv .i32 (.r p61)))⟩, ⟨(some p63), none, (.e (.bin .shl (.r p62) (.c (.int .u64 (.ofNat 6)))))⟩, ⟨(some p64), none, (.e (.mv (.r p10)))⟩, ⟨(some p65), none, (.e (.bin .and (.r p64) (.c (.int .u8 (.ofNat 63)))))⟩, ⟨(some p66), none, (.e (.conv .i32 (.r p65)))⟩, ⟨(some p67), none, (.e (.bin .or (.r p63) (.r p66)))⟩, ⟨(some p2), none, (.e (.mv (.r p67)))⟩, ⟨(some p3), none, (.e (.mv (.c (.int .i64 (.ofNat 2)))))⟩]) .ret) .skip)) (.seq (.reg [⟨(some p68), none, (.e (.mv (.r p0)))⟩, ⟨(some p69), none, (.e (.ixS (.r p68) (.c (.int .i64 (.ofNat 2)))))⟩, ⟨(some p11), none, (.e (.mv (.r p69)))⟩]) (.seq (.seq (.reg [⟨(some p70), none, (.e (.mv (.r p11)))⟩, ⟨(some p71), none, (.e (.bin .lss (.r p70) (.c (.int .u8 (.ofNat 128)))))⟩, ⟨(some p72), none, (.e (.mv (.r p71)))⟩, ⟨(some p73), (some (p72, false)), (.e (.mv (.r p11)))⟩, ⟨(some p74), (some (p72, false)), (.e (.bin .lss (.c (.int .u8 (.ofNat 191))) (.r p73)))⟩, ⟨(some p75), none, (.e (.pick (.r p72) (.c (.bool true)) (.r p74)))⟩]) (.cond (.r p75) (.seq (.reg [⟨(some p2), none, (.e (.mv (.c (.int .i32 (.ofNat 65533)))))⟩, ⟨(some p3), none, (.e (.mv (.c (.int .i64 (.ofNat 1)))))⟩]) .ret) .skip)) (.seq (.seq (.reg [⟨(some p76), none, (.e (.mv (.r p8)))⟩, ⟨(some p77), none, (.e (.bin .leq (.r p76) (.c (.int .i64 (.ofNat 3)))))⟩]) (.cond (.r p77) (.seq (.reg [⟨(some p78), none, (.e (.mv (.r p5)))⟩, ⟨(some p79), none, (.e (.bin .and (.r p78) (.c (.int .u8 (.ofNat 15)))))⟩, ⟨(some p80), none, (.e (.conv .i32 (.r p79)))⟩, ⟨(some p81), none, (.e (.bin .shl (.r p80) (.c (.int .u64 (.ofNat 12)))))⟩, ⟨(some p82), none, (.e (.mv (.r p10)))⟩, ⟨(some p83), none, (.e (.bin .and (.r p82) (.c (.int .u8 (.ofNat 63)))))⟩, ⟨(some p84), none, (.e (.conv .i32 (.r p83)))⟩, ⟨(some p85), none, (.e (.bin .shl (.r p84) (.c (.int .u64 (.ofNat 6)))))⟩, ⟨(some p86), none, (.e (.bin .or (.r p81) (.r p85)))⟩, ⟨(some p87), none, (.e (.mv (.r p11)))⟩, ⟨(some p88), none, (.e (.bin .and (.r p87) (.c (.int .u8 (.ofNat 63)))))⟩, ⟨(some p89), none, (.e (.conv .i32 (.r p88)))⟩, ⟨(some p90), none, (.e (.bin .or (.r p86) (.r p89)))⟩, ⟨(some p2), none, (.e (.mv (.r p90)))⟩, ⟨(some p3), none, (.e (.mv (.c (.int .i64 (.ofNat 3)))))⟩]) .ret) .skip)) (.seq (.reg [⟨(some p91), none, (.e (.mv (.r p0)))⟩, ⟨(some p92), none, (.e (.ixS (.r p91) (.c (.int .i64 (.ofNat 3)))))⟩, ⟨(some p12), none, (.e (.mv (.r p92)))⟩]) (.seq (.seq (.reg [⟨(some p93), none, (.e (.mv (.r p12)))⟩, ⟨(some p94), none, (.e (.bin .lss (.r p93) (.c (.int .u8 (.ofNat 128)))))⟩, ⟨(some p95), none, (.e (.mv (.r p94)))⟩, ⟨(some p96), (some (p95, false)), (.e (.mv (.r p12)))⟩, ⟨(some p97), (some (p95, false)), (.e (.bin .lss (.c (.int .u8 (.ofNat 191))) (.r p96)))⟩, ⟨(some p98), none, (.e (.pick (.r p95) (.c (.bool true)) (.r p97)))⟩]) (.cond (.r p98) (.seq (.reg [⟨(some p2), none, (.e (.mv (.c (.int .i32 (.ofNat 65533)))))⟩, ⟨(some p3), none, (.e (.mv (.c (.int .i64 (.ofNat 1)))))⟩]) .ret) .skip)) (.seq (.reg [⟨(some p99), none, (.e (.mv (.r p5)))⟩, ⟨(some p100), none, (.e (.bin .and (.r p99) (.c (.int .u8 (.ofNat 7)))))⟩, ⟨(some p101), none, (.e (.conv .i32 (.r p100)))⟩, ⟨(some p102), none, (.e (.bin .shl (.r p101) (.c (.int .u64 (.ofNat 18)))))⟩, ⟨(some p103), none, (.e (.mv (.r p10)))⟩, ⟨(some p104), none, (.e (.bin .and (.r p103) (.c (.int .u8 (.ofNat 63)))))⟩, ⟨(some p105), none, (.e (.conv .i32 (.r p104)))⟩, ⟨(some p106), none, (.e (.bin .shl (.r p105) (.c (.int .u64 (.ofNat 12)))))⟩, ⟨(some p107), none, (.e (.bin .or (.r p102) (.r p106)))⟩, ⟨(some p108), none, (.e (.mv (.r p11)))⟩, ⟨(some p109), none, (.e (.bin .and (.r p108) (.c (.int .u8 (.ofNat 63)))))⟩, ⟨(some p110), none, (.e (.conv .i32 (.r p109)))⟩, ⟨(some p111), none, (.e (.bin .shl (.r p110) (.c (.int .u64 (.ofNat 6)))))⟩, ⟨(some p112), none, (.e (.bin .or (.r p107) (.r p111)))⟩, ⟨(some p113), none, (.e (.mv (.r p12)))⟩, ⟨(some p114), none, (.e (.bin .and (.r p113) (.c (.int .u8 (.ofNat 63)))))⟩, ⟨(some p115), none, (.e (.conv .i32 (.r p114)))⟩, ⟨(some p116), none, (.e (.bin .or (.r p112) (.r p115)))⟩, ⟨(some p2), none, (.e (.mv (.r p116)))⟩, ⟨(some p3), none, (.e (.mv (.c (.int .i64 (.ofNat 4)))))⟩]) .ret))))))))))))))))))
theorem I84_0 (E : Env) : Is E C84_0 (retK3 R84) (fun σ h => J84_0 E (σ p0) h) :=
  fun σ h => by kernel_rfl
def D84 : DF := ⟨1, 117, C84_0, R84⟩
noncomputable def S84 (E : Env) : Fun := fun args h => aS args fun r0 args => a0 args (J84_0 E r0 h)
theorem S84_eq (E : Env) (args : List DV) (h : H) : runFn E D84 args h = S84 E args h :=
  Is.fn1 (d := D84) (I84_0 E) rfl (fun r0 h => J84_0 E r0 h) (fun r0 h => by kernel_rfl) args h
/- strings.IndexRune -/
def R85 : List RV := [(.r p4)]
noncomputable def J85_1 (E : Env) (h : H) : Ans :=
  some ((.int .i64 (.negSucc 0)), h)
def C85_1 : DC := (.seq (.reg [⟨(some p4), none, (.e (.mv (.c (.int .i64 (.negSucc 0)))))⟩]) .ret)
noncomputable def B85_2 (E : Env) (i2 : H → Ans) (h : H) : Ans :=
  none
noncomputable def L85_2 (E : Env) (n : Nat) : H → Ans := Nat.rec (motive := fun _ => H → Ans) (fun _ => none) (fun _ i => B85_2 E i) n
def C85_2 : DC := (.loop (.seq (.reg [⟨(some p176), none, (.e .bad)⟩, ⟨(some p177), none, (.e (.ext 0 (.r p176)))⟩]) (.seq (.cond (.r p177) .skip (.exit 9)) (.block 10 (.seq (.reg [⟨(some p178), none, (.e (.ext 1 (.r p176)))⟩, ⟨(some p179), none, (.e (.ext 2 (.r p176)))⟩, ⟨(some p5), none, (.e (.mv (.r p178)))⟩, ⟨(some p6), none, (.e (.mv (.r p179)))⟩]) (.seq (.reg [⟨(some p180), none, (.e (.mv (.r p6)))⟩, ⟨(some p181), none, (.e (.bin .eql (.r p180) (.c (.int .i32 (.ofNat 65533)))))⟩]) (.cond (.r p181) (.seq (.reg [⟨(some p182), none, (.e (.mv (.r p5)))⟩, ⟨(some p4), none, (.e (.mv (.r p182)))⟩]) .ret) .skip)))))))
noncomputable def J85_3 (E : Env) (h : H) : Ans :=
  some ((.int .i64 (.negSucc 0)), h)
def C85_3 : DC := (.seq (.seq (.reg [⟨(some p4), none, (.e (.mv (.c (.int .i64 (.negSucc 0)))))⟩]) .ret) (.seq .skip (.seq (.cond (.c (.bool true)) (.seq (.reg [⟨(some p99), none, (.e (.mv (.r p0)))⟩, ⟨(some p100), none, (.e (.mv (.r p9)))⟩, ⟨(some p101), none, (.e (.mv (.r p8)))⟩, ⟨(some p102), none, (.e (.bin .sub (.r p100) (.r p101)))⟩, ⟨(some p103), none, (.e (.slS (.r p99) (some (.r p102)) none))⟩, ⟨(some p104), none, (.e (.mv (.r p1)))⟩, ⟨(some p105), none, (.e .bad)⟩, ⟨(some p106), none, (.c (.f 87 [(.r p103), (.r p105)]))⟩, ⟨(some p13), none, (.e (.mv (.r p106)))⟩]) (.seq (.reg [⟨(some p107), none, (.e (.mv (.r p13)))⟩, ⟨(some p108), none, (.e (.bin .geq (.r p107) (.c (.int .i64 (.ofNat 0)))))⟩]) (.cond (.r p108) (.seq (.reg [⟨(some p109), none, (.e (.mv (.r p9)))⟩, ⟨(some p110), none, (.e (.mv (.r p13)))⟩, ⟨(some p111), none, (.e (.bin .add (.r p109) (.r p110)))⟩, ⟨(some p112), none, (.e (.mv (.r p8)))⟩, ⟨(some p113), none, (.e (.bin .sub (.r p111) (.r p112)))⟩, ⟨(some p4), none, (.e (.mv (.r p113)))⟩]) .ret) .skip))) (.scope (.seq (.reg [⟨(some p114), none, (.e (.mv (.r p7)))⟩, ⟨(some p115), none, (.e (.mv (.r p8)))⟩, ⟨(some p116), none, (.e (.ixS (.r p114) (.r p115)))⟩, ⟨(some p14), none, (.e (.mv (.r p116)))⟩]) (.seq (.reg [⟨(some p117), none, (.e (.mv (.r p7)))⟩, ⟨(some p118), none, (.e (.mv (.r p8)))⟩, ⟨(some p119), none, (.e (.bin .sub (.r p118) (.c (.int .i64 (.ofNat 1)))))⟩, ⟨(some p120), none, (.e (.ixS (.r p117) (.r p119)))⟩, ⟨(some p15), none, (.e (.mv (.r p120)))⟩]) (.seq .skip (.block 5 (.loop (.seq (.seq (.reg [⟨(some p121), none, (.e (.mv (.r p9)))⟩, ⟨(some p122), none, (.e (.mv (.r p0)))⟩, ⟨(some p123), none, (.e (.lenS (.r p122)))⟩, ⟨(some p124), none, (.e (.bin .lss (.r p121) (.r p123)))⟩]) (.cond (.r p124) .skip (.exit 5))) (.seq (.block 6 (.seq (.reg [⟨(some p127), none, (.e (.mv (.r p0)))⟩, ⟨(some p128), none, (.e (.mv (.r p9)))⟩, ⟨(some p129), none, (.e (.ixS (.r p127) (.r p128)))⟩, ⟨(some p130), none, (.e (.mv (.r p14)))⟩, ⟨(some p131), none, (.e (.bin .eql (.r p129) (.r p130)))⟩, ⟨(some p132), none, (.e (.mv (.r p131)))⟩, ⟨(some p133), (some (p132, true)), (.e (.mv (.r p0)))⟩, ⟨(some p134), (some (p132, true)), (.e (.mv (.r p9)))⟩, ⟨(some p135), (some (p132, true)), (.e (.bin .sub (.r p134) (.c (.int .i64 (.ofNat 1)))))⟩, ⟨(some p136), (some (p132, true)), (.e (.ixS (.r p133) (.r p135)))⟩, ⟨(some p137), (some (p132, true)), (.e (.mv (.r p15)))⟩, ⟨(some p138), (some (p132, true)), (.e (.bin .eql (.r p136) (.r p137)))⟩, ⟨(some p139), none, (.e (.pick (.r p132) (.r p138) (.c (.bool false))))⟩]) (.cond (.r p139) (.seq (.seq (.reg [⟨(some p16), none, (.e (.mv (.c (.int .i64 (.ofNat 2)))))⟩]) (.block 7 (.loop (.seq (.seq (.reg [⟨(some p140), none, (.e (.mv (.r p16)))⟩, ⟨(some p141), none, (.e (.mv (.r p7)))⟩, ⟨(some p142), none, (.e (.lenS (.r p141)))⟩, ⟨(some p143), none, (.e (.bin .lss (.r p140) (.r p142)))⟩]) (.cond (.r p143) .skip (.exit 7))) (.seq (.block 8 (.seq (.drg [⟨0, ⟨(some p146), none, (.e (.mv (.r p0)))⟩, [], false⟩, ⟨1, ⟨(some p147), none, (.e (.mv (.r p9)))⟩, [], false⟩, ⟨2, ⟨(some p148), none, (.e (.mv (.r p16)))⟩, [], false⟩, ⟨3, ⟨(some p149), none, (.e (.bin .sub (.r p147) (.r p148)))⟩, [], false⟩, ⟨4, ⟨(some p150), none, (.e (.ixS (.r p146) (.r p149)))⟩, [], false⟩, ⟨5, ⟨(some p151), none, (.e (.mv (.r p7)))⟩, [], false⟩, ⟨6, ⟨(some p152), none, (.e (.mv (.r p8)))⟩, [], false⟩, ⟨7, ⟨(some p153), none, (.e (.mv (.r p16)))⟩, [], false⟩, ⟨8, ⟨(some p154), none, (.e (.bin .sub (.r p152) (.r p153)))⟩, [], false⟩, ⟨9, ⟨(some p155), none, (.e (.ixS (.r p151) (.r p154)))⟩, [], false⟩, ⟨10, ⟨(some p156), none, (.e (.bin .neq (.r p150) (.r p155)))⟩, [], false⟩]) (.cond (.r p156) (.exit 6) .skip))) (.reg [⟨(some p144), none, (.e (.mv (.r p16)))⟩, ⟨(some p145), none, (.e (.bin .add (.r p144) (.c (.int .i64 (.ofNat 1)))))⟩, ⟨(some p16), none, (.e (.mv (.r p145)))⟩])))))) (.seq (.reg [⟨(some p157), none, (.e (.mv (.r p9)))⟩, ⟨(some p158), none, (.e (.mv (.r p8)))⟩, ⟨(some p159), none, (.e (.bin .sub (.r p157) (.r p158)))⟩, ⟨(some p4), none, (.e (.mv (.r p159)))⟩]) .ret)) .skip))) (.reg [⟨(some p125), none, (.e (.mv (.r p9)))⟩, ⟨(some p126), none, (.e (.bin .add (.r p125) (.c (.int .i64 (.ofNat 1)))))⟩, ⟨(some p9), none, (.e (.mv (.r p126)))⟩])))))))))) (.seq (.reg [⟨(some p4), none, (.e (.mv (.c (.int .i64 (.negSucc 0)))))⟩]) .ret))))
noncomputable def B85_5 (E : Env) (i4 : DV → DV → H → Ans) (r0 : DV) (i5 : DV → DV → H → Ans) (r9 r10 : DV) (h : H) : Ans :=
  vK (v_add r10 (.int .i64 (.ofNat 1))) fun x1 =>
  vK (v_add r9 (.int .i64 (.ofNat 1))) fun x2 =>
  gdK (.bool true) true (fun kk => kk x1 h) h fun x3 h4 =>
  gdK (.bool true) true (fun kk => kk x2 h4) h4 fun x5 h6 =>
  gdK (.bool true) true (fun kk => wK (callK E 88 [x5] h6) kk) h6 fun x7 h8 =>
  gdK (.bool true) true (fun kk => vK (v_gtr x3 x7) fun v => kk v h8) h8 fun x9 h10 =>
  vK (v_pick (.bool true) x9 (.bool false)) fun x11 =>
  gdK x11 true (fun kk => kk x2 h10) h10 fun x12 h13 =>
  gdK x11 true (fun kk => kk r0 h13) h13 fun x14 h15 =>
  gdK x11 true (fun kk => vK (v_lenS x14) fun v => kk v h15) h15 fun x16 h17 =>
  gdK x11 true (fun kk => vK (v_lss x12 x16) fun v => kk v h17) h17 fun x18 h19 =>
  vK (v_pick x11 x18 (.bool false)) fun x20 =>
  gdK x20 false (fun kk => kk (.bool false) h19) h19 fun x21 h22 =>
  gdK x21 true (fun kk => kk x1 h22) h22 fun x23 h24 =>
  gdK x21 true (fun kk => kk x2 h24) h24 fun x25 h26 =>
  gdK x21 true (fun kk => vK (v_shr x25 (.int .u64 (.ofNat 4))) fun v => kk v h26) h26 fun x27 h28 =>
  gdK x21 true (fun kk => vK (v_add (.int .i64 (.ofNat 4)) x27) fun v => kk v h28) h28 fun x29 h30 =>
  gdK x21 true (fun kk => vK (v_geq x23 x29) fun v => kk v h30) h30 fun x31 h32 =>
  gdK x20 false (fun kk => vK (v_pick x21 x31 (.bool false)) fun v => kk v h32) h32 fun x33 h34 =>
  gdK x20 false (fun kk => kk x33 h34) h34 fun x35 h36 =>
  gdK x35 true (fun kk => kk x2 h36) h36 fun x37 h38 =>
  gdK x35 true (fun kk => kk r0 h38) h38 fun x39 h40 =>
  gdK x35 true (fun kk => vK (v_lenS x39) fun v => kk v h40) h40 fun x41 h42 =>
  gdK x35 true (fun kk => vK (v_lss x37 x41) fun v => kk v h42) h42 fun x43 h44 =>
  gdK x20 false (fun kk => vK (v_pick x35 x43 (.bool false)) fun v => kk v h44) h44 fun x45 h46 =>
  vK (v_pick x20 (.bool true) x45) fun x47 =>
  bK x47
  (none)
  (i4 x2 x1 h46)
noncomputable def L85_5 (E : Env) (i4 : DV → DV → H → Ans) (r0 : DV) (n : Nat) : DV → DV → H → Ans := Nat.rec (motive := fun _ => DV → DV → H → Ans) (fun _ _ _ => none) (fun _ i => B85_5 E i4 r0 i) n
noncomputable def J85_7 (E : Env) (r8 r9 : DV) (h : H) : Ans :=
  vK (v_sub r9 r8) fun x1 =>
  some (x1, h)
def C85_7 : DC := (.seq (.seq (.reg [⟨(some p65), none, (.e (.mv (.r p9)))⟩, ⟨(some p66), none, (.e (.mv (.r p8)))⟩, ⟨(some p67), none, (.e (.bin .sub (.r p65) (.r p66)))⟩, ⟨(some p4), none, (.e (.mv (.r p67)))⟩]) .ret) (.seq .skip (.seq (.reg [⟨(some p68), none, (.e (.mv (.r p10)))⟩, ⟨(some p69), none, (.e (.bin .add (.r p68) (.c (.int .i64 (.ofNat 1)))))⟩, ⟨(some p10), none, (.e (.mv (.r p69)))⟩]) (.seq (.reg [⟨(some p70), none, (.e (.mv (.r p9)))⟩, ⟨(some p71), none, (.e (.bin .add (.r p70) (.c (.int .i64 (.ofNat 1)))))⟩, ⟨(some p9), none, (.e (.mv (.r p71)))⟩]) (.seq (.reg [⟨(some p72), none, (.e (.mv (.c (.bool true))))⟩, ⟨(some p73), (some (p72, true)), (.e (.mv (.r p10)))⟩, ⟨(some p74), (some (p72, true)), (.e (.mv (.r p9)))⟩, ⟨(some p75), (some (p72, true)), (.c (.f 88 [(.r p74)]))⟩, ⟨(some p76), (some (p72, true)), (.e (.bin .gtr (.r p73) (.r p75)))⟩, ⟨(some p77), none, (.e (.pick (.r p72) (.r p76) (.c (.bool false))))⟩, ⟨(some p78), none, (.e (.mv (.r p77)))⟩, ⟨(some p79), (some (p78, true)), (.e (.mv (.r p9)))⟩, ⟨(some p80), (some (p78, true)), (.e (.mv (.r p0)))⟩, ⟨(some p81), (some (p78, true)), (.e (.lenS (.r p80)))⟩, ⟨(some p82), (some (p78, true)), (.e (.bin .lss (.r p79) (.r p81)))⟩, ⟨(some p83), none, (.e (.pick (.r p78) (.r p82) (.c (.bool false))))⟩, ⟨(some p84), none, (.e (.mv (.r p83)))⟩, ⟨(some p85), (some (p84, false)), (.e (.mv (.c (.bool false))))⟩, ⟨(some p86), (some (p85, true)), (.e (.mv (.r p10)))⟩, ⟨(some p87), (some (p85, true)), (.e (.mv (.r p9)))⟩, ⟨(some p88), (some (p85, true)), (.e (.bin .shr (.r p87) (.c (.int .u64 (.ofNat 4)))))⟩, ⟨(some p89), (some (p85, true)), (.e (.bin .add (.c (.int .i64 (.ofNat 4))) (.r p88)))⟩, ⟨(some p90), (some (p85, true)), (.e (.bin .geq (.r p86) (.r p89)))⟩, ⟨(some p91), (some (p84, false)), (.e (.pick (.r p85) (.r p90) (.c (.bool false))))⟩, ⟨(some p92), (some (p84, false)), (.e (.mv (.r p91)))⟩, ⟨(some p93), (some (p92, true)), (.e (.mv (.r p9)))⟩, ⟨(some p94), (some (p92, true)), (.e (.mv (.r p0)))⟩, ⟨(some p95), (some (p92, true)), (.e (.lenS (.r p94)))⟩, ⟨(some p96), (some (p92, true)), (.e (.bin .lss (.r p93) (.r p95)))⟩, ⟨(some p97), (some (p84, false)), (.e (.pick (.r p92) (.r p96) (.c (.bool false))))⟩, ⟨(some p98), none, (.e (.pick (.r p84) (.c (.bool true)) (.r p97)))⟩]) (.cond (.r p98) (.exit 4294967297) .skip))))))
noncomputable def B85_8 (E : Env) (i4 : DV → DV → H → Ans) (r0 r7 r8 r9 r10 : DV) (i8 : DV → H → Ans) (r12 : DV) (h : H) : Ans :=
  vK (v_lenS r7) fun x1 =>
  vK (v_lss r12 x1) fun x2 =>
  bK x2
  (vK (v_sub r9 r12) fun x3 =>
  vK (v_ixS r0 x3) fun x4 =>
  vK (v_sub r8 r12) fun x5 =>
  vK (v_ixS r7 x5) fun x6 =>
  vK (v_neq x4 x6) fun x7 =>
  bK x7
  (L85_5 E i4 r0 FUEL r9 r10 h)
  (vK (v_add r12 (.int .i64 (.ofNat 1))) fun x8 =>
  i8 x8 h))
  (J85_7 E r8 r9 h)
noncomputable def L85_8 (E : Env) (i4 : DV → DV → H → Ans) (r0 r7 r8 r9 r10 : DV) (n : Nat) : DV → H → Ans := Nat.rec (motive := fun _ => DV → H → Ans) (fun _ _ => none) (fun _ i => B85_8 E i4 r0 r7 r8 r9 r10 i) n
def C85_8 : DC := (.loop (.seq (.seq (.reg [⟨(some p48), none, (.e (.mv (.r p12)))⟩, ⟨(some p49), none, (.e (.mv (.r p7)))⟩, ⟨(some p50), none, (.e (.lenS (.r p49)))⟩, ⟨(some p51), none, (.e (.bin .lss (.r p48) (.r p50)))⟩]) (.cond (.r p51) .skip (.exit 3))) (.seq (.block 4 (.seq (.drg [⟨0, ⟨(some p54), none, (.e (.mv (.r p0)))⟩, [], false⟩, ⟨1, ⟨(some p55), none, (.e (.mv (.r p9)))⟩, [], false⟩, ⟨2, ⟨(some p56), none, (.e (.mv (.r p12)))⟩, [], false⟩, ⟨3, ⟨(some p57), none, (.e (.bin .sub (.r p55) (.r p56)))⟩, [], false⟩, ⟨4, ⟨(some p58), none, (.e (.ixS (.r p54) (.r p57)))⟩, [], false⟩, ⟨5, ⟨(some p59), none, (.e (.mv (.r p7)))⟩, [], false⟩, ⟨6, ⟨(some p60), none, (.e (.mv (.r p8)))⟩, [], false⟩, ⟨7, ⟨(some p61), none, (.e (.mv (.r p12)))⟩, [], false⟩, ⟨8, ⟨(some p62), none, (.e (.bin .sub (.r p60) (.r p61)))⟩, [], false⟩, ⟨9, ⟨(some p63), none, (.e (.ixS (.r p59) (.r p62)))⟩, [], false⟩, ⟨10, ⟨(some p64), none, (.e (.bin .neq (.r p58) (.r p63)))⟩, [], false⟩]) (.cond (.r p64) (.exit 4294967296) .skip))) (.reg [⟨(some p52), none, (.e (.mv (.r p12)))⟩, ⟨(some p53), none, (.e (.bin .add (.r p52) (.c (.int .i64 (.ofNat 1)))))⟩, ⟨(some p12), none, (.e (.mv (.r p53)))⟩]))))
noncomputable def J85_6 (E : Env) (i4 : DV → DV → H → Ans) (r0 r7 r8 r9 r10 : DV) (h : H) : Ans :=
  L85_8 E i4 r0 r7 r8 r9 r10 FUEL (.int .i64 (.ofNat 1)) h
def C85_6 : DC := (.seq (.seq (.reg [⟨(some p12), none, (.e (.mv (.c (.int .i64 (.ofNat 1)))))⟩]) (.block 3 C85_8)) C85_7)
noncomputable def J85_5 (E : Env) (i4 : DV → DV → H → Ans) (r0 r7 r8 r9 r10 : DV) (h : H) : Ans :=
  vK (v_ixS r0 r9) fun x1 =>
  vK (v_ixS r7 r8) fun x2 =>
  vK (v_neq x1 x2) fun x3 =>
  bK x3
  (vK (v_add r9 (.int .i64 (.ofNat 1))) fun x4 =>
  vK (v_slS r0 (some x4) none) fun x5 =>
  vK (v_ixS r7 r8) fun x6 =>
  wK (callK E 50 [x5, x6] h) fun x7 h8 =>
  vK (v_lss x7 (.int .i64 (.ofNat 0))) fun x9 =>
  bK x9
  (some ((.int .i64 (.negSucc 0)), h8))
  (vK (v_add x7 (.int .i64 (.ofNat 1))) fun x10 =>
  vK (v_add r9 x10) fun x11 =>
  J85_6 E i4 r0 r7 r8 x11 r10 h8))
  (J85_6 E i4 r0 r7 r8 r9 r10 h)
def C85_5 : DC := (.jump 4294967296 (.seq (.seq (.drg [⟨0, ⟨(some p27), none, (.e (.mv (.r p0)))⟩, [], false⟩, ⟨1, ⟨(some p28), none, (.e (.mv (.r p9)))⟩, [], false⟩, ⟨2, ⟨(some p29), none, (.e (.ixS (.r p27) (.r p28)))⟩, [], false⟩, ⟨3, ⟨(some p30), none, (.e (.mv (.r p7)))⟩, [], false⟩, ⟨4, ⟨(some p31), none, (.e (.mv (.r p8)))⟩, [], false⟩, ⟨5, ⟨(some p32), none, (.e (.ixS (.r p30) (.r p31)))⟩, [], false⟩, ⟨6, ⟨(some p33), none, (.e (.bin .neq (.r p29) (.r p32)))⟩, [], false⟩]) (.cond (.r p33) (.seq (.drg [⟨0, ⟨(some p34), none, (.e (.mv (.r p0)))⟩, [], false⟩, ⟨1, ⟨(some p35), none, (.e (.mv (.r p9)))⟩, [], false⟩, ⟨2, ⟨(some p36), none, (.e (.bin .add (.r p35) (.c (.int .i64 (.ofNat 1)))))⟩, [], false⟩, ⟨3, ⟨(some p37), none, (.e (.slS (.r p34) (some (.r p36)) none))⟩, [], false⟩, ⟨4, ⟨(some p38), none, (.e (.mv (.r p7)))⟩, [], false⟩, ⟨5, ⟨(some p39), none, (.e (.mv (.r p8)))⟩, [], false⟩, ⟨6, ⟨(some p40), none, (.e (.ixS (.r p38) (.r p39)))⟩, [], false⟩, ⟨7, ⟨(some p41), none, (.c (.f 50 [(.r p37), (.r p40)]))⟩, [], false⟩, ⟨8, ⟨(some p11), none, (.e (.mv (.r p41)))⟩, [], false⟩]) (.seq (.seq (.reg [⟨(some p42), none, (.e (.mv (.r p11)))⟩, ⟨(some p43), none, (.e (.bin .lss (.r p42) (.c (.int .i64 (.ofNat 0)))))⟩]) (.cond (.r p43) (.seq (.reg [⟨(some p4), none, (.e (.mv (.c (.int .i64 (.negSucc 0)))))⟩]) .ret) .skip)) (.reg [⟨(some p44), none, (.e (.mv (.r p9)))⟩, ⟨(some p45), none, (.e (.mv (.r p11)))⟩, ⟨(some p46), none, (.e (.bin .add (.r p45) (.c (.int .i64 (.ofNat 1)))))⟩, ⟨(some p47), none, (.e (.bin .add (.r p44) (.r p46)))⟩, ⟨(some p9), none, (.e (.mv (.r p47)))⟩]))) .skip)) C85_6) (.seq .skip (.seq (.reg [⟨(some p68), none, (.e (.mv (.r p10)))⟩, ⟨(some p69), none, (.e (.bin .add (.r p68) (.c (.int .i64 (.ofNat 1)))))⟩, ⟨(some p10), none, (.e (.mv (.r p69)))⟩]) (.seq (.reg [⟨(some p70), none, (.e (.mv (.r p9)))⟩, ⟨(some p71), none, (.e (.bin .add (.r p70) (.c (.int .i64 (.ofNat 1)))))⟩, ⟨(some p9), none, (.e (.mv (.r p71)))⟩]) (.seq (.reg [⟨(some p72), none, (.e (.mv (.c (.bool true))))⟩, ⟨(some p73), (some (p72, true)), (.e (.mv (.r p10)))⟩, ⟨(some p74), (some (p72, true)), (.e (.mv (.r p9)))⟩, ⟨(some p75), (some (p72, true)), (.c (.f 88 [(.r p74)]))⟩, ⟨(some p76), (some (p72, true)), (.e (.bin .gtr (.r p73) (.r p75)))⟩, ⟨(some p77), none, (.e (.pick (.r p72) (.r p76) (.c (.bool false))))⟩, ⟨(some p78), none, (.e (.mv (.r p77)))⟩, ⟨(some p79), (some (p78, true)), (.e (.mv (.r p9)))⟩, ⟨(some p80), (some (p78, true)), (.e (.mv (.r p0)))⟩, ⟨(some p81), (some (p78, true)), (.e (.lenS (.r p80)))⟩, ⟨(some p82), (some (p78, true)), (.e (.bin .lss (.r p79) (.r p81)))⟩, ⟨(some p83), none, (.e (.pick (.r p78) (.r p82) (.c (.bool false))))⟩, ⟨(some p84), none, (.e (.mv (.r p83)))⟩, ⟨(some p85), (some (p84, false)), (.e (.mv (.c (.bool false))))⟩, ⟨(some p86), (some (p85, true)), (.e (.mv (.r p10)))⟩, ⟨(some p87), (some (p85, true)), (.e (.mv (.r p9)))⟩, ⟨(some p88), (some (p85, true)), (.e (.bin .shr (.r p87) (.c (.int .u64 (.ofNat 4)))))⟩, ⟨(some p89), (some (p85, true)), (.e (.bin .add (.c (.int .i64 (.ofNat 4))) (.r p88)))⟩, ⟨(some p90), (some (p85, true)), (.e (.bin .geq (.r p86) (.r p89)))⟩, ⟨(some p91), (some (p84, false)), (.e (.pick (.r p85) (.r p90) (.c (.bool false))))⟩, ⟨(some p92), (some (p84, false)), (.e (.mv (.r p91)))⟩, ⟨(some p93), (some (p92, true)), (.e (.mv (.r p9)))⟩, ⟨(some p94), (some (p92, true)), (.e (.mv (.r p0)))⟩, ⟨(some p95), (some (p92, true)), (.e (.lenS (.r p94)))⟩, ⟨(some p96), (some (p92, true)), (.e (.bin .lss (.r p93) (.r p95)))⟩, ⟨(some p97), (some (p84, false)), (.e (.pick (.r p92) (.r p96) (.c (.bool false))))⟩, ⟨(some p98), none, (.e (.pick (.r p84) (.c (.bool true)) (.r p97)))⟩]) (.cond (.r p98) (.exit 4294967297) .skip))))))
noncomputable def B85_4 (E : Env) (r0 r7 r8 : DV) (i4 : DV → DV → H → Ans) (r9 r10 : DV) (h : H) : Ans :=
  vK (v_lenS r0) fun x1 =>
  vK (v_lss r9 x1) fun x2 =>
  bK x2
  (J85_5 E i4 r0 r7 r8 r9 r10 h)
  (J85_3 E h)
noncomputable def L85_4 (E : Env) (r0 r7 r8 : DV) (n : Nat) : DV → DV → H → Ans := Nat.rec (motive := fun _ => DV → DV → H → Ans) (fun _ _ _ => none) (fun _ i => B85_4 E r0 r7 r8 i) n
def C85_4 : DC := (.loop (.seq (.seq (.reg [⟨(some p23), none, (.e (.mv (.r p9)))⟩, ⟨(some p24), none, (.e (.mv (.r p0)))⟩, ⟨(some p25), none, (.e (.lenS (.r p24)))⟩, ⟨(some p26), none, (.e (.bin .lss (.r p23) (.r p25)))⟩]) (.cond (.r p26) .skip (.exit 1))) (.block 2 C85_5)))
noncomputable def J85_0 (E : Env) (r0 r1 : DV) (h : H) : Ans :=
  vK (v_leq (.int .i32 (.ofNat 0)) r1) fun x1 =>
  gdK x1 true (fun kk => kk r1 h) h fun x2 h3 =>
  gdK x1 true (fun kk => vK (v_lss x2 (.int .i32 (.ofNat 128))) fun v => kk v h3) h3 fun x4 h5 =>
  vK (v_pick x1 x4 (.bool false)) fun x6 =>
  bK x6
  (vK (v_conv .u8 r1) fun x7 =>
  wK (callK E 50 [r0, x7] h5) fun x8 h9 =>
  some (x8, h9))
  (vK (v_eql r1 (.int .i32 (.ofNat 65533))) fun x10 =>
  bK x10
  (none)
  (wK (callK E 90 [r1] h5) fun x5 h6 =>
  vK (v_not x5) fun x7 =>
  bK x7
  (some ((.int .i64 (.negSucc 0)), h6))
  (none)))
def C85_0 : DC := (.seq (.reg [⟨(some p4), none, (.e (.mv (.c (.int .i64 (.ofNat 0)))))⟩]) (.block 0 (.seq (.reg [⟨(some p161), none, (.e (.mv (.r p1)))⟩, ⟨(some p162), none, (.e (.bin .leq (.c (.int .i32 (.ofNat 0))) (.r p161)))⟩, ⟨(some p163), none, (.e (.mv (.r p162)))⟩, ⟨(some p164), (some (p163, true)), (.e (.mv (.r p1)))⟩, ⟨(some p165), (some (p163, true)), (.e (.bin .lss (.r p164) (.c (.int .i32 (.ofNat 128)))))⟩, ⟨(some p166), none, (.e (.pick (.r p163) (.r p165) (.c (.bool false))))⟩, ⟨(some p160), none, (.e (.mv (.r p166)))⟩]) (.cond (.r p160) (.seq (.reg [⟨(some p167), none, (.e (.mv (.r p0)))⟩, ⟨(some p168), none, (.e (.mv (.r p1)))⟩, ⟨(some p169), none, (.e (.conv .u8 (.r p168)))⟩, ⟨(some p170), none, (.c (.f 50 [(.r p167), (.r p169)]))⟩, ⟨(some p4), none, (.e (.mv (.r p170)))⟩]) .ret) (.seq (.reg [⟨(some p172), none, (.e (.mv (.r p1)))⟩, ⟨(some p173), none, (.e (.bin .eql (.r p172) (.c (.int .i32 (.ofNat 65533)))))⟩, ⟨(some p171), none, (.e (.mv (.r p173)))⟩]) (.cond (.r p171) (.seq (.seq (.reg [⟨(some p174), none, (.e (.mv (.r p0)))⟩, ⟨(some p175), none, (.e .bad)⟩]) (.block 9 C85_2)) C85_1) (.seq (.reg [⟨(some p184), none, (.e (.mv (.r p1)))⟩, ⟨(some p185), none, (.c (.f 90 [(.r p184)]))⟩, ⟨(some p186), none, (.e (.not (.r p185)))⟩, ⟨(some p183), none, (.e (.mv (.r p186)))⟩]) (.cond (.r p183) (.seq (.reg [⟨(some p4), none, (.e (.mv (.c (.int .i64 (.negSucc 0)))))⟩]) .ret) (.scope (.seq (.reg [⟨(some p17), none, (.e (.mv (.r p1)))⟩, ⟨(some p18), none, (.e .bad)⟩, ⟨(some p7), none, (.e (.mv (.r p18)))⟩]) (.seq (.reg [⟨(some p19), none, (.e (.mv (.r p7)))⟩, ⟨(some p20), none, (.e (.lenS (.r p19)))⟩, ⟨(some p21), none, (.e (.bin .sub (.r p20) (.c (.int .i64 (.ofNat 1)))))⟩, ⟨(some p8), none, (.e (.mv (.r p21)))⟩]) (.seq (.reg [⟨(some p22), none, (.e (.mv (.r p8)))⟩, ⟨(some p9), none, (.e (.mv (.r p22)))⟩]) (.seq (.reg [⟨(some p10), none, (.e (.mv (.c (.int .i64 (.ofNat 0)))))⟩]) (.seq (.block 1 C85_4) C85_3))))))))))))))
theorem I85_1 (E : Env) : Is E C85_1 (blockK3 0 (retK3 R85)) (fun σ h => J85_1 E h) :=
  fun σ h => by kernel_rfl
noncomputable abbrev K85_9 (E : Env) : KT2 (DV × H) := (thenK3 (fun σ h => J85_1 E h) (blockK3 0 (retK3 R85)))
theorem I85_2 (E : Env) : Is E C85_2 (blockK3 9 (K85_9 E)) (fun σ h => L85_2 E FUEL h) :=
  Is.loop (fun n2 σ h => L85_2 E n2 h) (by kernel_rfl) fun n2 => Is.as (Is.leaf _) fun σ h => by kernel_rfl
theorem I85_3 (E : Env) : Is E C85_3 (scopeK3 (blockK3 0 (retK3 R85))) (fun σ h => J85_3 E h) :=
  fun σ h => by kernel_rfl
noncomputable abbrev K85_10 (E : Env) : KT2 (DV × H) := (thenK3 (fun σ h => J85_3 E h) (scopeK3 (blockK3 0 (retK3 R85))))
noncomputable abbrev K85_11 (E : Env) (n4 : Nat) : KT2 (DV × H) := (thenK3 (fun σ h => (L85_4 E (σ p0) (σ p7) (σ p8) n4) (σ p9) (σ p10) h) (blockK3 1 (K85_10 E)))
noncomputable abbrev K85_12 (E : Env) (n4 : Nat) : KT2 (DV × H) := (jumpK3 4294967296 (fun σ h => L85_5 E (L85_4 E (σ p0) (σ p7) (σ p8) n4) (σ p0) FUEL (σ p9) (σ p10) h) (blockK3 2 (K85_11 E n4)))
theorem I85_7 (E : Env) (n4 : Nat) : Is E C85_7 (K85_12 E n4) (fun σ h => J85_7 E (σ p8) (σ p9) h) :=
  fun σ h => by kernel_rfl
noncomputable abbrev K85_13 (E : Env) (n4 : Nat) : KT2 (DV × H) := (thenK3 (fun σ h => J85_7 E (σ p8) (σ p9) h) (K85_12 E n4))
theorem I85_8 (E : Env) (n4 : Nat) : Is E C85_8 (blockK3 3 (K85_13 E n4)) (fun σ h => L85_8 E (L85_4 E (σ p0) (σ p7) (σ p8) n4) (σ p0) (σ p7) (σ p8) (σ p9) (σ p10) FUEL (σ p12) h) :=
  Is.loop (fun n8 σ h => L85_8 E (L85_4 E (σ p0) (σ p7) (σ p8) n4) (σ p0) (σ p7) (σ p8) (σ p9) (σ p10) n8 (σ p12) h) (by kernel_rfl) fun n8 => Is.as (Is.leaf _) fun σ h => by kernel_rfl
theorem I85_6 (E : Env) (n4 : Nat) : Is E C85_6 (K85_12 E n4) (fun σ h => J85_6 E (L85_4 E (σ p0) (σ p7) (σ p8) n4) (σ p0) (σ p7) (σ p8) (σ p9) (σ p10) h) :=
  Is.as (Is.seq (I85_7 E n4) (Is.seq (Is.block (I85_8 E n4)) (Is.leaf _))) fun σ h => by kernel_rfl
theorem I85_5 (E : Env) (n4 : Nat) : Is E C85_5 (blockK3 2 (K85_11 E n4)) (fun σ h => J85_5 E (L85_4 E (σ p0) (σ p7) (σ p8) n4) (σ p0) (σ p7) (σ p8) (σ p9) (σ p10) h) :=
  Is.as (Is.jump (fun n5 σ h => L85_5 E (L85_4 E (σ p0) (σ p7) (σ p8) n4) (σ p0) n5 (σ p9) (σ p10) h) (by kernel_rfl) (fun n5 => Is.as (Is.leaf _) fun σ h => by kernel_rfl) (Is.seq (I85_6 E n4) (Is.leaf _))) fun σ h => by kernel_rfl
theorem I85_4 (E : Env) : Is E C85_4 (blockK3 1 (K85_10 E)) (fun σ h => L85_4 E (σ p0) (σ p7) (σ p8) FUEL (σ p9) (σ p10) h) :=
  Is.loop (fun n4 σ h => L85_4 E (σ p0) (σ p7) (σ p8) n4 (σ p9) (σ p10) h) (by kernel_rfl) fun n4 => Is.as (Is.seq (Is.block (I85_5 E n4)) (Is.leaf _)) fun σ h => by kernel_rfl
theorem I85_0 (E : Env) : Is E C85_0 (retK3 R85) (fun σ h => J85_0 E (σ p0) (σ p1) h) :=
  Is.as (Is.seq (Is.block (Is.seq (Is.cond (Is.leaf _) (Is.seq (Is.cond (Is.seq (I85_1 E) (Is.seq (Is.block (I85_2 E)) (Is.leaf _))) (Is.seq (Is.cond (Is.leaf _) (Is.scope (Is.seq (Is.seq (Is.seq (Is.seq (Is.seq (I85_3 E) (Is.block (I85_4 E))) (Is.leaf _)) (Is.leaf _)) (Is.leaf _)) (Is.leaf _)))) (Is.leaf _))) (Is.leaf _))) (Is.leaf _))) (Is.leaf _)) fun σ h => by kernel_rfl
def D85 : DF := ⟨2, 187, C85_0, R85⟩
noncomputable def S85 (E : Env) : Fun := fun args h => aS args fun r0 args => aS args fun r1 args => a0 args (J85_0 E r0 r1 h)
theorem S85_eq (E : Env) (args : List DV) (h : H) : runFn E D85 args h = S85 E args h :=
  Is.fn2 (d := D85) (I85_0 E) rfl (fun r0 r1 h => J85_0 E r0 r1 h) (fun r0 r1 h => by kernel_rfl) args h
/- unicode/utf8.RuneStart -/
def R86 : List RV := [(.r p2)]
noncomputable def J86_0 (E : Env) (r0 : DV) (h : H) : Ans :=
  vK (v_and r0 (.int .u8 (.ofNat 192))) fun x1 =>
  vK (v_neq x1 (.int .u8 (.ofNat 128))) fun x2 =>
  some (x2, h)
def C86_0 : DC := (.seq (.reg [⟨(some p2), none, (.e (.mv (.c (.bool false))))⟩]) (.seq (.reg [⟨(some p3), none, (.e (.mv (.r p0)))⟩, ⟨(some p4), none, (.e (.bin .and (.r p3) (.c (.int .u8 (.ofNat 192)))))⟩, ⟨(some p5), none, (.e (.bin .neq (.r p4) (.c (.int .u8 (.ofNat 128)))))⟩, ⟨(some p2), none, (.e (.mv (.r p5)))⟩]) .ret))
theorem I86_0 (E : Env) : Is E C86_0 (retK3 R86) (fun σ h => J86_0 E (σ p0) h) :=
  fun σ h => by kernel_rfl
def D86 : DF := ⟨1, 6, C86_0, R86⟩
noncomputable def S86 (E : Env) : Fun := fun args h => aS args fun r0 args => a0 args (J86_0 E r0 h)
theorem S86_eq (E : Env) (args : List DV) (h : H) : runFn E D86 args h = S86 E args h :=
  Is.fn1 (d := D86) (I86_0 E) rfl (fun r0 h => J86_0 E r0 h) (fun r0 h => by kernel_rfl) args h
/- internal/bytealg.Cutover -/
def R88 : List RV := [(.r p2)]
noncomputable def J88_0 (E : Env) (r0 : DV) (h : H) : Ans :=
  vK (v_add r0 (.int .i64 (.ofNat 16))) fun x1 =>
  vK (v_quo x1 (.int .i64 (.ofNat 8))) fun x2 =>
  some (x2, h)
def C88_0 : DC := (.seq (.reg [⟨(some p2), none, (.e (.mv (.c (.int .i64 (.ofNat 0)))))⟩]) (.seq (.reg [⟨(some p3), none, (.e (.mv (.r p0)))⟩, ⟨(some p4), none, (.e (.bin .add (.r p3) (.c (.int .i64 (.ofNat 16)))))⟩, ⟨(some p5), none, (.e (.bin .quo (.r p4) (.c (.int .i64 (.ofNat 8)))))⟩, ⟨(some p2), none, (.e (.mv (.r p5)))⟩]) .ret))
theorem I88_0 (E : Env) : Is E C88_0 (retK3 R88) (fun σ h => J88_0 E (σ p0) h) :=
  fun σ h => by kernel_rfl
def D88 : DF := ⟨1, 6, C88_0, R88⟩
noncomputable def S88 (E : Env) : Fun := fun args h => aS args fun r0 args => a0 args (J88_0 E r0 h)
theorem S88_eq (E : Env) (args : List DV) (h : H) : runFn E D88 args h = S88 E args h :=
  Is.fn1 (d := D88) (I88_0 E) rfl (fun r0 h => J88_0 E r0 h) (fun r0 h => by kernel_rfl) args h
/- unicode/utf8.ValidRune -/
def R90 : List RV := [(.r p2)]
noncomputable def J90_0 (E : Env) (r0 : DV) (h : H) : Ans :=
  vK (v_leq (.int .i32 (.ofNat 0)) r0) fun x1 =>
  gdK x1 true (fun kk => kk r0 h) h fun x2 h3 =>
  gdK x1 true (fun kk => vK (v_lss x2 (.int .i32 (.ofNat 55296))) fun v => kk v h3) h3 fun x4 h5 =>
  vK (v_pick x1 x4 (.bool false)) fun x6 =>
  bK x6
  (some ((.bool true), h5))
  (vK (v_lss (.int .i32 (.ofNat 57343)) r0) fun x7 =>
  gdK x7 true (fun kk => kk r0 h5) h5 fun x8 h9 =>
  gdK x7 true (fun kk => vK (v_leq x8 (.int .i32 (.ofNat 1114111))) fun v => kk v h9) h9 fun x10 h11 =>
  vK (v_pick x7 x10 (.bool false)) fun x12 =>
  bK x12
  (some ((.bool true), h11))
  (some ((.bool false), h11)))
def C90_0 : DC := (.seq (.reg [⟨(some p2), none, (.e (.mv (.c (.bool false))))⟩]) (.seq (.block 0 (.seq (.reg [⟨(some p4), none, (.e (.mv (.r p0)))⟩, ⟨(some p5), none, (.e (.bin .leq (.c (.int .i32 (.ofNat 0))) (.r p4)))⟩, ⟨(some p6), none, (.e (.mv (.r p5)))⟩, ⟨(some p7), (some (p6, true)), (.e (.mv (.r p0)))⟩, ⟨(some p8), (some (p6, true)), (.e (.bin .lss (.r p7) (.c (.int .i32 (.ofNat 55296)))))⟩, ⟨(some p9), none, (.e (.pick (.r p6) (.r p8) (.c (.bool false))))⟩, ⟨(some p3), none, (.e (.mv (.r p9)))⟩]) (.cond (.r p3) (.seq (.reg [⟨(some p2), none, (.e (.mv (.c (.bool true))))⟩]) .ret) (.seq (.reg [⟨(some p11), none, (.e (.mv (.r p0)))⟩, ⟨(some p12), none, (.e (.bin .lss (.c (.int .i32 (.ofNat 57343))) (.r p11)))⟩, ⟨(some p13), none, (.e (.mv (.r p12)))⟩, ⟨(some p14), (some (p13, true)), (.e (.mv (.r p0)))⟩, ⟨(some p15), (some (p13, true)), (.e (.bin .leq (.r p14) (.c (.int .i32 (.ofNat 1114111)))))⟩, ⟨(some p16), none, (.e (.pick (.r p13) (.r p15) (.c (.bool false))))⟩, ⟨(some p10), none, (.e (.mv (.r p16)))⟩]) (.cond (.r p10) (.seq (.reg [⟨(some p2), none, (.e (.mv (.c (.bool true))))⟩]) .ret) .skip))))) (.seq (.reg [⟨(some p2), none, (.e (.mv (.c (.bool false))))⟩]) .ret)))
theorem I90_0 (E : Env) : Is E C90_0 (retK3 R90) (fun σ h => J90_0 E (σ p0) h) :=
  fun σ h => by kernel_rfl
def D90 : DF := ⟨1, 17, C90_0, R90⟩
noncomputable def S90 (E : Env) : Fun := fun args h => aS args fun r0 args => a0 args (J90_0 E r0 h)
theorem S90_eq (E : Env) (args : List DV) (h : H) : runFn E D90 args h = S90 E args h :=
  Is.fn1 (d := D90) (I90_0 E) rfl (fun r0 h => J90_0 E r0 h) (fun r0 h => by kernel_rfl) args h
noncomputable def fs0 : List FD := [⟨7, D7, S7⟩, ⟨8, D8, S8⟩, ⟨9, D9, S9⟩, ⟨10, D10, S10⟩, ⟨11, D11, S11⟩, ⟨12, D12, S12⟩, ⟨20, D20, S20⟩, ⟨25, D25, S25⟩, ⟨26, D26, S26⟩, ⟨27, D27, S27⟩, ⟨28, D28, S28⟩, ⟨29, D29, S29⟩, ⟨30, D30, S30⟩, ⟨31, D31, S31⟩, ⟨32, D32, S32⟩, ⟨33, D33, S33⟩, ⟨34, D34, S34⟩, ⟨35, D35, S35⟩, ⟨36, D36, S36⟩, ⟨37, D37, S37⟩, ⟨38, D38, S38⟩, ⟨39, D39, S39⟩, ⟨45, D45, S45⟩, ⟨46, D46, S46⟩, ⟨47, D47, S47⟩, ⟨48, D48, S48⟩, ⟨50, D50, S50⟩, ⟨55, D55, S55⟩, ⟨56, D56, S56⟩, ⟨57, D57, S57⟩, ⟨58, D58, S58⟩, ⟨59, D59, S59⟩, ⟨60, D60, S60⟩, ⟨61, D61, S61⟩, ⟨65, D65, S65⟩, ⟨71, D71, S71⟩, ⟨72, D72, S72⟩, ⟨73, D73, S73⟩, ⟨74, D74, S74⟩, ⟨84, D84, S84⟩, ⟨85, D85, S85⟩, ⟨86, D86, S86⟩, ⟨88, D88, S88⟩, ⟨90, D90, S90⟩]
theorem fs0_eq : AllEq fs0 := ⟨S7_eq, ⟨S8_eq, ⟨S9_eq, ⟨S10_eq, ⟨S11_eq, ⟨S12_eq, ⟨S20_eq, ⟨S25_eq, ⟨S26_eq, ⟨S27_eq, ⟨S28_eq, ⟨S29_eq, ⟨S30_eq, ⟨S31_eq, ⟨S32_eq, ⟨S33_eq, ⟨S34_eq, ⟨S35_eq, ⟨S36_eq, ⟨S37_eq, ⟨S38_eq, ⟨S39_eq, ⟨S45_eq, ⟨S46_eq, ⟨S47_eq, ⟨S48_eq, ⟨S50_eq, ⟨S55_eq, ⟨S56_eq, ⟨S57_eq, ⟨S58_eq, ⟨S59_eq, ⟨S60_eq, ⟨S61_eq, ⟨S65_eq, ⟨S71_eq, ⟨S72_eq, ⟨S73_eq, ⟨S74_eq, ⟨S84_eq, ⟨S85_eq, ⟨S86_eq, ⟨S88_eq, ⟨S90_eq, trivial⟩⟩⟩⟩⟩⟩⟩⟩⟩⟩⟩⟩⟩⟩⟩⟩⟩⟩⟩⟩⟩⟩⟩⟩⟩⟩⟩⟩⟩⟩⟩⟩⟩⟩⟩⟩⟩⟩⟩⟩⟩⟩⟩⟩
end Go.Proofs.YtgipaebiihefpaaDoor

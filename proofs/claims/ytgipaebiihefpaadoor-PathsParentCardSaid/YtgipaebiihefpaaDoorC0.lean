/- The functions of the program as D's and as plain Lean functions, and that both are the same. No condition. -/
import Derived.KernelRfl
import Derived.Test.YtgipaebiihefpaaDoorDc
set_option linter.unusedVariables false
namespace Go.Proofs.YtgipaebiihefpaaDoor
open Go.DI
def p0 : Pa := .h
def p1 : Pa := .l p0
def p2 : Pa := .r p0
def p3 : Pa := .l p1
def p4 : Pa := .r p1
def p5 : Pa := .l p2
def p6 : Pa := .r p2
def p7 : Pa := .l p3
def p8 : Pa := .r p3
def p9 : Pa := .l p4
def p10 : Pa := .r p4
def p11 : Pa := .l p5
def p12 : Pa := .r p5
def p13 : Pa := .l p6
def p14 : Pa := .r p6
def p15 : Pa := .l p7
def p16 : Pa := .r p7
def p17 : Pa := .l p8
def p18 : Pa := .r p8
def p19 : Pa := .l p9
def p20 : Pa := .r p9
def p21 : Pa := .l p10
def p22 : Pa := .r p10
def p23 : Pa := .l p11
def p24 : Pa := .r p11
def p25 : Pa := .l p12
def p26 : Pa := .r p12
def p27 : Pa := .l p13
def p28 : Pa := .r p13
def p29 : Pa := .l p14
def p30 : Pa := .r p14
def p31 : Pa := .l p15
def p32 : Pa := .r p15
def p33 : Pa := .l p16
def p34 : Pa := .r p16
def p35 : Pa := .l p17
def p36 : Pa := .r p17
def p37 : Pa := .l p18
def p38 : Pa := .r p18
def p39 : Pa := .l p19
def p40 : Pa := .r p19
def p41 : Pa := .l p20
def p42 : Pa := .r p20
def p43 : Pa := .l p21
def p44 : Pa := .r p21
def p45 : Pa := .l p22
def p46 : Pa := .r p22
def p47 : Pa := .l p23
def p48 : Pa := .r p23
def p49 : Pa := .l p24
def p50 : Pa := .r p24
def p51 : Pa := .l p25
def p52 : Pa := .r p25
def p53 : Pa := .l p26
def p54 : Pa := .r p26
def p55 : Pa := .l p27
def p56 : Pa := .r p27
def p57 : Pa := .l p28
def p58 : Pa := .r p28
def p59 : Pa := .l p29
def p60 : Pa := .r p29
def p61 : Pa := .l p30
def p62 : Pa := .r p30
def p63 : Pa := .l p31
def p64 : Pa := .r p31
def p65 : Pa := .l p32
def p66 : Pa := .r p32
def p67 : Pa := .l p33
def p68 : Pa := .r p33
def p69 : Pa := .l p34
def p70 : Pa := .r p34
def p71 : Pa := .l p35
def p72 : Pa := .r p35
def p73 : Pa := .l p36
def p74 : Pa := .r p36
def p75 : Pa := .l p37
def p76 : Pa := .r p37
def p77 : Pa := .l p38
def p78 : Pa := .r p38
def p79 : Pa := .l p39
def p80 : Pa := .r p39
def p81 : Pa := .l p40
def p82 : Pa := .r p40
def p83 : Pa := .l p41
def p84 : Pa := .r p41
def p85 : Pa := .l p42
def p86 : Pa := .r p42
def p87 : Pa := .l p43
def p88 : Pa := .r p43
def p89 : Pa := .l p44
def p90 : Pa := .r p44
def p91 : Pa := .l p45
def p92 : Pa := .r p45
def p93 : Pa := .l p46
def p94 : Pa := .r p46
def p95 : Pa := .l p47
def p96 : Pa := .r p47
def p97 : Pa := .l p48
def p98 : Pa := .r p48
def p99 : Pa := .l p49
def p100 : Pa := .r p49
def p101 : Pa := .l p50
def p102 : Pa := .r p50
def p103 : Pa := .l p51
def p104 : Pa := .r p51
def p105 : Pa := .l p52
def p106 : Pa := .r p52
def p107 : Pa := .l p53
def p108 : Pa := .r p53
def p109 : Pa := .l p54
def p110 : Pa := .r p54
def p111 : Pa := .l p55
def p112 : Pa := .r p55
def p113 : Pa := .l p56
def p114 : Pa := .r p56
def p115 : Pa := .l p57
def p116 : Pa := .r p57
def p117 : Pa := .l p58
def p118 : Pa := .r p58
def p119 : Pa := .l p59
def p120 : Pa := .r p59
def p121 : Pa := .l p60
def p122 : Pa := .r p60
def p123 : Pa := .l p61
def p124 : Pa := .r p61
def p125 : Pa := .l p62
def p126 : Pa := .r p62
def p127 : Pa := .l p63
def p128 : Pa := .r p63
def p129 : Pa := .l p64
def p130 : Pa := .r p64
def p131 : Pa := .l p65
def p132 : Pa := .r p65
def p133 : Pa := .l p66
def p134 : Pa := .r p66
def p135 : Pa := .l p67
def p136 : Pa := .r p67
def p137 : Pa := .l p68
def p138 : Pa := .r p68
def p139 : Pa := .l p69
def p140 : Pa := .r p69
def p141 : Pa := .l p70
def p142 : Pa := .r p70
/- hurdle/hurdlelaw38.PathsSplits -/
def R3 : List RV := [(.r p4)]
noncomputable def J3_0 (E : Env) (r0 r1 : DV) (h : H) : Ans :=
  vK (v_lenS r0) fun x1 =>
  vK (v_gtr x1 (.int .i64 (.ofNat 2000))) fun x2 =>
  gdK x2 false (fun kk => kk r1 h) h fun x3 h4 =>
  gdK x2 false (fun kk => vK (v_lenS x3) fun v => kk v h4) h4 fun x5 h6 =>
  gdK x2 false (fun kk => vK (v_gtr x5 (.int .i64 (.ofNat 2000))) fun v => kk v h6) h6 fun x7 h8 =>
  vK (v_pick x2 (.bool true) x7) fun x9 =>
  bK x9
  (wK (callK E 13 [] h8) fun x10 h11 =>
  some (x10, h11))
  (wK (callK E 14 [r0] h8) fun x12 h13 =>
  vK (v_ext 0 x12) fun x14 =>
  vK (v_ext 1 x12) fun x15 =>
  wK (callK E 15 [r0] h13) fun x16 h17 =>
  vK (v_ext 0 x16) fun x18 =>
  vK (v_ext 1 x16) fun x19 =>
  wK (callK E 16 [r0] h17) fun x20 h21 =>
  vK (v_ext 0 x20) fun x22 =>
  vK (v_ext 1 x20) fun x23 =>
  wK (callK E 17 [r0] h21) fun x24 h25 =>
  vK (v_ext 0 x24) fun x26 =>
  vK (v_ext 1 x24) fun x27 =>
  wK (callK E 18 [r0] h25) fun x28 h29 =>
  vK (v_ext 0 x28) fun x30 =>
  vK (v_ext 1 x28) fun x31 =>
  vK (v_ext 2 x28) fun x32 =>
  wK (callK E 19 [r0] h29) fun x33 h34 =>
  vK (v_ext 0 x33) fun x35 =>
  vK (v_ext 1 x33) fun x36 =>
  vK (v_ext 2 x33) fun x37 =>
  wK (callK E 20 [x14, x18] h34) fun x38 h39 =>
  gdK x38 true (fun kk => kk x15 h39) h39 fun x40 h41 =>
  gdK x38 true (fun kk => kk x19 h41) h41 fun x42 h43 =>
  gdK x38 true (fun kk => vK (v_eql x40 x42) fun v => kk v h43) h43 fun x44 h45 =>
  vK (v_pick x38 x44 (.bool false)) fun x46 =>
  gdK x46 true (fun kk => kk x22 h45) h45 fun x47 h48 =>
  gdK x46 true (fun kk => kk x26 h48) h48 fun x49 h50 =>
  gdK x46 true (fun kk => vK (v_eql x47 x49) fun v => kk v h50) h50 fun x51 h52 =>
  vK (v_pick x46 x51 (.bool false)) fun x53 =>
  gdK x53 true (fun kk => kk x23 h52) h52 fun x54 h55 =>
  gdK x53 true (fun kk => kk x27 h55) h55 fun x56 h57 =>
  gdK x53 true (fun kk => vK (v_eql x54 x56) fun v => kk v h57) h57 fun x58 h59 =>
  vK (v_pick x53 x58 (.bool false)) fun x60 =>
  gdK x60 true (fun kk => kk x30 h59) h59 fun x61 h62 =>
  gdK x60 true (fun kk => kk x35 h62) h62 fun x63 h64 =>
  gdK x60 true (fun kk => vK (v_eql x61 x63) fun v => kk v h64) h64 fun x65 h66 =>
  vK (v_pick x60 x65 (.bool false)) fun x67 =>
  gdK x67 true (fun kk => kk x31 h66) h66 fun x68 h69 =>
  gdK x67 true (fun kk => kk x36 h69) h69 fun x70 h71 =>
  gdK x67 true (fun kk => vK (v_eql x68 x70) fun v => kk v h71) h71 fun x72 h73 =>
  vK (v_pick x67 x72 (.bool false)) fun x74 =>
  gdK x74 true (fun kk => kk x32 h73) h73 fun x75 h76 =>
  gdK x74 true (fun kk => kk x37 h76) h76 fun x77 h78 =>
  gdK x74 true (fun kk => vK (v_eql x75 x77) fun v => kk v h78) h78 fun x79 h80 =>
  vK (v_pick x74 x79 (.bool false)) fun x81 =>
  gdK x81 true (fun kk => kk r0 h80) h80 fun x82 h83 =>
  gdK x81 true (fun kk => kk r1 h83) h83 fun x84 h85 =>
  gdK x81 true (fun kk => wK (callK E 21 [x82, x84] h85) kk) h85 fun x86 h87 =>
  gdK x81 true (fun kk => kk r0 h87) h87 fun x88 h89 =>
  gdK x81 true (fun kk => kk r1 h89) h89 fun x90 h91 =>
  gdK x81 true (fun kk => wK (callK E 22 [x88, x90] h91) kk) h91 fun x92 h93 =>
  gdK x81 true (fun kk => vK (v_eqv .bool false h93.get x86 x92) fun v => kk v h93) h93 fun x94 h95 =>
  vK (v_pick x81 x94 (.bool false)) fun x96 =>
  gdK x96 true (fun kk => wK (callK E 13 [] h95) kk) h95 fun x97 h98 =>
  vK (v_pick x96 x97 (.bool false)) fun x99 =>
  some (x99, h98))
def C3_0 : DC := (.seq (.reg [⟨(some p4), none, (.e (.mv (.c (.bool false))))⟩]) (.seq (.seq (.reg [⟨(some p19), none, (.e (.mv (.r p0)))⟩, ⟨(some p20), none, (.e (.lenS (.r p19)))⟩, ⟨(some p21), none, (.e (.bin .gtr (.r p20) (.c (.int .i64 (.ofNat 2000)))))⟩, ⟨(some p22), none, (.e (.mv (.r p21)))⟩, ⟨(some p23), (some (p22, false)), (.e (.mv (.r p1)))⟩, ⟨(some p24), (some (p22, false)), (.e (.lenS (.r p23)))⟩, ⟨(some p25), (some (p22, false)), (.e (.bin .gtr (.r p24) (.c (.int .i64 (.ofNat 2000)))))⟩, ⟨(some p26), none, (.e (.pick (.r p22) (.c (.bool true)) (.r p25)))⟩]) (.cond (.r p26) (.seq (.reg [⟨(some p27), none, (.c (.f 13 []))⟩, ⟨(some p4), none, (.e (.mv (.r p27)))⟩]) .ret) .skip)) (.seq (.reg [⟨(some p29), none, (.e (.mv (.r p0)))⟩, ⟨(some p30), none, (.c (.f 14 [(.r p29)]))⟩, ⟨(some p28), none, (.e (.mv (.r p30)))⟩, ⟨(some p31), none, (.e (.ext 0 (.r p28)))⟩, ⟨(some p32), none, (.e (.ext 1 (.r p28)))⟩, ⟨(some p5), none, (.e (.mv (.r p31)))⟩, ⟨(some p6), none, (.e (.mv (.r p32)))⟩]) (.seq (.reg [⟨(some p34), none, (.e (.mv (.r p0)))⟩, ⟨(some p35), none, (.c (.f 15 [(.r p34)]))⟩, ⟨(some p33), none, (.e (.mv (.r p35)))⟩, ⟨(some p36), none, (.e (.ext 0 (.r p33)))⟩, ⟨(some p37), none, (.e (.ext 1 (.r p33)))⟩, ⟨(some p7), none, (.e (.mv (.r p36)))⟩, ⟨(some p8), none, (.e (.mv (.r p37)))⟩]) (.seq (.reg [⟨(some p39), none, (.e (.mv (.r p0)))⟩, ⟨(some p40), none, (.c (.f 16 [(.r p39)]))⟩, ⟨(some p38), none, (.e (.mv (.r p40)))⟩, ⟨(some p41), none, (.e (.ext 0 (.r p38)))⟩, ⟨(some p42), none, (.e (.ext 1 (.r p38)))⟩, ⟨(some p9), none, (.e (.mv (.r p41)))⟩, ⟨(some p10), none, (.e (.mv (.r p42)))⟩]) (.seq (.reg [⟨(some p44), none, (.e (.mv (.r p0)))⟩, ⟨(some p45), none, (.c (.f 17 [(.r p44)]))⟩, ⟨(some p43), none, (.e (.mv (.r p45)))⟩, ⟨(some p46), none, (.e (.ext 0 (.r p43)))⟩, ⟨(some p47), none, (.e (.ext 1 (.r p43)))⟩, ⟨(some p11), none, (.e (.mv (.r p46)))⟩, ⟨(some p12), none, (.e (.mv (.r p47)))⟩]) (.seq (.reg [⟨(some p49), none, (.e (.mv (.r p0)))⟩, ⟨(some p50), none, (.c (.f 18 [(.r p49)]))⟩, ⟨(some p48), none, (.e (.mv (.r p50)))⟩, ⟨(some p51), none, (.e (.ext 0 (.r p48)))⟩, ⟨(some p52), none, (.e (.ext 1 (.r p48)))⟩, ⟨(some p53), none, (.e (.ext 2 (.r p48)))⟩, ⟨(some p13), none, (.e (.mv (.r p51)))⟩, ⟨(some p14), none, (.e (.mv (.r p52)))⟩, ⟨(some p15), none, (.e (.mv (.r p53)))⟩]) (.seq (.reg [⟨(some p55), none, (.e (.mv (.r p0)))⟩, ⟨(some p56), none, (.c (.f 19 [(.r p55)]))⟩, ⟨(some p54), none, (.e (.mv (.r p56)))⟩, ⟨(some p57), none, (.e (.ext 0 (.r p54)))⟩, ⟨(some p58), none, (.e (.ext 1 (.r p54)))⟩, ⟨(some p59), none, (.e (.ext 2 (.r p54)))⟩, ⟨(some p16), none, (.e (.mv (.r p57)))⟩, ⟨(some p17), none, (.e (.mv (.r p58)))⟩, ⟨(some p18), none, (.e (.mv (.r p59)))⟩]) (.seq (.reg [⟨(some p60), none, (.e (.mv (.r p5)))⟩, ⟨(some p61), none, (.e (.mv (.r p7)))⟩, ⟨(some p62), none, (.c (.f 20 [(.r p60), (.r p61)]))⟩, ⟨(some p63), none, (.e (.mv (.r p62)))⟩, ⟨(some p64), (some (p63, true)), (.e (.mv (.r p6)))⟩, ⟨(some p65), (some (p63, true)), (.e (.mv (.r p8)))⟩, ⟨(some p66), (some (p63, true)), (.e (.bin .eql (.r p64) (.r p65)))⟩, ⟨(some p67), none, (.e (.pick (.r p63) (.r p66) (.c (.bool false))))⟩, ⟨(some p68), none, (.e (.mv (.r p67)))⟩, ⟨(some p69), (some (p68, true)), (.e (.mv (.r p9)))⟩, ⟨(some p70), (some (p68, true)), (.e (.mv (.r p11)))⟩, ⟨(some p71), (some (p68, true)), (.e (.bin .eql (.r p69) (.r p70)))⟩, ⟨(some p72), none, (.e (.pick (.r p68) (.r p71) (.c (.bool false))))⟩, ⟨(some p73), none, (.e (.mv (.r p72)))⟩, ⟨(some p74), (some (p73, true)), (.e (.mv (.r p10)))⟩, ⟨(some p75), (some (p73, true)), (.e (.mv (.r p12)))⟩, ⟨(some p76), (some (p73, true)), (.e (.bin .eql (.r p74) (.r p75)))⟩, ⟨(some p77), none, (.e (.pick (.r p73) (.r p76) (.c (.bool false))))⟩, ⟨(some p78), none, (.e (.mv (.r p77)))⟩, ⟨(some p79), (some (p78, true)), (.e (.mv (.r p13)))⟩, ⟨(some p80), (some (p78, true)), (.e (.mv (.r p16)))⟩, ⟨(some p81), (some (p78, true)), (.e (.bin .eql (.r p79) (.r p80)))⟩, ⟨(some p82), none, (.e (.pick (.r p78) (.r p81) (.c (.bool false))))⟩, ⟨(some p83), none, (.e (.mv (.r p82)))⟩, ⟨(some p84), (some (p83, true)), (.e (.mv (.r p14)))⟩, ⟨(some p85), (some (p83, true)), (.e (.mv (.r p17)))⟩, ⟨(some p86), (some (p83, true)), (.e (.bin .eql (.r p84) (.r p85)))⟩, ⟨(some p87), none, (.e (.pick (.r p83) (.r p86) (.c (.bool false))))⟩, ⟨(some p88), none, (.e (.mv (.r p87)))⟩, ⟨(some p89), (some (p88, true)), (.e (.mv (.r p15)))⟩, ⟨(some p90), (some (p88, true)), (.e (.mv (.r p18)))⟩, ⟨(some p91), (some (p88, true)), (.e (.bin .eql (.r p89) (.r p90)))⟩, ⟨(some p92), none, (.e (.pick (.r p88) (.r p91) (.c (.bool false))))⟩, ⟨(some p93), none, (.e (.mv (.r p92)))⟩, ⟨(some p94), (some (p93, true)), (.e (.mv (.r p0)))⟩, ⟨(some p95), (some (p93, true)), (.e (.mv (.r p1)))⟩, ⟨(some p96), (some (p93, true)), (.c (.f 21 [(.r p94), (.r p95)]))⟩, ⟨(some p97), (some (p93, true)), (.e (.mv (.r p0)))⟩, ⟨(some p98), (some (p93, true)), (.e (.mv (.r p1)))⟩, ⟨(some p99), (some (p93, true)), (.c (.f 22 [(.r p97), (.r p98)]))⟩, ⟨(some p100), (some (p93, true)), (.e (.eqv .bool false (.r p96) (.r p99)))⟩, ⟨(some p101), none, (.e (.pick (.r p93) (.r p100) (.c (.bool false))))⟩, ⟨(some p102), none, (.e (.mv (.r p101)))⟩, ⟨(some p103), (some (p102, true)), (.c (.f 13 []))⟩, ⟨(some p104), none, (.e (.pick (.r p102) (.r p103) (.c (.bool false))))⟩, ⟨(some p4), none, (.e (.mv (.r p104)))⟩]) .ret)))))))))
theorem I3_0 (E : Env) : Is E C3_0 (retK3 R3) (fun σ h => J3_0 E (σ p0) (σ p1) h) :=
  fun σ h => by kernel_rfl
def D3 : DF := ⟨2, 105, C3_0, R3⟩
noncomputable def S3 (E : Env) : Fun := fun args h => aS args fun r0 args => aS args fun r1 args => a0 args (J3_0 E r0 r1 h)
theorem S3_eq (E : Env) (args : List DV) (h : H) : runFn E D3 args h = S3 E args h :=
  Is.fn2 (d := D3) (I3_0 E) rfl (fun r0 r1 h => J3_0 E r0 r1 h) (fun r0 r1 h => by kernel_rfl) args h
/- hurdle/hurdlelaw38.PathsJoins -/
def R4 : List RV := [(.r p2)]
noncomputable def J4_0 (E : Env) (r0 : DV) (h : H) : Ans :=
  vK (v_lenL r0) fun x1 =>
  vK (v_gtr x1 (.int .i64 (.ofNat 300))) fun x2 =>
  bK x2
  (wK (callK E 13 [] h) fun x3 h4 =>
  some (x3, h4))
  (wK (callK E 23 [r0] h) fun x5 h6 =>
  vK (v_ext 0 x5) fun x7 =>
  vK (v_ext 1 x5) fun x8 =>
  wK (callK E 24 [r0] h6) fun x9 h10 =>
  vK (v_ext 0 x9) fun x11 =>
  vK (v_ext 1 x9) fun x12 =>
  vK (v_eql x7 x11) fun x13 =>
  gdK x13 true (fun kk => kk x8 h10) h10 fun x14 h15 =>
  gdK x13 true (fun kk => kk x12 h15) h15 fun x16 h17 =>
  gdK x13 true (fun kk => vK (v_eql x14 x16) fun v => kk v h17) h17 fun x18 h19 =>
  vK (v_pick x13 x18 (.bool false)) fun x20 =>
  gdK x20 true (fun kk => wK (callK E 13 [] h19) kk) h19 fun x21 h22 =>
  vK (v_pick x20 x21 (.bool false)) fun x23 =>
  some (x23, h22))
def C4_0 : DC := (.seq (.reg [⟨(some p2), none, (.e (.mv (.c (.bool false))))⟩]) (.seq (.seq (.reg [⟨(some p7), none, (.e (.mv (.r p0)))⟩, ⟨(some p8), none, (.e (.lenL (.r p7)))⟩, ⟨(some p9), none, (.e (.bin .gtr (.r p8) (.c (.int .i64 (.ofNat 300)))))⟩]) (.cond (.r p9) (.seq (.reg [⟨(some p10), none, (.c (.f 13 []))⟩, ⟨(some p2), none, (.e (.mv (.r p10)))⟩]) .ret) .skip)) (.seq (.reg [⟨(some p12), none, (.e (.mv (.r p0)))⟩, ⟨(some p13), none, (.c (.f 23 [(.r p12)]))⟩, ⟨(some p11), none, (.e (.mv (.r p13)))⟩, ⟨(some p14), none, (.e (.ext 0 (.r p11)))⟩, ⟨(some p15), none, (.e (.ext 1 (.r p11)))⟩, ⟨(some p3), none, (.e (.mv (.r p14)))⟩, ⟨(some p4), none, (.e (.mv (.r p15)))⟩]) (.seq (.reg [⟨(some p17), none, (.e (.mv (.r p0)))⟩, ⟨(some p18), none, (.c (.f 24 [(.r p17)]))⟩, ⟨(some p16), none, (.e (.mv (.r p18)))⟩, ⟨(some p19), none, (.e (.ext 0 (.r p16)))⟩, ⟨(some p20), none, (.e (.ext 1 (.r p16)))⟩, ⟨(some p5), none, (.e (.mv (.r p19)))⟩, ⟨(some p6), none, (.e (.mv (.r p20)))⟩]) (.seq (.reg [⟨(some p21), none, (.e (.mv (.r p3)))⟩, ⟨(some p22), none, (.e (.mv (.r p5)))⟩, ⟨(some p23), none, (.e (.bin .eql (.r p21) (.r p22)))⟩, ⟨(some p24), none, (.e (.mv (.r p23)))⟩, ⟨(some p25), (some (p24, true)), (.e (.mv (.r p4)))⟩, ⟨(some p26), (some (p24, true)), (.e (.mv (.r p6)))⟩, ⟨(some p27), (some (p24, true)), (.e (.bin .eql (.r p25) (.r p26)))⟩, ⟨(some p28), none, (.e (.pick (.r p24) (.r p27) (.c (.bool false))))⟩, ⟨(some p29), none, (.e (.mv (.r p28)))⟩, ⟨(some p30), (some (p29, true)), (.c (.f 13 []))⟩, ⟨(some p31), none, (.e (.pick (.r p29) (.r p30) (.c (.bool false))))⟩, ⟨(some p2), none, (.e (.mv (.r p31)))⟩]) .ret)))))
theorem I4_0 (E : Env) : Is E C4_0 (retK3 R4) (fun σ h => J4_0 E (σ p0) h) :=
  fun σ h => by kernel_rfl
def D4 : DF := ⟨1, 32, C4_0, R4⟩
noncomputable def S4 (E : Env) : Fun := fun args h => aS args fun r0 args => a0 args (J4_0 E r0 h)
theorem S4_eq (E : Env) (args : List DV) (h : H) : runFn E D4 args h = S4 E args h :=
  Is.fn1 (d := D4) (I4_0 E) rfl (fun r0 h => J4_0 E r0 h) (fun r0 h => by kernel_rfl) args h
/- hurdle/hurdlelaw38.PathsBack -/
def R5 : List RV := [(.r p4)]
noncomputable def J5_1 (E : Env) (r1 : DV) (h : H) : Ans :=
  wK (callK E 16 [r1] h) fun x1 h2 =>
  vK (v_ext 0 x1) fun x3 =>
  vK (v_ext 1 x1) fun x4 =>
  vK (v_neq x4 (.int .i64 (.ofNat 0))) fun x5 =>
  bK x5
  (vK (v_eql x3 (.str [])) fun x6 =>
  gdK x6 true (fun kk => wK (callK E 13 [] h2) kk) h2 fun x7 h8 =>
  vK (v_pick x6 x7 (.bool false)) fun x9 =>
  some (x9, h8))
  (wK (callK E 16 [x3] h2) fun x10 h11 =>
  vK (v_ext 0 x10) fun x12 =>
  vK (v_ext 1 x10) fun x13 =>
  vK (v_eql x13 (.int .i64 (.ofNat 0))) fun x14 =>
  gdK x14 true (fun kk => kk x12 h11) h11 fun x15 h16 =>
  gdK x14 true (fun kk => kk x3 h16) h16 fun x17 h18 =>
  gdK x14 true (fun kk => vK (v_eql x15 x17) fun v => kk v h18) h18 fun x19 h20 =>
  vK (v_pick x14 x19 (.bool false)) fun x21 =>
  gdK x21 true (fun kk => wK (callK E 13 [] h20) kk) h20 fun x22 h23 =>
  vK (v_pick x21 x22 (.bool false)) fun x24 =>
  some (x24, h23))
def C5_1 : DC := (.seq (.reg [⟨(some p43), none, (.e (.mv (.r p1)))⟩, ⟨(some p44), none, (.c (.f 16 [(.r p43)]))⟩, ⟨(some p42), none, (.e (.mv (.r p44)))⟩, ⟨(some p45), none, (.e (.ext 0 (.r p42)))⟩, ⟨(some p46), none, (.e (.ext 1 (.r p42)))⟩, ⟨(some p9), none, (.e (.mv (.r p45)))⟩, ⟨(some p10), none, (.e (.mv (.r p46)))⟩]) (.seq (.seq (.reg [⟨(some p47), none, (.e (.mv (.r p10)))⟩, ⟨(some p48), none, (.e (.bin .neq (.r p47) (.c (.int .i64 (.ofNat 0)))))⟩]) (.cond (.r p48) (.seq (.reg [⟨(some p49), none, (.e (.mv (.r p9)))⟩, ⟨(some p50), none, (.e (.bin .eql (.r p49) (.c (.str []))))⟩, ⟨(some p51), none, (.e (.mv (.r p50)))⟩, ⟨(some p52), (some (p51, true)), (.c (.f 13 []))⟩, ⟨(some p53), none, (.e (.pick (.r p51) (.r p52) (.c (.bool false))))⟩, ⟨(some p4), none, (.e (.mv (.r p53)))⟩]) .ret) .skip)) (.seq (.reg [⟨(some p55), none, (.e (.mv (.r p9)))⟩, ⟨(some p56), none, (.c (.f 16 [(.r p55)]))⟩, ⟨(some p54), none, (.e (.mv (.r p56)))⟩, ⟨(some p57), none, (.e (.ext 0 (.r p54)))⟩, ⟨(some p58), none, (.e (.ext 1 (.r p54)))⟩, ⟨(some p11), none, (.e (.mv (.r p57)))⟩, ⟨(some p12), none, (.e (.mv (.r p58)))⟩]) (.seq (.reg [⟨(some p59), none, (.e (.mv (.r p12)))⟩, ⟨(some p60), none, (.e (.bin .eql (.r p59) (.c (.int .i64 (.ofNat 0)))))⟩, ⟨(some p61), none, (.e (.mv (.r p60)))⟩, ⟨(some p62), (some (p61, true)), (.e (.mv (.r p11)))⟩, ⟨(some p63), (some (p61, true)), (.e (.mv (.r p9)))⟩, ⟨(some p64), (some (p61, true)), (.e (.bin .eql (.r p62) (.r p63)))⟩, ⟨(some p65), none, (.e (.pick (.r p61) (.r p64) (.c (.bool false))))⟩, ⟨(some p66), none, (.e (.mv (.r p65)))⟩, ⟨(some p67), (some (p66, true)), (.c (.f 13 []))⟩, ⟨(some p68), none, (.e (.pick (.r p66) (.r p67) (.c (.bool false))))⟩, ⟨(some p4), none, (.e (.mv (.r p68)))⟩]) .ret))))
noncomputable def J5_0 (E : Env) (r0 r1 : DV) (h : H) : Ans :=
  vK (v_lenL r0) fun x1 =>
  vK (v_gtr x1 (.int .i64 (.ofNat 300))) fun x2 =>
  gdK x2 false (fun kk => kk r1 h) h fun x3 h4 =>
  gdK x2 false (fun kk => vK (v_lenS x3) fun v => kk v h4) h4 fun x5 h6 =>
  gdK x2 false (fun kk => vK (v_gtr x5 (.int .i64 (.ofNat 2000))) fun v => kk v h6) h6 fun x7 h8 =>
  vK (v_pick x2 (.bool true) x7) fun x9 =>
  bK x9
  (wK (callK E 13 [] h8) fun x10 h11 =>
  some (x10, h11))
  (wK (callK E 23 [r0] h8) fun x12 h13 =>
  vK (v_ext 0 x12) fun x14 =>
  vK (v_ext 1 x12) fun x15 =>
  vK (v_eql x15 (.int .i64 (.ofNat 0))) fun x16 =>
  bK x16
  (wK (callK E 14 [x14] h13) fun x17 h18 =>
  vK (v_ext 0 x17) fun x19 =>
  vK (v_ext 1 x17) fun x20 =>
  vK (v_neq x20 (.int .i64 (.ofNat 0))) fun x21 =>
  gdK x21 false (fun kk => kk x19 h18) h18 fun x22 h23 =>
  gdK x21 false (fun kk => kk r0 h23) h23 fun x24 h25 =>
  gdK x21 false (fun kk => wK (callK E 20 [x22, x24] h25) kk) h25 fun x26 h27 =>
  gdK x21 false (fun kk => vK (v_not x26) fun v => kk v h27) h27 fun x28 h29 =>
  vK (v_pick x21 (.bool true) x28) fun x30 =>
  bK x30
  (some ((.bool false), h29))
  (J5_1 E r1 h29))
  (J5_1 E r1 h13))
def C5_0 : DC := (.seq (.reg [⟨(some p4), none, (.e (.mv (.c (.bool false))))⟩]) (.seq (.seq (.reg [⟨(some p13), none, (.e (.mv (.r p0)))⟩, ⟨(some p14), none, (.e (.lenL (.r p13)))⟩, ⟨(some p15), none, (.e (.bin .gtr (.r p14) (.c (.int .i64 (.ofNat 300)))))⟩, ⟨(some p16), none, (.e (.mv (.r p15)))⟩, ⟨(some p17), (some (p16, false)), (.e (.mv (.r p1)))⟩, ⟨(some p18), (some (p16, false)), (.e (.lenS (.r p17)))⟩, ⟨(some p19), (some (p16, false)), (.e (.bin .gtr (.r p18) (.c (.int .i64 (.ofNat 2000)))))⟩, ⟨(some p20), none, (.e (.pick (.r p16) (.c (.bool true)) (.r p19)))⟩]) (.cond (.r p20) (.seq (.reg [⟨(some p21), none, (.c (.f 13 []))⟩, ⟨(some p4), none, (.e (.mv (.r p21)))⟩]) .ret) .skip)) (.seq (.seq (.reg [⟨(some p23), none, (.e (.mv (.r p0)))⟩, ⟨(some p24), none, (.c (.f 23 [(.r p23)]))⟩, ⟨(some p22), none, (.e (.mv (.r p24)))⟩, ⟨(some p25), none, (.e (.ext 0 (.r p22)))⟩, ⟨(some p26), none, (.e (.ext 1 (.r p22)))⟩, ⟨(some p5), none, (.e (.mv (.r p25)))⟩, ⟨(some p6), none, (.e (.mv (.r p26)))⟩]) (.seq (.reg [⟨(some p27), none, (.e (.mv (.r p6)))⟩, ⟨(some p28), none, (.e (.bin .eql (.r p27) (.c (.int .i64 (.ofNat 0)))))⟩]) (.cond (.r p28) (.seq (.reg [⟨(some p30), none, (.e (.mv (.r p5)))⟩, ⟨(some p31), none, (.c (.f 14 [(.r p30)]))⟩, ⟨(some p29), none, (.e (.mv (.r p31)))⟩, ⟨(some p32), none, (.e (.ext 0 (.r p29)))⟩, ⟨(some p33), none, (.e (.ext 1 (.r p29)))⟩, ⟨(some p7), none, (.e (.mv (.r p32)))⟩, ⟨(some p8), none, (.e (.mv (.r p33)))⟩]) (.seq (.reg [⟨(some p34), none, (.e (.mv (.r p8)))⟩, ⟨(some p35), none, (.e (.bin .neq (.r p34) (.c (.int .i64 (.ofNat 0)))))⟩, ⟨(some p36), none, (.e (.mv (.r p35)))⟩, ⟨(some p37), (some (p36, false)), (.e (.mv (.r p7)))⟩, ⟨(some p38), (some (p36, false)), (.e (.mv (.r p0)))⟩, ⟨(some p39), (some (p36, false)), (.c (.f 20 [(.r p37), (.r p38)]))⟩, ⟨(some p40), (some (p36, false)), (.e (.not (.r p39)))⟩, ⟨(some p41), none, (.e (.pick (.r p36) (.c (.bool true)) (.r p40)))⟩]) (.cond (.r p41) (.seq (.reg [⟨(some p4), none, (.e (.mv (.c (.bool false))))⟩]) .ret) .skip))) .skip))) C5_1)))
theorem I5_1 (E : Env) : Is E C5_1 (retK3 R5) (fun σ h => J5_1 E (σ p1) h) :=
  fun σ h => by kernel_rfl
theorem I5_0 (E : Env) : Is E C5_0 (retK3 R5) (fun σ h => J5_0 E (σ p0) (σ p1) h) :=
  Is.as (Is.seq (Is.seq (Is.seq (I5_1 E) (Is.leaf _)) (Is.leaf _)) (Is.leaf _)) fun σ h => by kernel_rfl
def D5 : DF := ⟨2, 69, C5_0, R5⟩
noncomputable def S5 (E : Env) : Fun := fun args h => aS args fun r0 args => aS args fun r1 args => a0 args (J5_0 E r0 r1 h)
theorem S5_eq (E : Env) (args : List DV) (h : H) : runFn E D5 args h = S5 E args h :=
  Is.fn2 (d := D5) (I5_0 E) rfl (fun r0 r1 h => J5_0 E r0 r1 h) (fun r0 r1 h => by kernel_rfl) args h
/- hurdle/hurdlelaw38.PathsParent -/
def R6 : List RV := [(.r p2)]
noncomputable def J6_1 (E : Env) (r0 r3 r6 r7 r8 : DV) (h : H) : Ans :=
  vK (v_eql r7 (.int .i64 (.ofNat 0))) fun x1 =>
  gdK x1 true (fun kk => kk r8 h) h fun x2 h3 =>
  gdK x1 true (fun kk => kk r6 h3) h3 fun x4 h5 =>
  gdK x1 true (fun kk => vK (v_eql x2 x4) fun v => kk v h5) h5 fun x6 h7 =>
  vK (v_pick x1 x6 (.bool false)) fun x8 =>
  gdK x8 true (fun kk => kk r3 h7) h7 fun x9 h10 =>
  gdK x8 true (fun kk => kk r0 h10) h10 fun x11 h12 =>
  gdK x8 true (fun kk => wK (callK E 21 [x9, x11] h12) kk) h12 fun x13 h14 =>
  vK (v_pick x8 x13 (.bool false)) fun x15 =>
  gdK x15 true (fun kk => kk r0 h14) h14 fun x16 h17 =>
  gdK x15 true (fun kk => kk r3 h17) h17 fun x18 h19 =>
  gdK x15 true (fun kk => wK (callK E 21 [x16, x18] h19) kk) h19 fun x20 h21 =>
  gdK x15 true (fun kk => vK (v_not x20) fun v => kk v h21) h21 fun x22 h23 =>
  vK (v_pick x15 x22 (.bool false)) fun x24 =>
  gdK x24 true (fun kk => kk r0 h23) h23 fun x25 h26 =>
  gdK x24 true (fun kk => kk r0 h26) h26 fun x27 h28 =>
  gdK x24 true (fun kk => wK (callK E 21 [x25, x27] h28) kk) h28 fun x29 h30 =>
  gdK x24 true (fun kk => vK (v_not x29) fun v => kk v h30) h30 fun x31 h32 =>
  vK (v_pick x24 x31 (.bool false)) fun x33 =>
  gdK x33 true (fun kk => wK (callK E 13 [] h32) kk) h32 fun x34 h35 =>
  vK (v_pick x33 x34 (.bool false)) fun x36 =>
  some (x36, h35)
def C6_1 : DC := (.seq (.reg [⟨(some p52), none, (.e (.mv (.r p7)))⟩, ⟨(some p53), none, (.e (.bin .eql (.r p52) (.c (.int .i64 (.ofNat 0)))))⟩, ⟨(some p54), none, (.e (.mv (.r p53)))⟩, ⟨(some p55), (some (p54, true)), (.e (.mv (.r p8)))⟩, ⟨(some p56), (some (p54, true)), (.e (.mv (.r p6)))⟩, ⟨(some p57), (some (p54, true)), (.e (.bin .eql (.r p55) (.r p56)))⟩, ⟨(some p58), none, (.e (.pick (.r p54) (.r p57) (.c (.bool false))))⟩, ⟨(some p59), none, (.e (.mv (.r p58)))⟩, ⟨(some p60), (some (p59, true)), (.e (.mv (.r p3)))⟩, ⟨(some p61), (some (p59, true)), (.e (.mv (.r p0)))⟩, ⟨(some p62), (some (p59, true)), (.c (.f 21 [(.r p60), (.r p61)]))⟩, ⟨(some p63), none, (.e (.pick (.r p59) (.r p62) (.c (.bool false))))⟩, ⟨(some p64), none, (.e (.mv (.r p63)))⟩, ⟨(some p65), (some (p64, true)), (.e (.mv (.r p0)))⟩, ⟨(some p66), (some (p64, true)), (.e (.mv (.r p3)))⟩, ⟨(some p67), (some (p64, true)), (.c (.f 21 [(.r p65), (.r p66)]))⟩, ⟨(some p68), (some (p64, true)), (.e (.not (.r p67)))⟩, ⟨(some p69), none, (.e (.pick (.r p64) (.r p68) (.c (.bool false))))⟩, ⟨(some p70), none, (.e (.mv (.r p69)))⟩, ⟨(some p71), (some (p70, true)), (.e (.mv (.r p0)))⟩, ⟨(some p72), (some (p70, true)), (.e (.mv (.r p0)))⟩, ⟨(some p73), (some (p70, true)), (.c (.f 21 [(.r p71), (.r p72)]))⟩, ⟨(some p74), (some (p70, true)), (.e (.not (.r p73)))⟩, ⟨(some p75), none, (.e (.pick (.r p70) (.r p74) (.c (.bool false))))⟩, ⟨(some p76), none, (.e (.mv (.r p75)))⟩, ⟨(some p77), (some (p76, true)), (.c (.f 13 []))⟩, ⟨(some p78), none, (.e (.pick (.r p76) (.r p77) (.c (.bool false))))⟩, ⟨(some p2), none, (.e (.mv (.r p78)))⟩]) .ret)
noncomputable def J6_0 (E : Env) (r0 : DV) (h : H) : Ans :=
  vK (v_lenS r0) fun x1 =>
  vK (v_gtr x1 (.int .i64 (.ofNat 2000))) fun x2 =>
  bK x2
  (wK (callK E 13 [] h) fun x3 h4 =>
  some (x3, h4))
  (wK (callK E 18 [r0] h) fun x5 h6 =>
  vK (v_ext 0 x5) fun x7 =>
  vK (v_ext 1 x5) fun x8 =>
  vK (v_ext 2 x5) fun x9 =>
  wK (callK E 16 [r0] h6) fun x10 h11 =>
  vK (v_ext 0 x10) fun x12 =>
  vK (v_ext 1 x10) fun x13 =>
  vK (v_neq x9 (.int .i64 (.ofNat 0))) fun x14 =>
  bK x14
  (vK (v_eql x7 (.str [])) fun x15 =>
  gdK x15 true (fun kk => kk x8 h11) h11 fun x16 h17 =>
  gdK x15 true (fun kk => vK (v_eql x16 (.str [])) fun v => kk v h17) h17 fun x18 h19 =>
  vK (v_pick x15 x18 (.bool false)) fun x20 =>
  gdK x20 true (fun kk => kk x13 h19) h19 fun x21 h22 =>
  gdK x20 true (fun kk => vK (v_neq x21 (.int .i64 (.ofNat 0))) fun v => kk v h22) h22 fun x23 h24 =>
  gdK x20 true (fun kk => kk x23 h24) h24 fun x25 h26 =>
  gdK x25 false (fun kk => kk x12 h26) h26 fun x27 h28 =>
  gdK x25 false (fun kk => vK (v_eql x27 (.str [47])) fun v => kk v h28) h28 fun x29 h30 =>
  gdK x20 true (fun kk => vK (v_pick x25 (.bool true) x29) fun v => kk v h30) h30 fun x31 h32 =>
  vK (v_pick x20 x31 (.bool false)) fun x33 =>
  gdK x33 true (fun kk => wK (callK E 13 [] h32) kk) h32 fun x34 h35 =>
  vK (v_pick x33 x34 (.bool false)) fun x36 =>
  some (x36, h35))
  (vK (v_add x7 (.str [47])) fun x37 =>
  vK (v_add x37 x8) fun x38 =>
  vK (v_eql x7 (.str [47])) fun x39 =>
  bK x39
  (vK (v_add x7 x8) fun x40 =>
  J6_1 E r0 x7 x12 x13 x40 h11)
  (J6_1 E r0 x7 x12 x13 x38 h11)))
def C6_0 : DC := (.seq (.reg [⟨(some p2), none, (.e (.mv (.c (.bool false))))⟩]) (.seq (.seq (.reg [⟨(some p9), none, (.e (.mv (.r p0)))⟩, ⟨(some p10), none, (.e (.lenS (.r p9)))⟩, ⟨(some p11), none, (.e (.bin .gtr (.r p10) (.c (.int .i64 (.ofNat 2000)))))⟩]) (.cond (.r p11) (.seq (.reg [⟨(some p12), none, (.c (.f 13 []))⟩, ⟨(some p2), none, (.e (.mv (.r p12)))⟩]) .ret) .skip)) (.seq (.reg [⟨(some p14), none, (.e (.mv (.r p0)))⟩, ⟨(some p15), none, (.c (.f 18 [(.r p14)]))⟩, ⟨(some p13), none, (.e (.mv (.r p15)))⟩, ⟨(some p16), none, (.e (.ext 0 (.r p13)))⟩, ⟨(some p17), none, (.e (.ext 1 (.r p13)))⟩, ⟨(some p18), none, (.e (.ext 2 (.r p13)))⟩, ⟨(some p3), none, (.e (.mv (.r p16)))⟩, ⟨(some p4), none, (.e (.mv (.r p17)))⟩, ⟨(some p5), none, (.e (.mv (.r p18)))⟩]) (.seq (.reg [⟨(some p20), none, (.e (.mv (.r p0)))⟩, ⟨(some p21), none, (.c (.f 16 [(.r p20)]))⟩, ⟨(some p19), none, (.e (.mv (.r p21)))⟩, ⟨(some p22), none, (.e (.ext 0 (.r p19)))⟩, ⟨(some p23), none, (.e (.ext 1 (.r p19)))⟩, ⟨(some p6), none, (.e (.mv (.r p22)))⟩, ⟨(some p7), none, (.e (.mv (.r p23)))⟩]) (.seq (.seq (.reg [⟨(some p24), none, (.e (.mv (.r p5)))⟩, ⟨(some p25), none, (.e (.bin .neq (.r p24) (.c (.int .i64 (.ofNat 0)))))⟩]) (.cond (.r p25) (.seq (.reg [⟨(some p26), none, (.e (.mv (.r p3)))⟩, ⟨(some p27), none, (.e (.bin .eql (.r p26) (.c (.str []))))⟩, ⟨(some p28), none, (.e (.mv (.r p27)))⟩, ⟨(some p29), (some (p28, true)), (.e (.mv (.r p4)))⟩, ⟨(some p30), (some (p28, true)), (.e (.bin .eql (.r p29) (.c (.str []))))⟩, ⟨(some p31), none, (.e (.pick (.r p28) (.r p30) (.c (.bool false))))⟩, ⟨(some p32), none, (.e (.mv (.r p31)))⟩, ⟨(some p33), (some (p32, true)), (.e (.mv (.r p7)))⟩, ⟨(some p34), (some (p32, true)), (.e (.bin .neq (.r p33) (.c (.int .i64 (.ofNat 0)))))⟩, ⟨(some p35), (some (p32, true)), (.e (.mv (.r p34)))⟩, ⟨(some p36), (some (p35, false)), (.e (.mv (.r p6)))⟩, ⟨(some p37), (some (p35, false)), (.e (.bin .eql (.r p36) (.c (.str [47]))))⟩, ⟨(some p38), (some (p32, true)), (.e (.pick (.r p35) (.c (.bool true)) (.r p37)))⟩, ⟨(some p39), none, (.e (.pick (.r p32) (.r p38) (.c (.bool false))))⟩, ⟨(some p40), none, (.e (.mv (.r p39)))⟩, ⟨(some p41), (some (p40, true)), (.c (.f 13 []))⟩, ⟨(some p42), none, (.e (.pick (.r p40) (.r p41) (.c (.bool false))))⟩, ⟨(some p2), none, (.e (.mv (.r p42)))⟩]) .ret) .skip)) (.seq (.reg [⟨(some p43), none, (.e (.mv (.r p3)))⟩, ⟨(some p44), none, (.e (.bin .add (.r p43) (.c (.str [47]))))⟩, ⟨(some p45), none, (.e (.mv (.r p4)))⟩, ⟨(some p46), none, (.e (.bin .add (.r p44) (.r p45)))⟩, ⟨(some p8), none, (.e (.mv (.r p46)))⟩]) (.seq (.seq (.reg [⟨(some p47), none, (.e (.mv (.r p3)))⟩, ⟨(some p48), none, (.e (.bin .eql (.r p47) (.c (.str [47]))))⟩]) (.cond (.r p48) (.reg [⟨(some p49), none, (.e (.mv (.r p3)))⟩, ⟨(some p50), none, (.e (.mv (.r p4)))⟩, ⟨(some p51), none, (.e (.bin .add (.r p49) (.r p50)))⟩, ⟨(some p8), none, (.e (.mv (.r p51)))⟩]) .skip)) C6_1)))))))
theorem I6_1 (E : Env) : Is E C6_1 (retK3 R6) (fun σ h => J6_1 E (σ p0) (σ p3) (σ p6) (σ p7) (σ p8) h) :=
  fun σ h => by kernel_rfl
theorem I6_0 (E : Env) : Is E C6_0 (retK3 R6) (fun σ h => J6_0 E (σ p0) h) :=
  Is.as (Is.seq (Is.seq (Is.seq (Is.seq (Is.seq (Is.seq (Is.seq (I6_1 E) (Is.leaf _)) (Is.leaf _)) (Is.leaf _)) (Is.leaf _)) (Is.leaf _)) (Is.leaf _)) (Is.leaf _)) fun σ h => by kernel_rfl
def D6 : DF := ⟨1, 79, C6_0, R6⟩
noncomputable def S6 (E : Env) : Fun := fun args h => aS args fun r0 args => a0 args (J6_0 E r0 h)
theorem S6_eq (E : Env) (args : List DV) (h : H) : runFn E D6 args h = S6 E args h :=
  Is.fn1 (d := D6) (I6_0 E) rfl (fun r0 h => J6_0 E r0 h) (fun r0 h => by kernel_rfl) args h
/- hurdle/hurdlelaw38.awake -/
def R13 : List RV := [(.r p0)]
noncomputable def J13_0 (E : Env) (h : H) : Ans :=
  wK (callK E 16 [(.str [47, 97, 47, 47, 98, 47, 46, 46, 47, 99, 47, 46])] h) fun x1 h2 =>
  vK (v_ext 0 x1) fun x3 =>
  vK (v_ext 1 x1) fun x4 =>
  wK (callK E 18 [(.str [47, 97, 47, 99])] h2) fun x5 h6 =>
  vK (v_ext 0 x5) fun x7 =>
  vK (v_ext 1 x5) fun x8 =>
  vK (v_ext 2 x5) fun x9 =>
  wK (callK E 18 [(.str [47])] h6) fun x10 h11 =>
  vK (v_ext 0 x10) fun x12 =>
  vK (v_ext 1 x10) fun x13 =>
  vK (v_ext 2 x10) fun x14 =>
  wK (callK E 23 [.nils] h11) fun x15 h16 =>
  vK (v_ext 0 x15) fun x17 =>
  vK (v_ext 1 x15) fun x18 =>
  wK (callK E 14 [(.str [97])] h16) fun x19 h20 =>
  vK (v_ext 0 x19) fun x21 =>
  vK (v_ext 1 x19) fun x22 =>
  vK (v_eql x3 (.str [47, 97, 47, 99])) fun x23 =>
  gdK x23 true (fun kk => kk x4 h20) h20 fun x24 h25 =>
  gdK x23 true (fun kk => vK (v_eql x24 (.int .i64 (.ofNat 0))) fun v => kk v h25) h25 fun x26 h27 =>
  vK (v_pick x23 x26 (.bool false)) fun x28 =>
  gdK x28 true (fun kk => kk x7 h27) h27 fun x29 h30 =>
  gdK x28 true (fun kk => vK (v_eql x29 (.str [47, 97])) fun v => kk v h30) h30 fun x31 h32 =>
  vK (v_pick x28 x31 (.bool false)) fun x33 =>
  gdK x33 true (fun kk => kk x8 h32) h32 fun x34 h35 =>
  gdK x33 true (fun kk => vK (v_eql x34 (.str [99])) fun v => kk v h35) h35 fun x36 h37 =>
  vK (v_pick x33 x36 (.bool false)) fun x38 =>
  gdK x38 true (fun kk => kk x9 h37) h37 fun x39 h40 =>
  gdK x38 true (fun kk => vK (v_eql x39 (.int .i64 (.ofNat 0))) fun v => kk v h40) h40 fun x41 h42 =>
  vK (v_pick x38 x41 (.bool false)) fun x43 =>
  gdK x43 true (fun kk => kk x14 h42) h42 fun x44 h45 =>
  gdK x43 true (fun kk => vK (v_eql x44 (.int .i64 (.ofNat 15))) fun v => kk v h45) h45 fun x46 h47 =>
  vK (v_pick x43 x46 (.bool false)) fun x48 =>
  gdK x48 true (fun kk => kk x17 h47) h47 fun x49 h50 =>
  gdK x48 true (fun kk => vK (v_eql x49 (.str [47])) fun v => kk v h50) h50 fun x51 h52 =>
  vK (v_pick x48 x51 (.bool false)) fun x53 =>
  gdK x53 true (fun kk => kk x18 h52) h52 fun x54 h55 =>
  gdK x53 true (fun kk => vK (v_eql x54 (.int .i64 (.ofNat 0))) fun v => kk v h55) h55 fun x56 h57 =>
  vK (v_pick x53 x56 (.bool false)) fun x58 =>
  gdK x58 true (fun kk => kk x22 h57) h57 fun x59 h60 =>
  gdK x58 true (fun kk => vK (v_eql x59 (.int .i64 (.ofNat 15))) fun v => kk v h60) h60 fun x61 h62 =>
  vK (v_pick x58 x61 (.bool false)) fun x63 =>
  gdK x63 true (fun kk => wK (callK E 21 [(.str [47, 97]), (.str [47, 97, 47, 98])] h62) kk) h62 fun x64 h65 =>
  vK (v_pick x63 x64 (.bool false)) fun x66 =>
  gdK x66 true (fun kk => wK (callK E 21 [(.str [47, 97]), (.str [47, 97, 98])] h65) kk) h65 fun x67 h68 =>
  gdK x66 true (fun kk => vK (v_not x67) fun v => kk v h68) h68 fun x69 h70 =>
  vK (v_pick x66 x69 (.bool false)) fun x71 =>
  gdK x71 true (fun kk => wK (callK E 21 [(.str [47, 97]), (.str [47, 97])] h70) kk) h70 fun x72 h73 =>
  gdK x71 true (fun kk => vK (v_not x72) fun v => kk v h73) h73 fun x74 h75 =>
  vK (v_pick x71 x74 (.bool false)) fun x76 =>
  some (x76, h75)
def C13_0 : DC := (.seq (.reg [⟨(some p0), none, (.e (.mv (.c (.bool false))))⟩]) (.seq (.reg [⟨(some p14), none, (.c (.f 16 [(.c (.str [47, 97, 47, 47, 98, 47, 46, 46, 47, 99, 47, 46]))]))⟩, ⟨(some p13), none, (.e (.mv (.r p14)))⟩, ⟨(some p15), none, (.e (.ext 0 (.r p13)))⟩, ⟨(some p16), none, (.e (.ext 1 (.r p13)))⟩, ⟨(some p1), none, (.e (.mv (.r p15)))⟩, ⟨(some p2), none, (.e (.mv (.r p16)))⟩]) (.seq (.reg [⟨(some p18), none, (.c (.f 18 [(.c (.str [47, 97, 47, 99]))]))⟩, ⟨(some p17), none, (.e (.mv (.r p18)))⟩, ⟨(some p19), none, (.e (.ext 0 (.r p17)))⟩, ⟨(some p20), none, (.e (.ext 1 (.r p17)))⟩, ⟨(some p21), none, (.e (.ext 2 (.r p17)))⟩, ⟨(some p3), none, (.e (.mv (.r p19)))⟩, ⟨(some p4), none, (.e (.mv (.r p20)))⟩, ⟨(some p5), none, (.e (.mv (.r p21)))⟩]) (.seq (.reg [⟨(some p23), none, (.c (.f 18 [(.c (.str [47]))]))⟩, ⟨(some p22), none, (.e (.mv (.r p23)))⟩, ⟨(some p24), none, (.e (.ext 0 (.r p22)))⟩, ⟨(some p25), none, (.e (.ext 1 (.r p22)))⟩, ⟨(some p26), none, (.e (.ext 2 (.r p22)))⟩, ⟨(some p6), none, (.e (.mv (.r p24)))⟩, ⟨(some p7), none, (.e (.mv (.r p25)))⟩, ⟨(some p8), none, (.e (.mv (.r p26)))⟩]) (.seq (.reg [⟨(some p28), none, (.c (.f 23 [(.c .nils)]))⟩, ⟨(some p27), none, (.e (.mv (.r p28)))⟩, ⟨(some p29), none, (.e (.ext 0 (.r p27)))⟩, ⟨(some p30), none, (.e (.ext 1 (.r p27)))⟩, ⟨(some p9), none, (.e (.mv (.r p29)))⟩, ⟨(some p10), none, (.e (.mv (.r p30)))⟩]) (.seq (.reg [⟨(some p32), none, (.c (.f 14 [(.c (.str [97]))]))⟩, ⟨(some p31), none, (.e (.mv (.r p32)))⟩, ⟨(some p33), none, (.e (.ext 0 (.r p31)))⟩, ⟨(some p34), none, (.e (.ext 1 (.r p31)))⟩, ⟨(some p11), none, (.e (.mv (.r p33)))⟩, ⟨(some p12), none, (.e (.mv (.r p34)))⟩]) (.seq (.reg [⟨(some p35), none, (.e (.mv (.r p1)))⟩, ⟨(some p36), none, (.e (.bin .eql (.r p35) (.c (.str [47, 97, 47, 99]))))⟩, ⟨(some p37), none, (.e (.mv (.r p36)))⟩, ⟨(some p38), (some (p37, true)), (.e (.mv (.r p2)))⟩, ⟨(some p39), (some (p37, true)), (.e (.bin .eql (.r p38) (.c (.int .i64 (.ofNat 0)))))⟩, ⟨(some p40), none, (.e (.pick (.r p37) (.r p39) (.c (.bool false))))⟩, ⟨(some p41), none, (.e (.mv (.r p40)))⟩, ⟨(some p42), (some (p41, true)), (.e (.mv (.r p3)))⟩, ⟨(some p43), (some (p41, true)), (.e (.bin .eql (.r p42) (.c (.str [47, 97]))))⟩, ⟨(some p44), none, (.e (.pick (.r p41) (.r p43) (.c (.bool false))))⟩, ⟨(some p45), none, (.e (.mv (.r p44)))⟩, ⟨(some p46), (some (p45, true)), (.e (.mv (.r p4)))⟩, ⟨(some p47), (some (p45, true)), (.e (.bin .eql (.r p46) (.c (.str [99]))))⟩, ⟨(some p48), none, (.e (.pick (.r p45) (.r p47) (.c (.bool false))))⟩, ⟨(some p49), none, (.e (.mv (.r p48)))⟩, ⟨(some p50), (some (p49, true)), (.e (.mv (.r p5)))⟩, ⟨(some p51), (some (p49, true)), (.e (.bin .eql (.r p50) (.c (.int .i64 (.ofNat 0)))))⟩, ⟨(some p52), none, (.e (.pick (.r p49) (.r p51) (.c (.bool false))))⟩, ⟨(some p53), none, (.e (.mv (.r p52)))⟩, ⟨(some p54), (some (p53, true)), (.e (.mv (.r p8)))⟩, ⟨(some p55), (some (p53, true)), (.e (.bin .eql (.r p54) (.c (.int .i64 (.ofNat 15)))))⟩, ⟨(some p56), none, (.e (.pick (.r p53) (.r p55) (.c (.bool false))))⟩, ⟨(some p57), none, (.e (.mv (.r p56)))⟩, ⟨(some p58), (some (p57, true)), (.e (.mv (.r p9)))⟩, ⟨(some p59), (some (p57, true)), (.e (.bin .eql (.r p58) (.c (.str [47]))))⟩, ⟨(some p60), none, (.e (.pick (.r p57) (.r p59) (.c (.bool false))))⟩, ⟨(some p61), none, (.e (.mv (.r p60)))⟩, ⟨(some p62), (some (p61, true)), (.e (.mv (.r p10)))⟩, ⟨(some p63), (some (p61, true)), (.e (.bin .eql (.r p62) (.c (.int .i64 (.ofNat 0)))))⟩, ⟨(some p64), none, (.e (.pick (.r p61) (.r p63) (.c (.bool false))))⟩, ⟨(some p65), none, (.e (.mv (.r p64)))⟩, ⟨(some p66), (some (p65, true)), (.e (.mv (.r p12)))⟩, ⟨(some p67), (some (p65, true)), (.e (.bin .eql (.r p66) (.c (.int .i64 (.ofNat 15)))))⟩, ⟨(some p68), none, (.e (.pick (.r p65) (.r p67) (.c (.bool false))))⟩, ⟨(some p69), none, (.e (.mv (.r p68)))⟩, ⟨(some p70), (some (p69, true)), (.c (.f 21 [(.c (.str [47, 97])), (.c (.str [47, 97, 47, 98]))]))⟩, ⟨(some p71), none, (.e (.pick (.r p69) (.r p70) (.c (.bool false))))⟩, ⟨(some p72), none, (.e (.mv (.r p71)))⟩, ⟨(some p73), (some (p72, true)), (.c (.f 21 [(.c (.str [47, 97])), (.c (.str [47, 97, 98]))]))⟩, ⟨(some p74), (some (p72, true)), (.e (.not (.r p73)))⟩, ⟨(some p75), none, (.e (.pick (.r p72) (.r p74) (.c (.bool false))))⟩, ⟨(some p76), none, (.e (.mv (.r p75)))⟩, ⟨(some p77), (some (p76, true)), (.c (.f 21 [(.c (.str [47, 97])), (.c (.str [47, 97]))]))⟩, ⟨(some p78), (some (p76, true)), (.e (.not (.r p77)))⟩, ⟨(some p79), none, (.e (.pick (.r p76) (.r p78) (.c (.bool false))))⟩, ⟨(some p0), none, (.e (.mv (.r p79)))⟩]) .ret)))))))
theorem I13_0 (E : Env) : Is E C13_0 (retK3 R13) (fun σ h => J13_0 E h) :=
  fun σ h => by kernel_rfl
def D13 : DF := ⟨0, 80, C13_0, R13⟩
noncomputable def S13 (E : Env) : Fun := fun args h => a0 args (J13_0 E h)
theorem S13_eq (E : Env) (args : List DV) (h : H) : runFn E D13 args h = S13 E args h :=
  Is.fn0 (d := D13) (I13_0 E) rfl (fun h => J13_0 E h) (fun h => by kernel_rfl) args h
/- hurdle/paths.Split -/
def R14 : List RV := [(.r p2), (.r p3)]
noncomputable def J14_1 (E : Env) (r4 : DV) (h : H) : Ans :=
  some ((.tup [r4, (.int .i64 (.ofNat 0))]), h)
def C14_1 : DC := (.seq (.reg [⟨(some p47), none, (.e (.mv (.r p4)))⟩, ⟨(some p2), none, (.e (.mv (.r p47)))⟩, ⟨(some p3), none, (.e (.mv (.c (.int .i64 (.ofNat 0)))))⟩]) .ret)
noncomputable def J14_3 (E : Env) (i2 : DV → DV → H → Ans) (r4 r23 : DV) (h : H) : Ans :=
  vK (v_add r23 (.int .i64 (.ofNat 1))) fun x1 =>
  i2 r4 x1 h
def C14_3 : DC := (.reg [⟨(some p46), none, (.e (.bin .add (.r p23) (.c (.int .i64 (.ofNat 1)))))⟩, ⟨(some p23), none, (.e (.mv (.r p46)))⟩])
noncomputable def J14_4 (E : Env) (i2 : DV → DV → H → Ans) (r4 r6 r23 : DV) (h : H) : Ans :=
  wK (callK E 41 [r6] h) fun x1 h2 =>
  vK (v_not x1) fun x3 =>
  bK x3
  (some ((.tup [.nils, (.int .i64 (.ofNat 15))]), h2))
  (n_bsl 1 1 [(.str [])] [(0, 1, r6)] h2 fun x4 h5 =>
  wK (dAppendF 1 16 r4 x4 h5) fun x6 h7 =>
  J14_3 E i2 x6 r23 h7)
def C14_4 : DC := (.seq (.seq (.reg [⟨(some p39), none, (.e (.mv (.r p6)))⟩, ⟨(some p40), none, (.c (.f 41 [(.r p39)]))⟩, ⟨(some p41), none, (.e (.not (.r p40)))⟩]) (.cond (.r p41) (.seq (.reg [⟨(some p2), none, (.e (.mv (.c .nils)))⟩, ⟨(some p3), none, (.e (.mv (.c (.int .i64 (.ofNat 15)))))⟩]) .ret) .skip)) (.reg [⟨(some p42), none, (.e (.mv (.r p4)))⟩, ⟨(some p43), none, (.e (.mv (.r p6)))⟩, ⟨(some p44), none, (.e (.bsl 1 1 [(.str [])] [(0, 1, (.r p43))]))⟩, ⟨(some p45), none, (.w (.app 1 16 (.r p42) (.r p44)))⟩, ⟨(some p4), none, (.e (.mv (.r p45)))⟩]))
noncomputable def J14_5 (E : Env) (i2 : DV → DV → H → Ans) (r4 r6 r23 r27 r28 : DV) (h : H) : Ans :=
  bK r28
  (J14_3 E i2 r4 r23 h)
  (vK (v_eql r27 (.str [46, 46])) fun x1 =>
  bK x1
  (vK (v_lenL r4) fun x2 =>
  vK (v_sub x2 (.int .i64 (.ofNat 1))) fun x3 =>
  vK (v_mx x3 (.int .i64 (.ofNat 0))) fun x4 =>
  vK (v_slL 1 r4 none (some x4)) fun x5 =>
  J14_3 E i2 x5 r23 h)
  (J14_4 E i2 r4 r6 r23 h))
def C14_5 : DC := (.cond (.r p28) (.exit 1) (.seq (.reg [⟨(some p32), none, (.e (.bin .eql (.r p27) (.c (.str [46, 46]))))⟩, ⟨(some p31), none, (.e (.mv (.r p32)))⟩]) (.cond (.r p31) (.seq (.reg [⟨(some p33), none, (.e (.mv (.r p4)))⟩, ⟨(some p34), none, (.e (.mv (.r p4)))⟩, ⟨(some p35), none, (.e (.lenL (.r p34)))⟩, ⟨(some p36), none, (.e (.bin .sub (.r p35) (.c (.int .i64 (.ofNat 1)))))⟩, ⟨(some p37), none, (.e (.mx (.r p36) (.c (.int .i64 (.ofNat 0)))))⟩, ⟨(some p38), none, (.e (.slL 1 (.r p33) none (some (.r p37))))⟩, ⟨(some p4), none, (.e (.mv (.r p38)))⟩]) (.exit 1)) .skip)))
noncomputable def B14_2 (E : Env) (r21 r22 : DV) (i2 : DV → DV → H → Ans) (r4 r23 : DV) (h : H) : Ans :=
  vK (v_lss r23 r22) fun x1 =>
  bK x1
  (vK (v_iaS 1 r21 r23) fun x2 =>
  vK (v_ld h.get x2) fun x3 =>
  vK (v_eql x3 (.str [])) fun x4 =>
  bK x4
  (J14_5 E i2 r4 x3 r23 x3 x4 h)
  (vK (v_eql x3 (.str [46])) fun x5 =>
  J14_5 E i2 r4 x3 r23 x3 x5 h))
  (J14_1 E r4 h)
noncomputable def L14_2 (E : Env) (r21 r22 : DV) (n : Nat) : DV → DV → H → Ans := Nat.rec (motive := fun _ => DV → DV → H → Ans) (fun _ _ _ => none) (fun _ i => B14_2 E r21 r22 i) n
def C14_2 : DC := (.loop (.seq (.reg [⟨(some p24), none, (.e (.bin .lss (.r p23) (.r p22)))⟩]) (.seq (.cond (.r p24) .skip (.exit 0)) (.seq (.block 1 (.seq (.reg [⟨(some p25), none, (.e (.iaS 1 (.r p21) (.r p23)))⟩, ⟨(some p26), none, (.e (.ld (.r p25)))⟩, ⟨(some p6), none, (.e (.mv (.r p26)))⟩]) (.seq (.seq (.reg [⟨(some p27), none, (.e (.mv (.r p6)))⟩]) (.block 2 (.seq (.seq (.reg [⟨(some p29), none, (.e (.bin .eql (.r p27) (.c (.str []))))⟩, ⟨(some p28), none, (.e (.mv (.r p29)))⟩]) (.cond (.r p28) .skip (.reg [⟨(some p30), none, (.e (.bin .eql (.r p27) (.c (.str [46]))))⟩, ⟨(some p28), none, (.e (.mv (.r p30)))⟩]))) C14_5))) C14_4))) C14_3))))
noncomputable def J14_0 (E : Env) (r0 : DV) (h : H) : Ans :=
  vK (v_eql r0 (.str [])) fun x1 =>
  gdK x1 false (fun kk => kk r0 h) h fun x2 h3 =>
  gdK x1 false (fun kk => vK (v_ixS x2 (.int .i64 (.ofNat 0))) fun v => kk v h3) h3 fun x4 h5 =>
  gdK x1 false (fun kk => vK (v_neq x4 (.int .u8 (.ofNat 47))) fun v => kk v h5) h5 fun x6 h7 =>
  vK (v_pick x1 (.bool true) x6) fun x8 =>
  gdK x8 false (fun kk => kk r0 h7) h7 fun x9 h10 =>
  gdK x8 false (fun kk => vK (v_lenS x9) fun v => kk v h10) h10 fun x11 h12 =>
  gdK x8 false (fun kk => vK (v_gtr x11 (.int .i64 (.ofNat 255))) fun v => kk v h12) h12 fun x13 h14 =>
  vK (v_pick x8 (.bool true) x13) fun x15 =>
  bK x15
  (some ((.tup [.nils, (.int .i64 (.ofNat 15))]), h14))
  (vK (v_slS r0 (some (.int .i64 (.ofNat 1))) none) fun x16 =>
  wK (callK E 40 [x16, (.str [47])] h14) fun x17 h18 =>
  vK (v_lenL x17) fun x19 =>
  L14_2 E x17 x19 FUEL .nils (.int .i64 (.ofNat 0)) h18)
def C14_0 : DC := (.seq (.reg [⟨(some p2), none, (.e (.mv (.c .nils)))⟩, ⟨(some p3), none, (.e (.mv (.c (.int .i64 (.ofNat 0)))))⟩]) (.scope (.seq (.seq (.reg [⟨(some p7), none, (.e (.mv (.r p0)))⟩, ⟨(some p8), none, (.e (.bin .eql (.r p7) (.c (.str []))))⟩, ⟨(some p9), none, (.e (.mv (.r p8)))⟩, ⟨(some p10), (some (p9, false)), (.e (.mv (.r p0)))⟩, ⟨(some p11), (some (p9, false)), (.e (.ixS (.r p10) (.c (.int .i64 (.ofNat 0)))))⟩, ⟨(some p12), (some (p9, false)), (.e (.bin .neq (.r p11) (.c (.int .u8 (.ofNat 47)))))⟩, ⟨(some p13), none, (.e (.pick (.r p9) (.c (.bool true)) (.r p12)))⟩, ⟨(some p14), none, (.e (.mv (.r p13)))⟩, ⟨(some p15), (some (p14, false)), (.e (.mv (.r p0)))⟩, ⟨(some p16), (some (p14, false)), (.e (.lenS (.r p15)))⟩, ⟨(some p17), (some (p14, false)), (.e (.bin .gtr (.r p16) (.c (.int .i64 (.ofNat 255)))))⟩, ⟨(some p18), none, (.e (.pick (.r p14) (.c (.bool true)) (.r p17)))⟩]) (.cond (.r p18) (.seq (.reg [⟨(some p2), none, (.e (.mv (.c .nils)))⟩, ⟨(some p3), none, (.e (.mv (.c (.int .i64 (.ofNat 15)))))⟩]) .ret) .skip)) (.seq (.reg [⟨(some p4), none, (.e (.mv (.c .nils)))⟩]) (.seq .skip (.seq (.seq (.reg [⟨(some p19), none, (.e (.mv (.r p0)))⟩, ⟨(some p20), none, (.e (.slS (.r p19) (some (.c (.int .i64 (.ofNat 1)))) none))⟩, ⟨(some p21), none, (.c (.f 40 [(.r p20), (.c (.str [47]))]))⟩, ⟨(some p22), none, (.e (.lenL (.r p21)))⟩, ⟨(some p23), none, (.e (.mv (.c (.int .i64 (.ofNat 0)))))⟩]) (.block 0 C14_2)) C14_1))))))
theorem I14_1 (E : Env) : Is E C14_1 (scopeK3 (retK3 R14)) (fun σ h => J14_1 E (σ p4) h) :=
  fun σ h => by kernel_rfl
noncomputable abbrev K14_6 (E : Env) : KT2 (DV × H) := (thenK3 (fun σ h => J14_1 E (σ p4) h) (scopeK3 (retK3 R14)))
noncomputable abbrev K14_7 (E : Env) (n2 : Nat) : KT2 (DV × H) := (thenK3 (fun σ h => (L14_2 E (σ p21) (σ p22) n2) (σ p4) (σ p23) h) (blockK3 0 (K14_6 E)))
theorem I14_3 (E : Env) (n2 : Nat) : Is E C14_3 (K14_7 E n2) (fun σ h => J14_3 E (L14_2 E (σ p21) (σ p22) n2) (σ p4) (σ p23) h) :=
  fun σ h => by kernel_rfl
noncomputable abbrev K14_8 (E : Env) (n2 : Nat) : KT2 (DV × H) := (thenK3 (fun σ h => J14_3 E (L14_2 E (σ p21) (σ p22) n2) (σ p4) (σ p23) h) (K14_7 E n2))
theorem I14_4 (E : Env) (n2 : Nat) : Is E C14_4 (blockK3 1 (K14_8 E n2)) (fun σ h => J14_4 E (L14_2 E (σ p21) (σ p22) n2) (σ p4) (σ p6) (σ p23) h) :=
  fun σ h => by kernel_rfl
noncomputable abbrev K14_9 (E : Env) (n2 : Nat) : KT2 (DV × H) := (thenK3 (fun σ h => J14_4 E (L14_2 E (σ p21) (σ p22) n2) (σ p4) (σ p6) (σ p23) h) (blockK3 1 (K14_8 E n2)))
theorem I14_5 (E : Env) (n2 : Nat) : Is E C14_5 (blockK3 2 (K14_9 E n2)) (fun σ h => J14_5 E (L14_2 E (σ p21) (σ p22) n2) (σ p4) (σ p6) (σ p23) (σ p27) (σ p28) h) :=
  fun σ h => by kernel_rfl
theorem I14_2 (E : Env) : Is E C14_2 (blockK3 0 (K14_6 E)) (fun σ h => L14_2 E (σ p21) (σ p22) FUEL (σ p4) (σ p23) h) :=
  Is.loop (fun n2 σ h => L14_2 E (σ p21) (σ p22) n2 (σ p4) (σ p23) h) (by kernel_rfl) fun n2 => Is.as (Is.seq (Is.seq (Is.seq (I14_3 E n2) (Is.block (Is.seq (Is.seq (I14_4 E n2) (Is.seq (Is.block (Is.seq (I14_5 E n2) (Is.leaf _))) (Is.leaf _))) (Is.leaf _)))) (Is.leaf _)) (Is.leaf _)) fun σ h => by kernel_rfl
theorem I14_0 (E : Env) : Is E C14_0 (retK3 R14) (fun σ h => J14_0 E (σ p0) h) :=
  Is.as (Is.seq (Is.scope (Is.seq (Is.seq (Is.seq (Is.seq (I14_1 E) (Is.seq (Is.block (I14_2 E)) (Is.leaf _))) (Is.leaf _)) (Is.leaf _)) (Is.leaf _))) (Is.leaf _)) fun σ h => by kernel_rfl
def D14 : DF := ⟨1, 48, C14_0, R14⟩
noncomputable def S14 (E : Env) : Fun := fun args h => aS args fun r0 args => a0 args (J14_0 E r0 h)
theorem S14_eq (E : Env) (args : List DV) (h : H) : runFn E D14 args h = S14 E args h :=
  Is.fn1 (d := D14) (I14_0 E) rfl (fun r0 h => J14_0 E r0 h) (fun r0 h => by kernel_rfl) args h
/- hurdle/hurdleref38.Split -/
def R15 : List RV := [(.r p2), (.r p3)]
noncomputable def J15_1 (E : Env) (r4 : DV) (h : H) : Ans :=
  some ((.tup [r4, (.int .i64 (.ofNat 0))]), h)
def C15_1 : DC := (.seq (.reg [⟨(some p67), none, (.e (.mv (.r p4)))⟩, ⟨(some p2), none, (.e (.mv (.r p67)))⟩, ⟨(some p3), none, (.e (.mv (.c (.int .i64 (.ofNat 0)))))⟩]) .ret)
noncomputable def J15_3 (E : Env) (i2 : DV → DV → DV → H → Ans) (r4 r5 r6 : DV) (h : H) : Ans :=
  vK (v_add r6 (.int .i64 (.ofNat 1))) fun x1 =>
  i2 r4 r5 x1 h
def C15_3 : DC := (.reg [⟨(some p23), none, (.e (.mv (.r p6)))⟩, ⟨(some p24), none, (.e (.bin .add (.r p23) (.c (.int .i64 (.ofNat 1)))))⟩, ⟨(some p6), none, (.e (.mv (.r p24)))⟩])
noncomputable def J15_4 (E : Env) (i2 : DV → DV → DV → H → Ans) (r4 r6 : DV) (h : H) : Ans :=
  J15_3 E i2 r4 (.str []) r6 h
def C15_4 : DC := (.reg [⟨(some p5), none, (.e (.mv (.c (.str []))))⟩])
noncomputable def B15_2 (E : Env) (r0 : DV) (i2 : DV → DV → DV → H → Ans) (r4 r5 r6 : DV) (h : H) : Ans :=
  vK (v_lenS r0) fun x1 =>
  vK (v_leq r6 x1) fun x2 =>
  bK x2
  (vK (v_lenS r0) fun x3 =>
  vK (v_lss r6 x3) fun x4 =>
  gdK x4 true (fun kk => kk r0 h) h fun x5 h6 =>
  gdK x4 true (fun kk => kk r6 h6) h6 fun x7 h8 =>
  gdK x4 true (fun kk => vK (v_ixS x5 x7) fun v => kk v h8) h8 fun x9 h10 =>
  gdK x4 true (fun kk => vK (v_neq x9 (.int .u8 (.ofNat 47))) fun v => kk v h10) h10 fun x11 h12 =>
  vK (v_pick x4 x11 (.bool false)) fun x13 =>
  bK x13
  (vK (v_add r6 (.int .i64 (.ofNat 1))) fun x14 =>
  vK (v_slS r0 (some r6) (some x14)) fun x15 =>
  vK (v_add r5 x15) fun x16 =>
  J15_3 E i2 r4 x16 r6 h12)
  (vK (v_eql r5 (.str [])) fun x17 =>
  gdK x17 false (fun kk => kk r5 h12) h12 fun x18 h19 =>
  gdK x17 false (fun kk => vK (v_eql x18 (.str [46])) fun v => kk v h19) h19 fun x20 h21 =>
  vK (v_pick x17 (.bool true) x20) fun x22 =>
  bK x22
  (J15_4 E i2 r4 r6 h21)
  (vK (v_eql r5 (.str [46, 46])) fun x23 =>
  bK x23
  (vK (v_lenL r4) fun x24 =>
  vK (v_sub x24 (.int .i64 (.ofNat 1))) fun x25 =>
  vK (v_mx x25 (.int .i64 (.ofNat 0))) fun x26 =>
  vK (v_slL 1 r4 none (some x26)) fun x27 =>
  wK (dAppendF 1 16 .nils x27 h21) fun x28 h29 =>
  J15_4 E i2 x28 r6 h29)
  (wK (callK E 42 [r5] h21) fun x30 h31 =>
  vK (v_not x30) fun x32 =>
  bK x32
  (some ((.tup [.nils, (.int .i64 (.ofNat 15))]), h31))
  (n_bsl 1 1 [(.str [])] [(0, 1, r5)] h31 fun x33 h34 =>
  wK (dAppendF 1 16 r4 x33 h34) fun x35 h36 =>
  J15_4 E i2 x35 r6 h36)))))
  (J15_1 E r4 h)
noncomputable def L15_2 (E : Env) (r0 : DV) (n : Nat) : DV → DV → DV → H → Ans := Nat.rec (motive := fun _ => DV → DV → DV → H → Ans) (fun _ _ _ _ => none) (fun _ i => B15_2 E r0 i) n
def C15_2 : DC := (.loop (.seq (.seq (.reg [⟨(some p19), none, (.e (.mv (.r p6)))⟩, ⟨(some p20), none, (.e (.mv (.r p0)))⟩, ⟨(some p21), none, (.e (.lenS (.r p20)))⟩, ⟨(some p22), none, (.e (.bin .leq (.r p19) (.r p21)))⟩]) (.cond (.r p22) .skip (.exit 0))) (.seq (.block 1 (.seq (.seq (.reg [⟨(some p25), none, (.e (.mv (.r p6)))⟩, ⟨(some p26), none, (.e (.mv (.r p0)))⟩, ⟨(some p27), none, (.e (.lenS (.r p26)))⟩, ⟨(some p28), none, (.e (.bin .lss (.r p25) (.r p27)))⟩, ⟨(some p29), none, (.e (.mv (.r p28)))⟩, ⟨(some p30), (some (p29, true)), (.e (.mv (.r p0)))⟩, ⟨(some p31), (some (p29, true)), (.e (.mv (.r p6)))⟩, ⟨(some p32), (some (p29, true)), (.e (.ixS (.r p30) (.r p31)))⟩, ⟨(some p33), (some (p29, true)), (.e (.bin .neq (.r p32) (.c (.int .u8 (.ofNat 47)))))⟩, ⟨(some p34), none, (.e (.pick (.r p29) (.r p33) (.c (.bool false))))⟩]) (.cond (.r p34) (.seq (.reg [⟨(some p35), none, (.e (.mv (.r p5)))⟩, ⟨(some p36), none, (.e (.mv (.r p0)))⟩, ⟨(some p37), none, (.e (.mv (.r p6)))⟩, ⟨(some p38), none, (.e (.mv (.r p6)))⟩, ⟨(some p39), none, (.e (.bin .add (.r p38) (.c (.int .i64 (.ofNat 1)))))⟩, ⟨(some p40), none, (.e (.slS (.r p36) (some (.r p37)) (some (.r p39))))⟩, ⟨(some p41), none, (.e (.bin .add (.r p35) (.r p40)))⟩, ⟨(some p5), none, (.e (.mv (.r p41)))⟩]) (.exit 1)) .skip)) (.seq (.block 2 (.seq (.reg [⟨(some p47), none, (.e (.mv (.r p5)))⟩, ⟨(some p48), none, (.e (.bin .eql (.r p47) (.c (.str []))))⟩, ⟨(some p49), none, (.e (.mv (.r p48)))⟩, ⟨(some p50), (some (p49, false)), (.e (.mv (.r p5)))⟩, ⟨(some p51), (some (p49, false)), (.e (.bin .eql (.r p50) (.c (.str [46]))))⟩, ⟨(some p52), none, (.e (.pick (.r p49) (.c (.bool true)) (.r p51)))⟩, ⟨(some p46), none, (.e (.mv (.r p52)))⟩]) (.cond (.r p46) .skip (.seq (.reg [⟨(some p54), none, (.e (.mv (.r p5)))⟩, ⟨(some p55), none, (.e (.bin .eql (.r p54) (.c (.str [46, 46]))))⟩, ⟨(some p53), none, (.e (.mv (.r p55)))⟩]) (.cond (.r p53) (.reg [⟨(some p56), none, (.e (.mv (.r p4)))⟩, ⟨(some p57), none, (.e (.mv (.r p4)))⟩, ⟨(some p58), none, (.e (.lenL (.r p57)))⟩, ⟨(some p59), none, (.e (.bin .sub (.r p58) (.c (.int .i64 (.ofNat 1)))))⟩, ⟨(some p60), none, (.e (.mx (.r p59) (.c (.int .i64 (.ofNat 0)))))⟩, ⟨(some p61), none, (.e (.slL 1 (.r p56) none (some (.r p60))))⟩, ⟨(some p62), none, (.w (.app 1 16 (.c .nils) (.r p61)))⟩, ⟨(some p4), none, (.e (.mv (.r p62)))⟩]) (.seq (.reg [⟨(some p64), none, (.e (.mv (.r p5)))⟩, ⟨(some p65), none, (.c (.f 42 [(.r p64)]))⟩, ⟨(some p66), none, (.e (.not (.r p65)))⟩, ⟨(some p63), none, (.e (.mv (.r p66)))⟩]) (.cond (.r p63) (.seq (.reg [⟨(some p2), none, (.e (.mv (.c .nils)))⟩, ⟨(some p3), none, (.e (.mv (.c (.int .i64 (.ofNat 15)))))⟩]) .ret) (.reg [⟨(some p42), none, (.e (.mv (.r p4)))⟩, ⟨(some p43), none, (.e (.mv (.r p5)))⟩, ⟨(some p44), none, (.e (.bsl 1 1 [(.str [])] [(0, 1, (.r p43))]))⟩, ⟨(some p45), none, (.w (.app 1 16 (.r p42) (.r p44)))⟩, ⟨(some p4), none, (.e (.mv (.r p45)))⟩])))))))) C15_4))) C15_3)))
noncomputable def J15_0 (E : Env) (r0 : DV) (h : H) : Ans :=
  vK (v_eql r0 (.str [])) fun x1 =>
  gdK x1 false (fun kk => kk r0 h) h fun x2 h3 =>
  gdK x1 false (fun kk => vK (v_ixS x2 (.int .i64 (.ofNat 0))) fun v => kk v h3) h3 fun x4 h5 =>
  gdK x1 false (fun kk => vK (v_neq x4 (.int .u8 (.ofNat 47))) fun v => kk v h5) h5 fun x6 h7 =>
  vK (v_pick x1 (.bool true) x6) fun x8 =>
  gdK x8 false (fun kk => kk r0 h7) h7 fun x9 h10 =>
  gdK x8 false (fun kk => vK (v_lenS x9) fun v => kk v h10) h10 fun x11 h12 =>
  gdK x8 false (fun kk => vK (v_gtr x11 (.int .i64 (.ofNat 255))) fun v => kk v h12) h12 fun x13 h14 =>
  vK (v_pick x8 (.bool true) x13) fun x15 =>
  bK x15
  (some ((.tup [.nils, (.int .i64 (.ofNat 15))]), h14))
  (L15_2 E r0 FUEL .nils (.str []) (.int .i64 (.ofNat 1)) h14)
def C15_0 : DC := (.seq (.reg [⟨(some p2), none, (.e (.mv (.c .nils)))⟩, ⟨(some p3), none, (.e (.mv (.c (.int .i64 (.ofNat 0)))))⟩]) (.seq (.seq (.reg [⟨(some p7), none, (.e (.mv (.r p0)))⟩, ⟨(some p8), none, (.e (.bin .eql (.r p7) (.c (.str []))))⟩, ⟨(some p9), none, (.e (.mv (.r p8)))⟩, ⟨(some p10), (some (p9, false)), (.e (.mv (.r p0)))⟩, ⟨(some p11), (some (p9, false)), (.e (.ixS (.r p10) (.c (.int .i64 (.ofNat 0)))))⟩, ⟨(some p12), (some (p9, false)), (.e (.bin .neq (.r p11) (.c (.int .u8 (.ofNat 47)))))⟩, ⟨(some p13), none, (.e (.pick (.r p9) (.c (.bool true)) (.r p12)))⟩, ⟨(some p14), none, (.e (.mv (.r p13)))⟩, ⟨(some p15), (some (p14, false)), (.e (.mv (.r p0)))⟩, ⟨(some p16), (some (p14, false)), (.e (.lenS (.r p15)))⟩, ⟨(some p17), (some (p14, false)), (.e (.bin .gtr (.r p16) (.c (.int .i64 (.ofNat 255)))))⟩, ⟨(some p18), none, (.e (.pick (.r p14) (.c (.bool true)) (.r p17)))⟩]) (.cond (.r p18) (.seq (.reg [⟨(some p2), none, (.e (.mv (.c .nils)))⟩, ⟨(some p3), none, (.e (.mv (.c (.int .i64 (.ofNat 15)))))⟩]) .ret) .skip)) (.seq (.reg [⟨(some p4), none, (.e (.mv (.c .nils)))⟩]) (.seq (.reg [⟨(some p5), none, (.e (.mv (.c (.str []))))⟩]) (.seq (.seq (.reg [⟨(some p6), none, (.e (.mv (.c (.int .i64 (.ofNat 1)))))⟩]) (.block 0 C15_2)) C15_1)))))
theorem I15_1 (E : Env) : Is E C15_1 (retK3 R15) (fun σ h => J15_1 E (σ p4) h) :=
  fun σ h => by kernel_rfl
noncomputable abbrev K15_5 (E : Env) : KT2 (DV × H) := (thenK3 (fun σ h => J15_1 E (σ p4) h) (retK3 R15))
noncomputable abbrev K15_6 (E : Env) (n2 : Nat) : KT2 (DV × H) := (thenK3 (fun σ h => (L15_2 E (σ p0) n2) (σ p4) (σ p5) (σ p6) h) (blockK3 0 (K15_5 E)))
theorem I15_3 (E : Env) (n2 : Nat) : Is E C15_3 (K15_6 E n2) (fun σ h => J15_3 E (L15_2 E (σ p0) n2) (σ p4) (σ p5) (σ p6) h) :=
  fun σ h => by kernel_rfl
noncomputable abbrev K15_7 (E : Env) (n2 : Nat) : KT2 (DV × H) := (thenK3 (fun σ h => J15_3 E (L15_2 E (σ p0) n2) (σ p4) (σ p5) (σ p6) h) (K15_6 E n2))
theorem I15_4 (E : Env) (n2 : Nat) : Is E C15_4 (blockK3 1 (K15_7 E n2)) (fun σ h => J15_4 E (L15_2 E (σ p0) n2) (σ p4) (σ p6) h) :=
  fun σ h => by kernel_rfl
theorem I15_2 (E : Env) : Is E C15_2 (blockK3 0 (K15_5 E)) (fun σ h => L15_2 E (σ p0) FUEL (σ p4) (σ p5) (σ p6) h) :=
  Is.loop (fun n2 σ h => L15_2 E (σ p0) n2 (σ p4) (σ p5) (σ p6) h) (by kernel_rfl) fun n2 => Is.as (Is.seq (Is.seq (I15_3 E n2) (Is.block (Is.seq (Is.seq (I15_4 E n2) (Is.leaf _)) (Is.leaf _)))) (Is.leaf _)) fun σ h => by kernel_rfl
theorem I15_0 (E : Env) : Is E C15_0 (retK3 R15) (fun σ h => J15_0 E (σ p0) h) :=
  Is.as (Is.seq (Is.seq (Is.seq (Is.seq (Is.seq (I15_1 E) (Is.seq (Is.block (I15_2 E)) (Is.leaf _))) (Is.leaf _)) (Is.leaf _)) (Is.leaf _)) (Is.leaf _)) fun σ h => by kernel_rfl
def D15 : DF := ⟨1, 68, C15_0, R15⟩
noncomputable def S15 (E : Env) : Fun := fun args h => aS args fun r0 args => a0 args (J15_0 E r0 h)
theorem S15_eq (E : Env) (args : List DV) (h : H) : runFn E D15 args h = S15 E args h :=
  Is.fn1 (d := D15) (I15_0 E) rfl (fun r0 h => J15_0 E r0 h) (fun r0 h => by kernel_rfl) args h
/- hurdle/paths.Clean -/
def R16 : List RV := [(.r p2), (.r p3)]
noncomputable def J16_0 (E : Env) (r0 : DV) (h : H) : Ans :=
  wK (callK E 14 [r0] h) fun x1 h2 =>
  vK (v_ext 0 x1) fun x3 =>
  vK (v_ext 1 x1) fun x4 =>
  vK (v_neq x4 (.int .i64 (.ofNat 0))) fun x5 =>
  bK x5
  (some ((.tup [(.str []), x4]), h2))
  (wK (callK E 23 [x3] h2) fun x6 h7 =>
  vK (v_ext 0 x6) fun x8 =>
  vK (v_ext 1 x6) fun x9 =>
  some ((.tup [x8, x9]), h7))
def C16_0 : DC := (.seq (.reg [⟨(some p2), none, (.e (.mv (.c (.str []))))⟩, ⟨(some p3), none, (.e (.mv (.c (.int .i64 (.ofNat 0)))))⟩]) (.seq (.reg [⟨(some p7), none, (.e (.mv (.r p0)))⟩, ⟨(some p8), none, (.c (.f 14 [(.r p7)]))⟩, ⟨(some p6), none, (.e (.mv (.r p8)))⟩, ⟨(some p9), none, (.e (.ext 0 (.r p6)))⟩, ⟨(some p10), none, (.e (.ext 1 (.r p6)))⟩, ⟨(some p4), none, (.e (.mv (.r p9)))⟩, ⟨(some p5), none, (.e (.mv (.r p10)))⟩]) (.seq (.seq (.reg [⟨(some p11), none, (.e (.mv (.r p5)))⟩, ⟨(some p12), none, (.e (.bin .neq (.r p11) (.c (.int .i64 (.ofNat 0)))))⟩]) (.cond (.r p12) (.seq (.reg [⟨(some p13), none, (.e (.mv (.r p5)))⟩, ⟨(some p2), none, (.e (.mv (.c (.str []))))⟩, ⟨(some p3), none, (.e (.mv (.r p13)))⟩]) .ret) .skip)) (.seq (.reg [⟨(some p14), none, (.e (.mv (.r p4)))⟩, ⟨(some p15), none, (.c (.f 23 [(.r p14)]))⟩, ⟨(some p16), none, (.e (.ext 0 (.r p15)))⟩, ⟨(some p17), none, (.e (.ext 1 (.r p15)))⟩, ⟨(some p2), none, (.e (.mv (.r p16)))⟩, ⟨(some p3), none, (.e (.mv (.r p17)))⟩]) .ret))))
theorem I16_0 (E : Env) : Is E C16_0 (retK3 R16) (fun σ h => J16_0 E (σ p0) h) :=
  fun σ h => by kernel_rfl
def D16 : DF := ⟨1, 18, C16_0, R16⟩
noncomputable def S16 (E : Env) : Fun := fun args h => aS args fun r0 args => a0 args (J16_0 E r0 h)
theorem S16_eq (E : Env) (args : List DV) (h : H) : runFn E D16 args h = S16 E args h :=
  Is.fn1 (d := D16) (I16_0 E) rfl (fun r0 h => J16_0 E r0 h) (fun r0 h => by kernel_rfl) args h
/- hurdle/hurdleref38.Clean -/
def R17 : List RV := [(.r p2), (.r p3)]
noncomputable def J17_0 (E : Env) (r0 : DV) (h : H) : Ans :=
  wK (callK E 15 [r0] h) fun x1 h2 =>
  vK (v_ext 0 x1) fun x3 =>
  vK (v_ext 1 x1) fun x4 =>
  vK (v_neq x4 (.int .i64 (.ofNat 0))) fun x5 =>
  bK x5
  (some ((.tup [(.str []), x4]), h2))
  (wK (callK E 24 [x3] h2) fun x6 h7 =>
  vK (v_ext 0 x6) fun x8 =>
  vK (v_ext 1 x6) fun x9 =>
  some ((.tup [x8, x9]), h7))
def C17_0 : DC := (.seq (.reg [⟨(some p2), none, (.e (.mv (.c (.str []))))⟩, ⟨(some p3), none, (.e (.mv (.c (.int .i64 (.ofNat 0)))))⟩]) (.seq (.reg [⟨(some p7), none, (.e (.mv (.r p0)))⟩, ⟨(some p8), none, (.c (.f 15 [(.r p7)]))⟩, ⟨(some p6), none, (.e (.mv (.r p8)))⟩, ⟨(some p9), none, (.e (.ext 0 (.r p6)))⟩, ⟨(some p10), none, (.e (.ext 1 (.r p6)))⟩, ⟨(some p4), none, (.e (.mv (.r p9)))⟩, ⟨(some p5), none, (.e (.mv (.r p10)))⟩]) (.seq (.seq (.reg [⟨(some p11), none, (.e (.mv (.r p5)))⟩, ⟨(some p12), none, (.e (.bin .neq (.r p11) (.c (.int .i64 (.ofNat 0)))))⟩]) (.cond (.r p12) (.seq (.reg [⟨(some p13), none, (.e (.mv (.r p5)))⟩, ⟨(some p2), none, (.e (.mv (.c (.str []))))⟩, ⟨(some p3), none, (.e (.mv (.r p13)))⟩]) .ret) .skip)) (.seq (.reg [⟨(some p14), none, (.e (.mv (.r p4)))⟩, ⟨(some p15), none, (.c (.f 24 [(.r p14)]))⟩, ⟨(some p16), none, (.e (.ext 0 (.r p15)))⟩, ⟨(some p17), none, (.e (.ext 1 (.r p15)))⟩, ⟨(some p2), none, (.e (.mv (.r p16)))⟩, ⟨(some p3), none, (.e (.mv (.r p17)))⟩]) .ret))))
theorem I17_0 (E : Env) : Is E C17_0 (retK3 R17) (fun σ h => J17_0 E (σ p0) h) :=
  fun σ h => by kernel_rfl
def D17 : DF := ⟨1, 18, C17_0, R17⟩
noncomputable def S17 (E : Env) : Fun := fun args h => aS args fun r0 args => a0 args (J17_0 E r0 h)
theorem S17_eq (E : Env) (args : List DV) (h : H) : runFn E D17 args h = S17 E args h :=
  Is.fn1 (d := D17) (I17_0 E) rfl (fun r0 h => J17_0 E r0 h) (fun r0 h => by kernel_rfl) args h
/- hurdle/paths.Parent -/
def R18 : List RV := [(.r p2), (.r p3), (.r p4)]
noncomputable def J18_0 (E : Env) (r0 : DV) (h : H) : Ans :=
  wK (callK E 14 [r0] h) fun x1 h2 =>
  vK (v_ext 0 x1) fun x3 =>
  vK (v_ext 1 x1) fun x4 =>
  vK (v_neq x4 (.int .i64 (.ofNat 0))) fun x5 =>
  gdK x5 false (fun kk => kk x3 h2) h2 fun x6 h7 =>
  gdK x5 false (fun kk => vK (v_lenL x6) fun v => kk v h7) h7 fun x8 h9 =>
  gdK x5 false (fun kk => vK (v_eql x8 (.int .i64 (.ofNat 0))) fun v => kk v h9) h9 fun x10 h11 =>
  vK (v_pick x5 (.bool true) x10) fun x12 =>
  bK x12
  (some ((.tup [(.str []), (.str []), (.int .i64 (.ofNat 15))]), h11))
  (vK (v_lenL x3) fun x13 =>
  vK (v_sub x13 (.int .i64 (.ofNat 1))) fun x14 =>
  vK (v_slL 1 x3 none (some x14)) fun x15 =>
  wK (callK E 23 [x15] h11) fun x16 h17 =>
  vK (v_ext 0 x16) fun x18 =>
  vK (v_ext 1 x16) fun x19 =>
  vK (v_iaS 1 x3 x14) fun x20 =>
  vK (v_ld h17.get x20) fun x21 =>
  some ((.tup [x18, x21, (.int .i64 (.ofNat 0))]), h17))
def C18_0 : DC := (.seq (.reg [⟨(some p2), none, (.e (.mv (.c (.str []))))⟩, ⟨(some p3), none, (.e (.mv (.c (.str []))))⟩, ⟨(some p4), none, (.e (.mv (.c (.int .i64 (.ofNat 0)))))⟩]) (.seq (.reg [⟨(some p11), none, (.e (.mv (.r p0)))⟩, ⟨(some p12), none, (.c (.f 14 [(.r p11)]))⟩, ⟨(some p10), none, (.e (.mv (.r p12)))⟩, ⟨(some p13), none, (.e (.ext 0 (.r p10)))⟩, ⟨(some p14), none, (.e (.ext 1 (.r p10)))⟩, ⟨(some p5), none, (.e (.mv (.r p13)))⟩, ⟨(some p6), none, (.e (.mv (.r p14)))⟩]) (.seq (.seq (.reg [⟨(some p15), none, (.e (.mv (.r p6)))⟩, ⟨(some p16), none, (.e (.bin .neq (.r p15) (.c (.int .i64 (.ofNat 0)))))⟩, ⟨(some p17), none, (.e (.mv (.r p16)))⟩, ⟨(some p18), (some (p17, false)), (.e (.mv (.r p5)))⟩, ⟨(some p19), (some (p17, false)), (.e (.lenL (.r p18)))⟩, ⟨(some p20), (some (p17, false)), (.e (.bin .eql (.r p19) (.c (.int .i64 (.ofNat 0)))))⟩, ⟨(some p21), none, (.e (.pick (.r p17) (.c (.bool true)) (.r p20)))⟩]) (.cond (.r p21) (.seq (.reg [⟨(some p2), none, (.e (.mv (.c (.str []))))⟩, ⟨(some p3), none, (.e (.mv (.c (.str []))))⟩, ⟨(some p4), none, (.e (.mv (.c (.int .i64 (.ofNat 15)))))⟩]) .ret) .skip)) (.seq (.reg [⟨(some p22), none, (.e (.mv (.r p5)))⟩, ⟨(some p23), none, (.e (.lenL (.r p22)))⟩, ⟨(some p24), none, (.e (.bin .sub (.r p23) (.c (.int .i64 (.ofNat 1)))))⟩, ⟨(some p7), none, (.e (.mv (.r p24)))⟩]) (.seq (.reg [⟨(some p26), none, (.e (.mv (.r p5)))⟩, ⟨(some p27), none, (.e (.mv (.r p7)))⟩, ⟨(some p28), none, (.e (.slL 1 (.r p26) none (some (.r p27))))⟩, ⟨(some p29), none, (.c (.f 23 [(.r p28)]))⟩, ⟨(some p25), none, (.e (.mv (.r p29)))⟩, ⟨(some p30), none, (.e (.ext 0 (.r p25)))⟩, ⟨(some p31), none, (.e (.ext 1 (.r p25)))⟩, ⟨(some p8), none, (.e (.mv (.r p30)))⟩, ⟨(some p9), none, (.e (.mv (.r p31)))⟩]) (.seq (.drg [⟨0, ⟨(some p32), none, (.e (.mv (.r p8)))⟩, [], false⟩, ⟨1, ⟨(some p33), none, (.e (.mv (.r p5)))⟩, [], false⟩, ⟨2, ⟨(some p34), none, (.e (.mv (.r p7)))⟩, [], false⟩, ⟨3, ⟨(some p35), none, (.e (.iaS 1 (.r p33) (.r p34)))⟩, [], false⟩, ⟨4, ⟨(some p36), none, (.e (.ld (.r p35)))⟩, [], false⟩, ⟨5, ⟨(some p2), none, (.e (.mv (.r p32)))⟩, [], false⟩, ⟨6, ⟨(some p3), none, (.e (.mv (.r p36)))⟩, [], false⟩, ⟨7, ⟨(some p4), none, (.e (.mv (.c (.int .i64 (.ofNat 0)))))⟩, [], false⟩]) .ret))))))
theorem I18_0 (E : Env) : Is E C18_0 (retK3 R18) (fun σ h => J18_0 E (σ p0) h) :=
  fun σ h => by kernel_rfl
def D18 : DF := ⟨1, 37, C18_0, R18⟩
noncomputable def S18 (E : Env) : Fun := fun args h => aS args fun r0 args => a0 args (J18_0 E r0 h)
theorem S18_eq (E : Env) (args : List DV) (h : H) : runFn E D18 args h = S18 E args h :=
  Is.fn1 (d := D18) (I18_0 E) rfl (fun r0 h => J18_0 E r0 h) (fun r0 h => by kernel_rfl) args h
/- hurdle/hurdleref38.Parent -/
def R19 : List RV := [(.r p2), (.r p3), (.r p4)]
noncomputable def J19_0 (E : Env) (r0 : DV) (h : H) : Ans :=
  wK (callK E 15 [r0] h) fun x1 h2 =>
  vK (v_ext 0 x1) fun x3 =>
  vK (v_ext 1 x1) fun x4 =>
  vK (v_neq x4 (.int .i64 (.ofNat 0))) fun x5 =>
  gdK x5 false (fun kk => kk x3 h2) h2 fun x6 h7 =>
  gdK x5 false (fun kk => vK (v_lenL x6) fun v => kk v h7) h7 fun x8 h9 =>
  gdK x5 false (fun kk => vK (v_eql x8 (.int .i64 (.ofNat 0))) fun v => kk v h9) h9 fun x10 h11 =>
  vK (v_pick x5 (.bool true) x10) fun x12 =>
  bK x12
  (some ((.tup [(.str []), (.str []), (.int .i64 (.ofNat 15))]), h11))
  (vK (v_lenL x3) fun x13 =>
  vK (v_sub x13 (.int .i64 (.ofNat 1))) fun x14 =>
  vK (v_slL 1 x3 none (some x14)) fun x15 =>
  wK (callK E 24 [x15] h11) fun x16 h17 =>
  vK (v_ext 0 x16) fun x18 =>
  vK (v_ext 1 x16) fun x19 =>
  vK (v_lenL x3) fun x20 =>
  vK (v_sub x20 (.int .i64 (.ofNat 1))) fun x21 =>
  vK (v_iaS 1 x3 x21) fun x22 =>
  vK (v_ld h17.get x22) fun x23 =>
  some ((.tup [x18, x23, (.int .i64 (.ofNat 0))]), h17))
def C19_0 : DC := (.seq (.reg [⟨(some p2), none, (.e (.mv (.c (.str []))))⟩, ⟨(some p3), none, (.e (.mv (.c (.str []))))⟩, ⟨(some p4), none, (.e (.mv (.c (.int .i64 (.ofNat 0)))))⟩]) (.seq (.reg [⟨(some p10), none, (.e (.mv (.r p0)))⟩, ⟨(some p11), none, (.c (.f 15 [(.r p10)]))⟩, ⟨(some p9), none, (.e (.mv (.r p11)))⟩, ⟨(some p12), none, (.e (.ext 0 (.r p9)))⟩, ⟨(some p13), none, (.e (.ext 1 (.r p9)))⟩, ⟨(some p5), none, (.e (.mv (.r p12)))⟩, ⟨(some p6), none, (.e (.mv (.r p13)))⟩]) (.seq (.seq (.reg [⟨(some p14), none, (.e (.mv (.r p6)))⟩, ⟨(some p15), none, (.e (.bin .neq (.r p14) (.c (.int .i64 (.ofNat 0)))))⟩, ⟨(some p16), none, (.e (.mv (.r p15)))⟩, ⟨(some p17), (some (p16, false)), (.e (.mv (.r p5)))⟩, ⟨(some p18), (some (p16, false)), (.e (.lenL (.r p17)))⟩, ⟨(some p19), (some (p16, false)), (.e (.bin .eql (.r p18) (.c (.int .i64 (.ofNat 0)))))⟩, ⟨(some p20), none, (.e (.pick (.r p16) (.c (.bool true)) (.r p19)))⟩]) (.cond (.r p20) (.seq (.reg [⟨(some p2), none, (.e (.mv (.c (.str []))))⟩, ⟨(some p3), none, (.e (.mv (.c (.str []))))⟩, ⟨(some p4), none, (.e (.mv (.c (.int .i64 (.ofNat 15)))))⟩]) .ret) .skip)) (.seq (.reg [⟨(some p22), none, (.e (.mv (.r p5)))⟩, ⟨(some p23), none, (.e (.mv (.r p5)))⟩, ⟨(some p24), none, (.e (.lenL (.r p23)))⟩, ⟨(some p25), none, (.e (.bin .sub (.r p24) (.c (.int .i64 (.ofNat 1)))))⟩, ⟨(some p26), none, (.e (.slL 1 (.r p22) none (some (.r p25))))⟩, ⟨(some p27), none, (.c (.f 24 [(.r p26)]))⟩, ⟨(some p21), none, (.e (.mv (.r p27)))⟩, ⟨(some p28), none, (.e (.ext 0 (.r p21)))⟩, ⟨(some p29), none, (.e (.ext 1 (.r p21)))⟩, ⟨(some p7), none, (.e (.mv (.r p28)))⟩, ⟨(some p8), none, (.e (.mv (.r p29)))⟩]) (.seq (.drg [⟨0, ⟨(some p30), none, (.e (.mv (.r p7)))⟩, [], false⟩, ⟨1, ⟨(some p31), none, (.e (.mv (.r p5)))⟩, [], false⟩, ⟨2, ⟨(some p32), none, (.e (.mv (.r p5)))⟩, [], false⟩, ⟨3, ⟨(some p33), none, (.e (.lenL (.r p32)))⟩, [], false⟩, ⟨4, ⟨(some p34), none, (.e (.bin .sub (.r p33) (.c (.int .i64 (.ofNat 1)))))⟩, [], false⟩, ⟨5, ⟨(some p35), none, (.e (.iaS 1 (.r p31) (.r p34)))⟩, [], false⟩, ⟨6, ⟨(some p36), none, (.e (.ld (.r p35)))⟩, [], false⟩, ⟨7, ⟨(some p2), none, (.e (.mv (.r p30)))⟩, [], false⟩, ⟨8, ⟨(some p3), none, (.e (.mv (.r p36)))⟩, [], false⟩, ⟨9, ⟨(some p4), none, (.e (.mv (.c (.int .i64 (.ofNat 0)))))⟩, [], false⟩]) .ret)))))
theorem I19_0 (E : Env) : Is E C19_0 (retK3 R19) (fun σ h => J19_0 E (σ p0) h) :=
  fun σ h => by kernel_rfl
def D19 : DF := ⟨1, 37, C19_0, R19⟩
noncomputable def S19 (E : Env) : Fun := fun args h => aS args fun r0 args => a0 args (J19_0 E r0 h)
theorem S19_eq (E : Env) (args : List DV) (h : H) : runFn E D19 args h = S19 E args h :=
  Is.fn1 (d := D19) (I19_0 E) rfl (fun r0 h => J19_0 E r0 h) (fun r0 h => by kernel_rfl) args h
/- hurdle/hurdleref01.Texts -/
def R20 : List RV := [(.r p4)]
noncomputable def J20_1 (E : Env) (h : H) : Ans :=
  some ((.bool true), h)
def C20_1 : DC := (.seq (.reg [⟨(some p4), none, (.e (.mv (.c (.bool true))))⟩]) .ret)
noncomputable def B20_2 (E : Env) (r0 r1 : DV) (i2 : DV → H → Ans) (r5 : DV) (h : H) : Ans :=
  vK (v_lenL r0) fun x1 =>
  vK (v_lss r5 x1) fun x2 =>
  bK x2
  (vK (v_iaS 1 r0 r5) fun x3 =>
  vK (v_ld h.get x3) fun x4 =>
  vK (v_iaS 1 r1 r5) fun x5 =>
  vK (v_ld h.get x5) fun x6 =>
  vK (v_neq x4 x6) fun x7 =>
  bK x7
  (some ((.bool false), h))
  (vK (v_add r5 (.int .i64 (.ofNat 1))) fun x8 =>
  i2 x8 h))
  (J20_1 E h)
noncomputable def L20_2 (E : Env) (r0 r1 : DV) (n : Nat) : DV → H → Ans := Nat.rec (motive := fun _ => DV → H → Ans) (fun _ _ => none) (fun _ i => B20_2 E r0 r1 i) n
def C20_2 : DC := (.loop (.seq (.seq (.reg [⟨(some p11), none, (.e (.mv (.r p5)))⟩, ⟨(some p12), none, (.e (.mv (.r p0)))⟩, ⟨(some p13), none, (.e (.lenL (.r p12)))⟩, ⟨(some p14), none, (.e (.bin .lss (.r p11) (.r p13)))⟩]) (.cond (.r p14) .skip (.exit 0))) (.seq (.block 1 (.seq (.drg [⟨0, ⟨(some p17), none, (.e (.mv (.r p0)))⟩, [], false⟩, ⟨1, ⟨(some p18), none, (.e (.mv (.r p5)))⟩, [], false⟩, ⟨2, ⟨(some p19), none, (.e (.iaS 1 (.r p17) (.r p18)))⟩, [], false⟩, ⟨3, ⟨(some p20), none, (.e (.ld (.r p19)))⟩, [], false⟩, ⟨4, ⟨(some p21), none, (.e (.mv (.r p1)))⟩, [], false⟩, ⟨5, ⟨(some p22), none, (.e (.mv (.r p5)))⟩, [], false⟩, ⟨6, ⟨(some p23), none, (.e (.iaS 1 (.r p21) (.r p22)))⟩, [], false⟩, ⟨7, ⟨(some p24), none, (.e (.ld (.r p23)))⟩, [], false⟩, ⟨8, ⟨(some p25), none, (.e (.bin .neq (.r p20) (.r p24)))⟩, [], false⟩]) (.cond (.r p25) (.seq (.reg [⟨(some p4), none, (.e (.mv (.c (.bool false))))⟩]) .ret) .skip))) (.reg [⟨(some p15), none, (.e (.mv (.r p5)))⟩, ⟨(some p16), none, (.e (.bin .add (.r p15) (.c (.int .i64 (.ofNat 1)))))⟩, ⟨(some p5), none, (.e (.mv (.r p16)))⟩]))))
noncomputable def J20_0 (E : Env) (r0 r1 : DV) (h : H) : Ans :=
  vK (v_lenL r0) fun x1 =>
  vK (v_lenL r1) fun x2 =>
  vK (v_neq x1 x2) fun x3 =>
  bK x3
  (some ((.bool false), h))
  (L20_2 E r0 r1 FUEL (.int .i64 (.ofNat 0)) h)
def C20_0 : DC := (.seq (.reg [⟨(some p4), none, (.e (.mv (.c (.bool false))))⟩]) (.seq (.seq (.reg [⟨(some p6), none, (.e (.mv (.r p0)))⟩, ⟨(some p7), none, (.e (.lenL (.r p6)))⟩, ⟨(some p8), none, (.e (.mv (.r p1)))⟩, ⟨(some p9), none, (.e (.lenL (.r p8)))⟩, ⟨(some p10), none, (.e (.bin .neq (.r p7) (.r p9)))⟩]) (.cond (.r p10) (.seq (.reg [⟨(some p4), none, (.e (.mv (.c (.bool false))))⟩]) .ret) .skip)) (.seq (.seq (.reg [⟨(some p5), none, (.e (.mv (.c (.int .i64 (.ofNat 0)))))⟩]) (.block 0 C20_2)) C20_1)))
theorem I20_1 (E : Env) : Is E C20_1 (retK3 R20) (fun σ h => J20_1 E h) :=
  fun σ h => by kernel_rfl
noncomputable abbrev K20_3 (E : Env) : KT2 (DV × H) := (blockK3 0 (thenK3 (fun σ h => J20_1 E h) (retK3 R20)))
theorem I20_2 (E : Env) : Is E C20_2 (K20_3 E) (fun σ h => L20_2 E (σ p0) (σ p1) FUEL (σ p5) h) :=
  Is.loop (fun n2 σ h => L20_2 E (σ p0) (σ p1) n2 (σ p5) h) (by kernel_rfl) fun n2 => Is.as (Is.leaf _) fun σ h => by kernel_rfl
theorem I20_0 (E : Env) : Is E C20_0 (retK3 R20) (fun σ h => J20_0 E (σ p0) (σ p1) h) :=
  Is.as (Is.seq (Is.seq (Is.seq (I20_1 E) (Is.seq (Is.block (I20_2 E)) (Is.leaf _))) (Is.leaf _)) (Is.leaf _)) fun σ h => by kernel_rfl
def D20 : DF := ⟨2, 26, C20_0, R20⟩
noncomputable def S20 (E : Env) : Fun := fun args h => aS args fun r0 args => aS args fun r1 args => a0 args (J20_0 E r0 r1 h)
theorem S20_eq (E : Env) (args : List DV) (h : H) : runFn E D20 args h = S20 E args h :=
  Is.fn2 (d := D20) (I20_0 E) rfl (fun r0 r1 h => J20_0 E r0 r1 h) (fun r0 r1 h => by kernel_rfl) args h
/- hurdle/paths.Within -/
def R21 : List RV := [(.r p4)]
noncomputable def J21_0 (E : Env) (r0 r1 : DV) (h : H) : Ans :=
  wK (callK E 14 [r0] h) fun x1 h2 =>
  vK (v_ext 0 x1) fun x3 =>
  vK (v_ext 1 x1) fun x4 =>
  wK (callK E 14 [r1] h2) fun x5 h6 =>
  vK (v_ext 0 x5) fun x7 =>
  vK (v_ext 1 x5) fun x8 =>
  vK (v_eql x4 (.int .i64 (.ofNat 0))) fun x9 =>
  gdK x9 true (fun kk => kk x8 h6) h6 fun x10 h11 =>
  gdK x9 true (fun kk => vK (v_eql x10 (.int .i64 (.ofNat 0))) fun v => kk v h11) h11 fun x12 h13 =>
  vK (v_pick x9 x12 (.bool false)) fun x14 =>
  gdK x14 true (fun kk => kk x7 h13) h13 fun x15 h16 =>
  gdK x14 true (fun kk => vK (v_lenL x15) fun v => kk v h16) h16 fun x17 h18 =>
  gdK x14 true (fun kk => kk x3 h18) h18 fun x19 h20 =>
  gdK x14 true (fun kk => vK (v_lenL x19) fun v => kk v h20) h20 fun x21 h22 =>
  gdK x14 true (fun kk => vK (v_gtr x17 x21) fun v => kk v h22) h22 fun x23 h24 =>
  vK (v_pick x14 x23 (.bool false)) fun x25 =>
  gdK x25 true (fun kk => kk x3 h24) h24 fun x26 h27 =>
  gdK x25 true (fun kk => kk x7 h27) h27 fun x28 h29 =>
  gdK x25 true (fun kk => kk x3 h29) h29 fun x30 h31 =>
  gdK x25 true (fun kk => vK (v_lenL x30) fun v => kk v h31) h31 fun x32 h33 =>
  gdK x25 true (fun kk => vK (v_slL 1 x28 none (some x32)) fun v => kk v h33) h33 fun x34 h35 =>
  gdK x25 true (fun kk => wK (callK E 43 [x26, x34] h35) kk) h35 fun x36 h37 =>
  vK (v_pick x25 x36 (.bool false)) fun x38 =>
  some (x38, h37)
def C21_0 : DC := (.seq (.reg [⟨(some p4), none, (.e (.mv (.c (.bool false))))⟩]) (.seq (.reg [⟨(some p10), none, (.e (.mv (.r p0)))⟩, ⟨(some p11), none, (.c (.f 14 [(.r p10)]))⟩, ⟨(some p9), none, (.e (.mv (.r p11)))⟩, ⟨(some p12), none, (.e (.ext 0 (.r p9)))⟩, ⟨(some p13), none, (.e (.ext 1 (.r p9)))⟩, ⟨(some p5), none, (.e (.mv (.r p12)))⟩, ⟨(some p6), none, (.e (.mv (.r p13)))⟩]) (.seq (.reg [⟨(some p15), none, (.e (.mv (.r p1)))⟩, ⟨(some p16), none, (.c (.f 14 [(.r p15)]))⟩, ⟨(some p14), none, (.e (.mv (.r p16)))⟩, ⟨(some p17), none, (.e (.ext 0 (.r p14)))⟩, ⟨(some p18), none, (.e (.ext 1 (.r p14)))⟩, ⟨(some p7), none, (.e (.mv (.r p17)))⟩, ⟨(some p8), none, (.e (.mv (.r p18)))⟩]) (.seq (.reg [⟨(some p19), none, (.e (.mv (.r p6)))⟩, ⟨(some p20), none, (.e (.bin .eql (.r p19) (.c (.int .i64 (.ofNat 0)))))⟩, ⟨(some p21), none, (.e (.mv (.r p20)))⟩, ⟨(some p22), (some (p21, true)), (.e (.mv (.r p8)))⟩, ⟨(some p23), (some (p21, true)), (.e (.bin .eql (.r p22) (.c (.int .i64 (.ofNat 0)))))⟩, ⟨(some p24), none, (.e (.pick (.r p21) (.r p23) (.c (.bool false))))⟩, ⟨(some p25), none, (.e (.mv (.r p24)))⟩, ⟨(some p26), (some (p25, true)), (.e (.mv (.r p7)))⟩, ⟨(some p27), (some (p25, true)), (.e (.lenL (.r p26)))⟩, ⟨(some p28), (some (p25, true)), (.e (.mv (.r p5)))⟩, ⟨(some p29), (some (p25, true)), (.e (.lenL (.r p28)))⟩, ⟨(some p30), (some (p25, true)), (.e (.bin .gtr (.r p27) (.r p29)))⟩, ⟨(some p31), none, (.e (.pick (.r p25) (.r p30) (.c (.bool false))))⟩, ⟨(some p32), none, (.e (.mv (.r p31)))⟩, ⟨(some p33), (some (p32, true)), (.e (.mv (.r p5)))⟩, ⟨(some p34), (some (p32, true)), (.e (.mv (.r p7)))⟩, ⟨(some p35), (some (p32, true)), (.e (.mv (.r p5)))⟩, ⟨(some p36), (some (p32, true)), (.e (.lenL (.r p35)))⟩, ⟨(some p37), (some (p32, true)), (.e (.slL 1 (.r p34) none (some (.r p36))))⟩, ⟨(some p38), (some (p32, true)), (.c (.f 43 [(.r p33), (.r p37)]))⟩, ⟨(some p39), none, (.e (.pick (.r p32) (.r p38) (.c (.bool false))))⟩, ⟨(some p4), none, (.e (.mv (.r p39)))⟩]) .ret))))
theorem I21_0 (E : Env) : Is E C21_0 (retK3 R21) (fun σ h => J21_0 E (σ p0) (σ p1) h) :=
  fun σ h => by kernel_rfl
def D21 : DF := ⟨2, 40, C21_0, R21⟩
noncomputable def S21 (E : Env) : Fun := fun args h => aS args fun r0 args => aS args fun r1 args => a0 args (J21_0 E r0 r1 h)
theorem S21_eq (E : Env) (args : List DV) (h : H) : runFn E D21 args h = S21 E args h :=
  Is.fn2 (d := D21) (I21_0 E) rfl (fun r0 r1 h => J21_0 E r0 r1 h) (fun r0 r1 h => by kernel_rfl) args h
/- hurdle/hurdleref38.Within -/
def R22 : List RV := [(.r p4)]
noncomputable def J22_1 (E : Env) (h : H) : Ans :=
  some ((.bool true), h)
def C22_1 : DC := (.seq (.reg [⟨(some p4), none, (.e (.mv (.c (.bool true))))⟩]) .ret)
noncomputable def B22_2 (E : Env) (r5 r7 : DV) (i2 : DV → H → Ans) (r9 : DV) (h : H) : Ans :=
  vK (v_lenL r5) fun x1 =>
  vK (v_lss r9 x1) fun x2 =>
  bK x2
  (vK (v_iaS 1 r5 r9) fun x3 =>
  vK (v_ld h.get x3) fun x4 =>
  vK (v_iaS 1 r7 r9) fun x5 =>
  vK (v_ld h.get x5) fun x6 =>
  vK (v_neq x4 x6) fun x7 =>
  bK x7
  (some ((.bool false), h))
  (vK (v_add r9 (.int .i64 (.ofNat 1))) fun x8 =>
  i2 x8 h))
  (J22_1 E h)
noncomputable def L22_2 (E : Env) (r5 r7 : DV) (n : Nat) : DV → H → Ans := Nat.rec (motive := fun _ => DV → H → Ans) (fun _ _ => none) (fun _ i => B22_2 E r5 r7 i) n
def C22_2 : DC := (.loop (.seq (.seq (.reg [⟨(some p33), none, (.e (.mv (.r p9)))⟩, ⟨(some p34), none, (.e (.mv (.r p5)))⟩, ⟨(some p35), none, (.e (.lenL (.r p34)))⟩, ⟨(some p36), none, (.e (.bin .lss (.r p33) (.r p35)))⟩]) (.cond (.r p36) .skip (.exit 0))) (.seq (.block 1 (.seq (.drg [⟨0, ⟨(some p39), none, (.e (.mv (.r p5)))⟩, [], false⟩, ⟨1, ⟨(some p40), none, (.e (.mv (.r p9)))⟩, [], false⟩, ⟨2, ⟨(some p41), none, (.e (.iaS 1 (.r p39) (.r p40)))⟩, [], false⟩, ⟨3, ⟨(some p42), none, (.e (.ld (.r p41)))⟩, [], false⟩, ⟨4, ⟨(some p43), none, (.e (.mv (.r p7)))⟩, [], false⟩, ⟨5, ⟨(some p44), none, (.e (.mv (.r p9)))⟩, [], false⟩, ⟨6, ⟨(some p45), none, (.e (.iaS 1 (.r p43) (.r p44)))⟩, [], false⟩, ⟨7, ⟨(some p46), none, (.e (.ld (.r p45)))⟩, [], false⟩, ⟨8, ⟨(some p47), none, (.e (.bin .neq (.r p42) (.r p46)))⟩, [], false⟩]) (.cond (.r p47) (.seq (.reg [⟨(some p4), none, (.e (.mv (.c (.bool false))))⟩]) .ret) .skip))) (.reg [⟨(some p37), none, (.e (.mv (.r p9)))⟩, ⟨(some p38), none, (.e (.bin .add (.r p37) (.c (.int .i64 (.ofNat 1)))))⟩, ⟨(some p9), none, (.e (.mv (.r p38)))⟩]))))
noncomputable def J22_0 (E : Env) (r0 r1 : DV) (h : H) : Ans :=
  wK (callK E 15 [r0] h) fun x1 h2 =>
  vK (v_ext 0 x1) fun x3 =>
  vK (v_ext 1 x1) fun x4 =>
  wK (callK E 15 [r1] h2) fun x5 h6 =>
  vK (v_ext 0 x5) fun x7 =>
  vK (v_ext 1 x5) fun x8 =>
  vK (v_neq x4 (.int .i64 (.ofNat 0))) fun x9 =>
  gdK x9 false (fun kk => kk x8 h6) h6 fun x10 h11 =>
  gdK x9 false (fun kk => vK (v_neq x10 (.int .i64 (.ofNat 0))) fun v => kk v h11) h11 fun x12 h13 =>
  vK (v_pick x9 (.bool true) x12) fun x14 =>
  gdK x14 false (fun kk => kk x7 h13) h13 fun x15 h16 =>
  gdK x14 false (fun kk => vK (v_lenL x15) fun v => kk v h16) h16 fun x17 h18 =>
  gdK x14 false (fun kk => kk x3 h18) h18 fun x19 h20 =>
  gdK x14 false (fun kk => vK (v_lenL x19) fun v => kk v h20) h20 fun x21 h22 =>
  gdK x14 false (fun kk => vK (v_leq x17 x21) fun v => kk v h22) h22 fun x23 h24 =>
  vK (v_pick x14 (.bool true) x23) fun x25 =>
  bK x25
  (some ((.bool false), h24))
  (L22_2 E x3 x7 FUEL (.int .i64 (.ofNat 0)) h24)
def C22_0 : DC := (.seq (.reg [⟨(some p4), none, (.e (.mv (.c (.bool false))))⟩]) (.seq (.reg [⟨(some p11), none, (.e (.mv (.r p0)))⟩, ⟨(some p12), none, (.c (.f 15 [(.r p11)]))⟩, ⟨(some p10), none, (.e (.mv (.r p12)))⟩, ⟨(some p13), none, (.e (.ext 0 (.r p10)))⟩, ⟨(some p14), none, (.e (.ext 1 (.r p10)))⟩, ⟨(some p5), none, (.e (.mv (.r p13)))⟩, ⟨(some p6), none, (.e (.mv (.r p14)))⟩]) (.seq (.reg [⟨(some p16), none, (.e (.mv (.r p1)))⟩, ⟨(some p17), none, (.c (.f 15 [(.r p16)]))⟩, ⟨(some p15), none, (.e (.mv (.r p17)))⟩, ⟨(some p18), none, (.e (.ext 0 (.r p15)))⟩, ⟨(some p19), none, (.e (.ext 1 (.r p15)))⟩, ⟨(some p7), none, (.e (.mv (.r p18)))⟩, ⟨(some p8), none, (.e (.mv (.r p19)))⟩]) (.seq (.seq (.reg [⟨(some p20), none, (.e (.mv (.r p6)))⟩, ⟨(some p21), none, (.e (.bin .neq (.r p20) (.c (.int .i64 (.ofNat 0)))))⟩, ⟨(some p22), none, (.e (.mv (.r p21)))⟩, ⟨(some p23), (some (p22, false)), (.e (.mv (.r p8)))⟩, ⟨(some p24), (some (p22, false)), (.e (.bin .neq (.r p23) (.c (.int .i64 (.ofNat 0)))))⟩, ⟨(some p25), none, (.e (.pick (.r p22) (.c (.bool true)) (.r p24)))⟩, ⟨(some p26), none, (.e (.mv (.r p25)))⟩, ⟨(some p27), (some (p26, false)), (.e (.mv (.r p7)))⟩, ⟨(some p28), (some (p26, false)), (.e (.lenL (.r p27)))⟩, ⟨(some p29), (some (p26, false)), (.e (.mv (.r p5)))⟩, ⟨(some p30), (some (p26, false)), (.e (.lenL (.r p29)))⟩, ⟨(some p31), (some (p26, false)), (.e (.bin .leq (.r p28) (.r p30)))⟩, ⟨(some p32), none, (.e (.pick (.r p26) (.c (.bool true)) (.r p31)))⟩]) (.cond (.r p32) (.seq (.reg [⟨(some p4), none, (.e (.mv (.c (.bool false))))⟩]) .ret) .skip)) (.seq (.seq (.reg [⟨(some p9), none, (.e (.mv (.c (.int .i64 (.ofNat 0)))))⟩]) (.block 0 C22_2)) C22_1)))))
theorem I22_1 (E : Env) : Is E C22_1 (retK3 R22) (fun σ h => J22_1 E h) :=
  fun σ h => by kernel_rfl
noncomputable abbrev K22_3 (E : Env) : KT2 (DV × H) := (blockK3 0 (thenK3 (fun σ h => J22_1 E h) (retK3 R22)))
theorem I22_2 (E : Env) : Is E C22_2 (K22_3 E) (fun σ h => L22_2 E (σ p5) (σ p7) FUEL (σ p9) h) :=
  Is.loop (fun n2 σ h => L22_2 E (σ p5) (σ p7) n2 (σ p9) h) (by kernel_rfl) fun n2 => Is.as (Is.leaf _) fun σ h => by kernel_rfl
theorem I22_0 (E : Env) : Is E C22_0 (retK3 R22) (fun σ h => J22_0 E (σ p0) (σ p1) h) :=
  Is.as (Is.seq (Is.seq (Is.seq (Is.seq (Is.seq (I22_1 E) (Is.seq (Is.block (I22_2 E)) (Is.leaf _))) (Is.leaf _)) (Is.leaf _)) (Is.leaf _)) (Is.leaf _)) fun σ h => by kernel_rfl
def D22 : DF := ⟨2, 48, C22_0, R22⟩
noncomputable def S22 (E : Env) : Fun := fun args h => aS args fun r0 args => aS args fun r1 args => a0 args (J22_0 E r0 r1 h)
theorem S22_eq (E : Env) (args : List DV) (h : H) : runFn E D22 args h = S22 E args h :=
  Is.fn2 (d := D22) (I22_0 E) rfl (fun r0 r1 h => J22_0 E r0 r1 h) (fun r0 r1 h => by kernel_rfl) args h
/- hurdle/paths.Join -/
def R23 : List RV := [(.r p2), (.r p3)]
noncomputable def J23_1 (E : Env) (r0 : DV) (h : H) : Ans :=
  wK (callK E 44 [r0, (.str [47])] h) fun x1 h2 =>
  vK (v_add (.str [47]) x1) fun x3 =>
  some ((.tup [x3, (.int .i64 (.ofNat 0))]), h2)
def C23_1 : DC := (.seq (.reg [⟨(some p26), none, (.e (.mv (.r p0)))⟩, ⟨(some p27), none, (.c (.f 44 [(.r p26), (.c (.str [47]))]))⟩, ⟨(some p28), none, (.e (.bin .add (.c (.str [47])) (.r p27)))⟩, ⟨(some p2), none, (.e (.mv (.r p28)))⟩, ⟨(some p3), none, (.e (.mv (.c (.int .i64 (.ofNat 0)))))⟩]) .ret)
noncomputable def B23_2 (E : Env) (r0 r7 r8 : DV) (i2 : DV → DV → H → Ans) (r4 r9 : DV) (h : H) : Ans :=
  vK (v_lss r9 r8) fun x1 =>
  bK x1
  (vK (v_iaS 1 r7 r9) fun x2 =>
  vK (v_ld h.get x2) fun x3 =>
  vK (v_lenS x3) fun x4 =>
  vK (v_add (.int .i64 (.ofNat 1)) x4) fun x5 =>
  vK (v_add r4 x5) fun x6 =>
  wK (callK E 41 [x3] h) fun x7 h8 =>
  vK (v_not x7) fun x9 =>
  gdK x9 false (fun kk => kk x6 h8) h8 fun x10 h11 =>
  gdK x9 false (fun kk => vK (v_gtr x10 (.int .i64 (.ofNat 255))) fun v => kk v h11) h11 fun x12 h13 =>
  vK (v_pick x9 (.bool true) x12) fun x14 =>
  bK x14
  (some ((.tup [(.str []), (.int .i64 (.ofNat 15))]), h13))
  (vK (v_add r9 (.int .i64 (.ofNat 1))) fun x15 =>
  i2 x6 x15 h13))
  (J23_1 E r0 h)
noncomputable def L23_2 (E : Env) (r0 r7 r8 : DV) (n : Nat) : DV → DV → H → Ans := Nat.rec (motive := fun _ => DV → DV → H → Ans) (fun _ _ _ => none) (fun _ i => B23_2 E r0 r7 r8 i) n
def C23_2 : DC := (.loop (.seq (.reg [⟨(some p10), none, (.e (.bin .lss (.r p9) (.r p8)))⟩]) (.seq (.cond (.r p10) .skip (.exit 0)) (.seq (.block 1 (.seq (.reg [⟨(some p11), none, (.e (.iaS 1 (.r p7) (.r p9)))⟩, ⟨(some p12), none, (.e (.ld (.r p11)))⟩, ⟨(some p6), none, (.e (.mv (.r p12)))⟩]) (.seq (.reg [⟨(some p13), none, (.e (.mv (.r p4)))⟩, ⟨(some p14), none, (.e (.mv (.r p6)))⟩, ⟨(some p15), none, (.e (.lenS (.r p14)))⟩, ⟨(some p16), none, (.e (.bin .add (.c (.int .i64 (.ofNat 1))) (.r p15)))⟩, ⟨(some p17), none, (.e (.bin .add (.r p13) (.r p16)))⟩, ⟨(some p4), none, (.e (.mv (.r p17)))⟩]) (.seq (.reg [⟨(some p18), none, (.e (.mv (.r p6)))⟩, ⟨(some p19), none, (.c (.f 41 [(.r p18)]))⟩, ⟨(some p20), none, (.e (.not (.r p19)))⟩, ⟨(some p21), none, (.e (.mv (.r p20)))⟩, ⟨(some p22), (some (p21, false)), (.e (.mv (.r p4)))⟩, ⟨(some p23), (some (p21, false)), (.e (.bin .gtr (.r p22) (.c (.int .i64 (.ofNat 255)))))⟩, ⟨(some p24), none, (.e (.pick (.r p21) (.c (.bool true)) (.r p23)))⟩]) (.cond (.r p24) (.seq (.reg [⟨(some p2), none, (.e (.mv (.c (.str []))))⟩, ⟨(some p3), none, (.e (.mv (.c (.int .i64 (.ofNat 15)))))⟩]) .ret) .skip))))) (.reg [⟨(some p25), none, (.e (.bin .add (.r p9) (.c (.int .i64 (.ofNat 1)))))⟩, ⟨(some p9), none, (.e (.mv (.r p25)))⟩])))))
noncomputable def J23_0 (E : Env) (r0 : DV) (h : H) : Ans :=
  vK (v_lenL r0) fun x1 =>
  L23_2 E r0 r0 x1 FUEL (.int .i64 (.ofNat 0)) (.int .i64 (.ofNat 0)) h
def C23_0 : DC := (.seq (.reg [⟨(some p2), none, (.e (.mv (.c (.str []))))⟩, ⟨(some p3), none, (.e (.mv (.c (.int .i64 (.ofNat 0)))))⟩]) (.seq (.reg [⟨(some p4), none, (.e (.mv (.c (.int .i64 (.ofNat 0)))))⟩]) (.seq (.seq (.reg [⟨(some p7), none, (.e (.mv (.r p0)))⟩, ⟨(some p8), none, (.e (.lenL (.r p7)))⟩, ⟨(some p9), none, (.e (.mv (.c (.int .i64 (.ofNat 0)))))⟩]) (.block 0 C23_2)) C23_1)))
theorem I23_1 (E : Env) : Is E C23_1 (retK3 R23) (fun σ h => J23_1 E (σ p0) h) :=
  fun σ h => by kernel_rfl
noncomputable abbrev K23_3 (E : Env) : KT2 (DV × H) := (thenK3 (fun σ h => J23_1 E (σ p0) h) (retK3 R23))
theorem I23_2 (E : Env) : Is E C23_2 (blockK3 0 (K23_3 E)) (fun σ h => L23_2 E (σ p0) (σ p7) (σ p8) FUEL (σ p4) (σ p9) h) :=
  Is.loop (fun n2 σ h => L23_2 E (σ p0) (σ p7) (σ p8) n2 (σ p4) (σ p9) h) (by kernel_rfl) fun n2 => Is.as (Is.leaf _) fun σ h => by kernel_rfl
theorem I23_0 (E : Env) : Is E C23_0 (retK3 R23) (fun σ h => J23_0 E (σ p0) h) :=
  Is.as (Is.seq (Is.seq (Is.seq (I23_1 E) (Is.seq (Is.block (I23_2 E)) (Is.leaf _))) (Is.leaf _)) (Is.leaf _)) fun σ h => by kernel_rfl
def D23 : DF := ⟨1, 29, C23_0, R23⟩
noncomputable def S23 (E : Env) : Fun := fun args h => aS args fun r0 args => a0 args (J23_0 E r0 h)
theorem S23_eq (E : Env) (args : List DV) (h : H) : runFn E D23 args h = S23 E args h :=
  Is.fn1 (d := D23) (I23_0 E) rfl (fun r0 h => J23_0 E r0 h) (fun r0 h => by kernel_rfl) args h
/- hurdle/hurdleref38.Join -/
def R24 : List RV := [(.r p2), (.r p3)]
noncomputable def J24_1 (E : Env) (r4 : DV) (h : H) : Ans :=
  vK (v_eql r4 (.str [])) fun x1 =>
  bK x1
  (some ((.tup [(.str [47]), (.int .i64 (.ofNat 0))]), h))
  (some ((.tup [r4, (.int .i64 (.ofNat 0))]), h))
def C24_1 : DC := (.seq (.seq (.reg [⟨(some p36), none, (.e (.mv (.r p4)))⟩, ⟨(some p37), none, (.e (.bin .eql (.r p36) (.c (.str []))))⟩]) (.cond (.r p37) (.seq (.reg [⟨(some p2), none, (.e (.mv (.c (.str [47]))))⟩, ⟨(some p3), none, (.e (.mv (.c (.int .i64 (.ofNat 0)))))⟩]) .ret) .skip)) (.seq (.reg [⟨(some p38), none, (.e (.mv (.r p4)))⟩, ⟨(some p2), none, (.e (.mv (.r p38)))⟩, ⟨(some p3), none, (.e (.mv (.c (.int .i64 (.ofNat 0)))))⟩]) .ret))
noncomputable def B24_2 (E : Env) (r0 : DV) (i2 : DV → DV → H → Ans) (r4 r5 : DV) (h : H) : Ans :=
  vK (v_lenL r0) fun x1 =>
  vK (v_lss r5 x1) fun x2 =>
  bK x2
  (vK (v_iaS 1 r0 r5) fun x3 =>
  vK (v_ld h.get x3) fun x4 =>
  wK (callK E 42 [x4] h) fun x5 h6 =>
  vK (v_not x5) fun x7 =>
  gdK x7 false (fun kk => kk r4 h6) h6 fun x8 h9 =>
  gdK x7 false (fun kk => vK (v_lenS x8) fun v => kk v h9) h9 fun x10 h11 =>
  gdK x7 false (fun kk => kk r0 h11) h11 fun x12 h13 =>
  gdK x7 false (fun kk => kk r5 h13) h13 fun x14 h15 =>
  gdK x7 false (fun kk => vK (v_iaS 1 x12 x14) fun v => kk v h15) h15 fun x16 h17 =>
  gdK x7 false (fun kk => vK (v_ld h17.get x16) fun v => kk v h17) h17 fun x18 h19 =>
  gdK x7 false (fun kk => vK (v_lenS x18) fun v => kk v h19) h19 fun x20 h21 =>
  gdK x7 false (fun kk => vK (v_add x10 x20) fun v => kk v h21) h21 fun x22 h23 =>
  gdK x7 false (fun kk => vK (v_geq x22 (.int .i64 (.ofNat 255))) fun v => kk v h23) h23 fun x24 h25 =>
  vK (v_pick x7 (.bool true) x24) fun x26 =>
  bK x26
  (some ((.tup [(.str []), (.int .i64 (.ofNat 15))]), h25))
  (vK (v_iaS 1 r0 r5) fun x27 =>
  vK (v_ld h25.get x27) fun x28 =>
  vK (v_add (.str [47]) x28) fun x29 =>
  vK (v_add r4 x29) fun x30 =>
  vK (v_add r5 (.int .i64 (.ofNat 1))) fun x31 =>
  i2 x30 x31 h25))
  (J24_1 E r4 h)
noncomputable def L24_2 (E : Env) (r0 : DV) (n : Nat) : DV → DV → H → Ans := Nat.rec (motive := fun _ => DV → DV → H → Ans) (fun _ _ _ => none) (fun _ i => B24_2 E r0 i) n
def C24_2 : DC := (.loop (.seq (.seq (.reg [⟨(some p6), none, (.e (.mv (.r p5)))⟩, ⟨(some p7), none, (.e (.mv (.r p0)))⟩, ⟨(some p8), none, (.e (.lenL (.r p7)))⟩, ⟨(some p9), none, (.e (.bin .lss (.r p6) (.r p8)))⟩]) (.cond (.r p9) .skip (.exit 0))) (.seq (.block 1 (.seq (.seq (.reg [⟨(some p12), none, (.e (.mv (.r p0)))⟩, ⟨(some p13), none, (.e (.mv (.r p5)))⟩, ⟨(some p14), none, (.e (.iaS 1 (.r p12) (.r p13)))⟩, ⟨(some p15), none, (.e (.ld (.r p14)))⟩, ⟨(some p16), none, (.c (.f 42 [(.r p15)]))⟩, ⟨(some p17), none, (.e (.not (.r p16)))⟩, ⟨(some p18), none, (.e (.mv (.r p17)))⟩, ⟨(some p19), (some (p18, false)), (.e (.mv (.r p4)))⟩, ⟨(some p20), (some (p18, false)), (.e (.lenS (.r p19)))⟩, ⟨(some p21), (some (p18, false)), (.e (.mv (.r p0)))⟩, ⟨(some p22), (some (p18, false)), (.e (.mv (.r p5)))⟩, ⟨(some p23), (some (p18, false)), (.e (.iaS 1 (.r p21) (.r p22)))⟩, ⟨(some p24), (some (p18, false)), (.e (.ld (.r p23)))⟩, ⟨(some p25), (some (p18, false)), (.e (.lenS (.r p24)))⟩, ⟨(some p26), (some (p18, false)), (.e (.bin .add (.r p20) (.r p25)))⟩, ⟨(some p27), (some (p18, false)), (.e (.bin .geq (.r p26) (.c (.int .i64 (.ofNat 255)))))⟩, ⟨(some p28), none, (.e (.pick (.r p18) (.c (.bool true)) (.r p27)))⟩]) (.cond (.r p28) (.seq (.reg [⟨(some p2), none, (.e (.mv (.c (.str []))))⟩, ⟨(some p3), none, (.e (.mv (.c (.int .i64 (.ofNat 15)))))⟩]) .ret) .skip)) (.reg [⟨(some p29), none, (.e (.mv (.r p4)))⟩, ⟨(some p30), none, (.e (.mv (.r p0)))⟩, ⟨(some p31), none, (.e (.mv (.r p5)))⟩, ⟨(some p32), none, (.e (.iaS 1 (.r p30) (.r p31)))⟩, ⟨(some p33), none, (.e (.ld (.r p32)))⟩, ⟨(some p34), none, (.e (.bin .add (.c (.str [47])) (.r p33)))⟩, ⟨(some p35), none, (.e (.bin .add (.r p29) (.r p34)))⟩, ⟨(some p4), none, (.e (.mv (.r p35)))⟩]))) (.reg [⟨(some p10), none, (.e (.mv (.r p5)))⟩, ⟨(some p11), none, (.e (.bin .add (.r p10) (.c (.int .i64 (.ofNat 1)))))⟩, ⟨(some p5), none, (.e (.mv (.r p11)))⟩]))))
noncomputable def J24_0 (E : Env) (r0 : DV) (h : H) : Ans :=
  L24_2 E r0 FUEL (.str []) (.int .i64 (.ofNat 0)) h
def C24_0 : DC := (.seq (.reg [⟨(some p2), none, (.e (.mv (.c (.str []))))⟩, ⟨(some p3), none, (.e (.mv (.c (.int .i64 (.ofNat 0)))))⟩]) (.seq (.reg [⟨(some p4), none, (.e (.mv (.c (.str []))))⟩]) (.seq (.seq (.reg [⟨(some p5), none, (.e (.mv (.c (.int .i64 (.ofNat 0)))))⟩]) (.block 0 C24_2)) C24_1)))
theorem I24_1 (E : Env) : Is E C24_1 (retK3 R24) (fun σ h => J24_1 E (σ p4) h) :=
  fun σ h => by kernel_rfl
noncomputable abbrev K24_3 (E : Env) : KT2 (DV × H) := (thenK3 (fun σ h => J24_1 E (σ p4) h) (retK3 R24))
theorem I24_2 (E : Env) : Is E C24_2 (blockK3 0 (K24_3 E)) (fun σ h => L24_2 E (σ p0) FUEL (σ p4) (σ p5) h) :=
  Is.loop (fun n2 σ h => L24_2 E (σ p0) n2 (σ p4) (σ p5) h) (by kernel_rfl) fun n2 => Is.as (Is.leaf _) fun σ h => by kernel_rfl
theorem I24_0 (E : Env) : Is E C24_0 (retK3 R24) (fun σ h => J24_0 E (σ p0) h) :=
  Is.as (Is.seq (Is.seq (Is.seq (I24_1 E) (Is.seq (Is.block (I24_2 E)) (Is.leaf _))) (Is.leaf _)) (Is.leaf _)) fun σ h => by kernel_rfl
def D24 : DF := ⟨1, 39, C24_0, R24⟩
noncomputable def S24 (E : Env) : Fun := fun args h => aS args fun r0 args => a0 args (J24_0 E r0 h)
theorem S24_eq (E : Env) (args : List DV) (h : H) : runFn E D24 args h = S24 E args h :=
  Is.fn1 (d := D24) (I24_0 E) rfl (fun r0 h => J24_0 E r0 h) (fun r0 h => by kernel_rfl) args h
/- strings.Split -/
def R40 : List RV := [(.r p4)]
noncomputable def J40_0 (E : Env) (r0 r1 : DV) (h : H) : Ans :=
  wK (callK E 49 [r0, r1, (.int .i64 (.ofNat 0)), (.int .i64 (.negSucc 0))] h) fun x1 h2 =>
  some (x1, h2)
def C40_0 : DC := (.seq (.reg [⟨(some p4), none, (.e (.mv (.c .nils)))⟩]) (.seq (.reg [⟨(some p5), none, (.e (.mv (.r p0)))⟩, ⟨(some p6), none, (.e (.mv (.r p1)))⟩, ⟨(some p7), none, (.c (.f 49 [(.r p5), (.r p6), (.c (.int .i64 (.ofNat 0))), (.c (.int .i64 (.negSucc 0)))]))⟩, ⟨(some p4), none, (.e (.mv (.r p7)))⟩]) .ret))
theorem I40_0 (E : Env) : Is E C40_0 (retK3 R40) (fun σ h => J40_0 E (σ p0) (σ p1) h) :=
  fun σ h => by kernel_rfl
def D40 : DF := ⟨2, 8, C40_0, R40⟩
noncomputable def S40 (E : Env) : Fun := fun args h => aS args fun r0 args => aS args fun r1 args => a0 args (J40_0 E r0 r1 h)
theorem S40_eq (E : Env) (args : List DV) (h : H) : runFn E D40 args h = S40 E args h :=
  Is.fn2 (d := D40) (I40_0 E) rfl (fun r0 r1 h => J40_0 E r0 r1 h) (fun r0 r1 h => by kernel_rfl) args h
/- hurdle/dirs.Name -/
def R41 : List RV := [(.r p2)]
noncomputable def J41_0 (E : Env) (r0 : DV) (h : H) : Ans :=
  vK (v_neq r0 (.str [])) fun x1 =>
  gdK x1 true (fun kk => kk r0 h) h fun x2 h3 =>
  gdK x1 true (fun kk => vK (v_lenS x2) fun v => kk v h3) h3 fun x4 h5 =>
  gdK x1 true (fun kk => vK (v_leq x4 (.int .i64 (.ofNat 28))) fun v => kk v h5) h5 fun x6 h7 =>
  vK (v_pick x1 x6 (.bool false)) fun x8 =>
  gdK x8 true (fun kk => kk r0 h7) h7 fun x9 h10 =>
  gdK x8 true (fun kk => vK (v_neq x9 (.str [46])) fun v => kk v h10) h10 fun x11 h12 =>
  vK (v_pick x8 x11 (.bool false)) fun x13 =>
  gdK x13 true (fun kk => kk r0 h12) h12 fun x14 h15 =>
  gdK x13 true (fun kk => vK (v_neq x14 (.str [46, 46])) fun v => kk v h15) h15 fun x16 h17 =>
  vK (v_pick x13 x16 (.bool false)) fun x18 =>
  gdK x18 true (fun kk => kk r0 h17) h17 fun x19 h20 =>
  gdK x18 true (fun kk => wK (callK E 50 [x19, (.int .u8 (.ofNat 47))] h20) kk) h20 fun x21 h22 =>
  gdK x18 true (fun kk => vK (v_lss x21 (.int .i64 (.ofNat 0))) fun v => kk v h22) h22 fun x23 h24 =>
  vK (v_pick x18 x23 (.bool false)) fun x25 =>
  gdK x25 true (fun kk => kk r0 h24) h24 fun x26 h27 =>
  gdK x25 true (fun kk => wK (callK E 50 [x26, (.int .u8 (.ofNat 0))] h27) kk) h27 fun x28 h29 =>
  gdK x25 true (fun kk => vK (v_lss x28 (.int .i64 (.ofNat 0))) fun v => kk v h29) h29 fun x30 h31 =>
  vK (v_pick x25 x30 (.bool false)) fun x32 =>
  some (x32, h31)
def C41_0 : DC := (.seq (.reg [⟨(some p2), none, (.e (.mv (.c (.bool false))))⟩]) (.seq (.reg [⟨(some p3), none, (.e (.mv (.r p0)))⟩, ⟨(some p4), none, (.e (.bin .neq (.r p3) (.c (.str []))))⟩, ⟨(some p5), none, (.e (.mv (.r p4)))⟩, ⟨(some p6), (some (p5, true)), (.e (.mv (.r p0)))⟩, ⟨(some p7), (some (p5, true)), (.e (.lenS (.r p6)))⟩, ⟨(some p8), (some (p5, true)), (.e (.bin .leq (.r p7) (.c (.int .i64 (.ofNat 28)))))⟩, ⟨(some p9), none, (.e (.pick (.r p5) (.r p8) (.c (.bool false))))⟩, ⟨(some p10), none, (.e (.mv (.r p9)))⟩, ⟨(some p11), (some (p10, true)), (.e (.mv (.r p0)))⟩, ⟨(some p12), (some (p10, true)), (.e (.bin .neq (.r p11) (.c (.str [46]))))⟩, ⟨(some p13), none, (.e (.pick (.r p10) (.r p12) (.c (.bool false))))⟩, ⟨(some p14), none, (.e (.mv (.r p13)))⟩, ⟨(some p15), (some (p14, true)), (.e (.mv (.r p0)))⟩, ⟨(some p16), (some (p14, true)), (.e (.bin .neq (.r p15) (.c (.str [46, 46]))))⟩, ⟨(some p17), none, (.e (.pick (.r p14) (.r p16) (.c (.bool false))))⟩, ⟨(some p18), none, (.e (.mv (.r p17)))⟩, ⟨(some p19), (some (p18, true)), (.e (.mv (.r p0)))⟩, ⟨(some p20), (some (p18, true)), (.c (.f 50 [(.r p19), (.c (.int .u8 (.ofNat 47)))]))⟩, ⟨(some p21), (some (p18, true)), (.e (.bin .lss (.r p20) (.c (.int .i64 (.ofNat 0)))))⟩, ⟨(some p22), none, (.e (.pick (.r p18) (.r p21) (.c (.bool false))))⟩, ⟨(some p23), none, (.e (.mv (.r p22)))⟩, ⟨(some p24), (some (p23, true)), (.e (.mv (.r p0)))⟩, ⟨(some p25), (some (p23, true)), (.c (.f 50 [(.r p24), (.c (.int .u8 (.ofNat 0)))]))⟩, ⟨(some p26), (some (p23, true)), (.e (.bin .lss (.r p25) (.c (.int .i64 (.ofNat 0)))))⟩, ⟨(some p27), none, (.e (.pick (.r p23) (.r p26) (.c (.bool false))))⟩, ⟨(some p2), none, (.e (.mv (.r p27)))⟩]) .ret))
theorem I41_0 (E : Env) : Is E C41_0 (retK3 R41) (fun σ h => J41_0 E (σ p0) h) :=
  fun σ h => by kernel_rfl
def D41 : DF := ⟨1, 28, C41_0, R41⟩
noncomputable def S41 (E : Env) : Fun := fun args h => aS args fun r0 args => a0 args (J41_0 E r0 h)
theorem S41_eq (E : Env) (args : List DV) (h : H) : runFn E D41 args h = S41 E args h :=
  Is.fn1 (d := D41) (I41_0 E) rfl (fun r0 h => J41_0 E r0 h) (fun r0 h => by kernel_rfl) args h
/- hurdle/hurdleref37.Name -/
def R42 : List RV := [(.r p2)]
noncomputable def J42_1 (E : Env) (r0 : DV) (h : H) : Ans :=
  vK (v_neq r0 (.str [])) fun x1 =>
  gdK x1 true (fun kk => kk r0 h) h fun x2 h3 =>
  gdK x1 true (fun kk => vK (v_lenS x2) fun v => kk v h3) h3 fun x4 h5 =>
  gdK x1 true (fun kk => vK (v_leq x4 (.int .i64 (.ofNat 28))) fun v => kk v h5) h5 fun x6 h7 =>
  vK (v_pick x1 x6 (.bool false)) fun x8 =>
  gdK x8 true (fun kk => kk r0 h7) h7 fun x9 h10 =>
  gdK x8 true (fun kk => vK (v_neq x9 (.str [46])) fun v => kk v h10) h10 fun x11 h12 =>
  vK (v_pick x8 x11 (.bool false)) fun x13 =>
  gdK x13 true (fun kk => kk r0 h12) h12 fun x14 h15 =>
  gdK x13 true (fun kk => vK (v_neq x14 (.str [46, 46])) fun v => kk v h15) h15 fun x16 h17 =>
  vK (v_pick x13 x16 (.bool false)) fun x18 =>
  some (x18, h17)
def C42_1 : DC := (.seq (.reg [⟨(some p20), none, (.e (.mv (.r p0)))⟩, ⟨(some p21), none, (.e (.bin .neq (.r p20) (.c (.str []))))⟩, ⟨(some p22), none, (.e (.mv (.r p21)))⟩, ⟨(some p23), (some (p22, true)), (.e (.mv (.r p0)))⟩, ⟨(some p24), (some (p22, true)), (.e (.lenS (.r p23)))⟩, ⟨(some p25), (some (p22, true)), (.e (.bin .leq (.r p24) (.c (.int .i64 (.ofNat 28)))))⟩, ⟨(some p26), none, (.e (.pick (.r p22) (.r p25) (.c (.bool false))))⟩, ⟨(some p27), none, (.e (.mv (.r p26)))⟩, ⟨(some p28), (some (p27, true)), (.e (.mv (.r p0)))⟩, ⟨(some p29), (some (p27, true)), (.e (.bin .neq (.r p28) (.c (.str [46]))))⟩, ⟨(some p30), none, (.e (.pick (.r p27) (.r p29) (.c (.bool false))))⟩, ⟨(some p31), none, (.e (.mv (.r p30)))⟩, ⟨(some p32), (some (p31, true)), (.e (.mv (.r p0)))⟩, ⟨(some p33), (some (p31, true)), (.e (.bin .neq (.r p32) (.c (.str [46, 46]))))⟩, ⟨(some p34), none, (.e (.pick (.r p31) (.r p33) (.c (.bool false))))⟩, ⟨(some p2), none, (.e (.mv (.r p34)))⟩]) .ret)
noncomputable def B42_2 (E : Env) (r0 : DV) (i2 : DV → H → Ans) (r3 : DV) (h : H) : Ans :=
  vK (v_lenS r0) fun x1 =>
  vK (v_lss r3 x1) fun x2 =>
  bK x2
  (vK (v_ixS r0 r3) fun x3 =>
  vK (v_eql x3 (.int .u8 (.ofNat 0))) fun x4 =>
  gdK x4 false (fun kk => kk r0 h) h fun x5 h6 =>
  gdK x4 false (fun kk => kk r3 h6) h6 fun x7 h8 =>
  gdK x4 false (fun kk => vK (v_ixS x5 x7) fun v => kk v h8) h8 fun x9 h10 =>
  gdK x4 false (fun kk => vK (v_eql x9 (.int .u8 (.ofNat 47))) fun v => kk v h10) h10 fun x11 h12 =>
  vK (v_pick x4 (.bool true) x11) fun x13 =>
  bK x13
  (some ((.bool false), h12))
  (vK (v_add r3 (.int .i64 (.ofNat 1))) fun x14 =>
  i2 x14 h12))
  (J42_1 E r0 h)
noncomputable def L42_2 (E : Env) (r0 : DV) (n : Nat) : DV → H → Ans := Nat.rec (motive := fun _ => DV → H → Ans) (fun _ _ => none) (fun _ i => B42_2 E r0 i) n
def C42_2 : DC := (.loop (.seq (.seq (.reg [⟨(some p4), none, (.e (.mv (.r p3)))⟩, ⟨(some p5), none, (.e (.mv (.r p0)))⟩, ⟨(some p6), none, (.e (.lenS (.r p5)))⟩, ⟨(some p7), none, (.e (.bin .lss (.r p4) (.r p6)))⟩]) (.cond (.r p7) .skip (.exit 0))) (.seq (.block 1 (.seq (.reg [⟨(some p10), none, (.e (.mv (.r p0)))⟩, ⟨(some p11), none, (.e (.mv (.r p3)))⟩, ⟨(some p12), none, (.e (.ixS (.r p10) (.r p11)))⟩, ⟨(some p13), none, (.e (.bin .eql (.r p12) (.c (.int .u8 (.ofNat 0)))))⟩, ⟨(some p14), none, (.e (.mv (.r p13)))⟩, ⟨(some p15), (some (p14, false)), (.e (.mv (.r p0)))⟩, ⟨(some p16), (some (p14, false)), (.e (.mv (.r p3)))⟩, ⟨(some p17), (some (p14, false)), (.e (.ixS (.r p15) (.r p16)))⟩, ⟨(some p18), (some (p14, false)), (.e (.bin .eql (.r p17) (.c (.int .u8 (.ofNat 47)))))⟩, ⟨(some p19), none, (.e (.pick (.r p14) (.c (.bool true)) (.r p18)))⟩]) (.cond (.r p19) (.seq (.reg [⟨(some p2), none, (.e (.mv (.c (.bool false))))⟩]) .ret) .skip))) (.reg [⟨(some p8), none, (.e (.mv (.r p3)))⟩, ⟨(some p9), none, (.e (.bin .add (.r p8) (.c (.int .i64 (.ofNat 1)))))⟩, ⟨(some p3), none, (.e (.mv (.r p9)))⟩]))))
noncomputable def J42_0 (E : Env) (r0 : DV) (h : H) : Ans :=
  L42_2 E r0 FUEL (.int .i64 (.ofNat 0)) h
def C42_0 : DC := (.seq (.reg [⟨(some p2), none, (.e (.mv (.c (.bool false))))⟩]) (.seq (.seq (.reg [⟨(some p3), none, (.e (.mv (.c (.int .i64 (.ofNat 0)))))⟩]) (.block 0 C42_2)) C42_1))
theorem I42_1 (E : Env) : Is E C42_1 (retK3 R42) (fun σ h => J42_1 E (σ p0) h) :=
  fun σ h => by kernel_rfl
noncomputable abbrev K42_3 (E : Env) : KT2 (DV × H) := (thenK3 (fun σ h => J42_1 E (σ p0) h) (retK3 R42))
theorem I42_2 (E : Env) : Is E C42_2 (blockK3 0 (K42_3 E)) (fun σ h => L42_2 E (σ p0) FUEL (σ p3) h) :=
  Is.loop (fun n2 σ h => L42_2 E (σ p0) n2 (σ p3) h) (by kernel_rfl) fun n2 => Is.as (Is.leaf _) fun σ h => by kernel_rfl
theorem I42_0 (E : Env) : Is E C42_0 (retK3 R42) (fun σ h => J42_0 E (σ p0) h) :=
  Is.as (Is.seq (Is.seq (I42_1 E) (Is.seq (Is.block (I42_2 E)) (Is.leaf _))) (Is.leaf _)) fun σ h => by kernel_rfl
def D42 : DF := ⟨1, 35, C42_0, R42⟩
noncomputable def S42 (E : Env) : Fun := fun args h => aS args fun r0 args => a0 args (J42_0 E r0 h)
theorem S42_eq (E : Env) (args : List DV) (h : H) : runFn E D42 args h = S42 E args h :=
  Is.fn1 (d := D42) (I42_0 E) rfl (fun r0 h => J42_0 E r0 h) (fun r0 h => by kernel_rfl) args h
/- slices.Equal[[]string,string] -/
def R43 : List RV := [(.r p4)]
noncomputable def J43_1 (E : Env) (h : H) : Ans :=
  some ((.bool true), h)
def C43_1 : DC := (.seq (.reg [⟨(some p4), none, (.e (.mv (.c (.bool true))))⟩]) .ret)
noncomputable def B43_2 (E : Env) (r0 r1 r12 : DV) (i2 : DV → H → Ans) (r13 : DV) (h : H) : Ans :=
  vK (v_lss r13 r12) fun x1 =>
  bK x1
  (vK (v_iaS 1 r0 r13) fun x2 =>
  vK (v_ld h.get x2) fun x3 =>
  vK (v_iaS 1 r1 r13) fun x4 =>
  vK (v_ld h.get x4) fun x5 =>
  vK (v_neq x3 x5) fun x6 =>
  bK x6
  (some ((.bool false), h))
  (vK (v_add r13 (.int .i64 (.ofNat 1))) fun x7 =>
  i2 x7 h))
  (J43_1 E h)
noncomputable def L43_2 (E : Env) (r0 r1 r12 : DV) (n : Nat) : DV → H → Ans := Nat.rec (motive := fun _ => DV → H → Ans) (fun _ _ => none) (fun _ i => B43_2 E r0 r1 r12 i) n
def C43_2 : DC := (.loop (.seq (.reg [⟨(some p14), none, (.e (.bin .lss (.r p13) (.r p12)))⟩]) (.seq (.cond (.r p14) .skip (.exit 0)) (.seq (.block 1 (.seq (.reg [⟨(some p15), none, (.e (.mv (.r p13)))⟩, ⟨(some p5), none, (.e (.mv (.r p15)))⟩]) (.seq (.drg [⟨0, ⟨(some p16), none, (.e (.mv (.r p0)))⟩, [], false⟩, ⟨1, ⟨(some p17), none, (.e (.mv (.r p5)))⟩, [], false⟩, ⟨2, ⟨(some p18), none, (.e (.iaS 1 (.r p16) (.r p17)))⟩, [], false⟩, ⟨3, ⟨(some p19), none, (.e (.ld (.r p18)))⟩, [], false⟩, ⟨4, ⟨(some p20), none, (.e (.mv (.r p1)))⟩, [], false⟩, ⟨5, ⟨(some p21), none, (.e (.mv (.r p5)))⟩, [], false⟩, ⟨6, ⟨(some p22), none, (.e (.iaS 1 (.r p20) (.r p21)))⟩, [], false⟩, ⟨7, ⟨(some p23), none, (.e (.ld (.r p22)))⟩, [], false⟩, ⟨8, ⟨(some p24), none, (.e (.bin .neq (.r p19) (.r p23)))⟩, [], false⟩]) (.cond (.r p24) (.seq (.reg [⟨(some p4), none, (.e (.mv (.c (.bool false))))⟩]) .ret) .skip)))) (.reg [⟨(some p25), none, (.e (.bin .add (.r p13) (.c (.int .i64 (.ofNat 1)))))⟩, ⟨(some p13), none, (.e (.mv (.r p25)))⟩])))))
noncomputable def J43_0 (E : Env) (r0 r1 : DV) (h : H) : Ans :=
  vK (v_lenL r0) fun x1 =>
  vK (v_lenL r1) fun x2 =>
  vK (v_neq x1 x2) fun x3 =>
  bK x3
  (some ((.bool false), h))
  (vK (v_lenL r0) fun x4 =>
  L43_2 E r0 r1 x4 FUEL (.int .i64 (.ofNat 0)) h)
def C43_0 : DC := (.seq (.reg [⟨(some p4), none, (.e (.mv (.c (.bool false))))⟩]) (.seq (.seq (.reg [⟨(some p6), none, (.e (.mv (.r p0)))⟩, ⟨(some p7), none, (.e (.lenL (.r p6)))⟩, ⟨(some p8), none, (.e (.mv (.r p1)))⟩, ⟨(some p9), none, (.e (.lenL (.r p8)))⟩, ⟨(some p10), none, (.e (.bin .neq (.r p7) (.r p9)))⟩]) (.cond (.r p10) (.seq (.reg [⟨(some p4), none, (.e (.mv (.c (.bool false))))⟩]) .ret) .skip)) (.seq (.seq (.reg [⟨(some p11), none, (.e (.mv (.r p0)))⟩, ⟨(some p12), none, (.e (.lenL (.r p11)))⟩, ⟨(some p13), none, (.e (.mv (.c (.int .i64 (.ofNat 0)))))⟩]) (.block 0 C43_2)) C43_1)))
theorem I43_1 (E : Env) : Is E C43_1 (retK3 R43) (fun σ h => J43_1 E h) :=
  fun σ h => by kernel_rfl
noncomputable abbrev K43_3 (E : Env) : KT2 (DV × H) := (blockK3 0 (thenK3 (fun σ h => J43_1 E h) (retK3 R43)))
theorem I43_2 (E : Env) : Is E C43_2 (K43_3 E) (fun σ h => L43_2 E (σ p0) (σ p1) (σ p12) FUEL (σ p13) h) :=
  Is.loop (fun n2 σ h => L43_2 E (σ p0) (σ p1) (σ p12) n2 (σ p13) h) (by kernel_rfl) fun n2 => Is.as (Is.leaf _) fun σ h => by kernel_rfl
theorem I43_0 (E : Env) : Is E C43_0 (retK3 R43) (fun σ h => J43_0 E (σ p0) (σ p1) h) :=
  Is.as (Is.seq (Is.seq (Is.seq (I43_1 E) (Is.seq (Is.block (I43_2 E)) (Is.leaf _))) (Is.leaf _)) (Is.leaf _)) fun σ h => by kernel_rfl
def D43 : DF := ⟨2, 26, C43_0, R43⟩
noncomputable def S43 (E : Env) : Fun := fun args h => aS args fun r0 args => aS args fun r1 args => a0 args (J43_0 E r0 r1 h)
theorem S43_eq (E : Env) (args : List DV) (h : H) : runFn E D43 args h = S43 E args h :=
  Is.fn2 (d := D43) (I43_0 E) rfl (fun r0 r1 h => J43_0 E r0 r1 h) (fun r0 r1 h => by kernel_rfl) args h
/- strings.Join -/
def R44 : List RV := [(.r p4)]
noncomputable def J44_7 (E : Env) (r8 : DV) (h : H) : Ans :=
  wK (callK E 53 [r8] h) fun x1 h2 =>
  some (x1, h2)
def C44_7 : DC := (.seq (.reg [⟨(some p74), none, (.c (.f 53 [(.r p8)]))⟩, ⟨(some p4), none, (.e (.mv (.r p74)))⟩]) .ret)
noncomputable def B44_8 (E : Env) (r1 r8 r63 r64 : DV) (i8 : DV → H → Ans) (r65 : DV) (h : H) : Ans :=
  vK (v_lss r65 r64) fun x1 =>
  bK x1
  (vK (v_iaS 1 r63 r65) fun x2 =>
  vK (v_ld h.get x2) fun x3 =>
  wK (callK E 52 [r8, r1] h) fun x4 h5 =>
  wK (callK E 52 [r8, x3] h5) fun x6 h7 =>
  vK (v_add r65 (.int .i64 (.ofNat 1))) fun x8 =>
  i8 x8 h7)
  (J44_7 E r8 h)
noncomputable def L44_8 (E : Env) (r1 r8 r63 r64 : DV) (n : Nat) : DV → H → Ans := Nat.rec (motive := fun _ => DV → H → Ans) (fun _ _ => none) (fun _ i => B44_8 E r1 r8 r63 r64 i) n
def C44_8 : DC := (.loop (.seq (.reg [⟨(some p66), none, (.e (.bin .lss (.r p65) (.r p64)))⟩]) (.seq (.cond (.r p66) .skip (.exit 3)) (.seq (.block 4 (.seq (.reg [⟨(some p67), none, (.e (.iaS 1 (.r p63) (.r p65)))⟩, ⟨(some p68), none, (.e (.ld (.r p67)))⟩, ⟨(some p10), none, (.e (.mv (.r p68)))⟩]) (.seq (.reg [⟨(some p69), none, (.e (.mv (.r p1)))⟩, ⟨(some p70), none, (.c (.f 52 [(.r p8), (.r p69)]))⟩]) (.reg [⟨(some p71), none, (.e (.mv (.r p10)))⟩, ⟨(some p72), none, (.c (.f 52 [(.r p8), (.r p71)]))⟩])))) (.reg [⟨(some p73), none, (.e (.bin .add (.r p65) (.c (.int .i64 (.ofNat 1)))))⟩, ⟨(some p65), none, (.e (.mv (.r p73)))⟩])))))
noncomputable def J44_3 (E : Env) (r0 r1 r5 : DV) (h : H) : Ans :=
  n_alc 2 2 (.list [.nilp, .nils]) h fun x1 h2 =>
  wK (callK E 51 [x1, r5] h2) fun x3 h4 =>
  vK (v_iaS 1 r0 (.int .i64 (.ofNat 0))) fun x5 =>
  vK (v_ld h4.get x5) fun x6 =>
  wK (callK E 52 [x1, x6] h4) fun x7 h8 =>
  vK (v_slL 1 r0 (some (.int .i64 (.ofNat 1))) none) fun x9 =>
  vK (v_lenL x9) fun x10 =>
  L44_8 E r1 x1 x9 x10 FUEL (.int .i64 (.ofNat 0)) h8
def C44_3 : DC := (.seq (.reg [⟨(some p8), none, (.e (.alc 2 2 (.list [.nilp, .nils])))⟩]) (.seq (.reg [⟨(some p56), none, (.e (.mv (.r p5)))⟩, ⟨(some p57), none, (.c (.f 51 [(.r p8), (.r p56)]))⟩]) (.seq (.reg [⟨(some p58), none, (.e (.mv (.r p0)))⟩, ⟨(some p59), none, (.e (.iaS 1 (.r p58) (.c (.int .i64 (.ofNat 0)))))⟩, ⟨(some p60), none, (.e (.ld (.r p59)))⟩, ⟨(some p61), none, (.c (.f 52 [(.r p8), (.r p60)]))⟩]) (.seq (.seq (.reg [⟨(some p62), none, (.e (.mv (.r p0)))⟩, ⟨(some p63), none, (.e (.slL 1 (.r p62) (some (.c (.int .i64 (.ofNat 1)))) none))⟩, ⟨(some p64), none, (.e (.lenL (.r p63)))⟩, ⟨(some p65), none, (.e (.mv (.c (.int .i64 (.ofNat 0)))))⟩]) (.block 3 C44_8)) C44_7))))
noncomputable def J44_5 (E : Env) (i4 : DV → DV → H → Ans) (r5 r41 : DV) (h : H) : Ans :=
  vK (v_add r41 (.int .i64 (.ofNat 1))) fun x1 =>
  i4 r5 x1 h
def C44_5 : DC := (.reg [⟨(some p55), none, (.e (.bin .add (.r p41) (.c (.int .i64 (.ofNat 1)))))⟩, ⟨(some p41), none, (.e (.mv (.r p55)))⟩])
noncomputable def J44_6 (E : Env) (i4 : DV → DV → H → Ans) (r5 r7 r41 : DV) (h : H) : Ans :=
  vK (v_lenS r7) fun x1 =>
  vK (v_add r5 x1) fun x2 =>
  J44_5 E i4 x2 r41 h
def C44_6 : DC := (.reg [⟨(some p51), none, (.e (.mv (.r p5)))⟩, ⟨(some p52), none, (.e (.mv (.r p7)))⟩, ⟨(some p53), none, (.e (.lenS (.r p52)))⟩, ⟨(some p54), none, (.e (.bin .add (.r p51) (.r p53)))⟩, ⟨(some p5), none, (.e (.mv (.r p54)))⟩])
noncomputable def B44_4 (E : Env) (r0 r1 r39 r40 : DV) (i4 : DV → DV → H → Ans) (r5 r41 : DV) (h : H) : Ans :=
  vK (v_lss r41 r40) fun x1 =>
  bK x1
  (vK (v_iaS 1 r39 r41) fun x2 =>
  vK (v_ld h.get x2) fun x3 =>
  vK (v_lenS x3) fun x4 =>
  vK (v_sub (.int .i64 (.ofNat 9223372036854775807)) r5) fun x5 =>
  vK (v_gtr x4 x5) fun x6 =>
  bK x6
  (none)
  (J44_6 E i4 r5 x3 r41 h))
  (J44_3 E r0 r1 r5 h)
noncomputable def L44_4 (E : Env) (r0 r1 r39 r40 : DV) (n : Nat) : DV → DV → H → Ans := Nat.rec (motive := fun _ => DV → DV → H → Ans) (fun _ _ _ => none) (fun _ i => B44_4 E r0 r1 r39 r40 i) n
def C44_4 : DC := (.loop (.seq (.reg [⟨(some p42), none, (.e (.bin .lss (.r p41) (.r p40)))⟩]) (.seq (.cond (.r p42) .skip (.exit 1)) (.seq (.block 2 (.seq (.reg [⟨(some p43), none, (.e (.iaS 1 (.r p39) (.r p41)))⟩, ⟨(some p44), none, (.e (.ld (.r p43)))⟩, ⟨(some p7), none, (.e (.mv (.r p44)))⟩]) (.seq (.seq (.reg [⟨(some p45), none, (.e (.mv (.r p7)))⟩, ⟨(some p46), none, (.e (.lenS (.r p45)))⟩, ⟨(some p47), none, (.e (.mv (.r p5)))⟩, ⟨(some p48), none, (.e (.bin .sub (.c (.int .i64 (.ofNat 9223372036854775807))) (.r p47)))⟩, ⟨(some p49), none, (.e (.bin .gtr (.r p46) (.r p48)))⟩]) (.cond (.r p49) (.reg [⟨(some p50), none, (.e (.mkI 9 (.c (.str [115, 116, 114, 105, 110, 103, 115, 58, 32, 74, 111, 105, 110, 32, 111, 117, 116, 112, 117, 116, 32, 108, 101, 110, 103, 116, 104, 32, 111, 118, 101, 114, 102, 108, 111, 119]))))⟩, ⟨none, none, (.e .bad)⟩]) .skip)) C44_6))) C44_5))))
noncomputable def J44_1 (E : Env) (r0 r1 r5 : DV) (h : H) : Ans :=
  vK (v_lenL r0) fun x1 =>
  L44_4 E r0 r1 r0 x1 FUEL r5 (.int .i64 (.ofNat 0)) h
def C44_1 : DC := (.seq (.seq (.reg [⟨(some p39), none, (.e (.mv (.r p0)))⟩, ⟨(some p40), none, (.e (.lenL (.r p39)))⟩, ⟨(some p41), none, (.e (.mv (.c (.int .i64 (.ofNat 0)))))⟩]) (.block 1 C44_4)) C44_3)
noncomputable def J44_2 (E : Env) (r0 r1 r5 : DV) (h : H) : Ans :=
  vK (v_lenS r1) fun x1 =>
  vK (v_lenL r0) fun x2 =>
  vK (v_sub x2 (.int .i64 (.ofNat 1))) fun x3 =>
  vK (v_mul x1 x3) fun x4 =>
  vK (v_add r5 x4) fun x5 =>
  J44_1 E r0 r1 x5 h
def C44_2 : DC := (.reg [⟨(some p31), none, (.e (.mv (.r p5)))⟩, ⟨(some p32), none, (.e (.mv (.r p1)))⟩, ⟨(some p33), none, (.e (.lenS (.r p32)))⟩, ⟨(some p34), none, (.e (.mv (.r p0)))⟩, ⟨(some p35), none, (.e (.lenL (.r p34)))⟩, ⟨(some p36), none, (.e (.bin .sub (.r p35) (.c (.int .i64 (.ofNat 1)))))⟩, ⟨(some p37), none, (.e (.bin .mul (.r p33) (.r p36)))⟩, ⟨(some p38), none, (.e (.bin .add (.r p31) (.r p37)))⟩, ⟨(some p5), none, (.e (.mv (.r p38)))⟩])
noncomputable def J44_0 (E : Env) (r0 r1 : DV) (h : H) : Ans :=
  vK (v_lenL r0) fun x1 =>
  vK (v_eql x1 (.int .i64 (.ofNat 0))) fun x2 =>
  bK x2
  (some ((.str []), h))
  (vK (v_eql x1 (.int .i64 (.ofNat 1))) fun x3 =>
  bK x3
  (vK (v_iaS 1 r0 (.int .i64 (.ofNat 0))) fun x4 =>
  vK (v_ld h.get x4) fun x5 =>
  some (x5, h))
  (vK (v_lenS r1) fun x6 =>
  vK (v_gtr x6 (.int .i64 (.ofNat 0))) fun x7 =>
  bK x7
  (vK (v_lenS r1) fun x8 =>
  vK (v_lenL r0) fun x9 =>
  vK (v_sub x9 (.int .i64 (.ofNat 1))) fun x10 =>
  vK (v_quo (.int .i64 (.ofNat 9223372036854775807)) x10) fun x11 =>
  vK (v_geq x8 x11) fun x12 =>
  bK x12
  (none)
  (J44_2 E r0 r1 (.int .i64 (.ofNat 0)) h))
  (J44_1 E r0 r1 (.int .i64 (.ofNat 0)) h)))
def C44_0 : DC := (.seq (.reg [⟨(some p4), none, (.e (.mv (.c (.str []))))⟩]) (.seq (.seq (.reg [⟨(some p11), none, (.e (.mv (.r p0)))⟩, ⟨(some p12), none, (.e (.lenL (.r p11)))⟩]) (.block 0 (.seq (.reg [⟨(some p14), none, (.e (.bin .eql (.r p12) (.c (.int .i64 (.ofNat 0)))))⟩, ⟨(some p13), none, (.e (.mv (.r p14)))⟩]) (.cond (.r p13) (.seq (.reg [⟨(some p4), none, (.e (.mv (.c (.str []))))⟩]) .ret) (.seq (.reg [⟨(some p16), none, (.e (.bin .eql (.r p12) (.c (.int .i64 (.ofNat 1)))))⟩, ⟨(some p15), none, (.e (.mv (.r p16)))⟩]) (.cond (.r p15) (.seq (.reg [⟨(some p17), none, (.e (.mv (.r p0)))⟩, ⟨(some p18), none, (.e (.iaS 1 (.r p17) (.c (.int .i64 (.ofNat 0)))))⟩, ⟨(some p19), none, (.e (.ld (.r p18)))⟩, ⟨(some p4), none, (.e (.mv (.r p19)))⟩]) .ret) .skip)))))) (.seq (.reg [⟨(some p5), none, (.e (.mv (.c (.int .i64 (.ofNat 0)))))⟩]) (.seq (.seq (.reg [⟨(some p20), none, (.e (.mv (.r p1)))⟩, ⟨(some p21), none, (.e (.lenS (.r p20)))⟩, ⟨(some p22), none, (.e (.bin .gtr (.r p21) (.c (.int .i64 (.ofNat 0)))))⟩]) (.cond (.r p22) (.seq (.seq (.reg [⟨(some p23), none, (.e (.mv (.r p1)))⟩, ⟨(some p24), none, (.e (.lenS (.r p23)))⟩, ⟨(some p25), none, (.e (.mv (.r p0)))⟩, ⟨(some p26), none, (.e (.lenL (.r p25)))⟩, ⟨(some p27), none, (.e (.bin .sub (.r p26) (.c (.int .i64 (.ofNat 1)))))⟩, ⟨(some p28), none, (.e (.bin .quo (.c (.int .i64 (.ofNat 9223372036854775807))) (.r p27)))⟩, ⟨(some p29), none, (.e (.bin .geq (.r p24) (.r p28)))⟩]) (.cond (.r p29) (.reg [⟨(some p30), none, (.e (.mkI 9 (.c (.str [115, 116, 114, 105, 110, 103, 115, 58, 32, 74, 111, 105, 110, 32, 111, 117, 116, 112, 117, 116, 32, 108, 101, 110, 103, 116, 104, 32, 111, 118, 101, 114, 102, 108, 111, 119]))))⟩, ⟨none, none, (.e .bad)⟩]) .skip)) C44_2) .skip)) C44_1))))
theorem I44_7 (E : Env) : Is E C44_7 (retK3 R44) (fun σ h => J44_7 E (σ p8) h) :=
  fun σ h => by kernel_rfl
noncomputable abbrev K44_9 (E : Env) : KT2 (DV × H) := (thenK3 (fun σ h => J44_7 E (σ p8) h) (retK3 R44))
theorem I44_8 (E : Env) : Is E C44_8 (blockK3 3 (K44_9 E)) (fun σ h => L44_8 E (σ p1) (σ p8) (σ p63) (σ p64) FUEL (σ p65) h) :=
  Is.loop (fun n8 σ h => L44_8 E (σ p1) (σ p8) (σ p63) (σ p64) n8 (σ p65) h) (by kernel_rfl) fun n8 => Is.as (Is.leaf _) fun σ h => by kernel_rfl
theorem I44_3 (E : Env) : Is E C44_3 (retK3 R44) (fun σ h => J44_3 E (σ p0) (σ p1) (σ p5) h) :=
  Is.as (Is.seq (Is.seq (Is.seq (Is.seq (I44_7 E) (Is.seq (Is.block (I44_8 E)) (Is.leaf _))) (Is.leaf _)) (Is.leaf _)) (Is.leaf _)) fun σ h => by kernel_rfl
noncomputable abbrev K44_10 (E : Env) : KT2 (DV × H) := (thenK3 (fun σ h => J44_3 E (σ p0) (σ p1) (σ p5) h) (retK3 R44))
noncomputable abbrev K44_11 (E : Env) (n4 : Nat) : KT2 (DV × H) := (thenK3 (fun σ h => (L44_4 E (σ p0) (σ p1) (σ p39) (σ p40) n4) (σ p5) (σ p41) h) (blockK3 1 (K44_10 E)))
theorem I44_5 (E : Env) (n4 : Nat) : Is E C44_5 (K44_11 E n4) (fun σ h => J44_5 E (L44_4 E (σ p0) (σ p1) (σ p39) (σ p40) n4) (σ p5) (σ p41) h) :=
  fun σ h => by kernel_rfl
noncomputable abbrev K44_12 (E : Env) (n4 : Nat) : KT2 (DV × H) := (thenK3 (fun σ h => J44_5 E (L44_4 E (σ p0) (σ p1) (σ p39) (σ p40) n4) (σ p5) (σ p41) h) (K44_11 E n4))
theorem I44_6 (E : Env) (n4 : Nat) : Is E C44_6 (blockK3 2 (K44_12 E n4)) (fun σ h => J44_6 E (L44_4 E (σ p0) (σ p1) (σ p39) (σ p40) n4) (σ p5) (σ p7) (σ p41) h) :=
  fun σ h => by kernel_rfl
theorem I44_4 (E : Env) : Is E C44_4 (blockK3 1 (K44_10 E)) (fun σ h => L44_4 E (σ p0) (σ p1) (σ p39) (σ p40) FUEL (σ p5) (σ p41) h) :=
  Is.loop (fun n4 σ h => L44_4 E (σ p0) (σ p1) (σ p39) (σ p40) n4 (σ p5) (σ p41) h) (by kernel_rfl) fun n4 => Is.as (Is.seq (Is.seq (Is.seq (I44_5 E n4) (Is.block (Is.seq (Is.seq (I44_6 E n4) (Is.leaf _)) (Is.leaf _)))) (Is.leaf _)) (Is.leaf _)) fun σ h => by kernel_rfl
theorem I44_1 (E : Env) : Is E C44_1 (retK3 R44) (fun σ h => J44_1 E (σ p0) (σ p1) (σ p5) h) :=
  Is.as (Is.seq (I44_3 E) (Is.seq (Is.block (I44_4 E)) (Is.leaf _))) fun σ h => by kernel_rfl
noncomputable abbrev K44_13 (E : Env) : KT2 (DV × H) := (thenK3 (fun σ h => J44_1 E (σ p0) (σ p1) (σ p5) h) (retK3 R44))
theorem I44_2 (E : Env) : Is E C44_2 (K44_13 E) (fun σ h => J44_2 E (σ p0) (σ p1) (σ p5) h) :=
  fun σ h => by kernel_rfl
theorem I44_0 (E : Env) : Is E C44_0 (retK3 R44) (fun σ h => J44_0 E (σ p0) (σ p1) h) :=
  Is.as (Is.seq (Is.seq (Is.seq (Is.seq (I44_1 E) (Is.seq (Is.cond (Is.seq (I44_2 E) (Is.leaf _)) (Is.leaf _)) (Is.leaf _))) (Is.leaf _)) (Is.leaf _)) (Is.leaf _)) fun σ h => by kernel_rfl
def D44 : DF := ⟨2, 75, C44_0, R44⟩
noncomputable def S44 (E : Env) : Fun := fun args h => aS args fun r0 args => aS args fun r1 args => a0 args (J44_0 E r0 r1 h)
theorem S44_eq (E : Env) (args : List DV) (h : H) : runFn E D44 args h = S44 E args h :=
  Is.fn2 (d := D44) (I44_0 E) rfl (fun r0 r1 h => J44_0 E r0 r1 h) (fun r0 r1 h => by kernel_rfl) args h
/- strings.genSplit -/
def R49 : List RV := [(.r p8)]
noncomputable def J49_2 (E : Env) (r0 r9 r10 : DV) (h : H) : Ans :=
  vK (v_iaS 1 r9 r10) fun x1 =>
  wK (dStF 1 x1 r0 h) fun x2 h3 =>
  vK (v_add r10 (.int .i64 (.ofNat 1))) fun x4 =>
  vK (v_slL 1 r9 none (some x4)) fun x5 =>
  some (x5, h3)
def C49_2 : DC := (.seq (.reg [⟨(some p58), none, (.e (.mv (.r p9)))⟩, ⟨(some p59), none, (.e (.mv (.r p10)))⟩, ⟨(some p60), none, (.e (.mv (.r p0)))⟩, ⟨(some p61), none, (.e (.iaS 1 (.r p58) (.r p59)))⟩, ⟨none, none, (.w (.st 1 (.r p61) (.r p60)))⟩]) (.seq (.reg [⟨(some p62), none, (.e (.mv (.r p9)))⟩, ⟨(some p63), none, (.e (.mv (.r p10)))⟩, ⟨(some p64), none, (.e (.bin .add (.r p63) (.c (.int .i64 (.ofNat 1)))))⟩, ⟨(some p65), none, (.e (.slL 1 (.r p62) none (some (.r p64))))⟩, ⟨(some p8), none, (.e (.mv (.r p65)))⟩]) .ret))
noncomputable def B49_3 (E : Env) (r1 r2 r3 r9 : DV) (i3 : DV → DV → H → Ans) (r0 r10 : DV) (h : H) : Ans :=
  vK (v_lss r10 r3) fun x1 =>
  bK x1
  (wK (callK E 64 [r0, r1] h) fun x2 h3 =>
  vK (v_lss x2 (.int .i64 (.ofNat 0))) fun x4 =>
  bK x4
  (J49_2 E r0 r9 r10 h3)
  (vK (v_add x2 r2) fun x5 =>
  vK (v_slS r0 none (some x5)) fun x6 =>
  vK (v_iaS 1 r9 r10) fun x7 =>
  wK (dStF 1 x7 x6 h3) fun x8 h9 =>
  vK (v_lenS r1) fun x10 =>
  vK (v_add x2 x10) fun x11 =>
  vK (v_slS r0 (some x11) none) fun x12 =>
  vK (v_add r10 (.int .i64 (.ofNat 1))) fun x13 =>
  i3 x12 x13 h9))
  (J49_2 E r0 r9 r10 h)
noncomputable def L49_3 (E : Env) (r1 r2 r3 r9 : DV) (n : Nat) : DV → DV → H → Ans := Nat.rec (motive := fun _ => DV → DV → H → Ans) (fun _ _ _ => none) (fun _ i => B49_3 E r1 r2 r3 r9 i) n
def C49_3 : DC := (.loop (.seq (.seq (.reg [⟨(some p34), none, (.e (.mv (.r p10)))⟩, ⟨(some p35), none, (.e (.mv (.r p3)))⟩, ⟨(some p36), none, (.e (.bin .lss (.r p34) (.r p35)))⟩]) (.cond (.r p36) .skip (.exit 0))) (.block 1 (.seq (.reg [⟨(some p37), none, (.e (.mv (.r p0)))⟩, ⟨(some p38), none, (.e (.mv (.r p1)))⟩, ⟨(some p39), none, (.c (.f 64 [(.r p37), (.r p38)]))⟩, ⟨(some p11), none, (.e (.mv (.r p39)))⟩]) (.seq (.seq (.reg [⟨(some p40), none, (.e (.mv (.r p11)))⟩, ⟨(some p41), none, (.e (.bin .lss (.r p40) (.c (.int .i64 (.ofNat 0)))))⟩]) (.cond (.r p41) (.exit 0) .skip)) (.seq (.reg [⟨(some p42), none, (.e (.mv (.r p9)))⟩, ⟨(some p43), none, (.e (.mv (.r p10)))⟩, ⟨(some p44), none, (.e (.mv (.r p0)))⟩, ⟨(some p45), none, (.e (.mv (.r p11)))⟩, ⟨(some p46), none, (.e (.mv (.r p2)))⟩, ⟨(some p47), none, (.e (.bin .add (.r p45) (.r p46)))⟩, ⟨(some p48), none, (.e (.slS (.r p44) none (some (.r p47))))⟩, ⟨(some p49), none, (.e (.iaS 1 (.r p42) (.r p43)))⟩, ⟨none, none, (.w (.st 1 (.r p49) (.r p48)))⟩]) (.seq (.reg [⟨(some p50), none, (.e (.mv (.r p0)))⟩, ⟨(some p51), none, (.e (.mv (.r p11)))⟩, ⟨(some p52), none, (.e (.mv (.r p1)))⟩, ⟨(some p53), none, (.e (.lenS (.r p52)))⟩, ⟨(some p54), none, (.e (.bin .add (.r p51) (.r p53)))⟩, ⟨(some p55), none, (.e (.slS (.r p50) (some (.r p54)) none))⟩, ⟨(some p0), none, (.e (.mv (.r p55)))⟩]) (.reg [⟨(some p56), none, (.e (.mv (.r p10)))⟩, ⟨(some p57), none, (.e (.bin .add (.r p56) (.c (.int .i64 (.ofNat 1)))))⟩, ⟨(some p10), none, (.e (.mv (.r p57)))⟩]))))))))
noncomputable def J49_1 (E : Env) (r0 r1 r2 r3 : DV) (h : H) : Ans :=
  vK (v_lenS r0) fun x1 =>
  vK (v_add x1 (.int .i64 (.ofNat 1))) fun x2 =>
  vK (v_mn r3 x2) fun x3 =>
  n_mks 1 16 (.str []) x3 x3 h fun x4 h5 =>
  vK (v_sub x3 (.int .i64 (.ofNat 1))) fun x6 =>
  L49_3 E r1 r2 x6 x4 FUEL r0 (.int .i64 (.ofNat 0)) h5
def C49_1 : DC := (.seq (.reg [⟨(some p25), none, (.e (.mv (.r p3)))⟩, ⟨(some p26), none, (.e (.mv (.r p0)))⟩, ⟨(some p27), none, (.e (.lenS (.r p26)))⟩, ⟨(some p28), none, (.e (.bin .add (.r p27) (.c (.int .i64 (.ofNat 1)))))⟩, ⟨(some p29), none, (.e (.mn (.r p25) (.r p28)))⟩, ⟨(some p3), none, (.e (.mv (.r p29)))⟩]) (.seq (.reg [⟨(some p30), none, (.e (.mv (.r p3)))⟩, ⟨(some p31), none, (.e (.mks 1 16 (.str []) (.r p30) (.r p30)))⟩, ⟨(some p9), none, (.e (.mv (.r p31)))⟩]) (.seq (.reg [⟨(some p32), none, (.e (.mv (.r p3)))⟩, ⟨(some p33), none, (.e (.bin .sub (.r p32) (.c (.int .i64 (.ofNat 1)))))⟩, ⟨(some p3), none, (.e (.mv (.r p33)))⟩]) (.seq (.reg [⟨(some p10), none, (.e (.mv (.c (.int .i64 (.ofNat 0)))))⟩]) (.seq (.block 0 C49_3) C49_2)))))
noncomputable def J49_0 (E : Env) (r0 r1 r2 r3 : DV) (h : H) : Ans :=
  vK (v_eql r3 (.int .i64 (.ofNat 0))) fun x1 =>
  bK x1
  (some (.nils, h))
  (vK (v_eql r1 (.str [])) fun x2 =>
  bK x2
  (wK (callK E 62 [r0, r3] h) fun x3 h4 =>
  some (x3, h4))
  (vK (v_lss r3 (.int .i64 (.ofNat 0))) fun x5 =>
  bK x5
  (wK (callK E 63 [r0, r1] h) fun x6 h7 =>
  vK (v_add x6 (.int .i64 (.ofNat 1))) fun x8 =>
  J49_1 E r0 r1 r2 x8 h7)
  (J49_1 E r0 r1 r2 r3 h)))
def C49_0 : DC := (.seq (.reg [⟨(some p8), none, (.e (.mv (.c .nils)))⟩]) (.seq (.seq (.reg [⟨(some p12), none, (.e (.mv (.r p3)))⟩, ⟨(some p13), none, (.e (.bin .eql (.r p12) (.c (.int .i64 (.ofNat 0)))))⟩]) (.cond (.r p13) (.seq (.reg [⟨(some p8), none, (.e (.mv (.c .nils)))⟩]) .ret) .skip)) (.seq (.seq (.reg [⟨(some p14), none, (.e (.mv (.r p1)))⟩, ⟨(some p15), none, (.e (.bin .eql (.r p14) (.c (.str []))))⟩]) (.cond (.r p15) (.seq (.reg [⟨(some p16), none, (.e (.mv (.r p0)))⟩, ⟨(some p17), none, (.e (.mv (.r p3)))⟩, ⟨(some p18), none, (.c (.f 62 [(.r p16), (.r p17)]))⟩, ⟨(some p8), none, (.e (.mv (.r p18)))⟩]) .ret) .skip)) (.seq (.seq (.reg [⟨(some p19), none, (.e (.mv (.r p3)))⟩, ⟨(some p20), none, (.e (.bin .lss (.r p19) (.c (.int .i64 (.ofNat 0)))))⟩]) (.cond (.r p20) (.reg [⟨(some p21), none, (.e (.mv (.r p0)))⟩, ⟨(some p22), none, (.e (.mv (.r p1)))⟩, ⟨(some p23), none, (.c (.f 63 [(.r p21), (.r p22)]))⟩, ⟨(some p24), none, (.e (.bin .add (.r p23) (.c (.int .i64 (.ofNat 1)))))⟩, ⟨(some p3), none, (.e (.mv (.r p24)))⟩]) .skip)) C49_1))))
theorem I49_2 (E : Env) : Is E C49_2 (retK3 R49) (fun σ h => J49_2 E (σ p0) (σ p9) (σ p10) h) :=
  fun σ h => by kernel_rfl
noncomputable abbrev K49_4 (E : Env) : KT2 (DV × H) := (thenK3 (fun σ h => J49_2 E (σ p0) (σ p9) (σ p10) h) (retK3 R49))
theorem I49_3 (E : Env) : Is E C49_3 (blockK3 0 (K49_4 E)) (fun σ h => L49_3 E (σ p1) (σ p2) (σ p3) (σ p9) FUEL (σ p0) (σ p10) h) :=
  Is.loop (fun n3 σ h => L49_3 E (σ p1) (σ p2) (σ p3) (σ p9) n3 (σ p0) (σ p10) h) (by kernel_rfl) fun n3 => Is.as (Is.leaf _) fun σ h => by kernel_rfl
theorem I49_1 (E : Env) : Is E C49_1 (retK3 R49) (fun σ h => J49_1 E (σ p0) (σ p1) (σ p2) (σ p3) h) :=
  Is.as (Is.seq (Is.seq (Is.seq (Is.seq (Is.seq (I49_2 E) (Is.block (I49_3 E))) (Is.leaf _)) (Is.leaf _)) (Is.leaf _)) (Is.leaf _)) fun σ h => by kernel_rfl
theorem I49_0 (E : Env) : Is E C49_0 (retK3 R49) (fun σ h => J49_0 E (σ p0) (σ p1) (σ p2) (σ p3) h) :=
  Is.as (Is.seq (Is.seq (Is.seq (Is.seq (I49_1 E) (Is.leaf _)) (Is.leaf _)) (Is.leaf _)) (Is.leaf _)) fun σ h => by kernel_rfl
def D49 : DF := ⟨4, 66, C49_0, R49⟩
noncomputable def S49 (E : Env) : Fun := fun args h => aS args fun r0 args => aS args fun r1 args => aS args fun r2 args => aS args fun r3 args => a0 args (J49_0 E r0 r1 r2 r3 h)
theorem S49_eq (E : Env) (args : List DV) (h : H) : runFn E D49 args h = S49 E args h :=
  Is.fn4 (d := D49) (I49_0 E) rfl (fun r0 r1 r2 r3 h => J49_0 E r0 r1 r2 r3 h) (fun r0 r1 r2 r3 h => by kernel_rfl) args h
/- strings.IndexByte -/
def R50 : List RV := [(.r p4)]
noncomputable def J50_0 (E : Env) (r0 r1 : DV) (h : H) : Ans :=
  wK (callK E 65 [r0, r1] h) fun x1 h2 =>
  some (x1, h2)
def C50_0 : DC := (.seq (.reg [⟨(some p4), none, (.e (.mv (.c (.int .i64 (.ofNat 0)))))⟩]) (.seq (.reg [⟨(some p5), none, (.e (.mv (.r p0)))⟩, ⟨(some p6), none, (.e (.mv (.r p1)))⟩, ⟨(some p7), none, (.c (.f 65 [(.r p5), (.r p6)]))⟩, ⟨(some p4), none, (.e (.mv (.r p7)))⟩]) .ret))
theorem I50_0 (E : Env) : Is E C50_0 (retK3 R50) (fun σ h => J50_0 E (σ p0) (σ p1) h) :=
  fun σ h => by kernel_rfl
def D50 : DF := ⟨2, 8, C50_0, R50⟩
noncomputable def S50 (E : Env) : Fun := fun args h => aS args fun r0 args => aS args fun r1 args => a0 args (J50_0 E r0 r1 h)
theorem S50_eq (E : Env) (args : List DV) (h : H) : runFn E D50 args h = S50 E args h :=
  Is.fn2 (d := D50) (I50_0 E) rfl (fun r0 r1 h => J50_0 E r0 r1 h) (fun r0 r1 h => by kernel_rfl) args h
/- (*strings.Builder).Grow -/
def R51 : List RV := []
noncomputable def J51_1 (E : Env) (r0 : DV) (h : H) : Ans :=
  vK (v_nilchk r0) fun x1 =>
  vK (v_fa 1 x1) fun x2 =>
  vK (v_ld h.get x2) fun x3 =>
  none
def C51_1 : DC := (.seq (.drg [⟨0, ⟨(some p9), none, (.e (.mv (.r p0)))⟩, [], false⟩, ⟨1, ⟨(some p10), none, (.e (.nilchk (.r p9)))⟩, [], false⟩, ⟨2, ⟨(some p11), none, (.e (.fa 1 (.r p10)))⟩, [], false⟩, ⟨3, ⟨(some p12), none, (.e (.ld (.r p11)))⟩, [], false⟩, ⟨4, ⟨(some p13), none, (.e .bad)⟩, [], false⟩, ⟨5, ⟨(some p14), none, (.e (.mv (.r p0)))⟩, [], false⟩, ⟨6, ⟨(some p15), none, (.e (.nilchk (.r p14)))⟩, [], false⟩, ⟨7, ⟨(some p16), none, (.e (.fa 1 (.r p15)))⟩, [], false⟩, ⟨8, ⟨(some p17), none, (.e (.ld (.r p16)))⟩, [], false⟩, ⟨9, ⟨(some p18), none, (.e (.lenL (.r p17)))⟩, [], false⟩, ⟨10, ⟨(some p19), none, (.e (.bin .sub (.r p13) (.r p18)))⟩, [], false⟩, ⟨11, ⟨(some p20), none, (.e (.mv (.r p1)))⟩, [], false⟩, ⟨12, ⟨(some p21), none, (.e (.bin .lss (.r p19) (.r p20)))⟩, [], false⟩]) (.cond (.r p21) (.reg [⟨(some p22), none, (.e (.mv (.r p0)))⟩, ⟨(some p23), none, (.e (.mv (.r p1)))⟩, ⟨(some p24), none, (.c (.f 67 [(.r p22), (.r p23)]))⟩]) .skip))
noncomputable def J51_0 (E : Env) (r0 r1 : DV) (h : H) : Ans :=
  wK (callK E 66 [r0] h) fun x1 h2 =>
  vK (v_lss r1 (.int .i64 (.ofNat 0))) fun x3 =>
  bK x3
  (none)
  (J51_1 E r0 h2)
def C51_0 : DC := (.seq (.reg [⟨(some p4), none, (.e (.mv (.r p0)))⟩, ⟨(some p5), none, (.c (.f 66 [(.r p4)]))⟩]) (.seq (.seq (.reg [⟨(some p6), none, (.e (.mv (.r p1)))⟩, ⟨(some p7), none, (.e (.bin .lss (.r p6) (.c (.int .i64 (.ofNat 0)))))⟩]) (.cond (.r p7) (.reg [⟨(some p8), none, (.e (.mkI 9 (.c (.str [115, 116, 114, 105, 110, 103, 115, 46, 66, 117, 105, 108, 100, 101, 114, 46, 71, 114, 111, 119, 58, 32, 110, 101, 103, 97, 116, 105, 118, 101, 32, 99, 111, 117, 110, 116]))))⟩, ⟨none, none, (.e .bad)⟩]) .skip)) C51_1))
theorem I51_1 (E : Env) : Is E C51_1 (retK3 R51) (fun σ h => J51_1 E (σ p0) h) :=
  fun σ h => by kernel_rfl
theorem I51_0 (E : Env) : Is E C51_0 (retK3 R51) (fun σ h => J51_0 E (σ p0) (σ p1) h) :=
  Is.as (Is.seq (Is.seq (I51_1 E) (Is.leaf _)) (Is.leaf _)) fun σ h => by kernel_rfl
def D51 : DF := ⟨2, 25, C51_0, R51⟩
noncomputable def S51 (E : Env) : Fun := fun args h => aS args fun r0 args => aS args fun r1 args => a0 args (J51_0 E r0 r1 h)
theorem S51_eq (E : Env) (args : List DV) (h : H) : runFn E D51 args h = S51 E args h :=
  Is.fn2 (d := D51) (I51_0 E) rfl (fun r0 r1 h => J51_0 E r0 r1 h) (fun r0 r1 h => by kernel_rfl) args h
/- (*strings.Builder).WriteString -/
def R52 : List RV := [(.r p4), (.r p5)]
noncomputable def J52_0 (E : Env) (r0 r1 : DV) (h : H) : Ans :=
  wK (callK E 66 [r0] h) fun x1 h2 =>
  vK (v_nilchk r0) fun x3 =>
  vK (v_fa 1 x3) fun x4 =>
  vK (v_ld h2.get x4) fun x5 =>
  wK (dAppendF 1 1 x5 r1 h2) fun x6 h7 =>
  vK (v_nilchk r0) fun x8 =>
  vK (v_fa 1 x8) fun x9 =>
  wK (dStF 1 x9 x6 h7) fun x10 h11 =>
  vK (v_lenS r1) fun x12 =>
  some ((.tup [x12, .nili]), h11)
def C52_0 : DC := (.seq (.reg [⟨(some p4), none, (.e (.mv (.c (.int .i64 (.ofNat 0)))))⟩, ⟨(some p5), none, (.e (.mv (.c .nili)))⟩]) (.seq (.reg [⟨(some p6), none, (.e (.mv (.r p0)))⟩, ⟨(some p7), none, (.c (.f 66 [(.r p6)]))⟩]) (.seq (.reg [⟨(some p8), none, (.e (.mv (.r p0)))⟩, ⟨(some p9), none, (.e (.mv (.r p0)))⟩, ⟨(some p10), none, (.e (.nilchk (.r p9)))⟩, ⟨(some p11), none, (.e (.fa 1 (.r p10)))⟩, ⟨(some p12), none, (.e (.ld (.r p11)))⟩, ⟨(some p13), none, (.e (.mv (.r p1)))⟩, ⟨(some p14), none, (.w (.app 1 1 (.r p12) (.r p13)))⟩, ⟨(some p15), none, (.e (.nilchk (.r p8)))⟩, ⟨(some p16), none, (.e (.fa 1 (.r p15)))⟩, ⟨none, none, (.w (.st 1 (.r p16) (.r p14)))⟩]) (.seq (.reg [⟨(some p17), none, (.e (.mv (.r p1)))⟩, ⟨(some p18), none, (.e (.lenS (.r p17)))⟩, ⟨(some p4), none, (.e (.mv (.r p18)))⟩, ⟨(some p5), none, (.e (.mv (.c .nili)))⟩]) .ret))))
theorem I52_0 (E : Env) : Is E C52_0 (retK3 R52) (fun σ h => J52_0 E (σ p0) (σ p1) h) :=
  fun σ h => by kernel_rfl
def D52 : DF := ⟨2, 19, C52_0, R52⟩
noncomputable def S52 (E : Env) : Fun := fun args h => aS args fun r0 args => aS args fun r1 args => a0 args (J52_0 E r0 r1 h)
theorem S52_eq (E : Env) (args : List DV) (h : H) : runFn E D52 args h = S52 E args h :=
  Is.fn2 (d := D52) (I52_0 E) rfl (fun r0 r1 h => J52_0 E r0 r1 h) (fun r0 r1 h => by kernel_rfl) args h
/- (*strings.Builder).String -/
def R53 : List RV := [(.r p2)]
noncomputable def J53_0 (E : Env) (r0 : DV) (h : H) : Ans :=
  vK (v_nilchk r0) fun x1 =>
  vK (v_fa 1 x1) fun x2 =>
  vK (v_ld h.get x2) fun x3 =>
  none
def C53_0 : DC := (.seq (.reg [⟨(some p2), none, (.e (.mv (.c (.str []))))⟩]) (.seq (.drg [⟨0, ⟨(some p3), none, (.e (.mv (.r p0)))⟩, [], false⟩, ⟨1, ⟨(some p4), none, (.e (.nilchk (.r p3)))⟩, [], false⟩, ⟨2, ⟨(some p5), none, (.e (.fa 1 (.r p4)))⟩, [], false⟩, ⟨3, ⟨(some p6), none, (.e (.ld (.r p5)))⟩, [], false⟩, ⟨4, ⟨(some p7), none, (.e .bad)⟩, [], false⟩, ⟨5, ⟨(some p8), none, (.e (.mv (.r p0)))⟩, [], false⟩, ⟨6, ⟨(some p9), none, (.e (.nilchk (.r p8)))⟩, [], false⟩, ⟨7, ⟨(some p10), none, (.e (.fa 1 (.r p9)))⟩, [], false⟩, ⟨8, ⟨(some p11), none, (.e (.ld (.r p10)))⟩, [], false⟩, ⟨9, ⟨(some p12), none, (.e (.lenL (.r p11)))⟩, [], false⟩, ⟨10, ⟨(some p13), none, (.e .bad)⟩, [], false⟩, ⟨11, ⟨(some p2), none, (.e (.mv (.r p13)))⟩, [], false⟩]) .ret))
theorem I53_0 (E : Env) : Is E C53_0 (retK3 R53) (fun σ h => J53_0 E (σ p0) h) :=
  fun σ h => by kernel_rfl
def D53 : DF := ⟨1, 14, C53_0, R53⟩
noncomputable def S53 (E : Env) : Fun := fun args h => aS args fun r0 args => a0 args (J53_0 E r0 h)
theorem S53_eq (E : Env) (args : List DV) (h : H) : runFn E D53 args h = S53 E args h :=
  Is.fn1 (d := D53) (I53_0 E) rfl (fun r0 h => J53_0 E r0 h) (fun r0 h => by kernel_rfl) args h
/- strings.explode -/
def R62 : List RV := [(.r p4)]
noncomputable def J62_4 (E : Env) (r6 : DV) (h : H) : Ans :=
  some (r6, h)
def C62_4 : DC := (.seq (.reg [⟨(some p49), none, (.e (.mv (.r p6)))⟩, ⟨(some p4), none, (.e (.mv (.r p49)))⟩]) .ret)
noncomputable def J62_2 (E : Env) (r0 r1 r6 : DV) (h : H) : Ans :=
  vK (v_gtr r1 (.int .i64 (.ofNat 0))) fun x1 =>
  bK x1
  (vK (v_sub r1 (.int .i64 (.ofNat 1))) fun x2 =>
  vK (v_iaS 1 r6 x2) fun x3 =>
  wK (dStF 1 x3 r0 h) fun x4 h5 =>
  J62_4 E r6 h5)
  (J62_4 E r6 h)
def C62_2 : DC := (.seq (.seq (.reg [⟨(some p42), none, (.e (.mv (.r p1)))⟩, ⟨(some p43), none, (.e (.bin .gtr (.r p42) (.c (.int .i64 (.ofNat 0)))))⟩]) (.cond (.r p43) (.reg [⟨(some p44), none, (.e (.mv (.r p6)))⟩, ⟨(some p45), none, (.e (.mv (.r p1)))⟩, ⟨(some p46), none, (.e (.bin .sub (.r p45) (.c (.int .i64 (.ofNat 1)))))⟩, ⟨(some p47), none, (.e (.mv (.r p0)))⟩, ⟨(some p48), none, (.e (.iaS 1 (.r p44) (.r p46)))⟩, ⟨none, none, (.w (.st 1 (.r p48) (.r p47)))⟩]) .skip)) C62_4)
noncomputable def B62_3 (E : Env) (r1 r6 : DV) (i3 : DV → DV → H → Ans) (r0 r7 : DV) (h : H) : Ans :=
  vK (v_sub r1 (.int .i64 (.ofNat 1))) fun x1 =>
  vK (v_lss r7 x1) fun x2 =>
  bK x2
  (wK (callK E 72 [r0] h) fun x3 h4 =>
  vK (v_ext 0 x3) fun x5 =>
  vK (v_ext 1 x3) fun x6 =>
  vK (v_slS r0 none (some x6)) fun x7 =>
  vK (v_iaS 1 r6 r7) fun x8 =>
  wK (dStF 1 x8 x7 h4) fun x9 h10 =>
  vK (v_slS r0 (some x6) none) fun x11 =>
  vK (v_add r7 (.int .i64 (.ofNat 1))) fun x12 =>
  i3 x11 x12 h10)
  (J62_2 E r0 r1 r6 h)
noncomputable def L62_3 (E : Env) (r1 r6 : DV) (n : Nat) : DV → DV → H → Ans := Nat.rec (motive := fun _ => DV → DV → H → Ans) (fun _ _ _ => none) (fun _ i => B62_3 E r1 r6 i) n
def C62_3 : DC := (.loop (.seq (.seq (.reg [⟨(some p22), none, (.e (.mv (.r p7)))⟩, ⟨(some p23), none, (.e (.mv (.r p1)))⟩, ⟨(some p24), none, (.e (.bin .sub (.r p23) (.c (.int .i64 (.ofNat 1)))))⟩, ⟨(some p25), none, (.e (.bin .lss (.r p22) (.r p24)))⟩]) (.cond (.r p25) .skip (.exit 0))) (.seq (.block 1 (.seq (.reg [⟨(some p29), none, (.e (.mv (.r p0)))⟩, ⟨(some p30), none, (.c (.f 72 [(.r p29)]))⟩, ⟨(some p28), none, (.e (.mv (.r p30)))⟩, ⟨(some p31), none, (.e (.ext 0 (.r p28)))⟩, ⟨(some p32), none, (.e (.ext 1 (.r p28)))⟩, ⟨(some p8), none, (.e (.mv (.r p31)))⟩, ⟨(some p9), none, (.e (.mv (.r p32)))⟩]) (.seq (.reg [⟨(some p33), none, (.e (.mv (.r p6)))⟩, ⟨(some p34), none, (.e (.mv (.r p7)))⟩, ⟨(some p35), none, (.e (.mv (.r p0)))⟩, ⟨(some p36), none, (.e (.mv (.r p9)))⟩, ⟨(some p37), none, (.e (.slS (.r p35) none (some (.r p36))))⟩, ⟨(some p38), none, (.e (.iaS 1 (.r p33) (.r p34)))⟩, ⟨none, none, (.w (.st 1 (.r p38) (.r p37)))⟩]) (.reg [⟨(some p39), none, (.e (.mv (.r p0)))⟩, ⟨(some p40), none, (.e (.mv (.r p9)))⟩, ⟨(some p41), none, (.e (.slS (.r p39) (some (.r p40)) none))⟩, ⟨(some p0), none, (.e (.mv (.r p41)))⟩])))) (.reg [⟨(some p26), none, (.e (.mv (.r p7)))⟩, ⟨(some p27), none, (.e (.bin .add (.r p26) (.c (.int .i64 (.ofNat 1)))))⟩, ⟨(some p7), none, (.e (.mv (.r p27)))⟩]))))
noncomputable def J62_1 (E : Env) (r0 r1 : DV) (h : H) : Ans :=
  n_mks 1 16 (.str []) r1 r1 h fun x1 h2 =>
  L62_3 E r1 x1 FUEL r0 (.int .i64 (.ofNat 0)) h2
def C62_1 : DC := (.seq (.reg [⟨(some p20), none, (.e (.mv (.r p1)))⟩, ⟨(some p21), none, (.e (.mks 1 16 (.str []) (.r p20) (.r p20)))⟩, ⟨(some p6), none, (.e (.mv (.r p21)))⟩]) (.seq (.seq (.reg [⟨(some p7), none, (.e (.mv (.c (.int .i64 (.ofNat 0)))))⟩]) (.block 0 C62_3)) C62_2))
noncomputable def J62_0 (E : Env) (r0 r1 : DV) (h : H) : Ans :=
  wK (callK E 75 [r0] h) fun x1 h2 =>
  vK (v_lss r1 (.int .i64 (.ofNat 0))) fun x3 =>
  gdK x3 false (fun kk => kk r1 h2) h2 fun x4 h5 =>
  gdK x3 false (fun kk => kk x1 h5) h5 fun x6 h7 =>
  gdK x3 false (fun kk => vK (v_gtr x4 x6) fun v => kk v h7) h7 fun x8 h9 =>
  vK (v_pick x3 (.bool true) x8) fun x10 =>
  bK x10
  (J62_1 E r0 x1 h9)
  (J62_1 E r0 r1 h9)
def C62_0 : DC := (.seq (.reg [⟨(some p4), none, (.e (.mv (.c .nils)))⟩]) (.seq (.reg [⟨(some p10), none, (.e (.mv (.r p0)))⟩, ⟨(some p11), none, (.c (.f 75 [(.r p10)]))⟩, ⟨(some p5), none, (.e (.mv (.r p11)))⟩]) (.seq (.seq (.reg [⟨(some p12), none, (.e (.mv (.r p1)))⟩, ⟨(some p13), none, (.e (.bin .lss (.r p12) (.c (.int .i64 (.ofNat 0)))))⟩, ⟨(some p14), none, (.e (.mv (.r p13)))⟩, ⟨(some p15), (some (p14, false)), (.e (.mv (.r p1)))⟩, ⟨(some p16), (some (p14, false)), (.e (.mv (.r p5)))⟩, ⟨(some p17), (some (p14, false)), (.e (.bin .gtr (.r p15) (.r p16)))⟩, ⟨(some p18), none, (.e (.pick (.r p14) (.c (.bool true)) (.r p17)))⟩]) (.cond (.r p18) (.reg [⟨(some p19), none, (.e (.mv (.r p5)))⟩, ⟨(some p1), none, (.e (.mv (.r p19)))⟩]) .skip)) C62_1)))
theorem I62_4 (E : Env) : Is E C62_4 (retK3 R62) (fun σ h => J62_4 E (σ p6) h) :=
  fun σ h => by kernel_rfl
theorem I62_2 (E : Env) : Is E C62_2 (retK3 R62) (fun σ h => J62_2 E (σ p0) (σ p1) (σ p6) h) :=
  Is.as (Is.seq (I62_4 E) (Is.leaf _)) fun σ h => by kernel_rfl
noncomputable abbrev K62_5 (E : Env) : KT2 (DV × H) := (thenK3 (fun σ h => J62_2 E (σ p0) (σ p1) (σ p6) h) (retK3 R62))
theorem I62_3 (E : Env) : Is E C62_3 (blockK3 0 (K62_5 E)) (fun σ h => L62_3 E (σ p1) (σ p6) FUEL (σ p0) (σ p7) h) :=
  Is.loop (fun n3 σ h => L62_3 E (σ p1) (σ p6) n3 (σ p0) (σ p7) h) (by kernel_rfl) fun n3 => Is.as (Is.leaf _) fun σ h => by kernel_rfl
theorem I62_1 (E : Env) : Is E C62_1 (retK3 R62) (fun σ h => J62_1 E (σ p0) (σ p1) h) :=
  Is.as (Is.seq (Is.seq (I62_2 E) (Is.seq (Is.block (I62_3 E)) (Is.leaf _))) (Is.leaf _)) fun σ h => by kernel_rfl
theorem I62_0 (E : Env) : Is E C62_0 (retK3 R62) (fun σ h => J62_0 E (σ p0) (σ p1) h) :=
  Is.as (Is.seq (Is.seq (Is.seq (I62_1 E) (Is.leaf _)) (Is.leaf _)) (Is.leaf _)) fun σ h => by kernel_rfl
def D62 : DF := ⟨2, 50, C62_0, R62⟩
noncomputable def S62 (E : Env) : Fun := fun args h => aS args fun r0 args => aS args fun r1 args => a0 args (J62_0 E r0 r1 h)
theorem S62_eq (E : Env) (args : List DV) (h : H) : runFn E D62 args h = S62 E args h :=
  Is.fn2 (d := D62) (I62_0 E) rfl (fun r0 r1 h => J62_0 E r0 r1 h) (fun r0 r1 h => by kernel_rfl) args h
/- strings.Count -/
def R63 : List RV := [(.r p4)]
noncomputable def B63_1 (E : Env) (r1 : DV) (i1 : DV → DV → H → Ans) (r0 r5 : DV) (h : H) : Ans :=
  wK (callK E 64 [r0, r1] h) fun x1 h2 =>
  vK (v_eql x1 (.int .i64 (.negSucc 0))) fun x3 =>
  bK x3
  (some (r5, h2))
  (vK (v_add r5 (.int .i64 (.ofNat 1))) fun x4 =>
  vK (v_lenS r1) fun x5 =>
  vK (v_add x1 x5) fun x6 =>
  vK (v_slS r0 (some x6) none) fun x7 =>
  i1 x7 x4 h2)
noncomputable def L63_1 (E : Env) (r1 : DV) (n : Nat) : DV → DV → H → Ans := Nat.rec (motive := fun _ => DV → DV → H → Ans) (fun _ _ _ => none) (fun _ i => B63_1 E r1 i) n
def C63_1 : DC := (.loop (.block 1 (.seq (.reg [⟨(some p20), none, (.e (.mv (.r p0)))⟩, ⟨(some p21), none, (.e (.mv (.r p1)))⟩, ⟨(some p22), none, (.c (.f 64 [(.r p20), (.r p21)]))⟩, ⟨(some p6), none, (.e (.mv (.r p22)))⟩]) (.seq (.seq (.reg [⟨(some p23), none, (.e (.mv (.r p6)))⟩, ⟨(some p24), none, (.e (.bin .eql (.r p23) (.c (.int .i64 (.negSucc 0)))))⟩]) (.cond (.r p24) (.seq (.reg [⟨(some p25), none, (.e (.mv (.r p5)))⟩, ⟨(some p4), none, (.e (.mv (.r p25)))⟩]) .ret) .skip)) (.seq (.reg [⟨(some p26), none, (.e (.mv (.r p5)))⟩, ⟨(some p27), none, (.e (.bin .add (.r p26) (.c (.int .i64 (.ofNat 1)))))⟩, ⟨(some p5), none, (.e (.mv (.r p27)))⟩]) (.reg [⟨(some p28), none, (.e (.mv (.r p0)))⟩, ⟨(some p29), none, (.e (.mv (.r p6)))⟩, ⟨(some p30), none, (.e (.mv (.r p1)))⟩, ⟨(some p31), none, (.e (.lenS (.r p30)))⟩, ⟨(some p32), none, (.e (.bin .add (.r p29) (.r p31)))⟩, ⟨(some p33), none, (.e (.slS (.r p28) (some (.r p32)) none))⟩, ⟨(some p0), none, (.e (.mv (.r p33)))⟩]))))))
noncomputable def J63_0 (E : Env) (r0 r1 : DV) (h : H) : Ans :=
  vK (v_lenS r1) fun x1 =>
  vK (v_eql x1 (.int .i64 (.ofNat 0))) fun x2 =>
  bK x2
  (wK (callK E 75 [r0] h) fun x3 h4 =>
  vK (v_add x3 (.int .i64 (.ofNat 1))) fun x5 =>
  some (x5, h4))
  (vK (v_lenS r1) fun x6 =>
  vK (v_eql x6 (.int .i64 (.ofNat 1))) fun x7 =>
  bK x7
  (vK (v_ixS r1 (.int .i64 (.ofNat 0))) fun x8 =>
  vK (v_cntB r0 x8) fun x9 =>
  some (x9, h))
  (L63_1 E r1 FUEL r0 (.int .i64 (.ofNat 0)) h))
def C63_0 : DC := (.seq (.reg [⟨(some p4), none, (.e (.mv (.c (.int .i64 (.ofNat 0)))))⟩]) (.seq (.seq (.reg [⟨(some p7), none, (.e (.mv (.r p1)))⟩, ⟨(some p8), none, (.e (.lenS (.r p7)))⟩, ⟨(some p9), none, (.e (.bin .eql (.r p8) (.c (.int .i64 (.ofNat 0)))))⟩]) (.cond (.r p9) (.seq (.reg [⟨(some p10), none, (.e (.mv (.r p0)))⟩, ⟨(some p11), none, (.c (.f 75 [(.r p10)]))⟩, ⟨(some p12), none, (.e (.bin .add (.r p11) (.c (.int .i64 (.ofNat 1)))))⟩, ⟨(some p4), none, (.e (.mv (.r p12)))⟩]) .ret) .skip)) (.seq (.seq (.reg [⟨(some p13), none, (.e (.mv (.r p1)))⟩, ⟨(some p14), none, (.e (.lenS (.r p13)))⟩, ⟨(some p15), none, (.e (.bin .eql (.r p14) (.c (.int .i64 (.ofNat 1)))))⟩]) (.cond (.r p15) (.seq (.reg [⟨(some p16), none, (.e (.mv (.r p0)))⟩, ⟨(some p17), none, (.e (.mv (.r p1)))⟩, ⟨(some p18), none, (.e (.ixS (.r p17) (.c (.int .i64 (.ofNat 0)))))⟩, ⟨(some p19), none, (.e (.prm .cnt (.r p16) (.r p18)))⟩, ⟨(some p4), none, (.e (.mv (.r p19)))⟩]) .ret) .skip)) (.seq (.reg [⟨(some p5), none, (.e (.mv (.c (.int .i64 (.ofNat 0)))))⟩]) (.block 0 C63_1)))))
theorem I63_1 (E : Env) : Is E C63_1 (blockK3 0 (retK3 R63)) (fun σ h => L63_1 E (σ p1) FUEL (σ p0) (σ p5) h) :=
  Is.loop (fun n1 σ h => L63_1 E (σ p1) n1 (σ p0) (σ p5) h) (by kernel_rfl) fun n1 => Is.as (Is.leaf _) fun σ h => by kernel_rfl
theorem I63_0 (E : Env) : Is E C63_0 (retK3 R63) (fun σ h => J63_0 E (σ p0) (σ p1) h) :=
  Is.as (Is.seq (Is.seq (Is.seq (Is.seq (Is.block (I63_1 E)) (Is.leaf _)) (Is.leaf _)) (Is.leaf _)) (Is.leaf _)) fun σ h => by kernel_rfl
def D63 : DF := ⟨2, 34, C63_0, R63⟩
noncomputable def S63 (E : Env) : Fun := fun args h => aS args fun r0 args => aS args fun r1 args => a0 args (J63_0 E r0 r1 h)
theorem S63_eq (E : Env) (args : List DV) (h : H) : runFn E D63 args h = S63 E args h :=
  Is.fn2 (d := D63) (I63_0 E) rfl (fun r0 r1 h => J63_0 E r0 r1 h) (fun r0 r1 h => by kernel_rfl) args h
/- strings.Index -/
def R64 : List RV := [(.r p4)]
noncomputable def J64_0 (E : Env) (r0 r1 : DV) (h : H) : Ans :=
  wK (callK E 77 [r0, r1] h) fun x1 h2 =>
  some (x1, h2)
def C64_0 : DC := (.seq (.reg [⟨(some p4), none, (.e (.mv (.c (.int .i64 (.ofNat 0)))))⟩]) (.seq (.reg [⟨(some p5), none, (.e (.mv (.r p0)))⟩, ⟨(some p6), none, (.e (.mv (.r p1)))⟩, ⟨(some p7), none, (.c (.f 77 [(.r p5), (.r p6)]))⟩, ⟨(some p4), none, (.e (.mv (.r p7)))⟩]) .ret))
theorem I64_0 (E : Env) : Is E C64_0 (retK3 R64) (fun σ h => J64_0 E (σ p0) (σ p1) h) :=
  fun σ h => by kernel_rfl
def D64 : DF := ⟨2, 8, C64_0, R64⟩
noncomputable def S64 (E : Env) : Fun := fun args h => aS args fun r0 args => aS args fun r1 args => a0 args (J64_0 E r0 r1 h)
theorem S64_eq (E : Env) (args : List DV) (h : H) : runFn E D64 args h = S64 E args h :=
  Is.fn2 (d := D64) (I64_0 E) rfl (fun r0 r1 h => J64_0 E r0 r1 h) (fun r0 r1 h => by kernel_rfl) args h
/- internal/stringslite.IndexByte -/
def R65 : List RV := [(.r p4)]
noncomputable def J65_0 (E : Env) (r0 r1 : DV) (h : H) : Ans :=
  vK (v_idxB r0 r1) fun x1 =>
  some (x1, h)
def C65_0 : DC := (.seq (.reg [⟨(some p4), none, (.e (.mv (.c (.int .i64 (.ofNat 0)))))⟩]) (.seq (.reg [⟨(some p5), none, (.e (.mv (.r p0)))⟩, ⟨(some p6), none, (.e (.mv (.r p1)))⟩, ⟨(some p7), none, (.e (.prm .idx (.r p5) (.r p6)))⟩, ⟨(some p4), none, (.e (.mv (.r p7)))⟩]) .ret))
theorem I65_0 (E : Env) : Is E C65_0 (retK3 R65) (fun σ h => J65_0 E (σ p0) (σ p1) h) :=
  fun σ h => by kernel_rfl
def D65 : DF := ⟨2, 8, C65_0, R65⟩
noncomputable def S65 (E : Env) : Fun := fun args h => aS args fun r0 args => aS args fun r1 args => a0 args (J65_0 E r0 r1 h)
theorem S65_eq (E : Env) (args : List DV) (h : H) : runFn E D65 args h = S65 E args h :=
  Is.fn2 (d := D65) (I65_0 E) rfl (fun r0 r1 h => J65_0 E r0 r1 h) (fun r0 r1 h => by kernel_rfl) args h
/- (*strings.Builder).copyCheck -/
def R66 : List RV := []
noncomputable def J66_0 (E : Env) (r0 : DV) (h : H) : Ans :=
  vK (v_nilchk r0) fun x1 =>
  vK (v_fa 0 x1) fun x2 =>
  vK (v_ld h.get x2) fun x3 =>
  vK (v_eqv .ptr false h.get x3 .nilp) fun x4 =>
  bK x4
  (none)
  (vK (v_nilchk r0) fun x11 =>
  vK (v_fa 0 x11) fun x12 =>
  vK (v_ld h.get x12) fun x13 =>
  vK (v_eqv .ptr true h.get x13 r0) fun x14 =>
  bK x14
  (none)
  (some ((.tup []), h)))
def C66_0 : DC := (.seq (.reg [⟨(some p2), none, (.e (.mv (.r p0)))⟩, ⟨(some p3), none, (.e (.nilchk (.r p2)))⟩, ⟨(some p4), none, (.e (.fa 0 (.r p3)))⟩, ⟨(some p5), none, (.e (.ld (.r p4)))⟩, ⟨(some p6), none, (.e (.eqv .ptr false (.r p5) (.c .nilp)))⟩]) (.cond (.r p6) (.reg [⟨(some p7), none, (.e (.mv (.r p0)))⟩, ⟨(some p8), none, (.e (.mv (.r p0)))⟩, ⟨(some p9), none, (.e .bad)⟩, ⟨(some p10), none, (.c (.f 79 [(.r p9)]))⟩, ⟨(some p11), none, (.e .bad)⟩, ⟨(some p12), none, (.e (.nilchk (.r p7)))⟩, ⟨(some p13), none, (.e (.fa 0 (.r p12)))⟩, ⟨none, none, (.w (.st 1 (.r p13) (.r p11)))⟩]) (.seq (.reg [⟨(some p14), none, (.e (.mv (.r p0)))⟩, ⟨(some p15), none, (.e (.nilchk (.r p14)))⟩, ⟨(some p16), none, (.e (.fa 0 (.r p15)))⟩, ⟨(some p17), none, (.e (.ld (.r p16)))⟩, ⟨(some p18), none, (.e (.mv (.r p0)))⟩, ⟨(some p19), none, (.e (.eqv .ptr true (.r p17) (.r p18)))⟩]) (.cond (.r p19) .bad .skip))))
theorem I66_0 (E : Env) : Is E C66_0 (retK3 R66) (fun σ h => J66_0 E (σ p0) h) :=
  fun σ h => by kernel_rfl
def D66 : DF := ⟨1, 20, C66_0, R66⟩
noncomputable def S66 (E : Env) : Fun := fun args h => aS args fun r0 args => a0 args (J66_0 E r0 h)
theorem S66_eq (E : Env) (args : List DV) (h : H) : runFn E D66 args h = S66 E args h :=
  Is.fn1 (d := D66) (I66_0 E) rfl (fun r0 h => J66_0 E r0 h) (fun r0 h => by kernel_rfl) args h
/- (*strings.Builder).grow -/
def R67 : List RV := []
noncomputable def J67_0 (E : Env) (r0 : DV) (h : H) : Ans :=
  vK (v_nilchk r0) fun x1 =>
  vK (v_fa 1 x1) fun x2 =>
  vK (v_ld h.get x2) fun x3 =>
  none
def C67_0 : DC := (.seq (.drg [⟨0, ⟨(some p5), none, (.e (.mv (.r p0)))⟩, [], false⟩, ⟨1, ⟨(some p6), none, (.e (.nilchk (.r p5)))⟩, [], false⟩, ⟨2, ⟨(some p7), none, (.e (.fa 1 (.r p6)))⟩, [], false⟩, ⟨3, ⟨(some p8), none, (.e (.ld (.r p7)))⟩, [], false⟩, ⟨4, ⟨(some p9), none, (.e .bad)⟩, [], false⟩, ⟨5, ⟨(some p10), none, (.e (.bin .mul (.c (.int .i64 (.ofNat 2))) (.r p9)))⟩, [], false⟩, ⟨6, ⟨(some p11), none, (.e (.mv (.r p1)))⟩, [], false⟩, ⟨7, ⟨(some p12), none, (.e (.bin .add (.r p10) (.r p11)))⟩, [], false⟩, ⟨9, ⟨(some p14), none, (.e (.mv (.r p0)))⟩, [], false⟩, ⟨10, ⟨(some p15), none, (.e (.nilchk (.r p14)))⟩, [], false⟩, ⟨11, ⟨(some p16), none, (.e (.fa 1 (.r p15)))⟩, [], false⟩, ⟨12, ⟨(some p17), none, (.e (.ld (.r p16)))⟩, [], false⟩, ⟨13, ⟨(some p18), none, (.e (.lenL (.r p17)))⟩, [], false⟩, ⟨8, ⟨(some p13), none, (.c (.f 80 [(.r p12)]))⟩, [12], false⟩, ⟨14, ⟨(some p19), none, (.e (.slL 1 (.r p13) none (some (.r p18))))⟩, [], false⟩, ⟨15, ⟨(some p4), none, (.e (.mv (.r p19)))⟩, [], false⟩]) (.seq (.reg [⟨(some p20), none, (.e (.mv (.r p4)))⟩, ⟨(some p21), none, (.e (.mv (.r p0)))⟩, ⟨(some p22), none, (.e (.nilchk (.r p21)))⟩, ⟨(some p23), none, (.e (.fa 1 (.r p22)))⟩, ⟨(some p24), none, (.e (.ld (.r p23)))⟩, ⟨(some p25), none, (.w (.cpy 1 (.r p20) (.r p24)))⟩]) (.reg [⟨(some p26), none, (.e (.mv (.r p0)))⟩, ⟨(some p27), none, (.e (.mv (.r p4)))⟩, ⟨(some p28), none, (.e (.nilchk (.r p26)))⟩, ⟨(some p29), none, (.e (.fa 1 (.r p28)))⟩, ⟨none, none, (.w (.st 1 (.r p29) (.r p27)))⟩])))
theorem I67_0 (E : Env) : Is E C67_0 (retK3 R67) (fun σ h => J67_0 E (σ p0) h) :=
  fun σ h => by kernel_rfl
def D67 : DF := ⟨2, 30, C67_0, R67⟩
noncomputable def S67 (E : Env) : Fun := fun args h => aS args fun r0 args => aS args fun r1 args => a0 args (J67_0 E r0 h)
theorem S67_eq (E : Env) (args : List DV) (h : H) : runFn E D67 args h = S67 E args h :=
  Is.fn2 (d := D67) (I67_0 E) rfl (fun r0 r1 h => J67_0 E r0 h) (fun r0 r1 h => by kernel_rfl) args h
/- unicode/utf8.DecodeRuneInString -/
def R72 : List RV := [(.r p2), (.r p3)]
noncomputable def J72_0 (E : Env) (r0 : DV) (h : H) : Ans :=
  vK (v_neq r0 (.str [])) fun x1 =>
  gdK x1 true (fun kk => kk r0 h) h fun x2 h3 =>
  gdK x1 true (fun kk => vK (v_ixS x2 (.int .i64 (.ofNat 0))) fun v => kk v h3) h3 fun x4 h5 =>
  gdK x1 true (fun kk => vK (v_lss x4 (.int .u8 (.ofNat 128))) fun v => kk v h5) h5 fun x6 h7 =>
  vK (v_pick x1 x6 (.bool false)) fun x8 =>
  bK x8
  (vK (v_ixS r0 (.int .i64 (.ofNat 0))) fun x9 =>
  vK (v_conv .i32 x9) fun x10 =>
  some ((.tup [x10, (.int .i64 (.ofNat 1))]), h7))
  (wK (callK E 84 [r0] h7) fun x11 h12 =>
  vK (v_ext 0 x11) fun x13 =>
  vK (v_ext 1 x11) fun x14 =>
  some ((.tup [x13, x14]), h12))
def C72_0 : DC := (.seq (.reg [⟨(some p2), none, (.e (.mv (.c (.int .i32 (.ofNat 0)))))⟩, ⟨(some p3), none, (.e (.mv (.c (.int .i64 (.ofNat 0)))))⟩]) (.seq (.seq (.reg [⟨(some p4), none, (.e (.mv (.r p0)))⟩, ⟨(some p5), none, (.e (.bin .neq (.r p4) (.c (.str []))))⟩, ⟨(some p6), none, (.e (.mv (.r p5)))⟩, ⟨(some p7), (some (p6, true)), (.e (.mv (.r p0)))⟩, ⟨(some p8), (some (p6, true)), (.e (.ixS (.r p7) (.c (.int .i64 (.ofNat 0)))))⟩, ⟨(some p9), (some (p6, true)), (.e (.bin .lss (.r p8) (.c (.int .u8 (.ofNat 128)))))⟩, ⟨(some p10), none, (.e (.pick (.r p6) (.r p9) (.c (.bool false))))⟩]) (.cond (.r p10) (.seq (.reg [⟨(some p11), none, (.e (.mv (.r p0)))⟩, ⟨(some p12), none, (.e (.ixS (.r p11) (.c (.int .i64 (.ofNat 0)))))⟩, ⟨(some p13), none, (.e (.conv .i32 (.r p12)))⟩, ⟨(some p2), none, (.e (.mv (.r p13)))⟩, ⟨(some p3), none, (.e (.mv (.c (.int .i64 (.ofNat 1)))))⟩]) .ret) (.reg [⟨(some p15), none, (.e (.mv (.r p0)))⟩, ⟨(some p16), none, (.c (.f 84 [(.r p15)]))⟩, ⟨(some p14), none, (.e (.mv (.r p16)))⟩, ⟨(some p17), none, (.e (.ext 0 (.r p14)))⟩, ⟨(some p18), none, (.e (.ext 1 (.r p14)))⟩, ⟨(some p2), none, (.e (.mv (.r p17)))⟩, ⟨(some p3), none, (.e (.mv (.r p18)))⟩]))) .ret))
theorem I72_0 (E : Env) : Is E C72_0 (retK3 R72) (fun σ h => J72_0 E (σ p0) h) :=
  fun σ h => by kernel_rfl
def D72 : DF := ⟨1, 19, C72_0, R72⟩
noncomputable def S72 (E : Env) : Fun := fun args h => aS args fun r0 args => a0 args (J72_0 E r0 h)
theorem S72_eq (E : Env) (args : List DV) (h : H) : runFn E D72 args h = S72 E args h :=
  Is.fn1 (d := D72) (I72_0 E) rfl (fun r0 h => J72_0 E r0 h) (fun r0 h => by kernel_rfl) args h
/- unicode/utf8.RuneCountInString -/
def R75 : List RV := [(.r p2)]
noncomputable def J75_1 (E : Env) (r2 : DV) (h : H) : Ans :=
  some (r2, h)
def C75_1 : DC := (.seq (.reg [⟨(some p9), none, (.e (.mv (.r p2)))⟩, ⟨(some p2), none, (.e (.mv (.r p9)))⟩]) .ret)
noncomputable def B75_2 (E : Env) (i2 : H → Ans) (h : H) : Ans :=
  none
noncomputable def L75_2 (E : Env) (n : Nat) : H → Ans := Nat.rec (motive := fun _ => H → Ans) (fun _ => none) (fun _ i => B75_2 E i) n
def C75_2 : DC := (.loop (.seq (.reg [⟨(some p5), none, (.e .bad)⟩, ⟨(some p6), none, (.e (.ext 0 (.r p5)))⟩]) (.seq (.cond (.r p6) .skip (.exit 0)) (.block 1 (.reg [⟨(some p7), none, (.e (.mv (.r p2)))⟩, ⟨(some p8), none, (.e (.bin .add (.r p7) (.c (.int .i64 (.ofNat 1)))))⟩, ⟨(some p2), none, (.e (.mv (.r p8)))⟩])))))
noncomputable def J75_0 (E : Env) (h : H) : Ans :=
  none
def C75_0 : DC := (.seq (.reg [⟨(some p2), none, (.e (.mv (.c (.int .i64 (.ofNat 0)))))⟩]) (.seq (.seq (.reg [⟨(some p3), none, (.e (.mv (.r p0)))⟩, ⟨(some p4), none, (.e .bad)⟩]) (.block 0 C75_2)) C75_1))
theorem I75_1 (E : Env) : Is E C75_1 (retK3 R75) (fun σ h => J75_1 E (σ p2) h) :=
  fun σ h => by kernel_rfl
noncomputable abbrev K75_3 (E : Env) : KT2 (DV × H) := (thenK3 (fun σ h => J75_1 E (σ p2) h) (retK3 R75))
theorem I75_2 (E : Env) : Is E C75_2 (blockK3 0 (K75_3 E)) (fun σ h => L75_2 E FUEL h) :=
  Is.loop (fun n2 σ h => L75_2 E n2 h) (by kernel_rfl) fun n2 => Is.as (Is.leaf _) fun σ h => by kernel_rfl
theorem I75_0 (E : Env) : Is E C75_0 (retK3 R75) (fun σ h => J75_0 E h) :=
  Is.as (Is.seq (Is.seq (I75_1 E) (Is.seq (Is.block (I75_2 E)) (Is.leaf _))) (Is.leaf _)) fun σ h => by kernel_rfl
def D75 : DF := ⟨1, 10, C75_0, R75⟩
noncomputable def S75 (E : Env) : Fun := fun args h => aS args fun r0 args => a0 args (J75_0 E h)
theorem S75_eq (E : Env) (args : List DV) (h : H) : runFn E D75 args h = S75 E args h :=
  Is.fn1 (d := D75) (I75_0 E) rfl (fun r0 h => J75_0 E h) (fun r0 h => by kernel_rfl) args h
/- internal/stringslite.Index -/
def R77 : List RV := [(.r p4)]
noncomputable def J77_1 (E : Env) (h : H) : Ans :=
  some ((.int .i64 (.negSucc 0)), h)
def C77_1 : DC := (.seq (.reg [⟨(some p4), none, (.e (.mv (.c (.int .i64 (.negSucc 0)))))⟩]) .ret)
noncomputable def J77_3 (E : Env) (r0 r1 r5 r7 r8 r10 : DV) (h : H) : Ans :=
  vK (v_add r8 (.int .i64 (.ofNat 1))) fun x1 =>
  vK (v_ixS r0 x1) fun x2 =>
  vK (v_eql x2 r7) fun x3 =>
  gdK x3 true (fun kk => kk r0 h) h fun x4 h5 =>
  gdK x3 true (fun kk => kk r8 h5) h5 fun x6 h7 =>
  gdK x3 true (fun kk => kk r8 h7) h7 fun x8 h9 =>
  gdK x3 true (fun kk => kk r5 h9) h9 fun x10 h11 =>
  gdK x3 true (fun kk => vK (v_add x8 x10) fun v => kk v h11) h11 fun x12 h13 =>
  gdK x3 true (fun kk => vK (v_slS x4 (some x6) (some x12)) fun v => kk v h13) h13 fun x14 h15 =>
  gdK x3 true (fun kk => kk r1 h15) h15 fun x16 h17 =>
  gdK x3 true (fun kk => vK (v_eql x14 x16) fun v => kk v h17) h17 fun x18 h19 =>
  vK (v_pick x3 x18 (.bool false)) fun x20 =>
  bK x20
  (some (r8, h19))
  (vK (v_add r8 (.int .i64 (.ofNat 1))) fun x21 =>
  vK (v_add r10 (.int .i64 (.ofNat 1))) fun x22 =>
  none)
def C77_3 : DC := (.seq (.seq (.reg [⟨(some p78), none, (.e (.mv (.r p0)))⟩, ⟨(some p79), none, (.e (.mv (.r p8)))⟩, ⟨(some p80), none, (.e (.bin .add (.r p79) (.c (.int .i64 (.ofNat 1)))))⟩, ⟨(some p81), none, (.e (.ixS (.r p78) (.r p80)))⟩, ⟨(some p82), none, (.e (.mv (.r p7)))⟩, ⟨(some p83), none, (.e (.bin .eql (.r p81) (.r p82)))⟩, ⟨(some p84), none, (.e (.mv (.r p83)))⟩, ⟨(some p85), (some (p84, true)), (.e (.mv (.r p0)))⟩, ⟨(some p86), (some (p84, true)), (.e (.mv (.r p8)))⟩, ⟨(some p87), (some (p84, true)), (.e (.mv (.r p8)))⟩, ⟨(some p88), (some (p84, true)), (.e (.mv (.r p5)))⟩, ⟨(some p89), (some (p84, true)), (.e (.bin .add (.r p87) (.r p88)))⟩, ⟨(some p90), (some (p84, true)), (.e (.slS (.r p85) (some (.r p86)) (some (.r p89))))⟩, ⟨(some p91), (some (p84, true)), (.e (.mv (.r p1)))⟩, ⟨(some p92), (some (p84, true)), (.e (.bin .eql (.r p90) (.r p91)))⟩, ⟨(some p93), none, (.e (.pick (.r p84) (.r p92) (.c (.bool false))))⟩]) (.cond (.r p93) (.seq (.reg [⟨(some p94), none, (.e (.mv (.r p8)))⟩, ⟨(some p4), none, (.e (.mv (.r p94)))⟩]) .ret) .skip)) (.seq (.reg [⟨(some p95), none, (.e (.mv (.r p8)))⟩, ⟨(some p96), none, (.e (.bin .add (.r p95) (.c (.int .i64 (.ofNat 1)))))⟩, ⟨(some p8), none, (.e (.mv (.r p96)))⟩]) (.seq (.reg [⟨(some p97), none, (.e (.mv (.r p10)))⟩, ⟨(some p98), none, (.e (.bin .add (.r p97) (.c (.int .i64 (.ofNat 1)))))⟩, ⟨(some p10), none, (.e (.mv (.r p98)))⟩]) (.seq (.reg [⟨(some p99), none, (.e (.mv (.r p5)))⟩, ⟨(some p100), none, (.e .bad)⟩, ⟨(some p101), none, (.e (.bin .leq (.r p99) (.r p100)))⟩, ⟨(some p102), none, (.e (.mv (.r p101)))⟩, ⟨(some p103), (some (p102, true)), (.e (.mv (.r p10)))⟩, ⟨(some p104), (some (p102, true)), (.e (.mv (.r p8)))⟩, ⟨(some p105), (some (p102, true)), (.c (.f 88 [(.r p104)]))⟩, ⟨(some p106), (some (p102, true)), (.e (.bin .gtr (.r p103) (.r p105)))⟩, ⟨(some p107), none, (.e (.pick (.r p102) (.r p106) (.c (.bool false))))⟩]) (.cond (.r p107) (.seq (.reg [⟨(some p108), none, (.e (.mv (.r p0)))⟩, ⟨(some p109), none, (.e (.mv (.r p8)))⟩, ⟨(some p110), none, (.e (.slS (.r p108) (some (.r p109)) none))⟩, ⟨(some p111), none, (.e (.mv (.r p1)))⟩, ⟨(some p112), none, (.c (.f 87 [(.r p110), (.r p111)]))⟩, ⟨(some p12), none, (.e (.mv (.r p112)))⟩]) (.seq (.seq (.reg [⟨(some p113), none, (.e (.mv (.r p12)))⟩, ⟨(some p114), none, (.e (.bin .geq (.r p113) (.c (.int .i64 (.ofNat 0)))))⟩]) (.cond (.r p114) (.seq (.reg [⟨(some p115), none, (.e (.mv (.r p12)))⟩, ⟨(some p116), none, (.e (.mv (.r p8)))⟩, ⟨(some p117), none, (.e (.bin .add (.r p115) (.r p116)))⟩, ⟨(some p4), none, (.e (.mv (.r p117)))⟩]) .ret) .skip)) (.seq (.reg [⟨(some p4), none, (.e (.mv (.c (.int .i64 (.negSucc 0)))))⟩]) .ret))) (.seq (.reg [⟨(some p118), none, (.e (.mv (.r p5)))⟩, ⟨(some p119), none, (.e .bad)⟩, ⟨(some p120), none, (.e (.bin .gtr (.r p118) (.r p119)))⟩, ⟨(some p121), none, (.e (.mv (.r p120)))⟩, ⟨(some p122), (some (p121, true)), (.e (.mv (.r p10)))⟩, ⟨(some p123), (some (p121, true)), (.e (.mv (.r p8)))⟩, ⟨(some p124), (some (p121, true)), (.e (.bin .shr (.r p123) (.c (.int .u64 (.ofNat 4)))))⟩, ⟨(some p125), (some (p121, true)), (.e (.bin .add (.c (.int .i64 (.ofNat 4))) (.r p124)))⟩, ⟨(some p126), (some (p121, true)), (.e (.bin .geq (.r p122) (.r p125)))⟩, ⟨(some p127), none, (.e (.pick (.r p121) (.r p126) (.c (.bool false))))⟩, ⟨(some p128), none, (.e (.mv (.r p127)))⟩, ⟨(some p129), (some (p128, true)), (.e (.mv (.r p8)))⟩, ⟨(some p130), (some (p128, true)), (.e (.mv (.r p9)))⟩, ⟨(some p131), (some (p128, true)), (.e (.bin .lss (.r p129) (.r p130)))⟩, ⟨(some p132), none, (.e (.pick (.r p128) (.r p131) (.c (.bool false))))⟩]) (.cond (.r p132) (.seq (.reg [⟨(some p133), none, (.e (.mv (.r p0)))⟩, ⟨(some p134), none, (.e (.mv (.r p8)))⟩, ⟨(some p135), none, (.e (.slS (.r p133) (some (.r p134)) none))⟩, ⟨(some p136), none, (.e (.mv (.r p1)))⟩, ⟨(some p137), none, (.c (.f 89 [(.r p135), (.r p136)]))⟩, ⟨(some p13), none, (.e (.mv (.r p137)))⟩]) (.seq (.seq (.reg [⟨(some p138), none, (.e (.mv (.r p13)))⟩, ⟨(some p139), none, (.e (.bin .lss (.r p138) (.c (.int .i64 (.ofNat 0)))))⟩]) (.cond (.r p139) (.seq (.reg [⟨(some p4), none, (.e (.mv (.c (.int .i64 (.negSucc 0)))))⟩]) .ret) .skip)) (.seq (.reg [⟨(some p140), none, (.e (.mv (.r p8)))⟩, ⟨(some p141), none, (.e (.mv (.r p13)))⟩, ⟨(some p142), none, (.e (.bin .add (.r p140) (.r p141)))⟩, ⟨(some p4), none, (.e (.mv (.r p142)))⟩]) .ret))) .skip)))))))
noncomputable def B77_2 (E : Env) (r0 r1 r5 r6 r7 r9 : DV) (i2 : DV → DV → H → Ans) (r8 r10 : DV) (h : H) : Ans :=
  vK (v_lss r8 r9) fun x1 =>
  bK x1
  (vK (v_ixS r0 r8) fun x2 =>
  vK (v_neq x2 r6) fun x3 =>
  bK x3
  (vK (v_add r8 (.int .i64 (.ofNat 1))) fun x4 =>
  vK (v_slS r0 (some x4) (some r9)) fun x5 =>
  wK (callK E 65 [x5, r6] h) fun x6 h7 =>
  vK (v_lss x6 (.int .i64 (.ofNat 0))) fun x8 =>
  bK x8
  (some ((.int .i64 (.negSucc 0)), h7))
  (vK (v_add x6 (.int .i64 (.ofNat 1))) fun x9 =>
  vK (v_add r8 x9) fun x10 =>
  J77_3 E r0 r1 r5 r7 x10 r10 h7))
  (J77_3 E r0 r1 r5 r7 r8 r10 h))
  (J77_1 E h)
noncomputable def L77_2 (E : Env) (r0 r1 r5 r6 r7 r9 : DV) (n : Nat) : DV → DV → H → Ans := Nat.rec (motive := fun _ => DV → DV → H → Ans) (fun _ _ _ => none) (fun _ i => B77_2 E r0 r1 r5 r6 r7 r9 i) n
def C77_2 : DC := (.loop (.seq (.seq (.reg [⟨(some p57), none, (.e (.mv (.r p8)))⟩, ⟨(some p58), none, (.e (.mv (.r p9)))⟩, ⟨(some p59), none, (.e (.bin .lss (.r p57) (.r p58)))⟩]) (.cond (.r p59) .skip (.exit 1))) (.block 2 (.seq (.seq (.reg [⟨(some p60), none, (.e (.mv (.r p0)))⟩, ⟨(some p61), none, (.e (.mv (.r p8)))⟩, ⟨(some p62), none, (.e (.ixS (.r p60) (.r p61)))⟩, ⟨(some p63), none, (.e (.mv (.r p6)))⟩, ⟨(some p64), none, (.e (.bin .neq (.r p62) (.r p63)))⟩]) (.cond (.r p64) (.seq (.reg [⟨(some p65), none, (.e (.mv (.r p0)))⟩, ⟨(some p66), none, (.e (.mv (.r p8)))⟩, ⟨(some p67), none, (.e (.bin .add (.r p66) (.c (.int .i64 (.ofNat 1)))))⟩, ⟨(some p68), none, (.e (.mv (.r p9)))⟩, ⟨(some p69), none, (.e (.slS (.r p65) (some (.r p67)) (some (.r p68))))⟩, ⟨(some p70), none, (.e (.mv (.r p6)))⟩, ⟨(some p71), none, (.c (.f 65 [(.r p69), (.r p70)]))⟩, ⟨(some p11), none, (.e (.mv (.r p71)))⟩]) (.seq (.seq (.reg [⟨(some p72), none, (.e (.mv (.r p11)))⟩, ⟨(some p73), none, (.e (.bin .lss (.r p72) (.c (.int .i64 (.ofNat 0)))))⟩]) (.cond (.r p73) (.seq (.reg [⟨(some p4), none, (.e (.mv (.c (.int .i64 (.negSucc 0)))))⟩]) .ret) .skip)) (.reg [⟨(some p74), none, (.e (.mv (.r p8)))⟩, ⟨(some p75), none, (.e (.mv (.r p11)))⟩, ⟨(some p76), none, (.e (.bin .add (.r p75) (.c (.int .i64 (.ofNat 1)))))⟩, ⟨(some p77), none, (.e (.bin .add (.r p74) (.r p76)))⟩, ⟨(some p8), none, (.e (.mv (.r p77)))⟩]))) .skip)) C77_3))))
noncomputable def J77_0 (E : Env) (r0 r1 : DV) (h : H) : Ans :=
  vK (v_lenS r1) fun x1 =>
  vK (v_eql x1 (.int .i64 (.ofNat 0))) fun x2 =>
  gdK x2 false (fun kk => kk r1 h) h fun x3 h4 =>
  gdK x2 false (fun kk => kk r0 h4) h4 fun x5 h6 =>
  gdK x2 false (fun kk => vK (v_eql x3 x5) fun v => kk v h6) h6 fun x7 h8 =>
  vK (v_pick x2 (.bool true) x7) fun x9 =>
  bK x9
  (some ((.int .i64 (.ofNat 0)), h8))
  (vK (v_eql x1 (.int .i64 (.ofNat 1))) fun x10 =>
  bK x10
  (vK (v_ixS r1 (.int .i64 (.ofNat 0))) fun x11 =>
  wK (callK E 65 [r0, x11] h8) fun x12 h13 =>
  some (x12, h13))
  (vK (v_lenS r0) fun x14 =>
  vK (v_geq x1 x14) fun x15 =>
  bK x15
  (some ((.int .i64 (.negSucc 0)), h8))
  (none)))
def C77_0 : DC := (.seq (.reg [⟨(some p4), none, (.e (.mv (.c (.int .i64 (.ofNat 0)))))⟩]) (.seq (.reg [⟨(some p14), none, (.e (.mv (.r p1)))⟩, ⟨(some p15), none, (.e (.lenS (.r p14)))⟩, ⟨(some p5), none, (.e (.mv (.r p15)))⟩]) (.seq (.block 0 (.seq (.reg [⟨(some p17), none, (.e (.mv (.r p5)))⟩, ⟨(some p18), none, (.e (.bin .eql (.r p17) (.c (.int .i64 (.ofNat 0)))))⟩, ⟨(some p19), none, (.e (.mv (.r p18)))⟩, ⟨(some p20), (some (p19, false)), (.e (.mv (.r p1)))⟩, ⟨(some p21), (some (p19, false)), (.e (.mv (.r p0)))⟩, ⟨(some p22), (some (p19, false)), (.e (.bin .eql (.r p20) (.r p21)))⟩, ⟨(some p23), none, (.e (.pick (.r p19) (.c (.bool true)) (.r p22)))⟩, ⟨(some p16), none, (.e (.mv (.r p23)))⟩]) (.cond (.r p16) (.seq (.reg [⟨(some p4), none, (.e (.mv (.c (.int .i64 (.ofNat 0)))))⟩]) .ret) (.seq (.reg [⟨(some p25), none, (.e (.mv (.r p5)))⟩, ⟨(some p26), none, (.e (.bin .eql (.r p25) (.c (.int .i64 (.ofNat 1)))))⟩, ⟨(some p24), none, (.e (.mv (.r p26)))⟩]) (.cond (.r p24) (.seq (.reg [⟨(some p27), none, (.e (.mv (.r p0)))⟩, ⟨(some p28), none, (.e (.mv (.r p1)))⟩, ⟨(some p29), none, (.e (.ixS (.r p28) (.c (.int .i64 (.ofNat 0)))))⟩, ⟨(some p30), none, (.c (.f 65 [(.r p27), (.r p29)]))⟩, ⟨(some p4), none, (.e (.mv (.r p30)))⟩]) .ret) (.seq (.reg [⟨(some p32), none, (.e (.mv (.r p5)))⟩, ⟨(some p33), none, (.e (.mv (.r p0)))⟩, ⟨(some p34), none, (.e (.lenS (.r p33)))⟩, ⟨(some p35), none, (.e (.bin .geq (.r p32) (.r p34)))⟩, ⟨(some p31), none, (.e (.mv (.r p35)))⟩]) (.cond (.r p31) (.seq (.reg [⟨(some p4), none, (.e (.mv (.c (.int .i64 (.negSucc 0)))))⟩]) .ret) (.seq (.reg [⟨(some p37), none, (.e (.mv (.r p5)))⟩, ⟨(some p38), none, (.e .bad)⟩, ⟨(some p39), none, (.e (.bin .leq (.r p37) (.r p38)))⟩, ⟨(some p40), none, (.e (.mv (.r p39)))⟩, ⟨(some p41), (some (p40, true)), (.e (.mv (.r p0)))⟩, ⟨(some p42), (some (p40, true)), (.e (.lenS (.r p41)))⟩, ⟨(some p43), (some (p40, true)), (.e (.bin .leq (.r p42) (.c (.int .i64 (.ofNat 64)))))⟩, ⟨(some p44), none, (.e (.pick (.r p40) (.r p43) (.c (.bool false))))⟩, ⟨(some p36), none, (.e (.mv (.r p44)))⟩]) (.cond (.r p36) (.seq (.reg [⟨(some p45), none, (.e (.mv (.r p0)))⟩, ⟨(some p46), none, (.e (.mv (.r p1)))⟩, ⟨(some p47), none, (.c (.f 87 [(.r p45), (.r p46)]))⟩, ⟨(some p4), none, (.e (.mv (.r p47)))⟩]) .ret) .skip))))))))) (.seq (.reg [⟨(some p48), none, (.e (.mv (.r p1)))⟩, ⟨(some p49), none, (.e (.ixS (.r p48) (.c (.int .i64 (.ofNat 0)))))⟩, ⟨(some p6), none, (.e (.mv (.r p49)))⟩]) (.seq (.reg [⟨(some p50), none, (.e (.mv (.r p1)))⟩, ⟨(some p51), none, (.e (.ixS (.r p50) (.c (.int .i64 (.ofNat 1)))))⟩, ⟨(some p7), none, (.e (.mv (.r p51)))⟩]) (.seq (.reg [⟨(some p8), none, (.e (.mv (.c (.int .i64 (.ofNat 0)))))⟩]) (.seq (.reg [⟨(some p52), none, (.e (.mv (.r p0)))⟩, ⟨(some p53), none, (.e (.lenS (.r p52)))⟩, ⟨(some p54), none, (.e (.mv (.r p5)))⟩, ⟨(some p55), none, (.e (.bin .sub (.r p53) (.r p54)))⟩, ⟨(some p56), none, (.e (.bin .add (.r p55) (.c (.int .i64 (.ofNat 1)))))⟩, ⟨(some p9), none, (.e (.mv (.r p56)))⟩]) (.seq (.reg [⟨(some p10), none, (.e (.mv (.c (.int .i64 (.ofNat 0)))))⟩]) (.seq (.block 1 C77_2) C77_1)))))))))
theorem I77_1 (E : Env) : Is E C77_1 (retK3 R77) (fun σ h => J77_1 E h) :=
  fun σ h => by kernel_rfl
noncomputable abbrev K77_4 (E : Env) : KT2 (DV × H) := (blockK3 1 (thenK3 (fun σ h => J77_1 E h) (retK3 R77)))
noncomputable abbrev K77_5 (E : Env) (n2 : Nat) : KT2 (DV × H) := (thenK3 (fun σ h => (L77_2 E (σ p0) (σ p1) (σ p5) (σ p6) (σ p7) (σ p9) n2) (σ p8) (σ p10) h) (K77_4 E))
theorem I77_3 (E : Env) (n2 : Nat) : Is E C77_3 (blockK3 2 (K77_5 E n2)) (fun σ h => J77_3 E (σ p0) (σ p1) (σ p5) (σ p7) (σ p8) (σ p10) h) :=
  fun σ h => by kernel_rfl
theorem I77_2 (E : Env) : Is E C77_2 (K77_4 E) (fun σ h => L77_2 E (σ p0) (σ p1) (σ p5) (σ p6) (σ p7) (σ p9) FUEL (σ p8) (σ p10) h) :=
  Is.loop (fun n2 σ h => L77_2 E (σ p0) (σ p1) (σ p5) (σ p6) (σ p7) (σ p9) n2 (σ p8) (σ p10) h) (by kernel_rfl) fun n2 => Is.as (Is.seq (Is.block (Is.seq (I77_3 E n2) (Is.leaf _))) (Is.leaf _)) fun σ h => by kernel_rfl
theorem I77_0 (E : Env) : Is E C77_0 (retK3 R77) (fun σ h => J77_0 E (σ p0) (σ p1) h) :=
  Is.as (Is.seq (Is.seq (Is.seq (Is.seq (Is.seq (Is.seq (Is.seq (Is.seq (Is.seq (I77_1 E) (Is.block (I77_2 E))) (Is.leaf _)) (Is.leaf _)) (Is.leaf _)) (Is.leaf _)) (Is.leaf _)) (Is.leaf _)) (Is.leaf _)) (Is.leaf _)) fun σ h => by kernel_rfl
def D77 : DF := ⟨2, 143, C77_0, R77⟩
noncomputable def S77 (E : Env) : Fun := fun args h => aS args fun r0 args => aS args fun r1 args => a0 args (J77_0 E r0 r1 h)
theorem S77_eq (E : Env) (args : List DV) (h : H) : runFn E D77 args h = S77 E args h :=
  Is.fn2 (d := D77) (I77_0 E) rfl (fun r0 r1 h => J77_0 E r0 r1 h) (fun r0 r1 h => by kernel_rfl) args h
/- unicode/utf8.decodeRuneInStringSlow -/
def R84 : List RV := [(.r p2), (.r p3)]
noncomputable def J84_0 (E : Env) (r0 : DV) (h : H) : Ans :=
  vK (v_lenS r0) fun x1 =>
  vK (v_lss x1 (.int .i64 (.ofNat 1))) fun x2 =>
  bK x2
  (some ((.tup [(.int .i32 (.ofNat 65533)), (.int .i64 (.ofNat 0))]), h))
  (vK (v_ixS r0 (.int .i64 (.ofNat 0))) fun x3 =>
  none)
def C84_0 : DC := (.seq (.reg [⟨(some p2), none, (.e (.mv (.c (.int .i32 (.ofNat 0)))))⟩, ⟨(some p3), none, (.e (.mv (.c (.int .i64 (.ofNat 0)))))⟩]) (.seq (.reg [⟨(some p13), none, (.e (.mv (.r p0)))⟩, ⟨(some p14), none, (.e (.lenS (.r p13)))⟩, ⟨(some p4), none, (.e (.mv (.r p14)))⟩]) (.seq (.seq (.reg [⟨(some p15), none, (.e (.mv (.r p4)))⟩, ⟨(some p16), none, (.e (.bin .lss (.r p15) (.c (.int .i64 (.ofNat 1)))))⟩]) (.cond (.r p16) (.seq (.reg [⟨(some p2), none, (.e (.mv (.c (.int .i32 (.ofNat 65533)))))⟩, ⟨(some p3), none, (.e (.mv (.c (.int .i64 (.ofNat 0)))))⟩]) .ret) .skip)) (.seq (.reg [⟨(some p17), none, (.e (.mv (.r p0)))⟩, ⟨(some p18), none, (.e (.ixS (.r p17) (.c (.int .i64 (.ofNat 0)))))⟩, ⟨(some p5), none, (.e (.mv (.r p18)))⟩]) (.seq (.reg [⟨(some p19), none, (.e (.mv (.r p5)))⟩, ⟨(some p20), none, (.e .bad)⟩, ⟨(some p21), none, (.e (.ld (.r p20)))⟩, ⟨(some p6), none, (.e (.mv (.r p21)))⟩]) (.seq (.seq (.reg [⟨(some p22), none, (.e (.mv (.r p6)))⟩, ⟨(some p23), none, (.e (.bin .geq (.r p22) (.c (.int .u8 (.ofNat 240)))))⟩]) (.cond (.r p23) (.seq (.reg [⟨(some p24), none, (.e (.mv (.r p6)))⟩, ⟨(some p25), none, (.e (.conv .i32 (.r p24)))⟩, ⟨(some p26), none, (.e (.bin .shl (.r p25) (.c (.int .u64 (.ofNat 31)))))⟩, ⟨(some p27), none, (.e (.bin .shr (.r p26) (.c (.int .u64 (.ofNat 31)))))⟩, ⟨(some p7), none, (.e (.mv (.r p27)))⟩]) (.seq (.reg [⟨(some p28), none, (.e (.mv (.r p0)))⟩, ⟨(some p29), none, (.e (.ixS (.r p28) (.c (.int .i64 (.ofNat 0)))))⟩, ⟨(some p30), none, (.e (.conv .i32 (.r p29)))⟩, ⟨(some p31), none, (.e (.mv (.r p7)))⟩, ⟨(some p32), none, (.e (.bin .andNot (.r p30) (.r p31)))⟩, ⟨(some p33), none, (.e (.mv (.r p7)))⟩, ⟨(some p34), none, (.e (.bin .and (.c (.int .i32 (.ofNat 65533))) (.r p33)))⟩, ⟨(some p35), none, (.e (.bin .or (.r p32) (.r p34)))⟩, ⟨(some p2), none, (.e (.mv (.r p35)))⟩, ⟨(some p3), none, (.e (.mv (.c (.int .i64 (.ofNat 1)))))⟩]) .ret)) .skip)) (.seq (.reg [⟨(some p36), none, (.e (.mv (.r p6)))⟩, ⟨(some p37), none, (.e (.bin .and (.r p36) (.c (.int .u8 (.ofNat 7)))))⟩, ⟨(some p38), none, (.e (.conv .i64 (.r p37)))⟩, ⟨(some p8), none, (.e (.mv (.r p38)))⟩]) (.seq (.reg [⟨(some p39), none, (.e (.mv (.r p6)))⟩, ⟨(some p40), none, (.e (.bin .shr (.r p39) (.c (.int .u64 (.ofNat 4)))))⟩, ⟨(some p41), none, (.e .bad)⟩, ⟨(some p42), none, (.e (.ldN 2 (.r p41)))⟩, ⟨(some p9), none, (.e (.alc 2 2 (.list [(.int .u8 (.ofNat 0)), (.int .u8 (.ofNat 0))])))⟩, ⟨none, none, (.w (.st 2 (.r p9) (.r p42)))⟩]) (.seq (.seq (.reg [⟨(some p43), none, (.e (.mv (.r p4)))⟩, ⟨(some p44), none, (.e (.mv (.r p8)))⟩, ⟨(some p45), none, (.e (.bin .lss (.r p43) (.r p44)))⟩]) (.cond (.r p45) (.seq (.reg [⟨(some p2), none, (.e (.mv (.c (.int .i32 (.ofNat 65533)))))⟩, ⟨(some p3), none, (.e (.mv (.c (.int .i64 (.ofNat 1)))))⟩]) .ret) .skip)) (.seq (.reg [⟨(some p46), none, (.e (.mv (.r p0)))⟩, ⟨(some p47), none, (.e (.ixS (.r p46) (.c (.int .i64 (.ofNat 1)))))⟩, ⟨(some p10), none, (.e (.mv (.r p47)))⟩]) (.seq (.seq (.reg [⟨(some p48), none, (.e (.mv (.r p10)))⟩, ⟨(some p49), none, (.e (.fa 0 (.r p9)))⟩, ⟨(some p50), none, (.e (.ld (.r p49)))⟩, ⟨(some p51), none, (.e (.bin .lss (.r p48) (.r p50)))⟩, ⟨(some p52), none, (.e (.mv (.r p51)))⟩, ⟨(some p53), (some (p52, false)), (.e (.fa 1 (.r p9)))⟩, ⟨(some p54), (some (p52, false)), (.e (.ld (.r p53)))⟩, ⟨(some p55), (some (p52, false)), (.e (.mv (.r p10)))⟩, ⟨(some p56), (some (p52, false)), (.e (.bin .lss (.r p54) (.r p55)))⟩, ⟨(some p57), none, (.e (.pick (.r p52) (.c (.bool true)) (.r p56)))⟩]) (.cond (.r p57) (.seq (.reg [⟨(some p2), none, (.e (.mv (.c (.int .i32 (.ofNat 65533)))))⟩, ⟨(some p3), none, (.e (.mv (.c (.int .i64 (.ofNat 1)))))⟩]) .ret) .skip)) (.seq (.seq (.reg [⟨(some p58), none, (.e (.mv (.r p8)))⟩, ⟨(some p59), none, (.e (.bin .leq (.r p58) (.c (.int .i64 (.ofNat 2)))))⟩]) (.cond (.r p59) (.seq (.reg [⟨(some p60), none, (.e (.mv (.r p5)))⟩, ⟨(some p61), none, (.e (.bin .and (.r p60) (.c (.int .u8 (.ofNat 31)))))⟩, ⟨(some p62), none, (.e (.conv .i32 (.r p61)))⟩, ⟨(some p63), none, (.e (.bin .shl (.r p62) (.c (.int .u64 (.ofNat 6)))))⟩, ⟨(some p64), none, (.e (.mv (.r p10)))⟩, ⟨(some p65), none, (.e (.bin .and (.r p64) (.c (.int .u8 (.ofNat 63)))))⟩, ⟨(some p66), none, (.e (.conv .i32 (.r p65)))⟩, ⟨(some p67), none, (.e (.bin .or (.r p63) (.r p66)))⟩, ⟨(some p2), none, (.e (.mv (.r p67)))⟩, ⟨(some p3), none, (.e (.mv (.c (.int .i64 (.ofNat 2)))))⟩]) .ret) .skip)) (.seq (.reg [⟨(some p68), none, (.e (.mv (.r p0)))⟩, ⟨(some p69), none, (.e (.ixS (.r p68) (.c (.int .i64 (.ofNat 2)))))⟩, ⟨(some p11), none, (.e (.mv (.r p69)))⟩]) (.seq (.seq (.reg [⟨(some p70), none, (.e (.mv (.r p11)))⟩, ⟨(some p71), none, (.e (.bin .lss (.r p70) (.c (.int .u8 (.ofNat 128)))))⟩, ⟨(some p72), none, (.e (.mv (.r p71)))⟩, ⟨(some p73), (some (p72, false)), (.e (.mv (.r p11)))⟩, ⟨(some p74), (some (p72, false)), (.e (.bin .lss (.c (.int .u8 (.ofNat 191))) (.r p73)))⟩, ⟨(some p75), none, (.e (.pick (.r p72) (.c (.bool true)) (.r p74)))⟩]) (.cond (.r p75) (.seq (.reg [⟨(some p2), none, (.e (.mv (.c (.int .i32 (.ofNat 65533)))))⟩, ⟨(some p3), none, (.e (.mv (.c (.int .i64 (.ofNat 1)))))⟩]) .ret) .skip)) (.seq (.seq (.reg [⟨(some p76), none, (.e (.mv (.r p8)))⟩, ⟨(some p77), none, (.e (.bin .leq (.r p76) (.c (.int .i64 (.ofNat 3)))))⟩]) (.cond (.r p77) (.seq (.reg [⟨(some p78), none, (.e (.mv (.r p5)))⟩, ⟨(some p79), none, (.e (.bin .and (.r p78) (.c (.int .u8 (.ofNat 15)))))⟩, ⟨(some p80), none, (.e (.conv .i32 (.r p79)))⟩, ⟨(some p81), none, (.e (.bin .shl (.r p80) (.c (.int .u64 (.ofNat 12)))))⟩, ⟨(some p82), none, (.e (.mv (.r p10)))⟩, ⟨(some p83), none, (.e (.bin .and (.r p82) (.c (.int .u8 (.ofNat 63)))))⟩, ⟨(some p84), none, (.e (.conv .i32 (.r p83)))⟩, ⟨(some p85), none, (.e (.bin .shl (.r p84) (.c (.int .u64 (.ofNat 6)))))⟩, ⟨(some p86), none, (.e (.bin .or (.r p81) (.r p85)))⟩, ⟨(some p87), none, (.e (.mv (.r p11)))⟩, ⟨(some p88), none, (.e (.bin .and (.r p87) (.c (.int .u8 (.ofNat 63)))))⟩, ⟨(some p89), none, (.e (.conv .i32 (.r p88)))⟩, ⟨(some p90), none, (.e (.bin .or (.r p86) (.r p89)))⟩, ⟨(some p2), none, (.e (.mv (.r p90)))⟩, ⟨(some p3), none, (.e (.mv (.c (.int .i64 (.ofNat 3)))))⟩]) .ret) .skip)) (.seq (.reg [⟨(some p91), none, (.e (.mv (.r p0)))⟩, ⟨(some p92), none, (.e (.ixS (.r p91) (.c (.int .i64 (.ofNat 3)))))⟩, ⟨(some p12), none, (.e (.mv (.r p92)))⟩]) (.seq (.seq (.reg [⟨(some p93), none, (.e (.mv (.r p12)))⟩, ⟨(some p94), none, (.e (.bin .lss (.r p93) (.c (.int .u8 (.ofNat 128)))))⟩, ⟨(some p95), none, (.e (.mv (.r p94)))⟩, ⟨(some p96), (some (p95, false)), (.e (.mv (.r p12)))⟩, ⟨(some p97), (some (p95, false)), (.e (.bin .lss (.c (.int .u8 (.ofNat 191))) (.r p96)))⟩, ⟨(some p98), none, (.e (.pick (.r p95) (.c (.bool true)) (.r p97)))⟩]) (.cond (.r p98) (.seq (.reg [⟨(some p2), none, (.e (.mv (.c (.int .i32 (.ofNat 65533)))))⟩, ⟨(some p3), none, (.e (.mv (.c (.int .i64 (.ofNat 1)))))⟩]) .ret) .skip)) (.seq (.reg [⟨(some p99), none, (.e (.mv (.r p5)))⟩, ⟨(some p100), none, (.e (.bin .and (.r p99) (.c (.int .u8 (.ofNat 7)))))⟩, ⟨(some p101), none, (.e (.conv .i32 (.r p100)))⟩, ⟨(some p102), none, (.e (.bin .shl (.r p101) (.c (.int .u64 (.ofNat 18)))))⟩, ⟨(some p103), none, (.e (.mv (.r p10)))⟩, ⟨(some p104), none, (.e (.bin .and (.r p103) (.c (.int .u8 (.ofNat 63)))))⟩, ⟨(some p105), none, (.e (.conv .i32 (.r p104)))⟩, ⟨(some p106), none, (.e (.bin .shl (.r p105) (.c (.int .u64 (.ofNat 12)))))⟩, ⟨(some p107), none, (.e (.bin .or (.r p102) (.r p106)))⟩, ⟨(some p108), none, (.e (.mv (.r p11)))⟩, ⟨(some p109), none, (.e (.bin .and (.r p108) (.c (.int .u8 (.ofNat 63)))))⟩, ⟨(some p110), none, (.e (.conv .i32 (.r p109)))⟩, ⟨(some p111), none, (.e (.bin .shl (.r p110) (.c (.int .u64 (.ofNat 6)))))⟩, ⟨(some p112), none, (.e (.bin .or (.r p107) (.r p111)))⟩, ⟨(some p113), none, (.e (.mv (.r p12)))⟩, ⟨(some p114), none, (.e (.bin .and (.r p113) (.c (.int .u8 (.ofNat 63)))))⟩, ⟨(some p115), none, (.e (.conv .i32 (.r p114)))⟩, ⟨(some p116), none, (.e (.bin .or (.r p112) (.r p115)))⟩, ⟨(some p2), none, (.e (.mv (.r p116)))⟩, ⟨(some p3), none, (.e (.mv (.c (.int .i64 (.ofNat 4)))))⟩]) .ret))))))))))))))))))
theorem I84_0 (E : Env) : Is E C84_0 (retK3 R84) (fun σ h => J84_0 E (σ p0) h) :=
  fun σ h => by kernel_rfl
def D84 : DF := ⟨1, 117, C84_0, R84⟩
noncomputable def S84 (E : Env) : Fun := fun args h => aS args fun r0 args => a0 args (J84_0 E r0 h)
theorem S84_eq (E : Env) (args : List DV) (h : H) : runFn E D84 args h = S84 E args h :=
  Is.fn1 (d := D84) (I84_0 E) rfl (fun r0 h => J84_0 E r0 h) (fun r0 h => by kernel_rfl) args h
/- internal/bytealg.Cutover -/
def R88 : List RV := [(.r p2)]
noncomputable def J88_0 (E : Env) (r0 : DV) (h : H) : Ans :=
  vK (v_add r0 (.int .i64 (.ofNat 16))) fun x1 =>
  vK (v_quo x1 (.int .i64 (.ofNat 8))) fun x2 =>
  some (x2, h)
def C88_0 : DC := (.seq (.reg [⟨(some p2), none, (.e (.mv (.c (.int .i64 (.ofNat 0)))))⟩]) (.seq (.reg [⟨(some p3), none, (.e (.mv (.r p0)))⟩, ⟨(some p4), none, (.e (.bin .add (.r p3) (.c (.int .i64 (.ofNat 16)))))⟩, ⟨(some p5), none, (.e (.bin .quo (.r p4) (.c (.int .i64 (.ofNat 8)))))⟩, ⟨(some p2), none, (.e (.mv (.r p5)))⟩]) .ret))
theorem I88_0 (E : Env) : Is E C88_0 (retK3 R88) (fun σ h => J88_0 E (σ p0) h) :=
  fun σ h => by kernel_rfl
def D88 : DF := ⟨1, 6, C88_0, R88⟩
noncomputable def S88 (E : Env) : Fun := fun args h => aS args fun r0 args => a0 args (J88_0 E r0 h)
theorem S88_eq (E : Env) (args : List DV) (h : H) : runFn E D88 args h = S88 E args h :=
  Is.fn1 (d := D88) (I88_0 E) rfl (fun r0 h => J88_0 E r0 h) (fun r0 h => by kernel_rfl) args h
/- internal/bytealg.IndexRabinKarp[string] -/
def R89 : List RV := [(.r p4)]
noncomputable def J89_3 (E : Env) (h : H) : Ans :=
  some ((.int .i64 (.negSucc 0)), h)
def C89_3 : DC := (.seq (.reg [⟨(some p4), none, (.e (.mv (.c (.int .i64 (.negSucc 0)))))⟩]) .ret)
noncomputable def B89_4 (E : Env) (r0 r1 r5 r6 r7 : DV) (i4 : DV → DV → H → Ans) (r8 r10 : DV) (h : H) : Ans :=
  vK (v_lenS r0) fun x1 =>
  vK (v_lss r10 x1) fun x2 =>
  bK x2
  (vK (v_mul r8 (.int .u32 (.ofNat 16777619))) fun x3 =>
  vK (v_ixS r0 r10) fun x4 =>
  vK (v_conv .u32 x4) fun x5 =>
  vK (v_add x3 x5) fun x6 =>
  vK (v_sub r10 r7) fun x7 =>
  vK (v_ixS r0 x7) fun x8 =>
  vK (v_conv .u32 x8) fun x9 =>
  vK (v_mul r6 x9) fun x10 =>
  vK (v_sub x6 x10) fun x11 =>
  vK (v_add r10 (.int .i64 (.ofNat 1))) fun x12 =>
  vK (v_eql x11 r5) fun x13 =>
  gdK x13 true (fun kk => kk r0 h) h fun x14 h15 =>
  gdK x13 true (fun kk => kk x12 h15) h15 fun x16 h17 =>
  gdK x13 true (fun kk => kk r7 h17) h17 fun x18 h19 =>
  gdK x13 true (fun kk => vK (v_sub x16 x18) fun v => kk v h19) h19 fun x20 h21 =>
  gdK x13 true (fun kk => kk x12 h21) h21 fun x22 h23 =>
  gdK x13 true (fun kk => vK (v_slS x14 (some x20) (some x22)) fun v => kk v h23) h23 fun x24 h25 =>
  gdK x13 true (fun kk => kk r1 h25) h25 fun x26 h27 =>
  gdK x13 true (fun kk => vK (v_eql x24 x26) fun v => kk v h27) h27 fun x28 h29 =>
  vK (v_pick x13 x28 (.bool false)) fun x30 =>
  bK x30
  (vK (v_sub x12 r7) fun x31 =>
  some (x31, h29))
  (i4 x11 x12 h29))
  (J89_3 E h)
noncomputable def L89_4 (E : Env) (r0 r1 r5 r6 r7 : DV) (n : Nat) : DV → DV → H → Ans := Nat.rec (motive := fun _ => DV → DV → H → Ans) (fun _ _ _ => none) (fun _ i => B89_4 E r0 r1 r5 r6 r7 i) n
def C89_4 : DC := (.loop (.seq (.seq (.reg [⟨(some p41), none, (.e (.mv (.r p10)))⟩, ⟨(some p42), none, (.e (.mv (.r p0)))⟩, ⟨(some p43), none, (.e (.lenS (.r p42)))⟩, ⟨(some p44), none, (.e (.bin .lss (.r p41) (.r p43)))⟩]) (.cond (.r p44) .skip (.exit 2))) (.block 3 (.seq (.reg [⟨(some p45), none, (.e (.mv (.r p8)))⟩, ⟨(some p46), none, (.e (.bin .mul (.r p45) (.c (.int .u32 (.ofNat 16777619)))))⟩, ⟨(some p8), none, (.e (.mv (.r p46)))⟩]) (.seq (.reg [⟨(some p47), none, (.e (.mv (.r p8)))⟩, ⟨(some p48), none, (.e (.mv (.r p0)))⟩, ⟨(some p49), none, (.e (.mv (.r p10)))⟩, ⟨(some p50), none, (.e (.ixS (.r p48) (.r p49)))⟩, ⟨(some p51), none, (.e (.conv .u32 (.r p50)))⟩, ⟨(some p52), none, (.e (.bin .add (.r p47) (.r p51)))⟩, ⟨(some p8), none, (.e (.mv (.r p52)))⟩]) (.seq (.reg [⟨(some p53), none, (.e (.mv (.r p8)))⟩, ⟨(some p54), none, (.e (.mv (.r p6)))⟩, ⟨(some p55), none, (.e (.mv (.r p0)))⟩, ⟨(some p56), none, (.e (.mv (.r p10)))⟩, ⟨(some p57), none, (.e (.mv (.r p7)))⟩, ⟨(some p58), none, (.e (.bin .sub (.r p56) (.r p57)))⟩, ⟨(some p59), none, (.e (.ixS (.r p55) (.r p58)))⟩, ⟨(some p60), none, (.e (.conv .u32 (.r p59)))⟩, ⟨(some p61), none, (.e (.bin .mul (.r p54) (.r p60)))⟩, ⟨(some p62), none, (.e (.bin .sub (.r p53) (.r p61)))⟩, ⟨(some p8), none, (.e (.mv (.r p62)))⟩]) (.seq (.reg [⟨(some p63), none, (.e (.mv (.r p10)))⟩, ⟨(some p64), none, (.e (.bin .add (.r p63) (.c (.int .i64 (.ofNat 1)))))⟩, ⟨(some p10), none, (.e (.mv (.r p64)))⟩]) (.seq (.reg [⟨(some p65), none, (.e (.mv (.r p8)))⟩, ⟨(some p66), none, (.e (.mv (.r p5)))⟩, ⟨(some p67), none, (.e (.bin .eql (.r p65) (.r p66)))⟩, ⟨(some p68), none, (.e (.mv (.r p67)))⟩, ⟨(some p69), (some (p68, true)), (.e (.mv (.r p0)))⟩, ⟨(some p70), (some (p68, true)), (.e (.mv (.r p10)))⟩, ⟨(some p71), (some (p68, true)), (.e (.mv (.r p7)))⟩, ⟨(some p72), (some (p68, true)), (.e (.bin .sub (.r p70) (.r p71)))⟩, ⟨(some p73), (some (p68, true)), (.e (.mv (.r p10)))⟩, ⟨(some p74), (some (p68, true)), (.e (.slS (.r p69) (some (.r p72)) (some (.r p73))))⟩, ⟨(some p75), (some (p68, true)), (.e (.mv (.r p1)))⟩, ⟨(some p76), (some (p68, true)), (.e (.bin .eql (.r p74) (.r p75)))⟩, ⟨(some p77), none, (.e (.pick (.r p68) (.r p76) (.c (.bool false))))⟩]) (.cond (.r p77) (.seq (.reg [⟨(some p78), none, (.e (.mv (.r p10)))⟩, ⟨(some p79), none, (.e (.mv (.r p7)))⟩, ⟨(some p80), none, (.e (.bin .sub (.r p78) (.r p79)))⟩, ⟨(some p4), none, (.e (.mv (.r p80)))⟩]) .ret) .skip)))))))))
noncomputable def J89_1 (E : Env) (r0 r1 r5 r6 r7 r8 : DV) (h : H) : Ans :=
  vK (v_eql r8 r5) fun x1 =>
  gdK x1 true (fun kk => kk r0 h) h fun x2 h3 =>
  gdK x1 true (fun kk => kk r7 h3) h3 fun x4 h5 =>
  gdK x1 true (fun kk => vK (v_slS x2 none (some x4)) fun v => kk v h5) h5 fun x6 h7 =>
  gdK x1 true (fun kk => kk r1 h7) h7 fun x8 h9 =>
  gdK x1 true (fun kk => vK (v_eql x6 x8) fun v => kk v h9) h9 fun x10 h11 =>
  vK (v_pick x1 x10 (.bool false)) fun x12 =>
  bK x12
  (some ((.int .i64 (.ofNat 0)), h11))
  (L89_4 E r0 r1 r5 r6 r7 FUEL r8 r7 h11)
def C89_1 : DC := (.seq (.seq (.reg [⟨(some p30), none, (.e (.mv (.r p8)))⟩, ⟨(some p31), none, (.e (.mv (.r p5)))⟩, ⟨(some p32), none, (.e (.bin .eql (.r p30) (.r p31)))⟩, ⟨(some p33), none, (.e (.mv (.r p32)))⟩, ⟨(some p34), (some (p33, true)), (.e (.mv (.r p0)))⟩, ⟨(some p35), (some (p33, true)), (.e (.mv (.r p7)))⟩, ⟨(some p36), (some (p33, true)), (.e (.slS (.r p34) none (some (.r p35))))⟩, ⟨(some p37), (some (p33, true)), (.e (.mv (.r p1)))⟩, ⟨(some p38), (some (p33, true)), (.e (.bin .eql (.r p36) (.r p37)))⟩, ⟨(some p39), none, (.e (.pick (.r p33) (.r p38) (.c (.bool false))))⟩]) (.cond (.r p39) (.seq (.reg [⟨(some p4), none, (.e (.mv (.c (.int .i64 (.ofNat 0)))))⟩]) .ret) .skip)) (.seq (.seq (.reg [⟨(some p40), none, (.e (.mv (.r p7)))⟩, ⟨(some p10), none, (.e (.mv (.r p40)))⟩]) (.block 2 C89_4)) C89_3))
noncomputable def B89_2 (E : Env) (r0 r1 r5 r6 r7 : DV) (i2 : DV → DV → H → Ans) (r8 r9 : DV) (h : H) : Ans :=
  vK (v_lss r9 r7) fun x1 =>
  bK x1
  (vK (v_mul r8 (.int .u32 (.ofNat 16777619))) fun x2 =>
  vK (v_ixS r0 r9) fun x3 =>
  vK (v_conv .u32 x3) fun x4 =>
  vK (v_add x2 x4) fun x5 =>
  vK (v_add r9 (.int .i64 (.ofNat 1))) fun x6 =>
  i2 x5 x6 h)
  (J89_1 E r0 r1 r5 r6 r7 r8 h)
noncomputable def L89_2 (E : Env) (r0 r1 r5 r6 r7 : DV) (n : Nat) : DV → DV → H → Ans := Nat.rec (motive := fun _ => DV → DV → H → Ans) (fun _ _ _ => none) (fun _ i => B89_2 E r0 r1 r5 r6 r7 i) n
def C89_2 : DC := (.loop (.seq (.seq (.reg [⟨(some p18), none, (.e (.mv (.r p9)))⟩, ⟨(some p19), none, (.e (.mv (.r p7)))⟩, ⟨(some p20), none, (.e (.bin .lss (.r p18) (.r p19)))⟩]) (.cond (.r p20) .skip (.exit 0))) (.seq (.block 1 (.reg [⟨(some p23), none, (.e (.mv (.r p8)))⟩, ⟨(some p24), none, (.e (.bin .mul (.r p23) (.c (.int .u32 (.ofNat 16777619)))))⟩, ⟨(some p25), none, (.e (.mv (.r p0)))⟩, ⟨(some p26), none, (.e (.mv (.r p9)))⟩, ⟨(some p27), none, (.e (.ixS (.r p25) (.r p26)))⟩, ⟨(some p28), none, (.e (.conv .u32 (.r p27)))⟩, ⟨(some p29), none, (.e (.bin .add (.r p24) (.r p28)))⟩, ⟨(some p8), none, (.e (.mv (.r p29)))⟩])) (.reg [⟨(some p21), none, (.e (.mv (.r p9)))⟩, ⟨(some p22), none, (.e (.bin .add (.r p21) (.c (.int .i64 (.ofNat 1)))))⟩, ⟨(some p9), none, (.e (.mv (.r p22)))⟩]))))
noncomputable def J89_0 (E : Env) (r0 r1 : DV) (h : H) : Ans :=
  wK (callK E 91 [r1] h) fun x1 h2 =>
  vK (v_ext 0 x1) fun x3 =>
  vK (v_ext 1 x1) fun x4 =>
  vK (v_lenS r1) fun x5 =>
  L89_2 E r0 r1 x3 x4 x5 FUEL (.int .u32 (.ofNat 0)) (.int .i64 (.ofNat 0)) h2
def C89_0 : DC := (.seq (.reg [⟨(some p4), none, (.e (.mv (.c (.int .i64 (.ofNat 0)))))⟩]) (.seq (.reg [⟨(some p12), none, (.e (.mv (.r p1)))⟩, ⟨(some p13), none, (.c (.f 91 [(.r p12)]))⟩, ⟨(some p11), none, (.e (.mv (.r p13)))⟩, ⟨(some p14), none, (.e (.ext 0 (.r p11)))⟩, ⟨(some p15), none, (.e (.ext 1 (.r p11)))⟩, ⟨(some p5), none, (.e (.mv (.r p14)))⟩, ⟨(some p6), none, (.e (.mv (.r p15)))⟩]) (.seq (.reg [⟨(some p16), none, (.e (.mv (.r p1)))⟩, ⟨(some p17), none, (.e (.lenS (.r p16)))⟩, ⟨(some p7), none, (.e (.mv (.r p17)))⟩]) (.seq (.reg [⟨(some p8), none, (.e (.mv (.c (.int .u32 (.ofNat 0)))))⟩]) (.seq (.seq (.reg [⟨(some p9), none, (.e (.mv (.c (.int .i64 (.ofNat 0)))))⟩]) (.block 0 C89_2)) C89_1)))))
theorem I89_3 (E : Env) : Is E C89_3 (retK3 R89) (fun σ h => J89_3 E h) :=
  fun σ h => by kernel_rfl
noncomputable abbrev K89_5 (E : Env) : KT2 (DV × H) := (blockK3 2 (thenK3 (fun σ h => J89_3 E h) (retK3 R89)))
theorem I89_4 (E : Env) : Is E C89_4 (K89_5 E) (fun σ h => L89_4 E (σ p0) (σ p1) (σ p5) (σ p6) (σ p7) FUEL (σ p8) (σ p10) h) :=
  Is.loop (fun n4 σ h => L89_4 E (σ p0) (σ p1) (σ p5) (σ p6) (σ p7) n4 (σ p8) (σ p10) h) (by kernel_rfl) fun n4 => Is.as (Is.leaf _) fun σ h => by kernel_rfl
theorem I89_1 (E : Env) : Is E C89_1 (retK3 R89) (fun σ h => J89_1 E (σ p0) (σ p1) (σ p5) (σ p6) (σ p7) (σ p8) h) :=
  Is.as (Is.seq (Is.seq (I89_3 E) (Is.seq (Is.block (I89_4 E)) (Is.leaf _))) (Is.leaf _)) fun σ h => by kernel_rfl
noncomputable abbrev K89_6 (E : Env) : KT2 (DV × H) := (thenK3 (fun σ h => J89_1 E (σ p0) (σ p1) (σ p5) (σ p6) (σ p7) (σ p8) h) (retK3 R89))
theorem I89_2 (E : Env) : Is E C89_2 (blockK3 0 (K89_6 E)) (fun σ h => L89_2 E (σ p0) (σ p1) (σ p5) (σ p6) (σ p7) FUEL (σ p8) (σ p9) h) :=
  Is.loop (fun n2 σ h => L89_2 E (σ p0) (σ p1) (σ p5) (σ p6) (σ p7) n2 (σ p8) (σ p9) h) (by kernel_rfl) fun n2 => Is.as (Is.leaf _) fun σ h => by kernel_rfl
theorem I89_0 (E : Env) : Is E C89_0 (retK3 R89) (fun σ h => J89_0 E (σ p0) (σ p1) h) :=
  Is.as (Is.seq (Is.seq (Is.seq (Is.seq (Is.seq (I89_1 E) (Is.seq (Is.block (I89_2 E)) (Is.leaf _))) (Is.leaf _)) (Is.leaf _)) (Is.leaf _)) (Is.leaf _)) fun σ h => by kernel_rfl
def D89 : DF := ⟨2, 81, C89_0, R89⟩
noncomputable def S89 (E : Env) : Fun := fun args h => aS args fun r0 args => aS args fun r1 args => a0 args (J89_0 E r0 r1 h)
theorem S89_eq (E : Env) (args : List DV) (h : H) : runFn E D89 args h = S89 E args h :=
  Is.fn2 (d := D89) (I89_0 E) rfl (fun r0 r1 h => J89_0 E r0 r1 h) (fun r0 r1 h => by kernel_rfl) args h
/- internal/bytealg.hashStr[string] -/
def R91 : List RV := [(.r p2), (.r p3)]
noncomputable def J91_3 (E : Env) (r4 r6 : DV) (h : H) : Ans :=
  some ((.tup [r4, r6]), h)
def C91_3 : DC := (.seq (.reg [⟨(some p37), none, (.e (.mv (.r p4)))⟩, ⟨(some p38), none, (.e (.mv (.r p6)))⟩, ⟨(some p2), none, (.e (.mv (.r p37)))⟩, ⟨(some p3), none, (.e (.mv (.r p38)))⟩]) .ret)
noncomputable def J91_5 (E : Env) (i4 : DV → DV → DV → H → Ans) (r6 r7 r8 : DV) (h : H) : Ans :=
  vK (v_shr r8 (.int .u64 (.ofNat 1))) fun x1 =>
  i4 r6 r7 x1 h
def C91_5 : DC := (.reg [⟨(some p26), none, (.e (.mv (.r p8)))⟩, ⟨(some p27), none, (.e (.bin .shr (.r p26) (.c (.int .u64 (.ofNat 1)))))⟩, ⟨(some p8), none, (.e (.mv (.r p27)))⟩])
noncomputable def J91_6 (E : Env) (i4 : DV → DV → DV → H → Ans) (r6 r7 r8 : DV) (h : H) : Ans :=
  vK (v_mul r7 r7) fun x1 =>
  J91_5 E i4 r6 x1 r8 h
def C91_6 : DC := (.reg [⟨(some p34), none, (.e (.mv (.r p7)))⟩, ⟨(some p35), none, (.e (.mv (.r p7)))⟩, ⟨(some p36), none, (.e (.bin .mul (.r p34) (.r p35)))⟩, ⟨(some p7), none, (.e (.mv (.r p36)))⟩])
noncomputable def B91_4 (E : Env) (r4 : DV) (i4 : DV → DV → DV → H → Ans) (r6 r7 r8 : DV) (h : H) : Ans :=
  vK (v_gtr r8 (.int .i64 (.ofNat 0))) fun x1 =>
  bK x1
  (vK (v_and r8 (.int .i64 (.ofNat 1))) fun x2 =>
  vK (v_neq x2 (.int .i64 (.ofNat 0))) fun x3 =>
  bK x3
  (vK (v_mul r6 r7) fun x4 =>
  J91_6 E i4 x4 r7 r8 h)
  (J91_6 E i4 r6 r7 r8 h))
  (J91_3 E r4 r6 h)
noncomputable def L91_4 (E : Env) (r4 : DV) (n : Nat) : DV → DV → DV → H → Ans := Nat.rec (motive := fun _ => DV → DV → DV → H → Ans) (fun _ _ _ _ => none) (fun _ i => B91_4 E r4 i) n
def C91_4 : DC := (.loop (.seq (.seq (.reg [⟨(some p24), none, (.e (.mv (.r p8)))⟩, ⟨(some p25), none, (.e (.bin .gtr (.r p24) (.c (.int .i64 (.ofNat 0)))))⟩]) (.cond (.r p25) .skip (.exit 2))) (.seq (.block 3 (.seq (.seq (.reg [⟨(some p28), none, (.e (.mv (.r p8)))⟩, ⟨(some p29), none, (.e (.bin .and (.r p28) (.c (.int .i64 (.ofNat 1)))))⟩, ⟨(some p30), none, (.e (.bin .neq (.r p29) (.c (.int .i64 (.ofNat 0)))))⟩]) (.cond (.r p30) (.reg [⟨(some p31), none, (.e (.mv (.r p6)))⟩, ⟨(some p32), none, (.e (.mv (.r p7)))⟩, ⟨(some p33), none, (.e (.bin .mul (.r p31) (.r p32)))⟩, ⟨(some p6), none, (.e (.mv (.r p33)))⟩]) .skip)) C91_6)) C91_5)))
noncomputable def J91_1 (E : Env) (r0 r4 : DV) (h : H) : Ans :=
  vK (v_lenS r0) fun x1 =>
  L91_4 E r4 FUEL (.int .u32 (.ofNat 1)) (.int .u32 (.ofNat 16777619)) x1 h
def C91_1 : DC := (.seq (.reg [⟨(some p6), none, (.e (.mv (.c (.int .u32 (.ofNat 1)))))⟩, ⟨(some p7), none, (.e (.mv (.c (.int .u32 (.ofNat 16777619)))))⟩]) (.seq (.seq (.reg [⟨(some p22), none, (.e (.mv (.r p0)))⟩, ⟨(some p23), none, (.e (.lenS (.r p22)))⟩, ⟨(some p8), none, (.e (.mv (.r p23)))⟩]) (.block 2 C91_4)) C91_3))
noncomputable def B91_2 (E : Env) (r0 : DV) (i2 : DV → DV → H → Ans) (r4 r5 : DV) (h : H) : Ans :=
  vK (v_lenS r0) fun x1 =>
  vK (v_lss r5 x1) fun x2 =>
  bK x2
  (vK (v_mul r4 (.int .u32 (.ofNat 16777619))) fun x3 =>
  vK (v_ixS r0 r5) fun x4 =>
  vK (v_conv .u32 x4) fun x5 =>
  vK (v_add x3 x5) fun x6 =>
  vK (v_add r5 (.int .i64 (.ofNat 1))) fun x7 =>
  i2 x6 x7 h)
  (J91_1 E r0 r4 h)
noncomputable def L91_2 (E : Env) (r0 : DV) (n : Nat) : DV → DV → H → Ans := Nat.rec (motive := fun _ => DV → DV → H → Ans) (fun _ _ _ => none) (fun _ i => B91_2 E r0 i) n
def C91_2 : DC := (.loop (.seq (.seq (.reg [⟨(some p9), none, (.e (.mv (.r p5)))⟩, ⟨(some p10), none, (.e (.mv (.r p0)))⟩, ⟨(some p11), none, (.e (.lenS (.r p10)))⟩, ⟨(some p12), none, (.e (.bin .lss (.r p9) (.r p11)))⟩]) (.cond (.r p12) .skip (.exit 0))) (.seq (.block 1 (.reg [⟨(some p15), none, (.e (.mv (.r p4)))⟩, ⟨(some p16), none, (.e (.bin .mul (.r p15) (.c (.int .u32 (.ofNat 16777619)))))⟩, ⟨(some p17), none, (.e (.mv (.r p0)))⟩, ⟨(some p18), none, (.e (.mv (.r p5)))⟩, ⟨(some p19), none, (.e (.ixS (.r p17) (.r p18)))⟩, ⟨(some p20), none, (.e (.conv .u32 (.r p19)))⟩, ⟨(some p21), none, (.e (.bin .add (.r p16) (.r p20)))⟩, ⟨(some p4), none, (.e (.mv (.r p21)))⟩])) (.reg [⟨(some p13), none, (.e (.mv (.r p5)))⟩, ⟨(some p14), none, (.e (.bin .add (.r p13) (.c (.int .i64 (.ofNat 1)))))⟩, ⟨(some p5), none, (.e (.mv (.r p14)))⟩]))))
noncomputable def J91_0 (E : Env) (r0 : DV) (h : H) : Ans :=
  L91_2 E r0 FUEL (.int .u32 (.ofNat 0)) (.int .i64 (.ofNat 0)) h
def C91_0 : DC := (.seq (.reg [⟨(some p2), none, (.e (.mv (.c (.int .u32 (.ofNat 0)))))⟩, ⟨(some p3), none, (.e (.mv (.c (.int .u32 (.ofNat 0)))))⟩]) (.seq (.reg [⟨(some p4), none, (.e (.mv (.c (.int .u32 (.ofNat 0)))))⟩]) (.seq (.seq (.reg [⟨(some p5), none, (.e (.mv (.c (.int .i64 (.ofNat 0)))))⟩]) (.block 0 C91_2)) C91_1)))
theorem I91_3 (E : Env) : Is E C91_3 (retK3 R91) (fun σ h => J91_3 E (σ p4) (σ p6) h) :=
  fun σ h => by kernel_rfl
noncomputable abbrev K91_7 (E : Env) : KT2 (DV × H) := (thenK3 (fun σ h => J91_3 E (σ p4) (σ p6) h) (retK3 R91))
noncomputable abbrev K91_8 (E : Env) (n4 : Nat) : KT2 (DV × H) := (thenK3 (fun σ h => (L91_4 E (σ p4) n4) (σ p6) (σ p7) (σ p8) h) (blockK3 2 (K91_7 E)))
theorem I91_5 (E : Env) (n4 : Nat) : Is E C91_5 (K91_8 E n4) (fun σ h => J91_5 E (L91_4 E (σ p4) n4) (σ p6) (σ p7) (σ p8) h) :=
  fun σ h => by kernel_rfl
noncomputable abbrev K91_9 (E : Env) (n4 : Nat) : KT2 (DV × H) := (thenK3 (fun σ h => J91_5 E (L91_4 E (σ p4) n4) (σ p6) (σ p7) (σ p8) h) (K91_8 E n4))
theorem I91_6 (E : Env) (n4 : Nat) : Is E C91_6 (blockK3 3 (K91_9 E n4)) (fun σ h => J91_6 E (L91_4 E (σ p4) n4) (σ p6) (σ p7) (σ p8) h) :=
  fun σ h => by kernel_rfl
theorem I91_4 (E : Env) : Is E C91_4 (blockK3 2 (K91_7 E)) (fun σ h => L91_4 E (σ p4) FUEL (σ p6) (σ p7) (σ p8) h) :=
  Is.loop (fun n4 σ h => L91_4 E (σ p4) n4 (σ p6) (σ p7) (σ p8) h) (by kernel_rfl) fun n4 => Is.as (Is.seq (Is.seq (I91_5 E n4) (Is.block (Is.seq (I91_6 E n4) (Is.leaf _)))) (Is.leaf _)) fun σ h => by kernel_rfl
theorem I91_1 (E : Env) : Is E C91_1 (retK3 R91) (fun σ h => J91_1 E (σ p0) (σ p4) h) :=
  Is.as (Is.seq (Is.seq (I91_3 E) (Is.seq (Is.block (I91_4 E)) (Is.leaf _))) (Is.leaf _)) fun σ h => by kernel_rfl
noncomputable abbrev K91_10 (E : Env) : KT2 (DV × H) := (thenK3 (fun σ h => J91_1 E (σ p0) (σ p4) h) (retK3 R91))
theorem I91_2 (E : Env) : Is E C91_2 (blockK3 0 (K91_10 E)) (fun σ h => L91_2 E (σ p0) FUEL (σ p4) (σ p5) h) :=
  Is.loop (fun n2 σ h => L91_2 E (σ p0) n2 (σ p4) (σ p5) h) (by kernel_rfl) fun n2 => Is.as (Is.leaf _) fun σ h => by kernel_rfl
theorem I91_0 (E : Env) : Is E C91_0 (retK3 R91) (fun σ h => J91_0 E (σ p0) h) :=
  Is.as (Is.seq (Is.seq (Is.seq (I91_1 E) (Is.seq (Is.block (I91_2 E)) (Is.leaf _))) (Is.leaf _)) (Is.leaf _)) fun σ h => by kernel_rfl
def D91 : DF := ⟨1, 39, C91_0, R91⟩
noncomputable def S91 (E : Env) : Fun := fun args h => aS args fun r0 args => a0 args (J91_0 E r0 h)
theorem S91_eq (E : Env) (args : List DV) (h : H) : runFn E D91 args h = S91 E args h :=
  Is.fn1 (d := D91) (I91_0 E) rfl (fun r0 h => J91_0 E r0 h) (fun r0 h => by kernel_rfl) args h
noncomputable def fs0 : List FD := [⟨3, D3, S3⟩, ⟨4, D4, S4⟩, ⟨5, D5, S5⟩, ⟨6, D6, S6⟩, ⟨13, D13, S13⟩, ⟨14, D14, S14⟩, ⟨15, D15, S15⟩, ⟨16, D16, S16⟩, ⟨17, D17, S17⟩, ⟨18, D18, S18⟩, ⟨19, D19, S19⟩, ⟨20, D20, S20⟩, ⟨21, D21, S21⟩, ⟨22, D22, S22⟩, ⟨23, D23, S23⟩, ⟨24, D24, S24⟩, ⟨40, D40, S40⟩, ⟨41, D41, S41⟩, ⟨42, D42, S42⟩, ⟨43, D43, S43⟩, ⟨44, D44, S44⟩, ⟨49, D49, S49⟩, ⟨50, D50, S50⟩, ⟨51, D51, S51⟩, ⟨52, D52, S52⟩, ⟨53, D53, S53⟩, ⟨62, D62, S62⟩, ⟨63, D63, S63⟩, ⟨64, D64, S64⟩, ⟨65, D65, S65⟩, ⟨66, D66, S66⟩, ⟨67, D67, S67⟩, ⟨72, D72, S72⟩, ⟨75, D75, S75⟩, ⟨77, D77, S77⟩, ⟨84, D84, S84⟩, ⟨88, D88, S88⟩, ⟨89, D89, S89⟩, ⟨91, D91, S91⟩]
theorem fs0_eq : AllEq fs0 := ⟨S3_eq, ⟨S4_eq, ⟨S5_eq, ⟨S6_eq, ⟨S13_eq, ⟨S14_eq, ⟨S15_eq, ⟨S16_eq, ⟨S17_eq, ⟨S18_eq, ⟨S19_eq, ⟨S20_eq, ⟨S21_eq, ⟨S22_eq, ⟨S23_eq, ⟨S24_eq, ⟨S40_eq, ⟨S41_eq, ⟨S42_eq, ⟨S43_eq, ⟨S44_eq, ⟨S49_eq, ⟨S50_eq, ⟨S51_eq, ⟨S52_eq, ⟨S53_eq, ⟨S62_eq, ⟨S63_eq, ⟨S64_eq, ⟨S65_eq, ⟨S66_eq, ⟨S67_eq, ⟨S72_eq, ⟨S75_eq, ⟨S77_eq, ⟨S84_eq, ⟨S88_eq, ⟨S89_eq, ⟨S91_eq, trivial⟩⟩⟩⟩⟩⟩⟩⟩⟩⟩⟩⟩⟩⟩⟩⟩⟩⟩⟩⟩⟩⟩⟩⟩⟩⟩⟩⟩⟩⟩⟩⟩⟩⟩⟩⟩⟩⟩⟩
end Go.Proofs.YtgipaebiihefpaaDoor

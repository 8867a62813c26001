/- The functions of the program as D's and as plain Lean functions, and that both are the same. No condition. -/
import Derived.KernelRfl
import Derived.Test.YtmafhiogonejfaaGreatDoorDc
set_option linter.unusedVariables false
namespace Go.Proofs.YtmafhiogonejfaaGreatDoor
open Go.DI
def p0 : Pa := .h
def p1 : Pa := .l p0
def p2 : Pa := .r p0
def p3 : Pa := .l p1
def p4 : Pa := .r p1
def p5 : Pa := .l p2
def p6 : Pa := .r p2
def p7 : Pa := .l p3
def p8 : Pa := .r p3
def p9 : Pa := .l p4
def p10 : Pa := .r p4
def p11 : Pa := .l p5
def p12 : Pa := .r p5
def p13 : Pa := .l p6
def p14 : Pa := .r p6
def p15 : Pa := .l p7
def p16 : Pa := .r p7
def p17 : Pa := .l p8
def p18 : Pa := .r p8
def p19 : Pa := .l p9
def p20 : Pa := .r p9
def p21 : Pa := .l p10
def p22 : Pa := .r p10
def p23 : Pa := .l p11
def p24 : Pa := .r p11
def p25 : Pa := .l p12
def p26 : Pa := .r p12
def p27 : Pa := .l p13
def p28 : Pa := .r p13
def p29 : Pa := .l p14
def p30 : Pa := .r p14
def p31 : Pa := .l p15
def p32 : Pa := .r p15
def p33 : Pa := .l p16
def p34 : Pa := .r p16
def p35 : Pa := .l p17
def p36 : Pa := .r p17
def p37 : Pa := .l p18
def p38 : Pa := .r p18
def p39 : Pa := .l p19
def p40 : Pa := .r p19
def p41 : Pa := .l p20
def p42 : Pa := .r p20
def p43 : Pa := .l p21
def p44 : Pa := .r p21
def p45 : Pa := .l p22
def p46 : Pa := .r p22
def p47 : Pa := .l p23
def p48 : Pa := .r p23
def p49 : Pa := .l p24
def p50 : Pa := .r p24
def p51 : Pa := .l p25
def p52 : Pa := .r p25
def p53 : Pa := .l p26
def p54 : Pa := .r p26
def p55 : Pa := .l p27
def p56 : Pa := .r p27
def p57 : Pa := .l p28
def p58 : Pa := .r p28
def p59 : Pa := .l p29
def p60 : Pa := .r p29
def p61 : Pa := .l p30
def p62 : Pa := .r p30
def p63 : Pa := .l p31
def p64 : Pa := .r p31
def p65 : Pa := .l p32
def p66 : Pa := .r p32
def p67 : Pa := .l p33
def p68 : Pa := .r p33
def p69 : Pa := .l p34
def p70 : Pa := .r p34
def p71 : Pa := .l p35
def p72 : Pa := .r p35
def p73 : Pa := .l p36
def p74 : Pa := .r p36
def p75 : Pa := .l p37
def p76 : Pa := .r p37
def p77 : Pa := .l p38
def p78 : Pa := .r p38
def p79 : Pa := .l p39
def p80 : Pa := .r p39
def p81 : Pa := .l p40
def p82 : Pa := .r p40
def p83 : Pa := .l p41
def p84 : Pa := .r p41
def p85 : Pa := .l p42
def p86 : Pa := .r p42
def p87 : Pa := .l p43
def p88 : Pa := .r p43
def p89 : Pa := .l p44
def p90 : Pa := .r p44
def p91 : Pa := .l p45
def p92 : Pa := .r p45
def p93 : Pa := .l p46
def p94 : Pa := .r p46
def p95 : Pa := .l p47
def p96 : Pa := .r p47
def p97 : Pa := .l p48
def p98 : Pa := .r p48
def p99 : Pa := .l p49
def p100 : Pa := .r p49
def p101 : Pa := .l p50
def p102 : Pa := .r p50
def p103 : Pa := .l p51
def p104 : Pa := .r p51
def p105 : Pa := .l p52
def p106 : Pa := .r p52
def p107 : Pa := .l p53
def p108 : Pa := .r p53
def p109 : Pa := .l p54
def p110 : Pa := .r p54
def p111 : Pa := .l p55
def p112 : Pa := .r p55
def p113 : Pa := .l p56
def p114 : Pa := .r p56
def p115 : Pa := .l p57
def p116 : Pa := .r p57
def p117 : Pa := .l p58
def p118 : Pa := .r p58
def p119 : Pa := .l p59
def p120 : Pa := .r p59
def p121 : Pa := .l p60
def p122 : Pa := .r p60
def p123 : Pa := .l p61
def p124 : Pa := .r p61
def p125 : Pa := .l p62
def p126 : Pa := .r p62
def p127 : Pa := .l p63
def p128 : Pa := .r p63
def p129 : Pa := .l p64
def p130 : Pa := .r p64
def p131 : Pa := .l p65
def p132 : Pa := .r p65
def p133 : Pa := .l p66
def p134 : Pa := .r p66
def p135 : Pa := .l p67
def p136 : Pa := .r p67
def p137 : Pa := .l p68
def p138 : Pa := .r p68
def p139 : Pa := .l p69
def p140 : Pa := .r p69
def p141 : Pa := .l p70
def p142 : Pa := .r p70
/- hurdle/hurdlelaw40.DeltasBytes -/
def R3 : List RV := [(.r p4)]
noncomputable def J3_0 (E : Env) (r0 r1 : DV) (h : H) : Ans :=
  n_box r0 h fun x1 h2 =>
  vK (v_lenS r1) fun x3 =>
  vK (v_gtr x3 (.int .i64 (.ofNat 5000))) fun x4 =>
  bK x4
  (wK (callK E 12 [] h2) fun x5 h6 =>
  some (x5, h6))
  (vK (v_ldN 6 h2.get x1) fun x7 =>
  wK (callK E 13 [x7] h2) fun x8 h9 =>
  vK (v_ext 0 x8) fun x10 =>
  vK (v_ext 1 x8) fun x11 =>
  vK (v_ldN 6 h9.get x1) fun x12 =>
  wK (callK E 14 [x12] h9) fun x13 h14 =>
  vK (v_ext 0 x13) fun x15 =>
  vK (v_ext 1 x13) fun x16 =>
  wK (callK E 15 [r1] h14) fun x17 h18 =>
  vK (v_ext 0 x17) fun x19 =>
  vK (v_ext 1 x17) fun x20 =>
  n_alc 6 6 (.list [(.int .i64 (.ofNat 0)), (.int .i64 (.ofNat 0)), (.int .i64 (.ofNat 0)), (.str []), (.str []), (.str [])]) h18 fun x21 h22 =>
  wK (dStF 6 x21 x19 h22) fun x23 h24 =>
  wK (callK E 16 [r1] h24) fun x25 h26 =>
  vK (v_ext 0 x25) fun x27 =>
  vK (v_ext 1 x25) fun x28 =>
  n_alc 6 6 (.list [(.int .i64 (.ofNat 0)), (.int .i64 (.ofNat 0)), (.int .i64 (.ofNat 0)), (.str []), (.str []), (.str [])]) h26 fun x29 h30 =>
  wK (dStF 6 x29 x27 h30) fun x31 h32 =>
  vK (v_ldN 6 h32.get x1) fun x33 =>
  vK (v_ldN 6 h32.get x1) fun x34 =>
  wK (callK E 17 [x33] h32) fun x35 h36 =>
  rK (rcK (v_ldN 6 h36.get x1) x34) <|
  wK (callK E 18 [x34] h36) fun x37 h38 =>
  vK (v_eql x35 x37) fun x39 =>
  gdK x39 true (fun kk => kk x10 h38) h38 fun x40 h41 =>
  gdK x39 true (fun kk => kk x15 h41) h41 fun x42 h43 =>
  gdK x39 true (fun kk => vK (v_eql x40 x42) fun v => kk v h43) h43 fun x44 h45 =>
  vK (v_pick x39 x44 (.bool false)) fun x46 =>
  gdK x46 true (fun kk => kk x11 h45) h45 fun x47 h48 =>
  gdK x46 true (fun kk => kk x16 h48) h48 fun x49 h50 =>
  gdK x46 true (fun kk => vK (v_eql x47 x49) fun v => kk v h50) h50 fun x51 h52 =>
  vK (v_pick x46 x51 (.bool false)) fun x53 =>
  gdK x53 true (fun kk => vK (v_ldN 6 h52.get x21) fun v => kk v h52) h52 fun x54 h55 =>
  gdK x53 true (fun kk => vK (v_ldN 6 h55.get x29) fun v => kk v h55) h55 fun x56 h57 =>
  gdK x53 true (fun kk => vK (v_eqs false (.leaf .int 0 (.leaf .int 1 (.leaf .int 2 (.leaf .str 3 (.leaf .str 4 (.leaf .str 5 .nil)))))) h57.get x54 x56) fun v => kk v h57) h57 fun x58 h59 =>
  vK (v_pick x53 x58 (.bool false)) fun x60 =>
  gdK x60 true (fun kk => kk x20 h59) h59 fun x61 h62 =>
  gdK x60 true (fun kk => kk x28 h62) h62 fun x63 h64 =>
  gdK x60 true (fun kk => vK (v_eql x61 x63) fun v => kk v h64) h64 fun x65 h66 =>
  vK (v_pick x60 x65 (.bool false)) fun x67 =>
  gdK x67 true (fun kk => wK (callK E 12 [] h66) kk) h66 fun x68 h69 =>
  vK (v_pick x67 x68 (.bool false)) fun x70 =>
  some (x70, h69))
def C3_0 : DC := (.seq (.reg [⟨(some p2), none, (.e (.box (.r p0)))⟩, ⟨(some p4), none, (.e (.mv (.c (.bool false))))⟩]) (.seq (.seq (.reg [⟨(some p13), none, (.e (.mv (.r p1)))⟩, ⟨(some p14), none, (.e (.lenS (.r p13)))⟩, ⟨(some p15), none, (.e (.bin .gtr (.r p14) (.c (.int .i64 (.ofNat 5000)))))⟩]) (.cond (.r p15) (.seq (.reg [⟨(some p16), none, (.c (.f 12 []))⟩, ⟨(some p4), none, (.e (.mv (.r p16)))⟩]) .ret) .skip)) (.seq (.reg [⟨(some p18), none, (.e (.ldN 6 (.r p2)))⟩, ⟨(some p19), none, (.c (.f 13 [(.r p18)]))⟩, ⟨(some p17), none, (.e (.mv (.r p19)))⟩, ⟨(some p20), none, (.e (.ext 0 (.r p17)))⟩, ⟨(some p21), none, (.e (.ext 1 (.r p17)))⟩, ⟨(some p5), none, (.e (.mv (.r p20)))⟩, ⟨(some p6), none, (.e (.mv (.r p21)))⟩]) (.seq (.reg [⟨(some p23), none, (.e (.ldN 6 (.r p2)))⟩, ⟨(some p24), none, (.c (.f 14 [(.r p23)]))⟩, ⟨(some p22), none, (.e (.mv (.r p24)))⟩, ⟨(some p25), none, (.e (.ext 0 (.r p22)))⟩, ⟨(some p26), none, (.e (.ext 1 (.r p22)))⟩, ⟨(some p7), none, (.e (.mv (.r p25)))⟩, ⟨(some p8), none, (.e (.mv (.r p26)))⟩]) (.seq (.reg [⟨(some p28), none, (.e (.mv (.r p1)))⟩, ⟨(some p29), none, (.c (.f 15 [(.r p28)]))⟩, ⟨(some p27), none, (.e (.mv (.r p29)))⟩, ⟨(some p30), none, (.e (.ext 0 (.r p27)))⟩, ⟨(some p31), none, (.e (.ext 1 (.r p27)))⟩, ⟨(some p9), none, (.e (.alc 6 6 (.list [(.int .i64 (.ofNat 0)), (.int .i64 (.ofNat 0)), (.int .i64 (.ofNat 0)), (.str []), (.str []), (.str [])])))⟩, ⟨none, none, (.w (.st 6 (.r p9) (.r p30)))⟩, ⟨(some p10), none, (.e (.mv (.r p31)))⟩]) (.seq (.reg [⟨(some p33), none, (.e (.mv (.r p1)))⟩, ⟨(some p34), none, (.c (.f 16 [(.r p33)]))⟩, ⟨(some p32), none, (.e (.mv (.r p34)))⟩, ⟨(some p35), none, (.e (.ext 0 (.r p32)))⟩, ⟨(some p36), none, (.e (.ext 1 (.r p32)))⟩, ⟨(some p11), none, (.e (.alc 6 6 (.list [(.int .i64 (.ofNat 0)), (.int .i64 (.ofNat 0)), (.int .i64 (.ofNat 0)), (.str []), (.str []), (.str [])])))⟩, ⟨none, none, (.w (.st 6 (.r p11) (.r p35)))⟩, ⟨(some p12), none, (.e (.mv (.r p36)))⟩]) (.seq (.drg [⟨0, ⟨(some p37), none, (.e (.ldN 6 (.r p2)))⟩, [], false⟩, ⟨2, ⟨(some p39), none, (.e (.ldN 6 (.r p2)))⟩, [], false⟩, ⟨1, ⟨(some p38), none, (.c (.f 17 [(.r p37)]))⟩, [2], false⟩, ⟨3, ⟨(some p40), none, (.c (.f 18 [(.r p39)]))⟩, [], false⟩, ⟨4, ⟨(some p41), none, (.e (.bin .eql (.r p38) (.r p40)))⟩, [], false⟩, ⟨5, ⟨(some p42), none, (.e (.mv (.r p41)))⟩, [], false⟩, ⟨6, ⟨(some p43), (some (p42, true)), (.e (.mv (.r p5)))⟩, [], false⟩, ⟨7, ⟨(some p44), (some (p42, true)), (.e (.mv (.r p7)))⟩, [], false⟩, ⟨8, ⟨(some p45), (some (p42, true)), (.e (.bin .eql (.r p43) (.r p44)))⟩, [], false⟩, ⟨9, ⟨(some p46), none, (.e (.pick (.r p42) (.r p45) (.c (.bool false))))⟩, [], false⟩, ⟨10, ⟨(some p47), none, (.e (.mv (.r p46)))⟩, [], false⟩, ⟨11, ⟨(some p48), (some (p47, true)), (.e (.mv (.r p6)))⟩, [], false⟩, ⟨12, ⟨(some p49), (some (p47, true)), (.e (.mv (.r p8)))⟩, [], false⟩, ⟨13, ⟨(some p50), (some (p47, true)), (.e (.bin .eql (.r p48) (.r p49)))⟩, [], false⟩, ⟨14, ⟨(some p51), none, (.e (.pick (.r p47) (.r p50) (.c (.bool false))))⟩, [], false⟩, ⟨15, ⟨(some p52), none, (.e (.mv (.r p51)))⟩, [], false⟩, ⟨16, ⟨(some p53), (some (p52, true)), (.e (.ldN 6 (.r p9)))⟩, [], false⟩, ⟨17, ⟨(some p54), (some (p52, true)), (.e (.ldN 6 (.r p11)))⟩, [], false⟩, ⟨18, ⟨(some p55), (some (p52, true)), (.e (.eqs false (.leaf .int 0 (.leaf .int 1 (.leaf .int 2 (.leaf .str 3 (.leaf .str 4 (.leaf .str 5 .nil)))))) (.r p53) (.r p54)))⟩, [], false⟩, ⟨19, ⟨(some p56), none, (.e (.pick (.r p52) (.r p55) (.c (.bool false))))⟩, [], false⟩, ⟨20, ⟨(some p57), none, (.e (.mv (.r p56)))⟩, [], false⟩, ⟨21, ⟨(some p58), (some (p57, true)), (.e (.mv (.r p10)))⟩, [], false⟩, ⟨22, ⟨(some p59), (some (p57, true)), (.e (.mv (.r p12)))⟩, [], false⟩, ⟨23, ⟨(some p60), (some (p57, true)), (.e (.bin .eql (.r p58) (.r p59)))⟩, [], false⟩, ⟨24, ⟨(some p61), none, (.e (.pick (.r p57) (.r p60) (.c (.bool false))))⟩, [], false⟩, ⟨25, ⟨(some p62), none, (.e (.mv (.r p61)))⟩, [], false⟩, ⟨26, ⟨(some p63), (some (p62, true)), (.c (.f 12 []))⟩, [], false⟩, ⟨27, ⟨(some p64), none, (.e (.pick (.r p62) (.r p63) (.c (.bool false))))⟩, [], false⟩, ⟨28, ⟨(some p4), none, (.e (.mv (.r p64)))⟩, [], false⟩]) .ret)))))))
theorem I3_0 (E : Env) : Is E C3_0 (retK3 R3) (fun σ h => J3_0 E (σ p0) (σ p1) h) :=
  fun σ h => by kernel_rfl
def D3 : DF := ⟨2, 65, C3_0, R3⟩
noncomputable def S3 (E : Env) : Fun := fun args h => aS args fun r0 args => aS args fun r1 args => a0 args (J3_0 E r0 r1 h)
theorem S3_eq (E : Env) (args : List DV) (h : H) : runFn E D3 args h = S3 E args h :=
  Is.fn2 (d := D3) (I3_0 E) rfl (fun r0 r1 h => J3_0 E r0 r1 h) (fun r0 r1 h => by kernel_rfl) args h
/- hurdle/hurdlelaw40.DeltasBack -/
def R4 : List RV := [(.r p4)]
noncomputable def J4_2 (E : Env) (h : H) : Ans :=
  wK (callK E 12 [] h) fun x1 h2 =>
  some (x1, h2)
def C4_2 : DC := (.seq (.reg [⟨(some p55), none, (.c (.f 12 []))⟩, ⟨(some p4), none, (.e (.mv (.r p55)))⟩]) .ret)
noncomputable def J4_1 (E : Env) (r1 : DV) (h : H) : Ans :=
  wK (callK E 15 [r1] h) fun x1 h2 =>
  vK (v_ext 0 x1) fun x3 =>
  vK (v_ext 1 x1) fun x4 =>
  n_alc 6 6 (.list [(.int .i64 (.ofNat 0)), (.int .i64 (.ofNat 0)), (.int .i64 (.ofNat 0)), (.str []), (.str []), (.str [])]) h2 fun x5 h6 =>
  wK (dStF 6 x5 x3 h6) fun x7 h8 =>
  vK (v_eql x4 (.int .i64 (.ofNat 0))) fun x9 =>
  bK x9
  (vK (v_ldN 6 h8.get x5) fun x10 =>
  wK (callK E 13 [x10] h8) fun x11 h12 =>
  vK (v_ext 0 x11) fun x13 =>
  vK (v_ext 1 x11) fun x14 =>
  vK (v_neq x14 (.int .i64 (.ofNat 0))) fun x15 =>
  gdK x15 false (fun kk => kk x13 h12) h12 fun x16 h17 =>
  gdK x15 false (fun kk => kk r1 h17) h17 fun x18 h19 =>
  gdK x15 false (fun kk => vK (v_neq x16 x18) fun v => kk v h19) h19 fun x20 h21 =>
  vK (v_pick x15 (.bool true) x20) fun x22 =>
  bK x22
  (some ((.bool false), h21))
  (J4_2 E h21))
  (J4_2 E h8)
def C4_1 : DC := (.seq (.seq (.reg [⟨(some p37), none, (.e (.mv (.r p1)))⟩, ⟨(some p38), none, (.c (.f 15 [(.r p37)]))⟩, ⟨(some p36), none, (.e (.mv (.r p38)))⟩, ⟨(some p39), none, (.e (.ext 0 (.r p36)))⟩, ⟨(some p40), none, (.e (.ext 1 (.r p36)))⟩, ⟨(some p9), none, (.e (.alc 6 6 (.list [(.int .i64 (.ofNat 0)), (.int .i64 (.ofNat 0)), (.int .i64 (.ofNat 0)), (.str []), (.str []), (.str [])])))⟩, ⟨none, none, (.w (.st 6 (.r p9) (.r p39)))⟩, ⟨(some p10), none, (.e (.mv (.r p40)))⟩]) (.seq (.reg [⟨(some p41), none, (.e (.mv (.r p10)))⟩, ⟨(some p42), none, (.e (.bin .eql (.r p41) (.c (.int .i64 (.ofNat 0)))))⟩]) (.cond (.r p42) (.seq (.reg [⟨(some p44), none, (.e (.ldN 6 (.r p9)))⟩, ⟨(some p45), none, (.c (.f 13 [(.r p44)]))⟩, ⟨(some p43), none, (.e (.mv (.r p45)))⟩, ⟨(some p46), none, (.e (.ext 0 (.r p43)))⟩, ⟨(some p47), none, (.e (.ext 1 (.r p43)))⟩, ⟨(some p11), none, (.e (.mv (.r p46)))⟩, ⟨(some p12), none, (.e (.mv (.r p47)))⟩]) (.seq (.reg [⟨(some p48), none, (.e (.mv (.r p12)))⟩, ⟨(some p49), none, (.e (.bin .neq (.r p48) (.c (.int .i64 (.ofNat 0)))))⟩, ⟨(some p50), none, (.e (.mv (.r p49)))⟩, ⟨(some p51), (some (p50, false)), (.e (.mv (.r p11)))⟩, ⟨(some p52), (some (p50, false)), (.e (.mv (.r p1)))⟩, ⟨(some p53), (some (p50, false)), (.e (.bin .neq (.r p51) (.r p52)))⟩, ⟨(some p54), none, (.e (.pick (.r p50) (.c (.bool true)) (.r p53)))⟩]) (.cond (.r p54) (.seq (.reg [⟨(some p4), none, (.e (.mv (.c (.bool false))))⟩]) .ret) .skip))) .skip))) C4_2)
noncomputable def J4_0 (E : Env) (r0 r1 : DV) (h : H) : Ans :=
  n_box r0 h fun x1 h2 =>
  vK (v_lenS r1) fun x3 =>
  vK (v_gtr x3 (.int .i64 (.ofNat 5000))) fun x4 =>
  bK x4
  (wK (callK E 12 [] h2) fun x5 h6 =>
  some (x5, h6))
  (vK (v_ldN 6 h2.get x1) fun x7 =>
  wK (callK E 13 [x7] h2) fun x8 h9 =>
  vK (v_ext 0 x8) fun x10 =>
  vK (v_ext 1 x8) fun x11 =>
  vK (v_eql x11 (.int .i64 (.ofNat 0))) fun x12 =>
  bK x12
  (wK (callK E 15 [x10] h9) fun x13 h14 =>
  vK (v_ext 0 x13) fun x15 =>
  vK (v_ext 1 x13) fun x16 =>
  n_alc 6 6 (.list [(.int .i64 (.ofNat 0)), (.int .i64 (.ofNat 0)), (.int .i64 (.ofNat 0)), (.str []), (.str []), (.str [])]) h14 fun x17 h18 =>
  wK (dStF 6 x17 x15 h18) fun x19 h20 =>
  vK (v_neq x16 (.int .i64 (.ofNat 0))) fun x21 =>
  gdK x21 false (fun kk => vK (v_ldN 6 h20.get x17) fun v => kk v h20) h20 fun x22 h23 =>
  gdK x21 false (fun kk => vK (v_ldN 6 h23.get x1) fun v => kk v h23) h23 fun x24 h25 =>
  gdK x21 false (fun kk => vK (v_eqs true (.leaf .int 0 (.leaf .int 1 (.leaf .int 2 (.leaf .str 3 (.leaf .str 4 (.leaf .str 5 .nil)))))) h25.get x22 x24) fun v => kk v h25) h25 fun x26 h27 =>
  vK (v_pick x21 (.bool true) x26) fun x28 =>
  bK x28
  (some ((.bool false), h27))
  (J4_1 E r1 h27))
  (J4_1 E r1 h9))
def C4_0 : DC := (.seq (.reg [⟨(some p2), none, (.e (.box (.r p0)))⟩, ⟨(some p4), none, (.e (.mv (.c (.bool false))))⟩]) (.seq (.seq (.reg [⟨(some p13), none, (.e (.mv (.r p1)))⟩, ⟨(some p14), none, (.e (.lenS (.r p13)))⟩, ⟨(some p15), none, (.e (.bin .gtr (.r p14) (.c (.int .i64 (.ofNat 5000)))))⟩]) (.cond (.r p15) (.seq (.reg [⟨(some p16), none, (.c (.f 12 []))⟩, ⟨(some p4), none, (.e (.mv (.r p16)))⟩]) .ret) .skip)) (.seq (.seq (.reg [⟨(some p18), none, (.e (.ldN 6 (.r p2)))⟩, ⟨(some p19), none, (.c (.f 13 [(.r p18)]))⟩, ⟨(some p17), none, (.e (.mv (.r p19)))⟩, ⟨(some p20), none, (.e (.ext 0 (.r p17)))⟩, ⟨(some p21), none, (.e (.ext 1 (.r p17)))⟩, ⟨(some p5), none, (.e (.mv (.r p20)))⟩, ⟨(some p6), none, (.e (.mv (.r p21)))⟩]) (.seq (.reg [⟨(some p22), none, (.e (.mv (.r p6)))⟩, ⟨(some p23), none, (.e (.bin .eql (.r p22) (.c (.int .i64 (.ofNat 0)))))⟩]) (.cond (.r p23) (.seq (.reg [⟨(some p25), none, (.e (.mv (.r p5)))⟩, ⟨(some p26), none, (.c (.f 15 [(.r p25)]))⟩, ⟨(some p24), none, (.e (.mv (.r p26)))⟩, ⟨(some p27), none, (.e (.ext 0 (.r p24)))⟩, ⟨(some p28), none, (.e (.ext 1 (.r p24)))⟩, ⟨(some p7), none, (.e (.alc 6 6 (.list [(.int .i64 (.ofNat 0)), (.int .i64 (.ofNat 0)), (.int .i64 (.ofNat 0)), (.str []), (.str []), (.str [])])))⟩, ⟨none, none, (.w (.st 6 (.r p7) (.r p27)))⟩, ⟨(some p8), none, (.e (.mv (.r p28)))⟩]) (.seq (.reg [⟨(some p29), none, (.e (.mv (.r p8)))⟩, ⟨(some p30), none, (.e (.bin .neq (.r p29) (.c (.int .i64 (.ofNat 0)))))⟩, ⟨(some p31), none, (.e (.mv (.r p30)))⟩, ⟨(some p32), (some (p31, false)), (.e (.ldN 6 (.r p7)))⟩, ⟨(some p33), (some (p31, false)), (.e (.ldN 6 (.r p2)))⟩, ⟨(some p34), (some (p31, false)), (.e (.eqs true (.leaf .int 0 (.leaf .int 1 (.leaf .int 2 (.leaf .str 3 (.leaf .str 4 (.leaf .str 5 .nil)))))) (.r p32) (.r p33)))⟩, ⟨(some p35), none, (.e (.pick (.r p31) (.c (.bool true)) (.r p34)))⟩]) (.cond (.r p35) (.seq (.reg [⟨(some p4), none, (.e (.mv (.c (.bool false))))⟩]) .ret) .skip))) .skip))) C4_1)))
theorem I4_2 (E : Env) : Is E C4_2 (retK3 R4) (fun σ h => J4_2 E h) :=
  fun σ h => by kernel_rfl
theorem I4_1 (E : Env) : Is E C4_1 (retK3 R4) (fun σ h => J4_1 E (σ p1) h) :=
  Is.as (Is.seq (I4_2 E) (Is.leaf _)) fun σ h => by kernel_rfl
theorem I4_0 (E : Env) : Is E C4_0 (retK3 R4) (fun σ h => J4_0 E (σ p0) (σ p1) h) :=
  Is.as (Is.seq (Is.seq (Is.seq (I4_1 E) (Is.leaf _)) (Is.leaf _)) (Is.leaf _)) fun σ h => by kernel_rfl
def D4 : DF := ⟨2, 56, C4_0, R4⟩
noncomputable def S4 (E : Env) : Fun := fun args h => aS args fun r0 args => aS args fun r1 args => a0 args (J4_0 E r0 r1 h)
theorem S4_eq (E : Env) (args : List DV) (h : H) : runFn E D4 args h = S4 E args h :=
  Is.fn2 (d := D4) (I4_0 E) rfl (fun r0 r1 h => J4_0 E r0 r1 h) (fun r0 r1 h => by kernel_rfl) args h
/- hurdle/hurdlelaw40.awake -/
def R12 : List RV := [(.r p0)]
noncomputable def J12_0 (E : Env) (h : H) : Ans :=
  vK (v_bld [(.int .i64 (.ofNat 0)), (.int .i64 (.ofNat 0)), (.int .i64 (.ofNat 0)), (.str []), (.str []), (.str [])] [(0, 1, (.int .i64 (.ofNat 1))), (3, 1, (.str [47, 97]))]) fun x1 =>
  n_alc 6 6 (.list [(.int .i64 (.ofNat 0)), (.int .i64 (.ofNat 0)), (.int .i64 (.ofNat 0)), (.str []), (.str []), (.str [])]) h fun x2 h3 =>
  wK (dStF 6 x2 x1 h3) fun x4 h5 =>
  vK (v_ldN 6 h5.get x2) fun x6 =>
  vK (v_ldN 6 h5.get x2) fun x7 =>
  n_bsl 2 6 [(.int .i64 (.ofNat 0)), (.int .i64 (.ofNat 0)), (.int .i64 (.ofNat 0)), (.str []), (.str []), (.str [])] [(0, 6, x6), (6, 6, x7)] h5 fun x8 h9 =>
  wK (callK E 26 [x8] h9) fun x10 h11 =>
  vK (v_ext 0 x10) fun x12 =>
  vK (v_ext 1 x10) fun x13 =>
  vK (v_ldN 6 h11.get x2) fun x14 =>
  wK (callK E 13 [x14] h11) fun x15 h16 =>
  vK (v_ext 0 x15) fun x17 =>
  vK (v_ext 1 x15) fun x18 =>
  wK (callK E 15 [x17] h16) fun x19 h20 =>
  vK (v_ext 0 x19) fun x21 =>
  vK (v_ext 1 x19) fun x22 =>
  n_alc 6 6 (.list [(.int .i64 (.ofNat 0)), (.int .i64 (.ofNat 0)), (.int .i64 (.ofNat 0)), (.str []), (.str []), (.str [])]) h20 fun x23 h24 =>
  wK (dStF 6 x23 x21 h24) fun x25 h26 =>
  vK (v_bld [(.int .i64 (.ofNat 0)), (.int .i64 (.ofNat 0)), (.int .i64 (.ofNat 0)), (.str []), (.str []), (.str [])] [(0, 1, (.int .i64 (.ofNat 11))), (3, 1, (.str [47]))]) fun x27 =>
  wK (callK E 19 [x12, x27] h26) fun x28 h29 =>
  vK (v_ext 0 x28) fun x30 =>
  vK (v_ext 1 x28) fun x31 =>
  vK (v_bld [(.int .i64 (.ofNat 0)), (.int .i64 (.ofNat 0)), (.int .i64 (.ofNat 0)), (.str []), (.str []), (.str [])] []) fun x32 =>
  wK (callK E 19 [x12, x32] h29) fun x33 h34 =>
  vK (v_ext 0 x33) fun x35 =>
  vK (v_ext 1 x33) fun x36 =>
  vK (v_lenL x13) fun x37 =>
  vK (v_eql x37 (.int .i64 (.ofNat 2))) fun x38 =>
  gdK x38 true (fun kk => kk x13 h34) h34 fun x39 h40 =>
  gdK x38 true (fun kk => vK (v_iaS 1 x39 (.int .i64 (.ofNat 0))) fun v => kk v h40) h40 fun x41 h42 =>
  gdK x38 true (fun kk => vK (v_ld h42.get x41) fun v => kk v h42) h42 fun x43 h44 =>
  gdK x38 true (fun kk => vK (v_eql x43 (.int .i64 (.ofNat 0))) fun v => kk v h44) h44 fun x45 h46 =>
  vK (v_pick x38 x45 (.bool false)) fun x47 =>
  gdK x47 true (fun kk => kk x13 h46) h46 fun x48 h49 =>
  gdK x47 true (fun kk => vK (v_iaS 1 x48 (.int .i64 (.ofNat 1))) fun v => kk v h49) h49 fun x50 h51 =>
  gdK x47 true (fun kk => vK (v_ld h51.get x50) fun v => kk v h51) h51 fun x52 h53 =>
  gdK x47 true (fun kk => vK (v_eql x52 (.int .i64 (.ofNat 6))) fun v => kk v h53) h53 fun x54 h55 =>
  vK (v_pick x47 x54 (.bool false)) fun x56 =>
  gdK x56 true (fun kk => kk x18 h55) h55 fun x57 h58 =>
  gdK x56 true (fun kk => vK (v_eql x57 (.int .i64 (.ofNat 0))) fun v => kk v h58) h58 fun x59 h60 =>
  vK (v_pick x56 x59 (.bool false)) fun x61 =>
  gdK x61 true (fun kk => vK (v_ldN 6 h60.get x23) fun v => kk v h60) h60 fun x62 h63 =>
  gdK x61 true (fun kk => vK (v_ldN 6 h63.get x2) fun v => kk v h63) h63 fun x64 h65 =>
  gdK x61 true (fun kk => vK (v_eqs false (.leaf .int 0 (.leaf .int 1 (.leaf .int 2 (.leaf .str 3 (.leaf .str 4 (.leaf .str 5 .nil)))))) h65.get x62 x64) fun v => kk v h65) h65 fun x66 h67 =>
  vK (v_pick x61 x66 (.bool false)) fun x68 =>
  gdK x68 true (fun kk => kk x22 h67) h67 fun x69 h70 =>
  gdK x68 true (fun kk => vK (v_eql x69 (.int .i64 (.ofNat 0))) fun v => kk v h70) h70 fun x71 h72 =>
  vK (v_pick x68 x71 (.bool false)) fun x73 =>
  gdK x73 true (fun kk => kk x30 h72) h72 fun x74 h75 =>
  gdK x73 true (fun kk => vK (v_eql x74 (.int .i64 (.ofNat 0))) fun v => kk v h75) h75 fun x76 h77 =>
  vK (v_pick x73 x76 (.bool false)) fun x78 =>
  gdK x78 true (fun kk => kk x31 h77) h77 fun x79 h80 =>
  gdK x78 true (fun kk => vK (v_eql x79 (.str [2, 2, 97])) fun v => kk v h80) h80 fun x81 h82 =>
  vK (v_pick x78 x81 (.bool false)) fun x83 =>
  gdK x83 true (fun kk => kk x35 h82) h82 fun x84 h85 =>
  gdK x83 true (fun kk => vK (v_eql x84 (.int .i64 (.ofNat 1))) fun v => kk v h85) h85 fun x86 h87 =>
  vK (v_pick x83 x86 (.bool false)) fun x88 =>
  gdK x88 true (fun kk => vK (v_ldN 6 h87.get x2) fun v => kk v h87) h87 fun x89 h90 =>
  gdK x88 true (fun kk => wK (callK E 17 [x89] h90) kk) h90 fun x91 h92 =>
  gdK x88 true (fun kk => vK (v_eql x91 (.int .i64 (.ofNat 0))) fun v => kk v h92) h92 fun x93 h94 =>
  vK (v_pick x88 x93 (.bool false)) fun x95 =>
  some (x95, h94)
def C12_0 : DC := (.seq (.reg [⟨(some p0), none, (.e (.mv (.c (.bool false))))⟩]) (.seq (.reg [⟨(some p12), none, (.e (.bld [(.int .i64 (.ofNat 0)), (.int .i64 (.ofNat 0)), (.int .i64 (.ofNat 0)), (.str []), (.str []), (.str [])] [(0, 1, (.c (.int .i64 (.ofNat 1)))), (3, 1, (.c (.str [47, 97])))]))⟩, ⟨(some p1), none, (.e (.alc 6 6 (.list [(.int .i64 (.ofNat 0)), (.int .i64 (.ofNat 0)), (.int .i64 (.ofNat 0)), (.str []), (.str []), (.str [])])))⟩, ⟨none, none, (.w (.st 6 (.r p1) (.r p12)))⟩]) (.seq (.reg [⟨(some p14), none, (.e (.ldN 6 (.r p1)))⟩, ⟨(some p15), none, (.e (.ldN 6 (.r p1)))⟩, ⟨(some p16), none, (.e (.bsl 2 6 [(.int .i64 (.ofNat 0)), (.int .i64 (.ofNat 0)), (.int .i64 (.ofNat 0)), (.str []), (.str []), (.str [])] [(0, 6, (.r p14)), (6, 6, (.r p15))]))⟩, ⟨(some p17), none, (.c (.f 26 [(.r p16)]))⟩, ⟨(some p13), none, (.e (.mv (.r p17)))⟩, ⟨(some p18), none, (.e (.ext 0 (.r p13)))⟩, ⟨(some p19), none, (.e (.ext 1 (.r p13)))⟩, ⟨(some p2), none, (.e (.mv (.r p18)))⟩, ⟨(some p3), none, (.e (.mv (.r p19)))⟩]) (.seq (.reg [⟨(some p21), none, (.e (.ldN 6 (.r p1)))⟩, ⟨(some p22), none, (.c (.f 13 [(.r p21)]))⟩, ⟨(some p20), none, (.e (.mv (.r p22)))⟩, ⟨(some p23), none, (.e (.ext 0 (.r p20)))⟩, ⟨(some p24), none, (.e (.ext 1 (.r p20)))⟩, ⟨(some p4), none, (.e (.mv (.r p23)))⟩, ⟨(some p5), none, (.e (.mv (.r p24)))⟩]) (.seq (.reg [⟨(some p26), none, (.e (.mv (.r p4)))⟩, ⟨(some p27), none, (.c (.f 15 [(.r p26)]))⟩, ⟨(some p25), none, (.e (.mv (.r p27)))⟩, ⟨(some p28), none, (.e (.ext 0 (.r p25)))⟩, ⟨(some p29), none, (.e (.ext 1 (.r p25)))⟩, ⟨(some p6), none, (.e (.alc 6 6 (.list [(.int .i64 (.ofNat 0)), (.int .i64 (.ofNat 0)), (.int .i64 (.ofNat 0)), (.str []), (.str []), (.str [])])))⟩, ⟨none, none, (.w (.st 6 (.r p6) (.r p28)))⟩, ⟨(some p7), none, (.e (.mv (.r p29)))⟩]) (.seq (.reg [⟨(some p31), none, (.e (.mv (.r p2)))⟩, ⟨(some p32), none, (.e (.bld [(.int .i64 (.ofNat 0)), (.int .i64 (.ofNat 0)), (.int .i64 (.ofNat 0)), (.str []), (.str []), (.str [])] [(0, 1, (.c (.int .i64 (.ofNat 11)))), (3, 1, (.c (.str [47])))]))⟩, ⟨(some p33), none, (.c (.f 19 [(.r p31), (.r p32)]))⟩, ⟨(some p30), none, (.e (.mv (.r p33)))⟩, ⟨(some p34), none, (.e (.ext 0 (.r p30)))⟩, ⟨(some p35), none, (.e (.ext 1 (.r p30)))⟩, ⟨(some p8), none, (.e (.mv (.r p34)))⟩, ⟨(some p9), none, (.e (.mv (.r p35)))⟩]) (.seq (.reg [⟨(some p37), none, (.e (.mv (.r p2)))⟩, ⟨(some p38), none, (.e (.bld [(.int .i64 (.ofNat 0)), (.int .i64 (.ofNat 0)), (.int .i64 (.ofNat 0)), (.str []), (.str []), (.str [])] []))⟩, ⟨(some p39), none, (.c (.f 19 [(.r p37), (.r p38)]))⟩, ⟨(some p36), none, (.e (.mv (.r p39)))⟩, ⟨(some p40), none, (.e (.ext 0 (.r p36)))⟩, ⟨(some p41), none, (.e (.ext 1 (.r p36)))⟩, ⟨(some p10), none, (.e (.mv (.r p40)))⟩, ⟨(some p11), none, (.e (.mv (.r p41)))⟩]) (.seq (.reg [⟨(some p42), none, (.e (.mv (.r p3)))⟩, ⟨(some p43), none, (.e (.lenL (.r p42)))⟩, ⟨(some p44), none, (.e (.bin .eql (.r p43) (.c (.int .i64 (.ofNat 2)))))⟩, ⟨(some p45), none, (.e (.mv (.r p44)))⟩, ⟨(some p46), (some (p45, true)), (.e (.mv (.r p3)))⟩, ⟨(some p47), (some (p45, true)), (.e (.iaS 1 (.r p46) (.c (.int .i64 (.ofNat 0)))))⟩, ⟨(some p48), (some (p45, true)), (.e (.ld (.r p47)))⟩, ⟨(some p49), (some (p45, true)), (.e (.bin .eql (.r p48) (.c (.int .i64 (.ofNat 0)))))⟩, ⟨(some p50), none, (.e (.pick (.r p45) (.r p49) (.c (.bool false))))⟩, ⟨(some p51), none, (.e (.mv (.r p50)))⟩, ⟨(some p52), (some (p51, true)), (.e (.mv (.r p3)))⟩, ⟨(some p53), (some (p51, true)), (.e (.iaS 1 (.r p52) (.c (.int .i64 (.ofNat 1)))))⟩, ⟨(some p54), (some (p51, true)), (.e (.ld (.r p53)))⟩, ⟨(some p55), (some (p51, true)), (.e (.bin .eql (.r p54) (.c (.int .i64 (.ofNat 6)))))⟩, ⟨(some p56), none, (.e (.pick (.r p51) (.r p55) (.c (.bool false))))⟩, ⟨(some p57), none, (.e (.mv (.r p56)))⟩, ⟨(some p58), (some (p57, true)), (.e (.mv (.r p5)))⟩, ⟨(some p59), (some (p57, true)), (.e (.bin .eql (.r p58) (.c (.int .i64 (.ofNat 0)))))⟩, ⟨(some p60), none, (.e (.pick (.r p57) (.r p59) (.c (.bool false))))⟩, ⟨(some p61), none, (.e (.mv (.r p60)))⟩, ⟨(some p62), (some (p61, true)), (.e (.ldN 6 (.r p6)))⟩, ⟨(some p63), (some (p61, true)), (.e (.ldN 6 (.r p1)))⟩, ⟨(some p64), (some (p61, true)), (.e (.eqs false (.leaf .int 0 (.leaf .int 1 (.leaf .int 2 (.leaf .str 3 (.leaf .str 4 (.leaf .str 5 .nil)))))) (.r p62) (.r p63)))⟩, ⟨(some p65), none, (.e (.pick (.r p61) (.r p64) (.c (.bool false))))⟩, ⟨(some p66), none, (.e (.mv (.r p65)))⟩, ⟨(some p67), (some (p66, true)), (.e (.mv (.r p7)))⟩, ⟨(some p68), (some (p66, true)), (.e (.bin .eql (.r p67) (.c (.int .i64 (.ofNat 0)))))⟩, ⟨(some p69), none, (.e (.pick (.r p66) (.r p68) (.c (.bool false))))⟩, ⟨(some p70), none, (.e (.mv (.r p69)))⟩, ⟨(some p71), (some (p70, true)), (.e (.mv (.r p8)))⟩, ⟨(some p72), (some (p70, true)), (.e (.bin .eql (.r p71) (.c (.int .i64 (.ofNat 0)))))⟩, ⟨(some p73), none, (.e (.pick (.r p70) (.r p72) (.c (.bool false))))⟩, ⟨(some p74), none, (.e (.mv (.r p73)))⟩, ⟨(some p75), (some (p74, true)), (.e (.mv (.r p9)))⟩, ⟨(some p76), (some (p74, true)), (.e (.bin .eql (.r p75) (.c (.str [2, 2, 97]))))⟩, ⟨(some p77), none, (.e (.pick (.r p74) (.r p76) (.c (.bool false))))⟩, ⟨(some p78), none, (.e (.mv (.r p77)))⟩, ⟨(some p79), (some (p78, true)), (.e (.mv (.r p10)))⟩, ⟨(some p80), (some (p78, true)), (.e (.bin .eql (.r p79) (.c (.int .i64 (.ofNat 1)))))⟩, ⟨(some p81), none, (.e (.pick (.r p78) (.r p80) (.c (.bool false))))⟩, ⟨(some p82), none, (.e (.mv (.r p81)))⟩, ⟨(some p83), (some (p82, true)), (.e (.ldN 6 (.r p1)))⟩, ⟨(some p84), (some (p82, true)), (.c (.f 17 [(.r p83)]))⟩, ⟨(some p85), (some (p82, true)), (.e (.bin .eql (.r p84) (.c (.int .i64 (.ofNat 0)))))⟩, ⟨(some p86), none, (.e (.pick (.r p82) (.r p85) (.c (.bool false))))⟩, ⟨(some p0), none, (.e (.mv (.r p86)))⟩]) .ret))))))))
theorem I12_0 (E : Env) : Is E C12_0 (retK3 R12) (fun σ h => J12_0 E h) :=
  fun σ h => by kernel_rfl
def D12 : DF := ⟨0, 87, C12_0, R12⟩
noncomputable def S12 (E : Env) : Fun := fun args h => a0 args (J12_0 E h)
theorem S12_eq (E : Env) (args : List DV) (h : H) : runFn E D12 args h = S12 E args h :=
  Is.fn0 (d := D12) (I12_0 E) rfl (fun h => J12_0 E h) (fun h => by kernel_rfl) args h
/- hurdle/deltas.Encode -/
def R13 : List RV := [(.r p2), (.r p3)]
noncomputable def J13_0 (E : Env) (r0 : DV) (h : H) : Ans :=
  n_box r0 h fun x1 h2 =>
  vK (v_ldN 6 h2.get x1) fun x3 =>
  wK (callK E 17 [x3] h2) fun x4 h5 =>
  vK (v_neq x4 (.int .i64 (.ofNat 0))) fun x6 =>
  bK x6
  (some ((.tup [(.str []), x4]), h5))
  (wK (callK E 48 [(.int .i64 (.ofNat 65536))] h5) fun x7 h8 =>
  vK (v_fa 0 x1) fun x9 =>
  vK (v_ld h8.get x9) fun x10 =>
  wK (callK E 49 [x7, x10] h8) fun x11 h12 =>
  vK (v_fa 1 x1) fun x13 =>
  vK (v_ld h12.get x13) fun x14 =>
  wK (callK E 50 [x7, x14] h12) fun x15 h16 =>
  vK (v_fa 2 x1) fun x17 =>
  vK (v_ld h16.get x17) fun x18 =>
  wK (callK E 50 [x7, x18] h16) fun x19 h20 =>
  vK (v_fa 3 x1) fun x21 =>
  vK (v_ld h20.get x21) fun x22 =>
  wK (callK E 51 [x7, x22] h20) fun x23 h24 =>
  vK (v_fa 4 x1) fun x25 =>
  vK (v_ld h24.get x25) fun x26 =>
  wK (callK E 51 [x7, x26] h24) fun x27 h28 =>
  vK (v_fa 5 x1) fun x29 =>
  vK (v_ld h28.get x29) fun x30 =>
  wK (callK E 51 [x7, x30] h28) fun x31 h32 =>
  wK (callK E 52 [x7] h32) fun x33 h34 =>
  vK (v_ext 0 x33) fun x35 =>
  vK (v_ext 1 x33) fun x36 =>
  some ((.tup [x35, x36]), h34))
def C13_0 : DC := (.seq (.reg [⟨(some p1), none, (.e (.box (.r p0)))⟩, ⟨(some p2), none, (.e (.mv (.c (.str []))))⟩, ⟨(some p3), none, (.e (.mv (.c (.int .i64 (.ofNat 0)))))⟩]) (.seq (.seq (.reg [⟨(some p6), none, (.e (.ldN 6 (.r p1)))⟩, ⟨(some p7), none, (.c (.f 17 [(.r p6)]))⟩, ⟨(some p4), none, (.e (.mv (.r p7)))⟩]) (.seq (.reg [⟨(some p8), none, (.e (.mv (.r p4)))⟩, ⟨(some p9), none, (.e (.bin .neq (.r p8) (.c (.int .i64 (.ofNat 0)))))⟩]) (.cond (.r p9) (.seq (.reg [⟨(some p10), none, (.e (.mv (.r p4)))⟩, ⟨(some p2), none, (.e (.mv (.c (.str []))))⟩, ⟨(some p3), none, (.e (.mv (.r p10)))⟩]) .ret) .skip))) (.seq (.reg [⟨(some p11), none, (.c (.f 48 [(.c (.int .i64 (.ofNat 65536)))]))⟩, ⟨(some p5), none, (.e (.mv (.r p11)))⟩]) (.seq (.reg [⟨(some p12), none, (.e (.mv (.r p5)))⟩, ⟨(some p13), none, (.e (.fa 0 (.r p1)))⟩, ⟨(some p14), none, (.e (.ld (.r p13)))⟩, ⟨(some p15), none, (.c (.f 49 [(.r p12), (.r p14)]))⟩]) (.seq (.reg [⟨(some p16), none, (.e (.mv (.r p5)))⟩, ⟨(some p17), none, (.e (.fa 1 (.r p1)))⟩, ⟨(some p18), none, (.e (.ld (.r p17)))⟩, ⟨(some p19), none, (.c (.f 50 [(.r p16), (.r p18)]))⟩]) (.seq (.reg [⟨(some p20), none, (.e (.mv (.r p5)))⟩, ⟨(some p21), none, (.e (.fa 2 (.r p1)))⟩, ⟨(some p22), none, (.e (.ld (.r p21)))⟩, ⟨(some p23), none, (.c (.f 50 [(.r p20), (.r p22)]))⟩]) (.seq (.reg [⟨(some p24), none, (.e (.mv (.r p5)))⟩, ⟨(some p25), none, (.e (.fa 3 (.r p1)))⟩, ⟨(some p26), none, (.e (.ld (.r p25)))⟩, ⟨(some p27), none, (.c (.f 51 [(.r p24), (.r p26)]))⟩]) (.seq (.reg [⟨(some p28), none, (.e (.mv (.r p5)))⟩, ⟨(some p29), none, (.e (.fa 4 (.r p1)))⟩, ⟨(some p30), none, (.e (.ld (.r p29)))⟩, ⟨(some p31), none, (.c (.f 51 [(.r p28), (.r p30)]))⟩]) (.seq (.reg [⟨(some p32), none, (.e (.mv (.r p5)))⟩, ⟨(some p33), none, (.e (.fa 5 (.r p1)))⟩, ⟨(some p34), none, (.e (.ld (.r p33)))⟩, ⟨(some p35), none, (.c (.f 51 [(.r p32), (.r p34)]))⟩]) (.seq (.reg [⟨(some p36), none, (.e (.mv (.r p5)))⟩, ⟨(some p37), none, (.c (.f 52 [(.r p36)]))⟩, ⟨(some p38), none, (.e (.ext 0 (.r p37)))⟩, ⟨(some p39), none, (.e (.ext 1 (.r p37)))⟩, ⟨(some p2), none, (.e (.mv (.r p38)))⟩, ⟨(some p3), none, (.e (.mv (.r p39)))⟩]) .ret))))))))))
theorem I13_0 (E : Env) : Is E C13_0 (retK3 R13) (fun σ h => J13_0 E (σ p0) h) :=
  fun σ h => by kernel_rfl
def D13 : DF := ⟨1, 40, C13_0, R13⟩
noncomputable def S13 (E : Env) : Fun := fun args h => aS args fun r0 args => a0 args (J13_0 E r0 h)
theorem S13_eq (E : Env) (args : List DV) (h : H) : runFn E D13 args h = S13 E args h :=
  Is.fn1 (d := D13) (I13_0 E) rfl (fun r0 h => J13_0 E r0 h) (fun r0 h => by kernel_rfl) args h
/- hurdle/hurdleref40.Encode -/
def R14 : List RV := [(.r p2), (.r p3)]
noncomputable def J14_0 (E : Env) (r0 : DV) (h : H) : Ans :=
  n_box r0 h fun x1 h2 =>
  vK (v_ldN 6 h2.get x1) fun x3 =>
  wK (callK E 18 [x3] h2) fun x4 h5 =>
  vK (v_neq x4 (.int .i64 (.ofNat 0))) fun x6 =>
  bK x6
  (some ((.tup [(.str []), x4]), h5))
  (vK (v_fa 0 x1) fun x7 =>
  vK (v_ld h5.get x7) fun x8 =>
  vK (v_conv .u8 x8) fun x9 =>
  n_bsl 1 1 [(.int .u8 (.ofNat 0))] [(0, 1, x9)] h5 fun x10 h11 =>
  vK (v_b2s h11.get x10) fun x12 =>
  vK (v_fa 1 x1) fun x13 =>
  vK (v_ld h11.get x13) fun x14 =>
  vK (v_fa 2 x1) fun x15 =>
  vK (v_ld h11.get x15) fun x16 =>
  vK (v_fa 3 x1) fun x17 =>
  vK (v_ld h11.get x17) fun x18 =>
  vK (v_fa 4 x1) fun x19 =>
  vK (v_ld h11.get x19) fun x20 =>
  vK (v_fa 5 x1) fun x21 =>
  vK (v_ld h11.get x21) fun x22 =>
  wK (callK E 53 [x14] h11) fun x23 h24 =>
  rK (rcK (v_ld h24.get x21) x22) <|
  rK (rcK (v_ld h24.get x19) x20) <|
  rK (rcK (v_ld h24.get x17) x18) <|
  rK (rcK (v_ld h24.get x15) x16) <|
  rK (rcK (v_b2s h24.get x10) x12) <|
  rK (rcK (v_ld h24.get x7) x8) <|
  vK (v_add x12 x23) fun x25 =>
  wK (callK E 53 [x16] h24) fun x26 h27 =>
  rK (rcK (v_ld h27.get x21) x22) <|
  rK (rcK (v_ld h27.get x19) x20) <|
  rK (rcK (v_ld h27.get x17) x18) <|
  rK (rcK (v_b2s h27.get x10) x12) <|
  rK (rcK (v_ld h27.get x7) x8) <|
  vK (v_add x25 x26) fun x28 =>
  wK (callK E 54 [x18] h27) fun x29 h30 =>
  rK (rcK (v_ld h30.get x21) x22) <|
  rK (rcK (v_ld h30.get x19) x20) <|
  rK (rcK (v_b2s h30.get x10) x12) <|
  rK (rcK (v_ld h30.get x7) x8) <|
  vK (v_add x28 x29) fun x31 =>
  wK (callK E 54 [x20] h30) fun x32 h33 =>
  rK (rcK (v_ld h33.get x21) x22) <|
  rK (rcK (v_b2s h33.get x10) x12) <|
  rK (rcK (v_ld h33.get x7) x8) <|
  vK (v_add x31 x32) fun x34 =>
  wK (callK E 54 [x22] h33) fun x35 h36 =>
  rK (rcK (v_b2s h36.get x10) x12) <|
  rK (rcK (v_ld h36.get x7) x8) <|
  vK (v_add x34 x35) fun x37 =>
  some ((.tup [x37, (.int .i64 (.ofNat 0))]), h36))
def C14_0 : DC := (.seq (.reg [⟨(some p1), none, (.e (.box (.r p0)))⟩, ⟨(some p2), none, (.e (.mv (.c (.str []))))⟩, ⟨(some p3), none, (.e (.mv (.c (.int .i64 (.ofNat 0)))))⟩]) (.seq (.seq (.reg [⟨(some p5), none, (.e (.ldN 6 (.r p1)))⟩, ⟨(some p6), none, (.c (.f 18 [(.r p5)]))⟩, ⟨(some p4), none, (.e (.mv (.r p6)))⟩]) (.seq (.reg [⟨(some p7), none, (.e (.mv (.r p4)))⟩, ⟨(some p8), none, (.e (.bin .neq (.r p7) (.c (.int .i64 (.ofNat 0)))))⟩]) (.cond (.r p8) (.seq (.reg [⟨(some p9), none, (.e (.mv (.r p4)))⟩, ⟨(some p2), none, (.e (.mv (.c (.str []))))⟩, ⟨(some p3), none, (.e (.mv (.r p9)))⟩]) .ret) .skip))) (.seq (.drg [⟨0, ⟨(some p10), none, (.e (.fa 0 (.r p1)))⟩, [], false⟩, ⟨1, ⟨(some p11), none, (.e (.ld (.r p10)))⟩, [], false⟩, ⟨2, ⟨(some p12), none, (.e (.conv .u8 (.r p11)))⟩, [], false⟩, ⟨3, ⟨(some p13), none, (.e (.bsl 1 1 [(.int .u8 (.ofNat 0))] [(0, 1, (.r p12))]))⟩, [], false⟩, ⟨4, ⟨(some p14), none, (.e (.b2s (.r p13)))⟩, [], false⟩, ⟨5, ⟨(some p15), none, (.e (.fa 1 (.r p1)))⟩, [], false⟩, ⟨6, ⟨(some p16), none, (.e (.ld (.r p15)))⟩, [], false⟩, ⟨9, ⟨(some p19), none, (.e (.fa 2 (.r p1)))⟩, [], false⟩, ⟨10, ⟨(some p20), none, (.e (.ld (.r p19)))⟩, [], false⟩, ⟨13, ⟨(some p23), none, (.e (.fa 3 (.r p1)))⟩, [], false⟩, ⟨14, ⟨(some p24), none, (.e (.ld (.r p23)))⟩, [], false⟩, ⟨17, ⟨(some p27), none, (.e (.fa 4 (.r p1)))⟩, [], false⟩, ⟨18, ⟨(some p28), none, (.e (.ld (.r p27)))⟩, [], false⟩, ⟨21, ⟨(some p31), none, (.e (.fa 5 (.r p1)))⟩, [], false⟩, ⟨22, ⟨(some p32), none, (.e (.ld (.r p31)))⟩, [], false⟩, ⟨7, ⟨(some p17), none, (.c (.f 53 [(.r p16)]))⟩, [22, 18, 14, 10, 4, 1], false⟩, ⟨8, ⟨(some p18), none, (.e (.bin .add (.r p14) (.r p17)))⟩, [], false⟩, ⟨11, ⟨(some p21), none, (.c (.f 53 [(.r p20)]))⟩, [22, 18, 14, 4, 1], false⟩, ⟨12, ⟨(some p22), none, (.e (.bin .add (.r p18) (.r p21)))⟩, [], false⟩, ⟨15, ⟨(some p25), none, (.c (.f 54 [(.r p24)]))⟩, [22, 18, 4, 1], false⟩, ⟨16, ⟨(some p26), none, (.e (.bin .add (.r p22) (.r p25)))⟩, [], false⟩, ⟨19, ⟨(some p29), none, (.c (.f 54 [(.r p28)]))⟩, [22, 4, 1], false⟩, ⟨20, ⟨(some p30), none, (.e (.bin .add (.r p26) (.r p29)))⟩, [], false⟩, ⟨23, ⟨(some p33), none, (.c (.f 54 [(.r p32)]))⟩, [4, 1], false⟩, ⟨24, ⟨(some p34), none, (.e (.bin .add (.r p30) (.r p33)))⟩, [], false⟩, ⟨25, ⟨(some p2), none, (.e (.mv (.r p34)))⟩, [], false⟩, ⟨26, ⟨(some p3), none, (.e (.mv (.c (.int .i64 (.ofNat 0)))))⟩, [], false⟩]) .ret)))
theorem I14_0 (E : Env) : Is E C14_0 (retK3 R14) (fun σ h => J14_0 E (σ p0) h) :=
  fun σ h => by kernel_rfl
def D14 : DF := ⟨1, 35, C14_0, R14⟩
noncomputable def S14 (E : Env) : Fun := fun args h => aS args fun r0 args => a0 args (J14_0 E r0 h)
theorem S14_eq (E : Env) (args : List DV) (h : H) : runFn E D14 args h = S14 E args h :=
  Is.fn1 (d := D14) (I14_0 E) rfl (fun r0 h => J14_0 E r0 h) (fun r0 h => by kernel_rfl) args h
/- hurdle/deltas.Decode -/
def R15 : List RV := [(.cells p2 6), (.r p3)]
noncomputable def J15_0 (E : Env) (r0 : DV) (h : H) : Ans :=
  n_alc 6 6 (.list [(.int .i64 (.ofNat 0)), (.int .i64 (.ofNat 0)), (.int .i64 (.ofNat 0)), (.str []), (.str []), (.str [])]) h fun x1 h2 =>
  wK (callK E 55 [r0] h2) fun x3 h4 =>
  wK (callK E 56 [x3] h4) fun x5 h6 =>
  wK (callK E 57 [x3] h6) fun x7 h8 =>
  wK (callK E 57 [x3] h8) fun x9 h10 =>
  wK (callK E 58 [x3] h10) fun x11 h12 =>
  wK (callK E 58 [x3] h12) fun x13 h14 =>
  wK (callK E 58 [x3] h14) fun x15 h16 =>
  vK (v_bld [(.int .i64 (.ofNat 0)), (.int .i64 (.ofNat 0)), (.int .i64 (.ofNat 0)), (.str []), (.str []), (.str [])] [(0, 1, x5), (1, 1, x7), (2, 1, x9), (3, 1, x11), (4, 1, x13), (5, 1, x15)]) fun x17 =>
  n_alc 6 6 (.list [(.int .i64 (.ofNat 0)), (.int .i64 (.ofNat 0)), (.int .i64 (.ofNat 0)), (.str []), (.str []), (.str [])]) h16 fun x18 h19 =>
  wK (dStF 6 x18 x17 h19) fun x20 h21 =>
  wK (callK E 59 [x3] h21) fun x22 h23 =>
  vK (v_neq x22 (.int .i64 (.ofNat 0))) fun x24 =>
  gdK x24 false (fun kk => vK (v_ldN 6 h23.get x18) fun v => kk v h23) h23 fun x25 h26 =>
  gdK x24 false (fun kk => wK (callK E 17 [x25] h26) kk) h26 fun x27 h28 =>
  gdK x24 false (fun kk => vK (v_neq x27 (.int .i64 (.ofNat 0))) fun v => kk v h28) h28 fun x29 h30 =>
  vK (v_pick x24 (.bool true) x29) fun x31 =>
  bK x31
  (vK (v_bld [(.int .i64 (.ofNat 0)), (.int .i64 (.ofNat 0)), (.int .i64 (.ofNat 0)), (.str []), (.str []), (.str [])] []) fun x32 =>
  wK (dStF 6 x1 x32 h30) fun x33 h34 =>
  vK (v_ldN 6 h34.get x1) fun x35 =>
  some ((.tup [x35, (.int .i64 (.ofNat 3))]), h34))
  (vK (v_ldN 6 h30.get x18) fun x36 =>
  wK (dStF 6 x1 x36 h30) fun x37 h38 =>
  vK (v_ldN 6 h38.get x1) fun x39 =>
  some ((.tup [x39, (.int .i64 (.ofNat 0))]), h38))
def C15_0 : DC := (.seq (.reg [⟨(some p2), none, (.e (.alc 6 6 (.list [(.int .i64 (.ofNat 0)), (.int .i64 (.ofNat 0)), (.int .i64 (.ofNat 0)), (.str []), (.str []), (.str [])])))⟩, ⟨(some p3), none, (.e (.mv (.c (.int .i64 (.ofNat 0)))))⟩]) (.seq (.reg [⟨(some p6), none, (.e (.mv (.r p0)))⟩, ⟨(some p7), none, (.c (.f 55 [(.r p6)]))⟩, ⟨(some p4), none, (.e (.mv (.r p7)))⟩]) (.seq (.reg [⟨(some p8), none, (.e (.mv (.r p4)))⟩, ⟨(some p9), none, (.c (.f 56 [(.r p8)]))⟩, ⟨(some p10), none, (.e (.mv (.r p4)))⟩, ⟨(some p11), none, (.c (.f 57 [(.r p10)]))⟩, ⟨(some p12), none, (.e (.mv (.r p4)))⟩, ⟨(some p13), none, (.c (.f 57 [(.r p12)]))⟩, ⟨(some p14), none, (.e (.mv (.r p4)))⟩, ⟨(some p15), none, (.c (.f 58 [(.r p14)]))⟩, ⟨(some p16), none, (.e (.mv (.r p4)))⟩, ⟨(some p17), none, (.c (.f 58 [(.r p16)]))⟩, ⟨(some p18), none, (.e (.mv (.r p4)))⟩, ⟨(some p19), none, (.c (.f 58 [(.r p18)]))⟩, ⟨(some p20), none, (.e (.bld [(.int .i64 (.ofNat 0)), (.int .i64 (.ofNat 0)), (.int .i64 (.ofNat 0)), (.str []), (.str []), (.str [])] [(0, 1, (.r p9)), (1, 1, (.r p11)), (2, 1, (.r p13)), (3, 1, (.r p15)), (4, 1, (.r p17)), (5, 1, (.r p19))]))⟩, ⟨(some p5), none, (.e (.alc 6 6 (.list [(.int .i64 (.ofNat 0)), (.int .i64 (.ofNat 0)), (.int .i64 (.ofNat 0)), (.str []), (.str []), (.str [])])))⟩, ⟨none, none, (.w (.st 6 (.r p5) (.r p20)))⟩]) (.seq (.seq (.reg [⟨(some p21), none, (.e (.mv (.r p4)))⟩, ⟨(some p22), none, (.c (.f 59 [(.r p21)]))⟩, ⟨(some p23), none, (.e (.bin .neq (.r p22) (.c (.int .i64 (.ofNat 0)))))⟩, ⟨(some p24), none, (.e (.mv (.r p23)))⟩, ⟨(some p25), (some (p24, false)), (.e (.ldN 6 (.r p5)))⟩, ⟨(some p26), (some (p24, false)), (.c (.f 17 [(.r p25)]))⟩, ⟨(some p27), (some (p24, false)), (.e (.bin .neq (.r p26) (.c (.int .i64 (.ofNat 0)))))⟩, ⟨(some p28), none, (.e (.pick (.r p24) (.c (.bool true)) (.r p27)))⟩]) (.cond (.r p28) (.seq (.reg [⟨(some p29), none, (.e (.bld [(.int .i64 (.ofNat 0)), (.int .i64 (.ofNat 0)), (.int .i64 (.ofNat 0)), (.str []), (.str []), (.str [])] []))⟩, ⟨none, none, (.w (.st 6 (.r p2) (.r p29)))⟩, ⟨(some p3), none, (.e (.mv (.c (.int .i64 (.ofNat 3)))))⟩]) .ret) .skip)) (.seq (.reg [⟨(some p30), none, (.e (.ldN 6 (.r p5)))⟩, ⟨none, none, (.w (.st 6 (.r p2) (.r p30)))⟩, ⟨(some p3), none, (.e (.mv (.c (.int .i64 (.ofNat 0)))))⟩]) .ret)))))
theorem I15_0 (E : Env) : Is E C15_0 (retK3 R15) (fun σ h => J15_0 E (σ p0) h) :=
  fun σ h => by kernel_rfl
def D15 : DF := ⟨1, 31, C15_0, R15⟩
noncomputable def S15 (E : Env) : Fun := fun args h => aS args fun r0 args => a0 args (J15_0 E r0 h)
theorem S15_eq (E : Env) (args : List DV) (h : H) : runFn E D15 args h = S15 E args h :=
  Is.fn1 (d := D15) (I15_0 E) rfl (fun r0 h => J15_0 E r0 h) (fun r0 h => by kernel_rfl) args h
/- hurdle/hurdleref40.Decode -/
def R16 : List RV := [(.cells p2 6), (.r p3)]
noncomputable def J16_0 (E : Env) (r0 : DV) (h : H) : Ans :=
  n_alc 6 6 (.list [(.int .i64 (.ofNat 0)), (.int .i64 (.ofNat 0)), (.int .i64 (.ofNat 0)), (.str []), (.str []), (.str [])]) h fun x1 h2 =>
  vK (v_bld [(.str []), (.bool false)] [(0, 1, r0)]) fun x3 =>
  n_alc 2 2 (.list [(.str []), (.bool false)]) h2 fun x4 h5 =>
  wK (dStF 2 x4 x3 h5) fun x6 h7 =>
  vK (v_ldN 2 h7.get x4) fun x8 =>
  wK (callK E 60 [x8] h7) fun x9 h10 =>
  vK (v_ext 0 x9) fun x11 =>
  vK (v_ext 1 x9) fun x12 =>
  wK (dStF 2 x4 x11 h10) fun x13 h14 =>
  vK (v_ldN 2 h14.get x4) fun x15 =>
  wK (callK E 61 [x15] h14) fun x16 h17 =>
  vK (v_ext 0 x16) fun x18 =>
  vK (v_ext 1 x16) fun x19 =>
  wK (dStF 2 x4 x18 h17) fun x20 h21 =>
  vK (v_ldN 2 h21.get x4) fun x22 =>
  wK (callK E 61 [x22] h21) fun x23 h24 =>
  vK (v_ext 0 x23) fun x25 =>
  vK (v_ext 1 x23) fun x26 =>
  wK (dStF 2 x4 x25 h24) fun x27 h28 =>
  vK (v_ldN 2 h28.get x4) fun x29 =>
  wK (callK E 62 [x29] h28) fun x30 h31 =>
  vK (v_ext 0 x30) fun x32 =>
  vK (v_ext 1 x30) fun x33 =>
  wK (dStF 2 x4 x32 h31) fun x34 h35 =>
  vK (v_ldN 2 h35.get x4) fun x36 =>
  wK (callK E 62 [x36] h35) fun x37 h38 =>
  vK (v_ext 0 x37) fun x39 =>
  vK (v_ext 1 x37) fun x40 =>
  wK (dStF 2 x4 x39 h38) fun x41 h42 =>
  vK (v_ldN 2 h42.get x4) fun x43 =>
  wK (callK E 62 [x43] h42) fun x44 h45 =>
  vK (v_ext 0 x44) fun x46 =>
  vK (v_ext 1 x44) fun x47 =>
  wK (dStF 2 x4 x46 h45) fun x48 h49 =>
  vK (v_bld [(.int .i64 (.ofNat 0)), (.int .i64 (.ofNat 0)), (.int .i64 (.ofNat 0)), (.str []), (.str []), (.str [])] [(0, 1, x12), (1, 1, x19), (2, 1, x26), (3, 1, x33), (4, 1, x40), (5, 1, x47)]) fun x50 =>
  n_alc 6 6 (.list [(.int .i64 (.ofNat 0)), (.int .i64 (.ofNat 0)), (.int .i64 (.ofNat 0)), (.str []), (.str []), (.str [])]) h49 fun x51 h52 =>
  wK (dStF 6 x51 x50 h52) fun x53 h54 =>
  vK (v_ldN 2 h54.get x4) fun x55 =>
  wK (callK E 63 [x55] h54) fun x56 h57 =>
  vK (v_neq x56 (.int .i64 (.ofNat 0))) fun x58 =>
  gdK x58 false (fun kk => vK (v_ldN 6 h57.get x51) fun v => kk v h57) h57 fun x59 h60 =>
  gdK x58 false (fun kk => wK (callK E 18 [x59] h60) kk) h60 fun x61 h62 =>
  gdK x58 false (fun kk => vK (v_neq x61 (.int .i64 (.ofNat 0))) fun v => kk v h62) h62 fun x63 h64 =>
  vK (v_pick x58 (.bool true) x63) fun x65 =>
  bK x65
  (vK (v_bld [(.int .i64 (.ofNat 0)), (.int .i64 (.ofNat 0)), (.int .i64 (.ofNat 0)), (.str []), (.str []), (.str [])] []) fun x66 =>
  wK (dStF 6 x1 x66 h64) fun x67 h68 =>
  vK (v_ldN 6 h68.get x1) fun x69 =>
  some ((.tup [x69, (.int .i64 (.ofNat 3))]), h68))
  (vK (v_ldN 6 h64.get x51) fun x70 =>
  wK (dStF 6 x1 x70 h64) fun x71 h72 =>
  vK (v_ldN 6 h72.get x1) fun x73 =>
  some ((.tup [x73, (.int .i64 (.ofNat 0))]), h72))
def C16_0 : DC := (.seq (.reg [⟨(some p2), none, (.e (.alc 6 6 (.list [(.int .i64 (.ofNat 0)), (.int .i64 (.ofNat 0)), (.int .i64 (.ofNat 0)), (.str []), (.str []), (.str [])])))⟩, ⟨(some p3), none, (.e (.mv (.c (.int .i64 (.ofNat 0)))))⟩]) (.seq (.reg [⟨(some p12), none, (.e (.mv (.r p0)))⟩, ⟨(some p13), none, (.e (.bld [(.str []), (.bool false)] [(0, 1, (.r p12))]))⟩, ⟨(some p4), none, (.e (.alc 2 2 (.list [(.str []), (.bool false)])))⟩, ⟨none, none, (.w (.st 2 (.r p4) (.r p13)))⟩]) (.seq (.reg [⟨(some p15), none, (.e (.ldN 2 (.r p4)))⟩, ⟨(some p16), none, (.c (.f 60 [(.r p15)]))⟩, ⟨(some p14), none, (.e (.mv (.r p16)))⟩, ⟨(some p17), none, (.e (.ext 0 (.r p14)))⟩, ⟨(some p18), none, (.e (.ext 1 (.r p14)))⟩, ⟨none, none, (.w (.st 2 (.r p4) (.r p17)))⟩, ⟨(some p5), none, (.e (.mv (.r p18)))⟩]) (.seq (.reg [⟨(some p20), none, (.e (.ldN 2 (.r p4)))⟩, ⟨(some p21), none, (.c (.f 61 [(.r p20)]))⟩, ⟨(some p19), none, (.e (.mv (.r p21)))⟩, ⟨(some p22), none, (.e (.ext 0 (.r p19)))⟩, ⟨(some p23), none, (.e (.ext 1 (.r p19)))⟩, ⟨none, none, (.w (.st 2 (.r p4) (.r p22)))⟩, ⟨(some p6), none, (.e (.mv (.r p23)))⟩]) (.seq (.reg [⟨(some p25), none, (.e (.ldN 2 (.r p4)))⟩, ⟨(some p26), none, (.c (.f 61 [(.r p25)]))⟩, ⟨(some p24), none, (.e (.mv (.r p26)))⟩, ⟨(some p27), none, (.e (.ext 0 (.r p24)))⟩, ⟨(some p28), none, (.e (.ext 1 (.r p24)))⟩, ⟨none, none, (.w (.st 2 (.r p4) (.r p27)))⟩, ⟨(some p7), none, (.e (.mv (.r p28)))⟩]) (.seq (.reg [⟨(some p30), none, (.e (.ldN 2 (.r p4)))⟩, ⟨(some p31), none, (.c (.f 62 [(.r p30)]))⟩, ⟨(some p29), none, (.e (.mv (.r p31)))⟩, ⟨(some p32), none, (.e (.ext 0 (.r p29)))⟩, ⟨(some p33), none, (.e (.ext 1 (.r p29)))⟩, ⟨none, none, (.w (.st 2 (.r p4) (.r p32)))⟩, ⟨(some p8), none, (.e (.mv (.r p33)))⟩]) (.seq (.reg [⟨(some p35), none, (.e (.ldN 2 (.r p4)))⟩, ⟨(some p36), none, (.c (.f 62 [(.r p35)]))⟩, ⟨(some p34), none, (.e (.mv (.r p36)))⟩, ⟨(some p37), none, (.e (.ext 0 (.r p34)))⟩, ⟨(some p38), none, (.e (.ext 1 (.r p34)))⟩, ⟨none, none, (.w (.st 2 (.r p4) (.r p37)))⟩, ⟨(some p9), none, (.e (.mv (.r p38)))⟩]) (.seq (.reg [⟨(some p40), none, (.e (.ldN 2 (.r p4)))⟩, ⟨(some p41), none, (.c (.f 62 [(.r p40)]))⟩, ⟨(some p39), none, (.e (.mv (.r p41)))⟩, ⟨(some p42), none, (.e (.ext 0 (.r p39)))⟩, ⟨(some p43), none, (.e (.ext 1 (.r p39)))⟩, ⟨none, none, (.w (.st 2 (.r p4) (.r p42)))⟩, ⟨(some p10), none, (.e (.mv (.r p43)))⟩]) (.seq (.reg [⟨(some p44), none, (.e (.mv (.r p5)))⟩, ⟨(some p45), none, (.e (.mv (.r p6)))⟩, ⟨(some p46), none, (.e (.mv (.r p7)))⟩, ⟨(some p47), none, (.e (.mv (.r p8)))⟩, ⟨(some p48), none, (.e (.mv (.r p9)))⟩, ⟨(some p49), none, (.e (.mv (.r p10)))⟩, ⟨(some p50), none, (.e (.bld [(.int .i64 (.ofNat 0)), (.int .i64 (.ofNat 0)), (.int .i64 (.ofNat 0)), (.str []), (.str []), (.str [])] [(0, 1, (.r p44)), (1, 1, (.r p45)), (2, 1, (.r p46)), (3, 1, (.r p47)), (4, 1, (.r p48)), (5, 1, (.r p49))]))⟩, ⟨(some p11), none, (.e (.alc 6 6 (.list [(.int .i64 (.ofNat 0)), (.int .i64 (.ofNat 0)), (.int .i64 (.ofNat 0)), (.str []), (.str []), (.str [])])))⟩, ⟨none, none, (.w (.st 6 (.r p11) (.r p50)))⟩]) (.seq (.seq (.reg [⟨(some p51), none, (.e (.ldN 2 (.r p4)))⟩, ⟨(some p52), none, (.c (.f 63 [(.r p51)]))⟩, ⟨(some p53), none, (.e (.bin .neq (.r p52) (.c (.int .i64 (.ofNat 0)))))⟩, ⟨(some p54), none, (.e (.mv (.r p53)))⟩, ⟨(some p55), (some (p54, false)), (.e (.ldN 6 (.r p11)))⟩, ⟨(some p56), (some (p54, false)), (.c (.f 18 [(.r p55)]))⟩, ⟨(some p57), (some (p54, false)), (.e (.bin .neq (.r p56) (.c (.int .i64 (.ofNat 0)))))⟩, ⟨(some p58), none, (.e (.pick (.r p54) (.c (.bool true)) (.r p57)))⟩]) (.cond (.r p58) (.seq (.reg [⟨(some p59), none, (.e (.bld [(.int .i64 (.ofNat 0)), (.int .i64 (.ofNat 0)), (.int .i64 (.ofNat 0)), (.str []), (.str []), (.str [])] []))⟩, ⟨none, none, (.w (.st 6 (.r p2) (.r p59)))⟩, ⟨(some p3), none, (.e (.mv (.c (.int .i64 (.ofNat 3)))))⟩]) .ret) .skip)) (.seq (.reg [⟨(some p60), none, (.e (.ldN 6 (.r p11)))⟩, ⟨none, none, (.w (.st 6 (.r p2) (.r p60)))⟩, ⟨(some p3), none, (.e (.mv (.c (.int .i64 (.ofNat 0)))))⟩]) .ret)))))))))))
theorem I16_0 (E : Env) : Is E C16_0 (retK3 R16) (fun σ h => J16_0 E (σ p0) h) :=
  fun σ h => by kernel_rfl
def D16 : DF := ⟨1, 61, C16_0, R16⟩
noncomputable def S16 (E : Env) : Fun := fun args h => aS args fun r0 args => a0 args (J16_0 E r0 h)
theorem S16_eq (E : Env) (args : List DV) (h : H) : runFn E D16 args h = S16 E args h :=
  Is.fn1 (d := D16) (I16_0 E) rfl (fun r0 h => J16_0 E r0 h) (fun r0 h => by kernel_rfl) args h
/- hurdle/deltas.Check -/
def R17 : List RV := [(.r p2)]
noncomputable def J17_0 (E : Env) (r0 : DV) (h : H) : Ans :=
  n_box r0 h fun x1 h2 =>
  vK (v_fa 0 x1) fun x3 =>
  vK (v_ld h2.get x3) fun x4 =>
  vK (v_lss x4 (.int .i64 (.ofNat 1))) fun x5 =>
  gdK x5 false (fun kk => vK (v_fa 0 x1) fun v => kk v h2) h2 fun x6 h7 =>
  gdK x5 false (fun kk => vK (v_ld h7.get x6) fun v => kk v h7) h7 fun x8 h9 =>
  gdK x5 false (fun kk => vK (v_gtr x8 (.int .i64 (.ofNat 11))) fun v => kk v h9) h9 fun x10 h11 =>
  vK (v_pick x5 (.bool true) x10) fun x12 =>
  bK x12
  (some ((.int .i64 (.ofNat 1)), h11))
  (vK (v_fa 3 x1) fun x13 =>
  vK (v_ld h11.get x13) fun x14 =>
  vK (v_lenS x14) fun x15 =>
  vK (v_gtr x15 (.int .i64 (.ofNat 255))) fun x16 =>
  gdK x16 false (fun kk => vK (v_fa 4 x1) fun v => kk v h11) h11 fun x17 h18 =>
  gdK x16 false (fun kk => vK (v_ld h18.get x17) fun v => kk v h18) h18 fun x19 h20 =>
  gdK x16 false (fun kk => vK (v_lenS x19) fun v => kk v h20) h20 fun x21 h22 =>
  gdK x16 false (fun kk => vK (v_gtr x21 (.int .i64 (.ofNat 255))) fun v => kk v h22) h22 fun x23 h24 =>
  vK (v_pick x16 (.bool true) x23) fun x25 =>
  gdK x25 false (fun kk => vK (v_fa 5 x1) fun v => kk v h24) h24 fun x26 h27 =>
  gdK x25 false (fun kk => vK (v_ld h27.get x26) fun v => kk v h27) h27 fun x28 h29 =>
  gdK x25 false (fun kk => vK (v_lenS x28) fun v => kk v h29) h29 fun x30 h31 =>
  gdK x25 false (fun kk => vK (v_gtr x30 (.int .i64 (.ofNat 512))) fun v => kk v h31) h31 fun x32 h33 =>
  vK (v_pick x25 (.bool true) x32) fun x34 =>
  bK x34
  (some ((.int .i64 (.ofNat 2)), h33))
  (some ((.int .i64 (.ofNat 0)), h33)))
def C17_0 : DC := (.seq (.reg [⟨(some p1), none, (.e (.box (.r p0)))⟩, ⟨(some p2), none, (.e (.mv (.c (.int .i64 (.ofNat 0)))))⟩]) (.seq (.block 0 (.seq (.reg [⟨(some p4), none, (.e (.fa 0 (.r p1)))⟩, ⟨(some p5), none, (.e (.ld (.r p4)))⟩, ⟨(some p6), none, (.e (.bin .lss (.r p5) (.c (.int .i64 (.ofNat 1)))))⟩, ⟨(some p7), none, (.e (.mv (.r p6)))⟩, ⟨(some p8), (some (p7, false)), (.e (.fa 0 (.r p1)))⟩, ⟨(some p9), (some (p7, false)), (.e (.ld (.r p8)))⟩, ⟨(some p10), (some (p7, false)), (.e (.bin .gtr (.r p9) (.c (.int .i64 (.ofNat 11)))))⟩, ⟨(some p11), none, (.e (.pick (.r p7) (.c (.bool true)) (.r p10)))⟩, ⟨(some p3), none, (.e (.mv (.r p11)))⟩]) (.cond (.r p3) (.seq (.reg [⟨(some p2), none, (.e (.mv (.c (.int .i64 (.ofNat 1)))))⟩]) .ret) (.seq (.reg [⟨(some p13), none, (.e (.fa 3 (.r p1)))⟩, ⟨(some p14), none, (.e (.ld (.r p13)))⟩, ⟨(some p15), none, (.e (.lenS (.r p14)))⟩, ⟨(some p16), none, (.e (.bin .gtr (.r p15) (.c (.int .i64 (.ofNat 255)))))⟩, ⟨(some p17), none, (.e (.mv (.r p16)))⟩, ⟨(some p18), (some (p17, false)), (.e (.fa 4 (.r p1)))⟩, ⟨(some p19), (some (p17, false)), (.e (.ld (.r p18)))⟩, ⟨(some p20), (some (p17, false)), (.e (.lenS (.r p19)))⟩, ⟨(some p21), (some (p17, false)), (.e (.bin .gtr (.r p20) (.c (.int .i64 (.ofNat 255)))))⟩, ⟨(some p22), none, (.e (.pick (.r p17) (.c (.bool true)) (.r p21)))⟩, ⟨(some p23), none, (.e (.mv (.r p22)))⟩, ⟨(some p24), (some (p23, false)), (.e (.fa 5 (.r p1)))⟩, ⟨(some p25), (some (p23, false)), (.e (.ld (.r p24)))⟩, ⟨(some p26), (some (p23, false)), (.e (.lenS (.r p25)))⟩, ⟨(some p27), (some (p23, false)), (.e (.bin .gtr (.r p26) (.c (.int .i64 (.ofNat 512)))))⟩, ⟨(some p28), none, (.e (.pick (.r p23) (.c (.bool true)) (.r p27)))⟩, ⟨(some p12), none, (.e (.mv (.r p28)))⟩]) (.cond (.r p12) (.seq (.reg [⟨(some p2), none, (.e (.mv (.c (.int .i64 (.ofNat 2)))))⟩]) .ret) .skip))))) (.seq (.reg [⟨(some p2), none, (.e (.mv (.c (.int .i64 (.ofNat 0)))))⟩]) .ret)))
theorem I17_0 (E : Env) : Is E C17_0 (retK3 R17) (fun σ h => J17_0 E (σ p0) h) :=
  fun σ h => by kernel_rfl
def D17 : DF := ⟨1, 29, C17_0, R17⟩
noncomputable def S17 (E : Env) : Fun := fun args h => aS args fun r0 args => a0 args (J17_0 E r0 h)
theorem S17_eq (E : Env) (args : List DV) (h : H) : runFn E D17 args h = S17 E args h :=
  Is.fn1 (d := D17) (I17_0 E) rfl (fun r0 h => J17_0 E r0 h) (fun r0 h => by kernel_rfl) args h
/- hurdle/hurdleref40.Check -/
def R18 : List RV := [(.r p2)]
noncomputable def J18_0 (E : Env) (r0 : DV) (h : H) : Ans :=
  n_box r0 h fun x1 h2 =>
  vK (v_fa 0 x1) fun x3 =>
  vK (v_ld h2.get x3) fun x4 =>
  vK (v_lss x4 (.int .i64 (.ofNat 1))) fun x5 =>
  gdK x5 false (fun kk => vK (v_fa 0 x1) fun v => kk v h2) h2 fun x6 h7 =>
  gdK x5 false (fun kk => vK (v_ld h7.get x6) fun v => kk v h7) h7 fun x8 h9 =>
  gdK x5 false (fun kk => vK (v_gtr x8 (.int .i64 (.ofNat 11))) fun v => kk v h9) h9 fun x10 h11 =>
  vK (v_pick x5 (.bool true) x10) fun x12 =>
  bK x12
  (some ((.int .i64 (.ofNat 1)), h11))
  (vK (v_fa 3 x1) fun x13 =>
  vK (v_ld h11.get x13) fun x14 =>
  vK (v_lenS x14) fun x15 =>
  vK (v_gtr x15 (.int .i64 (.ofNat 255))) fun x16 =>
  gdK x16 false (fun kk => vK (v_fa 4 x1) fun v => kk v h11) h11 fun x17 h18 =>
  gdK x16 false (fun kk => vK (v_ld h18.get x17) fun v => kk v h18) h18 fun x19 h20 =>
  gdK x16 false (fun kk => vK (v_lenS x19) fun v => kk v h20) h20 fun x21 h22 =>
  gdK x16 false (fun kk => vK (v_gtr x21 (.int .i64 (.ofNat 255))) fun v => kk v h22) h22 fun x23 h24 =>
  vK (v_pick x16 (.bool true) x23) fun x25 =>
  gdK x25 false (fun kk => vK (v_fa 5 x1) fun v => kk v h24) h24 fun x26 h27 =>
  gdK x25 false (fun kk => vK (v_ld h27.get x26) fun v => kk v h27) h27 fun x28 h29 =>
  gdK x25 false (fun kk => vK (v_lenS x28) fun v => kk v h29) h29 fun x30 h31 =>
  gdK x25 false (fun kk => vK (v_gtr x30 (.int .i64 (.ofNat 512))) fun v => kk v h31) h31 fun x32 h33 =>
  vK (v_pick x25 (.bool true) x32) fun x34 =>
  bK x34
  (some ((.int .i64 (.ofNat 2)), h33))
  (some ((.int .i64 (.ofNat 0)), h33)))
def C18_0 : DC := (.seq (.reg [⟨(some p1), none, (.e (.box (.r p0)))⟩, ⟨(some p2), none, (.e (.mv (.c (.int .i64 (.ofNat 0)))))⟩]) (.seq (.seq (.reg [⟨(some p3), none, (.e (.fa 0 (.r p1)))⟩, ⟨(some p4), none, (.e (.ld (.r p3)))⟩, ⟨(some p5), none, (.e (.bin .lss (.r p4) (.c (.int .i64 (.ofNat 1)))))⟩, ⟨(some p6), none, (.e (.mv (.r p5)))⟩, ⟨(some p7), (some (p6, false)), (.e (.fa 0 (.r p1)))⟩, ⟨(some p8), (some (p6, false)), (.e (.ld (.r p7)))⟩, ⟨(some p9), (some (p6, false)), (.e (.bin .gtr (.r p8) (.c (.int .i64 (.ofNat 11)))))⟩, ⟨(some p10), none, (.e (.pick (.r p6) (.c (.bool true)) (.r p9)))⟩]) (.cond (.r p10) (.seq (.reg [⟨(some p2), none, (.e (.mv (.c (.int .i64 (.ofNat 1)))))⟩]) .ret) .skip)) (.seq (.seq (.reg [⟨(some p11), none, (.e (.fa 3 (.r p1)))⟩, ⟨(some p12), none, (.e (.ld (.r p11)))⟩, ⟨(some p13), none, (.e (.lenS (.r p12)))⟩, ⟨(some p14), none, (.e (.bin .gtr (.r p13) (.c (.int .i64 (.ofNat 255)))))⟩, ⟨(some p15), none, (.e (.mv (.r p14)))⟩, ⟨(some p16), (some (p15, false)), (.e (.fa 4 (.r p1)))⟩, ⟨(some p17), (some (p15, false)), (.e (.ld (.r p16)))⟩, ⟨(some p18), (some (p15, false)), (.e (.lenS (.r p17)))⟩, ⟨(some p19), (some (p15, false)), (.e (.bin .gtr (.r p18) (.c (.int .i64 (.ofNat 255)))))⟩, ⟨(some p20), none, (.e (.pick (.r p15) (.c (.bool true)) (.r p19)))⟩, ⟨(some p21), none, (.e (.mv (.r p20)))⟩, ⟨(some p22), (some (p21, false)), (.e (.fa 5 (.r p1)))⟩, ⟨(some p23), (some (p21, false)), (.e (.ld (.r p22)))⟩, ⟨(some p24), (some (p21, false)), (.e (.lenS (.r p23)))⟩, ⟨(some p25), (some (p21, false)), (.e (.bin .gtr (.r p24) (.c (.int .i64 (.ofNat 512)))))⟩, ⟨(some p26), none, (.e (.pick (.r p21) (.c (.bool true)) (.r p25)))⟩]) (.cond (.r p26) (.seq (.reg [⟨(some p2), none, (.e (.mv (.c (.int .i64 (.ofNat 2)))))⟩]) .ret) .skip)) (.seq (.reg [⟨(some p2), none, (.e (.mv (.c (.int .i64 (.ofNat 0)))))⟩]) .ret))))
theorem I18_0 (E : Env) : Is E C18_0 (retK3 R18) (fun σ h => J18_0 E (σ p0) h) :=
  fun σ h => by kernel_rfl
def D18 : DF := ⟨1, 27, C18_0, R18⟩
noncomputable def S18 (E : Env) : Fun := fun args h => aS args fun r0 args => a0 args (J18_0 E r0 h)
theorem S18_eq (E : Env) (args : List DV) (h : H) : runFn E D18 args h = S18 E args h :=
  Is.fn1 (d := D18) (I18_0 E) rfl (fun r0 h => J18_0 E r0 h) (fun r0 h => by kernel_rfl) args h
/- hurdle/deltas.Do -/
def R19 : List RV := [(.r p4), (.r p5)]
noncomputable def J19_0 (E : Env) (r0 r1 : DV) (h : H) : Ans :=
  n_box r1 h fun x1 h2 =>
  vK (v_eqv .ptr false h2.get r0 .nilp) fun x3 =>
  bK x3
  (some ((.tup [(.int .i64 (.ofNat 1)), (.str [])]), h2))
  (vK (v_ldN 6 h2.get x1) fun x4 =>
  wK (callK E 17 [x4] h2) fun x5 h6 =>
  vK (v_neq x5 (.int .i64 (.ofNat 0))) fun x7 =>
  bK x7
  (some ((.tup [x5, (.str [])]), h6))
  (vK (v_ldN 6 h6.get x1) fun x8 =>
  wK (callK E 64 [r0, x8] h6) fun x9 h10 =>
  vK (v_tas 102 (.agg [.nilf, (.str [])]) true x9) fun x11 =>
  vK (v_ext 1 x11) fun x12 =>
  vK (v_ext 0 x11) fun x13 =>
  bK x12
  (n_alc 2 2 (.list [.nilf, (.str [])]) h10 fun x14 h15 =>
  wK (dStF 2 x14 x13 h15) fun x16 h17 =>
  vK (v_fa 0 x14) fun x18 =>
  vK (v_ld h17.get x18) fun x19 =>
  vK (v_fa 1 x14) fun x20 =>
  vK (v_ld h17.get x20) fun x21 =>
  wK (c_val E x19 [x21] h17) fun x22 h23 =>
  some ((.tup [x22, (.str [])]), h23))
  (vK (v_tas 104 (.agg [.nilf, (.str []), (.str [])]) true x9) fun x24 =>
  vK (v_ext 1 x24) fun x25 =>
  vK (v_ext 0 x24) fun x26 =>
  bK x25
  (n_alc 3 3 (.list [.nilf, (.str []), (.str [])]) h10 fun x27 h28 =>
  wK (dStF 3 x27 x26 h28) fun x29 h30 =>
  vK (v_fa 0 x27) fun x31 =>
  vK (v_ld h30.get x31) fun x32 =>
  vK (v_fa 1 x27) fun x33 =>
  vK (v_ld h30.get x33) fun x34 =>
  vK (v_fa 2 x27) fun x35 =>
  vK (v_ld h30.get x35) fun x36 =>
  wK (c_val E x32 [x34, x36] h30) fun x37 h38 =>
  some ((.tup [x37, (.str [])]), h38))
  (vK (v_tas 106 (.agg [.nilf]) true x9) fun x39 =>
  vK (v_ext 1 x39) fun x40 =>
  vK (v_ext 0 x39) fun x41 =>
  bK x40
  (n_alc 1 1 (.list [.nilf]) h10 fun x42 h43 =>
  wK (dStF 1 x42 x41 h43) fun x44 h45 =>
  vK (v_fa 0 x42) fun x46 =>
  vK (v_ld h45.get x46) fun x47 =>
  wK (c_val E x47 [] h45) fun x48 h49 =>
  some ((.tup [x48, (.str [])]), h49))
  (vK (v_tas 109 (.agg [.nilf]) true x9) fun x50 =>
  vK (v_ext 1 x50) fun x51 =>
  vK (v_ext 0 x50) fun x52 =>
  bK x51
  (n_alc 1 1 (.list [.nilf]) h10 fun x53 h54 =>
  wK (dStF 1 x53 x52 h54) fun x55 h56 =>
  vK (v_fa 0 x53) fun x57 =>
  vK (v_ld h56.get x57) fun x58 =>
  wK (c_val E x58 [] h56) fun x59 h60 =>
  vK (v_ext 0 x59) fun x61 =>
  vK (v_ext 1 x59) fun x62 =>
  some ((.tup [x61, x62]), h60))
  (some ((.tup [(.int .i64 (.ofNat 1)), (.str [])]), h10)))))))
def C19_0 : DC := (.seq (.reg [⟨(some p3), none, (.e (.box (.r p1)))⟩, ⟨(some p4), none, (.e (.mv (.c (.int .i64 (.ofNat 0)))))⟩, ⟨(some p5), none, (.e (.mv (.c (.str []))))⟩]) (.seq (.seq (.reg [⟨(some p11), none, (.e (.mv (.r p0)))⟩, ⟨(some p12), none, (.e (.eqv .ptr false (.r p11) (.c .nilp)))⟩]) (.cond (.r p12) (.seq (.reg [⟨(some p4), none, (.e (.mv (.c (.int .i64 (.ofNat 1)))))⟩, ⟨(some p5), none, (.e (.mv (.c (.str []))))⟩]) .ret) .skip)) (.seq (.seq (.reg [⟨(some p13), none, (.e (.ldN 6 (.r p3)))⟩, ⟨(some p14), none, (.c (.f 17 [(.r p13)]))⟩, ⟨(some p6), none, (.e (.mv (.r p14)))⟩]) (.seq (.reg [⟨(some p15), none, (.e (.mv (.r p6)))⟩, ⟨(some p16), none, (.e (.bin .neq (.r p15) (.c (.int .i64 (.ofNat 0)))))⟩]) (.cond (.r p16) (.seq (.reg [⟨(some p17), none, (.e (.mv (.r p6)))⟩, ⟨(some p4), none, (.e (.mv (.r p17)))⟩, ⟨(some p5), none, (.e (.mv (.c (.str []))))⟩]) .ret) .skip))) (.seq (.seq (.reg [⟨(some p18), none, (.e (.mv (.r p0)))⟩, ⟨(some p19), none, (.e (.ldN 6 (.r p3)))⟩, ⟨(some p20), none, (.c (.f 64 [(.r p18), (.r p19)]))⟩]) (.block 0 (.seq (.reg [⟨(some p21), none, (.e (.tas 102 (.agg [.nilf, (.str [])]) true (.r p20)))⟩, ⟨(some p22), none, (.e (.ext 1 (.r p21)))⟩, ⟨(some p23), none, (.e (.ext 0 (.r p21)))⟩]) (.cond (.r p22) (.seq (.reg [⟨(some p7), none, (.e (.alc 2 2 (.list [.nilf, (.str [])])))⟩, ⟨none, none, (.w (.st 2 (.r p7) (.r p23)))⟩]) (.seq (.reg [⟨(some p24), none, (.e (.fa 0 (.r p7)))⟩, ⟨(some p25), none, (.e (.ld (.r p24)))⟩, ⟨(some p26), none, (.e (.fa 1 (.r p7)))⟩, ⟨(some p27), none, (.e (.ld (.r p26)))⟩, ⟨(some p28), none, (.c (.v (.r p25) [(.r p27)]))⟩, ⟨(some p4), none, (.e (.mv (.r p28)))⟩, ⟨(some p5), none, (.e (.mv (.c (.str []))))⟩]) .ret)) (.seq (.reg [⟨(some p29), none, (.e (.tas 104 (.agg [.nilf, (.str []), (.str [])]) true (.r p20)))⟩, ⟨(some p30), none, (.e (.ext 1 (.r p29)))⟩, ⟨(some p31), none, (.e (.ext 0 (.r p29)))⟩]) (.cond (.r p30) (.seq (.reg [⟨(some p8), none, (.e (.alc 3 3 (.list [.nilf, (.str []), (.str [])])))⟩, ⟨none, none, (.w (.st 3 (.r p8) (.r p31)))⟩]) (.seq (.reg [⟨(some p32), none, (.e (.fa 0 (.r p8)))⟩, ⟨(some p33), none, (.e (.ld (.r p32)))⟩, ⟨(some p34), none, (.e (.fa 1 (.r p8)))⟩, ⟨(some p35), none, (.e (.ld (.r p34)))⟩, ⟨(some p36), none, (.e (.fa 2 (.r p8)))⟩, ⟨(some p37), none, (.e (.ld (.r p36)))⟩, ⟨(some p38), none, (.c (.v (.r p33) [(.r p35), (.r p37)]))⟩, ⟨(some p4), none, (.e (.mv (.r p38)))⟩, ⟨(some p5), none, (.e (.mv (.c (.str []))))⟩]) .ret)) (.seq (.reg [⟨(some p39), none, (.e (.tas 106 (.agg [.nilf]) true (.r p20)))⟩, ⟨(some p40), none, (.e (.ext 1 (.r p39)))⟩, ⟨(some p41), none, (.e (.ext 0 (.r p39)))⟩]) (.cond (.r p40) (.seq (.reg [⟨(some p9), none, (.e (.alc 1 1 (.list [.nilf])))⟩, ⟨none, none, (.w (.st 1 (.r p9) (.r p41)))⟩]) (.seq (.reg [⟨(some p42), none, (.e (.fa 0 (.r p9)))⟩, ⟨(some p43), none, (.e (.ld (.r p42)))⟩, ⟨(some p44), none, (.c (.v (.r p43) []))⟩, ⟨(some p4), none, (.e (.mv (.r p44)))⟩, ⟨(some p5), none, (.e (.mv (.c (.str []))))⟩]) .ret)) (.seq (.reg [⟨(some p45), none, (.e (.tas 109 (.agg [.nilf]) true (.r p20)))⟩, ⟨(some p46), none, (.e (.ext 1 (.r p45)))⟩, ⟨(some p47), none, (.e (.ext 0 (.r p45)))⟩]) (.cond (.r p46) (.seq (.reg [⟨(some p10), none, (.e (.alc 1 1 (.list [.nilf])))⟩, ⟨none, none, (.w (.st 1 (.r p10) (.r p47)))⟩]) (.seq (.reg [⟨(some p48), none, (.e (.fa 0 (.r p10)))⟩, ⟨(some p49), none, (.e (.ld (.r p48)))⟩, ⟨(some p50), none, (.c (.v (.r p49) []))⟩, ⟨(some p51), none, (.e (.ext 0 (.r p50)))⟩, ⟨(some p52), none, (.e (.ext 1 (.r p50)))⟩, ⟨(some p4), none, (.e (.mv (.r p51)))⟩, ⟨(some p5), none, (.e (.mv (.r p52)))⟩]) .ret)) .skip)))))))))) (.seq (.reg [⟨(some p4), none, (.e (.mv (.c (.int .i64 (.ofNat 1)))))⟩, ⟨(some p5), none, (.e (.mv (.c (.str []))))⟩]) .ret)))))
theorem I19_0 (E : Env) : Is E C19_0 (retK3 R19) (fun σ h => J19_0 E (σ p0) (σ p1) h) :=
  fun σ h => by kernel_rfl
def D19 : DF := ⟨2, 53, C19_0, R19⟩
noncomputable def S19 (E : Env) : Fun := fun args h => aS args fun r0 args => aS args fun r1 args => a0 args (J19_0 E r0 r1 h)
theorem S19_eq (E : Env) (args : List DV) (h : H) : runFn E D19 args h = S19 E args h :=
  Is.fn2 (d := D19) (I19_0 E) rfl (fun r0 r1 h => J19_0 E r0 r1 h) (fun r0 r1 h => by kernel_rfl) args h
/- hurdle/tree.New -/
def R21 : List RV := [(.r p0)]
noncomputable def J21_0 (E : Env) (h : H) : Ans :=
  vK (v_bld [(.int .i64 (.ofNat 0)), .nili, (.int .i64 (.ofNat 0)), .nili, (.int .i64 (.ofNat 0)), .nili, (.int .i64 (.ofNat 0)), .nili, (.int .i64 (.ofNat 0)), .nili, (.int .i64 (.ofNat 0)), .nili, (.int .i64 (.ofNat 0)), .nili, (.int .i64 (.ofNat 0)), .nili, (.int .i64 (.ofNat 0)), .nili, (.int .i64 (.ofNat 0)), .nili, (.int .i64 (.ofNat 0)), .nili, (.int .i64 (.ofNat 0)), .nili, (.int .i64 (.ofNat 0)), .nili, (.int .i64 (.ofNat 0)), .nili, (.int .i64 (.ofNat 0)), .nili, (.int .i64 (.ofNat 0)), .nili, (.int .i64 (.ofNat 0)), .nili, (.int .i64 (.ofNat 0)), .nili, (.int .i64 (.ofNat 0)), .nili, (.int .i64 (.ofNat 0)), .nili, (.int .i64 (.ofNat 0)), .nili, (.int .i64 (.ofNat 0)), .nili, (.int .i64 (.ofNat 0)), .nili, (.int .i64 (.ofNat 0)), .nili, (.int .i64 (.ofNat 0)), .nili, (.int .i64 (.ofNat 0)), .nili, (.int .i64 (.ofNat 0)), .nili, (.int .i64 (.ofNat 0)), .nili, (.int .i64 (.ofNat 0)), .nili, (.int .i64 (.ofNat 0)), .nili, (.int .i64 (.ofNat 0)), .nili, (.int .i64 (.ofNat 0)), .nili, (.int .i64 (.ofNat 0)), .nili, (.int .i64 (.ofNat 0)), .nili, (.int .i64 (.ofNat 0)), .nili, (.int .i64 (.ofNat 0)), .nili, (.int .i64 (.ofNat 0)), .nili, (.int .i64 (.ofNat 0)), .nili, (.int .i64 (.ofNat 0)), .nili, (.int .i64 (.ofNat 0)), .nili, (.int .i64 (.ofNat 0)), .nili, (.int .i64 (.ofNat 0)), .nili, (.int .i64 (.ofNat 0)), .nili, (.int .i64 (.ofNat 0)), .nili, (.int .i64 (.ofNat 0)), .nili, (.int .i64 (.ofNat 0)), .nili, (.int .i64 (.ofNat 0)), .nili, (.int .i64 (.ofNat 0)), .nili, (.int .i64 (.ofNat 0)), .nili, (.int .i64 (.ofNat 0)), .nili, (.int .i64 (.ofNat 0)), .nili, (.int .i64 (.ofNat 0)), .nili, (.int .i64 (.ofNat 0)), .nili, (.int .i64 (.ofNat 0)), .nili, (.int .i64 (.ofNat 0)), .nili, (.int .i64 (.ofNat 0)), .nili, (.int .i64 (.ofNat 0)), .nili, (.int .i64 (.ofNat 0)), .nili, (.int .i64 (.ofNat 0)), .nili, (.int .i64 (.ofNat 0)), .nili, (.int .i64 (.ofNat 0)), .nili, (.int .i64 (.ofNat 0)), .nili, (.int .i64 (.ofNat 0)), .nili, (.int .i64 (.ofNat 0)), .nili, (.int .i64 (.ofNat 0)), .nili, (.int .i64 (.ofNat 0)), .nili, (.int .i64 (.ofNat 0)), .nili, (.int .i64 (.ofNat 0)), .nili, (.int .i64 (.ofNat 0)), .nili, (.int .i64 (.ofNat 0)), .nili, (.int .i64 (.ofNat 0)), .nili, (.int .i64 (.ofNat 0)), .nili, (.int .i64 (.ofNat 0)), .nili, (.int .i64 (.ofNat 0)), .nili, (.int .i64 (.ofNat 0)), .nili, (.int .i64 (.ofNat 0)), .nili, (.int .i64 (.ofNat 0)), .nili, (.int .i64 (.ofNat 0)), .nili, (.int .i64 (.ofNat 0)), .nili, (.int .i64 (.ofNat 0)), .nili, (.int .i64 (.ofNat 0)), .nili, (.int .i64 (.ofNat 0)), .nili, (.int .i64 (.ofNat 0)), .nili, (.int .i64 (.ofNat 0)), .nili, (.int .i64 (.ofNat 0)), .nili, (.int .i64 (.ofNat 0)), .nili, (.int .i64 (.ofNat 0)), .nili, (.int .i64 (.ofNat 0)), .nili, (.int .i64 (.ofNat 0)), .nili, (.int .i64 (.ofNat 0)), .nili, (.int .i64 (.ofNat 0)), .nili, (.int .i64 (.ofNat 0)), .nili, (.int .i64 (.ofNat 0)), .nili, (.int .i64 (.ofNat 0)), .nili, (.int .i64 (.ofNat 0)), .nili, (.int .i64 (.ofNat 0)), .nili, (.int .i64 (.ofNat 0)), .nili, (.int .i64 (.ofNat 0)), .nili, (.int .i64 (.ofNat 0)), .nili, (.int .i64 (.ofNat 0)), .nili, (.int .i64 (.ofNat 0)), .nili, (.int .i64 (.ofNat 0)), .nili, (.int .i64 (.ofNat 0)), .nili, (.int .i64 (.ofNat 0)), .nili, (.int .i64 (.ofNat 0)), .nili, (.int .i64 (.ofNat 0)), .nili, (.int .i64 (.ofNat 0)), .nili, (.int .i64 (.ofNat 0)), .nili, (.int .i64 (.ofNat 0)), .nili, (.int .i64 (.ofNat 0)), .nili, (.int .i64 (.ofNat 0)), .nili, (.int .i64 (.ofNat 0)), .nili, (.int .i64 (.ofNat 0)), .nili, (.int .i64 (.ofNat 0)), .nili, (.int .i64 (.ofNat 0)), .nili, (.int .i64 (.ofNat 0)), .nili, (.int .i64 (.ofNat 0)), .nili, (.int .i64 (.ofNat 0)), .nili, (.int .i64 (.ofNat 0)), .nili, (.int .i64 (.ofNat 0)), .nili, (.int .i64 (.ofNat 0)), .nili, (.int .i64 (.ofNat 0)), .nili, (.int .i64 (.ofNat 0)), .nili, (.int .i64 (.ofNat 0)), .nili, (.int .i64 (.ofNat 0)), .nili, (.int .i64 (.ofNat 0)), .nili, (.int .i64 (.ofNat 0)), .nili, (.int .i64 (.ofNat 0)), .nili, (.int .i64 (.ofNat 0)), .nili, (.int .i64 (.ofNat 0)), .nili, (.int .i64 (.ofNat 0)), .nili, (.int .i64 (.ofNat 0)), .nili, (.int .i64 (.ofNat 0)), .nili, (.int .i64 (.ofNat 0)), .nili, (.int .i64 (.ofNat 0)), .nili, (.int .i64 (.ofNat 0)), .nili, (.int .i64 (.ofNat 0)), .nili, (.int .i64 (.ofNat 0)), .nili, (.int .i64 (.ofNat 0)), .nili, (.int .i64 (.ofNat 0)), .nili, (.int .i64 (.ofNat 0)), .nili, (.int .i64 (.ofNat 0)), .nili, (.int .i64 (.ofNat 0)), .nili, (.int .i64 (.ofNat 0)), .nili, (.int .i64 (.ofNat 0)), .nili, (.int .i64 (.ofNat 0)), .nili, (.int .i64 (.ofNat 0)), .nili, (.int .i64 (.ofNat 0)), .nili, (.int .i64 (.ofNat 0)), .nili, (.int .i64 (.ofNat 0)), .nili, (.int .i64 (.ofNat 0)), .nili, (.int .i64 (.ofNat 0)), .nili, (.int .i64 (.ofNat 0)), .nili, (.int .i64 (.ofNat 0)), .nili, (.int .i64 (.ofNat 0)), .nili, (.int .i64 (.ofNat 0)), .nili, (.int .i64 (.ofNat 0)), .nili, (.int .i64 (.ofNat 0)), .nili, (.int .i64 (.ofNat 0)), .nili, (.int .i64 (.ofNat 0)), .nili, (.int .i64 (.ofNat 0)), .nili, (.int .i64 (.ofNat 0)), .nili, (.int .i64 (.ofNat 0)), .nili, (.int .i64 (.ofNat 0)), .nili, (.int .i64 (.ofNat 0)), .nili, (.int .i64 (.ofNat 0)), .nili, (.int .i64 (.ofNat 0)), .nili, (.int .i64 (.ofNat 0)), .nili, (.int .i64 (.ofNat 0)), .nili, (.int .i64 (.ofNat 0)), .nili, (.int .i64 (.ofNat 0)), .nili, (.int .i64 (.ofNat 0)), .nili, (.int .i64 (.ofNat 0)), .nili, (.int .i64 (.ofNat 0)), .nili, (.int .i64 (.ofNat 0)), .nili, (.int .i64 (.ofNat 0)), .nili, (.int .i64 (.ofNat 0)), .nili, (.int .i64 (.ofNat 0)), .nili, (.int .i64 (.ofNat 0)), .nili, (.int .i64 (.ofNat 0)), .nili, (.int .i64 (.ofNat 0)), .nili, (.int .i64 (.ofNat 0)), .nili, (.int .i64 (.ofNat 0)), .nili, (.int .i64 (.ofNat 0)), .nili, (.int .i64 (.ofNat 0)), .nili, (.int .i64 (.ofNat 0)), .nili, (.int .i64 (.ofNat 0)), .nili, (.int .i64 (.ofNat 0)), .nili, (.int .i64 (.ofNat 0)), .nili, (.int .i64 (.ofNat 0)), .nili, (.int .i64 (.ofNat 0)), .nili, (.int .i64 (.ofNat 0)), .nili, (.int .i64 (.ofNat 0)), .nili, (.int .i64 (.ofNat 0)), .nili, (.int .i64 (.ofNat 0)), .nili, (.int .i64 (.ofNat 0)), .nili, (.int .i64 (.ofNat 0)), .nili, (.int .i64 (.ofNat 0)), .nili, (.int .i64 (.ofNat 0)), .nili, (.int .i64 (.ofNat 0)), .nili, (.int .i64 (.ofNat 0)), .nili, (.int .i64 (.ofNat 0)), .nili, (.int .i64 (.ofNat 0)), .nili, (.int .i64 (.ofNat 0)), .nili, (.int .i64 (.ofNat 0)), .nili, (.int .i64 (.ofNat 0)), .nili, (.int .i64 (.ofNat 0)), .nili, (.int .i64 (.ofNat 0)), .nili, (.int .i64 (.ofNat 0)), .nili, (.int .i64 (.ofNat 0)), .nili, (.int .i64 (.ofNat 0)), .nili, (.int .i64 (.ofNat 0)), .nili, (.int .i64 (.ofNat 0)), .nili, (.int .i64 (.ofNat 0)), .nili, (.int .i64 (.ofNat 0)), .nili, (.int .i64 (.ofNat 0)), .nili, (.int .i64 (.ofNat 0)), .nili, (.int .i64 (.ofNat 0)), .nili, (.int .i64 (.ofNat 0)), .nili, (.int .i64 (.ofNat 0)), .nili, (.int .i64 (.ofNat 0)), .nili, (.int .i64 (.ofNat 0)), .nili, (.int .i64 (.ofNat 0)), .nili, (.int .i64 (.ofNat 0)), .nili, (.int .i64 (.ofNat 0)), .nili, (.int .i64 (.ofNat 0)), .nili, (.int .i64 (.ofNat 0)), .nili, (.int .i64 (.ofNat 0)), .nili, (.int .i64 (.ofNat 0)), .nili, (.int .i64 (.ofNat 0)), .nili, (.int .i64 (.ofNat 0)), .nili, (.int .i64 (.ofNat 0)), .nili, (.int .i64 (.ofNat 0)), .nili, (.int .i64 (.ofNat 0)), .nili, (.int .i64 (.ofNat 0)), .nili, (.int .i64 (.ofNat 0)), .nili, (.int .i64 (.ofNat 0)), .nili, (.int .i64 (.ofNat 0)), .nili, (.int .i64 (.ofNat 0)), .nili, (.int .i64 (.ofNat 0)), .nili, (.int .i64 (.ofNat 0)), .nili, (.int .i64 (.ofNat 0)), .nili, (.int .i64 (.ofNat 0)), .nili, (.int .i64 (.ofNat 0)), .nili, (.int .i64 (.ofNat 0)), .nili, (.int .i64 (.ofNat 0)), .nili, (.int .i64 (.ofNat 0)), .nili, (.int .i64 (.ofNat 0)), .nili, (.int .i64 (.ofNat 0)), .nili, (.int .i64 (.ofNat 0)), .nili, (.int .i64 (.ofNat 0)), .nili, (.int .i64 (.ofNat 0)), .nili, (.int .i64 (.ofNat 0)), .nili, (.int .i64 (.ofNat 0)), .nili, (.int .i64 (.ofNat 0)), .nili, (.int .i64 (.ofNat 0)), .nili, (.int .i64 (.ofNat 0)), (.int .i64 (.ofNat 0))] []) fun x1 =>
  n_box x1 h fun x2 h3 =>
  vK (v_nilchk x2) fun x4 =>
  vK (v_fa 0 x4) fun x5 =>
  wK (callK E 65 [] h3) fun x6 h7 =>
  vK (v_bld [.nilp] [(0, 1, x6)]) fun x8 =>
  vK (v_iaA 256 2 x5 (.int .i64 (.ofNat 1))) fun x9 =>
  vK (v_fa 1 x9) fun x10 =>
  wK (dStF 1 x10 (.ifc 120 x8) h7) fun x11 h12 =>
  some (x2, h12)
def C21_0 : DC := (.seq (.reg [⟨(some p0), none, (.e (.mv (.c .nilp)))⟩]) (.seq (.reg [⟨(some p2), none, (.e (.bld [(.int .i64 (.ofNat 0)), .nili, (.int .i64 (.ofNat 0)), .nili, (.int .i64 (.ofNat 0)), .nili, (.int .i64 (.ofNat 0)), .nili, (.int .i64 (.ofNat 0)), .nili, (.int .i64 (.ofNat 0)), .nili, (.int .i64 (.ofNat 0)), .nili, (.int .i64 (.ofNat 0)), .nili, (.int .i64 (.ofNat 0)), .nili, (.int .i64 (.ofNat 0)), .nili, (.int .i64 (.ofNat 0)), .nili, (.int .i64 (.ofNat 0)), .nili, (.int .i64 (.ofNat 0)), .nili, (.int .i64 (.ofNat 0)), .nili, (.int .i64 (.ofNat 0)), .nili, (.int .i64 (.ofNat 0)), .nili, (.int .i64 (.ofNat 0)), .nili, (.int .i64 (.ofNat 0)), .nili, (.int .i64 (.ofNat 0)), .nili, (.int .i64 (.ofNat 0)), .nili, (.int .i64 (.ofNat 0)), .nili, (.int .i64 (.ofNat 0)), .nili, (.int .i64 (.ofNat 0)), .nili, (.int .i64 (.ofNat 0)), .nili, (.int .i64 (.ofNat 0)), .nili, (.int .i64 (.ofNat 0)), .nili, (.int .i64 (.ofNat 0)), .nili, (.int .i64 (.ofNat 0)), .nili, (.int .i64 (.ofNat 0)), .nili, (.int .i64 (.ofNat 0)), .nili, (.int .i64 (.ofNat 0)), .nili, (.int .i64 (.ofNat 0)), .nili, (.int .i64 (.ofNat 0)), .nili, (.int .i64 (.ofNat 0)), .nili, (.int .i64 (.ofNat 0)), .nili, (.int .i64 (.ofNat 0)), .nili, (.int .i64 (.ofNat 0)), .nili, (.int .i64 (.ofNat 0)), .nili, (.int .i64 (.ofNat 0)), .nili, (.int .i64 (.ofNat 0)), .nili, (.int .i64 (.ofNat 0)), .nili, (.int .i64 (.ofNat 0)), .nili, (.int .i64 (.ofNat 0)), .nili, (.int .i64 (.ofNat 0)), .nili, (.int .i64 (.ofNat 0)), .nili, (.int .i64 (.ofNat 0)), .nili, (.int .i64 (.ofNat 0)), .nili, (.int .i64 (.ofNat 0)), .nili, (.int .i64 (.ofNat 0)), .nili, (.int .i64 (.ofNat 0)), .nili, (.int .i64 (.ofNat 0)), .nili, (.int .i64 (.ofNat 0)), .nili, (.int .i64 (.ofNat 0)), .nili, (.int .i64 (.ofNat 0)), .nili, (.int .i64 (.ofNat 0)), .nili, (.int .i64 (.ofNat 0)), .nili, (.int .i64 (.ofNat 0)), .nili, (.int .i64 (.ofNat 0)), .nili, (.int .i64 (.ofNat 0)), .nili, (.int .i64 (.ofNat 0)), .nili, (.int .i64 (.ofNat 0)), .nili, (.int .i64 (.ofNat 0)), .nili, (.int .i64 (.ofNat 0)), .nili, (.int .i64 (.ofNat 0)), .nili, (.int .i64 (.ofNat 0)), .nili, (.int .i64 (.ofNat 0)), .nili, (.int .i64 (.ofNat 0)), .nili, (.int .i64 (.ofNat 0)), .nili, (.int .i64 (.ofNat 0)), .nili, (.int .i64 (.ofNat 0)), .nili, (.int .i64 (.ofNat 0)), .nili, (.int .i64 (.ofNat 0)), .nili, (.int .i64 (.ofNat 0)), .nili, (.int .i64 (.ofNat 0)), .nili, (.int .i64 (.ofNat 0)), .nili, (.int .i64 (.ofNat 0)), .nili, (.int .i64 (.ofNat 0)), .nili, (.int .i64 (.ofNat 0)), .nili, (.int .i64 (.ofNat 0)), .nili, (.int .i64 (.ofNat 0)), .nili, (.int .i64 (.ofNat 0)), .nili, (.int .i64 (.ofNat 0)), .nili, (.int .i64 (.ofNat 0)), .nili, (.int .i64 (.ofNat 0)), .nili, (.int .i64 (.ofNat 0)), .nili, (.int .i64 (.ofNat 0)), .nili, (.int .i64 (.ofNat 0)), .nili, (.int .i64 (.ofNat 0)), .nili, (.int .i64 (.ofNat 0)), .nili, (.int .i64 (.ofNat 0)), .nili, (.int .i64 (.ofNat 0)), .nili, (.int .i64 (.ofNat 0)), .nili, (.int .i64 (.ofNat 0)), .nili, (.int .i64 (.ofNat 0)), .nili, (.int .i64 (.ofNat 0)), .nili, (.int .i64 (.ofNat 0)), .nili, (.int .i64 (.ofNat 0)), .nili, (.int .i64 (.ofNat 0)), .nili, (.int .i64 (.ofNat 0)), .nili, (.int .i64 (.ofNat 0)), .nili, (.int .i64 (.ofNat 0)), .nili, (.int .i64 (.ofNat 0)), .nili, (.int .i64 (.ofNat 0)), .nili, (.int .i64 (.ofNat 0)), .nili, (.int .i64 (.ofNat 0)), .nili, (.int .i64 (.ofNat 0)), .nili, (.int .i64 (.ofNat 0)), .nili, (.int .i64 (.ofNat 0)), .nili, (.int .i64 (.ofNat 0)), .nili, (.int .i64 (.ofNat 0)), .nili, (.int .i64 (.ofNat 0)), .nili, (.int .i64 (.ofNat 0)), .nili, (.int .i64 (.ofNat 0)), .nili, (.int .i64 (.ofNat 0)), .nili, (.int .i64 (.ofNat 0)), .nili, (.int .i64 (.ofNat 0)), .nili, (.int .i64 (.ofNat 0)), .nili, (.int .i64 (.ofNat 0)), .nili, (.int .i64 (.ofNat 0)), .nili, (.int .i64 (.ofNat 0)), .nili, (.int .i64 (.ofNat 0)), .nili, (.int .i64 (.ofNat 0)), .nili, (.int .i64 (.ofNat 0)), .nili, (.int .i64 (.ofNat 0)), .nili, (.int .i64 (.ofNat 0)), .nili, (.int .i64 (.ofNat 0)), .nili, (.int .i64 (.ofNat 0)), .nili, (.int .i64 (.ofNat 0)), .nili, (.int .i64 (.ofNat 0)), .nili, (.int .i64 (.ofNat 0)), .nili, (.int .i64 (.ofNat 0)), .nili, (.int .i64 (.ofNat 0)), .nili, (.int .i64 (.ofNat 0)), .nili, (.int .i64 (.ofNat 0)), .nili, (.int .i64 (.ofNat 0)), .nili, (.int .i64 (.ofNat 0)), .nili, (.int .i64 (.ofNat 0)), .nili, (.int .i64 (.ofNat 0)), .nili, (.int .i64 (.ofNat 0)), .nili, (.int .i64 (.ofNat 0)), .nili, (.int .i64 (.ofNat 0)), .nili, (.int .i64 (.ofNat 0)), .nili, (.int .i64 (.ofNat 0)), .nili, (.int .i64 (.ofNat 0)), .nili, (.int .i64 (.ofNat 0)), .nili, (.int .i64 (.ofNat 0)), .nili, (.int .i64 (.ofNat 0)), .nili, (.int .i64 (.ofNat 0)), .nili, (.int .i64 (.ofNat 0)), .nili, (.int .i64 (.ofNat 0)), .nili, (.int .i64 (.ofNat 0)), .nili, (.int .i64 (.ofNat 0)), .nili, (.int .i64 (.ofNat 0)), .nili, (.int .i64 (.ofNat 0)), .nili, (.int .i64 (.ofNat 0)), .nili, (.int .i64 (.ofNat 0)), .nili, (.int .i64 (.ofNat 0)), .nili, (.int .i64 (.ofNat 0)), .nili, (.int .i64 (.ofNat 0)), .nili, (.int .i64 (.ofNat 0)), .nili, (.int .i64 (.ofNat 0)), .nili, (.int .i64 (.ofNat 0)), .nili, (.int .i64 (.ofNat 0)), .nili, (.int .i64 (.ofNat 0)), .nili, (.int .i64 (.ofNat 0)), .nili, (.int .i64 (.ofNat 0)), .nili, (.int .i64 (.ofNat 0)), .nili, (.int .i64 (.ofNat 0)), .nili, (.int .i64 (.ofNat 0)), .nili, (.int .i64 (.ofNat 0)), .nili, (.int .i64 (.ofNat 0)), .nili, (.int .i64 (.ofNat 0)), .nili, (.int .i64 (.ofNat 0)), .nili, (.int .i64 (.ofNat 0)), .nili, (.int .i64 (.ofNat 0)), .nili, (.int .i64 (.ofNat 0)), .nili, (.int .i64 (.ofNat 0)), .nili, (.int .i64 (.ofNat 0)), .nili, (.int .i64 (.ofNat 0)), .nili, (.int .i64 (.ofNat 0)), .nili, (.int .i64 (.ofNat 0)), .nili, (.int .i64 (.ofNat 0)), .nili, (.int .i64 (.ofNat 0)), .nili, (.int .i64 (.ofNat 0)), .nili, (.int .i64 (.ofNat 0)), .nili, (.int .i64 (.ofNat 0)), .nili, (.int .i64 (.ofNat 0)), .nili, (.int .i64 (.ofNat 0)), .nili, (.int .i64 (.ofNat 0)), .nili, (.int .i64 (.ofNat 0)), .nili, (.int .i64 (.ofNat 0)), .nili, (.int .i64 (.ofNat 0)), .nili, (.int .i64 (.ofNat 0)), .nili, (.int .i64 (.ofNat 0)), .nili, (.int .i64 (.ofNat 0)), .nili, (.int .i64 (.ofNat 0)), .nili, (.int .i64 (.ofNat 0)), .nili, (.int .i64 (.ofNat 0)), .nili, (.int .i64 (.ofNat 0)), .nili, (.int .i64 (.ofNat 0)), .nili, (.int .i64 (.ofNat 0)), .nili, (.int .i64 (.ofNat 0)), .nili, (.int .i64 (.ofNat 0)), .nili, (.int .i64 (.ofNat 0)), .nili, (.int .i64 (.ofNat 0)), .nili, (.int .i64 (.ofNat 0)), .nili, (.int .i64 (.ofNat 0)), .nili, (.int .i64 (.ofNat 0)), .nili, (.int .i64 (.ofNat 0)), .nili, (.int .i64 (.ofNat 0)), .nili, (.int .i64 (.ofNat 0)), .nili, (.int .i64 (.ofNat 0)), .nili, (.int .i64 (.ofNat 0)), .nili, (.int .i64 (.ofNat 0)), .nili, (.int .i64 (.ofNat 0)), .nili, (.int .i64 (.ofNat 0)), .nili, (.int .i64 (.ofNat 0)), .nili, (.int .i64 (.ofNat 0)), .nili, (.int .i64 (.ofNat 0)), .nili, (.int .i64 (.ofNat 0)), .nili, (.int .i64 (.ofNat 0)), .nili, (.int .i64 (.ofNat 0)), .nili, (.int .i64 (.ofNat 0)), .nili, (.int .i64 (.ofNat 0)), .nili, (.int .i64 (.ofNat 0)), .nili, (.int .i64 (.ofNat 0)), .nili, (.int .i64 (.ofNat 0)), .nili, (.int .i64 (.ofNat 0)), .nili, (.int .i64 (.ofNat 0)), .nili, (.int .i64 (.ofNat 0)), .nili, (.int .i64 (.ofNat 0)), .nili, (.int .i64 (.ofNat 0)), .nili, (.int .i64 (.ofNat 0)), .nili, (.int .i64 (.ofNat 0)), .nili, (.int .i64 (.ofNat 0)), .nili, (.int .i64 (.ofNat 0)), .nili, (.int .i64 (.ofNat 0)), .nili, (.int .i64 (.ofNat 0)), .nili, (.int .i64 (.ofNat 0)), .nili, (.int .i64 (.ofNat 0)), .nili, (.int .i64 (.ofNat 0)), .nili, (.int .i64 (.ofNat 0)), .nili, (.int .i64 (.ofNat 0)), .nili, (.int .i64 (.ofNat 0)), .nili, (.int .i64 (.ofNat 0)), .nili, (.int .i64 (.ofNat 0)), .nili, (.int .i64 (.ofNat 0)), .nili, (.int .i64 (.ofNat 0)), .nili, (.int .i64 (.ofNat 0)), .nili, (.int .i64 (.ofNat 0)), .nili, (.int .i64 (.ofNat 0)), .nili, (.int .i64 (.ofNat 0)), .nili, (.int .i64 (.ofNat 0)), .nili, (.int .i64 (.ofNat 0)), .nili, (.int .i64 (.ofNat 0)), .nili, (.int .i64 (.ofNat 0)), .nili, (.int .i64 (.ofNat 0)), (.int .i64 (.ofNat 0))] []))⟩, ⟨(some p3), none, (.e (.box (.r p2)))⟩, ⟨(some p1), none, (.e (.mv (.r p3)))⟩]) (.seq (.drg [⟨0, ⟨(some p4), none, (.e (.mv (.r p1)))⟩, [], false⟩, ⟨4, ⟨(some p8), none, (.e (.nilchk (.r p4)))⟩, [], false⟩, ⟨5, ⟨(some p9), none, (.e (.fa 0 (.r p8)))⟩, [], false⟩, ⟨1, ⟨(some p5), none, (.c (.f 65 []))⟩, [], false⟩, ⟨2, ⟨(some p6), none, (.e (.bld [.nilp] [(0, 1, (.r p5))]))⟩, [], false⟩, ⟨3, ⟨(some p7), none, (.e (.mkI 120 (.r p6)))⟩, [], false⟩, ⟨6, ⟨(some p10), none, (.e (.iaA 256 2 (.r p9) (.c (.int .i64 (.ofNat 1)))))⟩, [], false⟩, ⟨7, ⟨(some p11), none, (.e (.fa 1 (.r p10)))⟩, [], false⟩, ⟨8, ⟨none, none, (.w (.st 1 (.r p11) (.r p7)))⟩, [], false⟩]) (.seq (.reg [⟨(some p12), none, (.e (.mv (.r p1)))⟩, ⟨(some p0), none, (.e (.mv (.r p12)))⟩]) .ret))))
theorem I21_0 (E : Env) : Is E C21_0 (retK3 R21) (fun σ h => J21_0 E h) :=
  fun σ h => by kernel_rfl
def D21 : DF := ⟨0, 13, C21_0, R21⟩
noncomputable def S21 (E : Env) : Fun := fun args h => a0 args (J21_0 E h)
theorem S21_eq (E : Env) (args : List DV) (h : H) : runFn E D21 args h = S21 E args h :=
  Is.fn0 (d := D21) (I21_0 E) rfl (fun h => J21_0 E h) (fun h => by kernel_rfl) args h
/- hurdle/deltas.Replay -/
def R26 : List RV := [(.r p2), (.r p3)]
noncomputable def J26_1 (E : Env) (r4 r5 : DV) (h : H) : Ans :=
  some ((.tup [r4, r5]), h)
def C26_1 : DC := (.seq (.reg [⟨(some p29), none, (.e (.mv (.r p4)))⟩, ⟨(some p30), none, (.e (.mv (.r p5)))⟩, ⟨(some p2), none, (.e (.mv (.r p29)))⟩, ⟨(some p3), none, (.e (.mv (.r p30)))⟩]) .ret)
noncomputable def B26_2 (E : Env) (r4 r5 r12 r13 : DV) (i2 : DV → H → Ans) (r14 : DV) (h : H) : Ans :=
  vK (v_lss r14 r13) fun x1 =>
  bK x1
  (vK (v_iaS 6 r12 r14) fun x2 =>
  vK (v_ldN 6 h.get x2) fun x3 =>
  n_alc 6 6 (.list [(.int .i64 (.ofNat 0)), (.int .i64 (.ofNat 0)), (.int .i64 (.ofNat 0)), (.str []), (.str []), (.str [])]) h fun x4 h5 =>
  wK (dStF 6 x4 x3 h5) fun x6 h7 =>
  vK (v_ldN 6 h7.get x4) fun x8 =>
  wK (callK E 19 [r4, x8] h7) fun x9 h10 =>
  vK (v_ext 0 x9) fun x11 =>
  vK (v_ext 1 x9) fun x12 =>
  vK (v_iaS 1 r5 r14) fun x13 =>
  wK (dStF 1 x13 x11 h10) fun x14 h15 =>
  vK (v_add r14 (.int .i64 (.ofNat 1))) fun x16 =>
  i2 x16 h15)
  (J26_1 E r4 r5 h)
noncomputable def L26_2 (E : Env) (r4 r5 r12 r13 : DV) (n : Nat) : DV → H → Ans := Nat.rec (motive := fun _ => DV → H → Ans) (fun _ _ => none) (fun _ i => B26_2 E r4 r5 r12 r13 i) n
def C26_2 : DC := (.loop (.seq (.reg [⟨(some p15), none, (.e (.bin .lss (.r p14) (.r p13)))⟩]) (.seq (.cond (.r p15) .skip (.exit 0)) (.seq (.block 1 (.seq (.reg [⟨(some p16), none, (.e (.mv (.r p14)))⟩, ⟨(some p17), none, (.e (.iaS 6 (.r p12) (.r p14)))⟩, ⟨(some p18), none, (.e (.ldN 6 (.r p17)))⟩, ⟨(some p7), none, (.e (.alc 6 6 (.list [(.int .i64 (.ofNat 0)), (.int .i64 (.ofNat 0)), (.int .i64 (.ofNat 0)), (.str []), (.str []), (.str [])])))⟩, ⟨(some p6), none, (.e (.mv (.r p16)))⟩, ⟨none, none, (.w (.st 6 (.r p7) (.r p18)))⟩]) (.reg [⟨(some p20), none, (.e (.mv (.r p5)))⟩, ⟨(some p21), none, (.e (.mv (.r p6)))⟩, ⟨(some p22), none, (.e (.mv (.r p4)))⟩, ⟨(some p23), none, (.e (.ldN 6 (.r p7)))⟩, ⟨(some p24), none, (.c (.f 19 [(.r p22), (.r p23)]))⟩, ⟨(some p19), none, (.e (.mv (.r p24)))⟩, ⟨(some p25), none, (.e (.ext 0 (.r p19)))⟩, ⟨(some p26), none, (.e (.ext 1 (.r p19)))⟩, ⟨(some p27), none, (.e (.iaS 1 (.r p20) (.r p21)))⟩, ⟨none, none, (.w (.st 1 (.r p27) (.r p25)))⟩]))) (.reg [⟨(some p28), none, (.e (.bin .add (.r p14) (.c (.int .i64 (.ofNat 1)))))⟩, ⟨(some p14), none, (.e (.mv (.r p28)))⟩])))))
noncomputable def J26_0 (E : Env) (r0 : DV) (h : H) : Ans :=
  wK (callK E 21 [] h) fun x1 h2 =>
  vK (v_lenL r0) fun x3 =>
  n_mks 1 8 (.int .i64 (.ofNat 0)) x3 x3 h2 fun x4 h5 =>
  vK (v_lenL r0) fun x6 =>
  L26_2 E x1 x4 r0 x6 FUEL (.int .i64 (.ofNat 0)) h5
def C26_0 : DC := (.seq (.reg [⟨(some p2), none, (.e (.mv (.c .nilp)))⟩, ⟨(some p3), none, (.e (.mv (.c .nils)))⟩]) (.seq (.reg [⟨(some p8), none, (.c (.f 21 []))⟩, ⟨(some p4), none, (.e (.mv (.r p8)))⟩]) (.seq (.reg [⟨(some p9), none, (.e (.mv (.r p0)))⟩, ⟨(some p10), none, (.e (.lenL (.r p9)))⟩, ⟨(some p11), none, (.e (.mks 1 8 (.int .i64 (.ofNat 0)) (.r p10) (.r p10)))⟩, ⟨(some p5), none, (.e (.mv (.r p11)))⟩]) (.seq (.seq (.reg [⟨(some p12), none, (.e (.mv (.r p0)))⟩, ⟨(some p13), none, (.e (.lenL (.r p12)))⟩, ⟨(some p14), none, (.e (.mv (.c (.int .i64 (.ofNat 0)))))⟩]) (.block 0 C26_2)) C26_1))))
theorem I26_1 (E : Env) : Is E C26_1 (retK3 R26) (fun σ h => J26_1 E (σ p4) (σ p5) h) :=
  fun σ h => by kernel_rfl
noncomputable abbrev K26_3 (E : Env) : KT2 (DV × H) := (thenK3 (fun σ h => J26_1 E (σ p4) (σ p5) h) (retK3 R26))
theorem I26_2 (E : Env) : Is E C26_2 (blockK3 0 (K26_3 E)) (fun σ h => L26_2 E (σ p4) (σ p5) (σ p12) (σ p13) FUEL (σ p14) h) :=
  Is.loop (fun n2 σ h => L26_2 E (σ p4) (σ p5) (σ p12) (σ p13) n2 (σ p14) h) (by kernel_rfl) fun n2 => Is.as (Is.leaf _) fun σ h => by kernel_rfl
theorem I26_0 (E : Env) : Is E C26_0 (retK3 R26) (fun σ h => J26_0 E (σ p0) h) :=
  Is.as (Is.seq (Is.seq (Is.seq (Is.seq (I26_1 E) (Is.seq (Is.block (I26_2 E)) (Is.leaf _))) (Is.leaf _)) (Is.leaf _)) (Is.leaf _)) fun σ h => by kernel_rfl
def D26 : DF := ⟨1, 31, C26_0, R26⟩
noncomputable def S26 (E : Env) : Fun := fun args h => aS args fun r0 args => a0 args (J26_0 E r0 h)
theorem S26_eq (E : Env) (args : List DV) (h : H) : runFn E D26 args h = S26 E args h :=
  Is.fn1 (d := D26) (I26_0 E) rfl (fun r0 h => J26_0 E r0 h) (fun r0 h => by kernel_rfl) args h
/- (*hurdle/tree.Tree).Read -/
def R33 : List RV := [(.r p8), (.r p9)]
noncomputable def J33_0 (E : Env) (r0 r1 r2 r3 : DV) (h : H) : Ans :=
  wK (callK E 83 [r0, r1] h) fun x1 h2 =>
  vK (v_ext 0 x1) fun x3 =>
  vK (v_ext 1 x1) fun x4 =>
  vK (v_neq x4 (.int .i64 (.ofNat 0))) fun x5 =>
  bK x5
  (some ((.tup [(.str []), x4]), h2))
  (wK (callK E 84 [x3, r2, r3] h2) fun x6 h7 =>
  vK (v_ext 0 x6) fun x8 =>
  vK (v_ext 1 x6) fun x9 =>
  some ((.tup [x8, x9]), h7))
def C33_0 : DC := (.seq (.reg [⟨(some p8), none, (.e (.mv (.c (.str []))))⟩, ⟨(some p9), none, (.e (.mv (.c (.int .i64 (.ofNat 0)))))⟩]) (.seq (.reg [⟨(some p13), none, (.e (.mv (.r p0)))⟩, ⟨(some p14), none, (.e (.mv (.r p1)))⟩, ⟨(some p15), none, (.c (.f 83 [(.r p13), (.r p14)]))⟩, ⟨(some p12), none, (.e (.mv (.r p15)))⟩, ⟨(some p16), none, (.e (.ext 0 (.r p12)))⟩, ⟨(some p17), none, (.e (.ext 1 (.r p12)))⟩, ⟨(some p10), none, (.e (.mv (.r p16)))⟩, ⟨(some p11), none, (.e (.mv (.r p17)))⟩]) (.seq (.seq (.reg [⟨(some p18), none, (.e (.mv (.r p11)))⟩, ⟨(some p19), none, (.e (.bin .neq (.r p18) (.c (.int .i64 (.ofNat 0)))))⟩]) (.cond (.r p19) (.seq (.reg [⟨(some p20), none, (.e (.mv (.r p11)))⟩, ⟨(some p8), none, (.e (.mv (.c (.str []))))⟩, ⟨(some p9), none, (.e (.mv (.r p20)))⟩]) .ret) .skip)) (.seq (.reg [⟨(some p21), none, (.e (.mv (.r p10)))⟩, ⟨(some p22), none, (.e (.mv (.r p2)))⟩, ⟨(some p23), none, (.e (.mv (.r p3)))⟩, ⟨(some p24), none, (.c (.f 84 [(.r p21), (.r p22), (.r p23)]))⟩, ⟨(some p25), none, (.e (.ext 0 (.r p24)))⟩, ⟨(some p26), none, (.e (.ext 1 (.r p24)))⟩, ⟨(some p8), none, (.e (.mv (.r p25)))⟩, ⟨(some p9), none, (.e (.mv (.r p26)))⟩]) .ret))))
theorem I33_0 (E : Env) : Is E C33_0 (retK3 R33) (fun σ h => J33_0 E (σ p0) (σ p1) (σ p2) (σ p3) h) :=
  fun σ h => by kernel_rfl
def D33 : DF := ⟨4, 27, C33_0, R33⟩
noncomputable def S33 (E : Env) : Fun := fun args h => aS args fun r0 args => aS args fun r1 args => aS args fun r2 args => aS args fun r3 args => a0 args (J33_0 E r0 r1 r2 r3 h)
theorem S33_eq (E : Env) (args : List DV) (h : H) : runFn E D33 args h = S33 E args h :=
  Is.fn4 (d := D33) (I33_0 E) rfl (fun r0 r1 r2 r3 h => J33_0 E r0 r1 r2 r3 h) (fun r0 r1 r2 r3 h => by kernel_rfl) args h
/- (*hurdle/tree.Tree).Stat -/
def R34 : List RV := [(.cells p4 5), (.r p5)]
noncomputable def J34_1 (E : Env) (r4 r9 : DV) (h : H) : Ans :=
  vK (v_ldN 5 h.get r9) fun x1 =>
  wK (dStF 5 r4 x1 h) fun x2 h3 =>
  vK (v_ldN 5 h3.get r4) fun x4 =>
  some ((.tup [x4, (.int .i64 (.ofNat 0))]), h3)
def C34_1 : DC := (.seq (.reg [⟨(some p47), none, (.e (.ldN 5 (.r p9)))⟩, ⟨none, none, (.w (.st 5 (.r p4) (.r p47)))⟩, ⟨(some p5), none, (.e (.mv (.c (.int .i64 (.ofNat 0)))))⟩]) .ret)
noncomputable def J34_0 (E : Env) (r0 r1 : DV) (h : H) : Ans :=
  n_alc 5 5 (.list [(.int .i64 (.ofNat 0)), (.int .i64 (.ofNat 0)), (.int .i64 (.ofNat 0)), (.int .i64 (.ofNat 0)), (.int .i64 (.ofNat 0))]) h fun x1 h2 =>
  wK (callK E 85 [r0, r1] h2) fun x3 h4 =>
  vK (v_ext 0 x3) fun x5 =>
  vK (v_ext 1 x3) fun x6 =>
  vK (v_neq x6 (.int .i64 (.ofNat 0))) fun x7 =>
  bK x7
  (vK (v_bld [(.int .i64 (.ofNat 0)), (.int .i64 (.ofNat 0)), (.int .i64 (.ofNat 0)), (.int .i64 (.ofNat 0)), (.int .i64 (.ofNat 0))] []) fun x8 =>
  wK (dStF 5 x1 x8 h4) fun x9 h10 =>
  vK (v_ldN 5 h10.get x1) fun x11 =>
  some ((.tup [x11, x6]), h10))
  (vK (v_nilchk r0) fun x12 =>
  vK (v_fa 0 x12) fun x13 =>
  vK (v_iaA 256 2 x13 x5) fun x14 =>
  vK (v_ldN 2 h4.get x14) fun x15 =>
  n_alc 2 2 (.list [(.int .i64 (.ofNat 0)), .nili]) h4 fun x16 h17 =>
  wK (dStF 2 x16 x15 h17) fun x18 h19 =>
  vK (v_fa 0 x16) fun x20 =>
  vK (v_ld h19.get x20) fun x21 =>
  vK (v_fa 1 x16) fun x22 =>
  vK (v_ld h19.get x22) fun x23 =>
  vK (v_fa 1 x16) fun x24 =>
  vK (v_ld h19.get x24) fun x25 =>
  n_alc 5 5 (.list [(.int .i64 (.ofNat 0)), (.int .i64 (.ofNat 0)), (.int .i64 (.ofNat 0)), (.int .i64 (.ofNat 0)), (.int .i64 (.ofNat 0))]) h19 fun x26 h27 =>
  wK (c_mth E [(120, 217), (141, 221)] x23 [] h27) fun x28 h29 =>
  rK (rcK (v_ld h29.get x24) x25) <|
  rK (rcK (v_ld h29.get x20) x21) <|
  wK (c_mth E [(120, 218), (141, 222)] x25 [] h29) fun x30 h31 =>
  rK (rcK (v_ld h31.get x20) x21) <|
  vK (v_bld [(.int .i64 (.ofNat 0)), (.int .i64 (.ofNat 0)), (.int .i64 (.ofNat 0)), (.int .i64 (.ofNat 0)), (.int .i64 (.ofNat 0))] [(0, 1, x5), (1, 1, x21), (2, 1, x28), (3, 1, x30), (4, 1, (.int .i64 (.ofNat 1)))]) fun x32 =>
  wK (dStF 5 x26 x32 h31) fun x33 h34 =>
  wK (callK E 86 [r0, x5] h34) fun x35 h36 =>
  vK (v_eqv .ptr true h36.get x35 .nilp) fun x37 =>
  bK x37
  (vK (v_nilchk x35) fun x38 =>
  vK (v_fa 1 x38) fun x39 =>
  vK (v_ld h36.get x39) fun x40 =>
  vK (v_fa 4 x26) fun x41 =>
  wK (dStF 1 x41 x40 h36) fun x42 h43 =>
  J34_1 E x1 x26 h43)
  (J34_1 E x1 x26 h36))
def C34_0 : DC := (.seq (.reg [⟨(some p4), none, (.e (.alc 5 5 (.list [(.int .i64 (.ofNat 0)), (.int .i64 (.ofNat 0)), (.int .i64 (.ofNat 0)), (.int .i64 (.ofNat 0)), (.int .i64 (.ofNat 0))])))⟩, ⟨(some p5), none, (.e (.mv (.c (.int .i64 (.ofNat 0)))))⟩]) (.seq (.reg [⟨(some p12), none, (.e (.mv (.r p0)))⟩, ⟨(some p13), none, (.e (.mv (.r p1)))⟩, ⟨(some p14), none, (.c (.f 85 [(.r p12), (.r p13)]))⟩, ⟨(some p11), none, (.e (.mv (.r p14)))⟩, ⟨(some p15), none, (.e (.ext 0 (.r p11)))⟩, ⟨(some p16), none, (.e (.ext 1 (.r p11)))⟩, ⟨(some p6), none, (.e (.mv (.r p15)))⟩, ⟨(some p7), none, (.e (.mv (.r p16)))⟩]) (.seq (.seq (.reg [⟨(some p17), none, (.e (.mv (.r p7)))⟩, ⟨(some p18), none, (.e (.bin .neq (.r p17) (.c (.int .i64 (.ofNat 0)))))⟩]) (.cond (.r p18) (.seq (.reg [⟨(some p19), none, (.e (.bld [(.int .i64 (.ofNat 0)), (.int .i64 (.ofNat 0)), (.int .i64 (.ofNat 0)), (.int .i64 (.ofNat 0)), (.int .i64 (.ofNat 0))] []))⟩, ⟨(some p20), none, (.e (.mv (.r p7)))⟩, ⟨none, none, (.w (.st 5 (.r p4) (.r p19)))⟩, ⟨(some p5), none, (.e (.mv (.r p20)))⟩]) .ret) .skip)) (.seq (.reg [⟨(some p21), none, (.e (.mv (.r p0)))⟩, ⟨(some p22), none, (.e (.mv (.r p6)))⟩, ⟨(some p23), none, (.e (.nilchk (.r p21)))⟩, ⟨(some p24), none, (.e (.fa 0 (.r p23)))⟩, ⟨(some p25), none, (.e (.iaA 256 2 (.r p24) (.r p22)))⟩, ⟨(some p26), none, (.e (.ldN 2 (.r p25)))⟩, ⟨(some p8), none, (.e (.alc 2 2 (.list [(.int .i64 (.ofNat 0)), .nili])))⟩, ⟨none, none, (.w (.st 2 (.r p8) (.r p26)))⟩]) (.seq (.drg [⟨0, ⟨(some p27), none, (.e (.mv (.r p6)))⟩, [], false⟩, ⟨1, ⟨(some p28), none, (.e (.fa 0 (.r p8)))⟩, [], false⟩, ⟨2, ⟨(some p29), none, (.e (.ld (.r p28)))⟩, [], false⟩, ⟨3, ⟨(some p30), none, (.e (.fa 1 (.r p8)))⟩, [], false⟩, ⟨4, ⟨(some p31), none, (.e (.ld (.r p30)))⟩, [], false⟩, ⟨6, ⟨(some p33), none, (.e (.fa 1 (.r p8)))⟩, [], false⟩, ⟨7, ⟨(some p34), none, (.e (.ld (.r p33)))⟩, [], false⟩, ⟨10, ⟨(some p9), none, (.e (.alc 5 5 (.list [(.int .i64 (.ofNat 0)), (.int .i64 (.ofNat 0)), (.int .i64 (.ofNat 0)), (.int .i64 (.ofNat 0)), (.int .i64 (.ofNat 0))])))⟩, [], false⟩, ⟨5, ⟨(some p32), none, (.c (.m [(120, 217), (141, 221)] (.r p31) []))⟩, [7, 2], false⟩, ⟨8, ⟨(some p35), none, (.c (.m [(120, 218), (141, 222)] (.r p34) []))⟩, [2], false⟩, ⟨9, ⟨(some p36), none, (.e (.bld [(.int .i64 (.ofNat 0)), (.int .i64 (.ofNat 0)), (.int .i64 (.ofNat 0)), (.int .i64 (.ofNat 0)), (.int .i64 (.ofNat 0))] [(0, 1, (.r p27)), (1, 1, (.r p29)), (2, 1, (.r p32)), (3, 1, (.r p35)), (4, 1, (.c (.int .i64 (.ofNat 1))))]))⟩, [], false⟩, ⟨11, ⟨none, none, (.w (.st 5 (.r p9) (.r p36)))⟩, [], false⟩]) (.seq (.seq (.reg [⟨(some p37), none, (.e (.mv (.r p0)))⟩, ⟨(some p38), none, (.e (.mv (.r p6)))⟩, ⟨(some p39), none, (.c (.f 86 [(.r p37), (.r p38)]))⟩, ⟨(some p10), none, (.e (.mv (.r p39)))⟩]) (.seq (.reg [⟨(some p40), none, (.e (.mv (.r p10)))⟩, ⟨(some p41), none, (.e (.eqv .ptr true (.r p40) (.c .nilp)))⟩]) (.cond (.r p41) (.reg [⟨(some p42), none, (.e (.mv (.r p10)))⟩, ⟨(some p43), none, (.e (.nilchk (.r p42)))⟩, ⟨(some p44), none, (.e (.fa 1 (.r p43)))⟩, ⟨(some p45), none, (.e (.ld (.r p44)))⟩, ⟨(some p46), none, (.e (.fa 4 (.r p9)))⟩, ⟨none, none, (.w (.st 1 (.r p46) (.r p45)))⟩]) .skip))) C34_1))))))
theorem I34_1 (E : Env) : Is E C34_1 (retK3 R34) (fun σ h => J34_1 E (σ p4) (σ p9) h) :=
  fun σ h => by kernel_rfl
theorem I34_0 (E : Env) : Is E C34_0 (retK3 R34) (fun σ h => J34_0 E (σ p0) (σ p1) h) :=
  Is.as (Is.seq (Is.seq (Is.seq (Is.seq (Is.seq (Is.seq (I34_1 E) (Is.leaf _)) (Is.leaf _)) (Is.leaf _)) (Is.leaf _)) (Is.leaf _)) (Is.leaf _)) fun σ h => by kernel_rfl
def D34 : DF := ⟨2, 48, C34_0, R34⟩
noncomputable def S34 (E : Env) : Fun := fun args h => aS args fun r0 args => aS args fun r1 args => a0 args (J34_0 E r0 r1 h)
theorem S34_eq (E : Env) (args : List DV) (h : H) : runFn E D34 args h = S34 E args h :=
  Is.fn2 (d := D34) (I34_0 E) rfl (fun r0 r1 h => J34_0 E r0 r1 h) (fun r0 r1 h => by kernel_rfl) args h
/- (*hurdle/tree.Tree).List -/
def R35 : List RV := [(.r p4), (.r p5)]
noncomputable def J35_0 (E : Env) (r0 r1 : DV) (h : H) : Ans :=
  wK (callK E 85 [r0, r1] h) fun x1 h2 =>
  vK (v_ext 0 x1) fun x3 =>
  vK (v_ext 1 x1) fun x4 =>
  vK (v_neq x4 (.int .i64 (.ofNat 0))) fun x5 =>
  bK x5
  (some ((.tup [.nils, x4]), h2))
  (wK (callK E 87 [r0, x3] h2) fun x6 h7 =>
  vK (v_eqv .ptr false h7.get x6 .nilp) fun x8 =>
  bK x8
  (some ((.tup [.nils, (.int .i64 (.ofNat 13))]), h7))
  (wK (callK E 88 [x6] h7) fun x9 h10 =>
  some ((.tup [x9, (.int .i64 (.ofNat 0))]), h10)))
def C35_0 : DC := (.seq (.reg [⟨(some p4), none, (.e (.mv (.c .nils)))⟩, ⟨(some p5), none, (.e (.mv (.c (.int .i64 (.ofNat 0)))))⟩]) (.seq (.reg [⟨(some p10), none, (.e (.mv (.r p0)))⟩, ⟨(some p11), none, (.e (.mv (.r p1)))⟩, ⟨(some p12), none, (.c (.f 85 [(.r p10), (.r p11)]))⟩, ⟨(some p9), none, (.e (.mv (.r p12)))⟩, ⟨(some p13), none, (.e (.ext 0 (.r p9)))⟩, ⟨(some p14), none, (.e (.ext 1 (.r p9)))⟩, ⟨(some p6), none, (.e (.mv (.r p13)))⟩, ⟨(some p7), none, (.e (.mv (.r p14)))⟩]) (.seq (.seq (.reg [⟨(some p15), none, (.e (.mv (.r p7)))⟩, ⟨(some p16), none, (.e (.bin .neq (.r p15) (.c (.int .i64 (.ofNat 0)))))⟩]) (.cond (.r p16) (.seq (.reg [⟨(some p17), none, (.e (.mv (.r p7)))⟩, ⟨(some p4), none, (.e (.mv (.c .nils)))⟩, ⟨(some p5), none, (.e (.mv (.r p17)))⟩]) .ret) .skip)) (.seq (.reg [⟨(some p18), none, (.e (.mv (.r p0)))⟩, ⟨(some p19), none, (.e (.mv (.r p6)))⟩, ⟨(some p20), none, (.c (.f 87 [(.r p18), (.r p19)]))⟩, ⟨(some p8), none, (.e (.mv (.r p20)))⟩]) (.seq (.seq (.reg [⟨(some p21), none, (.e (.mv (.r p8)))⟩, ⟨(some p22), none, (.e (.eqv .ptr false (.r p21) (.c .nilp)))⟩]) (.cond (.r p22) (.seq (.reg [⟨(some p4), none, (.e (.mv (.c .nils)))⟩, ⟨(some p5), none, (.e (.mv (.c (.int .i64 (.ofNat 13)))))⟩]) .ret) .skip)) (.seq (.reg [⟨(some p23), none, (.e (.mv (.r p8)))⟩, ⟨(some p24), none, (.c (.f 88 [(.r p23)]))⟩, ⟨(some p4), none, (.e (.mv (.r p24)))⟩, ⟨(some p5), none, (.e (.mv (.c (.int .i64 (.ofNat 0)))))⟩]) .ret))))))
theorem I35_0 (E : Env) : Is E C35_0 (retK3 R35) (fun σ h => J35_0 E (σ p0) (σ p1) h) :=
  fun σ h => by kernel_rfl
def D35 : DF := ⟨2, 25, C35_0, R35⟩
noncomputable def S35 (E : Env) : Fun := fun args h => aS args fun r0 args => aS args fun r1 args => a0 args (J35_0 E r0 r1 h)
theorem S35_eq (E : Env) (args : List DV) (h : H) : runFn E D35 args h = S35 E args h :=
  Is.fn2 (d := D35) (I35_0 E) rfl (fun r0 r1 h => J35_0 E r0 r1 h) (fun r0 r1 h => by kernel_rfl) args h
/- (*hurdle/tree.Tree).Mkdir -/
def R40 : List RV := [(.r p4)]
noncomputable def J40_0 (E : Env) (r0 r1 : DV) (h : H) : Ans :=
  wK (callK E 65 [] h) fun x1 h2 =>
  vK (v_bld [.nilp] [(0, 1, x1)]) fun x3 =>
  wK (callK E 94 [r0, r1, (.ifc 120 x3)] h2) fun x4 h5 =>
  some (x4, h5)
def C40_0 : DC := (.seq (.reg [⟨(some p4), none, (.e (.mv (.c (.int .i64 (.ofNat 0)))))⟩]) (.seq (.reg [⟨(some p5), none, (.e (.mv (.r p0)))⟩, ⟨(some p6), none, (.e (.mv (.r p1)))⟩, ⟨(some p7), none, (.c (.f 65 []))⟩, ⟨(some p8), none, (.e (.bld [.nilp] [(0, 1, (.r p7))]))⟩, ⟨(some p9), none, (.e (.mkI 120 (.r p8)))⟩, ⟨(some p10), none, (.c (.f 94 [(.r p5), (.r p6), (.r p9)]))⟩, ⟨(some p4), none, (.e (.mv (.r p10)))⟩]) .ret))
theorem I40_0 (E : Env) : Is E C40_0 (retK3 R40) (fun σ h => J40_0 E (σ p0) (σ p1) h) :=
  fun σ h => by kernel_rfl
def D40 : DF := ⟨2, 11, C40_0, R40⟩
noncomputable def S40 (E : Env) : Fun := fun args h => aS args fun r0 args => aS args fun r1 args => a0 args (J40_0 E r0 r1 h)
theorem S40_eq (E : Env) (args : List DV) (h : H) : runFn E D40 args h = S40 E args h :=
  Is.fn2 (d := D40) (I40_0 E) rfl (fun r0 r1 h => J40_0 E r0 r1 h) (fun r0 r1 h => by kernel_rfl) args h
/- (*hurdle/tree.Tree).Create -/
def R41 : List RV := [(.r p4)]
noncomputable def J41_0 (E : Env) (r0 r1 : DV) (h : H) : Ans :=
  vK (v_bld [(.str []), (.int .i64 (.ofNat 0))] [(1, 1, (.int .i64 (.ofNat 1)))]) fun x1 =>
  n_box x1 h fun x2 h3 =>
  wK (callK E 94 [r0, r1, (.ifc 141 x2)] h3) fun x4 h5 =>
  some (x4, h5)
def C41_0 : DC := (.seq (.reg [⟨(some p4), none, (.e (.mv (.c (.int .i64 (.ofNat 0)))))⟩]) (.seq (.reg [⟨(some p5), none, (.e (.mv (.r p0)))⟩, ⟨(some p6), none, (.e (.mv (.r p1)))⟩, ⟨(some p7), none, (.e (.bld [(.str []), (.int .i64 (.ofNat 0))] [(1, 1, (.c (.int .i64 (.ofNat 1))))]))⟩, ⟨(some p8), none, (.e (.box (.r p7)))⟩, ⟨(some p9), none, (.e (.mkI 141 (.r p8)))⟩, ⟨(some p10), none, (.c (.f 94 [(.r p5), (.r p6), (.r p9)]))⟩, ⟨(some p4), none, (.e (.mv (.r p10)))⟩]) .ret))
theorem I41_0 (E : Env) : Is E C41_0 (retK3 R41) (fun σ h => J41_0 E (σ p0) (σ p1) h) :=
  fun σ h => by kernel_rfl
def D41 : DF := ⟨2, 11, C41_0, R41⟩
noncomputable def S41 (E : Env) : Fun := fun args h => aS args fun r0 args => aS args fun r1 args => a0 args (J41_0 E r0 r1 h)
theorem S41_eq (E : Env) (args : List DV) (h : H) : runFn E D41 args h = S41 E args h :=
  Is.fn2 (d := D41) (I41_0 E) rfl (fun r0 r1 h => J41_0 E r0 r1 h) (fun r0 r1 h => by kernel_rfl) args h
/- (*hurdle/tree.Tree).Unlink -/
def R42 : List RV := [(.r p4)]
noncomputable def J42_1 (E : Env) (h : H) : Ans :=
  some ((.int .i64 (.ofNat 0)), h)
def C42_1 : DC := (.seq (.reg [⟨(some p4), none, (.e (.mv (.c (.int .i64 (.ofNat 0)))))⟩]) .ret)
noncomputable def J42_0 (E : Env) (r0 r1 : DV) (h : H) : Ans :=
  wK (callK E 85 [r0, r1] h) fun x1 h2 =>
  vK (v_ext 0 x1) fun x3 =>
  vK (v_ext 1 x1) fun x4 =>
  vK (v_neq x4 (.int .i64 (.ofNat 0))) fun x5 =>
  bK x5
  (some (x4, h2))
  (wK (callK E 86 [r0, x3] h2) fun x6 h7 =>
  vK (v_eqv .ptr false h7.get x6 .nilp) fun x8 =>
  bK x8
  (some ((.int .i64 (.ofNat 12)), h7))
  (wK (callK E 95 [r0, r1] h7) fun x9 h10 =>
  vK (v_ext 0 x9) fun x11 =>
  vK (v_ext 1 x9) fun x12 =>
  n_alc 2 2 (.list [.nilp, (.str [])]) h10 fun x13 h14 =>
  wK (dStF 2 x13 x11 h14) fun x15 h16 =>
  vK (v_fa 0 x13) fun x17 =>
  vK (v_ld h16.get x17) fun x18 =>
  vK (v_fa 1 x13) fun x19 =>
  vK (v_ld h16.get x19) fun x20 =>
  wK (callK E 96 [x18, x20] h16) fun x21 h22 =>
  vK (v_nilchk x6) fun x23 =>
  vK (v_fa 1 x23) fun x24 =>
  vK (v_ld h22.get x24) fun x25 =>
  vK (v_sub x25 (.int .i64 (.ofNat 1))) fun x26 =>
  vK (v_nilchk x6) fun x27 =>
  vK (v_fa 1 x27) fun x28 =>
  wK (dStF 1 x28 x26 h22) fun x29 h30 =>
  vK (v_nilchk x6) fun x31 =>
  vK (v_fa 1 x31) fun x32 =>
  vK (v_ld h30.get x32) fun x33 =>
  vK (v_eql x33 (.int .i64 (.ofNat 0))) fun x34 =>
  bK x34
  (vK (v_nilchk r0) fun x35 =>
  vK (v_fa 513 x35) fun x36 =>
  vK (v_ld h30.get x36) fun x37 =>
  vK (v_nilchk x6) fun x38 =>
  vK (v_fa 0 x38) fun x39 =>
  vK (v_ld h30.get x39) fun x40 =>
  vK (v_lenS x40) fun x41 =>
  vK (v_sub x37 x41) fun x42 =>
  vK (v_nilchk r0) fun x43 =>
  vK (v_fa 513 x43) fun x44 =>
  wK (dStF 1 x44 x42 h30) fun x45 h46 =>
  vK (v_bld [(.int .i64 (.ofNat 0)), .nili] []) fun x47 =>
  vK (v_nilchk r0) fun x48 =>
  vK (v_fa 0 x48) fun x49 =>
  vK (v_iaA 256 2 x49 x3) fun x50 =>
  wK (dStF 2 x50 x47 h46) fun x51 h52 =>
  J42_1 E h52)
  (J42_1 E h30)))
def C42_0 : DC := (.seq (.reg [⟨(some p4), none, (.e (.mv (.c (.int .i64 (.ofNat 0)))))⟩]) (.seq (.reg [⟨(some p11), none, (.e (.mv (.r p0)))⟩, ⟨(some p12), none, (.e (.mv (.r p1)))⟩, ⟨(some p13), none, (.c (.f 85 [(.r p11), (.r p12)]))⟩, ⟨(some p10), none, (.e (.mv (.r p13)))⟩, ⟨(some p14), none, (.e (.ext 0 (.r p10)))⟩, ⟨(some p15), none, (.e (.ext 1 (.r p10)))⟩, ⟨(some p5), none, (.e (.mv (.r p14)))⟩, ⟨(some p6), none, (.e (.mv (.r p15)))⟩]) (.seq (.seq (.reg [⟨(some p16), none, (.e (.mv (.r p6)))⟩, ⟨(some p17), none, (.e (.bin .neq (.r p16) (.c (.int .i64 (.ofNat 0)))))⟩]) (.cond (.r p17) (.seq (.reg [⟨(some p18), none, (.e (.mv (.r p6)))⟩, ⟨(some p4), none, (.e (.mv (.r p18)))⟩]) .ret) .skip)) (.seq (.reg [⟨(some p19), none, (.e (.mv (.r p0)))⟩, ⟨(some p20), none, (.e (.mv (.r p5)))⟩, ⟨(some p21), none, (.c (.f 86 [(.r p19), (.r p20)]))⟩, ⟨(some p7), none, (.e (.mv (.r p21)))⟩]) (.seq (.seq (.reg [⟨(some p22), none, (.e (.mv (.r p7)))⟩, ⟨(some p23), none, (.e (.eqv .ptr false (.r p22) (.c .nilp)))⟩]) (.cond (.r p23) (.seq (.reg [⟨(some p4), none, (.e (.mv (.c (.int .i64 (.ofNat 12)))))⟩]) .ret) .skip)) (.seq (.reg [⟨(some p25), none, (.e (.mv (.r p0)))⟩, ⟨(some p26), none, (.e (.mv (.r p1)))⟩, ⟨(some p27), none, (.c (.f 95 [(.r p25), (.r p26)]))⟩, ⟨(some p24), none, (.e (.mv (.r p27)))⟩, ⟨(some p28), none, (.e (.ext 0 (.r p24)))⟩, ⟨(some p29), none, (.e (.ext 1 (.r p24)))⟩, ⟨(some p8), none, (.e (.alc 2 2 (.list [.nilp, (.str [])])))⟩, ⟨none, none, (.w (.st 2 (.r p8) (.r p28)))⟩, ⟨(some p9), none, (.e (.mv (.r p29)))⟩]) (.seq (.reg [⟨(some p30), none, (.e (.fa 0 (.r p8)))⟩, ⟨(some p31), none, (.e (.ld (.r p30)))⟩, ⟨(some p32), none, (.e (.fa 1 (.r p8)))⟩, ⟨(some p33), none, (.e (.ld (.r p32)))⟩, ⟨(some p34), none, (.c (.f 96 [(.r p31), (.r p33)]))⟩]) (.seq (.seq (.reg [⟨(some p35), none, (.e (.mv (.r p7)))⟩, ⟨(some p36), none, (.e (.nilchk (.r p35)))⟩, ⟨(some p37), none, (.e (.fa 1 (.r p36)))⟩, ⟨(some p38), none, (.e (.ld (.r p37)))⟩, ⟨(some p39), none, (.e (.bin .sub (.r p38) (.c (.int .i64 (.ofNat 1)))))⟩, ⟨(some p40), none, (.e (.nilchk (.r p35)))⟩, ⟨(some p41), none, (.e (.fa 1 (.r p40)))⟩, ⟨none, none, (.w (.st 1 (.r p41) (.r p39)))⟩]) (.seq (.reg [⟨(some p42), none, (.e (.mv (.r p7)))⟩, ⟨(some p43), none, (.e (.nilchk (.r p42)))⟩, ⟨(some p44), none, (.e (.fa 1 (.r p43)))⟩, ⟨(some p45), none, (.e (.ld (.r p44)))⟩, ⟨(some p46), none, (.e (.bin .eql (.r p45) (.c (.int .i64 (.ofNat 0)))))⟩]) (.cond (.r p46) (.seq (.drg [⟨0, ⟨(some p47), none, (.e (.mv (.r p0)))⟩, [], false⟩, ⟨1, ⟨(some p48), none, (.e (.nilchk (.r p47)))⟩, [], false⟩, ⟨2, ⟨(some p49), none, (.e (.fa 513 (.r p48)))⟩, [], false⟩, ⟨3, ⟨(some p50), none, (.e (.ld (.r p49)))⟩, [], false⟩, ⟨4, ⟨(some p51), none, (.e (.mv (.r p7)))⟩, [], false⟩, ⟨5, ⟨(some p52), none, (.e (.nilchk (.r p51)))⟩, [], false⟩, ⟨6, ⟨(some p53), none, (.e (.fa 0 (.r p52)))⟩, [], false⟩, ⟨7, ⟨(some p54), none, (.e (.ld (.r p53)))⟩, [], false⟩, ⟨8, ⟨(some p55), none, (.e (.lenS (.r p54)))⟩, [], false⟩, ⟨9, ⟨(some p56), none, (.e (.bin .sub (.r p50) (.r p55)))⟩, [], false⟩, ⟨10, ⟨(some p57), none, (.e (.nilchk (.r p47)))⟩, [], false⟩, ⟨11, ⟨(some p58), none, (.e (.fa 513 (.r p57)))⟩, [], false⟩, ⟨12, ⟨none, none, (.w (.st 1 (.r p58) (.r p56)))⟩, [], false⟩]) (.reg [⟨(some p59), none, (.e (.mv (.r p0)))⟩, ⟨(some p60), none, (.e (.mv (.r p5)))⟩, ⟨(some p61), none, (.e (.bld [(.int .i64 (.ofNat 0)), .nili] []))⟩, ⟨(some p62), none, (.e (.nilchk (.r p59)))⟩, ⟨(some p63), none, (.e (.fa 0 (.r p62)))⟩, ⟨(some p64), none, (.e (.iaA 256 2 (.r p63) (.r p60)))⟩, ⟨none, none, (.w (.st 2 (.r p64) (.r p61)))⟩])) .skip))) C42_1))))))))
theorem I42_1 (E : Env) : Is E C42_1 (retK3 R42) (fun σ h => J42_1 E h) :=
  fun σ h => by kernel_rfl
theorem I42_0 (E : Env) : Is E C42_0 (retK3 R42) (fun σ h => J42_0 E (σ p0) (σ p1) h) :=
  Is.as (Is.seq (Is.seq (Is.seq (Is.seq (Is.seq (Is.seq (Is.seq (Is.seq (I42_1 E) (Is.leaf _)) (Is.leaf _)) (Is.leaf _)) (Is.leaf _)) (Is.leaf _)) (Is.leaf _)) (Is.leaf _)) (Is.leaf _)) fun σ h => by kernel_rfl
def D42 : DF := ⟨2, 65, C42_0, R42⟩
noncomputable def S42 (E : Env) : Fun := fun args h => aS args fun r0 args => aS args fun r1 args => a0 args (J42_0 E r0 r1 h)
theorem S42_eq (E : Env) (args : List DV) (h : H) : runFn E D42 args h = S42 E args h :=
  Is.fn2 (d := D42) (I42_0 E) rfl (fun r0 r1 h => J42_0 E r0 r1 h) (fun r0 r1 h => by kernel_rfl) args h
/- (*hurdle/tree.Tree).Rmdir -/
def R43 : List RV := [(.r p4)]
noncomputable def J43_0 (E : Env) (r0 r1 : DV) (h : H) : Ans :=
  wK (callK E 85 [r0, r1] h) fun x1 h2 =>
  vK (v_ext 0 x1) fun x3 =>
  vK (v_ext 1 x1) fun x4 =>
  vK (v_neq x4 (.int .i64 (.ofNat 0))) fun x5 =>
  bK x5
  (some (x4, h2))
  (wK (callK E 87 [r0, x3] h2) fun x6 h7 =>
  vK (v_eqv .ptr false h7.get x6 .nilp) fun x8 =>
  bK x8
  (some ((.int .i64 (.ofNat 13)), h7))
  (vK (v_eql x3 (.int .i64 (.ofNat 1))) fun x9 =>
  bK x9
  (some ((.int .i64 (.ofNat 1)), h7))
  (wK (callK E 97 [x6] h7) fun x10 h11 =>
  vK (v_gtr x10 (.int .i64 (.ofNat 0))) fun x12 =>
  bK x12
  (some ((.int .i64 (.ofNat 14)), h11))
  (wK (callK E 95 [r0, r1] h11) fun x13 h14 =>
  vK (v_ext 0 x13) fun x15 =>
  vK (v_ext 1 x13) fun x16 =>
  n_alc 2 2 (.list [.nilp, (.str [])]) h14 fun x17 h18 =>
  wK (dStF 2 x17 x15 h18) fun x19 h20 =>
  vK (v_fa 0 x17) fun x21 =>
  vK (v_ld h20.get x21) fun x22 =>
  vK (v_fa 1 x17) fun x23 =>
  vK (v_ld h20.get x23) fun x24 =>
  wK (callK E 96 [x22, x24] h20) fun x25 h26 =>
  vK (v_bld [(.int .i64 (.ofNat 0)), .nili] []) fun x27 =>
  vK (v_nilchk r0) fun x28 =>
  vK (v_fa 0 x28) fun x29 =>
  vK (v_iaA 256 2 x29 x3) fun x30 =>
  wK (dStF 2 x30 x27 h26) fun x31 h32 =>
  some ((.int .i64 (.ofNat 0)), h32)))))
def C43_0 : DC := (.seq (.reg [⟨(some p4), none, (.e (.mv (.c (.int .i64 (.ofNat 0)))))⟩]) (.seq (.reg [⟨(some p11), none, (.e (.mv (.r p0)))⟩, ⟨(some p12), none, (.e (.mv (.r p1)))⟩, ⟨(some p13), none, (.c (.f 85 [(.r p11), (.r p12)]))⟩, ⟨(some p10), none, (.e (.mv (.r p13)))⟩, ⟨(some p14), none, (.e (.ext 0 (.r p10)))⟩, ⟨(some p15), none, (.e (.ext 1 (.r p10)))⟩, ⟨(some p5), none, (.e (.mv (.r p14)))⟩, ⟨(some p6), none, (.e (.mv (.r p15)))⟩]) (.seq (.seq (.reg [⟨(some p16), none, (.e (.mv (.r p6)))⟩, ⟨(some p17), none, (.e (.bin .neq (.r p16) (.c (.int .i64 (.ofNat 0)))))⟩]) (.cond (.r p17) (.seq (.reg [⟨(some p18), none, (.e (.mv (.r p6)))⟩, ⟨(some p4), none, (.e (.mv (.r p18)))⟩]) .ret) .skip)) (.seq (.reg [⟨(some p19), none, (.e (.mv (.r p0)))⟩, ⟨(some p20), none, (.e (.mv (.r p5)))⟩, ⟨(some p21), none, (.c (.f 87 [(.r p19), (.r p20)]))⟩, ⟨(some p7), none, (.e (.mv (.r p21)))⟩]) (.seq (.block 0 (.seq (.reg [⟨(some p23), none, (.e (.mv (.r p7)))⟩, ⟨(some p24), none, (.e (.eqv .ptr false (.r p23) (.c .nilp)))⟩, ⟨(some p22), none, (.e (.mv (.r p24)))⟩]) (.cond (.r p22) (.seq (.reg [⟨(some p4), none, (.e (.mv (.c (.int .i64 (.ofNat 13)))))⟩]) .ret) (.seq (.reg [⟨(some p26), none, (.e (.mv (.r p5)))⟩, ⟨(some p27), none, (.e (.bin .eql (.r p26) (.c (.int .i64 (.ofNat 1)))))⟩, ⟨(some p25), none, (.e (.mv (.r p27)))⟩]) (.cond (.r p25) (.seq (.reg [⟨(some p4), none, (.e (.mv (.c (.int .i64 (.ofNat 1)))))⟩]) .ret) (.seq (.reg [⟨(some p29), none, (.e (.mv (.r p7)))⟩, ⟨(some p30), none, (.c (.f 97 [(.r p29)]))⟩, ⟨(some p31), none, (.e (.bin .gtr (.r p30) (.c (.int .i64 (.ofNat 0)))))⟩, ⟨(some p28), none, (.e (.mv (.r p31)))⟩]) (.cond (.r p28) (.seq (.reg [⟨(some p4), none, (.e (.mv (.c (.int .i64 (.ofNat 14)))))⟩]) .ret) .skip))))))) (.seq (.reg [⟨(some p33), none, (.e (.mv (.r p0)))⟩, ⟨(some p34), none, (.e (.mv (.r p1)))⟩, ⟨(some p35), none, (.c (.f 95 [(.r p33), (.r p34)]))⟩, ⟨(some p32), none, (.e (.mv (.r p35)))⟩, ⟨(some p36), none, (.e (.ext 0 (.r p32)))⟩, ⟨(some p37), none, (.e (.ext 1 (.r p32)))⟩, ⟨(some p8), none, (.e (.alc 2 2 (.list [.nilp, (.str [])])))⟩, ⟨none, none, (.w (.st 2 (.r p8) (.r p36)))⟩, ⟨(some p9), none, (.e (.mv (.r p37)))⟩]) (.seq (.reg [⟨(some p38), none, (.e (.fa 0 (.r p8)))⟩, ⟨(some p39), none, (.e (.ld (.r p38)))⟩, ⟨(some p40), none, (.e (.fa 1 (.r p8)))⟩, ⟨(some p41), none, (.e (.ld (.r p40)))⟩, ⟨(some p42), none, (.c (.f 96 [(.r p39), (.r p41)]))⟩]) (.seq (.reg [⟨(some p43), none, (.e (.mv (.r p0)))⟩, ⟨(some p44), none, (.e (.mv (.r p5)))⟩, ⟨(some p45), none, (.e (.bld [(.int .i64 (.ofNat 0)), .nili] []))⟩, ⟨(some p46), none, (.e (.nilchk (.r p43)))⟩, ⟨(some p47), none, (.e (.fa 0 (.r p46)))⟩, ⟨(some p48), none, (.e (.iaA 256 2 (.r p47) (.r p44)))⟩, ⟨none, none, (.w (.st 2 (.r p48) (.r p45)))⟩]) (.seq (.reg [⟨(some p4), none, (.e (.mv (.c (.int .i64 (.ofNat 0)))))⟩]) .ret)))))))))
theorem I43_0 (E : Env) : Is E C43_0 (retK3 R43) (fun σ h => J43_0 E (σ p0) (σ p1) h) :=
  fun σ h => by kernel_rfl
def D43 : DF := ⟨2, 49, C43_0, R43⟩
noncomputable def S43 (E : Env) : Fun := fun args h => aS args fun r0 args => aS args fun r1 args => a0 args (J43_0 E r0 r1 h)
theorem S43_eq (E : Env) (args : List DV) (h : H) : runFn E D43 args h = S43 E args h :=
  Is.fn2 (d := D43) (I43_0 E) rfl (fun r0 r1 h => J43_0 E r0 r1 h) (fun r0 r1 h => by kernel_rfl) args h
/- (*hurdle/tree.Tree).Rename -/
def R44 : List RV := [(.r p6)]
noncomputable def J44_0 (E : Env) (r0 r1 r2 : DV) (h : H) : Ans :=
  wK (callK E 85 [r0, r1] h) fun x1 h2 =>
  vK (v_ext 0 x1) fun x3 =>
  vK (v_ext 1 x1) fun x4 =>
  vK (v_neq x4 (.int .i64 (.ofNat 0))) fun x5 =>
  bK x5
  (some (x4, h2))
  (wK (callK E 95 [r0, r2] h2) fun x6 h7 =>
  vK (v_ext 0 x6) fun x8 =>
  vK (v_ext 1 x6) fun x9 =>
  n_alc 2 2 (.list [.nilp, (.str [])]) h7 fun x10 h11 =>
  wK (dStF 2 x10 x8 h11) fun x12 h13 =>
  vK (v_neq x9 (.int .i64 (.ofNat 0))) fun x14 =>
  bK x14
  (some (x9, h13))
  (vK (v_eql x3 (.int .i64 (.ofNat 1))) fun x15 =>
  gdK x15 false (fun kk => kk r1 h13) h13 fun x16 h17 =>
  gdK x15 false (fun kk => kk r2 h17) h17 fun x18 h19 =>
  gdK x15 false (fun kk => wK (callK E 98 [x16, x18] h19) kk) h19 fun x20 h21 =>
  vK (v_pick x15 (.bool true) x20) fun x22 =>
  bK x22
  (some ((.int .i64 (.ofNat 1)), h21))
  (wK (callK E 95 [r0, r1] h21) fun x23 h24 =>
  vK (v_ext 0 x23) fun x25 =>
  vK (v_ext 1 x23) fun x26 =>
  n_alc 2 2 (.list [.nilp, (.str [])]) h24 fun x27 h28 =>
  wK (dStF 2 x27 x25 h28) fun x29 h30 =>
  vK (v_ldN 2 h30.get x27) fun x31 =>
  vK (v_ldN 2 h30.get x10) fun x32 =>
  vK (v_eqs false (.leaf .ptr 0 (.leaf .str 1 .nil)) h30.get x31 x32) fun x33 =>
  bK x33
  (some ((.int .i64 (.ofNat 0)), h30))
  (vK (v_ldN 2 h30.get x10) fun x34 =>
  wK (callK E 99 [x34] h30) fun x35 h36 =>
  bK x35
  (some ((.int .i64 (.ofNat 6)), h36))
  (vK (v_fa 0 x27) fun x37 =>
  vK (v_ld h36.get x37) fun x38 =>
  vK (v_fa 1 x27) fun x39 =>
  vK (v_ld h36.get x39) fun x40 =>
  wK (callK E 96 [x38, x40] h36) fun x41 h42 =>
  vK (v_fa 0 x10) fun x43 =>
  vK (v_ld h42.get x43) fun x44 =>
  vK (v_fa 1 x10) fun x45 =>
  vK (v_ld h42.get x45) fun x46 =>
  wK (callK E 100 [x44, x46, x3] h42) fun x47 h48 =>
  some ((.int .i64 (.ofNat 0)), h48))))))
def C44_0 : DC := (.seq (.reg [⟨(some p6), none, (.e (.mv (.c (.int .i64 (.ofNat 0)))))⟩]) (.seq (.reg [⟨(some p13), none, (.e (.mv (.r p0)))⟩, ⟨(some p14), none, (.e (.mv (.r p1)))⟩, ⟨(some p15), none, (.c (.f 85 [(.r p13), (.r p14)]))⟩, ⟨(some p12), none, (.e (.mv (.r p15)))⟩, ⟨(some p16), none, (.e (.ext 0 (.r p12)))⟩, ⟨(some p17), none, (.e (.ext 1 (.r p12)))⟩, ⟨(some p7), none, (.e (.mv (.r p16)))⟩, ⟨(some p8), none, (.e (.mv (.r p17)))⟩]) (.seq (.seq (.reg [⟨(some p18), none, (.e (.mv (.r p8)))⟩, ⟨(some p19), none, (.e (.bin .neq (.r p18) (.c (.int .i64 (.ofNat 0)))))⟩]) (.cond (.r p19) (.seq (.reg [⟨(some p20), none, (.e (.mv (.r p8)))⟩, ⟨(some p6), none, (.e (.mv (.r p20)))⟩]) .ret) .skip)) (.seq (.reg [⟨(some p22), none, (.e (.mv (.r p0)))⟩, ⟨(some p23), none, (.e (.mv (.r p2)))⟩, ⟨(some p24), none, (.c (.f 95 [(.r p22), (.r p23)]))⟩, ⟨(some p21), none, (.e (.mv (.r p24)))⟩, ⟨(some p25), none, (.e (.ext 0 (.r p21)))⟩, ⟨(some p26), none, (.e (.ext 1 (.r p21)))⟩, ⟨(some p9), none, (.e (.alc 2 2 (.list [.nilp, (.str [])])))⟩, ⟨none, none, (.w (.st 2 (.r p9) (.r p25)))⟩, ⟨(some p8), none, (.e (.mv (.r p26)))⟩]) (.seq (.block 0 (.seq (.reg [⟨(some p28), none, (.e (.mv (.r p8)))⟩, ⟨(some p29), none, (.e (.bin .neq (.r p28) (.c (.int .i64 (.ofNat 0)))))⟩, ⟨(some p27), none, (.e (.mv (.r p29)))⟩]) (.cond (.r p27) (.seq (.reg [⟨(some p30), none, (.e (.mv (.r p8)))⟩, ⟨(some p6), none, (.e (.mv (.r p30)))⟩]) .ret) (.seq (.reg [⟨(some p32), none, (.e (.mv (.r p7)))⟩, ⟨(some p33), none, (.e (.bin .eql (.r p32) (.c (.int .i64 (.ofNat 1)))))⟩, ⟨(some p34), none, (.e (.mv (.r p33)))⟩, ⟨(some p35), (some (p34, false)), (.e (.mv (.r p1)))⟩, ⟨(some p36), (some (p34, false)), (.e (.mv (.r p2)))⟩, ⟨(some p37), (some (p34, false)), (.c (.f 98 [(.r p35), (.r p36)]))⟩, ⟨(some p38), none, (.e (.pick (.r p34) (.c (.bool true)) (.r p37)))⟩, ⟨(some p31), none, (.e (.mv (.r p38)))⟩]) (.cond (.r p31) (.seq (.reg [⟨(some p6), none, (.e (.mv (.c (.int .i64 (.ofNat 1)))))⟩]) .ret) .skip))))) (.seq (.reg [⟨(some p40), none, (.e (.mv (.r p0)))⟩, ⟨(some p41), none, (.e (.mv (.r p1)))⟩, ⟨(some p42), none, (.c (.f 95 [(.r p40), (.r p41)]))⟩, ⟨(some p39), none, (.e (.mv (.r p42)))⟩, ⟨(some p43), none, (.e (.ext 0 (.r p39)))⟩, ⟨(some p44), none, (.e (.ext 1 (.r p39)))⟩, ⟨(some p10), none, (.e (.alc 2 2 (.list [.nilp, (.str [])])))⟩, ⟨none, none, (.w (.st 2 (.r p10) (.r p43)))⟩, ⟨(some p11), none, (.e (.mv (.r p44)))⟩]) (.seq (.block 1 (.seq (.reg [⟨(some p46), none, (.e (.ldN 2 (.r p10)))⟩, ⟨(some p47), none, (.e (.ldN 2 (.r p9)))⟩, ⟨(some p48), none, (.e (.eqs false (.leaf .ptr 0 (.leaf .str 1 .nil)) (.r p46) (.r p47)))⟩, ⟨(some p45), none, (.e (.mv (.r p48)))⟩]) (.cond (.r p45) (.seq (.reg [⟨(some p6), none, (.e (.mv (.c (.int .i64 (.ofNat 0)))))⟩]) .ret) (.seq (.reg [⟨(some p50), none, (.e (.ldN 2 (.r p9)))⟩, ⟨(some p51), none, (.c (.f 99 [(.r p50)]))⟩, ⟨(some p49), none, (.e (.mv (.r p51)))⟩]) (.cond (.r p49) (.seq (.reg [⟨(some p6), none, (.e (.mv (.c (.int .i64 (.ofNat 6)))))⟩]) .ret) .skip))))) (.seq (.reg [⟨(some p52), none, (.e (.fa 0 (.r p10)))⟩, ⟨(some p53), none, (.e (.ld (.r p52)))⟩, ⟨(some p54), none, (.e (.fa 1 (.r p10)))⟩, ⟨(some p55), none, (.e (.ld (.r p54)))⟩, ⟨(some p56), none, (.c (.f 96 [(.r p53), (.r p55)]))⟩]) (.seq (.reg [⟨(some p57), none, (.e (.fa 0 (.r p9)))⟩, ⟨(some p58), none, (.e (.ld (.r p57)))⟩, ⟨(some p59), none, (.e (.fa 1 (.r p9)))⟩, ⟨(some p60), none, (.e (.ld (.r p59)))⟩, ⟨(some p61), none, (.e (.mv (.r p7)))⟩, ⟨(some p62), none, (.c (.f 100 [(.r p58), (.r p60), (.r p61)]))⟩]) (.seq (.reg [⟨(some p6), none, (.e (.mv (.c (.int .i64 (.ofNat 0)))))⟩]) .ret))))))))))
theorem I44_0 (E : Env) : Is E C44_0 (retK3 R44) (fun σ h => J44_0 E (σ p0) (σ p1) (σ p2) h) :=
  fun σ h => by kernel_rfl
def D44 : DF := ⟨3, 63, C44_0, R44⟩
noncomputable def S44 (E : Env) : Fun := fun args h => aS args fun r0 args => aS args fun r1 args => aS args fun r2 args => a0 args (J44_0 E r0 r1 r2 h)
theorem S44_eq (E : Env) (args : List DV) (h : H) : runFn E D44 args h = S44 E args h :=
  Is.fn3 (d := D44) (I44_0 E) rfl (fun r0 r1 r2 h => J44_0 E r0 r1 r2 h) (fun r0 r1 r2 h => by kernel_rfl) args h
/- (*hurdle/tree.Tree).Link -/
def R45 : List RV := [(.r p6)]
noncomputable def J45_0 (E : Env) (r0 r1 r2 : DV) (h : H) : Ans :=
  wK (callK E 85 [r0, r1] h) fun x1 h2 =>
  vK (v_ext 0 x1) fun x3 =>
  vK (v_ext 1 x1) fun x4 =>
  vK (v_neq x4 (.int .i64 (.ofNat 0))) fun x5 =>
  bK x5
  (some (x4, h2))
  (wK (callK E 95 [r0, r2] h2) fun x6 h7 =>
  vK (v_ext 0 x6) fun x8 =>
  vK (v_ext 1 x6) fun x9 =>
  n_alc 2 2 (.list [.nilp, (.str [])]) h7 fun x10 h11 =>
  wK (dStF 2 x10 x8 h11) fun x12 h13 =>
  vK (v_neq x9 (.int .i64 (.ofNat 0))) fun x14 =>
  bK x14
  (some (x9, h13))
  (wK (callK E 86 [r0, x3] h13) fun x15 h16 =>
  vK (v_eqv .ptr false h16.get x15 .nilp) fun x17 =>
  bK x17
  (some ((.int .i64 (.ofNat 12)), h16))
  (vK (v_ldN 2 h16.get x10) fun x18 =>
  wK (callK E 99 [x18] h16) fun x19 h20 =>
  bK x19
  (some ((.int .i64 (.ofNat 6)), h20))
  (vK (v_nilchk x15) fun x21 =>
  vK (v_fa 1 x21) fun x22 =>
  vK (v_ld h20.get x22) fun x23 =>
  vK (v_geq x23 (.int .i64 (.ofNat 100))) fun x24 =>
  bK x24
  (some ((.int .i64 (.ofNat 5)), h20))
  (vK (v_nilchk x15) fun x25 =>
  vK (v_fa 1 x25) fun x26 =>
  vK (v_ld h20.get x26) fun x27 =>
  vK (v_add x27 (.int .i64 (.ofNat 1))) fun x28 =>
  vK (v_nilchk x15) fun x29 =>
  vK (v_fa 1 x29) fun x30 =>
  wK (dStF 1 x30 x28 h20) fun x31 h32 =>
  vK (v_fa 0 x10) fun x33 =>
  vK (v_ld h32.get x33) fun x34 =>
  vK (v_fa 1 x10) fun x35 =>
  vK (v_ld h32.get x35) fun x36 =>
  wK (callK E 100 [x34, x36, x3] h32) fun x37 h38 =>
  some ((.int .i64 (.ofNat 0)), h38))))))
def C45_0 : DC := (.seq (.reg [⟨(some p6), none, (.e (.mv (.c (.int .i64 (.ofNat 0)))))⟩]) (.seq (.reg [⟨(some p12), none, (.e (.mv (.r p0)))⟩, ⟨(some p13), none, (.e (.mv (.r p1)))⟩, ⟨(some p14), none, (.c (.f 85 [(.r p12), (.r p13)]))⟩, ⟨(some p11), none, (.e (.mv (.r p14)))⟩, ⟨(some p15), none, (.e (.ext 0 (.r p11)))⟩, ⟨(some p16), none, (.e (.ext 1 (.r p11)))⟩, ⟨(some p7), none, (.e (.mv (.r p15)))⟩, ⟨(some p8), none, (.e (.mv (.r p16)))⟩]) (.seq (.seq (.reg [⟨(some p17), none, (.e (.mv (.r p8)))⟩, ⟨(some p18), none, (.e (.bin .neq (.r p17) (.c (.int .i64 (.ofNat 0)))))⟩]) (.cond (.r p18) (.seq (.reg [⟨(some p19), none, (.e (.mv (.r p8)))⟩, ⟨(some p6), none, (.e (.mv (.r p19)))⟩]) .ret) .skip)) (.seq (.reg [⟨(some p21), none, (.e (.mv (.r p0)))⟩, ⟨(some p22), none, (.e (.mv (.r p2)))⟩, ⟨(some p23), none, (.c (.f 95 [(.r p21), (.r p22)]))⟩, ⟨(some p20), none, (.e (.mv (.r p23)))⟩, ⟨(some p24), none, (.e (.ext 0 (.r p20)))⟩, ⟨(some p25), none, (.e (.ext 1 (.r p20)))⟩, ⟨(some p9), none, (.e (.alc 2 2 (.list [.nilp, (.str [])])))⟩, ⟨none, none, (.w (.st 2 (.r p9) (.r p24)))⟩, ⟨(some p8), none, (.e (.mv (.r p25)))⟩]) (.seq (.seq (.reg [⟨(some p26), none, (.e (.mv (.r p8)))⟩, ⟨(some p27), none, (.e (.bin .neq (.r p26) (.c (.int .i64 (.ofNat 0)))))⟩]) (.cond (.r p27) (.seq (.reg [⟨(some p28), none, (.e (.mv (.r p8)))⟩, ⟨(some p6), none, (.e (.mv (.r p28)))⟩]) .ret) .skip)) (.seq (.reg [⟨(some p29), none, (.e (.mv (.r p0)))⟩, ⟨(some p30), none, (.e (.mv (.r p7)))⟩, ⟨(some p31), none, (.c (.f 86 [(.r p29), (.r p30)]))⟩, ⟨(some p10), none, (.e (.mv (.r p31)))⟩]) (.seq (.block 0 (.seq (.reg [⟨(some p33), none, (.e (.mv (.r p10)))⟩, ⟨(some p34), none, (.e (.eqv .ptr false (.r p33) (.c .nilp)))⟩, ⟨(some p32), none, (.e (.mv (.r p34)))⟩]) (.cond (.r p32) (.seq (.reg [⟨(some p6), none, (.e (.mv (.c (.int .i64 (.ofNat 12)))))⟩]) .ret) (.seq (.reg [⟨(some p36), none, (.e (.ldN 2 (.r p9)))⟩, ⟨(some p37), none, (.c (.f 99 [(.r p36)]))⟩, ⟨(some p35), none, (.e (.mv (.r p37)))⟩]) (.cond (.r p35) (.seq (.reg [⟨(some p6), none, (.e (.mv (.c (.int .i64 (.ofNat 6)))))⟩]) .ret) (.seq (.reg [⟨(some p39), none, (.e (.mv (.r p10)))⟩, ⟨(some p40), none, (.e (.nilchk (.r p39)))⟩, ⟨(some p41), none, (.e (.fa 1 (.r p40)))⟩, ⟨(some p42), none, (.e (.ld (.r p41)))⟩, ⟨(some p43), none, (.e (.bin .geq (.r p42) (.c (.int .i64 (.ofNat 100)))))⟩, ⟨(some p38), none, (.e (.mv (.r p43)))⟩]) (.cond (.r p38) (.seq (.reg [⟨(some p6), none, (.e (.mv (.c (.int .i64 (.ofNat 5)))))⟩]) .ret) .skip))))))) (.seq (.reg [⟨(some p44), none, (.e (.mv (.r p10)))⟩, ⟨(some p45), none, (.e (.nilchk (.r p44)))⟩, ⟨(some p46), none, (.e (.fa 1 (.r p45)))⟩, ⟨(some p47), none, (.e (.ld (.r p46)))⟩, ⟨(some p48), none, (.e (.bin .add (.r p47) (.c (.int .i64 (.ofNat 1)))))⟩, ⟨(some p49), none, (.e (.nilchk (.r p44)))⟩, ⟨(some p50), none, (.e (.fa 1 (.r p49)))⟩, ⟨none, none, (.w (.st 1 (.r p50) (.r p48)))⟩]) (.seq (.reg [⟨(some p51), none, (.e (.fa 0 (.r p9)))⟩, ⟨(some p52), none, (.e (.ld (.r p51)))⟩, ⟨(some p53), none, (.e (.fa 1 (.r p9)))⟩, ⟨(some p54), none, (.e (.ld (.r p53)))⟩, ⟨(some p55), none, (.e (.mv (.r p7)))⟩, ⟨(some p56), none, (.c (.f 100 [(.r p52), (.r p54), (.r p55)]))⟩]) (.seq (.reg [⟨(some p6), none, (.e (.mv (.c (.int .i64 (.ofNat 0)))))⟩]) .ret))))))))))
theorem I45_0 (E : Env) : Is E C45_0 (retK3 R45) (fun σ h => J45_0 E (σ p0) (σ p1) (σ p2) h) :=
  fun σ h => by kernel_rfl
def D45 : DF := ⟨3, 57, C45_0, R45⟩
noncomputable def S45 (E : Env) : Fun := fun args h => aS args fun r0 args => aS args fun r1 args => aS args fun r2 args => a0 args (J45_0 E r0 r1 r2 h)
theorem S45_eq (E : Env) (args : List DV) (h : H) : runFn E D45 args h = S45 E args h :=
  Is.fn3 (d := D45) (I45_0 E) rfl (fun r0 r1 r2 h => J45_0 E r0 r1 r2 h) (fun r0 r1 r2 h => by kernel_rfl) args h
/- (*hurdle/tree.Tree).Write -/
def R46 : List RV := [(.r p8)]
noncomputable def J46_0 (E : Env) (r0 r1 r2 r3 : DV) (h : H) : Ans :=
  wK (callK E 83 [r0, r1] h) fun x1 h2 =>
  vK (v_ext 0 x1) fun x3 =>
  vK (v_ext 1 x1) fun x4 =>
  vK (v_neq x4 (.int .i64 (.ofNat 0))) fun x5 =>
  bK x5
  (some (x4, h2))
  (wK (callK E 92 [r0, x3, r2, r3] h2) fun x6 h7 =>
  some (x6, h7))
def C46_0 : DC := (.seq (.reg [⟨(some p8), none, (.e (.mv (.c (.int .i64 (.ofNat 0)))))⟩]) (.seq (.reg [⟨(some p12), none, (.e (.mv (.r p0)))⟩, ⟨(some p13), none, (.e (.mv (.r p1)))⟩, ⟨(some p14), none, (.c (.f 83 [(.r p12), (.r p13)]))⟩, ⟨(some p11), none, (.e (.mv (.r p14)))⟩, ⟨(some p15), none, (.e (.ext 0 (.r p11)))⟩, ⟨(some p16), none, (.e (.ext 1 (.r p11)))⟩, ⟨(some p9), none, (.e (.mv (.r p15)))⟩, ⟨(some p10), none, (.e (.mv (.r p16)))⟩]) (.seq (.seq (.reg [⟨(some p17), none, (.e (.mv (.r p10)))⟩, ⟨(some p18), none, (.e (.bin .neq (.r p17) (.c (.int .i64 (.ofNat 0)))))⟩]) (.cond (.r p18) (.seq (.reg [⟨(some p19), none, (.e (.mv (.r p10)))⟩, ⟨(some p8), none, (.e (.mv (.r p19)))⟩]) .ret) .skip)) (.seq (.reg [⟨(some p20), none, (.e (.mv (.r p0)))⟩, ⟨(some p21), none, (.e (.mv (.r p9)))⟩, ⟨(some p22), none, (.e (.mv (.r p2)))⟩, ⟨(some p23), none, (.e (.mv (.r p3)))⟩, ⟨(some p24), none, (.c (.f 92 [(.r p20), (.r p21), (.r p22), (.r p23)]))⟩, ⟨(some p8), none, (.e (.mv (.r p24)))⟩]) .ret))))
theorem I46_0 (E : Env) : Is E C46_0 (retK3 R46) (fun σ h => J46_0 E (σ p0) (σ p1) (σ p2) (σ p3) h) :=
  fun σ h => by kernel_rfl
def D46 : DF := ⟨4, 25, C46_0, R46⟩
noncomputable def S46 (E : Env) : Fun := fun args h => aS args fun r0 args => aS args fun r1 args => aS args fun r2 args => aS args fun r3 args => a0 args (J46_0 E r0 r1 r2 r3 h)
theorem S46_eq (E : Env) (args : List DV) (h : H) : runFn E D46 args h = S46 E args h :=
  Is.fn4 (d := D46) (I46_0 E) rfl (fun r0 r1 r2 r3 h => J46_0 E r0 r1 r2 r3 h) (fun r0 r1 r2 r3 h => by kernel_rfl) args h
/- (*hurdle/tree.Tree).Trunc -/
def R47 : List RV := [(.r p6)]
noncomputable def J47_0 (E : Env) (r0 r1 r2 : DV) (h : H) : Ans :=
  wK (callK E 83 [r0, r1] h) fun x1 h2 =>
  vK (v_ext 0 x1) fun x3 =>
  vK (v_ext 1 x1) fun x4 =>
  vK (v_neq x4 (.int .i64 (.ofNat 0))) fun x5 =>
  bK x5
  (some (x4, h2))
  (vK (v_lss r2 (.int .i64 (.ofNat 0))) fun x6 =>
  gdK x6 false (fun kk => kk r2 h2) h2 fun x7 h8 =>
  gdK x6 false (fun kk => vK (v_gtr x7 (.int .i64 (.ofNat 16384))) fun v => kk v h8) h8 fun x9 h10 =>
  vK (v_pick x6 (.bool true) x9) fun x11 =>
  bK x11
  (some ((.int .i64 (.ofNat 1)), h10))
  (vK (v_nilchk x3) fun x12 =>
  vK (v_fa 0 x12) fun x13 =>
  vK (v_ld h10.get x13) fun x14 =>
  vK (v_nilchk x3) fun x15 =>
  vK (v_fa 0 x15) fun x16 =>
  vK (v_ld h10.get x16) fun x17 =>
  vK (v_lenS x17) fun x18 =>
  vK (v_mn r2 x18) fun x19 =>
  vK (v_slS x14 none (some x19)) fun x20 =>
  wK (callK E 101 [x20, r2] h10) fun x21 h22 =>
  vK (v_ext 0 x21) fun x23 =>
  vK (v_ext 1 x21) fun x24 =>
  wK (callK E 102 [r0, x3, x23] h22) fun x25 h26 =>
  some (x25, h26)))
def C47_0 : DC := (.seq (.reg [⟨(some p6), none, (.e (.mv (.c (.int .i64 (.ofNat 0)))))⟩]) (.seq (.reg [⟨(some p12), none, (.e (.mv (.r p0)))⟩, ⟨(some p13), none, (.e (.mv (.r p1)))⟩, ⟨(some p14), none, (.c (.f 83 [(.r p12), (.r p13)]))⟩, ⟨(some p11), none, (.e (.mv (.r p14)))⟩, ⟨(some p15), none, (.e (.ext 0 (.r p11)))⟩, ⟨(some p16), none, (.e (.ext 1 (.r p11)))⟩, ⟨(some p7), none, (.e (.mv (.r p15)))⟩, ⟨(some p8), none, (.e (.mv (.r p16)))⟩]) (.seq (.block 0 (.seq (.reg [⟨(some p18), none, (.e (.mv (.r p8)))⟩, ⟨(some p19), none, (.e (.bin .neq (.r p18) (.c (.int .i64 (.ofNat 0)))))⟩, ⟨(some p17), none, (.e (.mv (.r p19)))⟩]) (.cond (.r p17) (.seq (.reg [⟨(some p20), none, (.e (.mv (.r p8)))⟩, ⟨(some p6), none, (.e (.mv (.r p20)))⟩]) .ret) (.seq (.reg [⟨(some p22), none, (.e (.mv (.r p2)))⟩, ⟨(some p23), none, (.e (.bin .lss (.r p22) (.c (.int .i64 (.ofNat 0)))))⟩, ⟨(some p24), none, (.e (.mv (.r p23)))⟩, ⟨(some p25), (some (p24, false)), (.e (.mv (.r p2)))⟩, ⟨(some p26), (some (p24, false)), (.e (.bin .gtr (.r p25) (.c (.int .i64 (.ofNat 16384)))))⟩, ⟨(some p27), none, (.e (.pick (.r p24) (.c (.bool true)) (.r p26)))⟩, ⟨(some p21), none, (.e (.mv (.r p27)))⟩]) (.cond (.r p21) (.seq (.reg [⟨(some p6), none, (.e (.mv (.c (.int .i64 (.ofNat 1)))))⟩]) .ret) .skip))))) (.seq (.drg [⟨0, ⟨(some p29), none, (.e (.mv (.r p7)))⟩, [], false⟩, ⟨1, ⟨(some p30), none, (.e (.nilchk (.r p29)))⟩, [], false⟩, ⟨2, ⟨(some p31), none, (.e (.fa 0 (.r p30)))⟩, [], false⟩, ⟨3, ⟨(some p32), none, (.e (.ld (.r p31)))⟩, [], false⟩, ⟨4, ⟨(some p33), none, (.e (.mv (.r p2)))⟩, [], false⟩, ⟨5, ⟨(some p34), none, (.e (.mv (.r p7)))⟩, [], false⟩, ⟨6, ⟨(some p35), none, (.e (.nilchk (.r p34)))⟩, [], false⟩, ⟨7, ⟨(some p36), none, (.e (.fa 0 (.r p35)))⟩, [], false⟩, ⟨8, ⟨(some p37), none, (.e (.ld (.r p36)))⟩, [], false⟩, ⟨9, ⟨(some p38), none, (.e (.lenS (.r p37)))⟩, [], false⟩, ⟨10, ⟨(some p39), none, (.e (.mn (.r p33) (.r p38)))⟩, [], false⟩, ⟨11, ⟨(some p40), none, (.e (.slS (.r p32) none (some (.r p39))))⟩, [], false⟩, ⟨12, ⟨(some p41), none, (.e (.mv (.r p2)))⟩, [], false⟩, ⟨13, ⟨(some p42), none, (.c (.f 101 [(.r p40), (.r p41)]))⟩, [], false⟩, ⟨14, ⟨(some p28), none, (.e (.mv (.r p42)))⟩, [], false⟩, ⟨15, ⟨(some p43), none, (.e (.ext 0 (.r p28)))⟩, [], false⟩, ⟨16, ⟨(some p44), none, (.e (.ext 1 (.r p28)))⟩, [], false⟩, ⟨17, ⟨(some p9), none, (.e (.mv (.r p43)))⟩, [], false⟩, ⟨18, ⟨(some p10), none, (.e (.mv (.r p44)))⟩, [], false⟩]) (.seq (.reg [⟨(some p45), none, (.e (.mv (.r p0)))⟩, ⟨(some p46), none, (.e (.mv (.r p7)))⟩, ⟨(some p47), none, (.e (.mv (.r p9)))⟩, ⟨(some p48), none, (.c (.f 102 [(.r p45), (.r p46), (.r p47)]))⟩, ⟨(some p6), none, (.e (.mv (.r p48)))⟩]) .ret)))))
theorem I47_0 (E : Env) : Is E C47_0 (retK3 R47) (fun σ h => J47_0 E (σ p0) (σ p1) (σ p2) h) :=
  fun σ h => by kernel_rfl
def D47 : DF := ⟨3, 49, C47_0, R47⟩
noncomputable def S47 (E : Env) : Fun := fun args h => aS args fun r0 args => aS args fun r1 args => aS args fun r2 args => a0 args (J47_0 E r0 r1 r2 h)
theorem S47_eq (E : Env) (args : List DV) (h : H) : runFn E D47 args h = S47 E args h :=
  Is.fn3 (d := D47) (I47_0 E) rfl (fun r0 r1 r2 h => J47_0 E r0 r1 r2 h) (fun r0 r1 r2 h => by kernel_rfl) args h
/- hurdle/codec.NewWriter -/
def R48 : List RV := [(.r p2)]
noncomputable def J48_0 (E : Env) (r0 : DV) (h : H) : Ans :=
  vK (v_mx r0 (.int .i64 (.ofNat 0))) fun x1 =>
  vK (v_mn x1 (.int .i64 (.ofNat 65536))) fun x2 =>
  vK (v_bld [(.int .i64 (.ofNat 0)), .nils, (.int .i64 (.ofNat 0))] [(0, 1, x2)]) fun x3 =>
  n_box x3 h fun x4 h5 =>
  some (x4, h5)
def C48_0 : DC := (.seq (.reg [⟨(some p2), none, (.e (.mv (.c .nilp)))⟩]) (.seq (.reg [⟨(some p3), none, (.e (.mv (.r p0)))⟩, ⟨(some p4), none, (.e (.mx (.r p3) (.c (.int .i64 (.ofNat 0)))))⟩, ⟨(some p5), none, (.e (.mn (.r p4) (.c (.int .i64 (.ofNat 65536)))))⟩, ⟨(some p6), none, (.e (.bld [(.int .i64 (.ofNat 0)), .nils, (.int .i64 (.ofNat 0))] [(0, 1, (.r p5))]))⟩, ⟨(some p7), none, (.e (.box (.r p6)))⟩, ⟨(some p2), none, (.e (.mv (.r p7)))⟩]) .ret))
theorem I48_0 (E : Env) : Is E C48_0 (retK3 R48) (fun σ h => J48_0 E (σ p0) h) :=
  fun σ h => by kernel_rfl
def D48 : DF := ⟨1, 8, C48_0, R48⟩
noncomputable def S48 (E : Env) : Fun := fun args h => aS args fun r0 args => a0 args (J48_0 E r0 h)
theorem S48_eq (E : Env) (args : List DV) (h : H) : runFn E D48 args h = S48 E args h :=
  Is.fn1 (d := D48) (I48_0 E) rfl (fun r0 h => J48_0 E r0 h) (fun r0 h => by kernel_rfl) args h
/- (*hurdle/codec.Writer).Byte -/
def R49 : List RV := []
noncomputable def J49_1 (E : Env) (r0 r3 : DV) (h : H) : Ans :=
  wK (callK E 103 [r0, (.fn (.func 104) [] [r3])] h) fun x1 h2 =>
  some ((.tup []), h2)
def C49_1 : DC := (.reg [⟨(some p24), none, (.e (.mv (.r p0)))⟩, ⟨(some p25), none, (.e (.mkF (.func 104) [] [(.r p3)]))⟩, ⟨(some p26), none, (.c (.f 103 [(.r p24), (.r p25)]))⟩])
noncomputable def J49_0 (E : Env) (r0 r1 : DV) (h : H) : Ans :=
  n_box r1 h fun x1 h2 =>
  vK (v_eqv .ptr true h2.get r0 .nilp) fun x3 =>
  gdK x3 true (fun kk => kk r0 h2) h2 fun x4 h5 =>
  gdK x3 true (fun kk => vK (v_nilchk x4) fun v => kk v h5) h5 fun x6 h7 =>
  gdK x3 true (fun kk => vK (v_fa 2 x6) fun v => kk v h7) h7 fun x8 h9 =>
  gdK x3 true (fun kk => vK (v_ld h9.get x8) fun v => kk v h9) h9 fun x10 h11 =>
  gdK x3 true (fun kk => vK (v_eql x10 (.int .i64 (.ofNat 0))) fun v => kk v h11) h11 fun x12 h13 =>
  vK (v_pick x3 x12 (.bool false)) fun x14 =>
  gdK x14 true (fun kk => vK (v_ld h13.get x1) fun v => kk v h13) h13 fun x15 h16 =>
  gdK x14 true (fun kk => vK (v_lss x15 (.int .i64 (.ofNat 0))) fun v => kk v h16) h16 fun x17 h18 =>
  gdK x14 true (fun kk => kk x17 h18) h18 fun x19 h20 =>
  gdK x19 false (fun kk => vK (v_ld h20.get x1) fun v => kk v h20) h20 fun x21 h22 =>
  gdK x19 false (fun kk => vK (v_gtr x21 (.int .i64 (.ofNat 255))) fun v => kk v h22) h22 fun x23 h24 =>
  gdK x14 true (fun kk => vK (v_pick x19 (.bool true) x23) fun v => kk v h24) h24 fun x25 h26 =>
  vK (v_pick x14 x25 (.bool false)) fun x27 =>
  bK x27
  (vK (v_nilchk r0) fun x28 =>
  vK (v_fa 2 x28) fun x29 =>
  wK (dStF 1 x29 (.int .i64 (.ofNat 1)) h26) fun x30 h31 =>
  J49_1 E r0 x1 h31)
  (J49_1 E r0 x1 h26)
def C49_0 : DC := (.seq (.reg [⟨(some p3), none, (.e (.box (.r p1)))⟩]) (.seq (.seq (.reg [⟨(some p4), none, (.e (.mv (.r p0)))⟩, ⟨(some p5), none, (.e (.eqv .ptr true (.r p4) (.c .nilp)))⟩, ⟨(some p6), none, (.e (.mv (.r p5)))⟩, ⟨(some p7), (some (p6, true)), (.e (.mv (.r p0)))⟩, ⟨(some p8), (some (p6, true)), (.e (.nilchk (.r p7)))⟩, ⟨(some p9), (some (p6, true)), (.e (.fa 2 (.r p8)))⟩, ⟨(some p10), (some (p6, true)), (.e (.ld (.r p9)))⟩, ⟨(some p11), (some (p6, true)), (.e (.bin .eql (.r p10) (.c (.int .i64 (.ofNat 0)))))⟩, ⟨(some p12), none, (.e (.pick (.r p6) (.r p11) (.c (.bool false))))⟩, ⟨(some p13), none, (.e (.mv (.r p12)))⟩, ⟨(some p14), (some (p13, true)), (.e (.ld (.r p3)))⟩, ⟨(some p15), (some (p13, true)), (.e (.bin .lss (.r p14) (.c (.int .i64 (.ofNat 0)))))⟩, ⟨(some p16), (some (p13, true)), (.e (.mv (.r p15)))⟩, ⟨(some p17), (some (p16, false)), (.e (.ld (.r p3)))⟩, ⟨(some p18), (some (p16, false)), (.e (.bin .gtr (.r p17) (.c (.int .i64 (.ofNat 255)))))⟩, ⟨(some p19), (some (p13, true)), (.e (.pick (.r p16) (.c (.bool true)) (.r p18)))⟩, ⟨(some p20), none, (.e (.pick (.r p13) (.r p19) (.c (.bool false))))⟩]) (.cond (.r p20) (.reg [⟨(some p21), none, (.e (.mv (.r p0)))⟩, ⟨(some p22), none, (.e (.nilchk (.r p21)))⟩, ⟨(some p23), none, (.e (.fa 2 (.r p22)))⟩, ⟨none, none, (.w (.st 1 (.r p23) (.c (.int .i64 (.ofNat 1)))))⟩]) .skip)) C49_1))
theorem I49_1 (E : Env) : Is E C49_1 (retK3 R49) (fun σ h => J49_1 E (σ p0) (σ p3) h) :=
  fun σ h => by kernel_rfl
theorem I49_0 (E : Env) : Is E C49_0 (retK3 R49) (fun σ h => J49_0 E (σ p0) (σ p1) h) :=
  Is.as (Is.seq (Is.seq (I49_1 E) (Is.leaf _)) (Is.leaf _)) fun σ h => by kernel_rfl
def D49 : DF := ⟨2, 27, C49_0, R49⟩
noncomputable def S49 (E : Env) : Fun := fun args h => aS args fun r0 args => aS args fun r1 args => a0 args (J49_0 E r0 r1 h)
theorem S49_eq (E : Env) (args : List DV) (h : H) : runFn E D49 args h = S49 E args h :=
  Is.fn2 (d := D49) (I49_0 E) rfl (fun r0 r1 h => J49_0 E r0 r1 h) (fun r0 r1 h => by kernel_rfl) args h
/- (*hurdle/codec.Writer).Int -/
def R50 : List RV := []
noncomputable def J50_0 (E : Env) (r0 r1 : DV) (h : H) : Ans :=
  n_box r1 h fun x1 h2 =>
  wK (callK E 103 [r0, (.fn (.func 105) [] [x1])] h2) fun x3 h4 =>
  some ((.tup []), h4)
def C50_0 : DC := (.seq (.reg [⟨(some p3), none, (.e (.box (.r p1)))⟩]) (.reg [⟨(some p4), none, (.e (.mv (.r p0)))⟩, ⟨(some p5), none, (.e (.mkF (.func 105) [] [(.r p3)]))⟩, ⟨(some p6), none, (.c (.f 103 [(.r p4), (.r p5)]))⟩]))
theorem I50_0 (E : Env) : Is E C50_0 (retK3 R50) (fun σ h => J50_0 E (σ p0) (σ p1) h) :=
  fun σ h => by kernel_rfl
def D50 : DF := ⟨2, 7, C50_0, R50⟩
noncomputable def S50 (E : Env) : Fun := fun args h => aS args fun r0 args => aS args fun r1 args => a0 args (J50_0 E r0 r1 h)
theorem S50_eq (E : Env) (args : List DV) (h : H) : runFn E D50 args h = S50 E args h :=
  Is.fn2 (d := D50) (I50_0 E) rfl (fun r0 r1 h => J50_0 E r0 r1 h) (fun r0 r1 h => by kernel_rfl) args h
/- (*hurdle/codec.Writer).Text -/
def R51 : List RV := []
noncomputable def J51_0 (E : Env) (r0 r1 : DV) (h : H) : Ans :=
  n_box r1 h fun x1 h2 =>
  wK (callK E 103 [r0, (.fn (.func 107) [] [x1])] h2) fun x3 h4 =>
  some ((.tup []), h4)
def C51_0 : DC := (.seq (.reg [⟨(some p3), none, (.e (.box (.r p1)))⟩]) (.reg [⟨(some p4), none, (.e (.mv (.r p0)))⟩, ⟨(some p5), none, (.e (.mkF (.func 107) [] [(.r p3)]))⟩, ⟨(some p6), none, (.c (.f 103 [(.r p4), (.r p5)]))⟩]))
theorem I51_0 (E : Env) : Is E C51_0 (retK3 R51) (fun σ h => J51_0 E (σ p0) (σ p1) h) :=
  fun σ h => by kernel_rfl
def D51 : DF := ⟨2, 7, C51_0, R51⟩
noncomputable def S51 (E : Env) : Fun := fun args h => aS args fun r0 args => aS args fun r1 args => a0 args (J51_0 E r0 r1 h)
theorem S51_eq (E : Env) (args : List DV) (h : H) : runFn E D51 args h = S51 E args h :=
  Is.fn2 (d := D51) (I51_0 E) rfl (fun r0 r1 h => J51_0 E r0 r1 h) (fun r0 r1 h => by kernel_rfl) args h
/- (*hurdle/codec.Writer).Done -/
def R52 : List RV := [(.r p2), (.r p3)]
noncomputable def J52_0 (E : Env) (r0 : DV) (h : H) : Ans :=
  vK (v_eqv .ptr false h.get r0 .nilp) fun x1 =>
  bK x1
  (some ((.tup [(.str []), (.int .i64 (.ofNat 1))]), h))
  (vK (v_nilchk r0) fun x2 =>
  vK (v_fa 2 x2) fun x3 =>
  vK (v_ld h.get x3) fun x4 =>
  vK (v_neq x4 (.int .i64 (.ofNat 0))) fun x5 =>
  bK x5
  (vK (v_nilchk r0) fun x6 =>
  vK (v_fa 2 x6) fun x7 =>
  vK (v_ld h.get x7) fun x8 =>
  some ((.tup [(.str []), x8]), h))
  (vK (v_nilchk r0) fun x9 =>
  vK (v_fa 1 x9) fun x10 =>
  vK (v_ld h.get x10) fun x11 =>
  vK (v_b2s h.get x11) fun x12 =>
  some ((.tup [x12, (.int .i64 (.ofNat 0))]), h)))
def C52_0 : DC := (.seq (.reg [⟨(some p2), none, (.e (.mv (.c (.str []))))⟩, ⟨(some p3), none, (.e (.mv (.c (.int .i64 (.ofNat 0)))))⟩]) (.seq (.block 0 (.seq (.reg [⟨(some p5), none, (.e (.mv (.r p0)))⟩, ⟨(some p6), none, (.e (.eqv .ptr false (.r p5) (.c .nilp)))⟩, ⟨(some p4), none, (.e (.mv (.r p6)))⟩]) (.cond (.r p4) (.seq (.reg [⟨(some p2), none, (.e (.mv (.c (.str []))))⟩, ⟨(some p3), none, (.e (.mv (.c (.int .i64 (.ofNat 1)))))⟩]) .ret) (.seq (.reg [⟨(some p8), none, (.e (.mv (.r p0)))⟩, ⟨(some p9), none, (.e (.nilchk (.r p8)))⟩, ⟨(some p10), none, (.e (.fa 2 (.r p9)))⟩, ⟨(some p11), none, (.e (.ld (.r p10)))⟩, ⟨(some p12), none, (.e (.bin .neq (.r p11) (.c (.int .i64 (.ofNat 0)))))⟩, ⟨(some p7), none, (.e (.mv (.r p12)))⟩]) (.cond (.r p7) (.seq (.drg [⟨0, ⟨(some p13), none, (.e (.mv (.r p0)))⟩, [], false⟩, ⟨1, ⟨(some p14), none, (.e (.nilchk (.r p13)))⟩, [], false⟩, ⟨2, ⟨(some p15), none, (.e (.fa 2 (.r p14)))⟩, [], false⟩, ⟨3, ⟨(some p16), none, (.e (.ld (.r p15)))⟩, [], false⟩, ⟨4, ⟨(some p2), none, (.e (.mv (.c (.str []))))⟩, [], false⟩, ⟨5, ⟨(some p3), none, (.e (.mv (.r p16)))⟩, [], false⟩]) .ret) .skip))))) (.seq (.reg [⟨(some p17), none, (.e (.mv (.r p0)))⟩, ⟨(some p18), none, (.e (.nilchk (.r p17)))⟩, ⟨(some p19), none, (.e (.fa 1 (.r p18)))⟩, ⟨(some p20), none, (.e (.ld (.r p19)))⟩, ⟨(some p21), none, (.e (.b2s (.r p20)))⟩, ⟨(some p2), none, (.e (.mv (.r p21)))⟩, ⟨(some p3), none, (.e (.mv (.c (.int .i64 (.ofNat 0)))))⟩]) .ret)))
theorem I52_0 (E : Env) : Is E C52_0 (retK3 R52) (fun σ h => J52_0 E (σ p0) h) :=
  fun σ h => by kernel_rfl
def D52 : DF := ⟨1, 22, C52_0, R52⟩
noncomputable def S52 (E : Env) : Fun := fun args h => aS args fun r0 args => a0 args (J52_0 E r0 h)
theorem S52_eq (E : Env) (args : List DV) (h : H) : runFn E D52 args h = S52 E args h :=
  Is.fn1 (d := D52) (I52_0 E) rfl (fun r0 h => J52_0 E r0 h) (fun r0 h => by kernel_rfl) args h
/- hurdle/hurdleref03.Int -/
def R53 : List RV := [(.r p2)]
noncomputable def J53_2 (E : Env) (r3 r4 : DV) (h : H) : Ans :=
  vK (v_conv .u8 r3) fun x1 =>
  n_bsl 1 1 [(.int .u8 (.ofNat 0))] [(0, 1, x1)] h fun x2 h3 =>
  wK (dAppendF 1 1 r4 x2 h3) fun x4 h5 =>
  vK (v_b2s h5.get x4) fun x6 =>
  some (x6, h5)
def C53_2 : DC := (.seq (.reg [⟨(some p23), none, (.e (.mv (.r p4)))⟩, ⟨(some p24), none, (.e (.mv (.r p3)))⟩, ⟨(some p25), none, (.e (.conv .u8 (.r p24)))⟩, ⟨(some p26), none, (.e (.bsl 1 1 [(.int .u8 (.ofNat 0))] [(0, 1, (.r p25))]))⟩, ⟨(some p27), none, (.w (.app 1 1 (.r p23) (.r p26)))⟩, ⟨(some p4), none, (.e (.mv (.r p27)))⟩]) (.seq (.reg [⟨(some p28), none, (.e (.mv (.r p4)))⟩, ⟨(some p29), none, (.e (.b2s (.r p28)))⟩, ⟨(some p2), none, (.e (.mv (.r p29)))⟩]) .ret))
noncomputable def B53_3 (E : Env) (i3 : DV → DV → H → Ans) (r3 r4 : DV) (h : H) : Ans :=
  vK (v_geq r3 (.int .u64 (.ofNat 128))) fun x1 =>
  bK x1
  (vK (v_and r3 (.int .u64 (.ofNat 127))) fun x2 =>
  vK (v_conv .u8 x2) fun x3 =>
  vK (v_or x3 (.int .u8 (.ofNat 128))) fun x4 =>
  n_bsl 1 1 [(.int .u8 (.ofNat 0))] [(0, 1, x4)] h fun x5 h6 =>
  wK (dAppendF 1 1 r4 x5 h6) fun x7 h8 =>
  vK (v_shr r3 (.int .u64 (.ofNat 7))) fun x9 =>
  i3 x9 x7 h8)
  (J53_2 E r3 r4 h)
noncomputable def L53_3 (E : Env) (n : Nat) : DV → DV → H → Ans := Nat.rec (motive := fun _ => DV → DV → H → Ans) (fun _ _ _ => none) (fun _ i => B53_3 E i) n
def C53_3 : DC := (.loop (.seq (.seq (.reg [⟨(some p12), none, (.e (.mv (.r p3)))⟩, ⟨(some p13), none, (.e (.bin .geq (.r p12) (.c (.int .u64 (.ofNat 128)))))⟩]) (.cond (.r p13) .skip (.exit 0))) (.block 1 (.seq (.reg [⟨(some p14), none, (.e (.mv (.r p4)))⟩, ⟨(some p15), none, (.e (.mv (.r p3)))⟩, ⟨(some p16), none, (.e (.bin .and (.r p15) (.c (.int .u64 (.ofNat 127)))))⟩, ⟨(some p17), none, (.e (.conv .u8 (.r p16)))⟩, ⟨(some p18), none, (.e (.bin .or (.r p17) (.c (.int .u8 (.ofNat 128)))))⟩, ⟨(some p19), none, (.e (.bsl 1 1 [(.int .u8 (.ofNat 0))] [(0, 1, (.r p18))]))⟩, ⟨(some p20), none, (.w (.app 1 1 (.r p14) (.r p19)))⟩, ⟨(some p4), none, (.e (.mv (.r p20)))⟩]) (.reg [⟨(some p21), none, (.e (.mv (.r p3)))⟩, ⟨(some p22), none, (.e (.bin .shr (.r p21) (.c (.int .u64 (.ofNat 7)))))⟩, ⟨(some p3), none, (.e (.mv (.r p22)))⟩])))))
noncomputable def J53_1 (E : Env) (r3 : DV) (h : H) : Ans :=
  L53_3 E FUEL r3 .nils h
def C53_1 : DC := (.seq (.reg [⟨(some p4), none, (.e (.mv (.c .nils)))⟩]) (.seq (.block 0 C53_3) C53_2))
noncomputable def J53_0 (E : Env) (r0 : DV) (h : H) : Ans :=
  vK (v_conv .u64 r0) fun x1 =>
  vK (v_shl x1 (.int .u64 (.ofNat 1))) fun x2 =>
  vK (v_lss r0 (.int .i64 (.ofNat 0))) fun x3 =>
  bK x3
  (vK (v_xor x2 (.int .u64 (.ofNat 18446744073709551615))) fun x4 =>
  J53_1 E x4 h)
  (J53_1 E x2 h)
def C53_0 : DC := (.seq (.reg [⟨(some p2), none, (.e (.mv (.c (.str []))))⟩]) (.seq (.reg [⟨(some p5), none, (.e (.mv (.r p0)))⟩, ⟨(some p6), none, (.e (.conv .u64 (.r p5)))⟩, ⟨(some p7), none, (.e (.bin .shl (.r p6) (.c (.int .u64 (.ofNat 1)))))⟩, ⟨(some p3), none, (.e (.mv (.r p7)))⟩]) (.seq (.seq (.reg [⟨(some p8), none, (.e (.mv (.r p0)))⟩, ⟨(some p9), none, (.e (.bin .lss (.r p8) (.c (.int .i64 (.ofNat 0)))))⟩]) (.cond (.r p9) (.reg [⟨(some p10), none, (.e (.mv (.r p3)))⟩, ⟨(some p11), none, (.e (.bin .xor (.r p10) (.c (.int .u64 (.ofNat 18446744073709551615)))))⟩, ⟨(some p3), none, (.e (.mv (.r p11)))⟩]) .skip)) C53_1)))
theorem I53_2 (E : Env) : Is E C53_2 (retK3 R53) (fun σ h => J53_2 E (σ p3) (σ p4) h) :=
  fun σ h => by kernel_rfl
noncomputable abbrev K53_4 (E : Env) : KT2 (DV × H) := (thenK3 (fun σ h => J53_2 E (σ p3) (σ p4) h) (retK3 R53))
theorem I53_3 (E : Env) : Is E C53_3 (blockK3 0 (K53_4 E)) (fun σ h => L53_3 E FUEL (σ p3) (σ p4) h) :=
  Is.loop (fun n3 σ h => L53_3 E n3 (σ p3) (σ p4) h) (by kernel_rfl) fun n3 => Is.as (Is.leaf _) fun σ h => by kernel_rfl
theorem I53_1 (E : Env) : Is E C53_1 (retK3 R53) (fun σ h => J53_1 E (σ p3) h) :=
  Is.as (Is.seq (Is.seq (I53_2 E) (Is.block (I53_3 E))) (Is.leaf _)) fun σ h => by kernel_rfl
theorem I53_0 (E : Env) : Is E C53_0 (retK3 R53) (fun σ h => J53_0 E (σ p0) h) :=
  Is.as (Is.seq (Is.seq (Is.seq (I53_1 E) (Is.leaf _)) (Is.leaf _)) (Is.leaf _)) fun σ h => by kernel_rfl
def D53 : DF := ⟨1, 30, C53_0, R53⟩
noncomputable def S53 (E : Env) : Fun := fun args h => aS args fun r0 args => a0 args (J53_0 E r0 h)
theorem S53_eq (E : Env) (args : List DV) (h : H) : runFn E D53 args h = S53 E args h :=
  Is.fn1 (d := D53) (I53_0 E) rfl (fun r0 h => J53_0 E r0 h) (fun r0 h => by kernel_rfl) args h
/- hurdle/hurdleref03.Text -/
def R54 : List RV := [(.r p2)]
noncomputable def J54_0 (E : Env) (r0 : DV) (h : H) : Ans :=
  vK (v_lenS r0) fun x1 =>
  wK (callK E 53 [x1] h) fun x2 h3 =>
  vK (v_add x2 r0) fun x4 =>
  some (x4, h3)
def C54_0 : DC := (.seq (.reg [⟨(some p2), none, (.e (.mv (.c (.str []))))⟩]) (.seq (.reg [⟨(some p3), none, (.e (.mv (.r p0)))⟩, ⟨(some p4), none, (.e (.lenS (.r p3)))⟩, ⟨(some p5), none, (.c (.f 53 [(.r p4)]))⟩, ⟨(some p6), none, (.e (.mv (.r p0)))⟩, ⟨(some p7), none, (.e (.bin .add (.r p5) (.r p6)))⟩, ⟨(some p2), none, (.e (.mv (.r p7)))⟩]) .ret))
theorem I54_0 (E : Env) : Is E C54_0 (retK3 R54) (fun σ h => J54_0 E (σ p0) h) :=
  fun σ h => by kernel_rfl
def D54 : DF := ⟨1, 8, C54_0, R54⟩
noncomputable def S54 (E : Env) : Fun := fun args h => aS args fun r0 args => a0 args (J54_0 E r0 h)
theorem S54_eq (E : Env) (args : List DV) (h : H) : runFn E D54 args h = S54 E args h :=
  Is.fn1 (d := D54) (I54_0 E) rfl (fun r0 h => J54_0 E r0 h) (fun r0 h => by kernel_rfl) args h
/- hurdle/codec.NewReader -/
def R55 : List RV := [(.r p2)]
noncomputable def J55_0 (E : Env) (r0 : DV) (h : H) : Ans :=
  vK (v_bld [(.str []), (.bool false)] [(0, 1, r0)]) fun x1 =>
  n_box x1 h fun x2 h3 =>
  some (x2, h3)
def C55_0 : DC := (.seq (.reg [⟨(some p2), none, (.e (.mv (.c .nilp)))⟩]) (.seq (.reg [⟨(some p3), none, (.e (.mv (.r p0)))⟩, ⟨(some p4), none, (.e (.bld [(.str []), (.bool false)] [(0, 1, (.r p3))]))⟩, ⟨(some p5), none, (.e (.box (.r p4)))⟩, ⟨(some p2), none, (.e (.mv (.r p5)))⟩]) .ret))
theorem I55_0 (E : Env) : Is E C55_0 (retK3 R55) (fun σ h => J55_0 E (σ p0) h) :=
  fun σ h => by kernel_rfl
def D55 : DF := ⟨1, 6, C55_0, R55⟩
noncomputable def S55 (E : Env) : Fun := fun args h => aS args fun r0 args => a0 args (J55_0 E r0 h)
theorem S55_eq (E : Env) (args : List DV) (h : H) : runFn E D55 args h = S55 E args h :=
  Is.fn1 (d := D55) (I55_0 E) rfl (fun r0 h => J55_0 E r0 h) (fun r0 h => by kernel_rfl) args h
/- (*hurdle/codec.Reader).Byte -/
def R56 : List RV := [(.r p2)]
noncomputable def J56_0 (E : Env) (r0 : DV) (h : H) : Ans :=
  wK (callK E 109 [r0, (.int .i64 (.ofNat 1))] h) fun x1 h2 =>
  vK (v_ext 0 x1) fun x3 =>
  vK (v_ext 1 x1) fun x4 =>
  bK x4
  (vK (v_ixS x3 (.int .i64 (.ofNat 0))) fun x5 =>
  vK (v_conv .i64 x5) fun x6 =>
  some (x6, h2))
  (some ((.int .i64 (.ofNat 0)), h2))
def C56_0 : DC := (.seq (.reg [⟨(some p2), none, (.e (.mv (.c (.int .i64 (.ofNat 0)))))⟩]) (.seq (.seq (.reg [⟨(some p6), none, (.e (.mv (.r p0)))⟩, ⟨(some p7), none, (.c (.f 109 [(.r p6), (.c (.int .i64 (.ofNat 1)))]))⟩, ⟨(some p5), none, (.e (.mv (.r p7)))⟩, ⟨(some p8), none, (.e (.ext 0 (.r p5)))⟩, ⟨(some p9), none, (.e (.ext 1 (.r p5)))⟩, ⟨(some p3), none, (.e (.mv (.r p8)))⟩, ⟨(some p4), none, (.e (.mv (.r p9)))⟩]) (.seq (.reg [⟨(some p10), none, (.e (.mv (.r p4)))⟩]) (.cond (.r p10) (.seq (.reg [⟨(some p11), none, (.e (.mv (.r p3)))⟩, ⟨(some p12), none, (.e (.ixS (.r p11) (.c (.int .i64 (.ofNat 0)))))⟩, ⟨(some p13), none, (.e (.conv .i64 (.r p12)))⟩, ⟨(some p2), none, (.e (.mv (.r p13)))⟩]) .ret) .skip))) (.seq (.reg [⟨(some p2), none, (.e (.mv (.c (.int .i64 (.ofNat 0)))))⟩]) .ret)))
theorem I56_0 (E : Env) : Is E C56_0 (retK3 R56) (fun σ h => J56_0 E (σ p0) h) :=
  fun σ h => by kernel_rfl
def D56 : DF := ⟨1, 14, C56_0, R56⟩
noncomputable def S56 (E : Env) : Fun := fun args h => aS args fun r0 args => a0 args (J56_0 E r0 h)
theorem S56_eq (E : Env) (args : List DV) (h : H) : runFn E D56 args h = S56 E args h :=
  Is.fn1 (d := D56) (I56_0 E) rfl (fun r0 h => J56_0 E r0 h) (fun r0 h => by kernel_rfl) args h
/- (*hurdle/codec.Reader).Int -/
def R57 : List RV := [(.r p2)]
noncomputable def J57_0 (E : Env) (r0 : DV) (h : H) : Ans :=
  vK (v_eqv .ptr false h.get r0 .nilp) fun x1 =>
  bK x1
  (some ((.int .i64 (.ofNat 0)), h))
  (vK (v_nilchk r0) fun x2 =>
  vK (v_fa 0 x2) fun x3 =>
  vK (v_ld h.get x3) fun x4 =>
  wK (callK E 110 [x4] h) fun x5 h6 =>
  vK (v_ext 0 x5) fun x7 =>
  vK (v_ext 1 x5) fun x8 =>
  vK (v_eql x8 (.int .i64 (.ofNat 0))) fun x9 =>
  bK x9
  (wK (callK E 111 [r0] h6) fun x10 h11 =>
  some ((.int .i64 (.ofNat 0)), h11))
  (wK (callK E 109 [r0, x8] h6) fun x12 h13 =>
  vK (v_shr x7 (.int .u64 (.ofNat 1))) fun x14 =>
  vK (v_conv .i64 x14) fun x15 =>
  vK (v_and x7 (.int .u64 (.ofNat 1))) fun x16 =>
  vK (v_conv .i64 x16) fun x17 =>
  vK (v_neg x17) fun x18 =>
  vK (v_xor x15 x18) fun x19 =>
  some (x19, h13)))
def C57_0 : DC := (.seq (.reg [⟨(some p2), none, (.e (.mv (.c (.int .i64 (.ofNat 0)))))⟩]) (.seq (.seq (.reg [⟨(some p5), none, (.e (.mv (.r p0)))⟩, ⟨(some p6), none, (.e (.eqv .ptr false (.r p5) (.c .nilp)))⟩]) (.cond (.r p6) (.seq (.reg [⟨(some p2), none, (.e (.mv (.c (.int .i64 (.ofNat 0)))))⟩]) .ret) .skip)) (.seq (.reg [⟨(some p8), none, (.e (.mv (.r p0)))⟩, ⟨(some p9), none, (.e (.nilchk (.r p8)))⟩, ⟨(some p10), none, (.e (.fa 0 (.r p9)))⟩, ⟨(some p11), none, (.e (.ld (.r p10)))⟩, ⟨(some p12), none, (.c (.f 110 [(.r p11)]))⟩, ⟨(some p7), none, (.e (.mv (.r p12)))⟩, ⟨(some p13), none, (.e (.ext 0 (.r p7)))⟩, ⟨(some p14), none, (.e (.ext 1 (.r p7)))⟩, ⟨(some p3), none, (.e (.mv (.r p13)))⟩, ⟨(some p4), none, (.e (.mv (.r p14)))⟩]) (.seq (.seq (.reg [⟨(some p15), none, (.e (.mv (.r p4)))⟩, ⟨(some p16), none, (.e (.bin .eql (.r p15) (.c (.int .i64 (.ofNat 0)))))⟩]) (.cond (.r p16) (.seq (.reg [⟨(some p17), none, (.e (.mv (.r p0)))⟩, ⟨(some p18), none, (.c (.f 111 [(.r p17)]))⟩]) (.seq (.reg [⟨(some p2), none, (.e (.mv (.c (.int .i64 (.ofNat 0)))))⟩]) .ret)) .skip)) (.seq (.reg [⟨(some p19), none, (.e (.mv (.r p0)))⟩, ⟨(some p20), none, (.e (.mv (.r p4)))⟩, ⟨(some p21), none, (.c (.f 109 [(.r p19), (.r p20)]))⟩]) (.seq (.reg [⟨(some p22), none, (.e (.mv (.r p3)))⟩, ⟨(some p23), none, (.e (.bin .shr (.r p22) (.c (.int .u64 (.ofNat 1)))))⟩, ⟨(some p24), none, (.e (.conv .i64 (.r p23)))⟩, ⟨(some p25), none, (.e (.mv (.r p3)))⟩, ⟨(some p26), none, (.e (.bin .and (.r p25) (.c (.int .u64 (.ofNat 1)))))⟩, ⟨(some p27), none, (.e (.conv .i64 (.r p26)))⟩, ⟨(some p28), none, (.e (.neg (.r p27)))⟩, ⟨(some p29), none, (.e (.bin .xor (.r p24) (.r p28)))⟩, ⟨(some p2), none, (.e (.mv (.r p29)))⟩]) .ret))))))
theorem I57_0 (E : Env) : Is E C57_0 (retK3 R57) (fun σ h => J57_0 E (σ p0) h) :=
  fun σ h => by kernel_rfl
def D57 : DF := ⟨1, 30, C57_0, R57⟩
noncomputable def S57 (E : Env) : Fun := fun args h => aS args fun r0 args => a0 args (J57_0 E r0 h)
theorem S57_eq (E : Env) (args : List DV) (h : H) : runFn E D57 args h = S57 E args h :=
  Is.fn1 (d := D57) (I57_0 E) rfl (fun r0 h => J57_0 E r0 h) (fun r0 h => by kernel_rfl) args h
/- (*hurdle/codec.Reader).Text -/
def R58 : List RV := [(.r p2)]
noncomputable def J58_0 (E : Env) (r0 : DV) (h : H) : Ans :=
  wK (callK E 57 [r0] h) fun x1 h2 =>
  wK (callK E 109 [r0, x1] h2) fun x3 h4 =>
  vK (v_ext 0 x3) fun x5 =>
  vK (v_ext 1 x3) fun x6 =>
  some (x5, h4)
def C58_0 : DC := (.seq (.reg [⟨(some p2), none, (.e (.mv (.c (.str []))))⟩]) (.seq (.reg [⟨(some p6), none, (.e (.mv (.r p0)))⟩, ⟨(some p7), none, (.e (.mv (.r p0)))⟩, ⟨(some p8), none, (.c (.f 57 [(.r p7)]))⟩, ⟨(some p9), none, (.c (.f 109 [(.r p6), (.r p8)]))⟩, ⟨(some p5), none, (.e (.mv (.r p9)))⟩, ⟨(some p10), none, (.e (.ext 0 (.r p5)))⟩, ⟨(some p11), none, (.e (.ext 1 (.r p5)))⟩, ⟨(some p3), none, (.e (.mv (.r p10)))⟩, ⟨(some p4), none, (.e (.mv (.r p11)))⟩]) (.seq (.reg [⟨(some p12), none, (.e (.mv (.r p3)))⟩, ⟨(some p2), none, (.e (.mv (.r p12)))⟩]) .ret)))
theorem I58_0 (E : Env) : Is E C58_0 (retK3 R58) (fun σ h => J58_0 E (σ p0) h) :=
  fun σ h => by kernel_rfl
def D58 : DF := ⟨1, 13, C58_0, R58⟩
noncomputable def S58 (E : Env) : Fun := fun args h => aS args fun r0 args => a0 args (J58_0 E r0 h)
theorem S58_eq (E : Env) (args : List DV) (h : H) : runFn E D58 args h = S58 E args h :=
  Is.fn1 (d := D58) (I58_0 E) rfl (fun r0 h => J58_0 E r0 h) (fun r0 h => by kernel_rfl) args h
/- (*hurdle/codec.Reader).Done -/
def R59 : List RV := [(.r p2)]
noncomputable def J59_0 (E : Env) (r0 : DV) (h : H) : Ans :=
  vK (v_eqv .ptr false h.get r0 .nilp) fun x1 =>
  bK x1
  (some ((.int .i64 (.ofNat 1)), h))
  (vK (v_nilchk r0) fun x2 =>
  vK (v_fa 1 x2) fun x3 =>
  vK (v_ld h.get x3) fun x4 =>
  gdK x4 false (fun kk => kk r0 h) h fun x5 h6 =>
  gdK x4 false (fun kk => vK (v_nilchk x5) fun v => kk v h6) h6 fun x7 h8 =>
  gdK x4 false (fun kk => vK (v_fa 0 x7) fun v => kk v h8) h8 fun x9 h10 =>
  gdK x4 false (fun kk => vK (v_ld h10.get x9) fun v => kk v h10) h10 fun x11 h12 =>
  gdK x4 false (fun kk => vK (v_neq x11 (.str [])) fun v => kk v h12) h12 fun x13 h14 =>
  vK (v_pick x4 (.bool true) x13) fun x15 =>
  bK x15
  (some ((.int .i64 (.ofNat 3)), h14))
  (some ((.int .i64 (.ofNat 0)), h14)))
def C59_0 : DC := (.seq (.reg [⟨(some p2), none, (.e (.mv (.c (.int .i64 (.ofNat 0)))))⟩]) (.seq (.block 0 (.seq (.reg [⟨(some p4), none, (.e (.mv (.r p0)))⟩, ⟨(some p5), none, (.e (.eqv .ptr false (.r p4) (.c .nilp)))⟩, ⟨(some p3), none, (.e (.mv (.r p5)))⟩]) (.cond (.r p3) (.seq (.reg [⟨(some p2), none, (.e (.mv (.c (.int .i64 (.ofNat 1)))))⟩]) .ret) (.seq (.reg [⟨(some p7), none, (.e (.mv (.r p0)))⟩, ⟨(some p8), none, (.e (.nilchk (.r p7)))⟩, ⟨(some p9), none, (.e (.fa 1 (.r p8)))⟩, ⟨(some p10), none, (.e (.ld (.r p9)))⟩, ⟨(some p11), none, (.e (.mv (.r p10)))⟩, ⟨(some p12), (some (p11, false)), (.e (.mv (.r p0)))⟩, ⟨(some p13), (some (p11, false)), (.e (.nilchk (.r p12)))⟩, ⟨(some p14), (some (p11, false)), (.e (.fa 0 (.r p13)))⟩, ⟨(some p15), (some (p11, false)), (.e (.ld (.r p14)))⟩, ⟨(some p16), (some (p11, false)), (.e (.bin .neq (.r p15) (.c (.str []))))⟩, ⟨(some p17), none, (.e (.pick (.r p11) (.c (.bool true)) (.r p16)))⟩, ⟨(some p6), none, (.e (.mv (.r p17)))⟩]) (.cond (.r p6) (.seq (.reg [⟨(some p2), none, (.e (.mv (.c (.int .i64 (.ofNat 3)))))⟩]) .ret) .skip))))) (.seq (.reg [⟨(some p2), none, (.e (.mv (.c (.int .i64 (.ofNat 0)))))⟩]) .ret)))
theorem I59_0 (E : Env) : Is E C59_0 (retK3 R59) (fun σ h => J59_0 E (σ p0) h) :=
  fun σ h => by kernel_rfl
def D59 : DF := ⟨1, 18, C59_0, R59⟩
noncomputable def S59 (E : Env) : Fun := fun args h => aS args fun r0 args => a0 args (J59_0 E r0 h)
theorem S59_eq (E : Env) (args : List DV) (h : H) : runFn E D59 args h = S59 E args h :=
  Is.fn1 (d := D59) (I59_0 E) rfl (fun r0 h => J59_0 E r0 h) (fun r0 h => by kernel_rfl) args h
/- hurdle/hurdleref03.TakeByte -/
def R60 : List RV := [(.cells p2 2), (.r p3)]
noncomputable def J60_0 (E : Env) (r0 : DV) (h : H) : Ans :=
  n_box r0 h fun x1 h2 =>
  n_alc 2 2 (.list [(.str []), (.bool false)]) h2 fun x3 h4 =>
  vK (v_fa 0 x1) fun x5 =>
  vK (v_ld h4.get x5) fun x6 =>
  vK (v_eql x6 (.str [])) fun x7 =>
  bK x7
  (vK (v_ldN 2 h4.get x1) fun x8 =>
  wK (callK E 112 [x8] h4) fun x9 h10 =>
  wK (dStF 2 x3 x9 h10) fun x11 h12 =>
  vK (v_ldN 2 h12.get x3) fun x13 =>
  some ((.tup [x13, (.int .i64 (.ofNat 0))]), h12))
  (vK (v_fa 0 x1) fun x14 =>
  vK (v_ld h4.get x14) fun x15 =>
  vK (v_slS x15 (some (.int .i64 (.ofNat 1))) none) fun x16 =>
  vK (v_bld [(.str []), (.bool false)] [(0, 1, x16)]) fun x17 =>
  vK (v_fa 0 x1) fun x18 =>
  vK (v_ld h4.get x18) fun x19 =>
  vK (v_ixS x19 (.int .i64 (.ofNat 0))) fun x20 =>
  vK (v_conv .i64 x20) fun x21 =>
  wK (dStF 2 x3 x17 h4) fun x22 h23 =>
  rK (rcK (v_ld h23.get x18) x19) <|
  vK (v_ldN 2 h23.get x3) fun x24 =>
  some ((.tup [x24, x21]), h23))
def C60_0 : DC := (.seq (.reg [⟨(some p1), none, (.e (.box (.r p0)))⟩, ⟨(some p2), none, (.e (.alc 2 2 (.list [(.str []), (.bool false)])))⟩, ⟨(some p3), none, (.e (.mv (.c (.int .i64 (.ofNat 0)))))⟩]) (.seq (.seq (.reg [⟨(some p4), none, (.e (.fa 0 (.r p1)))⟩, ⟨(some p5), none, (.e (.ld (.r p4)))⟩, ⟨(some p6), none, (.e (.bin .eql (.r p5) (.c (.str []))))⟩]) (.cond (.r p6) (.seq (.reg [⟨(some p7), none, (.e (.ldN 2 (.r p1)))⟩, ⟨(some p8), none, (.c (.f 112 [(.r p7)]))⟩, ⟨none, none, (.w (.st 2 (.r p2) (.r p8)))⟩, ⟨(some p3), none, (.e (.mv (.c (.int .i64 (.ofNat 0)))))⟩]) .ret) .skip)) (.seq (.drg [⟨0, ⟨(some p9), none, (.e (.fa 0 (.r p1)))⟩, [], false⟩, ⟨1, ⟨(some p10), none, (.e (.ld (.r p9)))⟩, [], false⟩, ⟨2, ⟨(some p11), none, (.e (.slS (.r p10) (some (.c (.int .i64 (.ofNat 1)))) none))⟩, [], false⟩, ⟨3, ⟨(some p12), none, (.e (.bld [(.str []), (.bool false)] [(0, 1, (.r p11))]))⟩, [], false⟩, ⟨4, ⟨(some p13), none, (.e (.fa 0 (.r p1)))⟩, [], false⟩, ⟨5, ⟨(some p14), none, (.e (.ld (.r p13)))⟩, [], false⟩, ⟨6, ⟨(some p15), none, (.e (.ixS (.r p14) (.c (.int .i64 (.ofNat 0)))))⟩, [], false⟩, ⟨7, ⟨(some p16), none, (.e (.conv .i64 (.r p15)))⟩, [], false⟩, ⟨8, ⟨none, none, (.w (.st 2 (.r p2) (.r p12)))⟩, [5], false⟩, ⟨9, ⟨(some p3), none, (.e (.mv (.r p16)))⟩, [], false⟩]) .ret)))
theorem I60_0 (E : Env) : Is E C60_0 (retK3 R60) (fun σ h => J60_0 E (σ p0) h) :=
  fun σ h => by kernel_rfl
def D60 : DF := ⟨1, 17, C60_0, R60⟩
noncomputable def S60 (E : Env) : Fun := fun args h => aS args fun r0 args => a0 args (J60_0 E r0 h)
theorem S60_eq (E : Env) (args : List DV) (h : H) : runFn E D60 args h = S60 E args h :=
  Is.fn1 (d := D60) (I60_0 E) rfl (fun r0 h => J60_0 E r0 h) (fun r0 h => by kernel_rfl) args h
/- hurdle/hurdleref03.TakeInt -/
def R61 : List RV := [(.cells p2 2), (.r p3)]
noncomputable def J61_1 (E : Env) (r1 r2 : DV) (h : H) : Ans :=
  vK (v_ldN 2 h.get r1) fun x1 =>
  wK (callK E 112 [x1] h) fun x2 h3 =>
  wK (dStF 2 r2 x2 h3) fun x4 h5 =>
  vK (v_ldN 2 h5.get r2) fun x6 =>
  some ((.tup [x6, (.int .i64 (.ofNat 0))]), h5)
def C61_1 : DC := (.seq (.reg [⟨(some p66), none, (.e (.ldN 2 (.r p1)))⟩, ⟨(some p67), none, (.c (.f 112 [(.r p66)]))⟩, ⟨none, none, (.w (.st 2 (.r p2) (.r p67)))⟩, ⟨(some p3), none, (.e (.mv (.c (.int .i64 (.ofNat 0)))))⟩]) .ret)
noncomputable def J61_3 (E : Env) (i2 : DV → DV → H → Ans) (r4 r5 : DV) (h : H) : Ans :=
  vK (v_add r5 (.int .i64 (.ofNat 1))) fun x1 =>
  i2 r4 x1 h
def C61_3 : DC := (.reg [⟨(some p17), none, (.e (.mv (.r p5)))⟩, ⟨(some p18), none, (.e (.bin .add (.r p17) (.c (.int .i64 (.ofNat 1)))))⟩, ⟨(some p5), none, (.e (.mv (.r p18)))⟩])
noncomputable def J61_4 (E : Env) (r1 r2 r5 r7 : DV) (h : H) : Ans :=
  vK (v_fa 0 r1) fun x1 =>
  vK (v_ld h.get x1) fun x2 =>
  vK (v_add r5 (.int .i64 (.ofNat 1))) fun x3 =>
  vK (v_slS x2 (some x3) none) fun x4 =>
  vK (v_bld [(.str []), (.bool false)] [(0, 1, x4)]) fun x5 =>
  wK (dStF 2 r2 x5 h) fun x6 h7 =>
  vK (v_ldN 2 h7.get r2) fun x8 =>
  some ((.tup [x8, r7]), h7)
def C61_4 : DC := (.seq (.reg [⟨(some p59), none, (.e (.fa 0 (.r p1)))⟩, ⟨(some p60), none, (.e (.ld (.r p59)))⟩, ⟨(some p61), none, (.e (.mv (.r p5)))⟩, ⟨(some p62), none, (.e (.bin .add (.r p61) (.c (.int .i64 (.ofNat 1)))))⟩, ⟨(some p63), none, (.e (.slS (.r p60) (some (.r p62)) none))⟩, ⟨(some p64), none, (.e (.bld [(.str []), (.bool false)] [(0, 1, (.r p63))]))⟩, ⟨(some p65), none, (.e (.mv (.r p7)))⟩, ⟨none, none, (.w (.st 2 (.r p2) (.r p64)))⟩, ⟨(some p3), none, (.e (.mv (.r p65)))⟩]) .ret)
noncomputable def B61_2 (E : Env) (r1 r2 : DV) (i2 : DV → DV → H → Ans) (r4 r5 : DV) (h : H) : Ans :=
  vK (v_fa 0 r1) fun x1 =>
  vK (v_ld h.get x1) fun x2 =>
  vK (v_lenS x2) fun x3 =>
  vK (v_lss r5 x3) fun x4 =>
  gdK x4 true (fun kk => kk r5 h) h fun x5 h6 =>
  gdK x4 true (fun kk => vK (v_lss x5 (.int .i64 (.ofNat 10))) fun v => kk v h6) h6 fun x7 h8 =>
  vK (v_pick x4 x7 (.bool false)) fun x9 =>
  bK x9
  (vK (v_fa 0 r1) fun x10 =>
  vK (v_ld h8.get x10) fun x11 =>
  vK (v_ixS x11 r5) fun x12 =>
  vK (v_conv .u64 x12) fun x13 =>
  vK (v_eql r5 (.int .i64 (.ofNat 9))) fun x14 =>
  gdK x14 true (fun kk => kk x13 h8) h8 fun x15 h16 =>
  gdK x14 true (fun kk => vK (v_gtr x15 (.int .u64 (.ofNat 1))) fun v => kk v h16) h16 fun x17 h18 =>
  vK (v_pick x14 x17 (.bool false)) fun x19 =>
  gdK x19 false (fun kk => kk r5 h18) h18 fun x20 h21 =>
  gdK x19 false (fun kk => vK (v_gtr x20 (.int .i64 (.ofNat 0))) fun v => kk v h21) h21 fun x22 h23 =>
  gdK x19 false (fun kk => kk x22 h23) h23 fun x24 h25 =>
  gdK x24 true (fun kk => kk x13 h25) h25 fun x26 h27 =>
  gdK x24 true (fun kk => vK (v_eql x26 (.int .u64 (.ofNat 0))) fun v => kk v h27) h27 fun x28 h29 =>
  gdK x19 false (fun kk => vK (v_pick x24 x28 (.bool false)) fun v => kk v h29) h29 fun x30 h31 =>
  vK (v_pick x19 (.bool true) x30) fun x32 =>
  bK x32
  (vK (v_ldN 2 h31.get r1) fun x33 =>
  wK (callK E 112 [x33] h31) fun x34 h35 =>
  wK (dStF 2 r2 x34 h35) fun x36 h37 =>
  vK (v_ldN 2 h37.get r2) fun x38 =>
  some ((.tup [x38, (.int .i64 (.ofNat 0))]), h37))
  (vK (v_and x13 (.int .u64 (.ofNat 127))) fun x39 =>
  vK (v_mul (.int .i64 (.ofNat 7)) r5) fun x40 =>
  vK (v_conv .u64 x40) fun x41 =>
  vK (v_shl x39 x41) fun x42 =>
  vK (v_or r4 x42) fun x43 =>
  vK (v_lss x13 (.int .u64 (.ofNat 128))) fun x44 =>
  bK x44
  (vK (v_shr x43 (.int .u64 (.ofNat 1))) fun x45 =>
  vK (v_conv .i64 x45) fun x46 =>
  vK (v_and x43 (.int .u64 (.ofNat 1))) fun x47 =>
  vK (v_eql x47 (.int .u64 (.ofNat 1))) fun x48 =>
  bK x48
  (vK (v_neg x46) fun x49 =>
  vK (v_sub x49 (.int .i64 (.ofNat 1))) fun x50 =>
  J61_4 E r1 r2 r5 x50 h31)
  (J61_4 E r1 r2 r5 x46 h31))
  (J61_3 E i2 x43 r5 h31)))
  (J61_1 E r1 r2 h8)
noncomputable def L61_2 (E : Env) (r1 r2 : DV) (n : Nat) : DV → DV → H → Ans := Nat.rec (motive := fun _ => DV → DV → H → Ans) (fun _ _ _ => none) (fun _ i => B61_2 E r1 r2 i) n
def C61_2 : DC := (.loop (.seq (.seq (.reg [⟨(some p8), none, (.e (.mv (.r p5)))⟩, ⟨(some p9), none, (.e (.fa 0 (.r p1)))⟩, ⟨(some p10), none, (.e (.ld (.r p9)))⟩, ⟨(some p11), none, (.e (.lenS (.r p10)))⟩, ⟨(some p12), none, (.e (.bin .lss (.r p8) (.r p11)))⟩, ⟨(some p13), none, (.e (.mv (.r p12)))⟩, ⟨(some p14), (some (p13, true)), (.e (.mv (.r p5)))⟩, ⟨(some p15), (some (p13, true)), (.e (.bin .lss (.r p14) (.c (.int .i64 (.ofNat 10)))))⟩, ⟨(some p16), none, (.e (.pick (.r p13) (.r p15) (.c (.bool false))))⟩]) (.cond (.r p16) .skip (.exit 0))) (.seq (.block 1 (.seq (.reg [⟨(some p19), none, (.e (.fa 0 (.r p1)))⟩, ⟨(some p20), none, (.e (.ld (.r p19)))⟩, ⟨(some p21), none, (.e (.mv (.r p5)))⟩, ⟨(some p22), none, (.e (.ixS (.r p20) (.r p21)))⟩, ⟨(some p23), none, (.e (.conv .u64 (.r p22)))⟩, ⟨(some p6), none, (.e (.mv (.r p23)))⟩]) (.seq (.seq (.reg [⟨(some p24), none, (.e (.mv (.r p5)))⟩, ⟨(some p25), none, (.e (.bin .eql (.r p24) (.c (.int .i64 (.ofNat 9)))))⟩, ⟨(some p26), none, (.e (.mv (.r p25)))⟩, ⟨(some p27), (some (p26, true)), (.e (.mv (.r p6)))⟩, ⟨(some p28), (some (p26, true)), (.e (.bin .gtr (.r p27) (.c (.int .u64 (.ofNat 1)))))⟩, ⟨(some p29), none, (.e (.pick (.r p26) (.r p28) (.c (.bool false))))⟩, ⟨(some p30), none, (.e (.mv (.r p29)))⟩, ⟨(some p31), (some (p30, false)), (.e (.mv (.r p5)))⟩, ⟨(some p32), (some (p30, false)), (.e (.bin .gtr (.r p31) (.c (.int .i64 (.ofNat 0)))))⟩, ⟨(some p33), (some (p30, false)), (.e (.mv (.r p32)))⟩, ⟨(some p34), (some (p33, true)), (.e (.mv (.r p6)))⟩, ⟨(some p35), (some (p33, true)), (.e (.bin .eql (.r p34) (.c (.int .u64 (.ofNat 0)))))⟩, ⟨(some p36), (some (p30, false)), (.e (.pick (.r p33) (.r p35) (.c (.bool false))))⟩, ⟨(some p37), none, (.e (.pick (.r p30) (.c (.bool true)) (.r p36)))⟩]) (.cond (.r p37) (.seq (.reg [⟨(some p38), none, (.e (.ldN 2 (.r p1)))⟩, ⟨(some p39), none, (.c (.f 112 [(.r p38)]))⟩, ⟨none, none, (.w (.st 2 (.r p2) (.r p39)))⟩, ⟨(some p3), none, (.e (.mv (.c (.int .i64 (.ofNat 0)))))⟩]) .ret) .skip)) (.seq (.reg [⟨(some p40), none, (.e (.mv (.r p4)))⟩, ⟨(some p41), none, (.e (.mv (.r p6)))⟩, ⟨(some p42), none, (.e (.bin .and (.r p41) (.c (.int .u64 (.ofNat 127)))))⟩, ⟨(some p43), none, (.e (.mv (.r p5)))⟩, ⟨(some p44), none, (.e (.bin .mul (.c (.int .i64 (.ofNat 7))) (.r p43)))⟩, ⟨(some p45), none, (.e (.conv .u64 (.r p44)))⟩, ⟨(some p46), none, (.e (.bin .shl (.r p42) (.r p45)))⟩, ⟨(some p47), none, (.e (.bin .or (.r p40) (.r p46)))⟩, ⟨(some p4), none, (.e (.mv (.r p47)))⟩]) (.seq (.reg [⟨(some p48), none, (.e (.mv (.r p6)))⟩, ⟨(some p49), none, (.e (.bin .lss (.r p48) (.c (.int .u64 (.ofNat 128)))))⟩]) (.cond (.r p49) (.seq (.reg [⟨(some p50), none, (.e (.mv (.r p4)))⟩, ⟨(some p51), none, (.e (.bin .shr (.r p50) (.c (.int .u64 (.ofNat 1)))))⟩, ⟨(some p52), none, (.e (.conv .i64 (.r p51)))⟩, ⟨(some p7), none, (.e (.mv (.r p52)))⟩]) (.seq (.seq (.reg [⟨(some p53), none, (.e (.mv (.r p4)))⟩, ⟨(some p54), none, (.e (.bin .and (.r p53) (.c (.int .u64 (.ofNat 1)))))⟩, ⟨(some p55), none, (.e (.bin .eql (.r p54) (.c (.int .u64 (.ofNat 1)))))⟩]) (.cond (.r p55) (.reg [⟨(some p56), none, (.e (.mv (.r p7)))⟩, ⟨(some p57), none, (.e (.neg (.r p56)))⟩, ⟨(some p58), none, (.e (.bin .sub (.r p57) (.c (.int .i64 (.ofNat 1)))))⟩, ⟨(some p7), none, (.e (.mv (.r p58)))⟩]) .skip)) C61_4)) .skip)))))) C61_3)))
noncomputable def J61_0 (E : Env) (r0 : DV) (h : H) : Ans :=
  n_box r0 h fun x1 h2 =>
  n_alc 2 2 (.list [(.str []), (.bool false)]) h2 fun x3 h4 =>
  L61_2 E x1 x3 FUEL (.int .u64 (.ofNat 0)) (.int .i64 (.ofNat 0)) h4
def C61_0 : DC := (.seq (.reg [⟨(some p1), none, (.e (.box (.r p0)))⟩, ⟨(some p2), none, (.e (.alc 2 2 (.list [(.str []), (.bool false)])))⟩, ⟨(some p3), none, (.e (.mv (.c (.int .i64 (.ofNat 0)))))⟩]) (.seq (.reg [⟨(some p4), none, (.e (.mv (.c (.int .u64 (.ofNat 0)))))⟩]) (.seq (.seq (.reg [⟨(some p5), none, (.e (.mv (.c (.int .i64 (.ofNat 0)))))⟩]) (.block 0 C61_2)) C61_1)))
theorem I61_1 (E : Env) : Is E C61_1 (retK3 R61) (fun σ h => J61_1 E (σ p1) (σ p2) h) :=
  fun σ h => by kernel_rfl
noncomputable abbrev K61_5 (E : Env) : KT2 (DV × H) := (thenK3 (fun σ h => J61_1 E (σ p1) (σ p2) h) (retK3 R61))
noncomputable abbrev K61_6 (E : Env) (n2 : Nat) : KT2 (DV × H) := (thenK3 (fun σ h => (L61_2 E (σ p1) (σ p2) n2) (σ p4) (σ p5) h) (blockK3 0 (K61_5 E)))
theorem I61_3 (E : Env) (n2 : Nat) : Is E C61_3 (K61_6 E n2) (fun σ h => J61_3 E (L61_2 E (σ p1) (σ p2) n2) (σ p4) (σ p5) h) :=
  fun σ h => by kernel_rfl
noncomputable abbrev K61_7 (E : Env) (n2 : Nat) : KT2 (DV × H) := (thenK3 (fun σ h => J61_3 E (L61_2 E (σ p1) (σ p2) n2) (σ p4) (σ p5) h) (K61_6 E n2))
theorem I61_4 (E : Env) (n2 : Nat) : Is E C61_4 (blockK3 1 (K61_7 E n2)) (fun σ h => J61_4 E (σ p1) (σ p2) (σ p5) (σ p7) h) :=
  fun σ h => by kernel_rfl
theorem I61_2 (E : Env) : Is E C61_2 (blockK3 0 (K61_5 E)) (fun σ h => L61_2 E (σ p1) (σ p2) FUEL (σ p4) (σ p5) h) :=
  Is.loop (fun n2 σ h => L61_2 E (σ p1) (σ p2) n2 (σ p4) (σ p5) h) (by kernel_rfl) fun n2 => Is.as (Is.seq (Is.seq (I61_3 E n2) (Is.block (Is.seq (Is.seq (Is.seq (Is.seq (Is.cond (Is.seq (Is.seq (I61_4 E n2) (Is.leaf _)) (Is.leaf _)) (Is.leaf _)) (Is.leaf _)) (Is.leaf _)) (Is.leaf _)) (Is.leaf _)))) (Is.leaf _)) fun σ h => by kernel_rfl
theorem I61_0 (E : Env) : Is E C61_0 (retK3 R61) (fun σ h => J61_0 E (σ p0) h) :=
  Is.as (Is.seq (Is.seq (Is.seq (I61_1 E) (Is.seq (Is.block (I61_2 E)) (Is.leaf _))) (Is.leaf _)) (Is.leaf _)) fun σ h => by kernel_rfl
def D61 : DF := ⟨1, 68, C61_0, R61⟩
noncomputable def S61 (E : Env) : Fun := fun args h => aS args fun r0 args => a0 args (J61_0 E r0 h)
theorem S61_eq (E : Env) (args : List DV) (h : H) : runFn E D61 args h = S61 E args h :=
  Is.fn1 (d := D61) (I61_0 E) rfl (fun r0 h => J61_0 E r0 h) (fun r0 h => by kernel_rfl) args h
/- hurdle/hurdleref03.TakeText -/
def R62 : List RV := [(.cells p2 2), (.r p3)]
noncomputable def J62_0 (E : Env) (r0 : DV) (h : H) : Ans :=
  n_box r0 h fun x1 h2 =>
  n_alc 2 2 (.list [(.str []), (.bool false)]) h2 fun x3 h4 =>
  vK (v_ldN 2 h4.get x1) fun x5 =>
  wK (callK E 61 [x5] h4) fun x6 h7 =>
  vK (v_ext 0 x6) fun x8 =>
  vK (v_ext 1 x6) fun x9 =>
  n_alc 2 2 (.list [(.str []), (.bool false)]) h7 fun x10 h11 =>
  wK (dStF 2 x10 x8 h11) fun x12 h13 =>
  vK (v_fa 1 x10) fun x14 =>
  vK (v_ld h13.get x14) fun x15 =>
  gdK x15 false (fun kk => kk x9 h13) h13 fun x16 h17 =>
  gdK x15 false (fun kk => vK (v_lss x16 (.int .i64 (.ofNat 0))) fun v => kk v h17) h17 fun x18 h19 =>
  vK (v_pick x15 (.bool true) x18) fun x20 =>
  gdK x20 false (fun kk => kk x9 h19) h19 fun x21 h22 =>
  gdK x20 false (fun kk => vK (v_fa 0 x10) fun v => kk v h22) h22 fun x23 h24 =>
  gdK x20 false (fun kk => vK (v_ld h24.get x23) fun v => kk v h24) h24 fun x25 h26 =>
  gdK x20 false (fun kk => vK (v_lenS x25) fun v => kk v h26) h26 fun x27 h28 =>
  gdK x20 false (fun kk => vK (v_gtr x21 x27) fun v => kk v h28) h28 fun x29 h30 =>
  vK (v_pick x20 (.bool true) x29) fun x31 =>
  bK x31
  (vK (v_ldN 2 h30.get x1) fun x32 =>
  wK (callK E 112 [x32] h30) fun x33 h34 =>
  wK (dStF 2 x3 x33 h34) fun x35 h36 =>
  vK (v_ldN 2 h36.get x3) fun x37 =>
  some ((.tup [x37, (.str [])]), h36))
  (vK (v_fa 0 x10) fun x38 =>
  vK (v_ld h30.get x38) fun x39 =>
  vK (v_slS x39 (some x9) none) fun x40 =>
  vK (v_bld [(.str []), (.bool false)] [(0, 1, x40)]) fun x41 =>
  vK (v_fa 0 x10) fun x42 =>
  vK (v_ld h30.get x42) fun x43 =>
  vK (v_slS x43 none (some x9)) fun x44 =>
  wK (dStF 2 x3 x41 h30) fun x45 h46 =>
  rK (rcK (v_ld h46.get x42) x43) <|
  vK (v_ldN 2 h46.get x3) fun x47 =>
  some ((.tup [x47, x44]), h46))
def C62_0 : DC := (.seq (.reg [⟨(some p1), none, (.e (.box (.r p0)))⟩, ⟨(some p2), none, (.e (.alc 2 2 (.list [(.str []), (.bool false)])))⟩, ⟨(some p3), none, (.e (.mv (.c (.str []))))⟩]) (.seq (.reg [⟨(some p7), none, (.e (.ldN 2 (.r p1)))⟩, ⟨(some p8), none, (.c (.f 61 [(.r p7)]))⟩, ⟨(some p6), none, (.e (.mv (.r p8)))⟩, ⟨(some p9), none, (.e (.ext 0 (.r p6)))⟩, ⟨(some p10), none, (.e (.ext 1 (.r p6)))⟩, ⟨(some p4), none, (.e (.alc 2 2 (.list [(.str []), (.bool false)])))⟩, ⟨none, none, (.w (.st 2 (.r p4) (.r p9)))⟩, ⟨(some p5), none, (.e (.mv (.r p10)))⟩]) (.seq (.seq (.reg [⟨(some p11), none, (.e (.fa 1 (.r p4)))⟩, ⟨(some p12), none, (.e (.ld (.r p11)))⟩, ⟨(some p13), none, (.e (.mv (.r p12)))⟩, ⟨(some p14), (some (p13, false)), (.e (.mv (.r p5)))⟩, ⟨(some p15), (some (p13, false)), (.e (.bin .lss (.r p14) (.c (.int .i64 (.ofNat 0)))))⟩, ⟨(some p16), none, (.e (.pick (.r p13) (.c (.bool true)) (.r p15)))⟩, ⟨(some p17), none, (.e (.mv (.r p16)))⟩, ⟨(some p18), (some (p17, false)), (.e (.mv (.r p5)))⟩, ⟨(some p19), (some (p17, false)), (.e (.fa 0 (.r p4)))⟩, ⟨(some p20), (some (p17, false)), (.e (.ld (.r p19)))⟩, ⟨(some p21), (some (p17, false)), (.e (.lenS (.r p20)))⟩, ⟨(some p22), (some (p17, false)), (.e (.bin .gtr (.r p18) (.r p21)))⟩, ⟨(some p23), none, (.e (.pick (.r p17) (.c (.bool true)) (.r p22)))⟩]) (.cond (.r p23) (.seq (.reg [⟨(some p24), none, (.e (.ldN 2 (.r p1)))⟩, ⟨(some p25), none, (.c (.f 112 [(.r p24)]))⟩, ⟨none, none, (.w (.st 2 (.r p2) (.r p25)))⟩, ⟨(some p3), none, (.e (.mv (.c (.str []))))⟩]) .ret) .skip)) (.seq (.drg [⟨0, ⟨(some p26), none, (.e (.fa 0 (.r p4)))⟩, [], false⟩, ⟨1, ⟨(some p27), none, (.e (.ld (.r p26)))⟩, [], false⟩, ⟨2, ⟨(some p28), none, (.e (.mv (.r p5)))⟩, [], false⟩, ⟨3, ⟨(some p29), none, (.e (.slS (.r p27) (some (.r p28)) none))⟩, [], false⟩, ⟨4, ⟨(some p30), none, (.e (.bld [(.str []), (.bool false)] [(0, 1, (.r p29))]))⟩, [], false⟩, ⟨5, ⟨(some p31), none, (.e (.fa 0 (.r p4)))⟩, [], false⟩, ⟨6, ⟨(some p32), none, (.e (.ld (.r p31)))⟩, [], false⟩, ⟨7, ⟨(some p33), none, (.e (.mv (.r p5)))⟩, [], false⟩, ⟨8, ⟨(some p34), none, (.e (.slS (.r p32) none (some (.r p33))))⟩, [], false⟩, ⟨9, ⟨none, none, (.w (.st 2 (.r p2) (.r p30)))⟩, [6], false⟩, ⟨10, ⟨(some p3), none, (.e (.mv (.r p34)))⟩, [], false⟩]) .ret))))
theorem I62_0 (E : Env) : Is E C62_0 (retK3 R62) (fun σ h => J62_0 E (σ p0) h) :=
  fun σ h => by kernel_rfl
def D62 : DF := ⟨1, 35, C62_0, R62⟩
noncomputable def S62 (E : Env) : Fun := fun args h => aS args fun r0 args => a0 args (J62_0 E r0 h)
theorem S62_eq (E : Env) (args : List DV) (h : H) : runFn E D62 args h = S62 E args h :=
  Is.fn1 (d := D62) (I62_0 E) rfl (fun r0 h => J62_0 E r0 h) (fun r0 h => by kernel_rfl) args h
/- hurdle/hurdleref03.End -/
def R63 : List RV := [(.r p2)]
noncomputable def J63_0 (E : Env) (r0 : DV) (h : H) : Ans :=
  n_box r0 h fun x1 h2 =>
  vK (v_fa 1 x1) fun x3 =>
  vK (v_ld h2.get x3) fun x4 =>
  gdK x4 false (fun kk => vK (v_fa 0 x1) fun v => kk v h2) h2 fun x5 h6 =>
  gdK x4 false (fun kk => vK (v_ld h6.get x5) fun v => kk v h6) h6 fun x7 h8 =>
  gdK x4 false (fun kk => vK (v_neq x7 (.str [])) fun v => kk v h8) h8 fun x9 h10 =>
  vK (v_pick x4 (.bool true) x9) fun x11 =>
  bK x11
  (some ((.int .i64 (.ofNat 3)), h10))
  (some ((.int .i64 (.ofNat 0)), h10))
def C63_0 : DC := (.seq (.reg [⟨(some p1), none, (.e (.box (.r p0)))⟩, ⟨(some p2), none, (.e (.mv (.c (.int .i64 (.ofNat 0)))))⟩]) (.seq (.seq (.reg [⟨(some p3), none, (.e (.fa 1 (.r p1)))⟩, ⟨(some p4), none, (.e (.ld (.r p3)))⟩, ⟨(some p5), none, (.e (.mv (.r p4)))⟩, ⟨(some p6), (some (p5, false)), (.e (.fa 0 (.r p1)))⟩, ⟨(some p7), (some (p5, false)), (.e (.ld (.r p6)))⟩, ⟨(some p8), (some (p5, false)), (.e (.bin .neq (.r p7) (.c (.str []))))⟩, ⟨(some p9), none, (.e (.pick (.r p5) (.c (.bool true)) (.r p8)))⟩]) (.cond (.r p9) (.seq (.reg [⟨(some p2), none, (.e (.mv (.c (.int .i64 (.ofNat 3)))))⟩]) .ret) .skip)) (.seq (.reg [⟨(some p2), none, (.e (.mv (.c (.int .i64 (.ofNat 0)))))⟩]) .ret)))
theorem I63_0 (E : Env) : Is E C63_0 (retK3 R63) (fun σ h => J63_0 E (σ p0) h) :=
  fun σ h => by kernel_rfl
def D63 : DF := ⟨1, 10, C63_0, R63⟩
noncomputable def S63 (E : Env) : Fun := fun args h => aS args fun r0 args => a0 args (J63_0 E r0 h)
theorem S63_eq (E : Env) (args : List DV) (h : H) : runFn E D63 args h = S63 E args h :=
  Is.fn1 (d := D63) (I63_0 E) rfl (fun r0 h => J63_0 E r0 h) (fun r0 h => by kernel_rfl) args h
/- hurdle/deltas.does -/
def R64 : List RV := [(.r p4)]
noncomputable def J64_0 (E : Env) (r0 r1 : DV) (h : H) : Ans :=
  n_box r0 h fun x1 h2 =>
  n_box r1 h2 fun x3 h4 =>
  vK (v_fa 0 x3) fun x5 =>
  vK (v_ld h4.get x5) fun x6 =>
  vK (v_eql x6 (.int .i64 (.ofNat 1))) fun x7 =>
  bK x7
  (vK (v_ld h4.get x1) fun x8 =>
  vK (v_fa 3 x3) fun x9 =>
  vK (v_ld h4.get x9) fun x10 =>
  vK (v_bld [.nilf, (.str [])] [(0, 1, (.fn (.func 40) [x8] [])), (1, 1, x10)]) fun x11 =>
  some ((.ifc 102 x11), h4))
  (vK (v_eql x6 (.int .i64 (.ofNat 2))) fun x12 =>
  bK x12
  (vK (v_ld h4.get x1) fun x13 =>
  vK (v_fa 3 x3) fun x14 =>
  vK (v_ld h4.get x14) fun x15 =>
  vK (v_bld [.nilf, (.str [])] [(0, 1, (.fn (.func 41) [x13] [])), (1, 1, x15)]) fun x16 =>
  some ((.ifc 102 x16), h4))
  (vK (v_eql x6 (.int .i64 (.ofNat 3))) fun x17 =>
  bK x17
  (vK (v_ld h4.get x1) fun x18 =>
  vK (v_fa 3 x3) fun x19 =>
  vK (v_ld h4.get x19) fun x20 =>
  vK (v_bld [.nilf, (.str [])] [(0, 1, (.fn (.func 42) [x18] [])), (1, 1, x20)]) fun x21 =>
  some ((.ifc 102 x21), h4))
  (vK (v_eql x6 (.int .i64 (.ofNat 4))) fun x22 =>
  bK x22
  (vK (v_ld h4.get x1) fun x23 =>
  vK (v_fa 3 x3) fun x24 =>
  vK (v_ld h4.get x24) fun x25 =>
  vK (v_bld [.nilf, (.str [])] [(0, 1, (.fn (.func 43) [x23] [])), (1, 1, x25)]) fun x26 =>
  some ((.ifc 102 x26), h4))
  (vK (v_eql x6 (.int .i64 (.ofNat 5))) fun x27 =>
  bK x27
  (vK (v_ld h4.get x1) fun x28 =>
  vK (v_fa 3 x3) fun x29 =>
  vK (v_ld h4.get x29) fun x30 =>
  vK (v_fa 4 x3) fun x31 =>
  vK (v_ld h4.get x31) fun x32 =>
  vK (v_bld [.nilf, (.str []), (.str [])] [(0, 1, (.fn (.func 44) [x28] [])), (1, 1, x30), (2, 1, x32)]) fun x33 =>
  some ((.ifc 104 x33), h4))
  (vK (v_eql x6 (.int .i64 (.ofNat 6))) fun x34 =>
  bK x34
  (vK (v_ld h4.get x1) fun x35 =>
  vK (v_fa 3 x3) fun x36 =>
  vK (v_ld h4.get x36) fun x37 =>
  vK (v_fa 4 x3) fun x38 =>
  vK (v_ld h4.get x38) fun x39 =>
  vK (v_bld [.nilf, (.str []), (.str [])] [(0, 1, (.fn (.func 45) [x35] [])), (1, 1, x37), (2, 1, x39)]) fun x40 =>
  some ((.ifc 104 x40), h4))
  (vK (v_eql x6 (.int .i64 (.ofNat 7))) fun x41 =>
  bK x41
  (vK (v_bld [.nilf] [(0, 1, (.fn (.func 113) [] [x1, x3]))]) fun x42 =>
  some ((.ifc 106 x42), h4))
  (vK (v_eql x6 (.int .i64 (.ofNat 8))) fun x43 =>
  bK x43
  (vK (v_bld [.nilf] [(0, 1, (.fn (.func 114) [] [x1, x3]))]) fun x44 =>
  some ((.ifc 106 x44), h4))
  (vK (v_eql x6 (.int .i64 (.ofNat 9))) fun x45 =>
  bK x45
  (vK (v_bld [.nilf] [(0, 1, (.fn (.func 115) [] [x1, x3]))]) fun x46 =>
  some ((.ifc 109 x46), h4))
  (vK (v_eql x6 (.int .i64 (.ofNat 10))) fun x47 =>
  bK x47
  (vK (v_bld [.nilf] [(0, 1, (.fn (.func 116) [] [x1, x3]))]) fun x48 =>
  some ((.ifc 109 x48), h4))
  (vK (v_bld [.nilf] [(0, 1, (.fn (.func 118) [] [x1, x3]))]) fun x49 =>
  some ((.ifc 109 x49), h4)))))))))))
def C64_0 : DC := (.seq (.reg [⟨(some p2), none, (.e (.box (.r p0)))⟩, ⟨(some p3), none, (.e (.box (.r p1)))⟩, ⟨(some p4), none, (.e (.mv (.c .nili)))⟩]) (.seq (.seq (.reg [⟨(some p5), none, (.e (.fa 0 (.r p3)))⟩, ⟨(some p6), none, (.e (.ld (.r p5)))⟩]) (.block 0 (.seq (.reg [⟨(some p8), none, (.e (.bin .eql (.r p6) (.c (.int .i64 (.ofNat 1)))))⟩, ⟨(some p7), none, (.e (.mv (.r p8)))⟩]) (.cond (.r p7) (.seq (.reg [⟨(some p9), none, (.e (.ld (.r p2)))⟩, ⟨(some p10), none, (.e (.mkF (.func 40) [(.r p9)] []))⟩, ⟨(some p11), none, (.e (.fa 3 (.r p3)))⟩, ⟨(some p12), none, (.e (.ld (.r p11)))⟩, ⟨(some p13), none, (.e (.bld [.nilf, (.str [])] [(0, 1, (.r p10)), (1, 1, (.r p12))]))⟩, ⟨(some p14), none, (.e (.mkI 102 (.r p13)))⟩, ⟨(some p4), none, (.e (.mv (.r p14)))⟩]) .ret) (.seq (.reg [⟨(some p16), none, (.e (.bin .eql (.r p6) (.c (.int .i64 (.ofNat 2)))))⟩, ⟨(some p15), none, (.e (.mv (.r p16)))⟩]) (.cond (.r p15) (.seq (.reg [⟨(some p17), none, (.e (.ld (.r p2)))⟩, ⟨(some p18), none, (.e (.mkF (.func 41) [(.r p17)] []))⟩, ⟨(some p19), none, (.e (.fa 3 (.r p3)))⟩, ⟨(some p20), none, (.e (.ld (.r p19)))⟩, ⟨(some p21), none, (.e (.bld [.nilf, (.str [])] [(0, 1, (.r p18)), (1, 1, (.r p20))]))⟩, ⟨(some p22), none, (.e (.mkI 102 (.r p21)))⟩, ⟨(some p4), none, (.e (.mv (.r p22)))⟩]) .ret) (.seq (.reg [⟨(some p24), none, (.e (.bin .eql (.r p6) (.c (.int .i64 (.ofNat 3)))))⟩, ⟨(some p23), none, (.e (.mv (.r p24)))⟩]) (.cond (.r p23) (.seq (.reg [⟨(some p25), none, (.e (.ld (.r p2)))⟩, ⟨(some p26), none, (.e (.mkF (.func 42) [(.r p25)] []))⟩, ⟨(some p27), none, (.e (.fa 3 (.r p3)))⟩, ⟨(some p28), none, (.e (.ld (.r p27)))⟩, ⟨(some p29), none, (.e (.bld [.nilf, (.str [])] [(0, 1, (.r p26)), (1, 1, (.r p28))]))⟩, ⟨(some p30), none, (.e (.mkI 102 (.r p29)))⟩, ⟨(some p4), none, (.e (.mv (.r p30)))⟩]) .ret) (.seq (.reg [⟨(some p32), none, (.e (.bin .eql (.r p6) (.c (.int .i64 (.ofNat 4)))))⟩, ⟨(some p31), none, (.e (.mv (.r p32)))⟩]) (.cond (.r p31) (.seq (.reg [⟨(some p33), none, (.e (.ld (.r p2)))⟩, ⟨(some p34), none, (.e (.mkF (.func 43) [(.r p33)] []))⟩, ⟨(some p35), none, (.e (.fa 3 (.r p3)))⟩, ⟨(some p36), none, (.e (.ld (.r p35)))⟩, ⟨(some p37), none, (.e (.bld [.nilf, (.str [])] [(0, 1, (.r p34)), (1, 1, (.r p36))]))⟩, ⟨(some p38), none, (.e (.mkI 102 (.r p37)))⟩, ⟨(some p4), none, (.e (.mv (.r p38)))⟩]) .ret) (.seq (.reg [⟨(some p40), none, (.e (.bin .eql (.r p6) (.c (.int .i64 (.ofNat 5)))))⟩, ⟨(some p39), none, (.e (.mv (.r p40)))⟩]) (.cond (.r p39) (.seq (.reg [⟨(some p41), none, (.e (.ld (.r p2)))⟩, ⟨(some p42), none, (.e (.mkF (.func 44) [(.r p41)] []))⟩, ⟨(some p43), none, (.e (.fa 3 (.r p3)))⟩, ⟨(some p44), none, (.e (.ld (.r p43)))⟩, ⟨(some p45), none, (.e (.fa 4 (.r p3)))⟩, ⟨(some p46), none, (.e (.ld (.r p45)))⟩, ⟨(some p47), none, (.e (.bld [.nilf, (.str []), (.str [])] [(0, 1, (.r p42)), (1, 1, (.r p44)), (2, 1, (.r p46))]))⟩, ⟨(some p48), none, (.e (.mkI 104 (.r p47)))⟩, ⟨(some p4), none, (.e (.mv (.r p48)))⟩]) .ret) (.seq (.reg [⟨(some p50), none, (.e (.bin .eql (.r p6) (.c (.int .i64 (.ofNat 6)))))⟩, ⟨(some p49), none, (.e (.mv (.r p50)))⟩]) (.cond (.r p49) (.seq (.reg [⟨(some p51), none, (.e (.ld (.r p2)))⟩, ⟨(some p52), none, (.e (.mkF (.func 45) [(.r p51)] []))⟩, ⟨(some p53), none, (.e (.fa 3 (.r p3)))⟩, ⟨(some p54), none, (.e (.ld (.r p53)))⟩, ⟨(some p55), none, (.e (.fa 4 (.r p3)))⟩, ⟨(some p56), none, (.e (.ld (.r p55)))⟩, ⟨(some p57), none, (.e (.bld [.nilf, (.str []), (.str [])] [(0, 1, (.r p52)), (1, 1, (.r p54)), (2, 1, (.r p56))]))⟩, ⟨(some p58), none, (.e (.mkI 104 (.r p57)))⟩, ⟨(some p4), none, (.e (.mv (.r p58)))⟩]) .ret) (.seq (.reg [⟨(some p60), none, (.e (.bin .eql (.r p6) (.c (.int .i64 (.ofNat 7)))))⟩, ⟨(some p59), none, (.e (.mv (.r p60)))⟩]) (.cond (.r p59) (.seq (.reg [⟨(some p61), none, (.e (.mkF (.func 113) [] [(.r p2), (.r p3)]))⟩, ⟨(some p62), none, (.e (.bld [.nilf] [(0, 1, (.r p61))]))⟩, ⟨(some p63), none, (.e (.mkI 106 (.r p62)))⟩, ⟨(some p4), none, (.e (.mv (.r p63)))⟩]) .ret) (.seq (.reg [⟨(some p65), none, (.e (.bin .eql (.r p6) (.c (.int .i64 (.ofNat 8)))))⟩, ⟨(some p64), none, (.e (.mv (.r p65)))⟩]) (.cond (.r p64) (.seq (.reg [⟨(some p66), none, (.e (.mkF (.func 114) [] [(.r p2), (.r p3)]))⟩, ⟨(some p67), none, (.e (.bld [.nilf] [(0, 1, (.r p66))]))⟩, ⟨(some p68), none, (.e (.mkI 106 (.r p67)))⟩, ⟨(some p4), none, (.e (.mv (.r p68)))⟩]) .ret) (.seq (.reg [⟨(some p70), none, (.e (.bin .eql (.r p6) (.c (.int .i64 (.ofNat 9)))))⟩, ⟨(some p69), none, (.e (.mv (.r p70)))⟩]) (.cond (.r p69) (.seq (.reg [⟨(some p71), none, (.e (.mkF (.func 115) [] [(.r p2), (.r p3)]))⟩, ⟨(some p72), none, (.e (.bld [.nilf] [(0, 1, (.r p71))]))⟩, ⟨(some p73), none, (.e (.mkI 109 (.r p72)))⟩, ⟨(some p4), none, (.e (.mv (.r p73)))⟩]) .ret) (.seq (.reg [⟨(some p75), none, (.e (.bin .eql (.r p6) (.c (.int .i64 (.ofNat 10)))))⟩, ⟨(some p74), none, (.e (.mv (.r p75)))⟩]) (.cond (.r p74) (.seq (.reg [⟨(some p76), none, (.e (.mkF (.func 116) [] [(.r p2), (.r p3)]))⟩, ⟨(some p77), none, (.e (.bld [.nilf] [(0, 1, (.r p76))]))⟩, ⟨(some p78), none, (.e (.mkI 109 (.r p77)))⟩, ⟨(some p4), none, (.e (.mv (.r p78)))⟩]) .ret) .skip)))))))))))))))))))))) (.seq (.reg [⟨(some p79), none, (.e (.mkF (.func 118) [] [(.r p2), (.r p3)]))⟩, ⟨(some p80), none, (.e (.bld [.nilf] [(0, 1, (.r p79))]))⟩, ⟨(some p81), none, (.e (.mkI 109 (.r p80)))⟩, ⟨(some p4), none, (.e (.mv (.r p81)))⟩]) .ret)))
theorem I64_0 (E : Env) : Is E C64_0 (retK3 R64) (fun σ h => J64_0 E (σ p0) (σ p1) h) :=
  fun σ h => by kernel_rfl
def D64 : DF := ⟨2, 82, C64_0, R64⟩
noncomputable def S64 (E : Env) : Fun := fun args h => aS args fun r0 args => aS args fun r1 args => a0 args (J64_0 E r0 r1 h)
theorem S64_eq (E : Env) (args : List DV) (h : H) : runFn E D64 args h = S64 E args h :=
  Is.fn2 (d := D64) (I64_0 E) rfl (fun r0 r1 h => J64_0 E r0 r1 h) (fun r0 r1 h => by kernel_rfl) args h
/- hurdle/dirs.New -/
def R65 : List RV := [(.r p0)]
noncomputable def J65_0 (E : Env) (h : H) : Ans :=
  vK (v_bld [.nils] []) fun x1 =>
  n_box x1 h fun x2 h3 =>
  some (x2, h3)
def C65_0 : DC := (.seq (.reg [⟨(some p0), none, (.e (.mv (.c .nilp)))⟩]) (.seq (.reg [⟨(some p1), none, (.e (.bld [.nils] []))⟩, ⟨(some p2), none, (.e (.box (.r p1)))⟩, ⟨(some p0), none, (.e (.mv (.r p2)))⟩]) .ret))
theorem I65_0 (E : Env) : Is E C65_0 (retK3 R65) (fun σ h => J65_0 E h) :=
  fun σ h => by kernel_rfl
def D65 : DF := ⟨0, 3, C65_0, R65⟩
noncomputable def S65 (E : Env) : Fun := fun args h => a0 args (J65_0 E h)
theorem S65_eq (E : Env) (args : List DV) (h : H) : runFn E D65 args h = S65 E args h :=
  Is.fn0 (d := D65) (I65_0 E) rfl (fun h => J65_0 E h) (fun h => by kernel_rfl) args h
/- (*hurdle/tree.Tree).open -/
def R83 : List RV := [(.r p4), (.r p5)]
noncomputable def J83_0 (E : Env) (r0 r1 : DV) (h : H) : Ans :=
  wK (callK E 85 [r0, r1] h) fun x1 h2 =>
  vK (v_ext 0 x1) fun x3 =>
  vK (v_ext 1 x1) fun x4 =>
  vK (v_neq x4 (.int .i64 (.ofNat 0))) fun x5 =>
  bK x5
  (some ((.tup [.nilp, x4]), h2))
  (wK (callK E 86 [r0, x3] h2) fun x6 h7 =>
  vK (v_eqv .ptr false h7.get x6 .nilp) fun x8 =>
  bK x8
  (some ((.tup [.nilp, (.int .i64 (.ofNat 12))]), h7))
  (some ((.tup [x6, (.int .i64 (.ofNat 0))]), h7)))
def C83_0 : DC := (.seq (.reg [⟨(some p4), none, (.e (.mv (.c .nilp)))⟩, ⟨(some p5), none, (.e (.mv (.c (.int .i64 (.ofNat 0)))))⟩]) (.seq (.reg [⟨(some p10), none, (.e (.mv (.r p0)))⟩, ⟨(some p11), none, (.e (.mv (.r p1)))⟩, ⟨(some p12), none, (.c (.f 85 [(.r p10), (.r p11)]))⟩, ⟨(some p9), none, (.e (.mv (.r p12)))⟩, ⟨(some p13), none, (.e (.ext 0 (.r p9)))⟩, ⟨(some p14), none, (.e (.ext 1 (.r p9)))⟩, ⟨(some p6), none, (.e (.mv (.r p13)))⟩, ⟨(some p7), none, (.e (.mv (.r p14)))⟩]) (.seq (.seq (.reg [⟨(some p15), none, (.e (.mv (.r p7)))⟩, ⟨(some p16), none, (.e (.bin .neq (.r p15) (.c (.int .i64 (.ofNat 0)))))⟩]) (.cond (.r p16) (.seq (.reg [⟨(some p17), none, (.e (.mv (.r p7)))⟩, ⟨(some p4), none, (.e (.mv (.c .nilp)))⟩, ⟨(some p5), none, (.e (.mv (.r p17)))⟩]) .ret) .skip)) (.seq (.reg [⟨(some p18), none, (.e (.mv (.r p0)))⟩, ⟨(some p19), none, (.e (.mv (.r p6)))⟩, ⟨(some p20), none, (.c (.f 86 [(.r p18), (.r p19)]))⟩, ⟨(some p8), none, (.e (.mv (.r p20)))⟩]) (.seq (.seq (.reg [⟨(some p21), none, (.e (.mv (.r p8)))⟩, ⟨(some p22), none, (.e (.eqv .ptr false (.r p21) (.c .nilp)))⟩]) (.cond (.r p22) (.seq (.reg [⟨(some p4), none, (.e (.mv (.c .nilp)))⟩, ⟨(some p5), none, (.e (.mv (.c (.int .i64 (.ofNat 12)))))⟩]) .ret) .skip)) (.seq (.reg [⟨(some p23), none, (.e (.mv (.r p8)))⟩, ⟨(some p4), none, (.e (.mv (.r p23)))⟩, ⟨(some p5), none, (.e (.mv (.c (.int .i64 (.ofNat 0)))))⟩]) .ret))))))
theorem I83_0 (E : Env) : Is E C83_0 (retK3 R83) (fun σ h => J83_0 E (σ p0) (σ p1) h) :=
  fun σ h => by kernel_rfl
def D83 : DF := ⟨2, 24, C83_0, R83⟩
noncomputable def S83 (E : Env) : Fun := fun args h => aS args fun r0 args => aS args fun r1 args => a0 args (J83_0 E r0 r1 h)
theorem S83_eq (E : Env) (args : List DV) (h : H) : runFn E D83 args h = S83 E args h :=
  Is.fn2 (d := D83) (I83_0 E) rfl (fun r0 r1 h => J83_0 E r0 r1 h) (fun r0 r1 h => by kernel_rfl) args h
/- (*hurdle/tree.file).read -/
def R84 : List RV := [(.r p6), (.r p7)]
noncomputable def J84_0 (E : Env) (r0 r1 r2 : DV) (h : H) : Ans :=
  vK (v_lss r1 (.int .i64 (.ofNat 0))) fun x1 =>
  gdK x1 false (fun kk => kk r2 h) h fun x2 h3 =>
  gdK x1 false (fun kk => vK (v_lss x2 (.int .i64 (.ofNat 0))) fun v => kk v h3) h3 fun x4 h5 =>
  vK (v_pick x1 (.bool true) x4) fun x6 =>
  bK x6
  (some ((.tup [(.str []), (.int .i64 (.ofNat 1))]), h5))
  (vK (v_nilchk r0) fun x7 =>
  vK (v_fa 0 x7) fun x8 =>
  vK (v_ld h5.get x8) fun x9 =>
  vK (v_nilchk r0) fun x10 =>
  vK (v_fa 0 x10) fun x11 =>
  vK (v_ld h5.get x11) fun x12 =>
  vK (v_lenS x12) fun x13 =>
  vK (v_mn r1 x13) fun x14 =>
  vK (v_slS x9 (some x14) none) fun x15 =>
  vK (v_lenS x15) fun x16 =>
  vK (v_mn r2 x16) fun x17 =>
  vK (v_slS x15 none (some x17)) fun x18 =>
  some ((.tup [x18, (.int .i64 (.ofNat 0))]), h5))
def C84_0 : DC := (.seq (.reg [⟨(some p6), none, (.e (.mv (.c (.str []))))⟩, ⟨(some p7), none, (.e (.mv (.c (.int .i64 (.ofNat 0)))))⟩]) (.seq (.seq (.reg [⟨(some p9), none, (.e (.mv (.r p1)))⟩, ⟨(some p10), none, (.e (.bin .lss (.r p9) (.c (.int .i64 (.ofNat 0)))))⟩, ⟨(some p11), none, (.e (.mv (.r p10)))⟩, ⟨(some p12), (some (p11, false)), (.e (.mv (.r p2)))⟩, ⟨(some p13), (some (p11, false)), (.e (.bin .lss (.r p12) (.c (.int .i64 (.ofNat 0)))))⟩, ⟨(some p14), none, (.e (.pick (.r p11) (.c (.bool true)) (.r p13)))⟩]) (.cond (.r p14) (.seq (.reg [⟨(some p6), none, (.e (.mv (.c (.str []))))⟩, ⟨(some p7), none, (.e (.mv (.c (.int .i64 (.ofNat 1)))))⟩]) .ret) .skip)) (.seq (.drg [⟨0, ⟨(some p15), none, (.e (.mv (.r p0)))⟩, [], false⟩, ⟨1, ⟨(some p16), none, (.e (.nilchk (.r p15)))⟩, [], false⟩, ⟨2, ⟨(some p17), none, (.e (.fa 0 (.r p16)))⟩, [], false⟩, ⟨3, ⟨(some p18), none, (.e (.ld (.r p17)))⟩, [], false⟩, ⟨4, ⟨(some p19), none, (.e (.mv (.r p1)))⟩, [], false⟩, ⟨5, ⟨(some p20), none, (.e (.mv (.r p0)))⟩, [], false⟩, ⟨6, ⟨(some p21), none, (.e (.nilchk (.r p20)))⟩, [], false⟩, ⟨7, ⟨(some p22), none, (.e (.fa 0 (.r p21)))⟩, [], false⟩, ⟨8, ⟨(some p23), none, (.e (.ld (.r p22)))⟩, [], false⟩, ⟨9, ⟨(some p24), none, (.e (.lenS (.r p23)))⟩, [], false⟩, ⟨10, ⟨(some p25), none, (.e (.mn (.r p19) (.r p24)))⟩, [], false⟩, ⟨11, ⟨(some p26), none, (.e (.slS (.r p18) (some (.r p25)) none))⟩, [], false⟩, ⟨12, ⟨(some p8), none, (.e (.mv (.r p26)))⟩, [], false⟩]) (.seq (.reg [⟨(some p27), none, (.e (.mv (.r p8)))⟩, ⟨(some p28), none, (.e (.mv (.r p2)))⟩, ⟨(some p29), none, (.e (.mv (.r p8)))⟩, ⟨(some p30), none, (.e (.lenS (.r p29)))⟩, ⟨(some p31), none, (.e (.mn (.r p28) (.r p30)))⟩, ⟨(some p32), none, (.e (.slS (.r p27) none (some (.r p31))))⟩, ⟨(some p6), none, (.e (.mv (.r p32)))⟩, ⟨(some p7), none, (.e (.mv (.c (.int .i64 (.ofNat 0)))))⟩]) .ret))))
theorem I84_0 (E : Env) : Is E C84_0 (retK3 R84) (fun σ h => J84_0 E (σ p0) (σ p1) (σ p2) h) :=
  fun σ h => by kernel_rfl
def D84 : DF := ⟨3, 33, C84_0, R84⟩
noncomputable def S84 (E : Env) : Fun := fun args h => aS args fun r0 args => aS args fun r1 args => aS args fun r2 args => a0 args (J84_0 E r0 r1 r2 h)
theorem S84_eq (E : Env) (args : List DV) (h : H) : runFn E D84 args h = S84 E args h :=
  Is.fn3 (d := D84) (I84_0 E) rfl (fun r0 r1 r2 h => J84_0 E r0 r1 r2 h) (fun r0 r1 r2 h => by kernel_rfl) args h
/- (*hurdle/tree.Tree).look -/
def R85 : List RV := [(.r p4), (.r p5)]
noncomputable def J85_0 (E : Env) (r0 r1 : DV) (h : H) : Ans :=
  vK (v_eqv .ptr false h.get r0 .nilp) fun x1 =>
  bK x1
  (some ((.tup [(.int .i64 (.ofNat 0)), (.int .i64 (.ofNat 1))]), h))
  (wK (callK E 137 [r1] h) fun x2 h3 =>
  vK (v_ext 0 x2) fun x4 =>
  vK (v_ext 1 x2) fun x5 =>
  vK (v_neq x5 (.int .i64 (.ofNat 0))) fun x6 =>
  bK x6
  (some ((.tup [(.int .i64 (.ofNat 0)), x5]), h3))
  (wK (callK E 138 [r0, x4] h3) fun x7 h8 =>
  vK (v_ext 0 x7) fun x9 =>
  vK (v_ext 1 x7) fun x10 =>
  some ((.tup [x9, x10]), h8)))
def C85_0 : DC := (.seq (.reg [⟨(some p4), none, (.e (.mv (.c (.int .i64 (.ofNat 0)))))⟩, ⟨(some p5), none, (.e (.mv (.c (.int .i64 (.ofNat 0)))))⟩]) (.seq (.seq (.reg [⟨(some p8), none, (.e (.mv (.r p0)))⟩, ⟨(some p9), none, (.e (.eqv .ptr false (.r p8) (.c .nilp)))⟩]) (.cond (.r p9) (.seq (.reg [⟨(some p4), none, (.e (.mv (.c (.int .i64 (.ofNat 0)))))⟩, ⟨(some p5), none, (.e (.mv (.c (.int .i64 (.ofNat 1)))))⟩]) .ret) .skip)) (.seq (.reg [⟨(some p11), none, (.e (.mv (.r p1)))⟩, ⟨(some p12), none, (.c (.f 137 [(.r p11)]))⟩, ⟨(some p10), none, (.e (.mv (.r p12)))⟩, ⟨(some p13), none, (.e (.ext 0 (.r p10)))⟩, ⟨(some p14), none, (.e (.ext 1 (.r p10)))⟩, ⟨(some p6), none, (.e (.mv (.r p13)))⟩, ⟨(some p7), none, (.e (.mv (.r p14)))⟩]) (.seq (.seq (.reg [⟨(some p15), none, (.e (.mv (.r p7)))⟩, ⟨(some p16), none, (.e (.bin .neq (.r p15) (.c (.int .i64 (.ofNat 0)))))⟩]) (.cond (.r p16) (.seq (.reg [⟨(some p17), none, (.e (.mv (.r p7)))⟩, ⟨(some p4), none, (.e (.mv (.c (.int .i64 (.ofNat 0)))))⟩, ⟨(some p5), none, (.e (.mv (.r p17)))⟩]) .ret) .skip)) (.seq (.reg [⟨(some p18), none, (.e (.mv (.r p0)))⟩, ⟨(some p19), none, (.e (.mv (.r p6)))⟩, ⟨(some p20), none, (.c (.f 138 [(.r p18), (.r p19)]))⟩, ⟨(some p21), none, (.e (.ext 0 (.r p20)))⟩, ⟨(some p22), none, (.e (.ext 1 (.r p20)))⟩, ⟨(some p4), none, (.e (.mv (.r p21)))⟩, ⟨(some p5), none, (.e (.mv (.r p22)))⟩]) .ret)))))
theorem I85_0 (E : Env) : Is E C85_0 (retK3 R85) (fun σ h => J85_0 E (σ p0) (σ p1) h) :=
  fun σ h => by kernel_rfl
def D85 : DF := ⟨2, 23, C85_0, R85⟩
noncomputable def S85 (E : Env) : Fun := fun args h => aS args fun r0 args => aS args fun r1 args => a0 args (J85_0 E r0 r1 h)
theorem S85_eq (E : Env) (args : List DV) (h : H) : runFn E D85 args h = S85 E args h :=
  Is.fn2 (d := D85) (I85_0 E) rfl (fun r0 r1 h => J85_0 E r0 r1 h) (fun r0 r1 h => by kernel_rfl) args h
/- (*hurdle/tree.Tree).file -/
def R86 : List RV := [(.r p4)]
noncomputable def J86_0 (E : Env) (r0 r1 : DV) (h : H) : Ans :=
  vK (v_nilchk r0) fun x1 =>
  vK (v_fa 0 x1) fun x2 =>
  vK (v_iaA 256 2 x2 r1) fun x3 =>
  vK (v_fa 1 x3) fun x4 =>
  vK (v_ld h.get x4) fun x5 =>
  vK (v_tas 141 .nilp true x5) fun x6 =>
  vK (v_ext 0 x6) fun x7 =>
  vK (v_ext 1 x6) fun x8 =>
  some (x7, h)
def C86_0 : DC := (.seq (.reg [⟨(some p4), none, (.e (.mv (.c .nilp)))⟩]) (.seq (.reg [⟨(some p8), none, (.e (.mv (.r p0)))⟩, ⟨(some p9), none, (.e (.mv (.r p1)))⟩, ⟨(some p10), none, (.e (.nilchk (.r p8)))⟩, ⟨(some p11), none, (.e (.fa 0 (.r p10)))⟩, ⟨(some p12), none, (.e (.iaA 256 2 (.r p11) (.r p9)))⟩, ⟨(some p13), none, (.e (.fa 1 (.r p12)))⟩, ⟨(some p14), none, (.e (.ld (.r p13)))⟩, ⟨(some p15), none, (.e (.tas 141 .nilp true (.r p14)))⟩, ⟨(some p7), none, (.e (.mv (.r p15)))⟩, ⟨(some p16), none, (.e (.ext 0 (.r p7)))⟩, ⟨(some p17), none, (.e (.ext 1 (.r p7)))⟩, ⟨(some p5), none, (.e (.mv (.r p16)))⟩, ⟨(some p6), none, (.e (.mv (.r p17)))⟩]) (.seq (.reg [⟨(some p18), none, (.e (.mv (.r p5)))⟩, ⟨(some p4), none, (.e (.mv (.r p18)))⟩]) .ret)))
theorem I86_0 (E : Env) : Is E C86_0 (retK3 R86) (fun σ h => J86_0 E (σ p0) (σ p1) h) :=
  fun σ h => by kernel_rfl
def D86 : DF := ⟨2, 19, C86_0, R86⟩
noncomputable def S86 (E : Env) : Fun := fun args h => aS args fun r0 args => aS args fun r1 args => a0 args (J86_0 E r0 r1 h)
theorem S86_eq (E : Env) (args : List DV) (h : H) : runFn E D86 args h = S86 E args h :=
  Is.fn2 (d := D86) (I86_0 E) rfl (fun r0 r1 h => J86_0 E r0 r1 h) (fun r0 r1 h => by kernel_rfl) args h
/- (*hurdle/tree.Tree).dir -/
def R87 : List RV := [(.r p4)]
noncomputable def J87_0 (E : Env) (r0 r1 : DV) (h : H) : Ans :=
  vK (v_nilchk r0) fun x1 =>
  vK (v_fa 0 x1) fun x2 =>
  vK (v_iaA 256 2 x2 r1) fun x3 =>
  vK (v_fa 1 x3) fun x4 =>
  vK (v_ld h.get x4) fun x5 =>
  vK (v_tas 120 (.agg [.nilp]) true x5) fun x6 =>
  vK (v_ext 0 x6) fun x7 =>
  vK (v_ext 1 x6) fun x8 =>
  n_alc 1 1 (.list [.nilp]) h fun x9 h10 =>
  wK (dStF 1 x9 x7 h10) fun x11 h12 =>
  vK (v_not x8) fun x13 =>
  bK x13
  (some (.nilp, h12))
  (vK (v_fa 0 x9) fun x14 =>
  vK (v_ld h12.get x14) fun x15 =>
  some (x15, h12))
def C87_0 : DC := (.seq (.reg [⟨(some p4), none, (.e (.mv (.c .nilp)))⟩]) (.seq (.reg [⟨(some p8), none, (.e (.mv (.r p0)))⟩, ⟨(some p9), none, (.e (.mv (.r p1)))⟩, ⟨(some p10), none, (.e (.nilchk (.r p8)))⟩, ⟨(some p11), none, (.e (.fa 0 (.r p10)))⟩, ⟨(some p12), none, (.e (.iaA 256 2 (.r p11) (.r p9)))⟩, ⟨(some p13), none, (.e (.fa 1 (.r p12)))⟩, ⟨(some p14), none, (.e (.ld (.r p13)))⟩, ⟨(some p15), none, (.e (.tas 120 (.agg [.nilp]) true (.r p14)))⟩, ⟨(some p7), none, (.e (.mv (.r p15)))⟩, ⟨(some p16), none, (.e (.ext 0 (.r p7)))⟩, ⟨(some p17), none, (.e (.ext 1 (.r p7)))⟩, ⟨(some p5), none, (.e (.alc 1 1 (.list [.nilp])))⟩, ⟨none, none, (.w (.st 1 (.r p5) (.r p16)))⟩, ⟨(some p6), none, (.e (.mv (.r p17)))⟩]) (.seq (.seq (.reg [⟨(some p18), none, (.e (.mv (.r p6)))⟩, ⟨(some p19), none, (.e (.not (.r p18)))⟩]) (.cond (.r p19) (.seq (.reg [⟨(some p4), none, (.e (.mv (.c .nilp)))⟩]) .ret) .skip)) (.seq (.reg [⟨(some p20), none, (.e (.fa 0 (.r p5)))⟩, ⟨(some p21), none, (.e (.ld (.r p20)))⟩, ⟨(some p4), none, (.e (.mv (.r p21)))⟩]) .ret))))
theorem I87_0 (E : Env) : Is E C87_0 (retK3 R87) (fun σ h => J87_0 E (σ p0) (σ p1) h) :=
  fun σ h => by kernel_rfl
def D87 : DF := ⟨2, 22, C87_0, R87⟩
noncomputable def S87 (E : Env) : Fun := fun args h => aS args fun r0 args => aS args fun r1 args => a0 args (J87_0 E r0 r1 h)
theorem S87_eq (E : Env) (args : List DV) (h : H) : runFn E D87 args h = S87 E args h :=
  Is.fn2 (d := D87) (I87_0 E) rfl (fun r0 r1 h => J87_0 E r0 r1 h) (fun r0 r1 h => by kernel_rfl) args h
/- (*hurdle/dirs.Dir).List -/
def R88 : List RV := [(.r p2)]
noncomputable def J88_1 (E : Env) (r3 : DV) (h : H) : Ans :=
  some (r3, h)
def C88_1 : DC := (.seq (.reg [⟨(some p23), none, (.e (.mv (.r p3)))⟩, ⟨(some p2), none, (.e (.mv (.r p23)))⟩]) .ret)
noncomputable def B88_2 (E : Env) (r11 r12 : DV) (i2 : DV → DV → H → Ans) (r3 r13 : DV) (h : H) : Ans :=
  vK (v_lss r13 r12) fun x1 =>
  bK x1
  (vK (v_iaS 2 r11 r13) fun x2 =>
  vK (v_ldN 2 h.get x2) fun x3 =>
  n_alc 2 2 (.list [(.str []), (.int .i64 (.ofNat 0))]) h fun x4 h5 =>
  wK (dStF 2 x4 x3 h5) fun x6 h7 =>
  vK (v_fa 0 x4) fun x8 =>
  vK (v_ld h7.get x8) fun x9 =>
  n_bsl 1 1 [(.str [])] [(0, 1, x9)] h7 fun x10 h11 =>
  wK (dAppendF 1 16 r3 x10 h11) fun x12 h13 =>
  vK (v_add r13 (.int .i64 (.ofNat 1))) fun x14 =>
  i2 x12 x14 h13)
  (J88_1 E r3 h)
noncomputable def L88_2 (E : Env) (r11 r12 : DV) (n : Nat) : DV → DV → H → Ans := Nat.rec (motive := fun _ => DV → DV → H → Ans) (fun _ _ _ => none) (fun _ i => B88_2 E r11 r12 i) n
def C88_2 : DC := (.loop (.seq (.reg [⟨(some p14), none, (.e (.bin .lss (.r p13) (.r p12)))⟩]) (.seq (.cond (.r p14) .skip (.exit 0)) (.seq (.block 1 (.seq (.reg [⟨(some p15), none, (.e (.iaS 2 (.r p11) (.r p13)))⟩, ⟨(some p16), none, (.e (.ldN 2 (.r p15)))⟩, ⟨(some p5), none, (.e (.alc 2 2 (.list [(.str []), (.int .i64 (.ofNat 0))])))⟩, ⟨none, none, (.w (.st 2 (.r p5) (.r p16)))⟩]) (.reg [⟨(some p17), none, (.e (.mv (.r p3)))⟩, ⟨(some p18), none, (.e (.fa 0 (.r p5)))⟩, ⟨(some p19), none, (.e (.ld (.r p18)))⟩, ⟨(some p20), none, (.e (.bsl 1 1 [(.str [])] [(0, 1, (.r p19))]))⟩, ⟨(some p21), none, (.w (.app 1 16 (.r p17) (.r p20)))⟩, ⟨(some p3), none, (.e (.mv (.r p21)))⟩]))) (.reg [⟨(some p22), none, (.e (.bin .add (.r p13) (.c (.int .i64 (.ofNat 1)))))⟩, ⟨(some p13), none, (.e (.mv (.r p22)))⟩])))))
noncomputable def J88_0 (E : Env) (r0 : DV) (h : H) : Ans :=
  vK (v_eqv .ptr false h.get r0 .nilp) fun x1 =>
  bK x1
  (some (.nils, h))
  (vK (v_nilchk r0) fun x2 =>
  vK (v_fa 0 x2) fun x3 =>
  vK (v_ld h.get x3) fun x4 =>
  vK (v_lenL x4) fun x5 =>
  L88_2 E x4 x5 FUEL .nils (.int .i64 (.ofNat 0)) h)
def C88_0 : DC := (.seq (.reg [⟨(some p2), none, (.e (.mv (.c .nils)))⟩]) (.seq (.seq (.reg [⟨(some p6), none, (.e (.mv (.r p0)))⟩, ⟨(some p7), none, (.e (.eqv .ptr false (.r p6) (.c .nilp)))⟩]) (.cond (.r p7) (.seq (.reg [⟨(some p2), none, (.e (.mv (.c .nils)))⟩]) .ret) .skip)) (.seq (.reg [⟨(some p3), none, (.e (.mv (.c .nils)))⟩]) (.seq (.seq (.reg [⟨(some p8), none, (.e (.mv (.r p0)))⟩, ⟨(some p9), none, (.e (.nilchk (.r p8)))⟩, ⟨(some p10), none, (.e (.fa 0 (.r p9)))⟩, ⟨(some p11), none, (.e (.ld (.r p10)))⟩, ⟨(some p12), none, (.e (.lenL (.r p11)))⟩, ⟨(some p13), none, (.e (.mv (.c (.int .i64 (.ofNat 0)))))⟩]) (.block 0 C88_2)) C88_1))))
theorem I88_1 (E : Env) : Is E C88_1 (retK3 R88) (fun σ h => J88_1 E (σ p3) h) :=
  fun σ h => by kernel_rfl
noncomputable abbrev K88_3 (E : Env) : KT2 (DV × H) := (thenK3 (fun σ h => J88_1 E (σ p3) h) (retK3 R88))
theorem I88_2 (E : Env) : Is E C88_2 (blockK3 0 (K88_3 E)) (fun σ h => L88_2 E (σ p11) (σ p12) FUEL (σ p3) (σ p13) h) :=
  Is.loop (fun n2 σ h => L88_2 E (σ p11) (σ p12) n2 (σ p3) (σ p13) h) (by kernel_rfl) fun n2 => Is.as (Is.leaf _) fun σ h => by kernel_rfl
theorem I88_0 (E : Env) : Is E C88_0 (retK3 R88) (fun σ h => J88_0 E (σ p0) h) :=
  Is.as (Is.seq (Is.seq (Is.seq (Is.seq (I88_1 E) (Is.seq (Is.block (I88_2 E)) (Is.leaf _))) (Is.leaf _)) (Is.leaf _)) (Is.leaf _)) fun σ h => by kernel_rfl
def D88 : DF := ⟨1, 24, C88_0, R88⟩
noncomputable def S88 (E : Env) : Fun := fun args h => aS args fun r0 args => a0 args (J88_0 E r0 h)
theorem S88_eq (E : Env) (args : List DV) (h : H) : runFn E D88 args h = S88 E args h :=
  Is.fn1 (d := D88) (I88_0 E) rfl (fun r0 h => J88_0 E r0 h) (fun r0 h => by kernel_rfl) args h
/- (*hurdle/tree.Tree).write -/
def R92 : List RV := [(.r p8)]
noncomputable def J92_0 (E : Env) (r0 r1 r2 r3 : DV) (h : H) : Ans :=
  vK (v_lss r2 (.int .i64 (.ofNat 0))) fun x1 =>
  bK x1
  (some ((.int .i64 (.ofNat 1)), h))
  (vK (v_lenS r3) fun x2 =>
  vK (v_gtr x2 (.int .i64 (.ofNat 16384))) fun x3 =>
  gdK x3 false (fun kk => kk r2 h) h fun x4 h5 =>
  gdK x3 false (fun kk => kk r3 h5) h5 fun x6 h7 =>
  gdK x3 false (fun kk => vK (v_lenS x6) fun v => kk v h7) h7 fun x8 h9 =>
  gdK x3 false (fun kk => vK (v_sub (.int .i64 (.ofNat 16384)) x8) fun v => kk v h9) h9 fun x10 h11 =>
  gdK x3 false (fun kk => vK (v_gtr x4 x10) fun v => kk v h11) h11 fun x12 h13 =>
  vK (v_pick x3 (.bool true) x12) fun x14 =>
  bK x14
  (some ((.int .i64 (.ofNat 2)), h13))
  (vK (v_eql r3 (.str [])) fun x15 =>
  bK x15
  (some ((.int .i64 (.ofNat 0)), h13))
  (vK (v_nilchk r1) fun x16 =>
  vK (v_fa 0 x16) fun x17 =>
  vK (v_ld h13.get x17) fun x18 =>
  wK (callK E 140 [x18, r2, r3] h13) fun x19 h20 =>
  vK (v_ext 0 x19) fun x21 =>
  vK (v_ext 1 x19) fun x22 =>
  wK (callK E 102 [r0, r1, x21] h20) fun x23 h24 =>
  some (x23, h24))))
def C92_0 : DC := (.seq (.reg [⟨(some p8), none, (.e (.mv (.c (.int .i64 (.ofNat 0)))))⟩]) (.seq (.block 0 (.seq (.reg [⟨(some p12), none, (.e (.mv (.r p2)))⟩, ⟨(some p13), none, (.e (.bin .lss (.r p12) (.c (.int .i64 (.ofNat 0)))))⟩, ⟨(some p11), none, (.e (.mv (.r p13)))⟩]) (.cond (.r p11) (.seq (.reg [⟨(some p8), none, (.e (.mv (.c (.int .i64 (.ofNat 1)))))⟩]) .ret) (.seq (.reg [⟨(some p15), none, (.e (.mv (.r p3)))⟩, ⟨(some p16), none, (.e (.lenS (.r p15)))⟩, ⟨(some p17), none, (.e (.bin .gtr (.r p16) (.c (.int .i64 (.ofNat 16384)))))⟩, ⟨(some p18), none, (.e (.mv (.r p17)))⟩, ⟨(some p19), (some (p18, false)), (.e (.mv (.r p2)))⟩, ⟨(some p20), (some (p18, false)), (.e (.mv (.r p3)))⟩, ⟨(some p21), (some (p18, false)), (.e (.lenS (.r p20)))⟩, ⟨(some p22), (some (p18, false)), (.e (.bin .sub (.c (.int .i64 (.ofNat 16384))) (.r p21)))⟩, ⟨(some p23), (some (p18, false)), (.e (.bin .gtr (.r p19) (.r p22)))⟩, ⟨(some p24), none, (.e (.pick (.r p18) (.c (.bool true)) (.r p23)))⟩, ⟨(some p14), none, (.e (.mv (.r p24)))⟩]) (.cond (.r p14) (.seq (.reg [⟨(some p8), none, (.e (.mv (.c (.int .i64 (.ofNat 2)))))⟩]) .ret) (.seq (.reg [⟨(some p26), none, (.e (.mv (.r p3)))⟩, ⟨(some p27), none, (.e (.bin .eql (.r p26) (.c (.str []))))⟩, ⟨(some p25), none, (.e (.mv (.r p27)))⟩]) (.cond (.r p25) (.seq (.reg [⟨(some p8), none, (.e (.mv (.c (.int .i64 (.ofNat 0)))))⟩]) .ret) .skip))))))) (.seq (.reg [⟨(some p29), none, (.e (.mv (.r p1)))⟩, ⟨(some p30), none, (.e (.nilchk (.r p29)))⟩, ⟨(some p31), none, (.e (.fa 0 (.r p30)))⟩, ⟨(some p32), none, (.e (.ld (.r p31)))⟩, ⟨(some p33), none, (.e (.mv (.r p2)))⟩, ⟨(some p34), none, (.e (.mv (.r p3)))⟩, ⟨(some p35), none, (.c (.f 140 [(.r p32), (.r p33), (.r p34)]))⟩, ⟨(some p28), none, (.e (.mv (.r p35)))⟩, ⟨(some p36), none, (.e (.ext 0 (.r p28)))⟩, ⟨(some p37), none, (.e (.ext 1 (.r p28)))⟩, ⟨(some p9), none, (.e (.mv (.r p36)))⟩, ⟨(some p10), none, (.e (.mv (.r p37)))⟩]) (.seq (.reg [⟨(some p38), none, (.e (.mv (.r p0)))⟩, ⟨(some p39), none, (.e (.mv (.r p1)))⟩, ⟨(some p40), none, (.e (.mv (.r p9)))⟩, ⟨(some p41), none, (.c (.f 102 [(.r p38), (.r p39), (.r p40)]))⟩, ⟨(some p8), none, (.e (.mv (.r p41)))⟩]) .ret))))
theorem I92_0 (E : Env) : Is E C92_0 (retK3 R92) (fun σ h => J92_0 E (σ p0) (σ p1) (σ p2) (σ p3) h) :=
  fun σ h => by kernel_rfl
def D92 : DF := ⟨4, 42, C92_0, R92⟩
noncomputable def S92 (E : Env) : Fun := fun args h => aS args fun r0 args => aS args fun r1 args => aS args fun r2 args => aS args fun r3 args => a0 args (J92_0 E r0 r1 r2 r3 h)
theorem S92_eq (E : Env) (args : List DV) (h : H) : runFn E D92 args h = S92 E args h :=
  Is.fn4 (d := D92) (I92_0 E) rfl (fun r0 r1 r2 r3 h => J92_0 E r0 r1 r2 r3 h) (fun r0 r1 r2 r3 h => by kernel_rfl) args h
/- (*hurdle/tree.Tree).add -/
def R94 : List RV := [(.r p6)]
noncomputable def J94_0 (E : Env) (r0 r1 r2 : DV) (h : H) : Ans :=
  wK (callK E 95 [r0, r1] h) fun x1 h2 =>
  vK (v_ext 0 x1) fun x3 =>
  vK (v_ext 1 x1) fun x4 =>
  n_alc 2 2 (.list [.nilp, (.str [])]) h2 fun x5 h6 =>
  wK (dStF 2 x5 x3 h6) fun x7 h8 =>
  vK (v_neq x4 (.int .i64 (.ofNat 0))) fun x9 =>
  bK x9
  (some (x4, h8))
  (vK (v_ldN 2 h8.get x5) fun x10 =>
  wK (callK E 99 [x10] h8) fun x11 h12 =>
  bK x11
  (some ((.int .i64 (.ofNat 6)), h12))
  (wK (callK E 141 [r0] h12) fun x13 h14 =>
  vK (v_eql x13 (.int .i64 (.ofNat 0))) fun x15 =>
  bK x15
  (some ((.int .i64 (.ofNat 5)), h14))
  (vK (v_nilchk r0) fun x16 =>
  vK (v_fa 512 x16) fun x17 =>
  vK (v_ld h14.get x17) fun x18 =>
  vK (v_add x18 (.int .i64 (.ofNat 1))) fun x19 =>
  vK (v_nilchk r0) fun x20 =>
  vK (v_fa 512 x20) fun x21 =>
  wK (dStF 1 x21 x19 h14) fun x22 h23 =>
  vK (v_nilchk r0) fun x24 =>
  vK (v_fa 512 x24) fun x25 =>
  vK (v_ld h23.get x25) fun x26 =>
  vK (v_bld [(.int .i64 (.ofNat 0)), .nili] [(0, 1, x26), (1, 1, r2)]) fun x27 =>
  vK (v_nilchk r0) fun x28 =>
  vK (v_fa 0 x28) fun x29 =>
  vK (v_iaA 256 2 x29 x13) fun x30 =>
  wK (dStF 2 x30 x27 h23) fun x31 h32 =>
  vK (v_fa 0 x5) fun x33 =>
  vK (v_ld h32.get x33) fun x34 =>
  vK (v_fa 1 x5) fun x35 =>
  vK (v_ld h32.get x35) fun x36 =>
  wK (callK E 100 [x34, x36, x13] h32) fun x37 h38 =>
  some ((.int .i64 (.ofNat 0)), h38))))
def C94_0 : DC := (.seq (.reg [⟨(some p6), none, (.e (.mv (.c (.int .i64 (.ofNat 0)))))⟩]) (.seq (.reg [⟨(some p11), none, (.e (.mv (.r p0)))⟩, ⟨(some p12), none, (.e (.mv (.r p1)))⟩, ⟨(some p13), none, (.c (.f 95 [(.r p11), (.r p12)]))⟩, ⟨(some p10), none, (.e (.mv (.r p13)))⟩, ⟨(some p14), none, (.e (.ext 0 (.r p10)))⟩, ⟨(some p15), none, (.e (.ext 1 (.r p10)))⟩, ⟨(some p7), none, (.e (.alc 2 2 (.list [.nilp, (.str [])])))⟩, ⟨none, none, (.w (.st 2 (.r p7) (.r p14)))⟩, ⟨(some p8), none, (.e (.mv (.r p15)))⟩]) (.seq (.seq (.reg [⟨(some p16), none, (.e (.mv (.r p8)))⟩, ⟨(some p17), none, (.e (.bin .neq (.r p16) (.c (.int .i64 (.ofNat 0)))))⟩]) (.cond (.r p17) (.seq (.reg [⟨(some p18), none, (.e (.mv (.r p8)))⟩, ⟨(some p6), none, (.e (.mv (.r p18)))⟩]) .ret) .skip)) (.seq (.seq (.reg [⟨(some p19), none, (.e (.ldN 2 (.r p7)))⟩, ⟨(some p20), none, (.c (.f 99 [(.r p19)]))⟩]) (.cond (.r p20) (.seq (.reg [⟨(some p6), none, (.e (.mv (.c (.int .i64 (.ofNat 6)))))⟩]) .ret) .skip)) (.seq (.reg [⟨(some p21), none, (.e (.mv (.r p0)))⟩, ⟨(some p22), none, (.c (.f 141 [(.r p21)]))⟩, ⟨(some p9), none, (.e (.mv (.r p22)))⟩]) (.seq (.seq (.reg [⟨(some p23), none, (.e (.mv (.r p9)))⟩, ⟨(some p24), none, (.e (.bin .eql (.r p23) (.c (.int .i64 (.ofNat 0)))))⟩]) (.cond (.r p24) (.seq (.reg [⟨(some p6), none, (.e (.mv (.c (.int .i64 (.ofNat 5)))))⟩]) .ret) .skip)) (.seq (.reg [⟨(some p25), none, (.e (.mv (.r p0)))⟩, ⟨(some p26), none, (.e (.nilchk (.r p25)))⟩, ⟨(some p27), none, (.e (.fa 512 (.r p26)))⟩, ⟨(some p28), none, (.e (.ld (.r p27)))⟩, ⟨(some p29), none, (.e (.bin .add (.r p28) (.c (.int .i64 (.ofNat 1)))))⟩, ⟨(some p30), none, (.e (.nilchk (.r p25)))⟩, ⟨(some p31), none, (.e (.fa 512 (.r p30)))⟩, ⟨none, none, (.w (.st 1 (.r p31) (.r p29)))⟩]) (.seq (.drg [⟨0, ⟨(some p32), none, (.e (.mv (.r p0)))⟩, [], false⟩, ⟨1, ⟨(some p33), none, (.e (.mv (.r p9)))⟩, [], false⟩, ⟨2, ⟨(some p34), none, (.e (.mv (.r p0)))⟩, [], false⟩, ⟨3, ⟨(some p35), none, (.e (.nilchk (.r p34)))⟩, [], false⟩, ⟨4, ⟨(some p36), none, (.e (.fa 512 (.r p35)))⟩, [], false⟩, ⟨5, ⟨(some p37), none, (.e (.ld (.r p36)))⟩, [], false⟩, ⟨6, ⟨(some p38), none, (.e (.mv (.r p2)))⟩, [], false⟩, ⟨7, ⟨(some p39), none, (.e (.bld [(.int .i64 (.ofNat 0)), .nili] [(0, 1, (.r p37)), (1, 1, (.r p38))]))⟩, [], false⟩, ⟨8, ⟨(some p40), none, (.e (.nilchk (.r p32)))⟩, [], false⟩, ⟨9, ⟨(some p41), none, (.e (.fa 0 (.r p40)))⟩, [], false⟩, ⟨10, ⟨(some p42), none, (.e (.iaA 256 2 (.r p41) (.r p33)))⟩, [], false⟩, ⟨11, ⟨none, none, (.w (.st 2 (.r p42) (.r p39)))⟩, [], false⟩]) (.seq (.reg [⟨(some p43), none, (.e (.fa 0 (.r p7)))⟩, ⟨(some p44), none, (.e (.ld (.r p43)))⟩, ⟨(some p45), none, (.e (.fa 1 (.r p7)))⟩, ⟨(some p46), none, (.e (.ld (.r p45)))⟩, ⟨(some p47), none, (.e (.mv (.r p9)))⟩, ⟨(some p48), none, (.c (.f 100 [(.r p44), (.r p46), (.r p47)]))⟩]) (.seq (.reg [⟨(some p6), none, (.e (.mv (.c (.int .i64 (.ofNat 0)))))⟩]) .ret))))))))))
theorem I94_0 (E : Env) : Is E C94_0 (retK3 R94) (fun σ h => J94_0 E (σ p0) (σ p1) (σ p2) h) :=
  fun σ h => by kernel_rfl
def D94 : DF := ⟨3, 49, C94_0, R94⟩
noncomputable def S94 (E : Env) : Fun := fun args h => aS args fun r0 args => aS args fun r1 args => aS args fun r2 args => a0 args (J94_0 E r0 r1 r2 h)
theorem S94_eq (E : Env) (args : List DV) (h : H) : runFn E D94 args h = S94 E args h :=
  Is.fn3 (d := D94) (I94_0 E) rfl (fun r0 r1 r2 h => J94_0 E r0 r1 r2 h) (fun r0 r1 r2 h => by kernel_rfl) args h
/- (*hurdle/tree.Tree).parent -/
def R95 : List RV := [(.cells p4 2), (.r p5)]
noncomputable def J95_0 (E : Env) (r0 r1 : DV) (h : H) : Ans :=
  n_alc 2 2 (.list [.nilp, (.str [])]) h fun x1 h2 =>
  vK (v_eqv .ptr false h2.get r0 .nilp) fun x3 =>
  bK x3
  (vK (v_bld [.nilp, (.str [])] []) fun x4 =>
  wK (dStF 2 x1 x4 h2) fun x5 h6 =>
  vK (v_ldN 2 h6.get x1) fun x7 =>
  some ((.tup [x7, (.int .i64 (.ofNat 1))]), h6))
  (wK (callK E 137 [r1] h2) fun x8 h9 =>
  vK (v_ext 0 x8) fun x10 =>
  vK (v_ext 1 x8) fun x11 =>
  vK (v_neq x11 (.int .i64 (.ofNat 0))) fun x12 =>
  gdK x12 false (fun kk => kk x10 h9) h9 fun x13 h14 =>
  gdK x12 false (fun kk => vK (v_lenL x13) fun v => kk v h14) h14 fun x15 h16 =>
  gdK x12 false (fun kk => vK (v_eql x15 (.int .i64 (.ofNat 0))) fun v => kk v h16) h16 fun x17 h18 =>
  vK (v_pick x12 (.bool true) x17) fun x19 =>
  bK x19
  (vK (v_bld [.nilp, (.str [])] []) fun x20 =>
  wK (dStF 2 x1 x20 h18) fun x21 h22 =>
  vK (v_ldN 2 h22.get x1) fun x23 =>
  some ((.tup [x23, (.int .i64 (.ofNat 15))]), h22))
  (vK (v_lenL x10) fun x24 =>
  vK (v_sub x24 (.int .i64 (.ofNat 1))) fun x25 =>
  vK (v_slL 1 x10 none (some x25)) fun x26 =>
  wK (callK E 138 [r0, x26] h18) fun x27 h28 =>
  vK (v_ext 0 x27) fun x29 =>
  vK (v_ext 1 x27) fun x30 =>
  vK (v_neq x30 (.int .i64 (.ofNat 0))) fun x31 =>
  bK x31
  (vK (v_bld [.nilp, (.str [])] []) fun x32 =>
  wK (dStF 2 x1 x32 h28) fun x33 h34 =>
  vK (v_ldN 2 h34.get x1) fun x35 =>
  some ((.tup [x35, x30]), h34))
  (wK (callK E 87 [r0, x29] h28) fun x36 h37 =>
  vK (v_eqv .ptr false h37.get x36 .nilp) fun x38 =>
  bK x38
  (vK (v_bld [.nilp, (.str [])] []) fun x39 =>
  wK (dStF 2 x1 x39 h37) fun x40 h41 =>
  vK (v_ldN 2 h41.get x1) fun x42 =>
  some ((.tup [x42, (.int .i64 (.ofNat 13))]), h41))
  (vK (v_iaS 1 x10 x25) fun x43 =>
  vK (v_ld h37.get x43) fun x44 =>
  vK (v_bld [.nilp, (.str [])] [(0, 1, x36), (1, 1, x44)]) fun x45 =>
  wK (dStF 2 x1 x45 h37) fun x46 h47 =>
  vK (v_ldN 2 h47.get x1) fun x48 =>
  some ((.tup [x48, (.int .i64 (.ofNat 0))]), h47)))))
def C95_0 : DC := (.seq (.reg [⟨(some p4), none, (.e (.alc 2 2 (.list [.nilp, (.str [])])))⟩, ⟨(some p5), none, (.e (.mv (.c (.int .i64 (.ofNat 0)))))⟩]) (.seq (.seq (.reg [⟨(some p11), none, (.e (.mv (.r p0)))⟩, ⟨(some p12), none, (.e (.eqv .ptr false (.r p11) (.c .nilp)))⟩]) (.cond (.r p12) (.seq (.reg [⟨(some p13), none, (.e (.bld [.nilp, (.str [])] []))⟩, ⟨none, none, (.w (.st 2 (.r p4) (.r p13)))⟩, ⟨(some p5), none, (.e (.mv (.c (.int .i64 (.ofNat 1)))))⟩]) .ret) .skip)) (.seq (.reg [⟨(some p15), none, (.e (.mv (.r p1)))⟩, ⟨(some p16), none, (.c (.f 137 [(.r p15)]))⟩, ⟨(some p14), none, (.e (.mv (.r p16)))⟩, ⟨(some p17), none, (.e (.ext 0 (.r p14)))⟩, ⟨(some p18), none, (.e (.ext 1 (.r p14)))⟩, ⟨(some p6), none, (.e (.mv (.r p17)))⟩, ⟨(some p7), none, (.e (.mv (.r p18)))⟩]) (.seq (.seq (.reg [⟨(some p19), none, (.e (.mv (.r p7)))⟩, ⟨(some p20), none, (.e (.bin .neq (.r p19) (.c (.int .i64 (.ofNat 0)))))⟩, ⟨(some p21), none, (.e (.mv (.r p20)))⟩, ⟨(some p22), (some (p21, false)), (.e (.mv (.r p6)))⟩, ⟨(some p23), (some (p21, false)), (.e (.lenL (.r p22)))⟩, ⟨(some p24), (some (p21, false)), (.e (.bin .eql (.r p23) (.c (.int .i64 (.ofNat 0)))))⟩, ⟨(some p25), none, (.e (.pick (.r p21) (.c (.bool true)) (.r p24)))⟩]) (.cond (.r p25) (.seq (.reg [⟨(some p26), none, (.e (.bld [.nilp, (.str [])] []))⟩, ⟨none, none, (.w (.st 2 (.r p4) (.r p26)))⟩, ⟨(some p5), none, (.e (.mv (.c (.int .i64 (.ofNat 15)))))⟩]) .ret) .skip)) (.seq (.reg [⟨(some p27), none, (.e (.mv (.r p6)))⟩, ⟨(some p28), none, (.e (.lenL (.r p27)))⟩, ⟨(some p29), none, (.e (.bin .sub (.r p28) (.c (.int .i64 (.ofNat 1)))))⟩, ⟨(some p8), none, (.e (.mv (.r p29)))⟩]) (.seq (.reg [⟨(some p31), none, (.e (.mv (.r p0)))⟩, ⟨(some p32), none, (.e (.mv (.r p6)))⟩, ⟨(some p33), none, (.e (.mv (.r p8)))⟩, ⟨(some p34), none, (.e (.slL 1 (.r p32) none (some (.r p33))))⟩, ⟨(some p35), none, (.c (.f 138 [(.r p31), (.r p34)]))⟩, ⟨(some p30), none, (.e (.mv (.r p35)))⟩, ⟨(some p36), none, (.e (.ext 0 (.r p30)))⟩, ⟨(some p37), none, (.e (.ext 1 (.r p30)))⟩, ⟨(some p9), none, (.e (.mv (.r p36)))⟩, ⟨(some p7), none, (.e (.mv (.r p37)))⟩]) (.seq (.seq (.reg [⟨(some p38), none, (.e (.mv (.r p7)))⟩, ⟨(some p39), none, (.e (.bin .neq (.r p38) (.c (.int .i64 (.ofNat 0)))))⟩]) (.cond (.r p39) (.seq (.reg [⟨(some p40), none, (.e (.bld [.nilp, (.str [])] []))⟩, ⟨(some p41), none, (.e (.mv (.r p7)))⟩, ⟨none, none, (.w (.st 2 (.r p4) (.r p40)))⟩, ⟨(some p5), none, (.e (.mv (.r p41)))⟩]) .ret) .skip)) (.seq (.reg [⟨(some p42), none, (.e (.mv (.r p0)))⟩, ⟨(some p43), none, (.e (.mv (.r p9)))⟩, ⟨(some p44), none, (.c (.f 87 [(.r p42), (.r p43)]))⟩, ⟨(some p10), none, (.e (.mv (.r p44)))⟩]) (.seq (.seq (.reg [⟨(some p45), none, (.e (.mv (.r p10)))⟩, ⟨(some p46), none, (.e (.eqv .ptr false (.r p45) (.c .nilp)))⟩]) (.cond (.r p46) (.seq (.reg [⟨(some p47), none, (.e (.bld [.nilp, (.str [])] []))⟩, ⟨none, none, (.w (.st 2 (.r p4) (.r p47)))⟩, ⟨(some p5), none, (.e (.mv (.c (.int .i64 (.ofNat 13)))))⟩]) .ret) .skip)) (.seq (.reg [⟨(some p48), none, (.e (.mv (.r p10)))⟩, ⟨(some p49), none, (.e (.mv (.r p6)))⟩, ⟨(some p50), none, (.e (.mv (.r p8)))⟩, ⟨(some p51), none, (.e (.iaS 1 (.r p49) (.r p50)))⟩, ⟨(some p52), none, (.e (.ld (.r p51)))⟩, ⟨(some p53), none, (.e (.bld [.nilp, (.str [])] [(0, 1, (.r p48)), (1, 1, (.r p52))]))⟩, ⟨none, none, (.w (.st 2 (.r p4) (.r p53)))⟩, ⟨(some p5), none, (.e (.mv (.c (.int .i64 (.ofNat 0)))))⟩]) .ret))))))))))
theorem I95_0 (E : Env) : Is E C95_0 (retK3 R95) (fun σ h => J95_0 E (σ p0) (σ p1) h) :=
  fun σ h => by kernel_rfl
def D95 : DF := ⟨2, 54, C95_0, R95⟩
noncomputable def S95 (E : Env) : Fun := fun args h => aS args fun r0 args => aS args fun r1 args => a0 args (J95_0 E r0 r1 h)
theorem S95_eq (E : Env) (args : List DV) (h : H) : runFn E D95 args h = S95 E args h :=
  Is.fn2 (d := D95) (I95_0 E) rfl (fun r0 r1 h => J95_0 E r0 r1 h) (fun r0 r1 h => by kernel_rfl) args h
/- (*hurdle/dirs.Dir).Remove -/
def R96 : List RV := [(.r p4), (.r p5)]
noncomputable def J96_0 (E : Env) (r0 r1 : DV) (h : H) : Ans :=
  vK (v_eqv .ptr false h.get r0 .nilp) fun x1 =>
  bK x1
  (some ((.tup [(.int .i64 (.ofNat 0)), (.int .i64 (.ofNat 1))]), h))
  (wK (callK E 142 [r0, r1] h) fun x2 h3 =>
  vK (v_ext 0 x2) fun x4 =>
  vK (v_ext 1 x2) fun x5 =>
  vK (v_not x5) fun x6 =>
  bK x6
  (some ((.tup [(.int .i64 (.ofNat 0)), (.int .i64 (.ofNat 7))]), h3))
  (vK (v_nilchk r0) fun x7 =>
  vK (v_fa 0 x7) fun x8 =>
  vK (v_ld h3.get x8) fun x9 =>
  vK (v_iaS 2 x9 x4) fun x10 =>
  vK (v_fa 1 x10) fun x11 =>
  vK (v_ld h3.get x11) fun x12 =>
  vK (v_nilchk r0) fun x13 =>
  vK (v_fa 0 x13) fun x14 =>
  vK (v_ld h3.get x14) fun x15 =>
  vK (v_add x4 (.int .i64 (.ofNat 1))) fun x16 =>
  wK (callK E 143 [x15, x4, x16] h3) fun x17 h18 =>
  vK (v_nilchk r0) fun x19 =>
  vK (v_fa 0 x19) fun x20 =>
  wK (dStF 1 x20 x17 h18) fun x21 h22 =>
  some ((.tup [x12, (.int .i64 (.ofNat 0))]), h22)))
def C96_0 : DC := (.seq (.reg [⟨(some p4), none, (.e (.mv (.c (.int .i64 (.ofNat 0)))))⟩, ⟨(some p5), none, (.e (.mv (.c (.int .i64 (.ofNat 0)))))⟩]) (.seq (.seq (.reg [⟨(some p9), none, (.e (.mv (.r p0)))⟩, ⟨(some p10), none, (.e (.eqv .ptr false (.r p9) (.c .nilp)))⟩]) (.cond (.r p10) (.seq (.reg [⟨(some p4), none, (.e (.mv (.c (.int .i64 (.ofNat 0)))))⟩, ⟨(some p5), none, (.e (.mv (.c (.int .i64 (.ofNat 1)))))⟩]) .ret) .skip)) (.seq (.reg [⟨(some p12), none, (.e (.mv (.r p0)))⟩, ⟨(some p13), none, (.e (.mv (.r p1)))⟩, ⟨(some p14), none, (.c (.f 142 [(.r p12), (.r p13)]))⟩, ⟨(some p11), none, (.e (.mv (.r p14)))⟩, ⟨(some p15), none, (.e (.ext 0 (.r p11)))⟩, ⟨(some p16), none, (.e (.ext 1 (.r p11)))⟩, ⟨(some p6), none, (.e (.mv (.r p15)))⟩, ⟨(some p7), none, (.e (.mv (.r p16)))⟩]) (.seq (.seq (.reg [⟨(some p17), none, (.e (.mv (.r p7)))⟩, ⟨(some p18), none, (.e (.not (.r p17)))⟩]) (.cond (.r p18) (.seq (.reg [⟨(some p4), none, (.e (.mv (.c (.int .i64 (.ofNat 0)))))⟩, ⟨(some p5), none, (.e (.mv (.c (.int .i64 (.ofNat 7)))))⟩]) .ret) .skip)) (.seq (.reg [⟨(some p19), none, (.e (.mv (.r p0)))⟩, ⟨(some p20), none, (.e (.nilchk (.r p19)))⟩, ⟨(some p21), none, (.e (.fa 0 (.r p20)))⟩, ⟨(some p22), none, (.e (.ld (.r p21)))⟩, ⟨(some p23), none, (.e (.mv (.r p6)))⟩, ⟨(some p24), none, (.e (.iaS 2 (.r p22) (.r p23)))⟩, ⟨(some p25), none, (.e (.fa 1 (.r p24)))⟩, ⟨(some p26), none, (.e (.ld (.r p25)))⟩, ⟨(some p8), none, (.e (.mv (.r p26)))⟩]) (.seq (.reg [⟨(some p27), none, (.e (.mv (.r p0)))⟩, ⟨(some p28), none, (.e (.mv (.r p0)))⟩, ⟨(some p29), none, (.e (.nilchk (.r p28)))⟩, ⟨(some p30), none, (.e (.fa 0 (.r p29)))⟩, ⟨(some p31), none, (.e (.ld (.r p30)))⟩, ⟨(some p32), none, (.e (.mv (.r p6)))⟩, ⟨(some p33), none, (.e (.mv (.r p6)))⟩, ⟨(some p34), none, (.e (.bin .add (.r p33) (.c (.int .i64 (.ofNat 1)))))⟩, ⟨(some p35), none, (.c (.f 143 [(.r p31), (.r p32), (.r p34)]))⟩, ⟨(some p36), none, (.e (.nilchk (.r p27)))⟩, ⟨(some p37), none, (.e (.fa 0 (.r p36)))⟩, ⟨none, none, (.w (.st 1 (.r p37) (.r p35)))⟩]) (.seq (.reg [⟨(some p38), none, (.e (.mv (.r p8)))⟩, ⟨(some p4), none, (.e (.mv (.r p38)))⟩, ⟨(some p5), none, (.e (.mv (.c (.int .i64 (.ofNat 0)))))⟩]) .ret)))))))
theorem I96_0 (E : Env) : Is E C96_0 (retK3 R96) (fun σ h => J96_0 E (σ p0) (σ p1) h) :=
  fun σ h => by kernel_rfl
def D96 : DF := ⟨2, 39, C96_0, R96⟩
noncomputable def S96 (E : Env) : Fun := fun args h => aS args fun r0 args => aS args fun r1 args => a0 args (J96_0 E r0 r1 h)
theorem S96_eq (E : Env) (args : List DV) (h : H) : runFn E D96 args h = S96 E args h :=
  Is.fn2 (d := D96) (I96_0 E) rfl (fun r0 r1 h => J96_0 E r0 r1 h) (fun r0 r1 h => by kernel_rfl) args h
/- (*hurdle/dirs.Dir).Len -/
def R97 : List RV := [(.r p2)]
noncomputable def J97_0 (E : Env) (r0 : DV) (h : H) : Ans :=
  vK (v_eqv .ptr false h.get r0 .nilp) fun x1 =>
  bK x1
  (some ((.int .i64 (.ofNat 0)), h))
  (vK (v_nilchk r0) fun x2 =>
  vK (v_fa 0 x2) fun x3 =>
  vK (v_ld h.get x3) fun x4 =>
  vK (v_lenL x4) fun x5 =>
  some (x5, h))
def C97_0 : DC := (.seq (.reg [⟨(some p2), none, (.e (.mv (.c (.int .i64 (.ofNat 0)))))⟩]) (.seq (.seq (.reg [⟨(some p3), none, (.e (.mv (.r p0)))⟩, ⟨(some p4), none, (.e (.eqv .ptr false (.r p3) (.c .nilp)))⟩]) (.cond (.r p4) (.seq (.reg [⟨(some p2), none, (.e (.mv (.c (.int .i64 (.ofNat 0)))))⟩]) .ret) .skip)) (.seq (.reg [⟨(some p5), none, (.e (.mv (.r p0)))⟩, ⟨(some p6), none, (.e (.nilchk (.r p5)))⟩, ⟨(some p7), none, (.e (.fa 0 (.r p6)))⟩, ⟨(some p8), none, (.e (.ld (.r p7)))⟩, ⟨(some p9), none, (.e (.lenL (.r p8)))⟩, ⟨(some p2), none, (.e (.mv (.r p9)))⟩]) .ret)))
theorem I97_0 (E : Env) : Is E C97_0 (retK3 R97) (fun σ h => J97_0 E (σ p0) h) :=
  fun σ h => by kernel_rfl
def D97 : DF := ⟨1, 10, C97_0, R97⟩
noncomputable def S97 (E : Env) : Fun := fun args h => aS args fun r0 args => a0 args (J97_0 E r0 h)
theorem S97_eq (E : Env) (args : List DV) (h : H) : runFn E D97 args h = S97 E args h :=
  Is.fn1 (d := D97) (I97_0 E) rfl (fun r0 h => J97_0 E r0 h) (fun r0 h => by kernel_rfl) args h
/- hurdle/paths.Within -/
def R98 : List RV := [(.r p4)]
noncomputable def J98_0 (E : Env) (r0 r1 : DV) (h : H) : Ans :=
  wK (callK E 137 [r0] h) fun x1 h2 =>
  vK (v_ext 0 x1) fun x3 =>
  vK (v_ext 1 x1) fun x4 =>
  wK (callK E 137 [r1] h2) fun x5 h6 =>
  vK (v_ext 0 x5) fun x7 =>
  vK (v_ext 1 x5) fun x8 =>
  vK (v_eql x4 (.int .i64 (.ofNat 0))) fun x9 =>
  gdK x9 true (fun kk => kk x8 h6) h6 fun x10 h11 =>
  gdK x9 true (fun kk => vK (v_eql x10 (.int .i64 (.ofNat 0))) fun v => kk v h11) h11 fun x12 h13 =>
  vK (v_pick x9 x12 (.bool false)) fun x14 =>
  gdK x14 true (fun kk => kk x7 h13) h13 fun x15 h16 =>
  gdK x14 true (fun kk => vK (v_lenL x15) fun v => kk v h16) h16 fun x17 h18 =>
  gdK x14 true (fun kk => kk x3 h18) h18 fun x19 h20 =>
  gdK x14 true (fun kk => vK (v_lenL x19) fun v => kk v h20) h20 fun x21 h22 =>
  gdK x14 true (fun kk => vK (v_gtr x17 x21) fun v => kk v h22) h22 fun x23 h24 =>
  vK (v_pick x14 x23 (.bool false)) fun x25 =>
  gdK x25 true (fun kk => kk x3 h24) h24 fun x26 h27 =>
  gdK x25 true (fun kk => kk x7 h27) h27 fun x28 h29 =>
  gdK x25 true (fun kk => kk x3 h29) h29 fun x30 h31 =>
  gdK x25 true (fun kk => vK (v_lenL x30) fun v => kk v h31) h31 fun x32 h33 =>
  gdK x25 true (fun kk => vK (v_slL 1 x28 none (some x32)) fun v => kk v h33) h33 fun x34 h35 =>
  gdK x25 true (fun kk => wK (callK E 144 [x26, x34] h35) kk) h35 fun x36 h37 =>
  vK (v_pick x25 x36 (.bool false)) fun x38 =>
  some (x38, h37)
def C98_0 : DC := (.seq (.reg [⟨(some p4), none, (.e (.mv (.c (.bool false))))⟩]) (.seq (.reg [⟨(some p10), none, (.e (.mv (.r p0)))⟩, ⟨(some p11), none, (.c (.f 137 [(.r p10)]))⟩, ⟨(some p9), none, (.e (.mv (.r p11)))⟩, ⟨(some p12), none, (.e (.ext 0 (.r p9)))⟩, ⟨(some p13), none, (.e (.ext 1 (.r p9)))⟩, ⟨(some p5), none, (.e (.mv (.r p12)))⟩, ⟨(some p6), none, (.e (.mv (.r p13)))⟩]) (.seq (.reg [⟨(some p15), none, (.e (.mv (.r p1)))⟩, ⟨(some p16), none, (.c (.f 137 [(.r p15)]))⟩, ⟨(some p14), none, (.e (.mv (.r p16)))⟩, ⟨(some p17), none, (.e (.ext 0 (.r p14)))⟩, ⟨(some p18), none, (.e (.ext 1 (.r p14)))⟩, ⟨(some p7), none, (.e (.mv (.r p17)))⟩, ⟨(some p8), none, (.e (.mv (.r p18)))⟩]) (.seq (.reg [⟨(some p19), none, (.e (.mv (.r p6)))⟩, ⟨(some p20), none, (.e (.bin .eql (.r p19) (.c (.int .i64 (.ofNat 0)))))⟩, ⟨(some p21), none, (.e (.mv (.r p20)))⟩, ⟨(some p22), (some (p21, true)), (.e (.mv (.r p8)))⟩, ⟨(some p23), (some (p21, true)), (.e (.bin .eql (.r p22) (.c (.int .i64 (.ofNat 0)))))⟩, ⟨(some p24), none, (.e (.pick (.r p21) (.r p23) (.c (.bool false))))⟩, ⟨(some p25), none, (.e (.mv (.r p24)))⟩, ⟨(some p26), (some (p25, true)), (.e (.mv (.r p7)))⟩, ⟨(some p27), (some (p25, true)), (.e (.lenL (.r p26)))⟩, ⟨(some p28), (some (p25, true)), (.e (.mv (.r p5)))⟩, ⟨(some p29), (some (p25, true)), (.e (.lenL (.r p28)))⟩, ⟨(some p30), (some (p25, true)), (.e (.bin .gtr (.r p27) (.r p29)))⟩, ⟨(some p31), none, (.e (.pick (.r p25) (.r p30) (.c (.bool false))))⟩, ⟨(some p32), none, (.e (.mv (.r p31)))⟩, ⟨(some p33), (some (p32, true)), (.e (.mv (.r p5)))⟩, ⟨(some p34), (some (p32, true)), (.e (.mv (.r p7)))⟩, ⟨(some p35), (some (p32, true)), (.e (.mv (.r p5)))⟩, ⟨(some p36), (some (p32, true)), (.e (.lenL (.r p35)))⟩, ⟨(some p37), (some (p32, true)), (.e (.slL 1 (.r p34) none (some (.r p36))))⟩, ⟨(some p38), (some (p32, true)), (.c (.f 144 [(.r p33), (.r p37)]))⟩, ⟨(some p39), none, (.e (.pick (.r p32) (.r p38) (.c (.bool false))))⟩, ⟨(some p4), none, (.e (.mv (.r p39)))⟩]) .ret))))
theorem I98_0 (E : Env) : Is E C98_0 (retK3 R98) (fun σ h => J98_0 E (σ p0) (σ p1) h) :=
  fun σ h => by kernel_rfl
def D98 : DF := ⟨2, 40, C98_0, R98⟩
noncomputable def S98 (E : Env) : Fun := fun args h => aS args fun r0 args => aS args fun r1 args => a0 args (J98_0 E r0 r1 h)
theorem S98_eq (E : Env) (args : List DV) (h : H) : runFn E D98 args h = S98 E args h :=
  Is.fn2 (d := D98) (I98_0 E) rfl (fun r0 r1 h => J98_0 E r0 r1 h) (fun r0 r1 h => by kernel_rfl) args h
/- (hurdle/tree.slot).there -/
def R99 : List RV := [(.r p2)]
noncomputable def J99_0 (E : Env) (r0 : DV) (h : H) : Ans :=
  n_box r0 h fun x1 h2 =>
  vK (v_fa 0 x1) fun x3 =>
  vK (v_ld h2.get x3) fun x4 =>
  vK (v_fa 1 x1) fun x5 =>
  vK (v_ld h2.get x5) fun x6 =>
  wK (callK E 145 [x4, x6] h2) fun x7 h8 =>
  vK (v_ext 0 x7) fun x9 =>
  vK (v_ext 1 x7) fun x10 =>
  vK (v_eql x10 (.int .i64 (.ofNat 0))) fun x11 =>
  some (x11, h8)
def C99_0 : DC := (.seq (.reg [⟨(some p1), none, (.e (.box (.r p0)))⟩, ⟨(some p2), none, (.e (.mv (.c (.bool false))))⟩]) (.seq (.reg [⟨(some p6), none, (.e (.fa 0 (.r p1)))⟩, ⟨(some p7), none, (.e (.ld (.r p6)))⟩, ⟨(some p8), none, (.e (.fa 1 (.r p1)))⟩, ⟨(some p9), none, (.e (.ld (.r p8)))⟩, ⟨(some p10), none, (.c (.f 145 [(.r p7), (.r p9)]))⟩, ⟨(some p5), none, (.e (.mv (.r p10)))⟩, ⟨(some p11), none, (.e (.ext 0 (.r p5)))⟩, ⟨(some p12), none, (.e (.ext 1 (.r p5)))⟩, ⟨(some p3), none, (.e (.mv (.r p11)))⟩, ⟨(some p4), none, (.e (.mv (.r p12)))⟩]) (.seq (.reg [⟨(some p13), none, (.e (.mv (.r p4)))⟩, ⟨(some p14), none, (.e (.bin .eql (.r p13) (.c (.int .i64 (.ofNat 0)))))⟩, ⟨(some p2), none, (.e (.mv (.r p14)))⟩]) .ret)))
theorem I99_0 (E : Env) : Is E C99_0 (retK3 R99) (fun σ h => J99_0 E (σ p0) h) :=
  fun σ h => by kernel_rfl
def D99 : DF := ⟨1, 15, C99_0, R99⟩
noncomputable def S99 (E : Env) : Fun := fun args h => aS args fun r0 args => a0 args (J99_0 E r0 h)
theorem S99_eq (E : Env) (args : List DV) (h : H) : runFn E D99 args h = S99 E args h :=
  Is.fn1 (d := D99) (I99_0 E) rfl (fun r0 h => J99_0 E r0 h) (fun r0 h => by kernel_rfl) args h
/- (*hurdle/dirs.Dir).Add -/
def R100 : List RV := [(.r p6)]
noncomputable def J100_0 (E : Env) (r0 r1 r2 : DV) (h : H) : Ans :=
  vK (v_eqv .ptr false h.get r0 .nilp) fun x1 =>
  gdK x1 false (fun kk => kk r2 h) h fun x2 h3 =>
  gdK x1 false (fun kk => vK (v_lss x2 (.int .i64 (.ofNat 1))) fun v => kk v h3) h3 fun x4 h5 =>
  vK (v_pick x1 (.bool true) x4) fun x6 =>
  gdK x6 false (fun kk => kk r2 h5) h5 fun x7 h8 =>
  gdK x6 false (fun kk => vK (v_geq x7 (.int .i64 (.ofNat 256))) fun v => kk v h8) h8 fun x9 h10 =>
  vK (v_pick x6 (.bool true) x9) fun x11 =>
  bK x11
  (some ((.int .i64 (.ofNat 1)), h10))
  (wK (callK E 146 [r1] h10) fun x12 h13 =>
  vK (v_not x12) fun x14 =>
  bK x14
  (some ((.int .i64 (.ofNat 15)), h13))
  (wK (callK E 142 [r0, r1] h13) fun x15 h16 =>
  vK (v_ext 0 x15) fun x17 =>
  vK (v_ext 1 x15) fun x18 =>
  bK x18
  (some ((.int .i64 (.ofNat 6)), h16))
  (vK (v_nilchk r0) fun x19 =>
  vK (v_fa 0 x19) fun x20 =>
  vK (v_ld h16.get x20) fun x21 =>
  vK (v_bld [(.str []), (.int .i64 (.ofNat 0))] [(0, 1, r1), (1, 1, r2)]) fun x22 =>
  n_bsl 1 2 [(.str []), (.int .i64 (.ofNat 0))] [(0, 2, x22)] h16 fun x23 h24 =>
  wK (callK E 147 [x21, x17, x23] h24) fun x25 h26 =>
  vK (v_nilchk r0) fun x27 =>
  vK (v_fa 0 x27) fun x28 =>
  wK (dStF 1 x28 x25 h26) fun x29 h30 =>
  some ((.int .i64 (.ofNat 0)), h30))))
def C100_0 : DC := (.seq (.reg [⟨(some p6), none, (.e (.mv (.c (.int .i64 (.ofNat 0)))))⟩]) (.seq (.block 0 (.seq (.reg [⟨(some p10), none, (.e (.mv (.r p0)))⟩, ⟨(some p11), none, (.e (.eqv .ptr false (.r p10) (.c .nilp)))⟩, ⟨(some p12), none, (.e (.mv (.r p11)))⟩, ⟨(some p13), (some (p12, false)), (.e (.mv (.r p2)))⟩, ⟨(some p14), (some (p12, false)), (.e (.bin .lss (.r p13) (.c (.int .i64 (.ofNat 1)))))⟩, ⟨(some p15), none, (.e (.pick (.r p12) (.c (.bool true)) (.r p14)))⟩, ⟨(some p16), none, (.e (.mv (.r p15)))⟩, ⟨(some p17), (some (p16, false)), (.e (.mv (.r p2)))⟩, ⟨(some p18), (some (p16, false)), (.e (.bin .geq (.r p17) (.c (.int .i64 (.ofNat 256)))))⟩, ⟨(some p19), none, (.e (.pick (.r p16) (.c (.bool true)) (.r p18)))⟩, ⟨(some p9), none, (.e (.mv (.r p19)))⟩]) (.cond (.r p9) (.seq (.reg [⟨(some p6), none, (.e (.mv (.c (.int .i64 (.ofNat 1)))))⟩]) .ret) (.seq (.reg [⟨(some p21), none, (.e (.mv (.r p1)))⟩, ⟨(some p22), none, (.c (.f 146 [(.r p21)]))⟩, ⟨(some p23), none, (.e (.not (.r p22)))⟩, ⟨(some p20), none, (.e (.mv (.r p23)))⟩]) (.cond (.r p20) (.seq (.reg [⟨(some p6), none, (.e (.mv (.c (.int .i64 (.ofNat 15)))))⟩]) .ret) .skip))))) (.seq (.reg [⟨(some p25), none, (.e (.mv (.r p0)))⟩, ⟨(some p26), none, (.e (.mv (.r p1)))⟩, ⟨(some p27), none, (.c (.f 142 [(.r p25), (.r p26)]))⟩, ⟨(some p24), none, (.e (.mv (.r p27)))⟩, ⟨(some p28), none, (.e (.ext 0 (.r p24)))⟩, ⟨(some p29), none, (.e (.ext 1 (.r p24)))⟩, ⟨(some p7), none, (.e (.mv (.r p28)))⟩, ⟨(some p8), none, (.e (.mv (.r p29)))⟩]) (.seq (.seq (.reg [⟨(some p30), none, (.e (.mv (.r p8)))⟩]) (.cond (.r p30) (.seq (.reg [⟨(some p6), none, (.e (.mv (.c (.int .i64 (.ofNat 6)))))⟩]) .ret) .skip)) (.seq (.reg [⟨(some p31), none, (.e (.mv (.r p0)))⟩, ⟨(some p32), none, (.e (.mv (.r p0)))⟩, ⟨(some p33), none, (.e (.nilchk (.r p32)))⟩, ⟨(some p34), none, (.e (.fa 0 (.r p33)))⟩, ⟨(some p35), none, (.e (.ld (.r p34)))⟩, ⟨(some p36), none, (.e (.mv (.r p7)))⟩, ⟨(some p37), none, (.e (.mv (.r p1)))⟩, ⟨(some p38), none, (.e (.mv (.r p2)))⟩, ⟨(some p39), none, (.e (.bld [(.str []), (.int .i64 (.ofNat 0))] [(0, 1, (.r p37)), (1, 1, (.r p38))]))⟩, ⟨(some p40), none, (.e (.bsl 1 2 [(.str []), (.int .i64 (.ofNat 0))] [(0, 2, (.r p39))]))⟩, ⟨(some p41), none, (.c (.f 147 [(.r p35), (.r p36), (.r p40)]))⟩, ⟨(some p42), none, (.e (.nilchk (.r p31)))⟩, ⟨(some p43), none, (.e (.fa 0 (.r p42)))⟩, ⟨none, none, (.w (.st 1 (.r p43) (.r p41)))⟩]) (.seq (.reg [⟨(some p6), none, (.e (.mv (.c (.int .i64 (.ofNat 0)))))⟩]) .ret))))))
theorem I100_0 (E : Env) : Is E C100_0 (retK3 R100) (fun σ h => J100_0 E (σ p0) (σ p1) (σ p2) h) :=
  fun σ h => by kernel_rfl
def D100 : DF := ⟨3, 44, C100_0, R100⟩
noncomputable def S100 (E : Env) : Fun := fun args h => aS args fun r0 args => aS args fun r1 args => aS args fun r2 args => a0 args (J100_0 E r0 r1 r2 h)
theorem S100_eq (E : Env) (args : List DV) (h : H) : runFn E D100 args h = S100 E args h :=
  Is.fn3 (d := D100) (I100_0 E) rfl (fun r0 r1 r2 h => J100_0 E r0 r1 r2 h) (fun r0 r1 r2 h => by kernel_rfl) args h
/- hurdle/bytes.Pad -/
def R101 : List RV := [(.r p4), (.r p5)]
noncomputable def J101_0 (E : Env) (r0 r1 : DV) (h : H) : Ans :=
  vK (v_lss r1 (.int .i64 (.ofNat 0))) fun x1 =>
  gdK x1 false (fun kk => kk r1 h) h fun x2 h3 =>
  gdK x1 false (fun kk => vK (v_gtr x2 (.int .i64 (.ofNat 65536))) fun v => kk v h3) h3 fun x4 h5 =>
  vK (v_pick x1 (.bool true) x4) fun x6 =>
  bK x6
  (some ((.tup [(.str []), (.int .i64 (.ofNat 1))]), h5))
  (vK (v_lenS r0) fun x7 =>
  vK (v_gtr x7 r1) fun x8 =>
  bK x8
  (some ((.tup [(.str []), (.int .i64 (.ofNat 2))]), h5))
  (vK (v_lenS r0) fun x9 =>
  vK (v_sub r1 x9) fun x10 =>
  wK (callK E 148 [x10] h5) fun x11 h12 =>
  vK (v_add r0 x11) fun x13 =>
  some ((.tup [x13, (.int .i64 (.ofNat 0))]), h12)))
def C101_0 : DC := (.seq (.reg [⟨(some p4), none, (.e (.mv (.c (.str []))))⟩, ⟨(some p5), none, (.e (.mv (.c (.int .i64 (.ofNat 0)))))⟩]) (.seq (.block 0 (.seq (.reg [⟨(some p7), none, (.e (.mv (.r p1)))⟩, ⟨(some p8), none, (.e (.bin .lss (.r p7) (.c (.int .i64 (.ofNat 0)))))⟩, ⟨(some p9), none, (.e (.mv (.r p8)))⟩, ⟨(some p10), (some (p9, false)), (.e (.mv (.r p1)))⟩, ⟨(some p11), (some (p9, false)), (.e (.bin .gtr (.r p10) (.c (.int .i64 (.ofNat 65536)))))⟩, ⟨(some p12), none, (.e (.pick (.r p9) (.c (.bool true)) (.r p11)))⟩, ⟨(some p6), none, (.e (.mv (.r p12)))⟩]) (.cond (.r p6) (.seq (.reg [⟨(some p4), none, (.e (.mv (.c (.str []))))⟩, ⟨(some p5), none, (.e (.mv (.c (.int .i64 (.ofNat 1)))))⟩]) .ret) (.seq (.reg [⟨(some p14), none, (.e (.mv (.r p0)))⟩, ⟨(some p15), none, (.e (.lenS (.r p14)))⟩, ⟨(some p16), none, (.e (.mv (.r p1)))⟩, ⟨(some p17), none, (.e (.bin .gtr (.r p15) (.r p16)))⟩, ⟨(some p13), none, (.e (.mv (.r p17)))⟩]) (.cond (.r p13) (.seq (.reg [⟨(some p4), none, (.e (.mv (.c (.str []))))⟩, ⟨(some p5), none, (.e (.mv (.c (.int .i64 (.ofNat 2)))))⟩]) .ret) .skip))))) (.seq (.reg [⟨(some p18), none, (.e (.mv (.r p0)))⟩, ⟨(some p19), none, (.e (.mv (.r p1)))⟩, ⟨(some p20), none, (.e (.mv (.r p0)))⟩, ⟨(some p21), none, (.e (.lenS (.r p20)))⟩, ⟨(some p22), none, (.e (.bin .sub (.r p19) (.r p21)))⟩, ⟨(some p23), none, (.c (.f 148 [(.r p22)]))⟩, ⟨(some p24), none, (.e (.bin .add (.r p18) (.r p23)))⟩, ⟨(some p4), none, (.e (.mv (.r p24)))⟩, ⟨(some p5), none, (.e (.mv (.c (.int .i64 (.ofNat 0)))))⟩]) .ret)))
theorem I101_0 (E : Env) : Is E C101_0 (retK3 R101) (fun σ h => J101_0 E (σ p0) (σ p1) h) :=
  fun σ h => by kernel_rfl
def D101 : DF := ⟨2, 25, C101_0, R101⟩
noncomputable def S101 (E : Env) : Fun := fun args h => aS args fun r0 args => aS args fun r1 args => a0 args (J101_0 E r0 r1 h)
theorem S101_eq (E : Env) (args : List DV) (h : H) : runFn E D101 args h = S101 E args h :=
  Is.fn2 (d := D101) (I101_0 E) rfl (fun r0 r1 h => J101_0 E r0 r1 h) (fun r0 r1 h => by kernel_rfl) args h
/- (*hurdle/tree.Tree).fill -/
def R102 : List RV := [(.r p6)]
noncomputable def J102_0 (E : Env) (r0 r1 r2 : DV) (h : H) : Ans :=
  vK (v_nilchk r0) fun x1 =>
  vK (v_fa 513 x1) fun x2 =>
  vK (v_ld h.get x2) fun x3 =>
  vK (v_nilchk r1) fun x4 =>
  vK (v_fa 0 x4) fun x5 =>
  vK (v_ld h.get x5) fun x6 =>
  vK (v_lenS x6) fun x7 =>
  vK (v_sub x3 x7) fun x8 =>
  vK (v_lenS r2) fun x9 =>
  vK (v_add x8 x9) fun x10 =>
  vK (v_gtr x10 (.int .i64 (.ofNat 65536))) fun x11 =>
  bK x11
  (some ((.int .i64 (.ofNat 5)), h))
  (vK (v_nilchk r0) fun x12 =>
  vK (v_fa 513 x12) fun x13 =>
  vK (v_ld h.get x13) fun x14 =>
  vK (v_lenS r2) fun x15 =>
  vK (v_nilchk r1) fun x16 =>
  vK (v_fa 0 x16) fun x17 =>
  vK (v_ld h.get x17) fun x18 =>
  vK (v_lenS x18) fun x19 =>
  vK (v_sub x15 x19) fun x20 =>
  vK (v_add x14 x20) fun x21 =>
  vK (v_nilchk r0) fun x22 =>
  vK (v_fa 513 x22) fun x23 =>
  wK (dStF 1 x23 x21 h) fun x24 h25 =>
  vK (v_nilchk r1) fun x26 =>
  vK (v_fa 0 x26) fun x27 =>
  wK (dStF 1 x27 r2 h25) fun x28 h29 =>
  some ((.int .i64 (.ofNat 0)), h29))
def C102_0 : DC := (.seq (.reg [⟨(some p6), none, (.e (.mv (.c (.int .i64 (.ofNat 0)))))⟩]) (.seq (.seq (.drg [⟨0, ⟨(some p7), none, (.e (.mv (.r p0)))⟩, [], false⟩, ⟨1, ⟨(some p8), none, (.e (.nilchk (.r p7)))⟩, [], false⟩, ⟨2, ⟨(some p9), none, (.e (.fa 513 (.r p8)))⟩, [], false⟩, ⟨3, ⟨(some p10), none, (.e (.ld (.r p9)))⟩, [], false⟩, ⟨4, ⟨(some p11), none, (.e (.mv (.r p1)))⟩, [], false⟩, ⟨5, ⟨(some p12), none, (.e (.nilchk (.r p11)))⟩, [], false⟩, ⟨6, ⟨(some p13), none, (.e (.fa 0 (.r p12)))⟩, [], false⟩, ⟨7, ⟨(some p14), none, (.e (.ld (.r p13)))⟩, [], false⟩, ⟨8, ⟨(some p15), none, (.e (.lenS (.r p14)))⟩, [], false⟩, ⟨9, ⟨(some p16), none, (.e (.bin .sub (.r p10) (.r p15)))⟩, [], false⟩, ⟨10, ⟨(some p17), none, (.e (.mv (.r p2)))⟩, [], false⟩, ⟨11, ⟨(some p18), none, (.e (.lenS (.r p17)))⟩, [], false⟩, ⟨12, ⟨(some p19), none, (.e (.bin .add (.r p16) (.r p18)))⟩, [], false⟩, ⟨13, ⟨(some p20), none, (.e (.bin .gtr (.r p19) (.c (.int .i64 (.ofNat 65536)))))⟩, [], false⟩]) (.cond (.r p20) (.seq (.reg [⟨(some p6), none, (.e (.mv (.c (.int .i64 (.ofNat 5)))))⟩]) .ret) .skip)) (.seq (.drg [⟨0, ⟨(some p21), none, (.e (.mv (.r p0)))⟩, [], false⟩, ⟨1, ⟨(some p22), none, (.e (.nilchk (.r p21)))⟩, [], false⟩, ⟨2, ⟨(some p23), none, (.e (.fa 513 (.r p22)))⟩, [], false⟩, ⟨3, ⟨(some p24), none, (.e (.ld (.r p23)))⟩, [], false⟩, ⟨4, ⟨(some p25), none, (.e (.mv (.r p2)))⟩, [], false⟩, ⟨5, ⟨(some p26), none, (.e (.lenS (.r p25)))⟩, [], false⟩, ⟨6, ⟨(some p27), none, (.e (.mv (.r p1)))⟩, [], false⟩, ⟨7, ⟨(some p28), none, (.e (.nilchk (.r p27)))⟩, [], false⟩, ⟨8, ⟨(some p29), none, (.e (.fa 0 (.r p28)))⟩, [], false⟩, ⟨9, ⟨(some p30), none, (.e (.ld (.r p29)))⟩, [], false⟩, ⟨10, ⟨(some p31), none, (.e (.lenS (.r p30)))⟩, [], false⟩, ⟨11, ⟨(some p32), none, (.e (.bin .sub (.r p26) (.r p31)))⟩, [], false⟩, ⟨12, ⟨(some p33), none, (.e (.bin .add (.r p24) (.r p32)))⟩, [], false⟩, ⟨13, ⟨(some p34), none, (.e (.nilchk (.r p21)))⟩, [], false⟩, ⟨14, ⟨(some p35), none, (.e (.fa 513 (.r p34)))⟩, [], false⟩, ⟨15, ⟨none, none, (.w (.st 1 (.r p35) (.r p33)))⟩, [], false⟩]) (.seq (.reg [⟨(some p36), none, (.e (.mv (.r p1)))⟩, ⟨(some p37), none, (.e (.mv (.r p2)))⟩, ⟨(some p38), none, (.e (.nilchk (.r p36)))⟩, ⟨(some p39), none, (.e (.fa 0 (.r p38)))⟩, ⟨none, none, (.w (.st 1 (.r p39) (.r p37)))⟩]) (.seq (.reg [⟨(some p6), none, (.e (.mv (.c (.int .i64 (.ofNat 0)))))⟩]) .ret)))))
theorem I102_0 (E : Env) : Is E C102_0 (retK3 R102) (fun σ h => J102_0 E (σ p0) (σ p1) (σ p2) h) :=
  fun σ h => by kernel_rfl
def D102 : DF := ⟨3, 40, C102_0, R102⟩
noncomputable def S102 (E : Env) : Fun := fun args h => aS args fun r0 args => aS args fun r1 args => aS args fun r2 args => a0 args (J102_0 E r0 r1 r2 h)
theorem S102_eq (E : Env) (args : List DV) (h : H) : runFn E D102 args h = S102 E args h :=
  Is.fn3 (d := D102) (I102_0 E) rfl (fun r0 r1 r2 h => J102_0 E r0 r1 r2 h) (fun r0 r1 r2 h => by kernel_rfl) args h
/- (*hurdle/codec.Writer).lay -/
def R103 : List RV := []
noncomputable def J103_0 (E : Env) (r0 r1 : DV) (h : H) : Ans :=
  vK (v_eqv .ptr false h.get r0 .nilp) fun x1 =>
  gdK x1 false (fun kk => kk r0 h) h fun x2 h3 =>
  gdK x1 false (fun kk => vK (v_nilchk x2) fun v => kk v h3) h3 fun x4 h5 =>
  gdK x1 false (fun kk => vK (v_fa 2 x4) fun v => kk v h5) h5 fun x6 h7 =>
  gdK x1 false (fun kk => vK (v_ld h7.get x6) fun v => kk v h7) h7 fun x8 h9 =>
  gdK x1 false (fun kk => vK (v_neq x8 (.int .i64 (.ofNat 0))) fun v => kk v h9) h9 fun x10 h11 =>
  vK (v_pick x1 (.bool true) x10) fun x12 =>
  bK x12
  (some ((.tup []), h11))
  (vK (v_nilchk r0) fun x13 =>
  vK (v_fa 1 x13) fun x14 =>
  vK (v_ld h11.get x14) fun x15 =>
  vK (v_nilchk r0) fun x16 =>
  vK (v_fa 1 x16) fun x17 =>
  vK (v_ld h11.get x17) fun x18 =>
  vK (v_lenL x18) fun x19 =>
  vK (v_nilchk r0) fun x20 =>
  vK (v_fa 1 x20) fun x21 =>
  vK (v_ld h11.get x21) fun x22 =>
  vK (v_lenL x22) fun x23 =>
  vK (v_slM 1 x15 none x19 x23) fun x24 =>
  wK (c_val E r1 [x24] h11) fun x25 h26 =>
  vK (v_lenL x25) fun x27 =>
  vK (v_nilchk r0) fun x28 =>
  vK (v_fa 0 x28) fun x29 =>
  vK (v_ld h26.get x29) fun x30 =>
  vK (v_gtr x27 x30) fun x31 =>
  bK x31
  (vK (v_nilchk r0) fun x32 =>
  vK (v_fa 2 x32) fun x33 =>
  wK (dStF 1 x33 (.int .i64 (.ofNat 2)) h26) fun x34 h35 =>
  some ((.tup []), h35))
  (vK (v_nilchk r0) fun x36 =>
  vK (v_fa 1 x36) fun x37 =>
  wK (dStF 1 x37 x25 h26) fun x38 h39 =>
  some ((.tup []), h39)))
def C103_0 : DC := (.seq (.seq (.reg [⟨(some p5), none, (.e (.mv (.r p0)))⟩, ⟨(some p6), none, (.e (.eqv .ptr false (.r p5) (.c .nilp)))⟩, ⟨(some p7), none, (.e (.mv (.r p6)))⟩, ⟨(some p8), (some (p7, false)), (.e (.mv (.r p0)))⟩, ⟨(some p9), (some (p7, false)), (.e (.nilchk (.r p8)))⟩, ⟨(some p10), (some (p7, false)), (.e (.fa 2 (.r p9)))⟩, ⟨(some p11), (some (p7, false)), (.e (.ld (.r p10)))⟩, ⟨(some p12), (some (p7, false)), (.e (.bin .neq (.r p11) (.c (.int .i64 (.ofNat 0)))))⟩, ⟨(some p13), none, (.e (.pick (.r p7) (.c (.bool true)) (.r p12)))⟩]) (.cond (.r p13) .ret .skip)) (.seq (.drg [⟨0, ⟨(some p14), none, (.e (.mv (.r p1)))⟩, [], false⟩, ⟨1, ⟨(some p15), none, (.e (.mv (.r p0)))⟩, [], false⟩, ⟨2, ⟨(some p16), none, (.e (.nilchk (.r p15)))⟩, [], false⟩, ⟨3, ⟨(some p17), none, (.e (.fa 1 (.r p16)))⟩, [], false⟩, ⟨4, ⟨(some p18), none, (.e (.ld (.r p17)))⟩, [], false⟩, ⟨5, ⟨(some p19), none, (.e (.mv (.r p0)))⟩, [], false⟩, ⟨6, ⟨(some p20), none, (.e (.nilchk (.r p19)))⟩, [], false⟩, ⟨7, ⟨(some p21), none, (.e (.fa 1 (.r p20)))⟩, [], false⟩, ⟨8, ⟨(some p22), none, (.e (.ld (.r p21)))⟩, [], false⟩, ⟨9, ⟨(some p23), none, (.e (.lenL (.r p22)))⟩, [], false⟩, ⟨10, ⟨(some p24), none, (.e (.mv (.r p0)))⟩, [], false⟩, ⟨11, ⟨(some p25), none, (.e (.nilchk (.r p24)))⟩, [], false⟩, ⟨12, ⟨(some p26), none, (.e (.fa 1 (.r p25)))⟩, [], false⟩, ⟨13, ⟨(some p27), none, (.e (.ld (.r p26)))⟩, [], false⟩, ⟨14, ⟨(some p28), none, (.e (.lenL (.r p27)))⟩, [], false⟩, ⟨15, ⟨(some p29), none, (.e (.slM 1 (.r p18) none (.r p23) (.r p28)))⟩, [], false⟩, ⟨16, ⟨(some p30), none, (.c (.v (.r p14) [(.r p29)]))⟩, [], false⟩, ⟨17, ⟨(some p4), none, (.e (.mv (.r p30)))⟩, [], false⟩]) (.seq (.seq (.reg [⟨(some p31), none, (.e (.mv (.r p4)))⟩, ⟨(some p32), none, (.e (.lenL (.r p31)))⟩, ⟨(some p33), none, (.e (.mv (.r p0)))⟩, ⟨(some p34), none, (.e (.nilchk (.r p33)))⟩, ⟨(some p35), none, (.e (.fa 0 (.r p34)))⟩, ⟨(some p36), none, (.e (.ld (.r p35)))⟩, ⟨(some p37), none, (.e (.bin .gtr (.r p32) (.r p36)))⟩]) (.cond (.r p37) (.seq (.reg [⟨(some p38), none, (.e (.mv (.r p0)))⟩, ⟨(some p39), none, (.e (.nilchk (.r p38)))⟩, ⟨(some p40), none, (.e (.fa 2 (.r p39)))⟩, ⟨none, none, (.w (.st 1 (.r p40) (.c (.int .i64 (.ofNat 2)))))⟩]) .ret) .skip)) (.reg [⟨(some p41), none, (.e (.mv (.r p0)))⟩, ⟨(some p42), none, (.e (.mv (.r p4)))⟩, ⟨(some p43), none, (.e (.nilchk (.r p41)))⟩, ⟨(some p44), none, (.e (.fa 1 (.r p43)))⟩, ⟨none, none, (.w (.st 1 (.r p44) (.r p42)))⟩]))))
theorem I103_0 (E : Env) : Is E C103_0 (retK3 R103) (fun σ h => J103_0 E (σ p0) (σ p1) h) :=
  fun σ h => by kernel_rfl
def D103 : DF := ⟨2, 45, C103_0, R103⟩
noncomputable def S103 (E : Env) : Fun := fun args h => aS args fun r0 args => aS args fun r1 args => a0 args (J103_0 E r0 r1 h)
theorem S103_eq (E : Env) (args : List DV) (h : H) : runFn E D103 args h = S103 E args h :=
  Is.fn2 (d := D103) (I103_0 E) rfl (fun r0 r1 h => J103_0 E r0 r1 h) (fun r0 r1 h => by kernel_rfl) args h
/- (*hurdle/codec.Writer).Byte$1 -/
def R104 : List RV := [(.r p3)]
noncomputable def J104_0 (E : Env) (r0 r1 : DV) (h : H) : Ans :=
  vK (v_ld h.get r1) fun x1 =>
  vK (v_conv .u8 x1) fun x2 =>
  n_bsl 1 1 [(.int .u8 (.ofNat 0))] [(0, 1, x2)] h fun x3 h4 =>
  wK (dAppendF 1 1 r0 x3 h4) fun x5 h6 =>
  some (x5, h6)
def C104_0 : DC := (.seq (.reg [⟨(some p3), none, (.e (.mv (.c .nils)))⟩]) (.seq (.reg [⟨(some p4), none, (.e (.mv (.r p0)))⟩, ⟨(some p5), none, (.e (.ld (.r p1)))⟩, ⟨(some p6), none, (.e (.conv .u8 (.r p5)))⟩, ⟨(some p7), none, (.e (.bsl 1 1 [(.int .u8 (.ofNat 0))] [(0, 1, (.r p6))]))⟩, ⟨(some p8), none, (.w (.app 1 1 (.r p4) (.r p7)))⟩, ⟨(some p3), none, (.e (.mv (.r p8)))⟩]) .ret))
theorem I104_0 (E : Env) : Is E C104_0 (retK3 R104) (fun σ h => J104_0 E (σ p0) (σ p1) h) :=
  fun σ h => by kernel_rfl
def D104 : DF := ⟨2, 9, C104_0, R104⟩
noncomputable def S104 (E : Env) : Fun := fun args h => aS args fun r0 args => aS args fun r1 args => a0 args (J104_0 E r0 r1 h)
theorem S104_eq (E : Env) (args : List DV) (h : H) : runFn E D104 args h = S104 E args h :=
  Is.fn2 (d := D104) (I104_0 E) rfl (fun r0 r1 h => J104_0 E r0 r1 h) (fun r0 r1 h => by kernel_rfl) args h
/- (*hurdle/codec.Writer).Int$1 -/
def R105 : List RV := [(.r p3)]
noncomputable def J105_0 (E : Env) (r0 r1 : DV) (h : H) : Ans :=
  vK (v_ld h.get r1) fun x1 =>
  wK (callK E 106 [r0, x1] h) fun x2 h3 =>
  some (x2, h3)
def C105_0 : DC := (.seq (.reg [⟨(some p3), none, (.e (.mv (.c .nils)))⟩]) (.seq (.reg [⟨(some p4), none, (.e (.mv (.r p0)))⟩, ⟨(some p5), none, (.e (.ld (.r p1)))⟩, ⟨(some p6), none, (.c (.f 106 [(.r p4), (.r p5)]))⟩, ⟨(some p3), none, (.e (.mv (.r p6)))⟩]) .ret))
theorem I105_0 (E : Env) : Is E C105_0 (retK3 R105) (fun σ h => J105_0 E (σ p0) (σ p1) h) :=
  fun σ h => by kernel_rfl
def D105 : DF := ⟨2, 7, C105_0, R105⟩
noncomputable def S105 (E : Env) : Fun := fun args h => aS args fun r0 args => aS args fun r1 args => a0 args (J105_0 E r0 r1 h)
theorem S105_eq (E : Env) (args : List DV) (h : H) : runFn E D105 args h = S105 E args h :=
  Is.fn2 (d := D105) (I105_0 E) rfl (fun r0 r1 h => J105_0 E r0 r1 h) (fun r0 r1 h => by kernel_rfl) args h
/- hurdle/codec.number -/
def R106 : List RV := [(.r p4)]
noncomputable def J106_1 (E : Env) (r0 r5 : DV) (h : H) : Ans :=
  vK (v_conv .u8 r5) fun x1 =>
  n_bsl 1 1 [(.int .u8 (.ofNat 0))] [(0, 1, x1)] h fun x2 h3 =>
  wK (dAppendF 1 1 r0 x2 h3) fun x4 h5 =>
  some (x4, h5)
def C106_1 : DC := (.seq (.reg [⟨(some p23), none, (.e (.mv (.r p0)))⟩, ⟨(some p24), none, (.e (.mv (.r p5)))⟩, ⟨(some p25), none, (.e (.conv .u8 (.r p24)))⟩, ⟨(some p26), none, (.e (.bsl 1 1 [(.int .u8 (.ofNat 0))] [(0, 1, (.r p25))]))⟩, ⟨(some p27), none, (.w (.app 1 1 (.r p23) (.r p26)))⟩, ⟨(some p4), none, (.e (.mv (.r p27)))⟩]) .ret)
noncomputable def B106_2 (E : Env) (i2 : DV → DV → H → Ans) (r0 r5 : DV) (h : H) : Ans :=
  vK (v_geq r5 (.int .u64 (.ofNat 128))) fun x1 =>
  bK x1
  (vK (v_conv .u8 r5) fun x2 =>
  vK (v_or x2 (.int .u8 (.ofNat 128))) fun x3 =>
  n_bsl 1 1 [(.int .u8 (.ofNat 0))] [(0, 1, x3)] h fun x4 h5 =>
  wK (dAppendF 1 1 r0 x4 h5) fun x6 h7 =>
  vK (v_shr r5 (.int .u64 (.ofNat 7))) fun x8 =>
  i2 x6 x8 h7)
  (J106_1 E r0 r5 h)
noncomputable def L106_2 (E : Env) (n : Nat) : DV → DV → H → Ans := Nat.rec (motive := fun _ => DV → DV → H → Ans) (fun _ _ _ => none) (fun _ i => B106_2 E i) n
def C106_2 : DC := (.loop (.seq (.seq (.reg [⟨(some p13), none, (.e (.mv (.r p5)))⟩, ⟨(some p14), none, (.e (.bin .geq (.r p13) (.c (.int .u64 (.ofNat 128)))))⟩]) (.cond (.r p14) .skip (.exit 0))) (.seq (.block 1 (.reg [⟨(some p17), none, (.e (.mv (.r p0)))⟩, ⟨(some p18), none, (.e (.mv (.r p5)))⟩, ⟨(some p19), none, (.e (.conv .u8 (.r p18)))⟩, ⟨(some p20), none, (.e (.bin .or (.r p19) (.c (.int .u8 (.ofNat 128)))))⟩, ⟨(some p21), none, (.e (.bsl 1 1 [(.int .u8 (.ofNat 0))] [(0, 1, (.r p20))]))⟩, ⟨(some p22), none, (.w (.app 1 1 (.r p17) (.r p21)))⟩, ⟨(some p0), none, (.e (.mv (.r p22)))⟩])) (.reg [⟨(some p15), none, (.e (.mv (.r p5)))⟩, ⟨(some p16), none, (.e (.bin .shr (.r p15) (.c (.int .u64 (.ofNat 7)))))⟩, ⟨(some p5), none, (.e (.mv (.r p16)))⟩]))))
noncomputable def J106_0 (E : Env) (r0 r1 : DV) (h : H) : Ans :=
  vK (v_conv .u64 r1) fun x1 =>
  vK (v_shl x1 (.int .u64 (.ofNat 1))) fun x2 =>
  vK (v_shr r1 (.int .u64 (.ofNat 63))) fun x3 =>
  vK (v_conv .u64 x3) fun x4 =>
  vK (v_xor x2 x4) fun x5 =>
  L106_2 E FUEL r0 x5 h
def C106_0 : DC := (.seq (.reg [⟨(some p4), none, (.e (.mv (.c .nils)))⟩]) (.seq (.reg [⟨(some p6), none, (.e (.mv (.r p1)))⟩, ⟨(some p7), none, (.e (.conv .u64 (.r p6)))⟩, ⟨(some p8), none, (.e (.bin .shl (.r p7) (.c (.int .u64 (.ofNat 1)))))⟩, ⟨(some p9), none, (.e (.mv (.r p1)))⟩, ⟨(some p10), none, (.e (.bin .shr (.r p9) (.c (.int .u64 (.ofNat 63)))))⟩, ⟨(some p11), none, (.e (.conv .u64 (.r p10)))⟩, ⟨(some p12), none, (.e (.bin .xor (.r p8) (.r p11)))⟩, ⟨(some p5), none, (.e (.mv (.r p12)))⟩]) (.seq (.block 0 C106_2) C106_1)))
theorem I106_1 (E : Env) : Is E C106_1 (retK3 R106) (fun σ h => J106_1 E (σ p0) (σ p5) h) :=
  fun σ h => by kernel_rfl
noncomputable abbrev K106_3 (E : Env) : KT2 (DV × H) := (thenK3 (fun σ h => J106_1 E (σ p0) (σ p5) h) (retK3 R106))
theorem I106_2 (E : Env) : Is E C106_2 (blockK3 0 (K106_3 E)) (fun σ h => L106_2 E FUEL (σ p0) (σ p5) h) :=
  Is.loop (fun n2 σ h => L106_2 E n2 (σ p0) (σ p5) h) (by kernel_rfl) fun n2 => Is.as (Is.leaf _) fun σ h => by kernel_rfl
theorem I106_0 (E : Env) : Is E C106_0 (retK3 R106) (fun σ h => J106_0 E (σ p0) (σ p1) h) :=
  Is.as (Is.seq (Is.seq (Is.seq (I106_1 E) (Is.block (I106_2 E))) (Is.leaf _)) (Is.leaf _)) fun σ h => by kernel_rfl
def D106 : DF := ⟨2, 28, C106_0, R106⟩
noncomputable def S106 (E : Env) : Fun := fun args h => aS args fun r0 args => aS args fun r1 args => a0 args (J106_0 E r0 r1 h)
theorem S106_eq (E : Env) (args : List DV) (h : H) : runFn E D106 args h = S106 E args h :=
  Is.fn2 (d := D106) (I106_0 E) rfl (fun r0 r1 h => J106_0 E r0 r1 h) (fun r0 r1 h => by kernel_rfl) args h
/- (*hurdle/codec.Writer).Text$1 -/
def R107 : List RV := [(.r p3)]
noncomputable def J107_0 (E : Env) (r0 r1 : DV) (h : H) : Ans :=
  vK (v_ld h.get r1) fun x1 =>
  wK (callK E 108 [r0, x1] h) fun x2 h3 =>
  some (x2, h3)
def C107_0 : DC := (.seq (.reg [⟨(some p3), none, (.e (.mv (.c .nils)))⟩]) (.seq (.reg [⟨(some p4), none, (.e (.mv (.r p0)))⟩, ⟨(some p5), none, (.e (.ld (.r p1)))⟩, ⟨(some p6), none, (.c (.f 108 [(.r p4), (.r p5)]))⟩, ⟨(some p3), none, (.e (.mv (.r p6)))⟩]) .ret))
theorem I107_0 (E : Env) : Is E C107_0 (retK3 R107) (fun σ h => J107_0 E (σ p0) (σ p1) h) :=
  fun σ h => by kernel_rfl
def D107 : DF := ⟨2, 7, C107_0, R107⟩
noncomputable def S107 (E : Env) : Fun := fun args h => aS args fun r0 args => aS args fun r1 args => a0 args (J107_0 E r0 r1 h)
theorem S107_eq (E : Env) (args : List DV) (h : H) : runFn E D107 args h = S107 E args h :=
  Is.fn2 (d := D107) (I107_0 E) rfl (fun r0 r1 h => J107_0 E r0 r1 h) (fun r0 r1 h => by kernel_rfl) args h
/- hurdle/codec.text -/
def R108 : List RV := [(.r p4)]
noncomputable def J108_0 (E : Env) (r0 r1 : DV) (h : H) : Ans :=
  vK (v_lenS r1) fun x1 =>
  wK (callK E 106 [r0, x1] h) fun x2 h3 =>
  wK (dAppendF 1 1 x2 r1 h3) fun x4 h5 =>
  some (x4, h5)
def C108_0 : DC := (.seq (.reg [⟨(some p4), none, (.e (.mv (.c .nils)))⟩]) (.seq (.reg [⟨(some p5), none, (.e (.mv (.r p0)))⟩, ⟨(some p6), none, (.e (.mv (.r p1)))⟩, ⟨(some p7), none, (.e (.lenS (.r p6)))⟩, ⟨(some p8), none, (.c (.f 106 [(.r p5), (.r p7)]))⟩, ⟨(some p9), none, (.e (.mv (.r p1)))⟩, ⟨(some p10), none, (.w (.app 1 1 (.r p8) (.r p9)))⟩, ⟨(some p4), none, (.e (.mv (.r p10)))⟩]) .ret))
theorem I108_0 (E : Env) : Is E C108_0 (retK3 R108) (fun σ h => J108_0 E (σ p0) (σ p1) h) :=
  fun σ h => by kernel_rfl
def D108 : DF := ⟨2, 11, C108_0, R108⟩
noncomputable def S108 (E : Env) : Fun := fun args h => aS args fun r0 args => aS args fun r1 args => a0 args (J108_0 E r0 r1 h)
theorem S108_eq (E : Env) (args : List DV) (h : H) : runFn E D108 args h = S108 E args h :=
  Is.fn2 (d := D108) (I108_0 E) rfl (fun r0 r1 h => J108_0 E r0 r1 h) (fun r0 r1 h => by kernel_rfl) args h
/- (*hurdle/codec.Reader).take -/
def R109 : List RV := [(.r p4), (.r p5)]
noncomputable def J109_0 (E : Env) (r0 r1 : DV) (h : H) : Ans :=
  vK (v_eqv .ptr false h.get r0 .nilp) fun x1 =>
  gdK x1 false (fun kk => kk r0 h) h fun x2 h3 =>
  gdK x1 false (fun kk => vK (v_nilchk x2) fun v => kk v h3) h3 fun x4 h5 =>
  gdK x1 false (fun kk => vK (v_fa 1 x4) fun v => kk v h5) h5 fun x6 h7 =>
  gdK x1 false (fun kk => vK (v_ld h7.get x6) fun v => kk v h7) h7 fun x8 h9 =>
  vK (v_pick x1 (.bool true) x8) fun x10 =>
  gdK x10 false (fun kk => kk r1 h9) h9 fun x11 h12 =>
  gdK x10 false (fun kk => vK (v_lss x11 (.int .i64 (.ofNat 0))) fun v => kk v h12) h12 fun x13 h14 =>
  vK (v_pick x10 (.bool true) x13) fun x15 =>
  gdK x15 false (fun kk => kk r1 h14) h14 fun x16 h17 =>
  gdK x15 false (fun kk => kk r0 h17) h17 fun x18 h19 =>
  gdK x15 false (fun kk => vK (v_nilchk x18) fun v => kk v h19) h19 fun x20 h21 =>
  gdK x15 false (fun kk => vK (v_fa 0 x20) fun v => kk v h21) h21 fun x22 h23 =>
  gdK x15 false (fun kk => vK (v_ld h23.get x22) fun v => kk v h23) h23 fun x24 h25 =>
  gdK x15 false (fun kk => vK (v_lenS x24) fun v => kk v h25) h25 fun x26 h27 =>
  gdK x15 false (fun kk => vK (v_gtr x16 x26) fun v => kk v h27) h27 fun x28 h29 =>
  vK (v_pick x15 (.bool true) x28) fun x30 =>
  bK x30
  (wK (callK E 111 [r0] h29) fun x31 h32 =>
  some ((.tup [(.str []), (.bool false)]), h32))
  (vK (v_nilchk r0) fun x33 =>
  vK (v_fa 0 x33) fun x34 =>
  vK (v_ld h29.get x34) fun x35 =>
  vK (v_slS x35 none (some r1)) fun x36 =>
  vK (v_nilchk r0) fun x37 =>
  vK (v_fa 0 x37) fun x38 =>
  vK (v_ld h29.get x38) fun x39 =>
  vK (v_slS x39 (some r1) none) fun x40 =>
  vK (v_nilchk r0) fun x41 =>
  vK (v_fa 0 x41) fun x42 =>
  wK (dStF 1 x42 x40 h29) fun x43 h44 =>
  some ((.tup [x36, (.bool true)]), h44))
def C109_0 : DC := (.seq (.reg [⟨(some p4), none, (.e (.mv (.c (.str []))))⟩, ⟨(some p5), none, (.e (.mv (.c (.bool false))))⟩]) (.seq (.seq (.reg [⟨(some p7), none, (.e (.mv (.r p0)))⟩, ⟨(some p8), none, (.e (.eqv .ptr false (.r p7) (.c .nilp)))⟩, ⟨(some p9), none, (.e (.mv (.r p8)))⟩, ⟨(some p10), (some (p9, false)), (.e (.mv (.r p0)))⟩, ⟨(some p11), (some (p9, false)), (.e (.nilchk (.r p10)))⟩, ⟨(some p12), (some (p9, false)), (.e (.fa 1 (.r p11)))⟩, ⟨(some p13), (some (p9, false)), (.e (.ld (.r p12)))⟩, ⟨(some p14), none, (.e (.pick (.r p9) (.c (.bool true)) (.r p13)))⟩, ⟨(some p15), none, (.e (.mv (.r p14)))⟩, ⟨(some p16), (some (p15, false)), (.e (.mv (.r p1)))⟩, ⟨(some p17), (some (p15, false)), (.e (.bin .lss (.r p16) (.c (.int .i64 (.ofNat 0)))))⟩, ⟨(some p18), none, (.e (.pick (.r p15) (.c (.bool true)) (.r p17)))⟩, ⟨(some p19), none, (.e (.mv (.r p18)))⟩, ⟨(some p20), (some (p19, false)), (.e (.mv (.r p1)))⟩, ⟨(some p21), (some (p19, false)), (.e (.mv (.r p0)))⟩, ⟨(some p22), (some (p19, false)), (.e (.nilchk (.r p21)))⟩, ⟨(some p23), (some (p19, false)), (.e (.fa 0 (.r p22)))⟩, ⟨(some p24), (some (p19, false)), (.e (.ld (.r p23)))⟩, ⟨(some p25), (some (p19, false)), (.e (.lenS (.r p24)))⟩, ⟨(some p26), (some (p19, false)), (.e (.bin .gtr (.r p20) (.r p25)))⟩, ⟨(some p27), none, (.e (.pick (.r p19) (.c (.bool true)) (.r p26)))⟩]) (.cond (.r p27) (.seq (.reg [⟨(some p28), none, (.e (.mv (.r p0)))⟩, ⟨(some p29), none, (.c (.f 111 [(.r p28)]))⟩]) (.seq (.reg [⟨(some p4), none, (.e (.mv (.c (.str []))))⟩, ⟨(some p5), none, (.e (.mv (.c (.bool false))))⟩]) .ret)) .skip)) (.seq (.reg [⟨(some p30), none, (.e (.mv (.r p0)))⟩, ⟨(some p31), none, (.e (.nilchk (.r p30)))⟩, ⟨(some p32), none, (.e (.fa 0 (.r p31)))⟩, ⟨(some p33), none, (.e (.ld (.r p32)))⟩, ⟨(some p34), none, (.e (.mv (.r p1)))⟩, ⟨(some p35), none, (.e (.slS (.r p33) none (some (.r p34))))⟩, ⟨(some p6), none, (.e (.mv (.r p35)))⟩]) (.seq (.reg [⟨(some p36), none, (.e (.mv (.r p0)))⟩, ⟨(some p37), none, (.e (.mv (.r p0)))⟩, ⟨(some p38), none, (.e (.nilchk (.r p37)))⟩, ⟨(some p39), none, (.e (.fa 0 (.r p38)))⟩, ⟨(some p40), none, (.e (.ld (.r p39)))⟩, ⟨(some p41), none, (.e (.mv (.r p1)))⟩, ⟨(some p42), none, (.e (.slS (.r p40) (some (.r p41)) none))⟩, ⟨(some p43), none, (.e (.nilchk (.r p36)))⟩, ⟨(some p44), none, (.e (.fa 0 (.r p43)))⟩, ⟨none, none, (.w (.st 1 (.r p44) (.r p42)))⟩]) (.seq (.reg [⟨(some p45), none, (.e (.mv (.r p6)))⟩, ⟨(some p4), none, (.e (.mv (.r p45)))⟩, ⟨(some p5), none, (.e (.mv (.c (.bool true))))⟩]) .ret)))))
theorem I109_0 (E : Env) : Is E C109_0 (retK3 R109) (fun σ h => J109_0 E (σ p0) (σ p1) h) :=
  fun σ h => by kernel_rfl
def D109 : DF := ⟨2, 46, C109_0, R109⟩
noncomputable def S109 (E : Env) : Fun := fun args h => aS args fun r0 args => aS args fun r1 args => a0 args (J109_0 E r0 r1 h)
theorem S109_eq (E : Env) (args : List DV) (h : H) : runFn E D109 args h = S109 E args h :=
  Is.fn2 (d := D109) (I109_0 E) rfl (fun r0 r1 h => J109_0 E r0 r1 h) (fun r0 r1 h => by kernel_rfl) args h
/- hurdle/codec.groups -/
def R110 : List RV := [(.r p2), (.r p3)]
noncomputable def J110_1 (E : Env) (h : H) : Ans :=
  some ((.tup [(.int .u64 (.ofNat 0)), (.int .i64 (.ofNat 0))]), h)
def C110_1 : DC := (.seq (.reg [⟨(some p2), none, (.e (.mv (.c (.int .u64 (.ofNat 0)))))⟩, ⟨(some p3), none, (.e (.mv (.c (.int .i64 (.ofNat 0)))))⟩]) .ret)
noncomputable def B110_2 (E : Env) (r0 r9 : DV) (i2 : DV → DV → H → Ans) (r4 r10 : DV) (h : H) : Ans :=
  vK (v_lss r10 r9) fun x1 =>
  bK x1
  (vK (v_ixS r0 r10) fun x2 =>
  vK (v_conv .u64 x2) fun x3 =>
  vK (v_and x3 (.int .u64 (.ofNat 127))) fun x4 =>
  vK (v_mul (.int .i64 (.ofNat 7)) r10) fun x5 =>
  vK (v_shl x4 x5) fun x6 =>
  vK (v_or r4 x6) fun x7 =>
  vK (v_geq x3 (.int .u64 (.ofNat 128))) fun x8 =>
  bK x8
  (vK (v_add r10 (.int .i64 (.ofNat 1))) fun x9 =>
  i2 x7 x9 h)
  (vK (v_gtr r10 (.int .i64 (.ofNat 0))) fun x10 =>
  gdK x10 true (fun kk => kk x3 h) h fun x11 h12 =>
  gdK x10 true (fun kk => vK (v_eql x11 (.int .u64 (.ofNat 0))) fun v => kk v h12) h12 fun x13 h14 =>
  vK (v_pick x10 x13 (.bool false)) fun x15 =>
  gdK x15 false (fun kk => kk r10 h14) h14 fun x16 h17 =>
  gdK x15 false (fun kk => vK (v_eql x16 (.int .i64 (.ofNat 9))) fun v => kk v h17) h17 fun x18 h19 =>
  gdK x15 false (fun kk => kk x18 h19) h19 fun x20 h21 =>
  gdK x20 true (fun kk => kk x3 h21) h21 fun x22 h23 =>
  gdK x20 true (fun kk => vK (v_gtr x22 (.int .u64 (.ofNat 1))) fun v => kk v h23) h23 fun x24 h25 =>
  gdK x15 false (fun kk => vK (v_pick x20 x24 (.bool false)) fun v => kk v h25) h25 fun x26 h27 =>
  vK (v_pick x15 (.bool true) x26) fun x28 =>
  bK x28
  (some ((.tup [(.int .u64 (.ofNat 0)), (.int .i64 (.ofNat 0))]), h27))
  (vK (v_add r10 (.int .i64 (.ofNat 1))) fun x29 =>
  some ((.tup [x7, x29]), h27))))
  (J110_1 E h)
noncomputable def L110_2 (E : Env) (r0 r9 : DV) (n : Nat) : DV → DV → H → Ans := Nat.rec (motive := fun _ => DV → DV → H → Ans) (fun _ _ _ => none) (fun _ i => B110_2 E r0 r9 i) n
def C110_2 : DC := (.loop (.seq (.reg [⟨(some p11), none, (.e (.bin .lss (.r p10) (.r p9)))⟩]) (.seq (.cond (.r p11) .skip (.exit 0)) (.seq (.block 1 (.seq (.reg [⟨(some p12), none, (.e (.mv (.r p10)))⟩, ⟨(some p5), none, (.e (.mv (.r p12)))⟩]) (.seq (.reg [⟨(some p13), none, (.e (.mv (.r p0)))⟩, ⟨(some p14), none, (.e (.mv (.r p5)))⟩, ⟨(some p15), none, (.e (.ixS (.r p13) (.r p14)))⟩, ⟨(some p16), none, (.e (.conv .u64 (.r p15)))⟩, ⟨(some p6), none, (.e (.mv (.r p16)))⟩]) (.seq (.reg [⟨(some p17), none, (.e (.mv (.r p4)))⟩, ⟨(some p18), none, (.e (.mv (.r p6)))⟩, ⟨(some p19), none, (.e (.bin .and (.r p18) (.c (.int .u64 (.ofNat 127)))))⟩, ⟨(some p20), none, (.e (.mv (.r p5)))⟩, ⟨(some p21), none, (.e (.bin .mul (.c (.int .i64 (.ofNat 7))) (.r p20)))⟩, ⟨(some p22), none, (.e (.bin .shl (.r p19) (.r p21)))⟩, ⟨(some p23), none, (.e (.bin .or (.r p17) (.r p22)))⟩, ⟨(some p4), none, (.e (.mv (.r p23)))⟩]) (.seq (.seq (.reg [⟨(some p24), none, (.e (.mv (.r p6)))⟩, ⟨(some p25), none, (.e (.bin .geq (.r p24) (.c (.int .u64 (.ofNat 128)))))⟩]) (.cond (.r p25) (.exit 1) .skip)) (.seq (.seq (.reg [⟨(some p26), none, (.e (.mv (.r p5)))⟩, ⟨(some p27), none, (.e (.bin .gtr (.r p26) (.c (.int .i64 (.ofNat 0)))))⟩, ⟨(some p28), none, (.e (.mv (.r p27)))⟩, ⟨(some p29), (some (p28, true)), (.e (.mv (.r p6)))⟩, ⟨(some p30), (some (p28, true)), (.e (.bin .eql (.r p29) (.c (.int .u64 (.ofNat 0)))))⟩, ⟨(some p31), none, (.e (.pick (.r p28) (.r p30) (.c (.bool false))))⟩, ⟨(some p32), none, (.e (.mv (.r p31)))⟩, ⟨(some p33), (some (p32, false)), (.e (.mv (.r p5)))⟩, ⟨(some p34), (some (p32, false)), (.e (.bin .eql (.r p33) (.c (.int .i64 (.ofNat 9)))))⟩, ⟨(some p35), (some (p32, false)), (.e (.mv (.r p34)))⟩, ⟨(some p36), (some (p35, true)), (.e (.mv (.r p6)))⟩, ⟨(some p37), (some (p35, true)), (.e (.bin .gtr (.r p36) (.c (.int .u64 (.ofNat 1)))))⟩, ⟨(some p38), (some (p32, false)), (.e (.pick (.r p35) (.r p37) (.c (.bool false))))⟩, ⟨(some p39), none, (.e (.pick (.r p32) (.c (.bool true)) (.r p38)))⟩]) (.cond (.r p39) (.seq (.reg [⟨(some p2), none, (.e (.mv (.c (.int .u64 (.ofNat 0)))))⟩, ⟨(some p3), none, (.e (.mv (.c (.int .i64 (.ofNat 0)))))⟩]) .ret) .skip)) (.seq (.reg [⟨(some p40), none, (.e (.mv (.r p4)))⟩, ⟨(some p41), none, (.e (.mv (.r p5)))⟩, ⟨(some p42), none, (.e (.bin .add (.r p41) (.c (.int .i64 (.ofNat 1)))))⟩, ⟨(some p2), none, (.e (.mv (.r p40)))⟩, ⟨(some p3), none, (.e (.mv (.r p42)))⟩]) .ret))))))) (.reg [⟨(some p43), none, (.e (.bin .add (.r p10) (.c (.int .i64 (.ofNat 1)))))⟩, ⟨(some p10), none, (.e (.mv (.r p43)))⟩])))))
noncomputable def J110_0 (E : Env) (r0 : DV) (h : H) : Ans :=
  vK (v_lenS r0) fun x1 =>
  vK (v_mn x1 (.int .i64 (.ofNat 10))) fun x2 =>
  L110_2 E r0 x2 FUEL (.int .u64 (.ofNat 0)) (.int .i64 (.ofNat 0)) h
def C110_0 : DC := (.seq (.reg [⟨(some p2), none, (.e (.mv (.c (.int .u64 (.ofNat 0)))))⟩, ⟨(some p3), none, (.e (.mv (.c (.int .i64 (.ofNat 0)))))⟩]) (.seq (.reg [⟨(some p4), none, (.e (.mv (.c (.int .u64 (.ofNat 0)))))⟩]) (.seq (.seq (.reg [⟨(some p7), none, (.e (.mv (.r p0)))⟩, ⟨(some p8), none, (.e (.lenS (.r p7)))⟩, ⟨(some p9), none, (.e (.mn (.r p8) (.c (.int .i64 (.ofNat 10)))))⟩, ⟨(some p10), none, (.e (.mv (.c (.int .i64 (.ofNat 0)))))⟩]) (.block 0 C110_2)) C110_1)))
theorem I110_1 (E : Env) : Is E C110_1 (retK3 R110) (fun σ h => J110_1 E h) :=
  fun σ h => by kernel_rfl
noncomputable abbrev K110_3 (E : Env) : KT2 (DV × H) := (blockK3 0 (thenK3 (fun σ h => J110_1 E h) (retK3 R110)))
theorem I110_2 (E : Env) : Is E C110_2 (K110_3 E) (fun σ h => L110_2 E (σ p0) (σ p9) FUEL (σ p4) (σ p10) h) :=
  Is.loop (fun n2 σ h => L110_2 E (σ p0) (σ p9) n2 (σ p4) (σ p10) h) (by kernel_rfl) fun n2 => Is.as (Is.leaf _) fun σ h => by kernel_rfl
theorem I110_0 (E : Env) : Is E C110_0 (retK3 R110) (fun σ h => J110_0 E (σ p0) h) :=
  Is.as (Is.seq (Is.seq (Is.seq (I110_1 E) (Is.seq (Is.block (I110_2 E)) (Is.leaf _))) (Is.leaf _)) (Is.leaf _)) fun σ h => by kernel_rfl
def D110 : DF := ⟨1, 44, C110_0, R110⟩
noncomputable def S110 (E : Env) : Fun := fun args h => aS args fun r0 args => a0 args (J110_0 E r0 h)
theorem S110_eq (E : Env) (args : List DV) (h : H) : runFn E D110 args h = S110 E args h :=
  Is.fn1 (d := D110) (I110_0 E) rfl (fun r0 h => J110_0 E r0 h) (fun r0 h => by kernel_rfl) args h
/- (*hurdle/codec.Reader).fail -/
def R111 : List RV := []
noncomputable def J111_0 (E : Env) (r0 : DV) (h : H) : Ans :=
  vK (v_eqv .ptr true h.get r0 .nilp) fun x1 =>
  bK x1
  (vK (v_nilchk r0) fun x2 =>
  vK (v_fa 0 x2) fun x3 =>
  wK (dStF 1 x3 (.str []) h) fun x4 h5 =>
  vK (v_nilchk r0) fun x6 =>
  vK (v_fa 1 x6) fun x7 =>
  wK (dStF 1 x7 (.bool true) h5) fun x8 h9 =>
  some ((.tup []), h9))
  (some ((.tup []), h))
def C111_0 : DC := (.seq (.reg [⟨(some p2), none, (.e (.mv (.r p0)))⟩, ⟨(some p3), none, (.e (.eqv .ptr true (.r p2) (.c .nilp)))⟩]) (.cond (.r p3) (.reg [⟨(some p4), none, (.e (.mv (.r p0)))⟩, ⟨(some p5), none, (.e (.mv (.r p0)))⟩, ⟨(some p6), none, (.e (.nilchk (.r p4)))⟩, ⟨(some p7), none, (.e (.fa 0 (.r p6)))⟩, ⟨none, none, (.w (.st 1 (.r p7) (.c (.str []))))⟩, ⟨(some p8), none, (.e (.nilchk (.r p5)))⟩, ⟨(some p9), none, (.e (.fa 1 (.r p8)))⟩, ⟨none, none, (.w (.st 1 (.r p9) (.c (.bool true))))⟩]) .skip))
theorem I111_0 (E : Env) : Is E C111_0 (retK3 R111) (fun σ h => J111_0 E (σ p0) h) :=
  fun σ h => by kernel_rfl
def D111 : DF := ⟨1, 10, C111_0, R111⟩
noncomputable def S111 (E : Env) : Fun := fun args h => aS args fun r0 args => a0 args (J111_0 E r0 h)
theorem S111_eq (E : Env) (args : List DV) (h : H) : runFn E D111 args h = S111 E args h :=
  Is.fn1 (d := D111) (I111_0 E) rfl (fun r0 h => J111_0 E r0 h) (fun r0 h => by kernel_rfl) args h
/- hurdle/hurdleref03.bad -/
def R112 : List RV := [(.cells p2 2)]
noncomputable def J112_0 (E : Env) (r0 : DV) (h : H) : Ans :=
  n_box r0 h fun x1 h2 =>
  n_alc 2 2 (.list [(.str []), (.bool false)]) h2 fun x3 h4 =>
  vK (v_bld [(.str []), (.bool false)] [(1, 1, (.bool true))]) fun x5 =>
  wK (dStF 2 x3 x5 h4) fun x6 h7 =>
  vK (v_ldN 2 h7.get x3) fun x8 =>
  some (x8, h7)
def C112_0 : DC := (.seq (.reg [⟨(some p1), none, (.e (.box (.r p0)))⟩, ⟨(some p2), none, (.e (.alc 2 2 (.list [(.str []), (.bool false)])))⟩]) (.seq (.reg [⟨(some p3), none, (.e (.bld [(.str []), (.bool false)] [(1, 1, (.c (.bool true)))]))⟩, ⟨none, none, (.w (.st 2 (.r p2) (.r p3)))⟩]) .ret))
theorem I112_0 (E : Env) : Is E C112_0 (retK3 R112) (fun σ h => J112_0 E (σ p0) h) :=
  fun σ h => by kernel_rfl
def D112 : DF := ⟨1, 4, C112_0, R112⟩
noncomputable def S112 (E : Env) : Fun := fun args h => aS args fun r0 args => a0 args (J112_0 E r0 h)
theorem S112_eq (E : Env) (args : List DV) (h : H) : runFn E D112 args h = S112 E args h :=
  Is.fn1 (d := D112) (I112_0 E) rfl (fun r0 h => J112_0 E r0 h) (fun r0 h => by kernel_rfl) args h
/- hurdle/deltas.does$1 -/
def R113 : List RV := [(.r p2)]
noncomputable def J113_0 (E : Env) (r0 r1 : DV) (h : H) : Ans :=
  vK (v_ld h.get r0) fun x1 =>
  vK (v_fa 3 r1) fun x2 =>
  vK (v_ld h.get x2) fun x3 =>
  vK (v_fa 1 r1) fun x4 =>
  vK (v_ld h.get x4) fun x5 =>
  vK (v_fa 5 r1) fun x6 =>
  vK (v_ld h.get x6) fun x7 =>
  wK (callK E 46 [x1, x3, x5, x7] h) fun x8 h9 =>
  some (x8, h9)
def C113_0 : DC := (.seq (.reg [⟨(some p2), none, (.e (.mv (.c (.int .i64 (.ofNat 0)))))⟩]) (.seq (.reg [⟨(some p3), none, (.e (.ld (.r p0)))⟩, ⟨(some p4), none, (.e (.fa 3 (.r p1)))⟩, ⟨(some p5), none, (.e (.ld (.r p4)))⟩, ⟨(some p6), none, (.e (.fa 1 (.r p1)))⟩, ⟨(some p7), none, (.e (.ld (.r p6)))⟩, ⟨(some p8), none, (.e (.fa 5 (.r p1)))⟩, ⟨(some p9), none, (.e (.ld (.r p8)))⟩, ⟨(some p10), none, (.c (.f 46 [(.r p3), (.r p5), (.r p7), (.r p9)]))⟩, ⟨(some p2), none, (.e (.mv (.r p10)))⟩]) .ret))
theorem I113_0 (E : Env) : Is E C113_0 (retK3 R113) (fun σ h => J113_0 E (σ p0) (σ p1) h) :=
  fun σ h => by kernel_rfl
def D113 : DF := ⟨2, 11, C113_0, R113⟩
noncomputable def S113 (E : Env) : Fun := fun args h => aS args fun r0 args => aS args fun r1 args => a0 args (J113_0 E r0 r1 h)
theorem S113_eq (E : Env) (args : List DV) (h : H) : runFn E D113 args h = S113 E args h :=
  Is.fn2 (d := D113) (I113_0 E) rfl (fun r0 r1 h => J113_0 E r0 r1 h) (fun r0 r1 h => by kernel_rfl) args h
noncomputable def fs0 : List FD := [⟨3, D3, S3⟩, ⟨4, D4, S4⟩, ⟨12, D12, S12⟩, ⟨13, D13, S13⟩, ⟨14, D14, S14⟩, ⟨15, D15, S15⟩, ⟨16, D16, S16⟩, ⟨17, D17, S17⟩, ⟨18, D18, S18⟩, ⟨19, D19, S19⟩, ⟨21, D21, S21⟩, ⟨26, D26, S26⟩, ⟨33, D33, S33⟩, ⟨34, D34, S34⟩, ⟨35, D35, S35⟩, ⟨40, D40, S40⟩, ⟨41, D41, S41⟩, ⟨42, D42, S42⟩, ⟨43, D43, S43⟩, ⟨44, D44, S44⟩, ⟨45, D45, S45⟩, ⟨46, D46, S46⟩, ⟨47, D47, S47⟩, ⟨48, D48, S48⟩, ⟨49, D49, S49⟩, ⟨50, D50, S50⟩, ⟨51, D51, S51⟩, ⟨52, D52, S52⟩, ⟨53, D53, S53⟩, ⟨54, D54, S54⟩, ⟨55, D55, S55⟩, ⟨56, D56, S56⟩, ⟨57, D57, S57⟩, ⟨58, D58, S58⟩, ⟨59, D59, S59⟩, ⟨60, D60, S60⟩, ⟨61, D61, S61⟩, ⟨62, D62, S62⟩, ⟨63, D63, S63⟩, ⟨64, D64, S64⟩, ⟨65, D65, S65⟩, ⟨83, D83, S83⟩, ⟨84, D84, S84⟩, ⟨85, D85, S85⟩, ⟨86, D86, S86⟩, ⟨87, D87, S87⟩, ⟨88, D88, S88⟩, ⟨92, D92, S92⟩, ⟨94, D94, S94⟩, ⟨95, D95, S95⟩, ⟨96, D96, S96⟩, ⟨97, D97, S97⟩, ⟨98, D98, S98⟩, ⟨99, D99, S99⟩, ⟨100, D100, S100⟩, ⟨101, D101, S101⟩, ⟨102, D102, S102⟩, ⟨103, D103, S103⟩, ⟨104, D104, S104⟩, ⟨105, D105, S105⟩, ⟨106, D106, S106⟩, ⟨107, D107, S107⟩, ⟨108, D108, S108⟩, ⟨109, D109, S109⟩, ⟨110, D110, S110⟩, ⟨111, D111, S111⟩, ⟨112, D112, S112⟩, ⟨113, D113, S113⟩]
theorem fs0_eq : AllEq fs0 := ⟨S3_eq, ⟨S4_eq, ⟨S12_eq, ⟨S13_eq, ⟨S14_eq, ⟨S15_eq, ⟨S16_eq, ⟨S17_eq, ⟨S18_eq, ⟨S19_eq, ⟨S21_eq, ⟨S26_eq, ⟨S33_eq, ⟨S34_eq, ⟨S35_eq, ⟨S40_eq, ⟨S41_eq, ⟨S42_eq, ⟨S43_eq, ⟨S44_eq, ⟨S45_eq, ⟨S46_eq, ⟨S47_eq, ⟨S48_eq, ⟨S49_eq, ⟨S50_eq, ⟨S51_eq, ⟨S52_eq, ⟨S53_eq, ⟨S54_eq, ⟨S55_eq, ⟨S56_eq, ⟨S57_eq, ⟨S58_eq, ⟨S59_eq, ⟨S60_eq, ⟨S61_eq, ⟨S62_eq, ⟨S63_eq, ⟨S64_eq, ⟨S65_eq, ⟨S83_eq, ⟨S84_eq, ⟨S85_eq, ⟨S86_eq, ⟨S87_eq, ⟨S88_eq, ⟨S92_eq, ⟨S94_eq, ⟨S95_eq, ⟨S96_eq, ⟨S97_eq, ⟨S98_eq, ⟨S99_eq, ⟨S100_eq, ⟨S101_eq, ⟨S102_eq, ⟨S103_eq, ⟨S104_eq, ⟨S105_eq, ⟨S106_eq, ⟨S107_eq, ⟨S108_eq, ⟨S109_eq, ⟨S110_eq, ⟨S111_eq, ⟨S112_eq, ⟨S113_eq, trivial⟩⟩⟩⟩⟩⟩⟩⟩⟩⟩⟩⟩⟩⟩⟩⟩⟩⟩⟩⟩⟩⟩⟩⟩⟩⟩⟩⟩⟩⟩⟩⟩⟩⟩⟩⟩⟩⟩⟩⟩⟩⟩⟩⟩⟩⟩⟩⟩⟩⟩⟩⟩⟩⟩⟩⟩⟩⟩⟩⟩⟩⟩⟩⟩⟩⟩⟩⟩
end Go.Proofs.YtmafhiogonejfaaGreatDoor

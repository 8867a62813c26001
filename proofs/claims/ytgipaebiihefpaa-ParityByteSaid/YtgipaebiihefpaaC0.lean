/- The functions of the program as D's and as plain Lean functions, and that both are the same. No condition. -/
import Derived.KernelRfl
import Derived.Test.YtgipaebiihefpaaDc
set_option linter.unusedVariables false
namespace Go.Proofs.Ytgipaebiihefpaa
open Go.DI
def p0 : Pa := .h
def p1 : Pa := .l p0
def p2 : Pa := .r p0
def p3 : Pa := .l p1
def p4 : Pa := .r p1
def p5 : Pa := .l p2
def p6 : Pa := .r p2
def p7 : Pa := .l p3
def p8 : Pa := .r p3
def p9 : Pa := .l p4
def p10 : Pa := .r p4
def p11 : Pa := .l p5
def p12 : Pa := .r p5
def p13 : Pa := .l p6
def p14 : Pa := .r p6
def p15 : Pa := .l p7
def p16 : Pa := .r p7
def p17 : Pa := .l p8
def p18 : Pa := .r p8
def p19 : Pa := .l p9
def p20 : Pa := .r p9
def p21 : Pa := .l p10
def p22 : Pa := .r p10
def p23 : Pa := .l p11
def p24 : Pa := .r p11
def p25 : Pa := .l p12
def p26 : Pa := .r p12
def p27 : Pa := .l p13
def p28 : Pa := .r p13
def p29 : Pa := .l p14
def p30 : Pa := .r p14
def p31 : Pa := .l p15
def p32 : Pa := .r p15
def p33 : Pa := .l p16
def p34 : Pa := .r p16
def p35 : Pa := .l p17
def p36 : Pa := .r p17
def p37 : Pa := .l p18
def p38 : Pa := .r p18
def p39 : Pa := .l p19
def p40 : Pa := .r p19
def p41 : Pa := .l p20
def p42 : Pa := .r p20
def p43 : Pa := .l p21
def p44 : Pa := .r p21
def p45 : Pa := .l p22
def p46 : Pa := .r p22
def p47 : Pa := .l p23
def p48 : Pa := .r p23
def p49 : Pa := .l p24
def p50 : Pa := .r p24
def p51 : Pa := .l p25
def p52 : Pa := .r p25
def p53 : Pa := .l p26
def p54 : Pa := .r p26
def p55 : Pa := .l p27
def p56 : Pa := .r p27
def p57 : Pa := .l p28
def p58 : Pa := .r p28
def p59 : Pa := .l p29
def p60 : Pa := .r p29
def p61 : Pa := .l p30
def p62 : Pa := .r p30
def p63 : Pa := .l p31
def p64 : Pa := .r p31
def p65 : Pa := .l p32
def p66 : Pa := .r p32
def p67 : Pa := .l p33
def p68 : Pa := .r p33
def p69 : Pa := .l p34
def p70 : Pa := .r p34
def p71 : Pa := .l p35
def p72 : Pa := .r p35
def p73 : Pa := .l p36
def p74 : Pa := .r p36
def p75 : Pa := .l p37
def p76 : Pa := .r p37
def p77 : Pa := .l p38
def p78 : Pa := .r p38
def p79 : Pa := .l p39
def p80 : Pa := .r p39
def p81 : Pa := .l p40
def p82 : Pa := .r p40
def p83 : Pa := .l p41
def p84 : Pa := .r p41
def p85 : Pa := .l p42
def p86 : Pa := .r p42
def p87 : Pa := .l p43
def p88 : Pa := .r p43
def p89 : Pa := .l p44
def p90 : Pa := .r p44
def p91 : Pa := .l p45
def p92 : Pa := .r p45
def p93 : Pa := .l p46
def p94 : Pa := .r p46
def p95 : Pa := .l p47
def p96 : Pa := .r p47
def p97 : Pa := .l p48
def p98 : Pa := .r p48
/- hurdle/hurdlelaw29.ParityBack -/
def R3 : List RV := [(.r p6)]
noncomputable def J3_0 (E : Env) (r0 r1 r2 : DV) (h : H) : Ans :=
  vK (v_lenS r0) fun x1 =>
  vK (v_gtr x1 (.int .i64 (.ofNat 4000))) fun x2 =>
  bK x2
  (wK (callK E 6 [] h) fun x3 h4 =>
  some (x3, h4))
  (wK (callK E 7 [r0, r1] h) fun x5 h6 =>
  vK (v_ext 0 x5) fun x7 =>
  vK (v_ext 1 x5) fun x8 =>
  vK (v_neq x8 (.int .i64 (.ofNat 0))) fun x9 =>
  bK x9
  (vK (v_lenL x7) fun x10 =>
  vK (v_eql x10 (.int .i64 (.ofNat 0))) fun x11 =>
  gdK x11 true (fun kk => wK (callK E 6 [] h6) kk) h6 fun x12 h13 =>
  vK (v_pick x11 x12 (.bool false)) fun x14 =>
  some (x14, h13))
  (vK (v_lss r1 (.int .i64 (.ofNat 2))) fun x15 =>
  gdK x15 false (fun kk => kk x7 h6) h6 fun x16 h17 =>
  gdK x15 false (fun kk => vK (v_lenL x16) fun v => kk v h17) h17 fun x18 h19 =>
  gdK x15 false (fun kk => kk r1 h19) h19 fun x20 h21 =>
  gdK x15 false (fun kk => vK (v_neq x18 x20) fun v => kk v h21) h21 fun x22 h23 =>
  vK (v_pick x15 (.bool true) x22) fun x24 =>
  bK x24
  (some ((.bool false), h23))
  (vK (v_conv .u64 r2) fun x25 =>
  vK (v_conv .u64 r1) fun x26 =>
  vK (v_rem x25 x26) fun x27 =>
  vK (v_conv .i64 x27) fun x28 =>
  wK (dAppendF 1 16 .nils x7 h23) fun x29 h30 =>
  vK (v_iaS 1 x29 x28) fun x31 =>
  wK (dStF 1 x31 (.str [108, 111, 115, 116]) h30) fun x32 h33 =>
  wK (callK E 8 [x29, x28] h33) fun x34 h35 =>
  vK (v_ext 0 x34) fun x36 =>
  vK (v_ext 1 x34) fun x37 =>
  vK (v_iaS 1 x29 x28) fun x38 =>
  wK (dStF 1 x38 x36 h35) fun x39 h40 =>
  vK (v_lenS r0) fun x41 =>
  wK (callK E 9 [x29, x41] h40) fun x42 h43 =>
  vK (v_ext 0 x42) fun x44 =>
  vK (v_ext 1 x42) fun x45 =>
  vK (v_eql x37 (.int .i64 (.ofNat 0))) fun x46 =>
  gdK x46 true (fun kk => kk x45 h43) h43 fun x47 h48 =>
  gdK x46 true (fun kk => vK (v_eql x47 (.int .i64 (.ofNat 0))) fun v => kk v h48) h48 fun x49 h50 =>
  vK (v_pick x46 x49 (.bool false)) fun x51 =>
  gdK x51 true (fun kk => kk x44 h50) h50 fun x52 h53 =>
  gdK x51 true (fun kk => kk r0 h53) h53 fun x54 h55 =>
  gdK x51 true (fun kk => vK (v_eql x52 x54) fun v => kk v h55) h55 fun x56 h57 =>
  vK (v_pick x51 x56 (.bool false)) fun x58 =>
  gdK x58 true (fun kk => kk x36 h57) h57 fun x59 h60 =>
  gdK x58 true (fun kk => kk x7 h60) h60 fun x61 h62 =>
  gdK x58 true (fun kk => kk x28 h62) h62 fun x63 h64 =>
  gdK x58 true (fun kk => vK (v_iaS 1 x61 x63) fun v => kk v h64) h64 fun x65 h66 =>
  gdK x58 true (fun kk => vK (v_ld h66.get x65) fun v => kk v h66) h66 fun x67 h68 =>
  gdK x58 true (fun kk => vK (v_eql x59 x67) fun v => kk v h68) h68 fun x69 h70 =>
  vK (v_pick x58 x69 (.bool false)) fun x71 =>
  gdK x71 true (fun kk => kk x7 h70) h70 fun x72 h73 =>
  gdK x71 true (fun kk => wK (callK E 10 [x72] h73) kk) h73 fun x74 h75 =>
  vK (v_pick x71 x74 (.bool false)) fun x76 =>
  gdK x76 true (fun kk => kk x29 h75) h75 fun x77 h78 =>
  gdK x76 true (fun kk => wK (callK E 10 [x77] h78) kk) h78 fun x79 h80 =>
  vK (v_pick x76 x79 (.bool false)) fun x81 =>
  gdK x81 true (fun kk => wK (callK E 6 [] h80) kk) h80 fun x82 h83 =>
  vK (v_pick x81 x82 (.bool false)) fun x84 =>
  some (x84, h83))))
def C3_0 : DC := (.seq (.reg [⟨(some p6), none, (.e (.mv (.c (.bool false))))⟩]) (.seq (.seq (.reg [⟨(some p15), none, (.e (.mv (.r p0)))⟩, ⟨(some p16), none, (.e (.lenS (.r p15)))⟩, ⟨(some p17), none, (.e (.bin .gtr (.r p16) (.c (.int .i64 (.ofNat 4000)))))⟩]) (.cond (.r p17) (.seq (.reg [⟨(some p18), none, (.c (.f 6 []))⟩, ⟨(some p6), none, (.e (.mv (.r p18)))⟩]) .ret) .skip)) (.seq (.reg [⟨(some p20), none, (.e (.mv (.r p0)))⟩, ⟨(some p21), none, (.e (.mv (.r p1)))⟩, ⟨(some p22), none, (.c (.f 7 [(.r p20), (.r p21)]))⟩, ⟨(some p19), none, (.e (.mv (.r p22)))⟩, ⟨(some p23), none, (.e (.ext 0 (.r p19)))⟩, ⟨(some p24), none, (.e (.ext 1 (.r p19)))⟩, ⟨(some p7), none, (.e (.mv (.r p23)))⟩, ⟨(some p8), none, (.e (.mv (.r p24)))⟩]) (.seq (.seq (.reg [⟨(some p25), none, (.e (.mv (.r p8)))⟩, ⟨(some p26), none, (.e (.bin .neq (.r p25) (.c (.int .i64 (.ofNat 0)))))⟩]) (.cond (.r p26) (.seq (.reg [⟨(some p27), none, (.e (.mv (.r p7)))⟩, ⟨(some p28), none, (.e (.lenL (.r p27)))⟩, ⟨(some p29), none, (.e (.bin .eql (.r p28) (.c (.int .i64 (.ofNat 0)))))⟩, ⟨(some p30), none, (.e (.mv (.r p29)))⟩, ⟨(some p31), (some (p30, true)), (.c (.f 6 []))⟩, ⟨(some p32), none, (.e (.pick (.r p30) (.r p31) (.c (.bool false))))⟩, ⟨(some p6), none, (.e (.mv (.r p32)))⟩]) .ret) .skip)) (.seq (.seq (.reg [⟨(some p33), none, (.e (.mv (.r p1)))⟩, ⟨(some p34), none, (.e (.bin .lss (.r p33) (.c (.int .i64 (.ofNat 2)))))⟩, ⟨(some p35), none, (.e (.mv (.r p34)))⟩, ⟨(some p36), (some (p35, false)), (.e (.mv (.r p7)))⟩, ⟨(some p37), (some (p35, false)), (.e (.lenL (.r p36)))⟩, ⟨(some p38), (some (p35, false)), (.e (.mv (.r p1)))⟩, ⟨(some p39), (some (p35, false)), (.e (.bin .neq (.r p37) (.r p38)))⟩, ⟨(some p40), none, (.e (.pick (.r p35) (.c (.bool true)) (.r p39)))⟩]) (.cond (.r p40) (.seq (.reg [⟨(some p6), none, (.e (.mv (.c (.bool false))))⟩]) .ret) .skip)) (.seq (.reg [⟨(some p41), none, (.e (.mv (.r p2)))⟩, ⟨(some p42), none, (.e (.conv .u64 (.r p41)))⟩, ⟨(some p43), none, (.e (.mv (.r p1)))⟩, ⟨(some p44), none, (.e (.conv .u64 (.r p43)))⟩, ⟨(some p45), none, (.e (.bin .rem (.r p42) (.r p44)))⟩, ⟨(some p46), none, (.e (.conv .i64 (.r p45)))⟩, ⟨(some p9), none, (.e (.mv (.r p46)))⟩]) (.seq (.reg [⟨(some p47), none, (.e (.mv (.r p7)))⟩, ⟨(some p48), none, (.w (.app 1 16 (.c .nils) (.r p47)))⟩, ⟨(some p10), none, (.e (.mv (.r p48)))⟩]) (.seq (.reg [⟨(some p49), none, (.e (.mv (.r p10)))⟩, ⟨(some p50), none, (.e (.mv (.r p9)))⟩, ⟨(some p51), none, (.e (.iaS 1 (.r p49) (.r p50)))⟩, ⟨none, none, (.w (.st 1 (.r p51) (.c (.str [108, 111, 115, 116]))))⟩]) (.seq (.reg [⟨(some p53), none, (.e (.mv (.r p10)))⟩, ⟨(some p54), none, (.e (.mv (.r p9)))⟩, ⟨(some p55), none, (.c (.f 8 [(.r p53), (.r p54)]))⟩, ⟨(some p52), none, (.e (.mv (.r p55)))⟩, ⟨(some p56), none, (.e (.ext 0 (.r p52)))⟩, ⟨(some p57), none, (.e (.ext 1 (.r p52)))⟩, ⟨(some p11), none, (.e (.mv (.r p56)))⟩, ⟨(some p12), none, (.e (.mv (.r p57)))⟩]) (.seq (.reg [⟨(some p58), none, (.e (.mv (.r p10)))⟩, ⟨(some p59), none, (.e (.mv (.r p9)))⟩, ⟨(some p60), none, (.e (.mv (.r p11)))⟩, ⟨(some p61), none, (.e (.iaS 1 (.r p58) (.r p59)))⟩, ⟨none, none, (.w (.st 1 (.r p61) (.r p60)))⟩]) (.seq (.reg [⟨(some p63), none, (.e (.mv (.r p10)))⟩, ⟨(some p64), none, (.e (.mv (.r p0)))⟩, ⟨(some p65), none, (.e (.lenS (.r p64)))⟩, ⟨(some p66), none, (.c (.f 9 [(.r p63), (.r p65)]))⟩, ⟨(some p62), none, (.e (.mv (.r p66)))⟩, ⟨(some p67), none, (.e (.ext 0 (.r p62)))⟩, ⟨(some p68), none, (.e (.ext 1 (.r p62)))⟩, ⟨(some p13), none, (.e (.mv (.r p67)))⟩, ⟨(some p14), none, (.e (.mv (.r p68)))⟩]) (.seq (.reg [⟨(some p69), none, (.e (.mv (.r p12)))⟩, ⟨(some p70), none, (.e (.bin .eql (.r p69) (.c (.int .i64 (.ofNat 0)))))⟩, ⟨(some p71), none, (.e (.mv (.r p70)))⟩, ⟨(some p72), (some (p71, true)), (.e (.mv (.r p14)))⟩, ⟨(some p73), (some (p71, true)), (.e (.bin .eql (.r p72) (.c (.int .i64 (.ofNat 0)))))⟩, ⟨(some p74), none, (.e (.pick (.r p71) (.r p73) (.c (.bool false))))⟩, ⟨(some p75), none, (.e (.mv (.r p74)))⟩, ⟨(some p76), (some (p75, true)), (.e (.mv (.r p13)))⟩, ⟨(some p77), (some (p75, true)), (.e (.mv (.r p0)))⟩, ⟨(some p78), (some (p75, true)), (.e (.bin .eql (.r p76) (.r p77)))⟩, ⟨(some p79), none, (.e (.pick (.r p75) (.r p78) (.c (.bool false))))⟩, ⟨(some p80), none, (.e (.mv (.r p79)))⟩, ⟨(some p81), (some (p80, true)), (.e (.mv (.r p11)))⟩, ⟨(some p82), (some (p80, true)), (.e (.mv (.r p7)))⟩, ⟨(some p83), (some (p80, true)), (.e (.mv (.r p9)))⟩, ⟨(some p84), (some (p80, true)), (.e (.iaS 1 (.r p82) (.r p83)))⟩, ⟨(some p85), (some (p80, true)), (.e (.ld (.r p84)))⟩, ⟨(some p86), (some (p80, true)), (.e (.bin .eql (.r p81) (.r p85)))⟩, ⟨(some p87), none, (.e (.pick (.r p80) (.r p86) (.c (.bool false))))⟩, ⟨(some p88), none, (.e (.mv (.r p87)))⟩, ⟨(some p89), (some (p88, true)), (.e (.mv (.r p7)))⟩, ⟨(some p90), (some (p88, true)), (.c (.f 10 [(.r p89)]))⟩, ⟨(some p91), none, (.e (.pick (.r p88) (.r p90) (.c (.bool false))))⟩, ⟨(some p92), none, (.e (.mv (.r p91)))⟩, ⟨(some p93), (some (p92, true)), (.e (.mv (.r p10)))⟩, ⟨(some p94), (some (p92, true)), (.c (.f 10 [(.r p93)]))⟩, ⟨(some p95), none, (.e (.pick (.r p92) (.r p94) (.c (.bool false))))⟩, ⟨(some p96), none, (.e (.mv (.r p95)))⟩, ⟨(some p97), (some (p96, true)), (.c (.f 6 []))⟩, ⟨(some p98), none, (.e (.pick (.r p96) (.r p97) (.c (.bool false))))⟩, ⟨(some p6), none, (.e (.mv (.r p98)))⟩]) .ret))))))))))))
theorem I3_0 (E : Env) : Is E C3_0 (retK3 R3) (fun σ h => J3_0 E (σ p0) (σ p1) (σ p2) h) :=
  fun σ h => by kernel_rfl
def D3 : DF := ⟨3, 99, C3_0, R3⟩
noncomputable def S3 (E : Env) : Fun := fun args h => aS args fun r0 args => aS args fun r1 args => aS args fun r2 args => a0 args (J3_0 E r0 r1 r2 h)
theorem S3_eq (E : Env) (args : List DV) (h : H) : runFn E D3 args h = S3 E args h :=
  Is.fn3 (d := D3) (I3_0 E) rfl (fun r0 r1 r2 h => J3_0 E r0 r1 r2 h) (fun r0 r1 r2 h => by kernel_rfl) args h
/- hurdle/hurdlelaw29.ParityPatch -/
def R4 : List RV := [(.r p6)]
noncomputable def J4_1 (E : Env) (r1 r7 r9 r10 : DV) (h : H) : Ans :=
  wK (dAppendF 1 16 .nils r7 h) fun x1 h2 =>
  vK (v_b2s h2.get r10) fun x3 =>
  vK (v_iaS 1 x1 r9) fun x4 =>
  wK (dStF 1 x4 x3 h2) fun x5 h6 =>
  vK (v_sub r1 (.int .i64 (.ofNat 1))) fun x7 =>
  vK (v_iaS 1 r7 r9) fun x8 =>
  vK (v_ld h6.get x8) fun x9 =>
  vK (v_iaS 1 x1 r9) fun x10 =>
  vK (v_ld h6.get x10) fun x11 =>
  vK (v_sub r1 (.int .i64 (.ofNat 1))) fun x12 =>
  vK (v_iaS 1 r7 x12) fun x13 =>
  vK (v_ld h6.get x13) fun x14 =>
  wK (callK E 11 [x9, x11, x14] h6) fun x15 h16 =>
  vK (v_iaS 1 x1 x7) fun x17 =>
  wK (dStF 1 x17 x15 h16) fun x18 h19 =>
  wK (callK E 10 [x1] h19) fun x20 h21 =>
  gdK x20 true (fun kk => wK (callK E 6 [] h21) kk) h21 fun x22 h23 =>
  vK (v_pick x20 x22 (.bool false)) fun x24 =>
  some (x24, h23)
def C4_1 : DC := (.seq (.reg [⟨(some p69), none, (.e (.mv (.r p7)))⟩, ⟨(some p70), none, (.w (.app 1 16 (.c .nils) (.r p69)))⟩, ⟨(some p12), none, (.e (.mv (.r p70)))⟩]) (.seq (.reg [⟨(some p71), none, (.e (.mv (.r p12)))⟩, ⟨(some p72), none, (.e (.mv (.r p9)))⟩, ⟨(some p73), none, (.e (.mv (.r p10)))⟩, ⟨(some p74), none, (.e (.b2s (.r p73)))⟩, ⟨(some p75), none, (.e (.iaS 1 (.r p71) (.r p72)))⟩, ⟨none, none, (.w (.st 1 (.r p75) (.r p74)))⟩]) (.seq (.drg [⟨0, ⟨(some p76), none, (.e (.mv (.r p12)))⟩, [], false⟩, ⟨1, ⟨(some p77), none, (.e (.mv (.r p1)))⟩, [], false⟩, ⟨2, ⟨(some p78), none, (.e (.bin .sub (.r p77) (.c (.int .i64 (.ofNat 1)))))⟩, [], false⟩, ⟨3, ⟨(some p79), none, (.e (.mv (.r p7)))⟩, [], false⟩, ⟨4, ⟨(some p80), none, (.e (.mv (.r p9)))⟩, [], false⟩, ⟨5, ⟨(some p81), none, (.e (.iaS 1 (.r p79) (.r p80)))⟩, [], false⟩, ⟨6, ⟨(some p82), none, (.e (.ld (.r p81)))⟩, [], false⟩, ⟨7, ⟨(some p83), none, (.e (.mv (.r p12)))⟩, [], false⟩, ⟨8, ⟨(some p84), none, (.e (.mv (.r p9)))⟩, [], false⟩, ⟨9, ⟨(some p85), none, (.e (.iaS 1 (.r p83) (.r p84)))⟩, [], false⟩, ⟨10, ⟨(some p86), none, (.e (.ld (.r p85)))⟩, [], false⟩, ⟨11, ⟨(some p87), none, (.e (.mv (.r p7)))⟩, [], false⟩, ⟨12, ⟨(some p88), none, (.e (.mv (.r p1)))⟩, [], false⟩, ⟨13, ⟨(some p89), none, (.e (.bin .sub (.r p88) (.c (.int .i64 (.ofNat 1)))))⟩, [], false⟩, ⟨14, ⟨(some p90), none, (.e (.iaS 1 (.r p87) (.r p89)))⟩, [], false⟩, ⟨15, ⟨(some p91), none, (.e (.ld (.r p90)))⟩, [], false⟩, ⟨16, ⟨(some p92), none, (.c (.f 11 [(.r p82), (.r p86), (.r p91)]))⟩, [], false⟩, ⟨17, ⟨(some p93), none, (.e (.iaS 1 (.r p76) (.r p78)))⟩, [], false⟩, ⟨18, ⟨none, none, (.w (.st 1 (.r p93) (.r p92)))⟩, [], false⟩]) (.seq (.reg [⟨(some p94), none, (.e (.mv (.r p12)))⟩, ⟨(some p95), none, (.c (.f 10 [(.r p94)]))⟩, ⟨(some p96), none, (.e (.mv (.r p95)))⟩, ⟨(some p97), (some (p96, true)), (.c (.f 6 []))⟩, ⟨(some p98), none, (.e (.pick (.r p96) (.r p97) (.c (.bool false))))⟩, ⟨(some p6), none, (.e (.mv (.r p98)))⟩]) .ret))))
noncomputable def B4_2 (E : Env) (r1 r7 r9 r10 : DV) (i2 : DV → H → Ans) (r11 : DV) (h : H) : Ans :=
  vK (v_lenL r10) fun x1 =>
  vK (v_lss r11 x1) fun x2 =>
  bK x2
  (vK (v_iaS 1 r10 r11) fun x3 =>
  vK (v_ld h.get x3) fun x4 =>
  vK (v_add r11 (.int .i64 (.ofNat 1))) fun x5 =>
  vK (v_conv .u8 x5) fun x6 =>
  vK (v_add x4 x6) fun x7 =>
  vK (v_iaS 1 r10 r11) fun x8 =>
  wK (dStF 1 x8 x7 h) fun x9 h10 =>
  vK (v_add r11 (.int .i64 (.ofNat 1))) fun x11 =>
  i2 x11 h10)
  (J4_1 E r1 r7 r9 r10 h)
noncomputable def L4_2 (E : Env) (r1 r7 r9 r10 : DV) (n : Nat) : DV → H → Ans := Nat.rec (motive := fun _ => DV → H → Ans) (fun _ _ => none) (fun _ i => B4_2 E r1 r7 r9 r10 i) n
def C4_2 : DC := (.loop (.seq (.seq (.reg [⟨(some p52), none, (.e (.mv (.r p11)))⟩, ⟨(some p53), none, (.e (.mv (.r p10)))⟩, ⟨(some p54), none, (.e (.lenL (.r p53)))⟩, ⟨(some p55), none, (.e (.bin .lss (.r p52) (.r p54)))⟩]) (.cond (.r p55) .skip (.exit 0))) (.seq (.block 1 (.reg [⟨(some p58), none, (.e (.mv (.r p10)))⟩, ⟨(some p59), none, (.e (.mv (.r p11)))⟩, ⟨(some p60), none, (.e (.mv (.r p10)))⟩, ⟨(some p61), none, (.e (.mv (.r p11)))⟩, ⟨(some p62), none, (.e (.iaS 1 (.r p60) (.r p61)))⟩, ⟨(some p63), none, (.e (.ld (.r p62)))⟩, ⟨(some p64), none, (.e (.mv (.r p11)))⟩, ⟨(some p65), none, (.e (.bin .add (.r p64) (.c (.int .i64 (.ofNat 1)))))⟩, ⟨(some p66), none, (.e (.conv .u8 (.r p65)))⟩, ⟨(some p67), none, (.e (.bin .add (.r p63) (.r p66)))⟩, ⟨(some p68), none, (.e (.iaS 1 (.r p58) (.r p59)))⟩, ⟨none, none, (.w (.st 1 (.r p68) (.r p67)))⟩])) (.reg [⟨(some p56), none, (.e (.mv (.r p11)))⟩, ⟨(some p57), none, (.e (.bin .add (.r p56) (.c (.int .i64 (.ofNat 1)))))⟩, ⟨(some p11), none, (.e (.mv (.r p57)))⟩]))))
noncomputable def J4_0 (E : Env) (r0 r1 r2 : DV) (h : H) : Ans :=
  vK (v_lenS r0) fun x1 =>
  vK (v_gtr x1 (.int .i64 (.ofNat 4000))) fun x2 =>
  bK x2
  (wK (callK E 6 [] h) fun x3 h4 =>
  some (x3, h4))
  (wK (callK E 7 [r0, r1] h) fun x5 h6 =>
  vK (v_ext 0 x5) fun x7 =>
  vK (v_ext 1 x5) fun x8 =>
  vK (v_neq x8 (.int .i64 (.ofNat 0))) fun x9 =>
  gdK x9 false (fun kk => kk r1 h6) h6 fun x10 h11 =>
  gdK x9 false (fun kk => vK (v_lss x10 (.int .i64 (.ofNat 2))) fun v => kk v h11) h11 fun x12 h13 =>
  vK (v_pick x9 (.bool true) x12) fun x14 =>
  gdK x14 false (fun kk => kk x7 h13) h13 fun x15 h16 =>
  gdK x14 false (fun kk => vK (v_lenL x15) fun v => kk v h16) h16 fun x17 h18 =>
  gdK x14 false (fun kk => kk r1 h18) h18 fun x19 h20 =>
  gdK x14 false (fun kk => vK (v_neq x17 x19) fun v => kk v h20) h20 fun x21 h22 =>
  vK (v_pick x14 (.bool true) x21) fun x23 =>
  bK x23
  (vK (v_neq x8 (.int .i64 (.ofNat 0))) fun x24 =>
  gdK x24 true (fun kk => wK (callK E 6 [] h22) kk) h22 fun x25 h26 =>
  vK (v_pick x24 x25 (.bool false)) fun x27 =>
  some (x27, h26))
  (vK (v_conv .u64 r2) fun x28 =>
  vK (v_sub r1 (.int .i64 (.ofNat 1))) fun x29 =>
  vK (v_conv .u64 x29) fun x30 =>
  vK (v_rem x28 x30) fun x31 =>
  vK (v_conv .i64 x31) fun x32 =>
  vK (v_iaS 1 x7 x32) fun x33 =>
  vK (v_ld h22.get x33) fun x34 =>
  n_s2b x34 h22 fun x35 h36 =>
  L4_2 E r1 x7 x32 x35 FUEL (.int .i64 (.ofNat 0)) h36))
def C4_0 : DC := (.seq (.reg [⟨(some p6), none, (.e (.mv (.c (.bool false))))⟩]) (.seq (.seq (.reg [⟨(some p13), none, (.e (.mv (.r p0)))⟩, ⟨(some p14), none, (.e (.lenS (.r p13)))⟩, ⟨(some p15), none, (.e (.bin .gtr (.r p14) (.c (.int .i64 (.ofNat 4000)))))⟩]) (.cond (.r p15) (.seq (.reg [⟨(some p16), none, (.c (.f 6 []))⟩, ⟨(some p6), none, (.e (.mv (.r p16)))⟩]) .ret) .skip)) (.seq (.reg [⟨(some p18), none, (.e (.mv (.r p0)))⟩, ⟨(some p19), none, (.e (.mv (.r p1)))⟩, ⟨(some p20), none, (.c (.f 7 [(.r p18), (.r p19)]))⟩, ⟨(some p17), none, (.e (.mv (.r p20)))⟩, ⟨(some p21), none, (.e (.ext 0 (.r p17)))⟩, ⟨(some p22), none, (.e (.ext 1 (.r p17)))⟩, ⟨(some p7), none, (.e (.mv (.r p21)))⟩, ⟨(some p8), none, (.e (.mv (.r p22)))⟩]) (.seq (.seq (.reg [⟨(some p23), none, (.e (.mv (.r p8)))⟩, ⟨(some p24), none, (.e (.bin .neq (.r p23) (.c (.int .i64 (.ofNat 0)))))⟩, ⟨(some p25), none, (.e (.mv (.r p24)))⟩, ⟨(some p26), (some (p25, false)), (.e (.mv (.r p1)))⟩, ⟨(some p27), (some (p25, false)), (.e (.bin .lss (.r p26) (.c (.int .i64 (.ofNat 2)))))⟩, ⟨(some p28), none, (.e (.pick (.r p25) (.c (.bool true)) (.r p27)))⟩, ⟨(some p29), none, (.e (.mv (.r p28)))⟩, ⟨(some p30), (some (p29, false)), (.e (.mv (.r p7)))⟩, ⟨(some p31), (some (p29, false)), (.e (.lenL (.r p30)))⟩, ⟨(some p32), (some (p29, false)), (.e (.mv (.r p1)))⟩, ⟨(some p33), (some (p29, false)), (.e (.bin .neq (.r p31) (.r p32)))⟩, ⟨(some p34), none, (.e (.pick (.r p29) (.c (.bool true)) (.r p33)))⟩]) (.cond (.r p34) (.seq (.reg [⟨(some p35), none, (.e (.mv (.r p8)))⟩, ⟨(some p36), none, (.e (.bin .neq (.r p35) (.c (.int .i64 (.ofNat 0)))))⟩, ⟨(some p37), none, (.e (.mv (.r p36)))⟩, ⟨(some p38), (some (p37, true)), (.c (.f 6 []))⟩, ⟨(some p39), none, (.e (.pick (.r p37) (.r p38) (.c (.bool false))))⟩, ⟨(some p6), none, (.e (.mv (.r p39)))⟩]) .ret) .skip)) (.seq (.reg [⟨(some p40), none, (.e (.mv (.r p2)))⟩, ⟨(some p41), none, (.e (.conv .u64 (.r p40)))⟩, ⟨(some p42), none, (.e (.mv (.r p1)))⟩, ⟨(some p43), none, (.e (.bin .sub (.r p42) (.c (.int .i64 (.ofNat 1)))))⟩, ⟨(some p44), none, (.e (.conv .u64 (.r p43)))⟩, ⟨(some p45), none, (.e (.bin .rem (.r p41) (.r p44)))⟩, ⟨(some p46), none, (.e (.conv .i64 (.r p45)))⟩, ⟨(some p9), none, (.e (.mv (.r p46)))⟩]) (.seq (.reg [⟨(some p47), none, (.e (.mv (.r p7)))⟩, ⟨(some p48), none, (.e (.mv (.r p9)))⟩, ⟨(some p49), none, (.e (.iaS 1 (.r p47) (.r p48)))⟩, ⟨(some p50), none, (.e (.ld (.r p49)))⟩, ⟨(some p51), none, (.e (.s2b (.r p50)))⟩, ⟨(some p10), none, (.e (.mv (.r p51)))⟩]) (.seq (.seq (.reg [⟨(some p11), none, (.e (.mv (.c (.int .i64 (.ofNat 0)))))⟩]) (.block 0 C4_2)) C4_1)))))))
theorem I4_1 (E : Env) : Is E C4_1 (retK3 R4) (fun σ h => J4_1 E (σ p1) (σ p7) (σ p9) (σ p10) h) :=
  fun σ h => by kernel_rfl
noncomputable abbrev K4_3 (E : Env) : KT2 (DV × H) := (thenK3 (fun σ h => J4_1 E (σ p1) (σ p7) (σ p9) (σ p10) h) (retK3 R4))
theorem I4_2 (E : Env) : Is E C4_2 (blockK3 0 (K4_3 E)) (fun σ h => L4_2 E (σ p1) (σ p7) (σ p9) (σ p10) FUEL (σ p11) h) :=
  Is.loop (fun n2 σ h => L4_2 E (σ p1) (σ p7) (σ p9) (σ p10) n2 (σ p11) h) (by kernel_rfl) fun n2 => Is.as (Is.leaf _) fun σ h => by kernel_rfl
theorem I4_0 (E : Env) : Is E C4_0 (retK3 R4) (fun σ h => J4_0 E (σ p0) (σ p1) (σ p2) h) :=
  Is.as (Is.seq (Is.seq (Is.seq (Is.seq (Is.seq (Is.seq (Is.seq (I4_1 E) (Is.seq (Is.block (I4_2 E)) (Is.leaf _))) (Is.leaf _)) (Is.leaf _)) (Is.leaf _)) (Is.leaf _)) (Is.leaf _)) (Is.leaf _)) fun σ h => by kernel_rfl
def D4 : DF := ⟨3, 99, C4_0, R4⟩
noncomputable def S4 (E : Env) : Fun := fun args h => aS args fun r0 args => aS args fun r1 args => aS args fun r2 args => a0 args (J4_0 E r0 r1 r2 h)
theorem S4_eq (E : Env) (args : List DV) (h : H) : runFn E D4 args h = S4 E args h :=
  Is.fn3 (d := D4) (I4_0 E) rfl (fun r0 r1 r2 h => J4_0 E r0 r1 r2 h) (fun r0 r1 r2 h => by kernel_rfl) args h
/- hurdle/hurdlelaw29.ParityByte -/
def R5 : List RV := [(.r p6)]
noncomputable def J5_0 (E : Env) (r0 r1 r2 : DV) (h : H) : Ans :=
  n_box r2 h fun x1 h2 =>
  vK (v_lenS r0) fun x3 =>
  vK (v_gtr x3 (.int .i64 (.ofNat 4000))) fun x4 =>
  gdK x4 false (fun kk => kk r0 h2) h2 fun x5 h6 =>
  gdK x4 false (fun kk => vK (v_eql x5 (.str [])) fun v => kk v h6) h6 fun x7 h8 =>
  vK (v_pick x4 (.bool true) x7) fun x9 =>
  bK x9
  (wK (callK E 6 [] h8) fun x10 h11 =>
  some (x10, h11))
  (wK (callK E 7 [r0, r1] h8) fun x12 h13 =>
  vK (v_ext 0 x12) fun x14 =>
  vK (v_ext 1 x12) fun x15 =>
  vK (v_neq x15 (.int .i64 (.ofNat 0))) fun x16 =>
  gdK x16 false (fun kk => kk x14 h13) h13 fun x17 h18 =>
  gdK x16 false (fun kk => vK (v_lenL x17) fun v => kk v h18) h18 fun x19 h20 =>
  gdK x16 false (fun kk => vK (v_eql x19 (.int .i64 (.ofNat 0))) fun v => kk v h20) h20 fun x21 h22 =>
  vK (v_pick x16 (.bool true) x21) fun x23 =>
  bK x23
  (vK (v_neq x15 (.int .i64 (.ofNat 0))) fun x24 =>
  gdK x24 true (fun kk => wK (callK E 6 [] h22) kk) h22 fun x25 h26 =>
  vK (v_pick x24 x25 (.bool false)) fun x27 =>
  some (x27, h26))
  (wK (dAppendF 1 16 .nils x14 h22) fun x28 h29 =>
  vK (v_iaA 2 1 x1 (.int .i64 (.ofNat 0))) fun x30 =>
  vK (v_ld h29.get x30) fun x31 =>
  vK (v_conv .u64 x31) fun x32 =>
  vK (v_lenL x28) fun x33 =>
  vK (v_conv .u64 x33) fun x34 =>
  vK (v_rem x32 x34) fun x35 =>
  vK (v_conv .i64 x35) fun x36 =>
  vK (v_iaS 1 x28 x36) fun x37 =>
  vK (v_ld h29.get x37) fun x38 =>
  n_s2b x38 h29 fun x39 h40 =>
  vK (v_lenL x39) fun x41 =>
  vK (v_eql x41 (.int .i64 (.ofNat 0))) fun x42 =>
  bK x42
  (some ((.bool false), h40))
  (vK (v_iaA 2 1 x1 (.int .i64 (.ofNat 1))) fun x43 =>
  vK (v_ld h40.get x43) fun x44 =>
  vK (v_conv .u64 x44) fun x45 =>
  vK (v_lenL x39) fun x46 =>
  vK (v_conv .u64 x46) fun x47 =>
  vK (v_rem x45 x47) fun x48 =>
  vK (v_conv .i64 x48) fun x49 =>
  vK (v_iaS 1 x39 x49) fun x50 =>
  vK (v_ld h40.get x50) fun x51 =>
  vK (v_xor x51 (.int .u8 (.ofNat 1))) fun x52 =>
  vK (v_iaS 1 x39 x49) fun x53 =>
  wK (dStF 1 x53 x52 h40) fun x54 h55 =>
  vK (v_b2s h55.get x39) fun x56 =>
  vK (v_iaS 1 x28 x36) fun x57 =>
  wK (dStF 1 x57 x56 h55) fun x58 h59 =>
  wK (callK E 10 [x28] h59) fun x60 h61 =>
  vK (v_not x60) fun x62 =>
  gdK x62 true (fun kk => kk x14 h61) h61 fun x63 h64 =>
  gdK x62 true (fun kk => wK (callK E 10 [x63] h64) kk) h64 fun x65 h66 =>
  vK (v_pick x62 x65 (.bool false)) fun x67 =>
  gdK x67 true (fun kk => wK (callK E 6 [] h66) kk) h66 fun x68 h69 =>
  vK (v_pick x67 x68 (.bool false)) fun x70 =>
  some (x70, h69))))
def C5_0 : DC := (.seq (.reg [⟨(some p5), none, (.e (.box (.r p2)))⟩, ⟨(some p6), none, (.e (.mv (.c (.bool false))))⟩]) (.seq (.seq (.reg [⟨(some p13), none, (.e (.mv (.r p0)))⟩, ⟨(some p14), none, (.e (.lenS (.r p13)))⟩, ⟨(some p15), none, (.e (.bin .gtr (.r p14) (.c (.int .i64 (.ofNat 4000)))))⟩, ⟨(some p16), none, (.e (.mv (.r p15)))⟩, ⟨(some p17), (some (p16, false)), (.e (.mv (.r p0)))⟩, ⟨(some p18), (some (p16, false)), (.e (.bin .eql (.r p17) (.c (.str []))))⟩, ⟨(some p19), none, (.e (.pick (.r p16) (.c (.bool true)) (.r p18)))⟩]) (.cond (.r p19) (.seq (.reg [⟨(some p20), none, (.c (.f 6 []))⟩, ⟨(some p6), none, (.e (.mv (.r p20)))⟩]) .ret) .skip)) (.seq (.reg [⟨(some p22), none, (.e (.mv (.r p0)))⟩, ⟨(some p23), none, (.e (.mv (.r p1)))⟩, ⟨(some p24), none, (.c (.f 7 [(.r p22), (.r p23)]))⟩, ⟨(some p21), none, (.e (.mv (.r p24)))⟩, ⟨(some p25), none, (.e (.ext 0 (.r p21)))⟩, ⟨(some p26), none, (.e (.ext 1 (.r p21)))⟩, ⟨(some p7), none, (.e (.mv (.r p25)))⟩, ⟨(some p8), none, (.e (.mv (.r p26)))⟩]) (.seq (.seq (.reg [⟨(some p27), none, (.e (.mv (.r p8)))⟩, ⟨(some p28), none, (.e (.bin .neq (.r p27) (.c (.int .i64 (.ofNat 0)))))⟩, ⟨(some p29), none, (.e (.mv (.r p28)))⟩, ⟨(some p30), (some (p29, false)), (.e (.mv (.r p7)))⟩, ⟨(some p31), (some (p29, false)), (.e (.lenL (.r p30)))⟩, ⟨(some p32), (some (p29, false)), (.e (.bin .eql (.r p31) (.c (.int .i64 (.ofNat 0)))))⟩, ⟨(some p33), none, (.e (.pick (.r p29) (.c (.bool true)) (.r p32)))⟩]) (.cond (.r p33) (.seq (.reg [⟨(some p34), none, (.e (.mv (.r p8)))⟩, ⟨(some p35), none, (.e (.bin .neq (.r p34) (.c (.int .i64 (.ofNat 0)))))⟩, ⟨(some p36), none, (.e (.mv (.r p35)))⟩, ⟨(some p37), (some (p36, true)), (.c (.f 6 []))⟩, ⟨(some p38), none, (.e (.pick (.r p36) (.r p37) (.c (.bool false))))⟩, ⟨(some p6), none, (.e (.mv (.r p38)))⟩]) .ret) .skip)) (.seq (.reg [⟨(some p39), none, (.e (.mv (.r p7)))⟩, ⟨(some p40), none, (.w (.app 1 16 (.c .nils) (.r p39)))⟩, ⟨(some p9), none, (.e (.mv (.r p40)))⟩]) (.seq (.reg [⟨(some p41), none, (.e (.iaA 2 1 (.r p5) (.c (.int .i64 (.ofNat 0)))))⟩, ⟨(some p42), none, (.e (.ld (.r p41)))⟩, ⟨(some p43), none, (.e (.conv .u64 (.r p42)))⟩, ⟨(some p44), none, (.e (.mv (.r p9)))⟩, ⟨(some p45), none, (.e (.lenL (.r p44)))⟩, ⟨(some p46), none, (.e (.conv .u64 (.r p45)))⟩, ⟨(some p47), none, (.e (.bin .rem (.r p43) (.r p46)))⟩, ⟨(some p48), none, (.e (.conv .i64 (.r p47)))⟩, ⟨(some p10), none, (.e (.mv (.r p48)))⟩]) (.seq (.reg [⟨(some p49), none, (.e (.mv (.r p9)))⟩, ⟨(some p50), none, (.e (.mv (.r p10)))⟩, ⟨(some p51), none, (.e (.iaS 1 (.r p49) (.r p50)))⟩, ⟨(some p52), none, (.e (.ld (.r p51)))⟩, ⟨(some p53), none, (.e (.s2b (.r p52)))⟩, ⟨(some p11), none, (.e (.mv (.r p53)))⟩]) (.seq (.seq (.reg [⟨(some p54), none, (.e (.mv (.r p11)))⟩, ⟨(some p55), none, (.e (.lenL (.r p54)))⟩, ⟨(some p56), none, (.e (.bin .eql (.r p55) (.c (.int .i64 (.ofNat 0)))))⟩]) (.cond (.r p56) (.seq (.reg [⟨(some p6), none, (.e (.mv (.c (.bool false))))⟩]) .ret) .skip)) (.seq (.reg [⟨(some p57), none, (.e (.iaA 2 1 (.r p5) (.c (.int .i64 (.ofNat 1)))))⟩, ⟨(some p58), none, (.e (.ld (.r p57)))⟩, ⟨(some p59), none, (.e (.conv .u64 (.r p58)))⟩, ⟨(some p60), none, (.e (.mv (.r p11)))⟩, ⟨(some p61), none, (.e (.lenL (.r p60)))⟩, ⟨(some p62), none, (.e (.conv .u64 (.r p61)))⟩, ⟨(some p63), none, (.e (.bin .rem (.r p59) (.r p62)))⟩, ⟨(some p64), none, (.e (.conv .i64 (.r p63)))⟩, ⟨(some p12), none, (.e (.mv (.r p64)))⟩]) (.seq (.reg [⟨(some p65), none, (.e (.mv (.r p11)))⟩, ⟨(some p66), none, (.e (.mv (.r p12)))⟩, ⟨(some p67), none, (.e (.mv (.r p11)))⟩, ⟨(some p68), none, (.e (.mv (.r p12)))⟩, ⟨(some p69), none, (.e (.iaS 1 (.r p67) (.r p68)))⟩, ⟨(some p70), none, (.e (.ld (.r p69)))⟩, ⟨(some p71), none, (.e (.bin .xor (.r p70) (.c (.int .u8 (.ofNat 1)))))⟩, ⟨(some p72), none, (.e (.iaS 1 (.r p65) (.r p66)))⟩, ⟨none, none, (.w (.st 1 (.r p72) (.r p71)))⟩]) (.seq (.reg [⟨(some p73), none, (.e (.mv (.r p9)))⟩, ⟨(some p74), none, (.e (.mv (.r p10)))⟩, ⟨(some p75), none, (.e (.mv (.r p11)))⟩, ⟨(some p76), none, (.e (.b2s (.r p75)))⟩, ⟨(some p77), none, (.e (.iaS 1 (.r p73) (.r p74)))⟩, ⟨none, none, (.w (.st 1 (.r p77) (.r p76)))⟩]) (.seq (.reg [⟨(some p78), none, (.e (.mv (.r p9)))⟩, ⟨(some p79), none, (.c (.f 10 [(.r p78)]))⟩, ⟨(some p80), none, (.e (.not (.r p79)))⟩, ⟨(some p81), none, (.e (.mv (.r p80)))⟩, ⟨(some p82), (some (p81, true)), (.e (.mv (.r p7)))⟩, ⟨(some p83), (some (p81, true)), (.c (.f 10 [(.r p82)]))⟩, ⟨(some p84), none, (.e (.pick (.r p81) (.r p83) (.c (.bool false))))⟩, ⟨(some p85), none, (.e (.mv (.r p84)))⟩, ⟨(some p86), (some (p85, true)), (.c (.f 6 []))⟩, ⟨(some p87), none, (.e (.pick (.r p85) (.r p86) (.c (.bool false))))⟩, ⟨(some p6), none, (.e (.mv (.r p87)))⟩]) .ret))))))))))))
theorem I5_0 (E : Env) : Is E C5_0 (retK3 R5) (fun σ h => J5_0 E (σ p0) (σ p1) (σ p2) h) :=
  fun σ h => by kernel_rfl
def D5 : DF := ⟨3, 88, C5_0, R5⟩
noncomputable def S5 (E : Env) : Fun := fun args h => aS args fun r0 args => aS args fun r1 args => aS args fun r2 args => a0 args (J5_0 E r0 r1 r2 h)
theorem S5_eq (E : Env) (args : List DV) (h : H) : runFn E D5 args h = S5 E args h :=
  Is.fn3 (d := D5) (I5_0 E) rfl (fun r0 r1 r2 h => J5_0 E r0 r1 r2 h) (fun r0 r1 r2 h => by kernel_rfl) args h
/- hurdle/hurdlelaw29.awake -/
def R6 : List RV := [(.r p0)]
noncomputable def J6_0 (E : Env) (h : H) : Ans :=
  wK (callK E 7 [(.str [97, 98, 99]), (.int .i64 (.ofNat 3))] h) fun x1 h2 =>
  vK (v_ext 0 x1) fun x3 =>
  vK (v_ext 1 x1) fun x4 =>
  wK (callK E 9 [x3, (.int .i64 (.ofNat 3))] h2) fun x5 h6 =>
  vK (v_ext 0 x5) fun x7 =>
  vK (v_ext 1 x5) fun x8 =>
  wK (callK E 7 [(.str [97, 98, 99]), (.int .i64 (.ofNat 1))] h6) fun x9 h10 =>
  vK (v_ext 0 x9) fun x11 =>
  vK (v_ext 1 x9) fun x12 =>
  vK (v_lenL x3) fun x13 =>
  vK (v_neq x13 (.int .i64 (.ofNat 3))) fun x14 =>
  bK x14
  (some ((.bool false), h10))
  (wK (callK E 8 [x3, (.int .i64 (.ofNat 0))] h10) fun x15 h16 =>
  vK (v_ext 0 x15) fun x17 =>
  vK (v_ext 1 x15) fun x18 =>
  n_bsl 3 1 [(.str [])] [(0, 1, (.str [97, 98])), (1, 1, (.str [99, 0])), (2, 1, (.str [2, 98]))] h16 fun x19 h20 =>
  wK (callK E 12 [x3, x19] h20) fun x21 h22 =>
  gdK x21 true (fun kk => kk x4 h22) h22 fun x23 h24 =>
  gdK x21 true (fun kk => vK (v_eql x23 (.int .i64 (.ofNat 0))) fun v => kk v h24) h24 fun x25 h26 =>
  vK (v_pick x21 x25 (.bool false)) fun x27 =>
  gdK x27 true (fun kk => kk x7 h26) h26 fun x28 h29 =>
  gdK x27 true (fun kk => vK (v_eql x28 (.str [97, 98, 99])) fun v => kk v h29) h29 fun x30 h31 =>
  vK (v_pick x27 x30 (.bool false)) fun x32 =>
  gdK x32 true (fun kk => kk x8 h31) h31 fun x33 h34 =>
  gdK x32 true (fun kk => vK (v_eql x33 (.int .i64 (.ofNat 0))) fun v => kk v h34) h34 fun x35 h36 =>
  vK (v_pick x32 x35 (.bool false)) fun x37 =>
  gdK x37 true (fun kk => kk x12 h36) h36 fun x38 h39 =>
  gdK x37 true (fun kk => vK (v_eql x38 (.int .i64 (.ofNat 1))) fun v => kk v h39) h39 fun x40 h41 =>
  vK (v_pick x37 x40 (.bool false)) fun x42 =>
  gdK x42 true (fun kk => kk x17 h41) h41 fun x43 h44 =>
  gdK x42 true (fun kk => vK (v_eql x43 (.str [97, 98])) fun v => kk v h44) h44 fun x45 h46 =>
  vK (v_pick x42 x45 (.bool false)) fun x47 =>
  gdK x47 true (fun kk => kk x18 h46) h46 fun x48 h49 =>
  gdK x47 true (fun kk => vK (v_eql x48 (.int .i64 (.ofNat 0))) fun v => kk v h49) h49 fun x50 h51 =>
  vK (v_pick x47 x50 (.bool false)) fun x52 =>
  gdK x52 true (fun kk => kk x3 h51) h51 fun x53 h54 =>
  gdK x52 true (fun kk => wK (callK E 10 [x53] h54) kk) h54 fun x55 h56 =>
  vK (v_pick x52 x55 (.bool false)) fun x57 =>
  gdK x57 true (fun kk => kk x3 h56) h56 fun x58 h59 =>
  gdK x57 true (fun kk => vK (v_slL 1 x58 (some (.int .i64 (.ofNat 1))) none) fun v => kk v h59) h59 fun x60 h61 =>
  gdK x57 true (fun kk => wK (callK E 10 [x60] h61) kk) h61 fun x62 h63 =>
  gdK x57 true (fun kk => vK (v_not x62) fun v => kk v h63) h63 fun x64 h65 =>
  vK (v_pick x57 x64 (.bool false)) fun x66 =>
  gdK x66 true (fun kk => wK (callK E 13 [(.int .i64 (.ofNat 3)), (.int .i64 (.ofNat 3))] h65) kk) h65 fun x67 h68 =>
  gdK x66 true (fun kk => vK (v_eql x67 (.int .i64 (.ofNat 2))) fun v => kk v h68) h68 fun x69 h70 =>
  vK (v_pick x66 x69 (.bool false)) fun x71 =>
  gdK x71 true (fun kk => wK (callK E 11 [(.str [97, 98]), (.str [99, 98]), (.str [2, 98])] h70) kk) h70 fun x72 h73 =>
  gdK x71 true (fun kk => vK (v_eql x72 (.str [0, 98])) fun v => kk v h73) h73 fun x74 h75 =>
  vK (v_pick x71 x74 (.bool false)) fun x76 =>
  some (x76, h75))
def C6_0 : DC := (.seq (.reg [⟨(some p0), none, (.e (.mv (.c (.bool false))))⟩]) (.seq (.reg [⟨(some p10), none, (.c (.f 7 [(.c (.str [97, 98, 99])), (.c (.int .i64 (.ofNat 3)))]))⟩, ⟨(some p9), none, (.e (.mv (.r p10)))⟩, ⟨(some p11), none, (.e (.ext 0 (.r p9)))⟩, ⟨(some p12), none, (.e (.ext 1 (.r p9)))⟩, ⟨(some p1), none, (.e (.mv (.r p11)))⟩, ⟨(some p2), none, (.e (.mv (.r p12)))⟩]) (.seq (.reg [⟨(some p14), none, (.e (.mv (.r p1)))⟩, ⟨(some p15), none, (.c (.f 9 [(.r p14), (.c (.int .i64 (.ofNat 3)))]))⟩, ⟨(some p13), none, (.e (.mv (.r p15)))⟩, ⟨(some p16), none, (.e (.ext 0 (.r p13)))⟩, ⟨(some p17), none, (.e (.ext 1 (.r p13)))⟩, ⟨(some p3), none, (.e (.mv (.r p16)))⟩, ⟨(some p4), none, (.e (.mv (.r p17)))⟩]) (.seq (.reg [⟨(some p19), none, (.c (.f 7 [(.c (.str [97, 98, 99])), (.c (.int .i64 (.ofNat 1)))]))⟩, ⟨(some p18), none, (.e (.mv (.r p19)))⟩, ⟨(some p20), none, (.e (.ext 0 (.r p18)))⟩, ⟨(some p21), none, (.e (.ext 1 (.r p18)))⟩, ⟨(some p5), none, (.e (.mv (.r p20)))⟩, ⟨(some p6), none, (.e (.mv (.r p21)))⟩]) (.seq (.seq (.reg [⟨(some p22), none, (.e (.mv (.r p1)))⟩, ⟨(some p23), none, (.e (.lenL (.r p22)))⟩, ⟨(some p24), none, (.e (.bin .neq (.r p23) (.c (.int .i64 (.ofNat 3)))))⟩]) (.cond (.r p24) (.seq (.reg [⟨(some p0), none, (.e (.mv (.c (.bool false))))⟩]) .ret) .skip)) (.seq (.reg [⟨(some p26), none, (.e (.mv (.r p1)))⟩, ⟨(some p27), none, (.c (.f 8 [(.r p26), (.c (.int .i64 (.ofNat 0)))]))⟩, ⟨(some p25), none, (.e (.mv (.r p27)))⟩, ⟨(some p28), none, (.e (.ext 0 (.r p25)))⟩, ⟨(some p29), none, (.e (.ext 1 (.r p25)))⟩, ⟨(some p7), none, (.e (.mv (.r p28)))⟩, ⟨(some p8), none, (.e (.mv (.r p29)))⟩]) (.seq (.reg [⟨(some p30), none, (.e (.mv (.r p1)))⟩, ⟨(some p31), none, (.e (.bsl 3 1 [(.str [])] [(0, 1, (.c (.str [97, 98]))), (1, 1, (.c (.str [99, 0]))), (2, 1, (.c (.str [2, 98])))]))⟩, ⟨(some p32), none, (.c (.f 12 [(.r p30), (.r p31)]))⟩, ⟨(some p33), none, (.e (.mv (.r p32)))⟩, ⟨(some p34), (some (p33, true)), (.e (.mv (.r p2)))⟩, ⟨(some p35), (some (p33, true)), (.e (.bin .eql (.r p34) (.c (.int .i64 (.ofNat 0)))))⟩, ⟨(some p36), none, (.e (.pick (.r p33) (.r p35) (.c (.bool false))))⟩, ⟨(some p37), none, (.e (.mv (.r p36)))⟩, ⟨(some p38), (some (p37, true)), (.e (.mv (.r p3)))⟩, ⟨(some p39), (some (p37, true)), (.e (.bin .eql (.r p38) (.c (.str [97, 98, 99]))))⟩, ⟨(some p40), none, (.e (.pick (.r p37) (.r p39) (.c (.bool false))))⟩, ⟨(some p41), none, (.e (.mv (.r p40)))⟩, ⟨(some p42), (some (p41, true)), (.e (.mv (.r p4)))⟩, ⟨(some p43), (some (p41, true)), (.e (.bin .eql (.r p42) (.c (.int .i64 (.ofNat 0)))))⟩, ⟨(some p44), none, (.e (.pick (.r p41) (.r p43) (.c (.bool false))))⟩, ⟨(some p45), none, (.e (.mv (.r p44)))⟩, ⟨(some p46), (some (p45, true)), (.e (.mv (.r p6)))⟩, ⟨(some p47), (some (p45, true)), (.e (.bin .eql (.r p46) (.c (.int .i64 (.ofNat 1)))))⟩, ⟨(some p48), none, (.e (.pick (.r p45) (.r p47) (.c (.bool false))))⟩, ⟨(some p49), none, (.e (.mv (.r p48)))⟩, ⟨(some p50), (some (p49, true)), (.e (.mv (.r p7)))⟩, ⟨(some p51), (some (p49, true)), (.e (.bin .eql (.r p50) (.c (.str [97, 98]))))⟩, ⟨(some p52), none, (.e (.pick (.r p49) (.r p51) (.c (.bool false))))⟩, ⟨(some p53), none, (.e (.mv (.r p52)))⟩, ⟨(some p54), (some (p53, true)), (.e (.mv (.r p8)))⟩, ⟨(some p55), (some (p53, true)), (.e (.bin .eql (.r p54) (.c (.int .i64 (.ofNat 0)))))⟩, ⟨(some p56), none, (.e (.pick (.r p53) (.r p55) (.c (.bool false))))⟩, ⟨(some p57), none, (.e (.mv (.r p56)))⟩, ⟨(some p58), (some (p57, true)), (.e (.mv (.r p1)))⟩, ⟨(some p59), (some (p57, true)), (.c (.f 10 [(.r p58)]))⟩, ⟨(some p60), none, (.e (.pick (.r p57) (.r p59) (.c (.bool false))))⟩, ⟨(some p61), none, (.e (.mv (.r p60)))⟩, ⟨(some p62), (some (p61, true)), (.e (.mv (.r p1)))⟩, ⟨(some p63), (some (p61, true)), (.e (.slL 1 (.r p62) (some (.c (.int .i64 (.ofNat 1)))) none))⟩, ⟨(some p64), (some (p61, true)), (.c (.f 10 [(.r p63)]))⟩, ⟨(some p65), (some (p61, true)), (.e (.not (.r p64)))⟩, ⟨(some p66), none, (.e (.pick (.r p61) (.r p65) (.c (.bool false))))⟩, ⟨(some p67), none, (.e (.mv (.r p66)))⟩, ⟨(some p68), (some (p67, true)), (.c (.f 13 [(.c (.int .i64 (.ofNat 3))), (.c (.int .i64 (.ofNat 3)))]))⟩, ⟨(some p69), (some (p67, true)), (.e (.bin .eql (.r p68) (.c (.int .i64 (.ofNat 2)))))⟩, ⟨(some p70), none, (.e (.pick (.r p67) (.r p69) (.c (.bool false))))⟩, ⟨(some p71), none, (.e (.mv (.r p70)))⟩, ⟨(some p72), (some (p71, true)), (.c (.f 11 [(.c (.str [97, 98])), (.c (.str [99, 98])), (.c (.str [2, 98]))]))⟩, ⟨(some p73), (some (p71, true)), (.e (.bin .eql (.r p72) (.c (.str [0, 98]))))⟩, ⟨(some p74), none, (.e (.pick (.r p71) (.r p73) (.c (.bool false))))⟩, ⟨(some p0), none, (.e (.mv (.r p74)))⟩]) .ret)))))))
theorem I6_0 (E : Env) : Is E C6_0 (retK3 R6) (fun σ h => J6_0 E h) :=
  fun σ h => by kernel_rfl
def D6 : DF := ⟨0, 75, C6_0, R6⟩
noncomputable def S6 (E : Env) : Fun := fun args h => a0 args (J6_0 E h)
theorem S6_eq (E : Env) (args : List DV) (h : H) : runFn E D6 args h = S6 E args h :=
  Is.fn0 (d := D6) (I6_0 E) rfl (fun h => J6_0 E h) (fun h => by kernel_rfl) args h
/- hurdle/parity.Encode -/
def R7 : List RV := [(.r p4), (.r p5)]
noncomputable def J7_1 (E : Env) (r7 : DV) (h : H) : Ans :=
  wK (callK E 17 [r7, (.int .i64 (.negSucc 0))] h) fun x1 h2 =>
  vK (v_ext 0 x1) fun x3 =>
  vK (v_ext 1 x1) fun x4 =>
  wK (callK E 18 [x3] h2) fun x5 h6 =>
  n_bsl 1 1 [(.str [])] [(0, 1, x5)] h6 fun x7 h8 =>
  wK (dAppendF 1 16 r7 x7 h8) fun x9 h10 =>
  some ((.tup [x9, (.int .i64 (.ofNat 0))]), h10)
def C7_1 : DC := (.seq (.reg [⟨(some p49), none, (.e (.mv (.r p7)))⟩, ⟨(some p50), none, (.c (.f 17 [(.r p49), (.c (.int .i64 (.negSucc 0)))]))⟩, ⟨(some p48), none, (.e (.mv (.r p50)))⟩, ⟨(some p51), none, (.e (.ext 0 (.r p48)))⟩, ⟨(some p52), none, (.e (.ext 1 (.r p48)))⟩, ⟨(some p11), none, (.e (.mv (.r p51)))⟩, ⟨(some p12), none, (.e (.mv (.r p52)))⟩]) (.seq (.reg [⟨(some p53), none, (.e (.mv (.r p7)))⟩, ⟨(some p54), none, (.e (.mv (.r p11)))⟩, ⟨(some p55), none, (.c (.f 18 [(.r p54)]))⟩, ⟨(some p56), none, (.e (.bsl 1 1 [(.str [])] [(0, 1, (.r p55))]))⟩, ⟨(some p57), none, (.w (.app 1 16 (.r p53) (.r p56)))⟩, ⟨(some p4), none, (.e (.mv (.r p57)))⟩, ⟨(some p5), none, (.e (.mv (.c (.int .i64 (.ofNat 0)))))⟩]) .ret))
noncomputable def B7_2 (E : Env) (r1 r9 : DV) (i2 : DV → H → Ans) (r7 : DV) (h : H) : Ans :=
  vK (v_lenL r7) fun x1 =>
  vK (v_sub r1 (.int .i64 (.ofNat 1))) fun x2 =>
  vK (v_lss x1 x2) fun x3 =>
  bK x3
  (n_bsl 1 1 [(.str [])] [(0, 1, r9)] h fun x4 h5 =>
  wK (dAppendF 1 16 r7 x4 h5) fun x6 h7 =>
  i2 x6 h7)
  (J7_1 E r7 h)
noncomputable def L7_2 (E : Env) (r1 r9 : DV) (n : Nat) : DV → H → Ans := Nat.rec (motive := fun _ => DV → H → Ans) (fun _ _ => none) (fun _ i => B7_2 E r1 r9 i) n
def C7_2 : DC := (.loop (.seq (.seq (.reg [⟨(some p39), none, (.e (.mv (.r p7)))⟩, ⟨(some p40), none, (.e (.lenL (.r p39)))⟩, ⟨(some p41), none, (.e (.mv (.r p1)))⟩, ⟨(some p42), none, (.e (.bin .sub (.r p41) (.c (.int .i64 (.ofNat 1)))))⟩, ⟨(some p43), none, (.e (.bin .lss (.r p40) (.r p42)))⟩]) (.cond (.r p43) .skip (.exit 0))) (.block 1 (.reg [⟨(some p44), none, (.e (.mv (.r p7)))⟩, ⟨(some p45), none, (.e (.mv (.r p9)))⟩, ⟨(some p46), none, (.e (.bsl 1 1 [(.str [])] [(0, 1, (.r p45))]))⟩, ⟨(some p47), none, (.w (.app 1 16 (.r p44) (.r p46)))⟩, ⟨(some p7), none, (.e (.mv (.r p47)))⟩]))))
noncomputable def J7_0 (E : Env) (r0 r1 : DV) (h : H) : Ans :=
  wK (callK E 14 [r1] h) fun x1 h2 =>
  vK (v_not x1) fun x3 =>
  bK x3
  (some ((.tup [.nils, (.int .i64 (.ofNat 1))]), h2))
  (vK (v_lenS r0) fun x4 =>
  wK (callK E 13 [x4, r1] h2) fun x5 h6 =>
  vK (v_lenS r0) fun x7 =>
  vK (v_gtr x7 (.int .i64 (.ofNat 65536))) fun x8 =>
  gdK x8 false (fun kk => kk x5 h6) h6 fun x9 h10 =>
  gdK x8 false (fun kk => vK (v_gtr x9 (.int .i64 (.ofNat 512))) fun v => kk v h10) h10 fun x11 h12 =>
  vK (v_pick x8 (.bool true) x11) fun x13 =>
  bK x13
  (some ((.tup [.nils, (.int .i64 (.ofNat 2))]), h12))
  (vK (v_mx x5 (.int .i64 (.ofNat 1))) fun x14 =>
  wK (callK E 15 [r0, x14] h12) fun x15 h16 =>
  vK (v_ext 0 x15) fun x17 =>
  vK (v_ext 1 x15) fun x18 =>
  wK (callK E 16 [(.str []), x5] h16) fun x19 h20 =>
  vK (v_ext 0 x19) fun x21 =>
  vK (v_ext 1 x19) fun x22 =>
  L7_2 E r1 x21 FUEL x17 h20))
def C7_0 : DC := (.seq (.reg [⟨(some p4), none, (.e (.mv (.c .nils)))⟩, ⟨(some p5), none, (.e (.mv (.c (.int .i64 (.ofNat 0)))))⟩]) (.seq (.seq (.reg [⟨(some p13), none, (.e (.mv (.r p1)))⟩, ⟨(some p14), none, (.c (.f 14 [(.r p13)]))⟩, ⟨(some p15), none, (.e (.not (.r p14)))⟩]) (.cond (.r p15) (.seq (.reg [⟨(some p4), none, (.e (.mv (.c .nils)))⟩, ⟨(some p5), none, (.e (.mv (.c (.int .i64 (.ofNat 1)))))⟩]) .ret) .skip)) (.seq (.reg [⟨(some p16), none, (.e (.mv (.r p0)))⟩, ⟨(some p17), none, (.e (.lenS (.r p16)))⟩, ⟨(some p18), none, (.e (.mv (.r p1)))⟩, ⟨(some p19), none, (.c (.f 13 [(.r p17), (.r p18)]))⟩, ⟨(some p6), none, (.e (.mv (.r p19)))⟩]) (.seq (.seq (.reg [⟨(some p20), none, (.e (.mv (.r p0)))⟩, ⟨(some p21), none, (.e (.lenS (.r p20)))⟩, ⟨(some p22), none, (.e (.bin .gtr (.r p21) (.c (.int .i64 (.ofNat 65536)))))⟩, ⟨(some p23), none, (.e (.mv (.r p22)))⟩, ⟨(some p24), (some (p23, false)), (.e (.mv (.r p6)))⟩, ⟨(some p25), (some (p23, false)), (.e (.bin .gtr (.r p24) (.c (.int .i64 (.ofNat 512)))))⟩, ⟨(some p26), none, (.e (.pick (.r p23) (.c (.bool true)) (.r p25)))⟩]) (.cond (.r p26) (.seq (.reg [⟨(some p4), none, (.e (.mv (.c .nils)))⟩, ⟨(some p5), none, (.e (.mv (.c (.int .i64 (.ofNat 2)))))⟩]) .ret) .skip)) (.seq (.reg [⟨(some p28), none, (.e (.mv (.r p0)))⟩, ⟨(some p29), none, (.e (.mv (.r p6)))⟩, ⟨(some p30), none, (.e (.mx (.r p29) (.c (.int .i64 (.ofNat 1)))))⟩, ⟨(some p31), none, (.c (.f 15 [(.r p28), (.r p30)]))⟩, ⟨(some p27), none, (.e (.mv (.r p31)))⟩, ⟨(some p32), none, (.e (.ext 0 (.r p27)))⟩, ⟨(some p33), none, (.e (.ext 1 (.r p27)))⟩, ⟨(some p7), none, (.e (.mv (.r p32)))⟩, ⟨(some p8), none, (.e (.mv (.r p33)))⟩]) (.seq (.reg [⟨(some p35), none, (.e (.mv (.r p6)))⟩, ⟨(some p36), none, (.c (.f 16 [(.c (.str [])), (.r p35)]))⟩, ⟨(some p34), none, (.e (.mv (.r p36)))⟩, ⟨(some p37), none, (.e (.ext 0 (.r p34)))⟩, ⟨(some p38), none, (.e (.ext 1 (.r p34)))⟩, ⟨(some p9), none, (.e (.mv (.r p37)))⟩, ⟨(some p10), none, (.e (.mv (.r p38)))⟩]) (.seq (.block 0 C7_2) C7_1)))))))
theorem I7_1 (E : Env) : Is E C7_1 (retK3 R7) (fun σ h => J7_1 E (σ p7) h) :=
  fun σ h => by kernel_rfl
noncomputable abbrev K7_3 (E : Env) : KT2 (DV × H) := (blockK3 0 (thenK3 (fun σ h => J7_1 E (σ p7) h) (retK3 R7)))
theorem I7_2 (E : Env) : Is E C7_2 (K7_3 E) (fun σ h => L7_2 E (σ p1) (σ p9) FUEL (σ p7) h) :=
  Is.loop (fun n2 σ h => L7_2 E (σ p1) (σ p9) n2 (σ p7) h) (by kernel_rfl) fun n2 => Is.as (Is.leaf _) fun σ h => by kernel_rfl
theorem I7_0 (E : Env) : Is E C7_0 (retK3 R7) (fun σ h => J7_0 E (σ p0) (σ p1) h) :=
  Is.as (Is.seq (Is.seq (Is.seq (Is.seq (Is.seq (Is.seq (Is.seq (I7_1 E) (Is.block (I7_2 E))) (Is.leaf _)) (Is.leaf _)) (Is.leaf _)) (Is.leaf _)) (Is.leaf _)) (Is.leaf _)) fun σ h => by kernel_rfl
def D7 : DF := ⟨2, 58, C7_0, R7⟩
noncomputable def S7 (E : Env) : Fun := fun args h => aS args fun r0 args => aS args fun r1 args => a0 args (J7_0 E r0 r1 h)
theorem S7_eq (E : Env) (args : List DV) (h : H) : runFn E D7 args h = S7 E args h :=
  Is.fn2 (d := D7) (I7_0 E) rfl (fun r0 r1 h => J7_0 E r0 r1 h) (fun r0 r1 h => by kernel_rfl) args h
/- hurdle/parity.Give -/
def R8 : List RV := [(.r p4), (.r p5)]
noncomputable def J8_0 (E : Env) (r0 r1 : DV) (h : H) : Ans :=
  vK (v_lenL r0) fun x1 =>
  wK (callK E 14 [x1] h) fun x2 h3 =>
  vK (v_not x2) fun x4 =>
  gdK x4 false (fun kk => kk r1 h3) h3 fun x5 h6 =>
  gdK x4 false (fun kk => vK (v_lss x5 (.int .i64 (.ofNat 0))) fun v => kk v h6) h6 fun x7 h8 =>
  vK (v_pick x4 (.bool true) x7) fun x9 =>
  gdK x9 false (fun kk => kk r1 h8) h8 fun x10 h11 =>
  gdK x9 false (fun kk => kk r0 h11) h11 fun x12 h13 =>
  gdK x9 false (fun kk => vK (v_lenL x12) fun v => kk v h13) h13 fun x14 h15 =>
  gdK x9 false (fun kk => vK (v_geq x10 x14) fun v => kk v h15) h15 fun x16 h17 =>
  vK (v_pick x9 (.bool true) x16) fun x18 =>
  bK x18
  (some ((.tup [(.str []), (.int .i64 (.ofNat 1))]), h17))
  (wK (callK E 17 [r0, r1] h17) fun x19 h20 =>
  vK (v_ext 0 x19) fun x21 =>
  vK (v_ext 1 x19) fun x22 =>
  vK (v_not x22) fun x23 =>
  bK x23
  (some ((.tup [(.str []), (.int .i64 (.ofNat 2))]), h20))
  (wK (callK E 18 [x21] h20) fun x24 h25 =>
  some ((.tup [x24, (.int .i64 (.ofNat 0))]), h25)))
def C8_0 : DC := (.seq (.reg [⟨(some p4), none, (.e (.mv (.c (.str []))))⟩, ⟨(some p5), none, (.e (.mv (.c (.int .i64 (.ofNat 0)))))⟩]) (.seq (.seq (.reg [⟨(some p8), none, (.e (.mv (.r p0)))⟩, ⟨(some p9), none, (.e (.lenL (.r p8)))⟩, ⟨(some p10), none, (.c (.f 14 [(.r p9)]))⟩, ⟨(some p11), none, (.e (.not (.r p10)))⟩, ⟨(some p12), none, (.e (.mv (.r p11)))⟩, ⟨(some p13), (some (p12, false)), (.e (.mv (.r p1)))⟩, ⟨(some p14), (some (p12, false)), (.e (.bin .lss (.r p13) (.c (.int .i64 (.ofNat 0)))))⟩, ⟨(some p15), none, (.e (.pick (.r p12) (.c (.bool true)) (.r p14)))⟩, ⟨(some p16), none, (.e (.mv (.r p15)))⟩, ⟨(some p17), (some (p16, false)), (.e (.mv (.r p1)))⟩, ⟨(some p18), (some (p16, false)), (.e (.mv (.r p0)))⟩, ⟨(some p19), (some (p16, false)), (.e (.lenL (.r p18)))⟩, ⟨(some p20), (some (p16, false)), (.e (.bin .geq (.r p17) (.r p19)))⟩, ⟨(some p21), none, (.e (.pick (.r p16) (.c (.bool true)) (.r p20)))⟩]) (.cond (.r p21) (.seq (.reg [⟨(some p4), none, (.e (.mv (.c (.str []))))⟩, ⟨(some p5), none, (.e (.mv (.c (.int .i64 (.ofNat 1)))))⟩]) .ret) .skip)) (.seq (.reg [⟨(some p23), none, (.e (.mv (.r p0)))⟩, ⟨(some p24), none, (.e (.mv (.r p1)))⟩, ⟨(some p25), none, (.c (.f 17 [(.r p23), (.r p24)]))⟩, ⟨(some p22), none, (.e (.mv (.r p25)))⟩, ⟨(some p26), none, (.e (.ext 0 (.r p22)))⟩, ⟨(some p27), none, (.e (.ext 1 (.r p22)))⟩, ⟨(some p6), none, (.e (.mv (.r p26)))⟩, ⟨(some p7), none, (.e (.mv (.r p27)))⟩]) (.seq (.seq (.reg [⟨(some p28), none, (.e (.mv (.r p7)))⟩, ⟨(some p29), none, (.e (.not (.r p28)))⟩]) (.cond (.r p29) (.seq (.reg [⟨(some p4), none, (.e (.mv (.c (.str []))))⟩, ⟨(some p5), none, (.e (.mv (.c (.int .i64 (.ofNat 2)))))⟩]) .ret) .skip)) (.seq (.reg [⟨(some p30), none, (.e (.mv (.r p6)))⟩, ⟨(some p31), none, (.c (.f 18 [(.r p30)]))⟩, ⟨(some p4), none, (.e (.mv (.r p31)))⟩, ⟨(some p5), none, (.e (.mv (.c (.int .i64 (.ofNat 0)))))⟩]) .ret)))))
theorem I8_0 (E : Env) : Is E C8_0 (retK3 R8) (fun σ h => J8_0 E (σ p0) (σ p1) h) :=
  fun σ h => by kernel_rfl
def D8 : DF := ⟨2, 32, C8_0, R8⟩
noncomputable def S8 (E : Env) : Fun := fun args h => aS args fun r0 args => aS args fun r1 args => a0 args (J8_0 E r0 r1 h)
theorem S8_eq (E : Env) (args : List DV) (h : H) : runFn E D8 args h = S8 E args h :=
  Is.fn2 (d := D8) (I8_0 E) rfl (fun r0 r1 h => J8_0 E r0 r1 h) (fun r0 r1 h => by kernel_rfl) args h
/- hurdle/parity.Join -/
def R9 : List RV := [(.r p4), (.r p5)]
noncomputable def J9_1 (E : Env) (r1 r7 : DV) (h : H) : Ans :=
  vK (v_slL 1 r7 none (some r1)) fun x1 =>
  vK (v_b2s h.get x1) fun x2 =>
  some ((.tup [x2, (.int .i64 (.ofNat 0))]), h)
def C9_1 : DC := (.seq (.reg [⟨(some p47), none, (.e (.mv (.r p7)))⟩, ⟨(some p48), none, (.e (.mv (.r p1)))⟩, ⟨(some p49), none, (.e (.slL 1 (.r p47) none (some (.r p48))))⟩, ⟨(some p50), none, (.e (.b2s (.r p49)))⟩, ⟨(some p4), none, (.e (.mv (.r p50)))⟩, ⟨(some p5), none, (.e (.mv (.c (.int .i64 (.ofNat 0)))))⟩]) .ret)
noncomputable def B9_2 (E : Env) (r1 r6 r33 r34 : DV) (i2 : DV → DV → H → Ans) (r7 r35 : DV) (h : H) : Ans :=
  vK (v_lss r35 r34) fun x1 =>
  bK x1
  (vK (v_iaS 1 r33 r35) fun x2 =>
  vK (v_ld h.get x2) fun x3 =>
  vK (v_lenS x3) fun x4 =>
  vK (v_neq x4 r6) fun x5 =>
  bK x5
  (some ((.tup [(.str []), (.int .i64 (.ofNat 2))]), h))
  (wK (dAppendF 1 1 r7 x3 h) fun x6 h7 =>
  vK (v_add r35 (.int .i64 (.ofNat 1))) fun x8 =>
  i2 x6 x8 h7))
  (J9_1 E r1 r7 h)
noncomputable def L9_2 (E : Env) (r1 r6 r33 r34 : DV) (n : Nat) : DV → DV → H → Ans := Nat.rec (motive := fun _ => DV → DV → H → Ans) (fun _ _ _ => none) (fun _ i => B9_2 E r1 r6 r33 r34 i) n
def C9_2 : DC := (.loop (.seq (.reg [⟨(some p36), none, (.e (.bin .lss (.r p35) (.r p34)))⟩]) (.seq (.cond (.r p36) .skip (.exit 0)) (.seq (.block 1 (.seq (.reg [⟨(some p37), none, (.e (.iaS 1 (.r p33) (.r p35)))⟩, ⟨(some p38), none, (.e (.ld (.r p37)))⟩, ⟨(some p9), none, (.e (.mv (.r p38)))⟩]) (.seq (.seq (.reg [⟨(some p39), none, (.e (.mv (.r p9)))⟩, ⟨(some p40), none, (.e (.lenS (.r p39)))⟩, ⟨(some p41), none, (.e (.mv (.r p6)))⟩, ⟨(some p42), none, (.e (.bin .neq (.r p40) (.r p41)))⟩]) (.cond (.r p42) (.seq (.reg [⟨(some p4), none, (.e (.mv (.c (.str []))))⟩, ⟨(some p5), none, (.e (.mv (.c (.int .i64 (.ofNat 2)))))⟩]) .ret) .skip)) (.reg [⟨(some p43), none, (.e (.mv (.r p7)))⟩, ⟨(some p44), none, (.e (.mv (.r p9)))⟩, ⟨(some p45), none, (.w (.app 1 1 (.r p43) (.r p44)))⟩, ⟨(some p7), none, (.e (.mv (.r p45)))⟩])))) (.reg [⟨(some p46), none, (.e (.bin .add (.r p35) (.c (.int .i64 (.ofNat 1)))))⟩, ⟨(some p35), none, (.e (.mv (.r p46)))⟩])))))
noncomputable def J9_0 (E : Env) (r0 r1 : DV) (h : H) : Ans :=
  vK (v_lenL r0) fun x1 =>
  wK (callK E 14 [x1] h) fun x2 h3 =>
  vK (v_not x2) fun x4 =>
  bK x4
  (some ((.tup [(.str []), (.int .i64 (.ofNat 1))]), h3))
  (vK (v_lenL r0) fun x5 =>
  wK (callK E 13 [r1, x5] h3) fun x6 h7 =>
  vK (v_lss r1 (.int .i64 (.ofNat 0))) fun x8 =>
  gdK x8 false (fun kk => kk r1 h7) h7 fun x9 h10 =>
  gdK x8 false (fun kk => vK (v_gtr x9 (.int .i64 (.ofNat 65536))) fun v => kk v h10) h10 fun x11 h12 =>
  vK (v_pick x8 (.bool true) x11) fun x13 =>
  gdK x13 false (fun kk => kk x6 h12) h12 fun x14 h15 =>
  gdK x13 false (fun kk => vK (v_gtr x14 (.int .i64 (.ofNat 512))) fun v => kk v h15) h15 fun x16 h17 =>
  vK (v_pick x13 (.bool true) x16) fun x18 =>
  bK x18
  (some ((.tup [(.str []), (.int .i64 (.ofNat 2))]), h17))
  (vK (v_lenL r0) fun x19 =>
  vK (v_mul x6 x19) fun x20 =>
  n_mks 1 1 (.int .u8 (.ofNat 0)) (.int .i64 (.ofNat 0)) x20 h17 fun x21 h22 =>
  vK (v_lenL r0) fun x23 =>
  L9_2 E r1 x6 r0 x23 FUEL x21 (.int .i64 (.ofNat 0)) h22))
def C9_0 : DC := (.seq (.reg [⟨(some p4), none, (.e (.mv (.c (.str []))))⟩, ⟨(some p5), none, (.e (.mv (.c (.int .i64 (.ofNat 0)))))⟩]) (.seq (.seq (.reg [⟨(some p10), none, (.e (.mv (.r p0)))⟩, ⟨(some p11), none, (.e (.lenL (.r p10)))⟩, ⟨(some p12), none, (.c (.f 14 [(.r p11)]))⟩, ⟨(some p13), none, (.e (.not (.r p12)))⟩]) (.cond (.r p13) (.seq (.reg [⟨(some p4), none, (.e (.mv (.c (.str []))))⟩, ⟨(some p5), none, (.e (.mv (.c (.int .i64 (.ofNat 1)))))⟩]) .ret) .skip)) (.seq (.reg [⟨(some p14), none, (.e (.mv (.r p1)))⟩, ⟨(some p15), none, (.e (.mv (.r p0)))⟩, ⟨(some p16), none, (.e (.lenL (.r p15)))⟩, ⟨(some p17), none, (.c (.f 13 [(.r p14), (.r p16)]))⟩, ⟨(some p6), none, (.e (.mv (.r p17)))⟩]) (.seq (.seq (.reg [⟨(some p18), none, (.e (.mv (.r p1)))⟩, ⟨(some p19), none, (.e (.bin .lss (.r p18) (.c (.int .i64 (.ofNat 0)))))⟩, ⟨(some p20), none, (.e (.mv (.r p19)))⟩, ⟨(some p21), (some (p20, false)), (.e (.mv (.r p1)))⟩, ⟨(some p22), (some (p20, false)), (.e (.bin .gtr (.r p21) (.c (.int .i64 (.ofNat 65536)))))⟩, ⟨(some p23), none, (.e (.pick (.r p20) (.c (.bool true)) (.r p22)))⟩, ⟨(some p24), none, (.e (.mv (.r p23)))⟩, ⟨(some p25), (some (p24, false)), (.e (.mv (.r p6)))⟩, ⟨(some p26), (some (p24, false)), (.e (.bin .gtr (.r p25) (.c (.int .i64 (.ofNat 512)))))⟩, ⟨(some p27), none, (.e (.pick (.r p24) (.c (.bool true)) (.r p26)))⟩]) (.cond (.r p27) (.seq (.reg [⟨(some p4), none, (.e (.mv (.c (.str []))))⟩, ⟨(some p5), none, (.e (.mv (.c (.int .i64 (.ofNat 2)))))⟩]) .ret) .skip)) (.seq (.reg [⟨(some p28), none, (.e (.mv (.r p6)))⟩, ⟨(some p29), none, (.e (.mv (.r p0)))⟩, ⟨(some p30), none, (.e (.lenL (.r p29)))⟩, ⟨(some p31), none, (.e (.bin .mul (.r p28) (.r p30)))⟩, ⟨(some p32), none, (.e (.mks 1 1 (.int .u8 (.ofNat 0)) (.c (.int .i64 (.ofNat 0))) (.r p31)))⟩, ⟨(some p7), none, (.e (.mv (.r p32)))⟩]) (.seq (.seq (.reg [⟨(some p33), none, (.e (.mv (.r p0)))⟩, ⟨(some p34), none, (.e (.lenL (.r p33)))⟩, ⟨(some p35), none, (.e (.mv (.c (.int .i64 (.ofNat 0)))))⟩]) (.block 0 C9_2)) C9_1))))))
theorem I9_1 (E : Env) : Is E C9_1 (retK3 R9) (fun σ h => J9_1 E (σ p1) (σ p7) h) :=
  fun σ h => by kernel_rfl
noncomputable abbrev K9_3 (E : Env) : KT2 (DV × H) := (thenK3 (fun σ h => J9_1 E (σ p1) (σ p7) h) (retK3 R9))
theorem I9_2 (E : Env) : Is E C9_2 (blockK3 0 (K9_3 E)) (fun σ h => L9_2 E (σ p1) (σ p6) (σ p33) (σ p34) FUEL (σ p7) (σ p35) h) :=
  Is.loop (fun n2 σ h => L9_2 E (σ p1) (σ p6) (σ p33) (σ p34) n2 (σ p7) (σ p35) h) (by kernel_rfl) fun n2 => Is.as (Is.leaf _) fun σ h => by kernel_rfl
theorem I9_0 (E : Env) : Is E C9_0 (retK3 R9) (fun σ h => J9_0 E (σ p0) (σ p1) h) :=
  Is.as (Is.seq (Is.seq (Is.seq (Is.seq (Is.seq (Is.seq (I9_1 E) (Is.seq (Is.block (I9_2 E)) (Is.leaf _))) (Is.leaf _)) (Is.leaf _)) (Is.leaf _)) (Is.leaf _)) (Is.leaf _)) fun σ h => by kernel_rfl
def D9 : DF := ⟨2, 51, C9_0, R9⟩
noncomputable def S9 (E : Env) : Fun := fun args h => aS args fun r0 args => aS args fun r1 args => a0 args (J9_0 E r0 r1 h)
theorem S9_eq (E : Env) (args : List DV) (h : H) : runFn E D9 args h = S9 E args h :=
  Is.fn2 (d := D9) (I9_0 E) rfl (fun r0 r1 h => J9_0 E r0 r1 h) (fun r0 r1 h => by kernel_rfl) args h
/- hurdle/parity.Right -/
def R10 : List RV := [(.r p2)]
noncomputable def J10_0 (E : Env) (r0 : DV) (h : H) : Ans :=
  vK (v_lenL r0) fun x1 =>
  wK (callK E 14 [x1] h) fun x2 h3 =>
  vK (v_not x2) fun x4 =>
  bK x4
  (some ((.bool false), h3))
  (wK (callK E 17 [r0, (.int .i64 (.negSucc 0))] h3) fun x5 h6 =>
  vK (v_ext 0 x5) fun x7 =>
  vK (v_ext 1 x5) fun x8 =>
  gdK x8 true (fun kk => kk x7 h6) h6 fun x9 h10 =>
  gdK x8 true (fun kk => vK (v_nilchk x9) fun v => kk v h10) h10 fun x11 h12 =>
  gdK x8 true (fun kk => vK (v_ldN 513 h12.get x11) fun v => kk v h12) h12 fun x13 h14 =>
  gdK x8 true (fun kk => kk x7 h14) h14 fun x15 h16 =>
  gdK x8 true (fun kk => vK (v_nilchk x15) fun v => kk v h16) h16 fun x17 h18 =>
  gdK x8 true (fun kk => vK (v_fa 512 x17) fun v => kk v h18) h18 fun x19 h20 =>
  gdK x8 true (fun kk => vK (v_ld h20.get x19) fun v => kk v h20) h20 fun x21 h22 =>
  gdK x8 true (fun kk => vK (v_bld [(.int .u8 (.ofNat 0)), (.int .u8 (.ofNat 0)), (.int .u8 (.ofNat 0)), (.int .u8 (.ofNat 0)), (.int .u8 (.ofNat 0)), (.int .u8 (.ofNat 0)), (.int .u8 (.ofNat 0)), (.int .u8 (.ofNat 0)), (.int .u8 (.ofNat 0)), (.int .u8 (.ofNat 0)), (.int .u8 (.ofNat 0)), (.int .u8 (.ofNat 0)), (.int .u8 (.ofNat 0)), (.int .u8 (.ofNat 0)), (.int .u8 (.ofNat 0)), (.int .u8 (.ofNat 0)), (.int .u8 (.ofNat 0)), (.int .u8 (.ofNat 0)), (.int .u8 (.ofNat 0)), (.int .u8 (.ofNat 0)), (.int .u8 (.ofNat 0)), (.int .u8 (.ofNat 0)), (.int .u8 (.ofNat 0)), (.int .u8 (.ofNat 0)), (.int .u8 (.ofNat 0)), (.int .u8 (.ofNat 0)), (.int .u8 (.ofNat 0)), (.int .u8 (.ofNat 0)), (.int .u8 (.ofNat 0)), (.int .u8 (.ofNat 0)), (.int .u8 (.ofNat 0)), (.int .u8 (.ofNat 0)), (.int .u8 (.ofNat 0)), (.int .u8 (.ofNat 0)), (.int .u8 (.ofNat 0)), (.int .u8 (.ofNat 0)), (.int .u8 (.ofNat 0)), (.int .u8 (.ofNat 0)), (.int .u8 (.ofNat 0)), (.int .u8 (.ofNat 0)), (.int .u8 (.ofNat 0)), (.int .u8 (.ofNat 0)), (.int .u8 (.ofNat 0)), (.int .u8 (.ofNat 0)), (.int .u8 (.ofNat 0)), (.int .u8 (.ofNat 0)), (.int .u8 (.ofNat 0)), (.int .u8 (.ofNat 0)), (.int .u8 (.ofNat 0)), (.int .u8 (.ofNat 0)), (.int .u8 (.ofNat 0)), (.int .u8 (.ofNat 0)), (.int .u8 (.ofNat 0)), (.int .u8 (.ofNat 0)), (.int .u8 (.ofNat 0)), (.int .u8 (.ofNat 0)), (.int .u8 (.ofNat 0)), (.int .u8 (.ofNat 0)), (.int .u8 (.ofNat 0)), (.int .u8 (.ofNat 0)), (.int .u8 (.ofNat 0)), (.int .u8 (.ofNat 0)), (.int .u8 (.ofNat 0)), (.int .u8 (.ofNat 0)), (.int .u8 (.ofNat 0)), (.int .u8 (.ofNat 0)), (.int .u8 (.ofNat 0)), (.int .u8 (.ofNat 0)), (.int .u8 (.ofNat 0)), (.int .u8 (.ofNat 0)), (.int .u8 (.ofNat 0)), (.int .u8 (.ofNat 0)), (.int .u8 (.ofNat 0)), (.int .u8 (.ofNat 0)), (.int .u8 (.ofNat 0)), (.int .u8 (.ofNat 0)), (.int .u8 (.ofNat 0)), (.int .u8 (.ofNat 0)), (.int .u8 (.ofNat 0)), (.int .u8 (.ofNat 0)), (.int .u8 (.ofNat 0)), (.int .u8 (.ofNat 0)), (.int .u8 (.ofNat 0)), (.int .u8 (.ofNat 0)), (.int .u8 (.ofNat 0)), (.int .u8 (.ofNat 0)), (.int .u8 (.ofNat 0)), (.int .u8 (.ofNat 0)), (.int .u8 (.ofNat 0)), (.int .u8 (.ofNat 0)), (.int .u8 (.ofNat 0)), (.int .u8 (.ofNat 0)), (.int .u8 (.ofNat 0)), (.int .u8 (.ofNat 0)), (.int .u8 (.ofNat 0)), (.int .u8 (.ofNat 0)), (.int .u8 (.ofNat 0)), (.int .u8 (.ofNat 0)), (.int .u8 (.ofNat 0)), (.int .u8 (.ofNat 0)), (.int .u8 (.ofNat 0)), (.int .u8 (.ofNat 0)), (.int .u8 (.ofNat 0)), (.int .u8 (.ofNat 0)), (.int .u8 (.ofNat 0)), (.int .u8 (.ofNat 0)), (.int .u8 (.ofNat 0)), (.int .u8 (.ofNat 0)), (.int .u8 (.ofNat 0)), (.int .u8 (.ofNat 0)), (.int .u8 (.ofNat 0)), (.int .u8 (.ofNat 0)), (.int .u8 (.ofNat 0)), (.int .u8 (.ofNat 0)), (.int .u8 (.ofNat 0)), (.int .u8 (.ofNat 0)), (.int .u8 (.ofNat 0)), (.int .u8 (.ofNat 0)), (.int .u8 (.ofNat 0)), (.int .u8 (.ofNat 0)), (.int .u8 (.ofNat 0)), (.int .u8 (.ofNat 0)), (.int .u8 (.ofNat 0)), (.int .u8 (.ofNat 0)), (.int .u8 (.ofNat 0)), (.int .u8 (.ofNat 0)), (.int .u8 (.ofNat 0)), (.int .u8 (.ofNat 0)), (.int .u8 (.ofNat 0)), (.int .u8 (.ofNat 0)), (.int .u8 (.ofNat 0)), (.int .u8 (.ofNat 0)), (.int .u8 (.ofNat 0)), (.int .u8 (.ofNat 0)), (.int .u8 (.ofNat 0)), (.int .u8 (.ofNat 0)), (.int .u8 (.ofNat 0)), (.int .u8 (.ofNat 0)), (.int .u8 (.ofNat 0)), (.int .u8 (.ofNat 0)), (.int .u8 (.ofNat 0)), (.int .u8 (.ofNat 0)), (.int .u8 (.ofNat 0)), (.int .u8 (.ofNat 0)), (.int .u8 (.ofNat 0)), (.int .u8 (.ofNat 0)), (.int .u8 (.ofNat 0)), (.int .u8 (.ofNat 0)), (.int .u8 (.ofNat 0)), (.int .u8 (.ofNat 0)), (.int .u8 (.ofNat 0)), (.int .u8 (.ofNat 0)), (.int .u8 (.ofNat 0)), (.int .u8 (.ofNat 0)), (.int .u8 (.ofNat 0)), (.int .u8 (.ofNat 0)), (.int .u8 (.ofNat 0)), (.int .u8 (.ofNat 0)), (.int .u8 (.ofNat 0)), (.int .u8 (.ofNat 0)), (.int .u8 (.ofNat 0)), (.int .u8 (.ofNat 0)), (.int .u8 (.ofNat 0)), (.int .u8 (.ofNat 0)), (.int .u8 (.ofNat 0)), (.int .u8 (.ofNat 0)), (.int .u8 (.ofNat 0)), (.int .u8 (.ofNat 0)), (.int .u8 (.ofNat 0)), (.int .u8 (.ofNat 0)), (.int .u8 (.ofNat 0)), (.int .u8 (.ofNat 0)), (.int .u8 (.ofNat 0)), (.int .u8 (.ofNat 0)), (.int .u8 (.ofNat 0)), (.int .u8 (.ofNat 0)), (.int .u8 (.ofNat 0)), (.int .u8 (.ofNat 0)), (.int .u8 (.ofNat 0)), (.int .u8 (.ofNat 0)), (.int .u8 (.ofNat 0)), (.int .u8 (.ofNat 0)), (.int .u8 (.ofNat 0)), (.int .u8 (.ofNat 0)), (.int .u8 (.ofNat 0)), (.int .u8 (.ofNat 0)), (.int .u8 (.ofNat 0)), (.int .u8 (.ofNat 0)), (.int .u8 (.ofNat 0)), (.int .u8 (.ofNat 0)), (.int .u8 (.ofNat 0)), (.int .u8 (.ofNat 0)), (.int .u8 (.ofNat 0)), (.int .u8 (.ofNat 0)), (.int .u8 (.ofNat 0)), (.int .u8 (.ofNat 0)), (.int .u8 (.ofNat 0)), (.int .u8 (.ofNat 0)), (.int .u8 (.ofNat 0)), (.int .u8 (.ofNat 0)), (.int .u8 (.ofNat 0)), (.int .u8 (.ofNat 0)), (.int .u8 (.ofNat 0)), (.int .u8 (.ofNat 0)), (.int .u8 (.ofNat 0)), (.int .u8 (.ofNat 0)), (.int .u8 (.ofNat 0)), (.int .u8 (.ofNat 0)), (.int .u8 (.ofNat 0)), (.int .u8 (.ofNat 0)), (.int .u8 (.ofNat 0)), (.int .u8 (.ofNat 0)), (.int .u8 (.ofNat 0)), (.int .u8 (.ofNat 0)), (.int .u8 (.ofNat 0)), (.int .u8 (.ofNat 0)), (.int .u8 (.ofNat 0)), (.int .u8 (.ofNat 0)), (.int .u8 (.ofNat 0)), (.int .u8 (.ofNat 0)), (.int .u8 (.ofNat 0)), (.int .u8 (.ofNat 0)), (.int .u8 (.ofNat 0)), (.int .u8 (.ofNat 0)), (.int .u8 (.ofNat 0)), (.int .u8 (.ofNat 0)), (.int .u8 (.ofNat 0)), (.int .u8 (.ofNat 0)), (.int .u8 (.ofNat 0)), (.int .u8 (.ofNat 0)), (.int .u8 (.ofNat 0)), (.int .u8 (.ofNat 0)), (.int .u8 (.ofNat 0)), (.int .u8 (.ofNat 0)), (.int .u8 (.ofNat 0)), (.int .u8 (.ofNat 0)), (.int .u8 (.ofNat 0)), (.int .u8 (.ofNat 0)), (.int .u8 (.ofNat 0)), (.int .u8 (.ofNat 0)), (.int .u8 (.ofNat 0)), (.int .u8 (.ofNat 0)), (.int .u8 (.ofNat 0)), (.int .u8 (.ofNat 0)), (.int .u8 (.ofNat 0)), (.int .u8 (.ofNat 0)), (.int .u8 (.ofNat 0)), (.int .u8 (.ofNat 0)), (.int .u8 (.ofNat 0)), (.int .u8 (.ofNat 0)), (.int .u8 (.ofNat 0)), (.int .u8 (.ofNat 0)), (.int .u8 (.ofNat 0)), (.int .u8 (.ofNat 0)), (.int .u8 (.ofNat 0)), (.int .u8 (.ofNat 0)), (.int .u8 (.ofNat 0)), (.int .u8 (.ofNat 0)), (.int .u8 (.ofNat 0)), (.int .u8 (.ofNat 0)), (.int .u8 (.ofNat 0)), (.int .u8 (.ofNat 0)), (.int .u8 (.ofNat 0)), (.int .u8 (.ofNat 0)), (.int .u8 (.ofNat 0)), (.int .u8 (.ofNat 0)), (.int .u8 (.ofNat 0)), (.int .u8 (.ofNat 0)), (.int .u8 (.ofNat 0)), (.int .u8 (.ofNat 0)), (.int .u8 (.ofNat 0)), (.int .u8 (.ofNat 0)), (.int .u8 (.ofNat 0)), (.int .u8 (.ofNat 0)), (.int .u8 (.ofNat 0)), (.int .u8 (.ofNat 0)), (.int .u8 (.ofNat 0)), (.int .u8 (.ofNat 0)), (.int .u8 (.ofNat 0)), (.int .u8 (.ofNat 0)), (.int .u8 (.ofNat 0)), (.int .u8 (.ofNat 0)), (.int .u8 (.ofNat 0)), (.int .u8 (.ofNat 0)), (.int .u8 (.ofNat 0)), (.int .u8 (.ofNat 0)), (.int .u8 (.ofNat 0)), (.int .u8 (.ofNat 0)), (.int .u8 (.ofNat 0)), (.int .u8 (.ofNat 0)), (.int .u8 (.ofNat 0)), (.int .u8 (.ofNat 0)), (.int .u8 (.ofNat 0)), (.int .u8 (.ofNat 0)), (.int .u8 (.ofNat 0)), (.int .u8 (.ofNat 0)), (.int .u8 (.ofNat 0)), (.int .u8 (.ofNat 0)), (.int .u8 (.ofNat 0)), (.int .u8 (.ofNat 0)), (.int .u8 (.ofNat 0)), (.int .u8 (.ofNat 0)), (.int .u8 (.ofNat 0)), (.int .u8 (.ofNat 0)), (.int .u8 (.ofNat 0)), (.int .u8 (.ofNat 0)), (.int .u8 (.ofNat 0)), (.int .u8 (.ofNat 0)), (.int .u8 (.ofNat 0)), (.int .u8 (.ofNat 0)), (.int .u8 (.ofNat 0)), (.int .u8 (.ofNat 0)), (.int .u8 (.ofNat 0)), (.int .u8 (.ofNat 0)), (.int .u8 (.ofNat 0)), (.int .u8 (.ofNat 0)), (.int .u8 (.ofNat 0)), (.int .u8 (.ofNat 0)), (.int .u8 (.ofNat 0)), (.int .u8 (.ofNat 0)), (.int .u8 (.ofNat 0)), (.int .u8 (.ofNat 0)), (.int .u8 (.ofNat 0)), (.int .u8 (.ofNat 0)), (.int .u8 (.ofNat 0)), (.int .u8 (.ofNat 0)), (.int .u8 (.ofNat 0)), (.int .u8 (.ofNat 0)), (.int .u8 (.ofNat 0)), (.int .u8 (.ofNat 0)), (.int .u8 (.ofNat 0)), (.int .u8 (.ofNat 0)), (.int .u8 (.ofNat 0)), (.int .u8 (.ofNat 0)), (.int .u8 (.ofNat 0)), (.int .u8 (.ofNat 0)), (.int .u8 (.ofNat 0)), (.int .u8 (.ofNat 0)), (.int .u8 (.ofNat 0)), (.int .u8 (.ofNat 0)), (.int .u8 (.ofNat 0)), (.int .u8 (.ofNat 0)), (.int .u8 (.ofNat 0)), (.int .u8 (.ofNat 0)), (.int .u8 (.ofNat 0)), (.int .u8 (.ofNat 0)), (.int .u8 (.ofNat 0)), (.int .u8 (.ofNat 0)), (.int .u8 (.ofNat 0)), (.int .u8 (.ofNat 0)), (.int .u8 (.ofNat 0)), (.int .u8 (.ofNat 0)), (.int .u8 (.ofNat 0)), (.int .u8 (.ofNat 0)), (.int .u8 (.ofNat 0)), (.int .u8 (.ofNat 0)), (.int .u8 (.ofNat 0)), (.int .u8 (.ofNat 0)), (.int .u8 (.ofNat 0)), (.int .u8 (.ofNat 0)), (.int .u8 (.ofNat 0)), (.int .u8 (.ofNat 0)), (.int .u8 (.ofNat 0)), (.int .u8 (.ofNat 0)), (.int .u8 (.ofNat 0)), (.int .u8 (.ofNat 0)), (.int .u8 (.ofNat 0)), (.int .u8 (.ofNat 0)), (.int .u8 (.ofNat 0)), (.int .u8 (.ofNat 0)), (.int .u8 (.ofNat 0)), (.int .u8 (.ofNat 0)), (.int .u8 (.ofNat 0)), (.int .u8 (.ofNat 0)), (.int .u8 (.ofNat 0)), (.int .u8 (.ofNat 0)), (.int .u8 (.ofNat 0)), (.int .u8 (.ofNat 0)), (.int .u8 (.ofNat 0)), (.int .u8 (.ofNat 0)), (.int .u8 (.ofNat 0)), (.int .u8 (.ofNat 0)), (.int .u8 (.ofNat 0)), (.int .u8 (.ofNat 0)), (.int .u8 (.ofNat 0)), (.int .u8 (.ofNat 0)), (.int .u8 (.ofNat 0)), (.int .u8 (.ofNat 0)), (.int .u8 (.ofNat 0)), (.int .u8 (.ofNat 0)), (.int .u8 (.ofNat 0)), (.int .u8 (.ofNat 0)), (.int .u8 (.ofNat 0)), (.int .u8 (.ofNat 0)), (.int .u8 (.ofNat 0)), (.int .u8 (.ofNat 0)), (.int .u8 (.ofNat 0)), (.int .u8 (.ofNat 0)), (.int .u8 (.ofNat 0)), (.int .u8 (.ofNat 0)), (.int .u8 (.ofNat 0)), (.int .u8 (.ofNat 0)), (.int .u8 (.ofNat 0)), (.int .u8 (.ofNat 0)), (.int .u8 (.ofNat 0)), (.int .u8 (.ofNat 0)), (.int .u8 (.ofNat 0)), (.int .u8 (.ofNat 0)), (.int .u8 (.ofNat 0)), (.int .u8 (.ofNat 0)), (.int .u8 (.ofNat 0)), (.int .u8 (.ofNat 0)), (.int .u8 (.ofNat 0)), (.int .u8 (.ofNat 0)), (.int .u8 (.ofNat 0)), (.int .u8 (.ofNat 0)), (.int .u8 (.ofNat 0)), (.int .u8 (.ofNat 0)), (.int .u8 (.ofNat 0)), (.int .u8 (.ofNat 0)), (.int .u8 (.ofNat 0)), (.int .u8 (.ofNat 0)), (.int .u8 (.ofNat 0)), (.int .u8 (.ofNat 0)), (.int .u8 (.ofNat 0)), (.int .u8 (.ofNat 0)), (.int .u8 (.ofNat 0)), (.int .u8 (.ofNat 0)), (.int .u8 (.ofNat 0)), (.int .u8 (.ofNat 0)), (.int .u8 (.ofNat 0)), (.int .u8 (.ofNat 0)), (.int .u8 (.ofNat 0)), (.int .u8 (.ofNat 0)), (.int .u8 (.ofNat 0)), (.int .u8 (.ofNat 0)), (.int .u8 (.ofNat 0)), (.int .u8 (.ofNat 0)), (.int .u8 (.ofNat 0)), (.int .u8 (.ofNat 0)), (.int .u8 (.ofNat 0)), (.int .u8 (.ofNat 0)), (.int .u8 (.ofNat 0)), (.int .u8 (.ofNat 0)), (.int .u8 (.ofNat 0)), (.int .u8 (.ofNat 0)), (.int .u8 (.ofNat 0)), (.int .u8 (.ofNat 0)), (.int .u8 (.ofNat 0)), (.int .u8 (.ofNat 0)), (.int .u8 (.ofNat 0)), (.int .u8 (.ofNat 0)), (.int .u8 (.ofNat 0)), (.int .u8 (.ofNat 0)), (.int .u8 (.ofNat 0)), (.int .u8 (.ofNat 0)), (.int .u8 (.ofNat 0)), (.int .u8 (.ofNat 0)), (.int .u8 (.ofNat 0)), (.int .u8 (.ofNat 0)), (.int .u8 (.ofNat 0)), (.int .u8 (.ofNat 0)), (.int .u8 (.ofNat 0)), (.int .u8 (.ofNat 0)), (.int .u8 (.ofNat 0)), (.int .u8 (.ofNat 0)), (.int .u8 (.ofNat 0)), (.int .u8 (.ofNat 0)), (.int .u8 (.ofNat 0)), (.int .u8 (.ofNat 0)), (.int .u8 (.ofNat 0)), (.int .u8 (.ofNat 0)), (.int .u8 (.ofNat 0)), (.int .u8 (.ofNat 0)), (.int .u8 (.ofNat 0)), (.int .u8 (.ofNat 0)), (.int .u8 (.ofNat 0)), (.int .u8 (.ofNat 0)), (.int .u8 (.ofNat 0)), (.int .u8 (.ofNat 0)), (.int .u8 (.ofNat 0)), (.int .u8 (.ofNat 0)), (.int .u8 (.ofNat 0)), (.int .u8 (.ofNat 0)), (.int .u8 (.ofNat 0)), (.int .u8 (.ofNat 0)), (.int .u8 (.ofNat 0)), (.int .u8 (.ofNat 0)), (.int .u8 (.ofNat 0)), (.int .u8 (.ofNat 0)), (.int .u8 (.ofNat 0)), (.int .u8 (.ofNat 0)), (.int .u8 (.ofNat 0)), (.int .u8 (.ofNat 0)), (.int .u8 (.ofNat 0)), (.int .u8 (.ofNat 0)), (.int .u8 (.ofNat 0)), (.int .u8 (.ofNat 0)), (.int .u8 (.ofNat 0)), (.int .u8 (.ofNat 0)), (.int .u8 (.ofNat 0)), (.int .u8 (.ofNat 0)), (.int .u8 (.ofNat 0)), (.int .u8 (.ofNat 0)), (.int .u8 (.ofNat 0)), (.int .u8 (.ofNat 0)), (.int .u8 (.ofNat 0)), (.int .u8 (.ofNat 0)), (.int .u8 (.ofNat 0)), (.int .u8 (.ofNat 0)), (.int .u8 (.ofNat 0)), (.int .u8 (.ofNat 0)), (.int .i64 (.ofNat 0))] [(512, 1, x21)]) fun v => kk v h22) h22 fun x23 h24 =>
  gdK x8 true (fun kk => vK (v_eqs false (.arr .int 0 512 (.leaf .int 512 .nil)) h24.get x13 x23) fun v => kk v h24) h24 fun x25 h26 =>
  vK (v_pick x8 x25 (.bool false)) fun x27 =>
  some (x27, h26))
def C10_0 : DC := (.seq (.reg [⟨(some p2), none, (.e (.mv (.c (.bool false))))⟩]) (.seq (.seq (.reg [⟨(some p5), none, (.e (.mv (.r p0)))⟩, ⟨(some p6), none, (.e (.lenL (.r p5)))⟩, ⟨(some p7), none, (.c (.f 14 [(.r p6)]))⟩, ⟨(some p8), none, (.e (.not (.r p7)))⟩]) (.cond (.r p8) (.seq (.reg [⟨(some p2), none, (.e (.mv (.c (.bool false))))⟩]) .ret) .skip)) (.seq (.reg [⟨(some p10), none, (.e (.mv (.r p0)))⟩, ⟨(some p11), none, (.c (.f 17 [(.r p10), (.c (.int .i64 (.negSucc 0)))]))⟩, ⟨(some p9), none, (.e (.mv (.r p11)))⟩, ⟨(some p12), none, (.e (.ext 0 (.r p9)))⟩, ⟨(some p13), none, (.e (.ext 1 (.r p9)))⟩, ⟨(some p3), none, (.e (.mv (.r p12)))⟩, ⟨(some p4), none, (.e (.mv (.r p13)))⟩]) (.seq (.drg [⟨0, ⟨(some p14), none, (.e (.mv (.r p4)))⟩, [], false⟩, ⟨1, ⟨(some p15), none, (.e (.mv (.r p14)))⟩, [], false⟩, ⟨2, ⟨(some p16), (some (p15, true)), (.e (.mv (.r p3)))⟩, [], false⟩, ⟨3, ⟨(some p17), (some (p15, true)), (.e (.nilchk (.r p16)))⟩, [], false⟩, ⟨4, ⟨(some p18), (some (p15, true)), (.e (.ldN 513 (.r p17)))⟩, [], false⟩, ⟨5, ⟨(some p19), (some (p15, true)), (.e (.mv (.r p3)))⟩, [], false⟩, ⟨6, ⟨(some p20), (some (p15, true)), (.e (.nilchk (.r p19)))⟩, [], false⟩, ⟨7, ⟨(some p21), (some (p15, true)), (.e (.fa 512 (.r p20)))⟩, [], false⟩, ⟨8, ⟨(some p22), (some (p15, true)), (.e (.ld (.r p21)))⟩, [], false⟩, ⟨9, ⟨(some p23), (some (p15, true)), (.e (.bld [(.int .u8 (.ofNat 0)), (.int .u8 (.ofNat 0)), (.int .u8 (.ofNat 0)), (.int .u8 (.ofNat 0)), (.int .u8 (.ofNat 0)), (.int .u8 (.ofNat 0)), (.int .u8 (.ofNat 0)), (.int .u8 (.ofNat 0)), (.int .u8 (.ofNat 0)), (.int .u8 (.ofNat 0)), (.int .u8 (.ofNat 0)), (.int .u8 (.ofNat 0)), (.int .u8 (.ofNat 0)), (.int .u8 (.ofNat 0)), (.int .u8 (.ofNat 0)), (.int .u8 (.ofNat 0)), (.int .u8 (.ofNat 0)), (.int .u8 (.ofNat 0)), (.int .u8 (.ofNat 0)), (.int .u8 (.ofNat 0)), (.int .u8 (.ofNat 0)), (.int .u8 (.ofNat 0)), (.int .u8 (.ofNat 0)), (.int .u8 (.ofNat 0)), (.int .u8 (.ofNat 0)), (.int .u8 (.ofNat 0)), (.int .u8 (.ofNat 0)), (.int .u8 (.ofNat 0)), (.int .u8 (.ofNat 0)), (.int .u8 (.ofNat 0)), (.int .u8 (.ofNat 0)), (.int .u8 (.ofNat 0)), (.int .u8 (.ofNat 0)), (.int .u8 (.ofNat 0)), (.int .u8 (.ofNat 0)), (.int .u8 (.ofNat 0)), (.int .u8 (.ofNat 0)), (.int .u8 (.ofNat 0)), (.int .u8 (.ofNat 0)), (.int .u8 (.ofNat 0)), (.int .u8 (.ofNat 0)), (.int .u8 (.ofNat 0)), (.int .u8 (.ofNat 0)), (.int .u8 (.ofNat 0)), (.int .u8 (.ofNat 0)), (.int .u8 (.ofNat 0)), (.int .u8 (.ofNat 0)), (.int .u8 (.ofNat 0)), (.int .u8 (.ofNat 0)), (.int .u8 (.ofNat 0)), (.int .u8 (.ofNat 0)), (.int .u8 (.ofNat 0)), (.int .u8 (.ofNat 0)), (.int .u8 (.ofNat 0)), (.int .u8 (.ofNat 0)), (.int .u8 (.ofNat 0)), (.int .u8 (.ofNat 0)), (.int .u8 (.ofNat 0)), (.int .u8 (.ofNat 0)), (.int .u8 (.ofNat 0)), (.int .u8 (.ofNat 0)), (.int .u8 (.ofNat 0)), (.int .u8 (.ofNat 0)), (.int .u8 (.ofNat 0)), (.int .u8 (.ofNat 0)), (.int .u8 (.ofNat 0)), (.int .u8 (.ofNat 0)), (.int .u8 (.ofNat 0)), (.int .u8 (.ofNat 0)), (.int .u8 (.ofNat 0)), (.int .u8 (.ofNat 0)), (.int .u8 (.ofNat 0)), (.int .u8 (.ofNat 0)), (.int .u8 (.ofNat 0)), (.int .u8 (.ofNat 0)), (.int .u8 (.ofNat 0)), (.int .u8 (.ofNat 0)), (.int .u8 (.ofNat 0)), (.int .u8 (.ofNat 0)), (.int .u8 (.ofNat 0)), (.int .u8 (.ofNat 0)), (.int .u8 (.ofNat 0)), (.int .u8 (.ofNat 0)), (.int .u8 (.ofNat 0)), (.int .u8 (.ofNat 0)), (.int .u8 (.ofNat 0)), (.int .u8 (.ofNat 0)), (.int .u8 (.ofNat 0)), (.int .u8 (.ofNat 0)), (.int .u8 (.ofNat 0)), (.int .u8 (.ofNat 0)), (.int .u8 (.ofNat 0)), (.int .u8 (.ofNat 0)), (.int .u8 (.ofNat 0)), (.int .u8 (.ofNat 0)), (.int .u8 (.ofNat 0)), (.int .u8 (.ofNat 0)), (.int .u8 (.ofNat 0)), (.int .u8 (.ofNat 0)), (.int .u8 (.ofNat 0)), (.int .u8 (.ofNat 0)), (.int .u8 (.ofNat 0)), (.int .u8 (.ofNat 0)), (.int .u8 (.ofNat 0)), (.int .u8 (.ofNat 0)), (.int .u8 (.ofNat 0)), (.int .u8 (.ofNat 0)), (.int .u8 (.ofNat 0)), (.int .u8 (.ofNat 0)), (.int .u8 (.ofNat 0)), (.int .u8 (.ofNat 0)), (.int .u8 (.ofNat 0)), (.int .u8 (.ofNat 0)), (.int .u8 (.ofNat 0)), (.int .u8 (.ofNat 0)), (.int .u8 (.ofNat 0)), (.int .u8 (.ofNat 0)), (.int .u8 (.ofNat 0)), (.int .u8 (.ofNat 0)), (.int .u8 (.ofNat 0)), (.int .u8 (.ofNat 0)), (.int .u8 (.ofNat 0)), (.int .u8 (.ofNat 0)), (.int .u8 (.ofNat 0)), (.int .u8 (.ofNat 0)), (.int .u8 (.ofNat 0)), (.int .u8 (.ofNat 0)), (.int .u8 (.ofNat 0)), (.int .u8 (.ofNat 0)), (.int .u8 (.ofNat 0)), (.int .u8 (.ofNat 0)), (.int .u8 (.ofNat 0)), (.int .u8 (.ofNat 0)), (.int .u8 (.ofNat 0)), (.int .u8 (.ofNat 0)), (.int .u8 (.ofNat 0)), (.int .u8 (.ofNat 0)), (.int .u8 (.ofNat 0)), (.int .u8 (.ofNat 0)), (.int .u8 (.ofNat 0)), (.int .u8 (.ofNat 0)), (.int .u8 (.ofNat 0)), (.int .u8 (.ofNat 0)), (.int .u8 (.ofNat 0)), (.int .u8 (.ofNat 0)), (.int .u8 (.ofNat 0)), (.int .u8 (.ofNat 0)), (.int .u8 (.ofNat 0)), (.int .u8 (.ofNat 0)), (.int .u8 (.ofNat 0)), (.int .u8 (.ofNat 0)), (.int .u8 (.ofNat 0)), (.int .u8 (.ofNat 0)), (.int .u8 (.ofNat 0)), (.int .u8 (.ofNat 0)), (.int .u8 (.ofNat 0)), (.int .u8 (.ofNat 0)), (.int .u8 (.ofNat 0)), (.int .u8 (.ofNat 0)), (.int .u8 (.ofNat 0)), (.int .u8 (.ofNat 0)), (.int .u8 (.ofNat 0)), (.int .u8 (.ofNat 0)), (.int .u8 (.ofNat 0)), (.int .u8 (.ofNat 0)), (.int .u8 (.ofNat 0)), (.int .u8 (.ofNat 0)), (.int .u8 (.ofNat 0)), (.int .u8 (.ofNat 0)), (.int .u8 (.ofNat 0)), (.int .u8 (.ofNat 0)), (.int .u8 (.ofNat 0)), (.int .u8 (.ofNat 0)), (.int .u8 (.ofNat 0)), (.int .u8 (.ofNat 0)), (.int .u8 (.ofNat 0)), (.int .u8 (.ofNat 0)), (.int .u8 (.ofNat 0)), (.int .u8 (.ofNat 0)), (.int .u8 (.ofNat 0)), (.int .u8 (.ofNat 0)), (.int .u8 (.ofNat 0)), (.int .u8 (.ofNat 0)), (.int .u8 (.ofNat 0)), (.int .u8 (.ofNat 0)), (.int .u8 (.ofNat 0)), (.int .u8 (.ofNat 0)), (.int .u8 (.ofNat 0)), (.int .u8 (.ofNat 0)), (.int .u8 (.ofNat 0)), (.int .u8 (.ofNat 0)), (.int .u8 (.ofNat 0)), (.int .u8 (.ofNat 0)), (.int .u8 (.ofNat 0)), (.int .u8 (.ofNat 0)), (.int .u8 (.ofNat 0)), (.int .u8 (.ofNat 0)), (.int .u8 (.ofNat 0)), (.int .u8 (.ofNat 0)), (.int .u8 (.ofNat 0)), (.int .u8 (.ofNat 0)), (.int .u8 (.ofNat 0)), (.int .u8 (.ofNat 0)), (.int .u8 (.ofNat 0)), (.int .u8 (.ofNat 0)), (.int .u8 (.ofNat 0)), (.int .u8 (.ofNat 0)), (.int .u8 (.ofNat 0)), (.int .u8 (.ofNat 0)), (.int .u8 (.ofNat 0)), (.int .u8 (.ofNat 0)), (.int .u8 (.ofNat 0)), (.int .u8 (.ofNat 0)), (.int .u8 (.ofNat 0)), (.int .u8 (.ofNat 0)), (.int .u8 (.ofNat 0)), (.int .u8 (.ofNat 0)), (.int .u8 (.ofNat 0)), (.int .u8 (.ofNat 0)), (.int .u8 (.ofNat 0)), (.int .u8 (.ofNat 0)), (.int .u8 (.ofNat 0)), (.int .u8 (.ofNat 0)), (.int .u8 (.ofNat 0)), (.int .u8 (.ofNat 0)), (.int .u8 (.ofNat 0)), (.int .u8 (.ofNat 0)), (.int .u8 (.ofNat 0)), (.int .u8 (.ofNat 0)), (.int .u8 (.ofNat 0)), (.int .u8 (.ofNat 0)), (.int .u8 (.ofNat 0)), (.int .u8 (.ofNat 0)), (.int .u8 (.ofNat 0)), (.int .u8 (.ofNat 0)), (.int .u8 (.ofNat 0)), (.int .u8 (.ofNat 0)), (.int .u8 (.ofNat 0)), (.int .u8 (.ofNat 0)), (.int .u8 (.ofNat 0)), (.int .u8 (.ofNat 0)), (.int .u8 (.ofNat 0)), (.int .u8 (.ofNat 0)), (.int .u8 (.ofNat 0)), (.int .u8 (.ofNat 0)), (.int .u8 (.ofNat 0)), (.int .u8 (.ofNat 0)), (.int .u8 (.ofNat 0)), (.int .u8 (.ofNat 0)), (.int .u8 (.ofNat 0)), (.int .u8 (.ofNat 0)), (.int .u8 (.ofNat 0)), (.int .u8 (.ofNat 0)), (.int .u8 (.ofNat 0)), (.int .u8 (.ofNat 0)), (.int .u8 (.ofNat 0)), (.int .u8 (.ofNat 0)), (.int .u8 (.ofNat 0)), (.int .u8 (.ofNat 0)), (.int .u8 (.ofNat 0)), (.int .u8 (.ofNat 0)), (.int .u8 (.ofNat 0)), (.int .u8 (.ofNat 0)), (.int .u8 (.ofNat 0)), (.int .u8 (.ofNat 0)), (.int .u8 (.ofNat 0)), (.int .u8 (.ofNat 0)), (.int .u8 (.ofNat 0)), (.int .u8 (.ofNat 0)), (.int .u8 (.ofNat 0)), (.int .u8 (.ofNat 0)), (.int .u8 (.ofNat 0)), (.int .u8 (.ofNat 0)), (.int .u8 (.ofNat 0)), (.int .u8 (.ofNat 0)), (.int .u8 (.ofNat 0)), (.int .u8 (.ofNat 0)), (.int .u8 (.ofNat 0)), (.int .u8 (.ofNat 0)), (.int .u8 (.ofNat 0)), (.int .u8 (.ofNat 0)), (.int .u8 (.ofNat 0)), (.int .u8 (.ofNat 0)), (.int .u8 (.ofNat 0)), (.int .u8 (.ofNat 0)), (.int .u8 (.ofNat 0)), (.int .u8 (.ofNat 0)), (.int .u8 (.ofNat 0)), (.int .u8 (.ofNat 0)), (.int .u8 (.ofNat 0)), (.int .u8 (.ofNat 0)), (.int .u8 (.ofNat 0)), (.int .u8 (.ofNat 0)), (.int .u8 (.ofNat 0)), (.int .u8 (.ofNat 0)), (.int .u8 (.ofNat 0)), (.int .u8 (.ofNat 0)), (.int .u8 (.ofNat 0)), (.int .u8 (.ofNat 0)), (.int .u8 (.ofNat 0)), (.int .u8 (.ofNat 0)), (.int .u8 (.ofNat 0)), (.int .u8 (.ofNat 0)), (.int .u8 (.ofNat 0)), (.int .u8 (.ofNat 0)), (.int .u8 (.ofNat 0)), (.int .u8 (.ofNat 0)), (.int .u8 (.ofNat 0)), (.int .u8 (.ofNat 0)), (.int .u8 (.ofNat 0)), (.int .u8 (.ofNat 0)), (.int .u8 (.ofNat 0)), (.int .u8 (.ofNat 0)), (.int .u8 (.ofNat 0)), (.int .u8 (.ofNat 0)), (.int .u8 (.ofNat 0)), (.int .u8 (.ofNat 0)), (.int .u8 (.ofNat 0)), (.int .u8 (.ofNat 0)), (.int .u8 (.ofNat 0)), (.int .u8 (.ofNat 0)), (.int .u8 (.ofNat 0)), (.int .u8 (.ofNat 0)), (.int .u8 (.ofNat 0)), (.int .u8 (.ofNat 0)), (.int .u8 (.ofNat 0)), (.int .u8 (.ofNat 0)), (.int .u8 (.ofNat 0)), (.int .u8 (.ofNat 0)), (.int .u8 (.ofNat 0)), (.int .u8 (.ofNat 0)), (.int .u8 (.ofNat 0)), (.int .u8 (.ofNat 0)), (.int .u8 (.ofNat 0)), (.int .u8 (.ofNat 0)), (.int .u8 (.ofNat 0)), (.int .u8 (.ofNat 0)), (.int .u8 (.ofNat 0)), (.int .u8 (.ofNat 0)), (.int .u8 (.ofNat 0)), (.int .u8 (.ofNat 0)), (.int .u8 (.ofNat 0)), (.int .u8 (.ofNat 0)), (.int .u8 (.ofNat 0)), (.int .u8 (.ofNat 0)), (.int .u8 (.ofNat 0)), (.int .u8 (.ofNat 0)), (.int .u8 (.ofNat 0)), (.int .u8 (.ofNat 0)), (.int .u8 (.ofNat 0)), (.int .u8 (.ofNat 0)), (.int .u8 (.ofNat 0)), (.int .u8 (.ofNat 0)), (.int .u8 (.ofNat 0)), (.int .u8 (.ofNat 0)), (.int .u8 (.ofNat 0)), (.int .u8 (.ofNat 0)), (.int .u8 (.ofNat 0)), (.int .u8 (.ofNat 0)), (.int .u8 (.ofNat 0)), (.int .u8 (.ofNat 0)), (.int .u8 (.ofNat 0)), (.int .u8 (.ofNat 0)), (.int .u8 (.ofNat 0)), (.int .u8 (.ofNat 0)), (.int .u8 (.ofNat 0)), (.int .u8 (.ofNat 0)), (.int .u8 (.ofNat 0)), (.int .u8 (.ofNat 0)), (.int .u8 (.ofNat 0)), (.int .u8 (.ofNat 0)), (.int .u8 (.ofNat 0)), (.int .u8 (.ofNat 0)), (.int .u8 (.ofNat 0)), (.int .u8 (.ofNat 0)), (.int .u8 (.ofNat 0)), (.int .u8 (.ofNat 0)), (.int .u8 (.ofNat 0)), (.int .u8 (.ofNat 0)), (.int .u8 (.ofNat 0)), (.int .u8 (.ofNat 0)), (.int .u8 (.ofNat 0)), (.int .u8 (.ofNat 0)), (.int .u8 (.ofNat 0)), (.int .u8 (.ofNat 0)), (.int .u8 (.ofNat 0)), (.int .u8 (.ofNat 0)), (.int .u8 (.ofNat 0)), (.int .u8 (.ofNat 0)), (.int .u8 (.ofNat 0)), (.int .u8 (.ofNat 0)), (.int .u8 (.ofNat 0)), (.int .u8 (.ofNat 0)), (.int .u8 (.ofNat 0)), (.int .u8 (.ofNat 0)), (.int .u8 (.ofNat 0)), (.int .u8 (.ofNat 0)), (.int .u8 (.ofNat 0)), (.int .u8 (.ofNat 0)), (.int .u8 (.ofNat 0)), (.int .u8 (.ofNat 0)), (.int .u8 (.ofNat 0)), (.int .u8 (.ofNat 0)), (.int .u8 (.ofNat 0)), (.int .u8 (.ofNat 0)), (.int .u8 (.ofNat 0)), (.int .u8 (.ofNat 0)), (.int .u8 (.ofNat 0)), (.int .u8 (.ofNat 0)), (.int .u8 (.ofNat 0)), (.int .u8 (.ofNat 0)), (.int .u8 (.ofNat 0)), (.int .u8 (.ofNat 0)), (.int .u8 (.ofNat 0)), (.int .u8 (.ofNat 0)), (.int .u8 (.ofNat 0)), (.int .u8 (.ofNat 0)), (.int .u8 (.ofNat 0)), (.int .u8 (.ofNat 0)), (.int .u8 (.ofNat 0)), (.int .u8 (.ofNat 0)), (.int .u8 (.ofNat 0)), (.int .u8 (.ofNat 0)), (.int .u8 (.ofNat 0)), (.int .u8 (.ofNat 0)), (.int .u8 (.ofNat 0)), (.int .u8 (.ofNat 0)), (.int .u8 (.ofNat 0)), (.int .u8 (.ofNat 0)), (.int .u8 (.ofNat 0)), (.int .u8 (.ofNat 0)), (.int .u8 (.ofNat 0)), (.int .u8 (.ofNat 0)), (.int .u8 (.ofNat 0)), (.int .u8 (.ofNat 0)), (.int .u8 (.ofNat 0)), (.int .u8 (.ofNat 0)), (.int .u8 (.ofNat 0)), (.int .u8 (.ofNat 0)), (.int .u8 (.ofNat 0)), (.int .u8 (.ofNat 0)), (.int .u8 (.ofNat 0)), (.int .u8 (.ofNat 0)), (.int .u8 (.ofNat 0)), (.int .u8 (.ofNat 0)), (.int .u8 (.ofNat 0)), (.int .u8 (.ofNat 0)), (.int .u8 (.ofNat 0)), (.int .u8 (.ofNat 0)), (.int .u8 (.ofNat 0)), (.int .u8 (.ofNat 0)), (.int .u8 (.ofNat 0)), (.int .u8 (.ofNat 0)), (.int .u8 (.ofNat 0)), (.int .u8 (.ofNat 0)), (.int .u8 (.ofNat 0)), (.int .u8 (.ofNat 0)), (.int .u8 (.ofNat 0)), (.int .u8 (.ofNat 0)), (.int .u8 (.ofNat 0)), (.int .u8 (.ofNat 0)), (.int .u8 (.ofNat 0)), (.int .u8 (.ofNat 0)), (.int .u8 (.ofNat 0)), (.int .u8 (.ofNat 0)), (.int .u8 (.ofNat 0)), (.int .u8 (.ofNat 0)), (.int .u8 (.ofNat 0)), (.int .u8 (.ofNat 0)), (.int .u8 (.ofNat 0)), (.int .u8 (.ofNat 0)), (.int .u8 (.ofNat 0)), (.int .u8 (.ofNat 0)), (.int .u8 (.ofNat 0)), (.int .u8 (.ofNat 0)), (.int .u8 (.ofNat 0)), (.int .u8 (.ofNat 0)), (.int .u8 (.ofNat 0)), (.int .u8 (.ofNat 0)), (.int .u8 (.ofNat 0)), (.int .u8 (.ofNat 0)), (.int .u8 (.ofNat 0)), (.int .u8 (.ofNat 0)), (.int .u8 (.ofNat 0)), (.int .u8 (.ofNat 0)), (.int .u8 (.ofNat 0)), (.int .u8 (.ofNat 0)), (.int .u8 (.ofNat 0)), (.int .u8 (.ofNat 0)), (.int .u8 (.ofNat 0)), (.int .u8 (.ofNat 0)), (.int .u8 (.ofNat 0)), (.int .u8 (.ofNat 0)), (.int .u8 (.ofNat 0)), (.int .u8 (.ofNat 0)), (.int .u8 (.ofNat 0)), (.int .u8 (.ofNat 0)), (.int .u8 (.ofNat 0)), (.int .u8 (.ofNat 0)), (.int .u8 (.ofNat 0)), (.int .u8 (.ofNat 0)), (.int .u8 (.ofNat 0)), (.int .u8 (.ofNat 0)), (.int .u8 (.ofNat 0)), (.int .u8 (.ofNat 0)), (.int .u8 (.ofNat 0)), (.int .u8 (.ofNat 0)), (.int .u8 (.ofNat 0)), (.int .u8 (.ofNat 0)), (.int .u8 (.ofNat 0)), (.int .u8 (.ofNat 0)), (.int .u8 (.ofNat 0)), (.int .i64 (.ofNat 0))] [(512, 1, (.r p22))]))⟩, [], false⟩, ⟨10, ⟨(some p24), (some (p15, true)), (.e (.eqs false (.arr .int 0 512 (.leaf .int 512 .nil)) (.r p18) (.r p23)))⟩, [], false⟩, ⟨11, ⟨(some p25), none, (.e (.pick (.r p15) (.r p24) (.c (.bool false))))⟩, [], false⟩, ⟨12, ⟨(some p2), none, (.e (.mv (.r p25)))⟩, [], false⟩]) .ret))))
theorem I10_0 (E : Env) : Is E C10_0 (retK3 R10) (fun σ h => J10_0 E (σ p0) h) :=
  fun σ h => by kernel_rfl
def D10 : DF := ⟨1, 26, C10_0, R10⟩
noncomputable def S10 (E : Env) : Fun := fun args h => aS args fun r0 args => a0 args (J10_0 E r0 h)
theorem S10_eq (E : Env) (args : List DV) (h : H) : runFn E D10 args h = S10 E args h :=
  Is.fn1 (d := D10) (I10_0 E) rfl (fun r0 h => J10_0 E r0 h) (fun r0 h => by kernel_rfl) args h
/- hurdle/parity.Patch -/
def R11 : List RV := [(.r p6)]
noncomputable def J11_0 (E : Env) (r0 r1 r2 : DV) (h : H) : Ans :=
  n_bsl 3 1 [(.str [])] [(0, 1, r0), (1, 1, r1), (2, 1, r2)] h fun x1 h2 =>
  wK (callK E 19 [x1] h2) fun x3 h4 =>
  some (x3, h4)
def C11_0 : DC := (.seq (.reg [⟨(some p6), none, (.e (.mv (.c (.str []))))⟩]) (.seq (.reg [⟨(some p7), none, (.e (.mv (.r p0)))⟩, ⟨(some p8), none, (.e (.mv (.r p1)))⟩, ⟨(some p9), none, (.e (.mv (.r p2)))⟩, ⟨(some p10), none, (.e (.bsl 3 1 [(.str [])] [(0, 1, (.r p7)), (1, 1, (.r p8)), (2, 1, (.r p9))]))⟩, ⟨(some p11), none, (.c (.f 19 [(.r p10)]))⟩, ⟨(some p6), none, (.e (.mv (.r p11)))⟩]) .ret))
theorem I11_0 (E : Env) : Is E C11_0 (retK3 R11) (fun σ h => J11_0 E (σ p0) (σ p1) (σ p2) h) :=
  fun σ h => by kernel_rfl
def D11 : DF := ⟨3, 12, C11_0, R11⟩
noncomputable def S11 (E : Env) : Fun := fun args h => aS args fun r0 args => aS args fun r1 args => aS args fun r2 args => a0 args (J11_0 E r0 r1 r2 h)
theorem S11_eq (E : Env) (args : List DV) (h : H) : runFn E D11 args h = S11 E args h :=
  Is.fn3 (d := D11) (I11_0 E) rfl (fun r0 r1 r2 h => J11_0 E r0 r1 r2 h) (fun r0 r1 r2 h => by kernel_rfl) args h
/- hurdle/hurdleref01.Texts -/
def R12 : List RV := [(.r p4)]
noncomputable def J12_1 (E : Env) (h : H) : Ans :=
  some ((.bool true), h)
def C12_1 : DC := (.seq (.reg [⟨(some p4), none, (.e (.mv (.c (.bool true))))⟩]) .ret)
noncomputable def B12_2 (E : Env) (r0 r1 : DV) (i2 : DV → H → Ans) (r5 : DV) (h : H) : Ans :=
  vK (v_lenL r0) fun x1 =>
  vK (v_lss r5 x1) fun x2 =>
  bK x2
  (vK (v_iaS 1 r0 r5) fun x3 =>
  vK (v_ld h.get x3) fun x4 =>
  vK (v_iaS 1 r1 r5) fun x5 =>
  vK (v_ld h.get x5) fun x6 =>
  vK (v_neq x4 x6) fun x7 =>
  bK x7
  (some ((.bool false), h))
  (vK (v_add r5 (.int .i64 (.ofNat 1))) fun x8 =>
  i2 x8 h))
  (J12_1 E h)
noncomputable def L12_2 (E : Env) (r0 r1 : DV) (n : Nat) : DV → H → Ans := Nat.rec (motive := fun _ => DV → H → Ans) (fun _ _ => none) (fun _ i => B12_2 E r0 r1 i) n
def C12_2 : DC := (.loop (.seq (.seq (.reg [⟨(some p11), none, (.e (.mv (.r p5)))⟩, ⟨(some p12), none, (.e (.mv (.r p0)))⟩, ⟨(some p13), none, (.e (.lenL (.r p12)))⟩, ⟨(some p14), none, (.e (.bin .lss (.r p11) (.r p13)))⟩]) (.cond (.r p14) .skip (.exit 0))) (.seq (.block 1 (.seq (.drg [⟨0, ⟨(some p17), none, (.e (.mv (.r p0)))⟩, [], false⟩, ⟨1, ⟨(some p18), none, (.e (.mv (.r p5)))⟩, [], false⟩, ⟨2, ⟨(some p19), none, (.e (.iaS 1 (.r p17) (.r p18)))⟩, [], false⟩, ⟨3, ⟨(some p20), none, (.e (.ld (.r p19)))⟩, [], false⟩, ⟨4, ⟨(some p21), none, (.e (.mv (.r p1)))⟩, [], false⟩, ⟨5, ⟨(some p22), none, (.e (.mv (.r p5)))⟩, [], false⟩, ⟨6, ⟨(some p23), none, (.e (.iaS 1 (.r p21) (.r p22)))⟩, [], false⟩, ⟨7, ⟨(some p24), none, (.e (.ld (.r p23)))⟩, [], false⟩, ⟨8, ⟨(some p25), none, (.e (.bin .neq (.r p20) (.r p24)))⟩, [], false⟩]) (.cond (.r p25) (.seq (.reg [⟨(some p4), none, (.e (.mv (.c (.bool false))))⟩]) .ret) .skip))) (.reg [⟨(some p15), none, (.e (.mv (.r p5)))⟩, ⟨(some p16), none, (.e (.bin .add (.r p15) (.c (.int .i64 (.ofNat 1)))))⟩, ⟨(some p5), none, (.e (.mv (.r p16)))⟩]))))
noncomputable def J12_0 (E : Env) (r0 r1 : DV) (h : H) : Ans :=
  vK (v_lenL r0) fun x1 =>
  vK (v_lenL r1) fun x2 =>
  vK (v_neq x1 x2) fun x3 =>
  bK x3
  (some ((.bool false), h))
  (L12_2 E r0 r1 FUEL (.int .i64 (.ofNat 0)) h)
def C12_0 : DC := (.seq (.reg [⟨(some p4), none, (.e (.mv (.c (.bool false))))⟩]) (.seq (.seq (.reg [⟨(some p6), none, (.e (.mv (.r p0)))⟩, ⟨(some p7), none, (.e (.lenL (.r p6)))⟩, ⟨(some p8), none, (.e (.mv (.r p1)))⟩, ⟨(some p9), none, (.e (.lenL (.r p8)))⟩, ⟨(some p10), none, (.e (.bin .neq (.r p7) (.r p9)))⟩]) (.cond (.r p10) (.seq (.reg [⟨(some p4), none, (.e (.mv (.c (.bool false))))⟩]) .ret) .skip)) (.seq (.seq (.reg [⟨(some p5), none, (.e (.mv (.c (.int .i64 (.ofNat 0)))))⟩]) (.block 0 C12_2)) C12_1)))
theorem I12_1 (E : Env) : Is E C12_1 (retK3 R12) (fun σ h => J12_1 E h) :=
  fun σ h => by kernel_rfl
noncomputable abbrev K12_3 (E : Env) : KT2 (DV × H) := (blockK3 0 (thenK3 (fun σ h => J12_1 E h) (retK3 R12)))
theorem I12_2 (E : Env) : Is E C12_2 (K12_3 E) (fun σ h => L12_2 E (σ p0) (σ p1) FUEL (σ p5) h) :=
  Is.loop (fun n2 σ h => L12_2 E (σ p0) (σ p1) n2 (σ p5) h) (by kernel_rfl) fun n2 => Is.as (Is.leaf _) fun σ h => by kernel_rfl
theorem I12_0 (E : Env) : Is E C12_0 (retK3 R12) (fun σ h => J12_0 E (σ p0) (σ p1) h) :=
  Is.as (Is.seq (Is.seq (Is.seq (I12_1 E) (Is.seq (Is.block (I12_2 E)) (Is.leaf _))) (Is.leaf _)) (Is.leaf _)) fun σ h => by kernel_rfl
def D12 : DF := ⟨2, 26, C12_0, R12⟩
noncomputable def S12 (E : Env) : Fun := fun args h => aS args fun r0 args => aS args fun r1 args => a0 args (J12_0 E r0 r1 h)
theorem S12_eq (E : Env) (args : List DV) (h : H) : runFn E D12 args h = S12 E args h :=
  Is.fn2 (d := D12) (I12_0 E) rfl (fun r0 r1 h => J12_0 E r0 r1 h) (fun r0 r1 h => by kernel_rfl) args h
/- hurdle/parity.Long -/
def R13 : List RV := [(.r p4)]
noncomputable def J13_0 (E : Env) (r0 r1 : DV) (h : H) : Ans :=
  vK (v_lss r0 (.int .i64 (.ofNat 0))) fun x1 =>
  gdK x1 false (fun kk => kk r0 h) h fun x2 h3 =>
  gdK x1 false (fun kk => vK (v_gtr x2 (.int .i64 (.ofNat 65536))) fun v => kk v h3) h3 fun x4 h5 =>
  vK (v_pick x1 (.bool true) x4) fun x6 =>
  gdK x6 false (fun kk => kk r1 h5) h5 fun x7 h8 =>
  gdK x6 false (fun kk => wK (callK E 14 [x7] h8) kk) h8 fun x9 h10 =>
  gdK x6 false (fun kk => vK (v_not x9) fun v => kk v h10) h10 fun x11 h12 =>
  vK (v_pick x6 (.bool true) x11) fun x13 =>
  bK x13
  (some ((.int .i64 (.ofNat 0)), h12))
  (vK (v_add r0 r1) fun x14 =>
  vK (v_sub x14 (.int .i64 (.ofNat 2))) fun x15 =>
  vK (v_sub r1 (.int .i64 (.ofNat 1))) fun x16 =>
  vK (v_quo x15 x16) fun x17 =>
  some (x17, h12))
def C13_0 : DC := (.seq (.reg [⟨(some p4), none, (.e (.mv (.c (.int .i64 (.ofNat 0)))))⟩]) (.seq (.seq (.reg [⟨(some p5), none, (.e (.mv (.r p0)))⟩, ⟨(some p6), none, (.e (.bin .lss (.r p5) (.c (.int .i64 (.ofNat 0)))))⟩, ⟨(some p7), none, (.e (.mv (.r p6)))⟩, ⟨(some p8), (some (p7, false)), (.e (.mv (.r p0)))⟩, ⟨(some p9), (some (p7, false)), (.e (.bin .gtr (.r p8) (.c (.int .i64 (.ofNat 65536)))))⟩, ⟨(some p10), none, (.e (.pick (.r p7) (.c (.bool true)) (.r p9)))⟩, ⟨(some p11), none, (.e (.mv (.r p10)))⟩, ⟨(some p12), (some (p11, false)), (.e (.mv (.r p1)))⟩, ⟨(some p13), (some (p11, false)), (.c (.f 14 [(.r p12)]))⟩, ⟨(some p14), (some (p11, false)), (.e (.not (.r p13)))⟩, ⟨(some p15), none, (.e (.pick (.r p11) (.c (.bool true)) (.r p14)))⟩]) (.cond (.r p15) (.seq (.reg [⟨(some p4), none, (.e (.mv (.c (.int .i64 (.ofNat 0)))))⟩]) .ret) .skip)) (.seq (.reg [⟨(some p16), none, (.e (.mv (.r p0)))⟩, ⟨(some p17), none, (.e (.mv (.r p1)))⟩, ⟨(some p18), none, (.e (.bin .add (.r p16) (.r p17)))⟩, ⟨(some p19), none, (.e (.bin .sub (.r p18) (.c (.int .i64 (.ofNat 2)))))⟩, ⟨(some p20), none, (.e (.mv (.r p1)))⟩, ⟨(some p21), none, (.e (.bin .sub (.r p20) (.c (.int .i64 (.ofNat 1)))))⟩, ⟨(some p22), none, (.e (.bin .quo (.r p19) (.r p21)))⟩, ⟨(some p4), none, (.e (.mv (.r p22)))⟩]) .ret)))
theorem I13_0 (E : Env) : Is E C13_0 (retK3 R13) (fun σ h => J13_0 E (σ p0) (σ p1) h) :=
  fun σ h => by kernel_rfl
def D13 : DF := ⟨2, 23, C13_0, R13⟩
noncomputable def S13 (E : Env) : Fun := fun args h => aS args fun r0 args => aS args fun r1 args => a0 args (J13_0 E r0 r1 h)
theorem S13_eq (E : Env) (args : List DV) (h : H) : runFn E D13 args h = S13 E args h :=
  Is.fn2 (d := D13) (I13_0 E) rfl (fun r0 r1 h => J13_0 E r0 r1 h) (fun r0 r1 h => by kernel_rfl) args h
/- hurdle/parity.wide -/
def R14 : List RV := [(.r p2)]
noncomputable def J14_0 (E : Env) (r0 : DV) (h : H) : Ans :=
  vK (v_geq r0 (.int .i64 (.ofNat 2))) fun x1 =>
  gdK x1 true (fun kk => kk r0 h) h fun x2 h3 =>
  gdK x1 true (fun kk => vK (v_leq x2 (.int .i64 (.ofNat 8))) fun v => kk v h3) h3 fun x4 h5 =>
  vK (v_pick x1 x4 (.bool false)) fun x6 =>
  some (x6, h5)
def C14_0 : DC := (.seq (.reg [⟨(some p2), none, (.e (.mv (.c (.bool false))))⟩]) (.seq (.reg [⟨(some p3), none, (.e (.mv (.r p0)))⟩, ⟨(some p4), none, (.e (.bin .geq (.r p3) (.c (.int .i64 (.ofNat 2)))))⟩, ⟨(some p5), none, (.e (.mv (.r p4)))⟩, ⟨(some p6), (some (p5, true)), (.e (.mv (.r p0)))⟩, ⟨(some p7), (some (p5, true)), (.e (.bin .leq (.r p6) (.c (.int .i64 (.ofNat 8)))))⟩, ⟨(some p8), none, (.e (.pick (.r p5) (.r p7) (.c (.bool false))))⟩, ⟨(some p2), none, (.e (.mv (.r p8)))⟩]) .ret))
theorem I14_0 (E : Env) : Is E C14_0 (retK3 R14) (fun σ h => J14_0 E (σ p0) h) :=
  fun σ h => by kernel_rfl
def D14 : DF := ⟨1, 9, C14_0, R14⟩
noncomputable def S14 (E : Env) : Fun := fun args h => aS args fun r0 args => a0 args (J14_0 E r0 h)
theorem S14_eq (E : Env) (args : List DV) (h : H) : runFn E D14 args h = S14 E args h :=
  Is.fn1 (d := D14) (I14_0 E) rfl (fun r0 h => J14_0 E r0 h) (fun r0 h => by kernel_rfl) args h
/- hurdle/bytes.Cut -/
def R15 : List RV := [(.r p4), (.r p5)]
noncomputable def J15_3 (E : Env) (r6 : DV) (h : H) : Ans :=
  some ((.tup [r6, (.int .i64 (.ofNat 0))]), h)
def C15_3 : DC := (.seq (.reg [⟨(some p38), none, (.e (.mv (.r p6)))⟩, ⟨(some p4), none, (.e (.mv (.r p38)))⟩, ⟨(some p5), none, (.e (.mv (.c (.int .i64 (.ofNat 0)))))⟩]) .ret)
noncomputable def J15_1 (E : Env) (r0 r1 r6 : DV) (h : H) : Ans :=
  vK (v_neq r0 (.str [])) fun x1 =>
  bK x1
  (vK (v_lenS r0) fun x2 =>
  vK (v_sub r1 x2) fun x3 =>
  wK (callK E 20 [x3] h) fun x4 h5 =>
  vK (v_add r0 x4) fun x6 =>
  n_bsl 1 1 [(.str [])] [(0, 1, x6)] h5 fun x7 h8 =>
  wK (dAppendF 1 16 r6 x7 h8) fun x9 h10 =>
  J15_3 E x9 h10)
  (J15_3 E r6 h)
def C15_1 : DC := (.seq (.seq (.reg [⟨(some p26), none, (.e (.mv (.r p0)))⟩, ⟨(some p27), none, (.e (.bin .neq (.r p26) (.c (.str []))))⟩]) (.cond (.r p27) (.reg [⟨(some p28), none, (.e (.mv (.r p6)))⟩, ⟨(some p29), none, (.e (.mv (.r p0)))⟩, ⟨(some p30), none, (.e (.mv (.r p1)))⟩, ⟨(some p31), none, (.e (.mv (.r p0)))⟩, ⟨(some p32), none, (.e (.lenS (.r p31)))⟩, ⟨(some p33), none, (.e (.bin .sub (.r p30) (.r p32)))⟩, ⟨(some p34), none, (.c (.f 20 [(.r p33)]))⟩, ⟨(some p35), none, (.e (.bin .add (.r p29) (.r p34)))⟩, ⟨(some p36), none, (.e (.bsl 1 1 [(.str [])] [(0, 1, (.r p35))]))⟩, ⟨(some p37), none, (.w (.app 1 16 (.r p28) (.r p36)))⟩, ⟨(some p6), none, (.e (.mv (.r p37)))⟩]) .skip)) C15_3)
noncomputable def B15_2 (E : Env) (r1 : DV) (i2 : DV → DV → H → Ans) (r0 r6 : DV) (h : H) : Ans :=
  vK (v_lenS r0) fun x1 =>
  vK (v_gtr x1 r1) fun x2 =>
  bK x2
  (vK (v_slS r0 none (some r1)) fun x3 =>
  n_bsl 1 1 [(.str [])] [(0, 1, x3)] h fun x4 h5 =>
  wK (dAppendF 1 16 r6 x4 h5) fun x6 h7 =>
  vK (v_slS r0 (some r1) none) fun x8 =>
  i2 x8 x6 h7)
  (J15_1 E r0 r1 r6 h)
noncomputable def L15_2 (E : Env) (r1 : DV) (n : Nat) : DV → DV → H → Ans := Nat.rec (motive := fun _ => DV → DV → H → Ans) (fun _ _ _ => none) (fun _ i => B15_2 E r1 i) n
def C15_2 : DC := (.loop (.seq (.seq (.reg [⟨(some p13), none, (.e (.mv (.r p0)))⟩, ⟨(some p14), none, (.e (.lenS (.r p13)))⟩, ⟨(some p15), none, (.e (.mv (.r p1)))⟩, ⟨(some p16), none, (.e (.bin .gtr (.r p14) (.r p15)))⟩]) (.cond (.r p16) .skip (.exit 0))) (.seq (.block 1 (.reg [⟨(some p20), none, (.e (.mv (.r p6)))⟩, ⟨(some p21), none, (.e (.mv (.r p0)))⟩, ⟨(some p22), none, (.e (.mv (.r p1)))⟩, ⟨(some p23), none, (.e (.slS (.r p21) none (some (.r p22))))⟩, ⟨(some p24), none, (.e (.bsl 1 1 [(.str [])] [(0, 1, (.r p23))]))⟩, ⟨(some p25), none, (.w (.app 1 16 (.r p20) (.r p24)))⟩, ⟨(some p6), none, (.e (.mv (.r p25)))⟩])) (.reg [⟨(some p17), none, (.e (.mv (.r p0)))⟩, ⟨(some p18), none, (.e (.mv (.r p1)))⟩, ⟨(some p19), none, (.e (.slS (.r p17) (some (.r p18)) none))⟩, ⟨(some p0), none, (.e (.mv (.r p19)))⟩]))))
noncomputable def J15_0 (E : Env) (r0 r1 : DV) (h : H) : Ans :=
  vK (v_lss r1 (.int .i64 (.ofNat 1))) fun x1 =>
  gdK x1 false (fun kk => kk r1 h) h fun x2 h3 =>
  gdK x1 false (fun kk => vK (v_gtr x2 (.int .i64 (.ofNat 65536))) fun v => kk v h3) h3 fun x4 h5 =>
  vK (v_pick x1 (.bool true) x4) fun x6 =>
  bK x6
  (some ((.tup [.nils, (.int .i64 (.ofNat 1))]), h5))
  (L15_2 E r1 FUEL r0 .nils h5)
def C15_0 : DC := (.seq (.reg [⟨(some p4), none, (.e (.mv (.c .nils)))⟩, ⟨(some p5), none, (.e (.mv (.c (.int .i64 (.ofNat 0)))))⟩]) (.seq (.seq (.reg [⟨(some p7), none, (.e (.mv (.r p1)))⟩, ⟨(some p8), none, (.e (.bin .lss (.r p7) (.c (.int .i64 (.ofNat 1)))))⟩, ⟨(some p9), none, (.e (.mv (.r p8)))⟩, ⟨(some p10), (some (p9, false)), (.e (.mv (.r p1)))⟩, ⟨(some p11), (some (p9, false)), (.e (.bin .gtr (.r p10) (.c (.int .i64 (.ofNat 65536)))))⟩, ⟨(some p12), none, (.e (.pick (.r p9) (.c (.bool true)) (.r p11)))⟩]) (.cond (.r p12) (.seq (.reg [⟨(some p4), none, (.e (.mv (.c .nils)))⟩, ⟨(some p5), none, (.e (.mv (.c (.int .i64 (.ofNat 1)))))⟩]) .ret) .skip)) (.seq (.reg [⟨(some p6), none, (.e (.mv (.c .nils)))⟩]) (.seq (.block 0 C15_2) C15_1))))
theorem I15_3 (E : Env) : Is E C15_3 (retK3 R15) (fun σ h => J15_3 E (σ p6) h) :=
  fun σ h => by kernel_rfl
theorem I15_1 (E : Env) : Is E C15_1 (retK3 R15) (fun σ h => J15_1 E (σ p0) (σ p1) (σ p6) h) :=
  Is.as (Is.seq (I15_3 E) (Is.leaf _)) fun σ h => by kernel_rfl
noncomputable abbrev K15_4 (E : Env) : KT2 (DV × H) := (thenK3 (fun σ h => J15_1 E (σ p0) (σ p1) (σ p6) h) (retK3 R15))
theorem I15_2 (E : Env) : Is E C15_2 (blockK3 0 (K15_4 E)) (fun σ h => L15_2 E (σ p1) FUEL (σ p0) (σ p6) h) :=
  Is.loop (fun n2 σ h => L15_2 E (σ p1) n2 (σ p0) (σ p6) h) (by kernel_rfl) fun n2 => Is.as (Is.leaf _) fun σ h => by kernel_rfl
theorem I15_0 (E : Env) : Is E C15_0 (retK3 R15) (fun σ h => J15_0 E (σ p0) (σ p1) h) :=
  Is.as (Is.seq (Is.seq (Is.seq (Is.seq (I15_1 E) (Is.block (I15_2 E))) (Is.leaf _)) (Is.leaf _)) (Is.leaf _)) fun σ h => by kernel_rfl
def D15 : DF := ⟨2, 39, C15_0, R15⟩
noncomputable def S15 (E : Env) : Fun := fun args h => aS args fun r0 args => aS args fun r1 args => a0 args (J15_0 E r0 r1 h)
theorem S15_eq (E : Env) (args : List DV) (h : H) : runFn E D15 args h = S15 E args h :=
  Is.fn2 (d := D15) (I15_0 E) rfl (fun r0 r1 h => J15_0 E r0 r1 h) (fun r0 r1 h => by kernel_rfl) args h
/- hurdle/bytes.Pad -/
def R16 : List RV := [(.r p4), (.r p5)]
noncomputable def J16_0 (E : Env) (r0 r1 : DV) (h : H) : Ans :=
  vK (v_lss r1 (.int .i64 (.ofNat 0))) fun x1 =>
  gdK x1 false (fun kk => kk r1 h) h fun x2 h3 =>
  gdK x1 false (fun kk => vK (v_gtr x2 (.int .i64 (.ofNat 65536))) fun v => kk v h3) h3 fun x4 h5 =>
  vK (v_pick x1 (.bool true) x4) fun x6 =>
  bK x6
  (some ((.tup [(.str []), (.int .i64 (.ofNat 1))]), h5))
  (vK (v_lenS r0) fun x7 =>
  vK (v_gtr x7 r1) fun x8 =>
  bK x8
  (some ((.tup [(.str []), (.int .i64 (.ofNat 2))]), h5))
  (vK (v_lenS r0) fun x9 =>
  vK (v_sub r1 x9) fun x10 =>
  wK (callK E 20 [x10] h5) fun x11 h12 =>
  vK (v_add r0 x11) fun x13 =>
  some ((.tup [x13, (.int .i64 (.ofNat 0))]), h12)))
def C16_0 : DC := (.seq (.reg [⟨(some p4), none, (.e (.mv (.c (.str []))))⟩, ⟨(some p5), none, (.e (.mv (.c (.int .i64 (.ofNat 0)))))⟩]) (.seq (.block 0 (.seq (.reg [⟨(some p7), none, (.e (.mv (.r p1)))⟩, ⟨(some p8), none, (.e (.bin .lss (.r p7) (.c (.int .i64 (.ofNat 0)))))⟩, ⟨(some p9), none, (.e (.mv (.r p8)))⟩, ⟨(some p10), (some (p9, false)), (.e (.mv (.r p1)))⟩, ⟨(some p11), (some (p9, false)), (.e (.bin .gtr (.r p10) (.c (.int .i64 (.ofNat 65536)))))⟩, ⟨(some p12), none, (.e (.pick (.r p9) (.c (.bool true)) (.r p11)))⟩, ⟨(some p6), none, (.e (.mv (.r p12)))⟩]) (.cond (.r p6) (.seq (.reg [⟨(some p4), none, (.e (.mv (.c (.str []))))⟩, ⟨(some p5), none, (.e (.mv (.c (.int .i64 (.ofNat 1)))))⟩]) .ret) (.seq (.reg [⟨(some p14), none, (.e (.mv (.r p0)))⟩, ⟨(some p15), none, (.e (.lenS (.r p14)))⟩, ⟨(some p16), none, (.e (.mv (.r p1)))⟩, ⟨(some p17), none, (.e (.bin .gtr (.r p15) (.r p16)))⟩, ⟨(some p13), none, (.e (.mv (.r p17)))⟩]) (.cond (.r p13) (.seq (.reg [⟨(some p4), none, (.e (.mv (.c (.str []))))⟩, ⟨(some p5), none, (.e (.mv (.c (.int .i64 (.ofNat 2)))))⟩]) .ret) .skip))))) (.seq (.reg [⟨(some p18), none, (.e (.mv (.r p0)))⟩, ⟨(some p19), none, (.e (.mv (.r p1)))⟩, ⟨(some p20), none, (.e (.mv (.r p0)))⟩, ⟨(some p21), none, (.e (.lenS (.r p20)))⟩, ⟨(some p22), none, (.e (.bin .sub (.r p19) (.r p21)))⟩, ⟨(some p23), none, (.c (.f 20 [(.r p22)]))⟩, ⟨(some p24), none, (.e (.bin .add (.r p18) (.r p23)))⟩, ⟨(some p4), none, (.e (.mv (.r p24)))⟩, ⟨(some p5), none, (.e (.mv (.c (.int .i64 (.ofNat 0)))))⟩]) .ret)))
theorem I16_0 (E : Env) : Is E C16_0 (retK3 R16) (fun σ h => J16_0 E (σ p0) (σ p1) h) :=
  fun σ h => by kernel_rfl
def D16 : DF := ⟨2, 25, C16_0, R16⟩
noncomputable def S16 (E : Env) : Fun := fun args h => aS args fun r0 args => aS args fun r1 args => a0 args (J16_0 E r0 r1 h)
theorem S16_eq (E : Env) (args : List DV) (h : H) : runFn E D16 args h = S16 E args h :=
  Is.fn2 (d := D16) (I16_0 E) rfl (fun r0 r1 h => J16_0 E r0 r1 h) (fun r0 r1 h => by kernel_rfl) args h
/- hurdle/parity.all -/
def R17 : List RV := [(.r p4), (.r p5)]
noncomputable def J17_1 (E : Env) (r6 : DV) (h : H) : Ans :=
  some ((.tup [r6, (.bool true)]), h)
def C17_1 : DC := (.seq (.reg [⟨(some p28), none, (.e (.mv (.r p6)))⟩, ⟨(some p4), none, (.e (.mv (.r p28)))⟩, ⟨(some p5), none, (.e (.mv (.c (.bool true))))⟩]) .ret)
noncomputable def J17_3 (E : Env) (i2 : DV → DV → H → Ans) (r7 r14 : DV) (h : H) : Ans :=
  vK (v_add r14 (.int .i64 (.ofNat 1))) fun x1 =>
  i2 r7 x1 h
def C17_3 : DC := (.reg [⟨(some p27), none, (.e (.bin .add (.r p14) (.c (.int .i64 (.ofNat 1)))))⟩, ⟨(some p14), none, (.e (.mv (.r p27)))⟩])
noncomputable def B17_2 (E : Env) (r1 r6 r12 r13 : DV) (i2 : DV → DV → H → Ans) (r7 r14 : DV) (h : H) : Ans :=
  vK (v_lss r14 r13) fun x1 =>
  bK x1
  (vK (v_iaS 1 r12 r14) fun x2 =>
  vK (v_ld h.get x2) fun x3 =>
  vK (v_eql r14 r1) fun x4 =>
  bK x4
  (J17_3 E i2 r7 r14 h)
  (wK (callK E 21 [r6, x3, r7] h) fun x5 h6 =>
  vK (v_not x5) fun x7 =>
  bK x7
  (some ((.tup [.nilp, (.bool false)]), h6))
  (J17_3 E i2 (.bool false) r14 h6)))
  (J17_1 E r6 h)
noncomputable def L17_2 (E : Env) (r1 r6 r12 r13 : DV) (n : Nat) : DV → DV → H → Ans := Nat.rec (motive := fun _ => DV → DV → H → Ans) (fun _ _ _ => none) (fun _ i => B17_2 E r1 r6 r12 r13 i) n
def C17_2 : DC := (.loop (.seq (.reg [⟨(some p15), none, (.e (.bin .lss (.r p14) (.r p13)))⟩]) (.seq (.cond (.r p15) .skip (.exit 0)) (.seq (.block 1 (.seq (.reg [⟨(some p16), none, (.e (.mv (.r p14)))⟩, ⟨(some p17), none, (.e (.iaS 1 (.r p12) (.r p14)))⟩, ⟨(some p18), none, (.e (.ld (.r p17)))⟩, ⟨(some p8), none, (.e (.mv (.r p16)))⟩, ⟨(some p9), none, (.e (.mv (.r p18)))⟩]) (.seq (.seq (.reg [⟨(some p19), none, (.e (.mv (.r p8)))⟩, ⟨(some p20), none, (.e (.mv (.r p1)))⟩, ⟨(some p21), none, (.e (.bin .eql (.r p19) (.r p20)))⟩]) (.cond (.r p21) (.exit 1) .skip)) (.seq (.seq (.reg [⟨(some p22), none, (.e (.mv (.r p6)))⟩, ⟨(some p23), none, (.e (.mv (.r p9)))⟩, ⟨(some p24), none, (.e (.mv (.r p7)))⟩, ⟨(some p25), none, (.c (.f 21 [(.r p22), (.r p23), (.r p24)]))⟩, ⟨(some p26), none, (.e (.not (.r p25)))⟩]) (.cond (.r p26) (.seq (.reg [⟨(some p4), none, (.e (.mv (.c .nilp)))⟩, ⟨(some p5), none, (.e (.mv (.c (.bool false))))⟩]) .ret) .skip)) (.reg [⟨(some p7), none, (.e (.mv (.c (.bool false))))⟩]))))) C17_3))))
noncomputable def J17_0 (E : Env) (r0 r1 : DV) (h : H) : Ans :=
  vK (v_bld [(.int .u8 (.ofNat 0)), (.int .u8 (.ofNat 0)), (.int .u8 (.ofNat 0)), (.int .u8 (.ofNat 0)), (.int .u8 (.ofNat 0)), (.int .u8 (.ofNat 0)), (.int .u8 (.ofNat 0)), (.int .u8 (.ofNat 0)), (.int .u8 (.ofNat 0)), (.int .u8 (.ofNat 0)), (.int .u8 (.ofNat 0)), (.int .u8 (.ofNat 0)), (.int .u8 (.ofNat 0)), (.int .u8 (.ofNat 0)), (.int .u8 (.ofNat 0)), (.int .u8 (.ofNat 0)), (.int .u8 (.ofNat 0)), (.int .u8 (.ofNat 0)), (.int .u8 (.ofNat 0)), (.int .u8 (.ofNat 0)), (.int .u8 (.ofNat 0)), (.int .u8 (.ofNat 0)), (.int .u8 (.ofNat 0)), (.int .u8 (.ofNat 0)), (.int .u8 (.ofNat 0)), (.int .u8 (.ofNat 0)), (.int .u8 (.ofNat 0)), (.int .u8 (.ofNat 0)), (.int .u8 (.ofNat 0)), (.int .u8 (.ofNat 0)), (.int .u8 (.ofNat 0)), (.int .u8 (.ofNat 0)), (.int .u8 (.ofNat 0)), (.int .u8 (.ofNat 0)), (.int .u8 (.ofNat 0)), (.int .u8 (.ofNat 0)), (.int .u8 (.ofNat 0)), (.int .u8 (.ofNat 0)), (.int .u8 (.ofNat 0)), (.int .u8 (.ofNat 0)), (.int .u8 (.ofNat 0)), (.int .u8 (.ofNat 0)), (.int .u8 (.ofNat 0)), (.int .u8 (.ofNat 0)), (.int .u8 (.ofNat 0)), (.int .u8 (.ofNat 0)), (.int .u8 (.ofNat 0)), (.int .u8 (.ofNat 0)), (.int .u8 (.ofNat 0)), (.int .u8 (.ofNat 0)), (.int .u8 (.ofNat 0)), (.int .u8 (.ofNat 0)), (.int .u8 (.ofNat 0)), (.int .u8 (.ofNat 0)), (.int .u8 (.ofNat 0)), (.int .u8 (.ofNat 0)), (.int .u8 (.ofNat 0)), (.int .u8 (.ofNat 0)), (.int .u8 (.ofNat 0)), (.int .u8 (.ofNat 0)), (.int .u8 (.ofNat 0)), (.int .u8 (.ofNat 0)), (.int .u8 (.ofNat 0)), (.int .u8 (.ofNat 0)), (.int .u8 (.ofNat 0)), (.int .u8 (.ofNat 0)), (.int .u8 (.ofNat 0)), (.int .u8 (.ofNat 0)), (.int .u8 (.ofNat 0)), (.int .u8 (.ofNat 0)), (.int .u8 (.ofNat 0)), (.int .u8 (.ofNat 0)), (.int .u8 (.ofNat 0)), (.int .u8 (.ofNat 0)), (.int .u8 (.ofNat 0)), (.int .u8 (.ofNat 0)), (.int .u8 (.ofNat 0)), (.int .u8 (.ofNat 0)), (.int .u8 (.ofNat 0)), (.int .u8 (.ofNat 0)), (.int .u8 (.ofNat 0)), (.int .u8 (.ofNat 0)), (.int .u8 (.ofNat 0)), (.int .u8 (.ofNat 0)), (.int .u8 (.ofNat 0)), (.int .u8 (.ofNat 0)), (.int .u8 (.ofNat 0)), (.int .u8 (.ofNat 0)), (.int .u8 (.ofNat 0)), (.int .u8 (.ofNat 0)), (.int .u8 (.ofNat 0)), (.int .u8 (.ofNat 0)), (.int .u8 (.ofNat 0)), (.int .u8 (.ofNat 0)), (.int .u8 (.ofNat 0)), (.int .u8 (.ofNat 0)), (.int .u8 (.ofNat 0)), (.int .u8 (.ofNat 0)), (.int .u8 (.ofNat 0)), (.int .u8 (.ofNat 0)), (.int .u8 (.ofNat 0)), (.int .u8 (.ofNat 0)), (.int .u8 (.ofNat 0)), (.int .u8 (.ofNat 0)), (.int .u8 (.ofNat 0)), (.int .u8 (.ofNat 0)), (.int .u8 (.ofNat 0)), (.int .u8 (.ofNat 0)), (.int .u8 (.ofNat 0)), (.int .u8 (.ofNat 0)), (.int .u8 (.ofNat 0)), (.int .u8 (.ofNat 0)), (.int .u8 (.ofNat 0)), (.int .u8 (.ofNat 0)), (.int .u8 (.ofNat 0)), (.int .u8 (.ofNat 0)), (.int .u8 (.ofNat 0)), (.int .u8 (.ofNat 0)), (.int .u8 (.ofNat 0)), (.int .u8 (.ofNat 0)), (.int .u8 (.ofNat 0)), (.int .u8 (.ofNat 0)), (.int .u8 (.ofNat 0)), (.int .u8 (.ofNat 0)), (.int .u8 (.ofNat 0)), (.int .u8 (.ofNat 0)), (.int .u8 (.ofNat 0)), (.int .u8 (.ofNat 0)), (.int .u8 (.ofNat 0)), (.int .u8 (.ofNat 0)), (.int .u8 (.ofNat 0)), (.int .u8 (.ofNat 0)), (.int .u8 (.ofNat 0)), (.int .u8 (.ofNat 0)), (.int .u8 (.ofNat 0)), (.int .u8 (.ofNat 0)), (.int .u8 (.ofNat 0)), (.int .u8 (.ofNat 0)), (.int .u8 (.ofNat 0)), (.int .u8 (.ofNat 0)), (.int .u8 (.ofNat 0)), (.int .u8 (.ofNat 0)), (.int .u8 (.ofNat 0)), (.int .u8 (.ofNat 0)), (.int .u8 (.ofNat 0)), (.int .u8 (.ofNat 0)), (.int .u8 (.ofNat 0)), (.int .u8 (.ofNat 0)), (.int .u8 (.ofNat 0)), (.int .u8 (.ofNat 0)), (.int .u8 (.ofNat 0)), (.int .u8 (.ofNat 0)), (.int .u8 (.ofNat 0)), (.int .u8 (.ofNat 0)), (.int .u8 (.ofNat 0)), (.int .u8 (.ofNat 0)), (.int .u8 (.ofNat 0)), (.int .u8 (.ofNat 0)), (.int .u8 (.ofNat 0)), (.int .u8 (.ofNat 0)), (.int .u8 (.ofNat 0)), (.int .u8 (.ofNat 0)), (.int .u8 (.ofNat 0)), (.int .u8 (.ofNat 0)), (.int .u8 (.ofNat 0)), (.int .u8 (.ofNat 0)), (.int .u8 (.ofNat 0)), (.int .u8 (.ofNat 0)), (.int .u8 (.ofNat 0)), (.int .u8 (.ofNat 0)), (.int .u8 (.ofNat 0)), (.int .u8 (.ofNat 0)), (.int .u8 (.ofNat 0)), (.int .u8 (.ofNat 0)), (.int .u8 (.ofNat 0)), (.int .u8 (.ofNat 0)), (.int .u8 (.ofNat 0)), (.int .u8 (.ofNat 0)), (.int .u8 (.ofNat 0)), (.int .u8 (.ofNat 0)), (.int .u8 (.ofNat 0)), (.int .u8 (.ofNat 0)), (.int .u8 (.ofNat 0)), (.int .u8 (.ofNat 0)), (.int .u8 (.ofNat 0)), (.int .u8 (.ofNat 0)), (.int .u8 (.ofNat 0)), (.int .u8 (.ofNat 0)), (.int .u8 (.ofNat 0)), (.int .u8 (.ofNat 0)), (.int .u8 (.ofNat 0)), (.int .u8 (.ofNat 0)), (.int .u8 (.ofNat 0)), (.int .u8 (.ofNat 0)), (.int .u8 (.ofNat 0)), (.int .u8 (.ofNat 0)), (.int .u8 (.ofNat 0)), (.int .u8 (.ofNat 0)), (.int .u8 (.ofNat 0)), (.int .u8 (.ofNat 0)), (.int .u8 (.ofNat 0)), (.int .u8 (.ofNat 0)), (.int .u8 (.ofNat 0)), (.int .u8 (.ofNat 0)), (.int .u8 (.ofNat 0)), (.int .u8 (.ofNat 0)), (.int .u8 (.ofNat 0)), (.int .u8 (.ofNat 0)), (.int .u8 (.ofNat 0)), (.int .u8 (.ofNat 0)), (.int .u8 (.ofNat 0)), (.int .u8 (.ofNat 0)), (.int .u8 (.ofNat 0)), (.int .u8 (.ofNat 0)), (.int .u8 (.ofNat 0)), (.int .u8 (.ofNat 0)), (.int .u8 (.ofNat 0)), (.int .u8 (.ofNat 0)), (.int .u8 (.ofNat 0)), (.int .u8 (.ofNat 0)), (.int .u8 (.ofNat 0)), (.int .u8 (.ofNat 0)), (.int .u8 (.ofNat 0)), (.int .u8 (.ofNat 0)), (.int .u8 (.ofNat 0)), (.int .u8 (.ofNat 0)), (.int .u8 (.ofNat 0)), (.int .u8 (.ofNat 0)), (.int .u8 (.ofNat 0)), (.int .u8 (.ofNat 0)), (.int .u8 (.ofNat 0)), (.int .u8 (.ofNat 0)), (.int .u8 (.ofNat 0)), (.int .u8 (.ofNat 0)), (.int .u8 (.ofNat 0)), (.int .u8 (.ofNat 0)), (.int .u8 (.ofNat 0)), (.int .u8 (.ofNat 0)), (.int .u8 (.ofNat 0)), (.int .u8 (.ofNat 0)), (.int .u8 (.ofNat 0)), (.int .u8 (.ofNat 0)), (.int .u8 (.ofNat 0)), (.int .u8 (.ofNat 0)), (.int .u8 (.ofNat 0)), (.int .u8 (.ofNat 0)), (.int .u8 (.ofNat 0)), (.int .u8 (.ofNat 0)), (.int .u8 (.ofNat 0)), (.int .u8 (.ofNat 0)), (.int .u8 (.ofNat 0)), (.int .u8 (.ofNat 0)), (.int .u8 (.ofNat 0)), (.int .u8 (.ofNat 0)), (.int .u8 (.ofNat 0)), (.int .u8 (.ofNat 0)), (.int .u8 (.ofNat 0)), (.int .u8 (.ofNat 0)), (.int .u8 (.ofNat 0)), (.int .u8 (.ofNat 0)), (.int .u8 (.ofNat 0)), (.int .u8 (.ofNat 0)), (.int .u8 (.ofNat 0)), (.int .u8 (.ofNat 0)), (.int .u8 (.ofNat 0)), (.int .u8 (.ofNat 0)), (.int .u8 (.ofNat 0)), (.int .u8 (.ofNat 0)), (.int .u8 (.ofNat 0)), (.int .u8 (.ofNat 0)), (.int .u8 (.ofNat 0)), (.int .u8 (.ofNat 0)), (.int .u8 (.ofNat 0)), (.int .u8 (.ofNat 0)), (.int .u8 (.ofNat 0)), (.int .u8 (.ofNat 0)), (.int .u8 (.ofNat 0)), (.int .u8 (.ofNat 0)), (.int .u8 (.ofNat 0)), (.int .u8 (.ofNat 0)), (.int .u8 (.ofNat 0)), (.int .u8 (.ofNat 0)), (.int .u8 (.ofNat 0)), (.int .u8 (.ofNat 0)), (.int .u8 (.ofNat 0)), (.int .u8 (.ofNat 0)), (.int .u8 (.ofNat 0)), (.int .u8 (.ofNat 0)), (.int .u8 (.ofNat 0)), (.int .u8 (.ofNat 0)), (.int .u8 (.ofNat 0)), (.int .u8 (.ofNat 0)), (.int .u8 (.ofNat 0)), (.int .u8 (.ofNat 0)), (.int .u8 (.ofNat 0)), (.int .u8 (.ofNat 0)), (.int .u8 (.ofNat 0)), (.int .u8 (.ofNat 0)), (.int .u8 (.ofNat 0)), (.int .u8 (.ofNat 0)), (.int .u8 (.ofNat 0)), (.int .u8 (.ofNat 0)), (.int .u8 (.ofNat 0)), (.int .u8 (.ofNat 0)), (.int .u8 (.ofNat 0)), (.int .u8 (.ofNat 0)), (.int .u8 (.ofNat 0)), (.int .u8 (.ofNat 0)), (.int .u8 (.ofNat 0)), (.int .u8 (.ofNat 0)), (.int .u8 (.ofNat 0)), (.int .u8 (.ofNat 0)), (.int .u8 (.ofNat 0)), (.int .u8 (.ofNat 0)), (.int .u8 (.ofNat 0)), (.int .u8 (.ofNat 0)), (.int .u8 (.ofNat 0)), (.int .u8 (.ofNat 0)), (.int .u8 (.ofNat 0)), (.int .u8 (.ofNat 0)), (.int .u8 (.ofNat 0)), (.int .u8 (.ofNat 0)), (.int .u8 (.ofNat 0)), (.int .u8 (.ofNat 0)), (.int .u8 (.ofNat 0)), (.int .u8 (.ofNat 0)), (.int .u8 (.ofNat 0)), (.int .u8 (.ofNat 0)), (.int .u8 (.ofNat 0)), (.int .u8 (.ofNat 0)), (.int .u8 (.ofNat 0)), (.int .u8 (.ofNat 0)), (.int .u8 (.ofNat 0)), (.int .u8 (.ofNat 0)), (.int .u8 (.ofNat 0)), (.int .u8 (.ofNat 0)), (.int .u8 (.ofNat 0)), (.int .u8 (.ofNat 0)), (.int .u8 (.ofNat 0)), (.int .u8 (.ofNat 0)), (.int .u8 (.ofNat 0)), (.int .u8 (.ofNat 0)), (.int .u8 (.ofNat 0)), (.int .u8 (.ofNat 0)), (.int .u8 (.ofNat 0)), (.int .u8 (.ofNat 0)), (.int .u8 (.ofNat 0)), (.int .u8 (.ofNat 0)), (.int .u8 (.ofNat 0)), (.int .u8 (.ofNat 0)), (.int .u8 (.ofNat 0)), (.int .u8 (.ofNat 0)), (.int .u8 (.ofNat 0)), (.int .u8 (.ofNat 0)), (.int .u8 (.ofNat 0)), (.int .u8 (.ofNat 0)), (.int .u8 (.ofNat 0)), (.int .u8 (.ofNat 0)), (.int .u8 (.ofNat 0)), (.int .u8 (.ofNat 0)), (.int .u8 (.ofNat 0)), (.int .u8 (.ofNat 0)), (.int .u8 (.ofNat 0)), (.int .u8 (.ofNat 0)), (.int .u8 (.ofNat 0)), (.int .u8 (.ofNat 0)), (.int .u8 (.ofNat 0)), (.int .u8 (.ofNat 0)), (.int .u8 (.ofNat 0)), (.int .u8 (.ofNat 0)), (.int .u8 (.ofNat 0)), (.int .u8 (.ofNat 0)), (.int .u8 (.ofNat 0)), (.int .u8 (.ofNat 0)), (.int .u8 (.ofNat 0)), (.int .u8 (.ofNat 0)), (.int .u8 (.ofNat 0)), (.int .u8 (.ofNat 0)), (.int .u8 (.ofNat 0)), (.int .u8 (.ofNat 0)), (.int .u8 (.ofNat 0)), (.int .u8 (.ofNat 0)), (.int .u8 (.ofNat 0)), (.int .u8 (.ofNat 0)), (.int .u8 (.ofNat 0)), (.int .u8 (.ofNat 0)), (.int .u8 (.ofNat 0)), (.int .u8 (.ofNat 0)), (.int .u8 (.ofNat 0)), (.int .u8 (.ofNat 0)), (.int .u8 (.ofNat 0)), (.int .u8 (.ofNat 0)), (.int .u8 (.ofNat 0)), (.int .u8 (.ofNat 0)), (.int .u8 (.ofNat 0)), (.int .u8 (.ofNat 0)), (.int .u8 (.ofNat 0)), (.int .u8 (.ofNat 0)), (.int .u8 (.ofNat 0)), (.int .u8 (.ofNat 0)), (.int .u8 (.ofNat 0)), (.int .u8 (.ofNat 0)), (.int .u8 (.ofNat 0)), (.int .u8 (.ofNat 0)), (.int .u8 (.ofNat 0)), (.int .u8 (.ofNat 0)), (.int .u8 (.ofNat 0)), (.int .u8 (.ofNat 0)), (.int .u8 (.ofNat 0)), (.int .u8 (.ofNat 0)), (.int .u8 (.ofNat 0)), (.int .u8 (.ofNat 0)), (.int .u8 (.ofNat 0)), (.int .u8 (.ofNat 0)), (.int .u8 (.ofNat 0)), (.int .u8 (.ofNat 0)), (.int .u8 (.ofNat 0)), (.int .u8 (.ofNat 0)), (.int .u8 (.ofNat 0)), (.int .u8 (.ofNat 0)), (.int .u8 (.ofNat 0)), (.int .u8 (.ofNat 0)), (.int .u8 (.ofNat 0)), (.int .u8 (.ofNat 0)), (.int .u8 (.ofNat 0)), (.int .u8 (.ofNat 0)), (.int .u8 (.ofNat 0)), (.int .u8 (.ofNat 0)), (.int .u8 (.ofNat 0)), (.int .u8 (.ofNat 0)), (.int .u8 (.ofNat 0)), (.int .u8 (.ofNat 0)), (.int .u8 (.ofNat 0)), (.int .u8 (.ofNat 0)), (.int .u8 (.ofNat 0)), (.int .u8 (.ofNat 0)), (.int .u8 (.ofNat 0)), (.int .u8 (.ofNat 0)), (.int .u8 (.ofNat 0)), (.int .u8 (.ofNat 0)), (.int .u8 (.ofNat 0)), (.int .u8 (.ofNat 0)), (.int .u8 (.ofNat 0)), (.int .u8 (.ofNat 0)), (.int .u8 (.ofNat 0)), (.int .u8 (.ofNat 0)), (.int .u8 (.ofNat 0)), (.int .u8 (.ofNat 0)), (.int .u8 (.ofNat 0)), (.int .u8 (.ofNat 0)), (.int .u8 (.ofNat 0)), (.int .u8 (.ofNat 0)), (.int .u8 (.ofNat 0)), (.int .u8 (.ofNat 0)), (.int .u8 (.ofNat 0)), (.int .u8 (.ofNat 0)), (.int .u8 (.ofNat 0)), (.int .u8 (.ofNat 0)), (.int .u8 (.ofNat 0)), (.int .u8 (.ofNat 0)), (.int .u8 (.ofNat 0)), (.int .u8 (.ofNat 0)), (.int .u8 (.ofNat 0)), (.int .u8 (.ofNat 0)), (.int .u8 (.ofNat 0)), (.int .u8 (.ofNat 0)), (.int .u8 (.ofNat 0)), (.int .u8 (.ofNat 0)), (.int .u8 (.ofNat 0)), (.int .u8 (.ofNat 0)), (.int .u8 (.ofNat 0)), (.int .u8 (.ofNat 0)), (.int .u8 (.ofNat 0)), (.int .u8 (.ofNat 0)), (.int .u8 (.ofNat 0)), (.int .u8 (.ofNat 0)), (.int .u8 (.ofNat 0)), (.int .u8 (.ofNat 0)), (.int .u8 (.ofNat 0)), (.int .u8 (.ofNat 0)), (.int .u8 (.ofNat 0)), (.int .u8 (.ofNat 0)), (.int .u8 (.ofNat 0)), (.int .u8 (.ofNat 0)), (.int .u8 (.ofNat 0)), (.int .u8 (.ofNat 0)), (.int .u8 (.ofNat 0)), (.int .u8 (.ofNat 0)), (.int .u8 (.ofNat 0)), (.int .u8 (.ofNat 0)), (.int .u8 (.ofNat 0)), (.int .u8 (.ofNat 0)), (.int .u8 (.ofNat 0)), (.int .u8 (.ofNat 0)), (.int .u8 (.ofNat 0)), (.int .u8 (.ofNat 0)), (.int .u8 (.ofNat 0)), (.int .u8 (.ofNat 0)), (.int .u8 (.ofNat 0)), (.int .u8 (.ofNat 0)), (.int .u8 (.ofNat 0)), (.int .u8 (.ofNat 0)), (.int .u8 (.ofNat 0)), (.int .u8 (.ofNat 0)), (.int .u8 (.ofNat 0)), (.int .u8 (.ofNat 0)), (.int .u8 (.ofNat 0)), (.int .u8 (.ofNat 0)), (.int .u8 (.ofNat 0)), (.int .u8 (.ofNat 0)), (.int .u8 (.ofNat 0)), (.int .u8 (.ofNat 0)), (.int .i64 (.ofNat 0))] []) fun x1 =>
  n_box x1 h fun x2 h3 =>
  vK (v_lenL r0) fun x4 =>
  L17_2 E r1 x2 r0 x4 FUEL (.bool true) (.int .i64 (.ofNat 0)) h3
def C17_0 : DC := (.seq (.reg [⟨(some p4), none, (.e (.mv (.c .nilp)))⟩, ⟨(some p5), none, (.e (.mv (.c (.bool false))))⟩]) (.seq (.reg [⟨(some p10), none, (.e (.bld [(.int .u8 (.ofNat 0)), (.int .u8 (.ofNat 0)), (.int .u8 (.ofNat 0)), (.int .u8 (.ofNat 0)), (.int .u8 (.ofNat 0)), (.int .u8 (.ofNat 0)), (.int .u8 (.ofNat 0)), (.int .u8 (.ofNat 0)), (.int .u8 (.ofNat 0)), (.int .u8 (.ofNat 0)), (.int .u8 (.ofNat 0)), (.int .u8 (.ofNat 0)), (.int .u8 (.ofNat 0)), (.int .u8 (.ofNat 0)), (.int .u8 (.ofNat 0)), (.int .u8 (.ofNat 0)), (.int .u8 (.ofNat 0)), (.int .u8 (.ofNat 0)), (.int .u8 (.ofNat 0)), (.int .u8 (.ofNat 0)), (.int .u8 (.ofNat 0)), (.int .u8 (.ofNat 0)), (.int .u8 (.ofNat 0)), (.int .u8 (.ofNat 0)), (.int .u8 (.ofNat 0)), (.int .u8 (.ofNat 0)), (.int .u8 (.ofNat 0)), (.int .u8 (.ofNat 0)), (.int .u8 (.ofNat 0)), (.int .u8 (.ofNat 0)), (.int .u8 (.ofNat 0)), (.int .u8 (.ofNat 0)), (.int .u8 (.ofNat 0)), (.int .u8 (.ofNat 0)), (.int .u8 (.ofNat 0)), (.int .u8 (.ofNat 0)), (.int .u8 (.ofNat 0)), (.int .u8 (.ofNat 0)), (.int .u8 (.ofNat 0)), (.int .u8 (.ofNat 0)), (.int .u8 (.ofNat 0)), (.int .u8 (.ofNat 0)), (.int .u8 (.ofNat 0)), (.int .u8 (.ofNat 0)), (.int .u8 (.ofNat 0)), (.int .u8 (.ofNat 0)), (.int .u8 (.ofNat 0)), (.int .u8 (.ofNat 0)), (.int .u8 (.ofNat 0)), (.int .u8 (.ofNat 0)), (.int .u8 (.ofNat 0)), (.int .u8 (.ofNat 0)), (.int .u8 (.ofNat 0)), (.int .u8 (.ofNat 0)), (.int .u8 (.ofNat 0)), (.int .u8 (.ofNat 0)), (.int .u8 (.ofNat 0)), (.int .u8 (.ofNat 0)), (.int .u8 (.ofNat 0)), (.int .u8 (.ofNat 0)), (.int .u8 (.ofNat 0)), (.int .u8 (.ofNat 0)), (.int .u8 (.ofNat 0)), (.int .u8 (.ofNat 0)), (.int .u8 (.ofNat 0)), (.int .u8 (.ofNat 0)), (.int .u8 (.ofNat 0)), (.int .u8 (.ofNat 0)), (.int .u8 (.ofNat 0)), (.int .u8 (.ofNat 0)), (.int .u8 (.ofNat 0)), (.int .u8 (.ofNat 0)), (.int .u8 (.ofNat 0)), (.int .u8 (.ofNat 0)), (.int .u8 (.ofNat 0)), (.int .u8 (.ofNat 0)), (.int .u8 (.ofNat 0)), (.int .u8 (.ofNat 0)), (.int .u8 (.ofNat 0)), (.int .u8 (.ofNat 0)), (.int .u8 (.ofNat 0)), (.int .u8 (.ofNat 0)), (.int .u8 (.ofNat 0)), (.int .u8 (.ofNat 0)), (.int .u8 (.ofNat 0)), (.int .u8 (.ofNat 0)), (.int .u8 (.ofNat 0)), (.int .u8 (.ofNat 0)), (.int .u8 (.ofNat 0)), (.int .u8 (.ofNat 0)), (.int .u8 (.ofNat 0)), (.int .u8 (.ofNat 0)), (.int .u8 (.ofNat 0)), (.int .u8 (.ofNat 0)), (.int .u8 (.ofNat 0)), (.int .u8 (.ofNat 0)), (.int .u8 (.ofNat 0)), (.int .u8 (.ofNat 0)), (.int .u8 (.ofNat 0)), (.int .u8 (.ofNat 0)), (.int .u8 (.ofNat 0)), (.int .u8 (.ofNat 0)), (.int .u8 (.ofNat 0)), (.int .u8 (.ofNat 0)), (.int .u8 (.ofNat 0)), (.int .u8 (.ofNat 0)), (.int .u8 (.ofNat 0)), (.int .u8 (.ofNat 0)), (.int .u8 (.ofNat 0)), (.int .u8 (.ofNat 0)), (.int .u8 (.ofNat 0)), (.int .u8 (.ofNat 0)), (.int .u8 (.ofNat 0)), (.int .u8 (.ofNat 0)), (.int .u8 (.ofNat 0)), (.int .u8 (.ofNat 0)), (.int .u8 (.ofNat 0)), (.int .u8 (.ofNat 0)), (.int .u8 (.ofNat 0)), (.int .u8 (.ofNat 0)), (.int .u8 (.ofNat 0)), (.int .u8 (.ofNat 0)), (.int .u8 (.ofNat 0)), (.int .u8 (.ofNat 0)), (.int .u8 (.ofNat 0)), (.int .u8 (.ofNat 0)), (.int .u8 (.ofNat 0)), (.int .u8 (.ofNat 0)), (.int .u8 (.ofNat 0)), (.int .u8 (.ofNat 0)), (.int .u8 (.ofNat 0)), (.int .u8 (.ofNat 0)), (.int .u8 (.ofNat 0)), (.int .u8 (.ofNat 0)), (.int .u8 (.ofNat 0)), (.int .u8 (.ofNat 0)), (.int .u8 (.ofNat 0)), (.int .u8 (.ofNat 0)), (.int .u8 (.ofNat 0)), (.int .u8 (.ofNat 0)), (.int .u8 (.ofNat 0)), (.int .u8 (.ofNat 0)), (.int .u8 (.ofNat 0)), (.int .u8 (.ofNat 0)), (.int .u8 (.ofNat 0)), (.int .u8 (.ofNat 0)), (.int .u8 (.ofNat 0)), (.int .u8 (.ofNat 0)), (.int .u8 (.ofNat 0)), (.int .u8 (.ofNat 0)), (.int .u8 (.ofNat 0)), (.int .u8 (.ofNat 0)), (.int .u8 (.ofNat 0)), (.int .u8 (.ofNat 0)), (.int .u8 (.ofNat 0)), (.int .u8 (.ofNat 0)), (.int .u8 (.ofNat 0)), (.int .u8 (.ofNat 0)), (.int .u8 (.ofNat 0)), (.int .u8 (.ofNat 0)), (.int .u8 (.ofNat 0)), (.int .u8 (.ofNat 0)), (.int .u8 (.ofNat 0)), (.int .u8 (.ofNat 0)), (.int .u8 (.ofNat 0)), (.int .u8 (.ofNat 0)), (.int .u8 (.ofNat 0)), (.int .u8 (.ofNat 0)), (.int .u8 (.ofNat 0)), (.int .u8 (.ofNat 0)), (.int .u8 (.ofNat 0)), (.int .u8 (.ofNat 0)), (.int .u8 (.ofNat 0)), (.int .u8 (.ofNat 0)), (.int .u8 (.ofNat 0)), (.int .u8 (.ofNat 0)), (.int .u8 (.ofNat 0)), (.int .u8 (.ofNat 0)), (.int .u8 (.ofNat 0)), (.int .u8 (.ofNat 0)), (.int .u8 (.ofNat 0)), (.int .u8 (.ofNat 0)), (.int .u8 (.ofNat 0)), (.int .u8 (.ofNat 0)), (.int .u8 (.ofNat 0)), (.int .u8 (.ofNat 0)), (.int .u8 (.ofNat 0)), (.int .u8 (.ofNat 0)), (.int .u8 (.ofNat 0)), (.int .u8 (.ofNat 0)), (.int .u8 (.ofNat 0)), (.int .u8 (.ofNat 0)), (.int .u8 (.ofNat 0)), (.int .u8 (.ofNat 0)), (.int .u8 (.ofNat 0)), (.int .u8 (.ofNat 0)), (.int .u8 (.ofNat 0)), (.int .u8 (.ofNat 0)), (.int .u8 (.ofNat 0)), (.int .u8 (.ofNat 0)), (.int .u8 (.ofNat 0)), (.int .u8 (.ofNat 0)), (.int .u8 (.ofNat 0)), (.int .u8 (.ofNat 0)), (.int .u8 (.ofNat 0)), (.int .u8 (.ofNat 0)), (.int .u8 (.ofNat 0)), (.int .u8 (.ofNat 0)), (.int .u8 (.ofNat 0)), (.int .u8 (.ofNat 0)), (.int .u8 (.ofNat 0)), (.int .u8 (.ofNat 0)), (.int .u8 (.ofNat 0)), (.int .u8 (.ofNat 0)), (.int .u8 (.ofNat 0)), (.int .u8 (.ofNat 0)), (.int .u8 (.ofNat 0)), (.int .u8 (.ofNat 0)), (.int .u8 (.ofNat 0)), (.int .u8 (.ofNat 0)), (.int .u8 (.ofNat 0)), (.int .u8 (.ofNat 0)), (.int .u8 (.ofNat 0)), (.int .u8 (.ofNat 0)), (.int .u8 (.ofNat 0)), (.int .u8 (.ofNat 0)), (.int .u8 (.ofNat 0)), (.int .u8 (.ofNat 0)), (.int .u8 (.ofNat 0)), (.int .u8 (.ofNat 0)), (.int .u8 (.ofNat 0)), (.int .u8 (.ofNat 0)), (.int .u8 (.ofNat 0)), (.int .u8 (.ofNat 0)), (.int .u8 (.ofNat 0)), (.int .u8 (.ofNat 0)), (.int .u8 (.ofNat 0)), (.int .u8 (.ofNat 0)), (.int .u8 (.ofNat 0)), (.int .u8 (.ofNat 0)), (.int .u8 (.ofNat 0)), (.int .u8 (.ofNat 0)), (.int .u8 (.ofNat 0)), (.int .u8 (.ofNat 0)), (.int .u8 (.ofNat 0)), (.int .u8 (.ofNat 0)), (.int .u8 (.ofNat 0)), (.int .u8 (.ofNat 0)), (.int .u8 (.ofNat 0)), (.int .u8 (.ofNat 0)), (.int .u8 (.ofNat 0)), (.int .u8 (.ofNat 0)), (.int .u8 (.ofNat 0)), (.int .u8 (.ofNat 0)), (.int .u8 (.ofNat 0)), (.int .u8 (.ofNat 0)), (.int .u8 (.ofNat 0)), (.int .u8 (.ofNat 0)), (.int .u8 (.ofNat 0)), (.int .u8 (.ofNat 0)), (.int .u8 (.ofNat 0)), (.int .u8 (.ofNat 0)), (.int .u8 (.ofNat 0)), (.int .u8 (.ofNat 0)), (.int .u8 (.ofNat 0)), (.int .u8 (.ofNat 0)), (.int .u8 (.ofNat 0)), (.int .u8 (.ofNat 0)), (.int .u8 (.ofNat 0)), (.int .u8 (.ofNat 0)), (.int .u8 (.ofNat 0)), (.int .u8 (.ofNat 0)), (.int .u8 (.ofNat 0)), (.int .u8 (.ofNat 0)), (.int .u8 (.ofNat 0)), (.int .u8 (.ofNat 0)), (.int .u8 (.ofNat 0)), (.int .u8 (.ofNat 0)), (.int .u8 (.ofNat 0)), (.int .u8 (.ofNat 0)), (.int .u8 (.ofNat 0)), (.int .u8 (.ofNat 0)), (.int .u8 (.ofNat 0)), (.int .u8 (.ofNat 0)), (.int .u8 (.ofNat 0)), (.int .u8 (.ofNat 0)), (.int .u8 (.ofNat 0)), (.int .u8 (.ofNat 0)), (.int .u8 (.ofNat 0)), (.int .u8 (.ofNat 0)), (.int .u8 (.ofNat 0)), (.int .u8 (.ofNat 0)), (.int .u8 (.ofNat 0)), (.int .u8 (.ofNat 0)), (.int .u8 (.ofNat 0)), (.int .u8 (.ofNat 0)), (.int .u8 (.ofNat 0)), (.int .u8 (.ofNat 0)), (.int .u8 (.ofNat 0)), (.int .u8 (.ofNat 0)), (.int .u8 (.ofNat 0)), (.int .u8 (.ofNat 0)), (.int .u8 (.ofNat 0)), (.int .u8 (.ofNat 0)), (.int .u8 (.ofNat 0)), (.int .u8 (.ofNat 0)), (.int .u8 (.ofNat 0)), (.int .u8 (.ofNat 0)), (.int .u8 (.ofNat 0)), (.int .u8 (.ofNat 0)), (.int .u8 (.ofNat 0)), (.int .u8 (.ofNat 0)), (.int .u8 (.ofNat 0)), (.int .u8 (.ofNat 0)), (.int .u8 (.ofNat 0)), (.int .u8 (.ofNat 0)), (.int .u8 (.ofNat 0)), (.int .u8 (.ofNat 0)), (.int .u8 (.ofNat 0)), (.int .u8 (.ofNat 0)), (.int .u8 (.ofNat 0)), (.int .u8 (.ofNat 0)), (.int .u8 (.ofNat 0)), (.int .u8 (.ofNat 0)), (.int .u8 (.ofNat 0)), (.int .u8 (.ofNat 0)), (.int .u8 (.ofNat 0)), (.int .u8 (.ofNat 0)), (.int .u8 (.ofNat 0)), (.int .u8 (.ofNat 0)), (.int .u8 (.ofNat 0)), (.int .u8 (.ofNat 0)), (.int .u8 (.ofNat 0)), (.int .u8 (.ofNat 0)), (.int .u8 (.ofNat 0)), (.int .u8 (.ofNat 0)), (.int .u8 (.ofNat 0)), (.int .u8 (.ofNat 0)), (.int .u8 (.ofNat 0)), (.int .u8 (.ofNat 0)), (.int .u8 (.ofNat 0)), (.int .u8 (.ofNat 0)), (.int .u8 (.ofNat 0)), (.int .u8 (.ofNat 0)), (.int .u8 (.ofNat 0)), (.int .u8 (.ofNat 0)), (.int .u8 (.ofNat 0)), (.int .u8 (.ofNat 0)), (.int .u8 (.ofNat 0)), (.int .u8 (.ofNat 0)), (.int .u8 (.ofNat 0)), (.int .u8 (.ofNat 0)), (.int .u8 (.ofNat 0)), (.int .u8 (.ofNat 0)), (.int .u8 (.ofNat 0)), (.int .u8 (.ofNat 0)), (.int .u8 (.ofNat 0)), (.int .u8 (.ofNat 0)), (.int .u8 (.ofNat 0)), (.int .u8 (.ofNat 0)), (.int .u8 (.ofNat 0)), (.int .u8 (.ofNat 0)), (.int .u8 (.ofNat 0)), (.int .u8 (.ofNat 0)), (.int .u8 (.ofNat 0)), (.int .u8 (.ofNat 0)), (.int .u8 (.ofNat 0)), (.int .u8 (.ofNat 0)), (.int .u8 (.ofNat 0)), (.int .u8 (.ofNat 0)), (.int .u8 (.ofNat 0)), (.int .u8 (.ofNat 0)), (.int .u8 (.ofNat 0)), (.int .u8 (.ofNat 0)), (.int .u8 (.ofNat 0)), (.int .u8 (.ofNat 0)), (.int .u8 (.ofNat 0)), (.int .u8 (.ofNat 0)), (.int .u8 (.ofNat 0)), (.int .u8 (.ofNat 0)), (.int .u8 (.ofNat 0)), (.int .u8 (.ofNat 0)), (.int .u8 (.ofNat 0)), (.int .u8 (.ofNat 0)), (.int .u8 (.ofNat 0)), (.int .u8 (.ofNat 0)), (.int .u8 (.ofNat 0)), (.int .u8 (.ofNat 0)), (.int .u8 (.ofNat 0)), (.int .u8 (.ofNat 0)), (.int .u8 (.ofNat 0)), (.int .u8 (.ofNat 0)), (.int .u8 (.ofNat 0)), (.int .u8 (.ofNat 0)), (.int .u8 (.ofNat 0)), (.int .u8 (.ofNat 0)), (.int .u8 (.ofNat 0)), (.int .u8 (.ofNat 0)), (.int .u8 (.ofNat 0)), (.int .u8 (.ofNat 0)), (.int .u8 (.ofNat 0)), (.int .u8 (.ofNat 0)), (.int .u8 (.ofNat 0)), (.int .u8 (.ofNat 0)), (.int .u8 (.ofNat 0)), (.int .u8 (.ofNat 0)), (.int .u8 (.ofNat 0)), (.int .u8 (.ofNat 0)), (.int .u8 (.ofNat 0)), (.int .u8 (.ofNat 0)), (.int .u8 (.ofNat 0)), (.int .u8 (.ofNat 0)), (.int .u8 (.ofNat 0)), (.int .u8 (.ofNat 0)), (.int .u8 (.ofNat 0)), (.int .u8 (.ofNat 0)), (.int .u8 (.ofNat 0)), (.int .u8 (.ofNat 0)), (.int .u8 (.ofNat 0)), (.int .u8 (.ofNat 0)), (.int .u8 (.ofNat 0)), (.int .u8 (.ofNat 0)), (.int .u8 (.ofNat 0)), (.int .u8 (.ofNat 0)), (.int .u8 (.ofNat 0)), (.int .u8 (.ofNat 0)), (.int .u8 (.ofNat 0)), (.int .u8 (.ofNat 0)), (.int .u8 (.ofNat 0)), (.int .u8 (.ofNat 0)), (.int .u8 (.ofNat 0)), (.int .u8 (.ofNat 0)), (.int .u8 (.ofNat 0)), (.int .u8 (.ofNat 0)), (.int .u8 (.ofNat 0)), (.int .u8 (.ofNat 0)), (.int .u8 (.ofNat 0)), (.int .u8 (.ofNat 0)), (.int .u8 (.ofNat 0)), (.int .u8 (.ofNat 0)), (.int .u8 (.ofNat 0)), (.int .u8 (.ofNat 0)), (.int .u8 (.ofNat 0)), (.int .u8 (.ofNat 0)), (.int .u8 (.ofNat 0)), (.int .u8 (.ofNat 0)), (.int .u8 (.ofNat 0)), (.int .u8 (.ofNat 0)), (.int .u8 (.ofNat 0)), (.int .u8 (.ofNat 0)), (.int .u8 (.ofNat 0)), (.int .u8 (.ofNat 0)), (.int .u8 (.ofNat 0)), (.int .u8 (.ofNat 0)), (.int .u8 (.ofNat 0)), (.int .u8 (.ofNat 0)), (.int .u8 (.ofNat 0)), (.int .u8 (.ofNat 0)), (.int .u8 (.ofNat 0)), (.int .u8 (.ofNat 0)), (.int .u8 (.ofNat 0)), (.int .u8 (.ofNat 0)), (.int .u8 (.ofNat 0)), (.int .u8 (.ofNat 0)), (.int .u8 (.ofNat 0)), (.int .u8 (.ofNat 0)), (.int .u8 (.ofNat 0)), (.int .u8 (.ofNat 0)), (.int .u8 (.ofNat 0)), (.int .u8 (.ofNat 0)), (.int .u8 (.ofNat 0)), (.int .u8 (.ofNat 0)), (.int .u8 (.ofNat 0)), (.int .u8 (.ofNat 0)), (.int .u8 (.ofNat 0)), (.int .u8 (.ofNat 0)), (.int .u8 (.ofNat 0)), (.int .u8 (.ofNat 0)), (.int .u8 (.ofNat 0)), (.int .u8 (.ofNat 0)), (.int .u8 (.ofNat 0)), (.int .u8 (.ofNat 0)), (.int .u8 (.ofNat 0)), (.int .u8 (.ofNat 0)), (.int .u8 (.ofNat 0)), (.int .u8 (.ofNat 0)), (.int .u8 (.ofNat 0)), (.int .u8 (.ofNat 0)), (.int .u8 (.ofNat 0)), (.int .u8 (.ofNat 0)), (.int .u8 (.ofNat 0)), (.int .u8 (.ofNat 0)), (.int .u8 (.ofNat 0)), (.int .u8 (.ofNat 0)), (.int .u8 (.ofNat 0)), (.int .u8 (.ofNat 0)), (.int .u8 (.ofNat 0)), (.int .u8 (.ofNat 0)), (.int .u8 (.ofNat 0)), (.int .u8 (.ofNat 0)), (.int .u8 (.ofNat 0)), (.int .u8 (.ofNat 0)), (.int .u8 (.ofNat 0)), (.int .u8 (.ofNat 0)), (.int .u8 (.ofNat 0)), (.int .u8 (.ofNat 0)), (.int .u8 (.ofNat 0)), (.int .u8 (.ofNat 0)), (.int .u8 (.ofNat 0)), (.int .u8 (.ofNat 0)), (.int .u8 (.ofNat 0)), (.int .u8 (.ofNat 0)), (.int .i64 (.ofNat 0))] []))⟩, ⟨(some p11), none, (.e (.box (.r p10)))⟩, ⟨(some p6), none, (.e (.mv (.r p11)))⟩, ⟨(some p7), none, (.e (.mv (.c (.bool true))))⟩]) (.seq (.seq (.reg [⟨(some p12), none, (.e (.mv (.r p0)))⟩, ⟨(some p13), none, (.e (.lenL (.r p12)))⟩, ⟨(some p14), none, (.e (.mv (.c (.int .i64 (.ofNat 0)))))⟩]) (.block 0 C17_2)) C17_1)))
theorem I17_1 (E : Env) : Is E C17_1 (retK3 R17) (fun σ h => J17_1 E (σ p6) h) :=
  fun σ h => by kernel_rfl
noncomputable abbrev K17_4 (E : Env) : KT2 (DV × H) := (thenK3 (fun σ h => J17_1 E (σ p6) h) (retK3 R17))
noncomputable abbrev K17_5 (E : Env) (n2 : Nat) : KT2 (DV × H) := (thenK3 (fun σ h => (L17_2 E (σ p1) (σ p6) (σ p12) (σ p13) n2) (σ p7) (σ p14) h) (blockK3 0 (K17_4 E)))
theorem I17_3 (E : Env) (n2 : Nat) : Is E C17_3 (K17_5 E n2) (fun σ h => J17_3 E (L17_2 E (σ p1) (σ p6) (σ p12) (σ p13) n2) (σ p7) (σ p14) h) :=
  fun σ h => by kernel_rfl
theorem I17_2 (E : Env) : Is E C17_2 (blockK3 0 (K17_4 E)) (fun σ h => L17_2 E (σ p1) (σ p6) (σ p12) (σ p13) FUEL (σ p7) (σ p14) h) :=
  Is.loop (fun n2 σ h => L17_2 E (σ p1) (σ p6) (σ p12) (σ p13) n2 (σ p7) (σ p14) h) (by kernel_rfl) fun n2 => Is.as (Is.seq (Is.seq (Is.seq (I17_3 E n2) (Is.leaf _)) (Is.leaf _)) (Is.leaf _)) fun σ h => by kernel_rfl
theorem I17_0 (E : Env) : Is E C17_0 (retK3 R17) (fun σ h => J17_0 E (σ p0) (σ p1) h) :=
  Is.as (Is.seq (Is.seq (Is.seq (I17_1 E) (Is.seq (Is.block (I17_2 E)) (Is.leaf _))) (Is.leaf _)) (Is.leaf _)) fun σ h => by kernel_rfl
def D17 : DF := ⟨2, 29, C17_0, R17⟩
noncomputable def S17 (E : Env) : Fun := fun args h => aS args fun r0 args => aS args fun r1 args => a0 args (J17_0 E r0 r1 h)
theorem S17_eq (E : Env) (args : List DV) (h : H) : runFn E D17 args h = S17 E args h :=
  Is.fn2 (d := D17) (I17_0 E) rfl (fun r0 r1 h => J17_0 E r0 r1 h) (fun r0 r1 h => by kernel_rfl) args h
/- (*hurdle/parity.sum).text -/
def R18 : List RV := [(.r p2)]
noncomputable def J18_0 (E : Env) (r0 : DV) (h : H) : Ans :=
  vK (v_nilchk r0) fun x1 =>
  vK (v_fa 0 x1) fun x2 =>
  vK (v_nilchk r0) fun x3 =>
  vK (v_fa 512 x3) fun x4 =>
  vK (v_ld h.get x4) fun x5 =>
  vK (v_slA 512 1 x2 none (some x5)) fun x6 =>
  vK (v_b2s h.get x6) fun x7 =>
  some (x7, h)
def C18_0 : DC := (.seq (.reg [⟨(some p2), none, (.e (.mv (.c (.str []))))⟩]) (.seq (.drg [⟨0, ⟨(some p3), none, (.e (.mv (.r p0)))⟩, [], false⟩, ⟨1, ⟨(some p4), none, (.e (.nilchk (.r p3)))⟩, [], false⟩, ⟨2, ⟨(some p5), none, (.e (.fa 0 (.r p4)))⟩, [], false⟩, ⟨3, ⟨(some p6), none, (.e (.mv (.r p0)))⟩, [], false⟩, ⟨4, ⟨(some p7), none, (.e (.nilchk (.r p6)))⟩, [], false⟩, ⟨5, ⟨(some p8), none, (.e (.fa 512 (.r p7)))⟩, [], false⟩, ⟨6, ⟨(some p9), none, (.e (.ld (.r p8)))⟩, [], false⟩, ⟨7, ⟨(some p10), none, (.e (.slA 512 1 (.r p5) none (some (.r p9))))⟩, [], false⟩, ⟨8, ⟨(some p11), none, (.e (.b2s (.r p10)))⟩, [], false⟩, ⟨9, ⟨(some p2), none, (.e (.mv (.r p11)))⟩, [], false⟩]) .ret))
theorem I18_0 (E : Env) : Is E C18_0 (retK3 R18) (fun σ h => J18_0 E (σ p0) h) :=
  fun σ h => by kernel_rfl
def D18 : DF := ⟨1, 12, C18_0, R18⟩
noncomputable def S18 (E : Env) : Fun := fun args h => aS args fun r0 args => a0 args (J18_0 E r0 h)
theorem S18_eq (E : Env) (args : List DV) (h : H) : runFn E D18 args h = S18 E args h :=
  Is.fn1 (d := D18) (I18_0 E) rfl (fun r0 h => J18_0 E r0 h) (fun r0 h => by kernel_rfl) args h
/- hurdle/bytes.Sum -/
def R19 : List RV := [(.r p2)]
noncomputable def J19_3 (E : Env) (r6 : DV) (h : H) : Ans :=
  vK (v_b2s h.get r6) fun x1 =>
  some (x1, h)
def C19_3 : DC := (.seq (.reg [⟨(some p32), none, (.e (.mv (.r p6)))⟩, ⟨(some p33), none, (.e (.b2s (.r p32)))⟩, ⟨(some p2), none, (.e (.mv (.r p33)))⟩]) .ret)
noncomputable def B19_4 (E : Env) (r6 r22 r23 : DV) (i4 : DV → H → Ans) (r24 : DV) (h : H) : Ans :=
  vK (v_lss r24 r23) fun x1 =>
  bK x1
  (vK (v_iaS 1 r22 r24) fun x2 =>
  vK (v_ld h.get x2) fun x3 =>
  wK (callK E 22 [r6, x3] h) fun x4 h5 =>
  vK (v_add r24 (.int .i64 (.ofNat 1))) fun x6 =>
  i4 x6 h5)
  (J19_3 E r6 h)
noncomputable def L19_4 (E : Env) (r6 r22 r23 : DV) (n : Nat) : DV → H → Ans := Nat.rec (motive := fun _ => DV → H → Ans) (fun _ _ => none) (fun _ i => B19_4 E r6 r22 r23 i) n
def C19_4 : DC := (.loop (.seq (.reg [⟨(some p25), none, (.e (.bin .lss (.r p24) (.r p23)))⟩]) (.seq (.cond (.r p25) .skip (.exit 2)) (.seq (.block 3 (.seq (.reg [⟨(some p26), none, (.e (.iaS 1 (.r p22) (.r p24)))⟩, ⟨(some p27), none, (.e (.ld (.r p26)))⟩, ⟨(some p8), none, (.e (.mv (.r p27)))⟩]) (.reg [⟨(some p28), none, (.e (.mv (.r p6)))⟩, ⟨(some p29), none, (.e (.mv (.r p8)))⟩, ⟨(some p30), none, (.c (.f 22 [(.r p28), (.r p29)]))⟩]))) (.reg [⟨(some p31), none, (.e (.bin .add (.r p24) (.c (.int .i64 (.ofNat 1)))))⟩, ⟨(some p24), none, (.e (.mv (.r p31)))⟩])))))
noncomputable def J19_1 (E : Env) (r0 r3 : DV) (h : H) : Ans :=
  n_mks 1 1 (.int .u8 (.ofNat 0)) r3 r3 h fun x1 h2 =>
  vK (v_lenL r0) fun x3 =>
  L19_4 E x1 r0 x3 FUEL (.int .i64 (.ofNat 0)) h2
def C19_1 : DC := (.seq (.reg [⟨(some p20), none, (.e (.mv (.r p3)))⟩, ⟨(some p21), none, (.e (.mks 1 1 (.int .u8 (.ofNat 0)) (.r p20) (.r p20)))⟩, ⟨(some p6), none, (.e (.mv (.r p21)))⟩]) (.seq (.seq (.reg [⟨(some p22), none, (.e (.mv (.r p0)))⟩, ⟨(some p23), none, (.e (.lenL (.r p22)))⟩, ⟨(some p24), none, (.e (.mv (.c (.int .i64 (.ofNat 0)))))⟩]) (.block 2 C19_4)) C19_3))
noncomputable def B19_2 (E : Env) (r0 r9 r10 : DV) (i2 : DV → DV → H → Ans) (r3 r11 : DV) (h : H) : Ans :=
  vK (v_lss r11 r10) fun x1 =>
  bK x1
  (vK (v_iaS 1 r9 r11) fun x2 =>
  vK (v_ld h.get x2) fun x3 =>
  vK (v_lenS x3) fun x4 =>
  vK (v_mx r3 x4) fun x5 =>
  vK (v_add r11 (.int .i64 (.ofNat 1))) fun x6 =>
  i2 x5 x6 h)
  (J19_1 E r0 r3 h)
noncomputable def L19_2 (E : Env) (r0 r9 r10 : DV) (n : Nat) : DV → DV → H → Ans := Nat.rec (motive := fun _ => DV → DV → H → Ans) (fun _ _ _ => none) (fun _ i => B19_2 E r0 r9 r10 i) n
def C19_2 : DC := (.loop (.seq (.reg [⟨(some p12), none, (.e (.bin .lss (.r p11) (.r p10)))⟩]) (.seq (.cond (.r p12) .skip (.exit 0)) (.seq (.block 1 (.seq (.reg [⟨(some p13), none, (.e (.iaS 1 (.r p9) (.r p11)))⟩, ⟨(some p14), none, (.e (.ld (.r p13)))⟩, ⟨(some p5), none, (.e (.mv (.r p14)))⟩]) (.reg [⟨(some p15), none, (.e (.mv (.r p3)))⟩, ⟨(some p16), none, (.e (.mv (.r p5)))⟩, ⟨(some p17), none, (.e (.lenS (.r p16)))⟩, ⟨(some p18), none, (.e (.mx (.r p15) (.r p17)))⟩, ⟨(some p3), none, (.e (.mv (.r p18)))⟩]))) (.reg [⟨(some p19), none, (.e (.bin .add (.r p11) (.c (.int .i64 (.ofNat 1)))))⟩, ⟨(some p11), none, (.e (.mv (.r p19)))⟩])))))
noncomputable def J19_0 (E : Env) (r0 : DV) (h : H) : Ans :=
  vK (v_lenL r0) fun x1 =>
  L19_2 E r0 r0 x1 FUEL (.int .i64 (.ofNat 0)) (.int .i64 (.ofNat 0)) h
def C19_0 : DC := (.seq (.reg [⟨(some p2), none, (.e (.mv (.c (.str []))))⟩]) (.seq (.reg [⟨(some p3), none, (.e (.mv (.c (.int .i64 (.ofNat 0)))))⟩]) (.seq (.seq (.reg [⟨(some p9), none, (.e (.mv (.r p0)))⟩, ⟨(some p10), none, (.e (.lenL (.r p9)))⟩, ⟨(some p11), none, (.e (.mv (.c (.int .i64 (.ofNat 0)))))⟩]) (.block 0 C19_2)) C19_1)))
theorem I19_3 (E : Env) : Is E C19_3 (retK3 R19) (fun σ h => J19_3 E (σ p6) h) :=
  fun σ h => by kernel_rfl
noncomputable abbrev K19_5 (E : Env) : KT2 (DV × H) := (thenK3 (fun σ h => J19_3 E (σ p6) h) (retK3 R19))
theorem I19_4 (E : Env) : Is E C19_4 (blockK3 2 (K19_5 E)) (fun σ h => L19_4 E (σ p6) (σ p22) (σ p23) FUEL (σ p24) h) :=
  Is.loop (fun n4 σ h => L19_4 E (σ p6) (σ p22) (σ p23) n4 (σ p24) h) (by kernel_rfl) fun n4 => Is.as (Is.leaf _) fun σ h => by kernel_rfl
theorem I19_1 (E : Env) : Is E C19_1 (retK3 R19) (fun σ h => J19_1 E (σ p0) (σ p3) h) :=
  Is.as (Is.seq (Is.seq (I19_3 E) (Is.seq (Is.block (I19_4 E)) (Is.leaf _))) (Is.leaf _)) fun σ h => by kernel_rfl
noncomputable abbrev K19_6 (E : Env) : KT2 (DV × H) := (thenK3 (fun σ h => J19_1 E (σ p0) (σ p3) h) (retK3 R19))
theorem I19_2 (E : Env) : Is E C19_2 (blockK3 0 (K19_6 E)) (fun σ h => L19_2 E (σ p0) (σ p9) (σ p10) FUEL (σ p3) (σ p11) h) :=
  Is.loop (fun n2 σ h => L19_2 E (σ p0) (σ p9) (σ p10) n2 (σ p3) (σ p11) h) (by kernel_rfl) fun n2 => Is.as (Is.leaf _) fun σ h => by kernel_rfl
theorem I19_0 (E : Env) : Is E C19_0 (retK3 R19) (fun σ h => J19_0 E (σ p0) h) :=
  Is.as (Is.seq (Is.seq (Is.seq (I19_1 E) (Is.seq (Is.block (I19_2 E)) (Is.leaf _))) (Is.leaf _)) (Is.leaf _)) fun σ h => by kernel_rfl
def D19 : DF := ⟨1, 34, C19_0, R19⟩
noncomputable def S19 (E : Env) : Fun := fun args h => aS args fun r0 args => a0 args (J19_0 E r0 h)
theorem S19_eq (E : Env) (args : List DV) (h : H) : runFn E D19 args h = S19 E args h :=
  Is.fn1 (d := D19) (I19_0 E) rfl (fun r0 h => J19_0 E r0 h) (fun r0 h => by kernel_rfl) args h
/- hurdle/bytes.zeros -/
def R20 : List RV := [(.r p2)]
noncomputable def J20_0 (E : Env) (r0 : DV) (h : H) : Ans :=
  wK (callK E 23 [(.str [0]), r0] h) fun x1 h2 =>
  some (x1, h2)
def C20_0 : DC := (.seq (.reg [⟨(some p2), none, (.e (.mv (.c (.str []))))⟩]) (.seq (.reg [⟨(some p3), none, (.e (.mv (.r p0)))⟩, ⟨(some p4), none, (.c (.f 23 [(.c (.str [0])), (.r p3)]))⟩, ⟨(some p2), none, (.e (.mv (.r p4)))⟩]) .ret))
theorem I20_0 (E : Env) : Is E C20_0 (retK3 R20) (fun σ h => J20_0 E (σ p0) h) :=
  fun σ h => by kernel_rfl
def D20 : DF := ⟨1, 5, C20_0, R20⟩
noncomputable def S20 (E : Env) : Fun := fun args h => aS args fun r0 args => a0 args (J20_0 E r0 h)
theorem S20_eq (E : Env) (args : List DV) (h : H) : runFn E D20 args h = S20 E args h :=
  Is.fn1 (d := D20) (I20_0 E) rfl (fun r0 h => J20_0 E r0 h) (fun r0 h => by kernel_rfl) args h
/- (*hurdle/parity.sum).add -/
def R21 : List RV := [(.r p6)]
noncomputable def J21_1 (E : Env) (h : H) : Ans :=
  some ((.bool true), h)
def C21_1 : DC := (.seq (.reg [⟨(some p6), none, (.e (.mv (.c (.bool true))))⟩]) .ret)
noncomputable def B21_2 (E : Env) (r0 r1 r32 : DV) (i2 : DV → H → Ans) (r33 : DV) (h : H) : Ans :=
  vK (v_lss r33 r32) fun x1 =>
  bK x1
  (vK (v_nilchk r0) fun x2 =>
  vK (v_fa 0 x2) fun x3 =>
  vK (v_iaA 512 1 x3 r33) fun x4 =>
  vK (v_ld h.get x4) fun x5 =>
  vK (v_ixS r1 r33) fun x6 =>
  vK (v_xor x5 x6) fun x7 =>
  vK (v_nilchk r0) fun x8 =>
  vK (v_fa 0 x8) fun x9 =>
  vK (v_iaA 512 1 x9 r33) fun x10 =>
  wK (dStF 1 x10 x7 h) fun x11 h12 =>
  vK (v_add r33 (.int .i64 (.ofNat 1))) fun x13 =>
  i2 x13 h12)
  (J21_1 E h)
noncomputable def L21_2 (E : Env) (r0 r1 r32 : DV) (n : Nat) : DV → H → Ans := Nat.rec (motive := fun _ => DV → H → Ans) (fun _ _ => none) (fun _ i => B21_2 E r0 r1 r32 i) n
def C21_2 : DC := (.loop (.seq (.reg [⟨(some p34), none, (.e (.bin .lss (.r p33) (.r p32)))⟩]) (.seq (.cond (.r p34) .skip (.exit 0)) (.seq (.block 1 (.seq (.reg [⟨(some p35), none, (.e (.mv (.r p33)))⟩, ⟨(some p7), none, (.e (.mv (.r p35)))⟩]) (.drg [⟨0, ⟨(some p36), none, (.e (.mv (.r p0)))⟩, [], false⟩, ⟨1, ⟨(some p37), none, (.e (.mv (.r p7)))⟩, [], false⟩, ⟨2, ⟨(some p38), none, (.e (.nilchk (.r p36)))⟩, [], false⟩, ⟨3, ⟨(some p39), none, (.e (.fa 0 (.r p38)))⟩, [], false⟩, ⟨4, ⟨(some p40), none, (.e (.iaA 512 1 (.r p39) (.r p37)))⟩, [], false⟩, ⟨5, ⟨(some p41), none, (.e (.ld (.r p40)))⟩, [], false⟩, ⟨6, ⟨(some p42), none, (.e (.mv (.r p1)))⟩, [], false⟩, ⟨7, ⟨(some p43), none, (.e (.mv (.r p7)))⟩, [], false⟩, ⟨8, ⟨(some p44), none, (.e (.ixS (.r p42) (.r p43)))⟩, [], false⟩, ⟨9, ⟨(some p45), none, (.e (.bin .xor (.r p41) (.r p44)))⟩, [], false⟩, ⟨10, ⟨(some p46), none, (.e (.nilchk (.r p36)))⟩, [], false⟩, ⟨11, ⟨(some p47), none, (.e (.fa 0 (.r p46)))⟩, [], false⟩, ⟨12, ⟨(some p48), none, (.e (.iaA 512 1 (.r p47) (.r p37)))⟩, [], false⟩, ⟨13, ⟨none, none, (.w (.st 1 (.r p48) (.r p45)))⟩, [], false⟩]))) (.reg [⟨(some p49), none, (.e (.bin .add (.r p33) (.c (.int .i64 (.ofNat 1)))))⟩, ⟨(some p33), none, (.e (.mv (.r p49)))⟩])))))
noncomputable def J21_0 (E : Env) (r0 r1 r2 : DV) (h : H) : Ans :=
  vK (v_lenS r1) fun x1 =>
  vK (v_gtr x1 (.int .i64 (.ofNat 512))) fun x2 =>
  gdK x2 false (fun kk => kk r2 h) h fun x3 h4 =>
  gdK x2 false (fun kk => vK (v_not x3) fun v => kk v h4) h4 fun x5 h6 =>
  gdK x2 false (fun kk => kk x5 h6) h6 fun x7 h8 =>
  gdK x7 true (fun kk => kk r1 h8) h8 fun x9 h10 =>
  gdK x7 true (fun kk => vK (v_lenS x9) fun v => kk v h10) h10 fun x11 h12 =>
  gdK x7 true (fun kk => kk r0 h12) h12 fun x13 h14 =>
  gdK x7 true (fun kk => vK (v_nilchk x13) fun v => kk v h14) h14 fun x15 h16 =>
  gdK x7 true (fun kk => vK (v_fa 512 x15) fun v => kk v h16) h16 fun x17 h18 =>
  gdK x7 true (fun kk => vK (v_ld h18.get x17) fun v => kk v h18) h18 fun x19 h20 =>
  gdK x7 true (fun kk => vK (v_neq x11 x19) fun v => kk v h20) h20 fun x21 h22 =>
  gdK x2 false (fun kk => vK (v_pick x7 x21 (.bool false)) fun v => kk v h22) h22 fun x23 h24 =>
  vK (v_pick x2 (.bool true) x23) fun x25 =>
  bK x25
  (some ((.bool false), h24))
  (vK (v_lenS r1) fun x26 =>
  vK (v_nilchk r0) fun x27 =>
  vK (v_fa 512 x27) fun x28 =>
  wK (dStF 1 x28 x26 h24) fun x29 h30 =>
  vK (v_nilchk r0) fun x31 =>
  vK (v_fa 512 x31) fun x32 =>
  vK (v_ld h30.get x32) fun x33 =>
  L21_2 E r0 r1 x33 FUEL (.int .i64 (.ofNat 0)) h30)
def C21_0 : DC := (.seq (.reg [⟨(some p6), none, (.e (.mv (.c (.bool false))))⟩]) (.seq (.seq (.reg [⟨(some p8), none, (.e (.mv (.r p1)))⟩, ⟨(some p9), none, (.e (.lenS (.r p8)))⟩, ⟨(some p10), none, (.e (.bin .gtr (.r p9) (.c (.int .i64 (.ofNat 512)))))⟩, ⟨(some p11), none, (.e (.mv (.r p10)))⟩, ⟨(some p12), (some (p11, false)), (.e (.mv (.r p2)))⟩, ⟨(some p13), (some (p11, false)), (.e (.not (.r p12)))⟩, ⟨(some p14), (some (p11, false)), (.e (.mv (.r p13)))⟩, ⟨(some p15), (some (p14, true)), (.e (.mv (.r p1)))⟩, ⟨(some p16), (some (p14, true)), (.e (.lenS (.r p15)))⟩, ⟨(some p17), (some (p14, true)), (.e (.mv (.r p0)))⟩, ⟨(some p18), (some (p14, true)), (.e (.nilchk (.r p17)))⟩, ⟨(some p19), (some (p14, true)), (.e (.fa 512 (.r p18)))⟩, ⟨(some p20), (some (p14, true)), (.e (.ld (.r p19)))⟩, ⟨(some p21), (some (p14, true)), (.e (.bin .neq (.r p16) (.r p20)))⟩, ⟨(some p22), (some (p11, false)), (.e (.pick (.r p14) (.r p21) (.c (.bool false))))⟩, ⟨(some p23), none, (.e (.pick (.r p11) (.c (.bool true)) (.r p22)))⟩]) (.cond (.r p23) (.seq (.reg [⟨(some p6), none, (.e (.mv (.c (.bool false))))⟩]) .ret) .skip)) (.seq (.reg [⟨(some p24), none, (.e (.mv (.r p0)))⟩, ⟨(some p25), none, (.e (.mv (.r p1)))⟩, ⟨(some p26), none, (.e (.lenS (.r p25)))⟩, ⟨(some p27), none, (.e (.nilchk (.r p24)))⟩, ⟨(some p28), none, (.e (.fa 512 (.r p27)))⟩, ⟨none, none, (.w (.st 1 (.r p28) (.r p26)))⟩]) (.seq (.seq (.reg [⟨(some p29), none, (.e (.mv (.r p0)))⟩, ⟨(some p30), none, (.e (.nilchk (.r p29)))⟩, ⟨(some p31), none, (.e (.fa 512 (.r p30)))⟩, ⟨(some p32), none, (.e (.ld (.r p31)))⟩, ⟨(some p33), none, (.e (.mv (.c (.int .i64 (.ofNat 0)))))⟩]) (.block 0 C21_2)) C21_1))))
theorem I21_1 (E : Env) : Is E C21_1 (retK3 R21) (fun σ h => J21_1 E h) :=
  fun σ h => by kernel_rfl
noncomputable abbrev K21_3 (E : Env) : KT2 (DV × H) := (blockK3 0 (thenK3 (fun σ h => J21_1 E h) (retK3 R21)))
theorem I21_2 (E : Env) : Is E C21_2 (K21_3 E) (fun σ h => L21_2 E (σ p0) (σ p1) (σ p32) FUEL (σ p33) h) :=
  Is.loop (fun n2 σ h => L21_2 E (σ p0) (σ p1) (σ p32) n2 (σ p33) h) (by kernel_rfl) fun n2 => Is.as (Is.leaf _) fun σ h => by kernel_rfl
theorem I21_0 (E : Env) : Is E C21_0 (retK3 R21) (fun σ h => J21_0 E (σ p0) (σ p1) (σ p2) h) :=
  Is.as (Is.seq (Is.seq (Is.seq (Is.seq (I21_1 E) (Is.seq (Is.block (I21_2 E)) (Is.leaf _))) (Is.leaf _)) (Is.leaf _)) (Is.leaf _)) fun σ h => by kernel_rfl
def D21 : DF := ⟨3, 50, C21_0, R21⟩
noncomputable def S21 (E : Env) : Fun := fun args h => aS args fun r0 args => aS args fun r1 args => aS args fun r2 args => a0 args (J21_0 E r0 r1 r2 h)
theorem S21_eq (E : Env) (args : List DV) (h : H) : runFn E D21 args h = S21 E args h :=
  Is.fn3 (d := D21) (I21_0 E) rfl (fun r0 r1 r2 h => J21_0 E r0 r1 r2 h) (fun r0 r1 r2 h => by kernel_rfl) args h
/- hurdle/bytes.into -/
def R22 : List RV := []
noncomputable def B22_1 (E : Env) (r0 r1 r6 : DV) (i1 : DV → H → Ans) (r7 : DV) (h : H) : Ans :=
  vK (v_lss r7 r6) fun x1 =>
  bK x1
  (vK (v_iaS 1 r0 r7) fun x2 =>
  vK (v_ld h.get x2) fun x3 =>
  vK (v_ixS r1 r7) fun x4 =>
  vK (v_xor x3 x4) fun x5 =>
  vK (v_iaS 1 r0 r7) fun x6 =>
  wK (dStF 1 x6 x5 h) fun x7 h8 =>
  vK (v_add r7 (.int .i64 (.ofNat 1))) fun x9 =>
  i1 x9 h8)
  (some ((.tup []), h))
noncomputable def L22_1 (E : Env) (r0 r1 r6 : DV) (n : Nat) : DV → H → Ans := Nat.rec (motive := fun _ => DV → H → Ans) (fun _ _ => none) (fun _ i => B22_1 E r0 r1 r6 i) n
def C22_1 : DC := (.loop (.seq (.reg [⟨(some p8), none, (.e (.bin .lss (.r p7) (.r p6)))⟩]) (.seq (.cond (.r p8) .skip (.exit 0)) (.seq (.block 1 (.seq (.reg [⟨(some p9), none, (.e (.mv (.r p7)))⟩, ⟨(some p4), none, (.e (.mv (.r p9)))⟩]) (.drg [⟨0, ⟨(some p10), none, (.e (.mv (.r p0)))⟩, [], false⟩, ⟨1, ⟨(some p11), none, (.e (.mv (.r p4)))⟩, [], false⟩, ⟨2, ⟨(some p12), none, (.e (.iaS 1 (.r p10) (.r p11)))⟩, [], false⟩, ⟨3, ⟨(some p13), none, (.e (.ld (.r p12)))⟩, [], false⟩, ⟨4, ⟨(some p14), none, (.e (.mv (.r p1)))⟩, [], false⟩, ⟨5, ⟨(some p15), none, (.e (.mv (.r p4)))⟩, [], false⟩, ⟨6, ⟨(some p16), none, (.e (.ixS (.r p14) (.r p15)))⟩, [], false⟩, ⟨7, ⟨(some p17), none, (.e (.bin .xor (.r p13) (.r p16)))⟩, [], false⟩, ⟨8, ⟨(some p18), none, (.e (.iaS 1 (.r p10) (.r p11)))⟩, [], false⟩, ⟨9, ⟨none, none, (.w (.st 1 (.r p18) (.r p17)))⟩, [], false⟩]))) (.reg [⟨(some p19), none, (.e (.bin .add (.r p7) (.c (.int .i64 (.ofNat 1)))))⟩, ⟨(some p7), none, (.e (.mv (.r p19)))⟩])))))
noncomputable def J22_0 (E : Env) (r0 r1 : DV) (h : H) : Ans :=
  vK (v_lenS r1) fun x1 =>
  L22_1 E r0 r1 x1 FUEL (.int .i64 (.ofNat 0)) h
def C22_0 : DC := (.seq (.reg [⟨(some p5), none, (.e (.mv (.r p1)))⟩, ⟨(some p6), none, (.e (.lenS (.r p5)))⟩, ⟨(some p7), none, (.e (.mv (.c (.int .i64 (.ofNat 0)))))⟩]) (.block 0 C22_1))
theorem I22_1 (E : Env) : Is E C22_1 (blockK3 0 (retK3 R22)) (fun σ h => L22_1 E (σ p0) (σ p1) (σ p6) FUEL (σ p7) h) :=
  Is.loop (fun n1 σ h => L22_1 E (σ p0) (σ p1) (σ p6) n1 (σ p7) h) (by kernel_rfl) fun n1 => Is.as (Is.leaf _) fun σ h => by kernel_rfl
theorem I22_0 (E : Env) : Is E C22_0 (retK3 R22) (fun σ h => J22_0 E (σ p0) (σ p1) h) :=
  Is.as (Is.seq (Is.block (I22_1 E)) (Is.leaf _)) fun σ h => by kernel_rfl
def D22 : DF := ⟨2, 20, C22_0, R22⟩
noncomputable def S22 (E : Env) : Fun := fun args h => aS args fun r0 args => aS args fun r1 args => a0 args (J22_0 E r0 r1 h)
theorem S22_eq (E : Env) (args : List DV) (h : H) : runFn E D22 args h = S22 E args h :=
  Is.fn2 (d := D22) (I22_0 E) rfl (fun r0 r1 h => J22_0 E r0 r1 h) (fun r0 r1 h => by kernel_rfl) args h
noncomputable def fs0 : List FD := [⟨3, D3, S3⟩, ⟨4, D4, S4⟩, ⟨5, D5, S5⟩, ⟨6, D6, S6⟩, ⟨7, D7, S7⟩, ⟨8, D8, S8⟩, ⟨9, D9, S9⟩, ⟨10, D10, S10⟩, ⟨11, D11, S11⟩, ⟨12, D12, S12⟩, ⟨13, D13, S13⟩, ⟨14, D14, S14⟩, ⟨15, D15, S15⟩, ⟨16, D16, S16⟩, ⟨17, D17, S17⟩, ⟨18, D18, S18⟩, ⟨19, D19, S19⟩, ⟨20, D20, S20⟩, ⟨21, D21, S21⟩, ⟨22, D22, S22⟩]
theorem fs0_eq : AllEq fs0 := ⟨S3_eq, ⟨S4_eq, ⟨S5_eq, ⟨S6_eq, ⟨S7_eq, ⟨S8_eq, ⟨S9_eq, ⟨S10_eq, ⟨S11_eq, ⟨S12_eq, ⟨S13_eq, ⟨S14_eq, ⟨S15_eq, ⟨S16_eq, ⟨S17_eq, ⟨S18_eq, ⟨S19_eq, ⟨S20_eq, ⟨S21_eq, ⟨S22_eq, trivial⟩⟩⟩⟩⟩⟩⟩⟩⟩⟩⟩⟩⟩⟩⟩⟩⟩⟩⟩⟩
end Go.Proofs.Ytgipaebiihefpaa

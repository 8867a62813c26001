/- The functions of the program as D's and as plain Lean functions, and that both are the same. No condition. -/
import Derived.KernelRfl
import Derived.Test.YtjofbahcdfjklaaGreatDc
set_option linter.unusedVariables false
namespace Go.Proofs.YtjofbahcdfjklaaGreat
open Go.DI
def p0 : Pa := .h
def p1 : Pa := .l p0
def p2 : Pa := .r p0
def p3 : Pa := .l p1
def p4 : Pa := .r p1
def p5 : Pa := .l p2
def p6 : Pa := .r p2
def p7 : Pa := .l p3
def p8 : Pa := .r p3
def p9 : Pa := .l p4
def p10 : Pa := .r p4
def p11 : Pa := .l p5
def p12 : Pa := .r p5
def p13 : Pa := .l p6
def p14 : Pa := .r p6
def p15 : Pa := .l p7
def p16 : Pa := .r p7
def p17 : Pa := .l p8
def p18 : Pa := .r p8
def p19 : Pa := .l p9
def p20 : Pa := .r p9
def p21 : Pa := .l p10
def p22 : Pa := .r p10
def p23 : Pa := .l p11
def p24 : Pa := .r p11
def p25 : Pa := .l p12
def p26 : Pa := .r p12
def p27 : Pa := .l p13
def p28 : Pa := .r p13
def p29 : Pa := .l p14
def p30 : Pa := .r p14
def p31 : Pa := .l p15
def p32 : Pa := .r p15
def p33 : Pa := .l p16
def p34 : Pa := .r p16
def p35 : Pa := .l p17
def p36 : Pa := .r p17
def p37 : Pa := .l p18
def p38 : Pa := .r p18
def p39 : Pa := .l p19
def p40 : Pa := .r p19
def p41 : Pa := .l p20
def p42 : Pa := .r p20
def p43 : Pa := .l p21
def p44 : Pa := .r p21
def p45 : Pa := .l p22
def p46 : Pa := .r p22
def p47 : Pa := .l p23
def p48 : Pa := .r p23
def p49 : Pa := .l p24
def p50 : Pa := .r p24
def p51 : Pa := .l p25
def p52 : Pa := .r p25
def p53 : Pa := .l p26
def p54 : Pa := .r p26
def p55 : Pa := .l p27
def p56 : Pa := .r p27
def p57 : Pa := .l p28
def p58 : Pa := .r p28
def p59 : Pa := .l p29
def p60 : Pa := .r p29
def p61 : Pa := .l p30
def p62 : Pa := .r p30
def p63 : Pa := .l p31
def p64 : Pa := .r p31
def p65 : Pa := .l p32
def p66 : Pa := .r p32
def p67 : Pa := .l p33
def p68 : Pa := .r p33
def p69 : Pa := .l p34
def p70 : Pa := .r p34
def p71 : Pa := .l p35
def p72 : Pa := .r p35
def p73 : Pa := .l p36
def p74 : Pa := .r p36
def p75 : Pa := .l p37
def p76 : Pa := .r p37
def p77 : Pa := .l p38
def p78 : Pa := .r p38
def p79 : Pa := .l p39
def p80 : Pa := .r p39
def p81 : Pa := .l p40
def p82 : Pa := .r p40
def p83 : Pa := .l p41
def p84 : Pa := .r p41
def p85 : Pa := .l p42
def p86 : Pa := .r p42
def p87 : Pa := .l p43
def p88 : Pa := .r p43
def p89 : Pa := .l p44
def p90 : Pa := .r p44
def p91 : Pa := .l p45
def p92 : Pa := .r p45
def p93 : Pa := .l p46
def p94 : Pa := .r p46
def p95 : Pa := .l p47
def p96 : Pa := .r p47
def p97 : Pa := .l p48
def p98 : Pa := .r p48
def p99 : Pa := .l p49
def p100 : Pa := .r p49
def p101 : Pa := .l p50
def p102 : Pa := .r p50
def p103 : Pa := .l p51
def p104 : Pa := .r p51
def p105 : Pa := .l p52
def p106 : Pa := .r p52
def p107 : Pa := .l p53
def p108 : Pa := .r p53
def p109 : Pa := .l p54
def p110 : Pa := .r p54
def p111 : Pa := .l p55
def p112 : Pa := .r p55
def p113 : Pa := .l p56
def p114 : Pa := .r p56
def p115 : Pa := .l p57
def p116 : Pa := .r p57
def p117 : Pa := .l p58
def p118 : Pa := .r p58
def p119 : Pa := .l p59
def p120 : Pa := .r p59
def p121 : Pa := .l p60
def p122 : Pa := .r p60
def p123 : Pa := .l p61
def p124 : Pa := .r p61
def p125 : Pa := .l p62
def p126 : Pa := .r p62
def p127 : Pa := .l p63
def p128 : Pa := .r p63
def p129 : Pa := .l p64
def p130 : Pa := .r p64
/- hurdle/hurdlelaw34.ReaderNone -/
def R3 : List RV := [(.r p2)]
noncomputable def J3_0 (E : Env) (r0 : DV) (h : H) : Ans :=
  n_box r0 h fun x1 h2 =>
  vK (v_fa 0 x1) fun x3 =>
  vK (v_ld h2.get x3) fun x4 =>
  wK (callK E 6 [.nilp, x4] h2) fun x5 h6 =>
  vK (v_ext 0 x5) fun x7 =>
  vK (v_ext 1 x5) fun x8 =>
  vK (v_fa 0 x1) fun x9 =>
  vK (v_ld h6.get x9) fun x10 =>
  vK (v_fa 1 x1) fun x11 =>
  vK (v_ld h6.get x11) fun x12 =>
  vK (v_fa 2 x1) fun x13 =>
  vK (v_ld h6.get x13) fun x14 =>
  wK (callK E 7 [.nilp, x10, x12, x14] h6) fun x15 h16 =>
  vK (v_ext 0 x15) fun x17 =>
  vK (v_ext 1 x15) fun x18 =>
  vK (v_ext 2 x15) fun x19 =>
  vK (v_eql x7 (.str [])) fun x20 =>
  gdK x20 true (fun kk => kk x8 h16) h16 fun x21 h22 =>
  gdK x20 true (fun kk => vK (v_eql x21 (.int .i64 (.ofNat 1))) fun v => kk v h22) h22 fun x23 h24 =>
  vK (v_pick x20 x23 (.bool false)) fun x25 =>
  gdK x25 true (fun kk => kk x17 h24) h24 fun x26 h27 =>
  gdK x25 true (fun kk => vK (v_eql x26 (.str [])) fun v => kk v h27) h27 fun x28 h29 =>
  vK (v_pick x25 x28 (.bool false)) fun x30 =>
  gdK x30 true (fun kk => kk x18 h29) h29 fun x31 h32 =>
  gdK x30 true (fun kk => vK (v_eql x31 (.int .i64 (.ofNat 0))) fun v => kk v h32) h32 fun x33 h34 =>
  vK (v_pick x30 x33 (.bool false)) fun x35 =>
  gdK x35 true (fun kk => kk x19 h34) h34 fun x36 h37 =>
  gdK x35 true (fun kk => vK (v_eql x36 (.int .i64 (.ofNat 1))) fun v => kk v h37) h37 fun x38 h39 =>
  vK (v_pick x35 x38 (.bool false)) fun x40 =>
  gdK x40 true (fun kk => vK (v_fa 0 x1) fun v => kk v h39) h39 fun x41 h42 =>
  gdK x40 true (fun kk => vK (v_ld h42.get x41) fun v => kk v h42) h42 fun x43 h44 =>
  gdK x40 true (fun kk => wK (callK E 8 [.nilp, x43] h44) kk) h44 fun x45 h46 =>
  gdK x40 true (fun kk => vK (v_lenL x45) fun v => kk v h46) h46 fun x47 h48 =>
  gdK x40 true (fun kk => vK (v_eql x47 (.int .i64 (.ofNat 0))) fun v => kk v h48) h48 fun x49 h50 =>
  vK (v_pick x40 x49 (.bool false)) fun x51 =>
  gdK x51 true (fun kk => vK (v_fa 0 x1) fun v => kk v h50) h50 fun x52 h53 =>
  gdK x51 true (fun kk => vK (v_ld h53.get x52) fun v => kk v h53) h53 fun x54 h55 =>
  gdK x51 true (fun kk => wK (callK E 9 [.nilp, x54] h55) kk) h55 fun x56 h57 =>
  gdK x51 true (fun kk => vK (v_eql x56 (.int .i64 (.ofNat 1))) fun v => kk v h57) h57 fun x58 h59 =>
  vK (v_pick x51 x58 (.bool false)) fun x60 =>
  gdK x60 true (fun kk => wK (callK E 10 [] h59) kk) h59 fun x61 h62 =>
  vK (v_pick x60 x61 (.bool false)) fun x63 =>
  some (x63, h62)
def C3_0 : DC := (.seq (.reg [⟨(some p1), none, (.e (.box (.r p0)))⟩, ⟨(some p2), none, (.e (.mv (.c (.bool false))))⟩]) (.seq (.reg [⟨(some p9), none, (.e (.fa 0 (.r p1)))⟩, ⟨(some p10), none, (.e (.ld (.r p9)))⟩, ⟨(some p11), none, (.c (.f 6 [(.c .nilp), (.r p10)]))⟩, ⟨(some p8), none, (.e (.mv (.r p11)))⟩, ⟨(some p12), none, (.e (.ext 0 (.r p8)))⟩, ⟨(some p13), none, (.e (.ext 1 (.r p8)))⟩, ⟨(some p3), none, (.e (.mv (.r p12)))⟩, ⟨(some p4), none, (.e (.mv (.r p13)))⟩]) (.seq (.reg [⟨(some p15), none, (.e (.fa 0 (.r p1)))⟩, ⟨(some p16), none, (.e (.ld (.r p15)))⟩, ⟨(some p17), none, (.e (.fa 1 (.r p1)))⟩, ⟨(some p18), none, (.e (.ld (.r p17)))⟩, ⟨(some p19), none, (.e (.fa 2 (.r p1)))⟩, ⟨(some p20), none, (.e (.ld (.r p19)))⟩, ⟨(some p21), none, (.c (.f 7 [(.c .nilp), (.r p16), (.r p18), (.r p20)]))⟩, ⟨(some p14), none, (.e (.mv (.r p21)))⟩, ⟨(some p22), none, (.e (.ext 0 (.r p14)))⟩, ⟨(some p23), none, (.e (.ext 1 (.r p14)))⟩, ⟨(some p24), none, (.e (.ext 2 (.r p14)))⟩, ⟨(some p5), none, (.e (.mv (.r p22)))⟩, ⟨(some p6), none, (.e (.mv (.r p23)))⟩, ⟨(some p7), none, (.e (.mv (.r p24)))⟩]) (.seq (.reg [⟨(some p25), none, (.e (.mv (.r p3)))⟩, ⟨(some p26), none, (.e (.bin .eql (.r p25) (.c (.str []))))⟩, ⟨(some p27), none, (.e (.mv (.r p26)))⟩, ⟨(some p28), (some (p27, true)), (.e (.mv (.r p4)))⟩, ⟨(some p29), (some (p27, true)), (.e (.bin .eql (.r p28) (.c (.int .i64 (.ofNat 1)))))⟩, ⟨(some p30), none, (.e (.pick (.r p27) (.r p29) (.c (.bool false))))⟩, ⟨(some p31), none, (.e (.mv (.r p30)))⟩, ⟨(some p32), (some (p31, true)), (.e (.mv (.r p5)))⟩, ⟨(some p33), (some (p31, true)), (.e (.bin .eql (.r p32) (.c (.str []))))⟩, ⟨(some p34), none, (.e (.pick (.r p31) (.r p33) (.c (.bool false))))⟩, ⟨(some p35), none, (.e (.mv (.r p34)))⟩, ⟨(some p36), (some (p35, true)), (.e (.mv (.r p6)))⟩, ⟨(some p37), (some (p35, true)), (.e (.bin .eql (.r p36) (.c (.int .i64 (.ofNat 0)))))⟩, ⟨(some p38), none, (.e (.pick (.r p35) (.r p37) (.c (.bool false))))⟩, ⟨(some p39), none, (.e (.mv (.r p38)))⟩, ⟨(some p40), (some (p39, true)), (.e (.mv (.r p7)))⟩, ⟨(some p41), (some (p39, true)), (.e (.bin .eql (.r p40) (.c (.int .i64 (.ofNat 1)))))⟩, ⟨(some p42), none, (.e (.pick (.r p39) (.r p41) (.c (.bool false))))⟩, ⟨(some p43), none, (.e (.mv (.r p42)))⟩, ⟨(some p44), (some (p43, true)), (.e (.fa 0 (.r p1)))⟩, ⟨(some p45), (some (p43, true)), (.e (.ld (.r p44)))⟩, ⟨(some p46), (some (p43, true)), (.c (.f 8 [(.c .nilp), (.r p45)]))⟩, ⟨(some p47), (some (p43, true)), (.e (.lenL (.r p46)))⟩, ⟨(some p48), (some (p43, true)), (.e (.bin .eql (.r p47) (.c (.int .i64 (.ofNat 0)))))⟩, ⟨(some p49), none, (.e (.pick (.r p43) (.r p48) (.c (.bool false))))⟩, ⟨(some p50), none, (.e (.mv (.r p49)))⟩, ⟨(some p51), (some (p50, true)), (.e (.fa 0 (.r p1)))⟩, ⟨(some p52), (some (p50, true)), (.e (.ld (.r p51)))⟩, ⟨(some p53), (some (p50, true)), (.c (.f 9 [(.c .nilp), (.r p52)]))⟩, ⟨(some p54), (some (p50, true)), (.e (.bin .eql (.r p53) (.c (.int .i64 (.ofNat 1)))))⟩, ⟨(some p55), none, (.e (.pick (.r p50) (.r p54) (.c (.bool false))))⟩, ⟨(some p56), none, (.e (.mv (.r p55)))⟩, ⟨(some p57), (some (p56, true)), (.c (.f 10 []))⟩, ⟨(some p58), none, (.e (.pick (.r p56) (.r p57) (.c (.bool false))))⟩, ⟨(some p2), none, (.e (.mv (.r p58)))⟩]) .ret))))
theorem I3_0 (E : Env) : Is E C3_0 (retK3 R3) (fun σ h => J3_0 E (σ p0) h) :=
  fun σ h => by kernel_rfl
def D3 : DF := ⟨1, 59, C3_0, R3⟩
noncomputable def S3 (E : Env) : Fun := fun args h => aS args fun r0 args => a0 args (J3_0 E r0 h)
theorem S3_eq (E : Env) (args : List DV) (h : H) : runFn E D3 args h = S3 E args h :=
  Is.fn1 (d := D3) (I3_0 E) rfl (fun r0 h => J3_0 E r0 h) (fun r0 h => by kernel_rfl) args h
/- hurdle/reader.Read -/
def R6 : List RV := [(.r p4), (.r p5)]
noncomputable def J6_0 (E : Env) (r0 r1 : DV) (h : H) : Ans :=
  wK (callK E 27 [r0, r1] h) fun x1 h2 =>
  vK (v_ext 0 x1) fun x3 =>
  vK (v_ext 1 x1) fun x4 =>
  vK (v_neq x4 (.int .i64 (.ofNat 0))) fun x5 =>
  bK x5
  (some ((.tup [(.str []), x4]), h2))
  (wK (callK E 28 [x3] h2) fun x6 h7 =>
  vK (v_ext 0 x6) fun x8 =>
  vK (v_ext 1 x6) fun x9 =>
  some ((.tup [x8, x9]), h7))
def C6_0 : DC := (.seq (.reg [⟨(some p4), none, (.e (.mv (.c (.str []))))⟩, ⟨(some p5), none, (.e (.mv (.c (.int .i64 (.ofNat 0)))))⟩]) (.seq (.reg [⟨(some p9), none, (.e (.mv (.r p0)))⟩, ⟨(some p10), none, (.e (.mv (.r p1)))⟩, ⟨(some p11), none, (.c (.f 27 [(.r p9), (.r p10)]))⟩, ⟨(some p8), none, (.e (.mv (.r p11)))⟩, ⟨(some p12), none, (.e (.ext 0 (.r p8)))⟩, ⟨(some p13), none, (.e (.ext 1 (.r p8)))⟩, ⟨(some p6), none, (.e (.mv (.r p12)))⟩, ⟨(some p7), none, (.e (.mv (.r p13)))⟩]) (.seq (.seq (.reg [⟨(some p14), none, (.e (.mv (.r p7)))⟩, ⟨(some p15), none, (.e (.bin .neq (.r p14) (.c (.int .i64 (.ofNat 0)))))⟩]) (.cond (.r p15) (.seq (.reg [⟨(some p16), none, (.e (.mv (.r p7)))⟩, ⟨(some p4), none, (.e (.mv (.c (.str []))))⟩, ⟨(some p5), none, (.e (.mv (.r p16)))⟩]) .ret) .skip)) (.seq (.reg [⟨(some p17), none, (.e (.mv (.r p6)))⟩, ⟨(some p18), none, (.c (.f 28 [(.r p17)]))⟩, ⟨(some p19), none, (.e (.ext 0 (.r p18)))⟩, ⟨(some p20), none, (.e (.ext 1 (.r p18)))⟩, ⟨(some p4), none, (.e (.mv (.r p19)))⟩, ⟨(some p5), none, (.e (.mv (.r p20)))⟩]) .ret))))
theorem I6_0 (E : Env) : Is E C6_0 (retK3 R6) (fun σ h => J6_0 E (σ p0) (σ p1) h) :=
  fun σ h => by kernel_rfl
def D6 : DF := ⟨2, 21, C6_0, R6⟩
noncomputable def S6 (E : Env) : Fun := fun args h => aS args fun r0 args => aS args fun r1 args => a0 args (J6_0 E r0 r1 h)
theorem S6_eq (E : Env) (args : List DV) (h : H) : runFn E D6 args h = S6 E args h :=
  Is.fn2 (d := D6) (I6_0 E) rfl (fun r0 r1 h => J6_0 E r0 r1 h) (fun r0 r1 h => by kernel_rfl) args h
/- hurdle/reader.Part -/
def R7 : List RV := [(.r p8), (.r p9), (.r p10)]
noncomputable def J7_4 (E : Env) (r11 r15 : DV) (h : H) : Ans :=
  vK (v_b2s h.get r15) fun x1 =>
  wK (callK E 29 [r11] h) fun x2 h3 =>
  rK (rcK (v_b2s h3.get r15) x1) <|
  some ((.tup [x1, x2, (.int .i64 (.ofNat 0))]), h3)
def C7_4 : DC := (.seq (.drg [⟨0, ⟨(some p127), none, (.e (.mv (.r p15)))⟩, [], false⟩, ⟨1, ⟨(some p128), none, (.e (.b2s (.r p127)))⟩, [], false⟩, ⟨2, ⟨(some p129), none, (.e (.mv (.r p11)))⟩, [], false⟩, ⟨3, ⟨(some p130), none, (.c (.f 29 [(.r p129)]))⟩, [1], false⟩, ⟨4, ⟨(some p8), none, (.e (.mv (.r p128)))⟩, [], false⟩, ⟨5, ⟨(some p9), none, (.e (.mv (.r p130)))⟩, [], false⟩, ⟨6, ⟨(some p10), none, (.e (.mv (.c (.int .i64 (.ofNat 0)))))⟩, [], false⟩]) .ret)
noncomputable def B7_5 (E : Env) (i1 : DV → H → Ans) (r11 r17 : DV) (i5 : DV → DV → H → Ans) (r15 r16 : DV) (h : H) : Ans :=
  vK (v_lss r16 r17) fun x1 =>
  bK x1
  (vK (v_nilchk r11) fun x2 =>
  vK (v_fa 7 x2) fun x3 =>
  vK (v_ld h.get x3) fun x4 =>
  vK (v_quo r16 x4) fun x5 =>
  wK (callK E 30 [r11, x5] h) fun x6 h7 =>
  vK (v_not x6) fun x8 =>
  bK x8
  (i1 (.bool true) h7)
  (vK (v_add x5 (.int .i64 (.ofNat 1))) fun x9 =>
  vK (v_nilchk r11) fun x10 =>
  vK (v_fa 7 x10) fun x11 =>
  vK (v_ld h7.get x11) fun x12 =>
  vK (v_mul x9 x12) fun x13 =>
  vK (v_mn r17 x13) fun x14 =>
  vK (v_nilchk r11) fun x15 =>
  vK (v_fa 8 x15) fun x16 =>
  vK (v_ld h7.get x16) fun x17 =>
  vK (v_iaS 1 x17 x5) fun x18 =>
  vK (v_ld h7.get x18) fun x19 =>
  vK (v_nilchk r11) fun x20 =>
  vK (v_fa 7 x20) fun x21 =>
  vK (v_ld h7.get x21) fun x22 =>
  vK (v_mul x5 x22) fun x23 =>
  vK (v_sub r16 x23) fun x24 =>
  vK (v_nilchk r11) fun x25 =>
  vK (v_fa 7 x25) fun x26 =>
  vK (v_ld h7.get x26) fun x27 =>
  vK (v_mul x5 x27) fun x28 =>
  vK (v_sub x14 x28) fun x29 =>
  vK (v_slS x19 (some x24) (some x29)) fun x30 =>
  wK (dAppendF 1 1 r15 x30 h7) fun x31 h32 =>
  i5 x31 x14 h32))
  (J7_4 E r11 r15 h)
noncomputable def L7_5 (E : Env) (i1 : DV → H → Ans) (r11 r17 : DV) (n : Nat) : DV → DV → H → Ans := Nat.rec (motive := fun _ => DV → DV → H → Ans) (fun _ _ _ => none) (fun _ i => B7_5 E i1 r11 r17 i) n
def C7_5 : DC := (.loop (.seq (.seq (.reg [⟨(some p78), none, (.e (.mv (.r p16)))⟩, ⟨(some p79), none, (.e (.mv (.r p17)))⟩, ⟨(some p80), none, (.e (.bin .lss (.r p78) (.r p79)))⟩]) (.cond (.r p80) .skip (.exit 1))) (.block 2 (.seq (.reg [⟨(some p81), none, (.e (.mv (.r p16)))⟩, ⟨(some p82), none, (.e (.mv (.r p11)))⟩, ⟨(some p83), none, (.e (.nilchk (.r p82)))⟩, ⟨(some p84), none, (.e (.fa 7 (.r p83)))⟩, ⟨(some p85), none, (.e (.ld (.r p84)))⟩, ⟨(some p86), none, (.e (.bin .quo (.r p81) (.r p85)))⟩, ⟨(some p18), none, (.e (.mv (.r p86)))⟩]) (.seq (.seq (.reg [⟨(some p87), none, (.e (.mv (.r p11)))⟩, ⟨(some p88), none, (.e (.mv (.r p18)))⟩, ⟨(some p89), none, (.c (.f 30 [(.r p87), (.r p88)]))⟩, ⟨(some p90), none, (.e (.not (.r p89)))⟩]) (.cond (.r p90) (.seq (.reg [⟨(some p13), none, (.e (.mv (.c (.bool true))))⟩]) (.exit 4294967296)) .skip)) (.seq (.reg [⟨(some p91), none, (.e (.mv (.r p17)))⟩, ⟨(some p92), none, (.e (.mv (.r p18)))⟩, ⟨(some p93), none, (.e (.bin .add (.r p92) (.c (.int .i64 (.ofNat 1)))))⟩, ⟨(some p94), none, (.e (.mv (.r p11)))⟩, ⟨(some p95), none, (.e (.nilchk (.r p94)))⟩, ⟨(some p96), none, (.e (.fa 7 (.r p95)))⟩, ⟨(some p97), none, (.e (.ld (.r p96)))⟩, ⟨(some p98), none, (.e (.bin .mul (.r p93) (.r p97)))⟩, ⟨(some p99), none, (.e (.mn (.r p91) (.r p98)))⟩, ⟨(some p19), none, (.e (.mv (.r p99)))⟩]) (.seq (.drg [⟨0, ⟨(some p100), none, (.e (.mv (.r p15)))⟩, [], false⟩, ⟨1, ⟨(some p101), none, (.e (.mv (.r p11)))⟩, [], false⟩, ⟨2, ⟨(some p102), none, (.e (.nilchk (.r p101)))⟩, [], false⟩, ⟨3, ⟨(some p103), none, (.e (.fa 8 (.r p102)))⟩, [], false⟩, ⟨4, ⟨(some p104), none, (.e (.ld (.r p103)))⟩, [], false⟩, ⟨5, ⟨(some p105), none, (.e (.mv (.r p18)))⟩, [], false⟩, ⟨6, ⟨(some p106), none, (.e (.iaS 1 (.r p104) (.r p105)))⟩, [], false⟩, ⟨7, ⟨(some p107), none, (.e (.ld (.r p106)))⟩, [], false⟩, ⟨8, ⟨(some p108), none, (.e (.mv (.r p16)))⟩, [], false⟩, ⟨9, ⟨(some p109), none, (.e (.mv (.r p18)))⟩, [], false⟩, ⟨10, ⟨(some p110), none, (.e (.mv (.r p11)))⟩, [], false⟩, ⟨11, ⟨(some p111), none, (.e (.nilchk (.r p110)))⟩, [], false⟩, ⟨12, ⟨(some p112), none, (.e (.fa 7 (.r p111)))⟩, [], false⟩, ⟨13, ⟨(some p113), none, (.e (.ld (.r p112)))⟩, [], false⟩, ⟨14, ⟨(some p114), none, (.e (.bin .mul (.r p109) (.r p113)))⟩, [], false⟩, ⟨15, ⟨(some p115), none, (.e (.bin .sub (.r p108) (.r p114)))⟩, [], false⟩, ⟨16, ⟨(some p116), none, (.e (.mv (.r p19)))⟩, [], false⟩, ⟨17, ⟨(some p117), none, (.e (.mv (.r p18)))⟩, [], false⟩, ⟨18, ⟨(some p118), none, (.e (.mv (.r p11)))⟩, [], false⟩, ⟨19, ⟨(some p119), none, (.e (.nilchk (.r p118)))⟩, [], false⟩, ⟨20, ⟨(some p120), none, (.e (.fa 7 (.r p119)))⟩, [], false⟩, ⟨21, ⟨(some p121), none, (.e (.ld (.r p120)))⟩, [], false⟩, ⟨22, ⟨(some p122), none, (.e (.bin .mul (.r p117) (.r p121)))⟩, [], false⟩, ⟨23, ⟨(some p123), none, (.e (.bin .sub (.r p116) (.r p122)))⟩, [], false⟩, ⟨24, ⟨(some p124), none, (.e (.slS (.r p107) (some (.r p115)) (some (.r p123))))⟩, [], false⟩, ⟨25, ⟨(some p125), none, (.w (.app 1 1 (.r p100) (.r p124)))⟩, [], false⟩, ⟨26, ⟨(some p15), none, (.e (.mv (.r p125)))⟩, [], true⟩]) (.reg [⟨(some p126), none, (.e (.mv (.r p19)))⟩, ⟨(some p16), none, (.e (.mv (.r p126)))⟩]))))))))
noncomputable def B7_1 (E : Env) (r2 r3 r11 : DV) (i1 : DV → H → Ans) (r13 : DV) (h : H) : Ans :=
  bK r13
  (wK (callK E 28 [r11] h) fun x1 h2 =>
  vK (v_ext 0 x1) fun x3 =>
  vK (v_ext 1 x1) fun x4 =>
  vK (v_neq x4 (.int .i64 (.ofNat 0))) fun x5 =>
  bK x5
  (some ((.tup [(.str []), (.int .i64 (.ofNat 0)), x4]), h2))
  (vK (v_add r2 r3) fun x6 =>
  vK (v_slS x3 (some r2) (some x6)) fun x7 =>
  wK (callK E 29 [r11] h2) fun x8 h9 =>
  some ((.tup [x7, x8, (.int .i64 (.ofNat 0))]), h9)))
  (vK (v_add r2 r3) fun x10 =>
  L7_5 E i1 r11 x10 FUEL .nils r2 h)
noncomputable def L7_1 (E : Env) (r2 r3 r11 : DV) (n : Nat) : DV → H → Ans := Nat.rec (motive := fun _ => DV → H → Ans) (fun _ _ => none) (fun _ i => B7_1 E r2 r3 r11 i) n
noncomputable def J7_2 (E : Env) (r11 r15 : DV) (h : H) : Ans :=
  vK (v_b2s h.get r15) fun x1 =>
  wK (callK E 29 [r11] h) fun x2 h3 =>
  rK (rcK (v_b2s h3.get r15) x1) <|
  some ((.tup [x1, x2, (.int .i64 (.ofNat 0))]), h3)
def C7_2 : DC := (.seq (.drg [⟨0, ⟨(some p127), none, (.e (.mv (.r p15)))⟩, [], false⟩, ⟨1, ⟨(some p128), none, (.e (.b2s (.r p127)))⟩, [], false⟩, ⟨2, ⟨(some p129), none, (.e (.mv (.r p11)))⟩, [], false⟩, ⟨3, ⟨(some p130), none, (.c (.f 29 [(.r p129)]))⟩, [1], false⟩, ⟨4, ⟨(some p8), none, (.e (.mv (.r p128)))⟩, [], false⟩, ⟨5, ⟨(some p9), none, (.e (.mv (.r p130)))⟩, [], false⟩, ⟨6, ⟨(some p10), none, (.e (.mv (.c (.int .i64 (.ofNat 0)))))⟩, [], false⟩]) .ret)
noncomputable def B7_3 (E : Env) (r2 r3 r11 r17 : DV) (i3 : DV → DV → H → Ans) (r15 r16 : DV) (h : H) : Ans :=
  vK (v_lss r16 r17) fun x1 =>
  bK x1
  (vK (v_nilchk r11) fun x2 =>
  vK (v_fa 7 x2) fun x3 =>
  vK (v_ld h.get x3) fun x4 =>
  vK (v_quo r16 x4) fun x5 =>
  wK (callK E 30 [r11, x5] h) fun x6 h7 =>
  vK (v_not x6) fun x8 =>
  bK x8
  (L7_1 E r2 r3 r11 FUEL (.bool true) h7)
  (vK (v_add x5 (.int .i64 (.ofNat 1))) fun x9 =>
  vK (v_nilchk r11) fun x10 =>
  vK (v_fa 7 x10) fun x11 =>
  vK (v_ld h7.get x11) fun x12 =>
  vK (v_mul x9 x12) fun x13 =>
  vK (v_mn r17 x13) fun x14 =>
  vK (v_nilchk r11) fun x15 =>
  vK (v_fa 8 x15) fun x16 =>
  vK (v_ld h7.get x16) fun x17 =>
  vK (v_iaS 1 x17 x5) fun x18 =>
  vK (v_ld h7.get x18) fun x19 =>
  vK (v_nilchk r11) fun x20 =>
  vK (v_fa 7 x20) fun x21 =>
  vK (v_ld h7.get x21) fun x22 =>
  vK (v_mul x5 x22) fun x23 =>
  vK (v_sub r16 x23) fun x24 =>
  vK (v_nilchk r11) fun x25 =>
  vK (v_fa 7 x25) fun x26 =>
  vK (v_ld h7.get x26) fun x27 =>
  vK (v_mul x5 x27) fun x28 =>
  vK (v_sub x14 x28) fun x29 =>
  vK (v_slS x19 (some x24) (some x29)) fun x30 =>
  wK (dAppendF 1 1 r15 x30 h7) fun x31 h32 =>
  i3 x31 x14 h32))
  (J7_2 E r11 r15 h)
noncomputable def L7_3 (E : Env) (r2 r3 r11 r17 : DV) (n : Nat) : DV → DV → H → Ans := Nat.rec (motive := fun _ => DV → DV → H → Ans) (fun _ _ _ => none) (fun _ i => B7_3 E r2 r3 r11 r17 i) n
def C7_3 : DC := (.loop (.seq (.seq (.reg [⟨(some p78), none, (.e (.mv (.r p16)))⟩, ⟨(some p79), none, (.e (.mv (.r p17)))⟩, ⟨(some p80), none, (.e (.bin .lss (.r p78) (.r p79)))⟩]) (.cond (.r p80) .skip (.exit 1))) (.block 2 (.seq (.reg [⟨(some p81), none, (.e (.mv (.r p16)))⟩, ⟨(some p82), none, (.e (.mv (.r p11)))⟩, ⟨(some p83), none, (.e (.nilchk (.r p82)))⟩, ⟨(some p84), none, (.e (.fa 7 (.r p83)))⟩, ⟨(some p85), none, (.e (.ld (.r p84)))⟩, ⟨(some p86), none, (.e (.bin .quo (.r p81) (.r p85)))⟩, ⟨(some p18), none, (.e (.mv (.r p86)))⟩]) (.seq (.seq (.reg [⟨(some p87), none, (.e (.mv (.r p11)))⟩, ⟨(some p88), none, (.e (.mv (.r p18)))⟩, ⟨(some p89), none, (.c (.f 30 [(.r p87), (.r p88)]))⟩, ⟨(some p90), none, (.e (.not (.r p89)))⟩]) (.cond (.r p90) (.seq (.reg [⟨(some p13), none, (.e (.mv (.c (.bool true))))⟩]) (.exit 4294967296)) .skip)) (.seq (.reg [⟨(some p91), none, (.e (.mv (.r p17)))⟩, ⟨(some p92), none, (.e (.mv (.r p18)))⟩, ⟨(some p93), none, (.e (.bin .add (.r p92) (.c (.int .i64 (.ofNat 1)))))⟩, ⟨(some p94), none, (.e (.mv (.r p11)))⟩, ⟨(some p95), none, (.e (.nilchk (.r p94)))⟩, ⟨(some p96), none, (.e (.fa 7 (.r p95)))⟩, ⟨(some p97), none, (.e (.ld (.r p96)))⟩, ⟨(some p98), none, (.e (.bin .mul (.r p93) (.r p97)))⟩, ⟨(some p99), none, (.e (.mn (.r p91) (.r p98)))⟩, ⟨(some p19), none, (.e (.mv (.r p99)))⟩]) (.seq (.drg [⟨0, ⟨(some p100), none, (.e (.mv (.r p15)))⟩, [], false⟩, ⟨1, ⟨(some p101), none, (.e (.mv (.r p11)))⟩, [], false⟩, ⟨2, ⟨(some p102), none, (.e (.nilchk (.r p101)))⟩, [], false⟩, ⟨3, ⟨(some p103), none, (.e (.fa 8 (.r p102)))⟩, [], false⟩, ⟨4, ⟨(some p104), none, (.e (.ld (.r p103)))⟩, [], false⟩, ⟨5, ⟨(some p105), none, (.e (.mv (.r p18)))⟩, [], false⟩, ⟨6, ⟨(some p106), none, (.e (.iaS 1 (.r p104) (.r p105)))⟩, [], false⟩, ⟨7, ⟨(some p107), none, (.e (.ld (.r p106)))⟩, [], false⟩, ⟨8, ⟨(some p108), none, (.e (.mv (.r p16)))⟩, [], false⟩, ⟨9, ⟨(some p109), none, (.e (.mv (.r p18)))⟩, [], false⟩, ⟨10, ⟨(some p110), none, (.e (.mv (.r p11)))⟩, [], false⟩, ⟨11, ⟨(some p111), none, (.e (.nilchk (.r p110)))⟩, [], false⟩, ⟨12, ⟨(some p112), none, (.e (.fa 7 (.r p111)))⟩, [], false⟩, ⟨13, ⟨(some p113), none, (.e (.ld (.r p112)))⟩, [], false⟩, ⟨14, ⟨(some p114), none, (.e (.bin .mul (.r p109) (.r p113)))⟩, [], false⟩, ⟨15, ⟨(some p115), none, (.e (.bin .sub (.r p108) (.r p114)))⟩, [], false⟩, ⟨16, ⟨(some p116), none, (.e (.mv (.r p19)))⟩, [], false⟩, ⟨17, ⟨(some p117), none, (.e (.mv (.r p18)))⟩, [], false⟩, ⟨18, ⟨(some p118), none, (.e (.mv (.r p11)))⟩, [], false⟩, ⟨19, ⟨(some p119), none, (.e (.nilchk (.r p118)))⟩, [], false⟩, ⟨20, ⟨(some p120), none, (.e (.fa 7 (.r p119)))⟩, [], false⟩, ⟨21, ⟨(some p121), none, (.e (.ld (.r p120)))⟩, [], false⟩, ⟨22, ⟨(some p122), none, (.e (.bin .mul (.r p117) (.r p121)))⟩, [], false⟩, ⟨23, ⟨(some p123), none, (.e (.bin .sub (.r p116) (.r p122)))⟩, [], false⟩, ⟨24, ⟨(some p124), none, (.e (.slS (.r p107) (some (.r p115)) (some (.r p123))))⟩, [], false⟩, ⟨25, ⟨(some p125), none, (.w (.app 1 1 (.r p100) (.r p124)))⟩, [], false⟩, ⟨26, ⟨(some p15), none, (.e (.mv (.r p125)))⟩, [], true⟩]) (.reg [⟨(some p126), none, (.e (.mv (.r p19)))⟩, ⟨(some p16), none, (.e (.mv (.r p126)))⟩]))))))))
noncomputable def J7_1 (E : Env) (r0 r1 r2 r3 : DV) (h : H) : Ans :=
  wK (callK E 27 [r0, r1] h) fun x1 h2 =>
  vK (v_ext 0 x1) fun x3 =>
  vK (v_ext 1 x1) fun x4 =>
  vK (v_neq x4 (.int .i64 (.ofNat 0))) fun x5 =>
  bK x5
  (some ((.tup [(.str []), (.int .i64 (.ofNat 0)), x4]), h2))
  (vK (v_lss r2 (.int .i64 (.ofNat 0))) fun x6 =>
  gdK x6 false (fun kk => kk r3 h2) h2 fun x7 h8 =>
  gdK x6 false (fun kk => vK (v_lss x7 (.int .i64 (.ofNat 0))) fun v => kk v h8) h8 fun x9 h10 =>
  vK (v_pick x6 (.bool true) x9) fun x11 =>
  gdK x11 false (fun kk => kk r2 h10) h10 fun x12 h13 =>
  gdK x11 false (fun kk => kk x3 h13) h13 fun x14 h15 =>
  gdK x11 false (fun kk => vK (v_nilchk x14) fun v => kk v h15) h15 fun x16 h17 =>
  gdK x11 false (fun kk => vK (v_fa 1 x16) fun v => kk v h17) h17 fun x18 h19 =>
  gdK x11 false (fun kk => vK (v_fa 4 x18) fun v => kk v h19) h19 fun x20 h21 =>
  gdK x11 false (fun kk => vK (v_ld h21.get x20) fun v => kk v h21) h21 fun x22 h23 =>
  gdK x11 false (fun kk => vK (v_gtr x12 x22) fun v => kk v h23) h23 fun x24 h25 =>
  vK (v_pick x11 (.bool true) x24) fun x26 =>
  gdK x26 false (fun kk => kk r3 h25) h25 fun x27 h28 =>
  gdK x26 false (fun kk => kk x3 h28) h28 fun x29 h30 =>
  gdK x26 false (fun kk => vK (v_nilchk x29) fun v => kk v h30) h30 fun x31 h32 =>
  gdK x26 false (fun kk => vK (v_fa 1 x31) fun v => kk v h32) h32 fun x33 h34 =>
  gdK x26 false (fun kk => vK (v_fa 4 x33) fun v => kk v h34) h34 fun x35 h36 =>
  gdK x26 false (fun kk => vK (v_ld h36.get x35) fun v => kk v h36) h36 fun x37 h38 =>
  gdK x26 false (fun kk => kk r2 h38) h38 fun x39 h40 =>
  gdK x26 false (fun kk => vK (v_sub x37 x39) fun v => kk v h40) h40 fun x41 h42 =>
  gdK x26 false (fun kk => vK (v_gtr x27 x41) fun v => kk v h42) h42 fun x43 h44 =>
  vK (v_pick x26 (.bool true) x43) fun x45 =>
  bK x45
  (some ((.tup [(.str []), (.int .i64 (.ofNat 0)), (.int .i64 (.ofNat 1))]), h44))
  (bK (.bool false)
  (wK (callK E 28 [x3] h44) fun x46 h47 =>
  vK (v_ext 0 x46) fun x48 =>
  vK (v_ext 1 x46) fun x49 =>
  vK (v_neq x49 (.int .i64 (.ofNat 0))) fun x50 =>
  bK x50
  (some ((.tup [(.str []), (.int .i64 (.ofNat 0)), x49]), h47))
  (vK (v_add r2 r3) fun x51 =>
  vK (v_slS x48 (some r2) (some x51)) fun x52 =>
  wK (callK E 29 [x3] h47) fun x53 h54 =>
  some ((.tup [x52, x53, (.int .i64 (.ofNat 0))]), h54)))
  (vK (v_add r2 r3) fun x55 =>
  L7_3 E r2 r3 x3 x55 FUEL .nils r2 h44)))
def C7_1 : DC := (.jump 4294967296 (.seq (.reg [⟨(some p21), none, (.e (.mv (.r p0)))⟩, ⟨(some p22), none, (.e (.mv (.r p1)))⟩, ⟨(some p23), none, (.c (.f 27 [(.r p21), (.r p22)]))⟩, ⟨(some p20), none, (.e (.mv (.r p23)))⟩, ⟨(some p24), none, (.e (.ext 0 (.r p20)))⟩, ⟨(some p25), none, (.e (.ext 1 (.r p20)))⟩, ⟨(some p11), none, (.e (.mv (.r p24)))⟩, ⟨(some p12), none, (.e (.mv (.r p25)))⟩]) (.seq (.block 0 (.seq (.reg [⟨(some p27), none, (.e (.mv (.r p12)))⟩, ⟨(some p28), none, (.e (.bin .neq (.r p27) (.c (.int .i64 (.ofNat 0)))))⟩, ⟨(some p26), none, (.e (.mv (.r p28)))⟩]) (.cond (.r p26) (.seq (.reg [⟨(some p29), none, (.e (.mv (.r p12)))⟩, ⟨(some p8), none, (.e (.mv (.c (.str []))))⟩, ⟨(some p9), none, (.e (.mv (.c (.int .i64 (.ofNat 0)))))⟩, ⟨(some p10), none, (.e (.mv (.r p29)))⟩]) .ret) (.seq (.reg [⟨(some p31), none, (.e (.mv (.r p2)))⟩, ⟨(some p32), none, (.e (.bin .lss (.r p31) (.c (.int .i64 (.ofNat 0)))))⟩, ⟨(some p33), none, (.e (.mv (.r p32)))⟩, ⟨(some p34), (some (p33, false)), (.e (.mv (.r p3)))⟩, ⟨(some p35), (some (p33, false)), (.e (.bin .lss (.r p34) (.c (.int .i64 (.ofNat 0)))))⟩, ⟨(some p36), none, (.e (.pick (.r p33) (.c (.bool true)) (.r p35)))⟩, ⟨(some p37), none, (.e (.mv (.r p36)))⟩, ⟨(some p38), (some (p37, false)), (.e (.mv (.r p2)))⟩, ⟨(some p39), (some (p37, false)), (.e (.mv (.r p11)))⟩, ⟨(some p40), (some (p37, false)), (.e (.nilchk (.r p39)))⟩, ⟨(some p41), (some (p37, false)), (.e (.fa 1 (.r p40)))⟩, ⟨(some p42), (some (p37, false)), (.e (.fa 4 (.r p41)))⟩, ⟨(some p43), (some (p37, false)), (.e (.ld (.r p42)))⟩, ⟨(some p44), (some (p37, false)), (.e (.bin .gtr (.r p38) (.r p43)))⟩, ⟨(some p45), none, (.e (.pick (.r p37) (.c (.bool true)) (.r p44)))⟩, ⟨(some p46), none, (.e (.mv (.r p45)))⟩, ⟨(some p47), (some (p46, false)), (.e (.mv (.r p3)))⟩, ⟨(some p48), (some (p46, false)), (.e (.mv (.r p11)))⟩, ⟨(some p49), (some (p46, false)), (.e (.nilchk (.r p48)))⟩, ⟨(some p50), (some (p46, false)), (.e (.fa 1 (.r p49)))⟩, ⟨(some p51), (some (p46, false)), (.e (.fa 4 (.r p50)))⟩, ⟨(some p52), (some (p46, false)), (.e (.ld (.r p51)))⟩, ⟨(some p53), (some (p46, false)), (.e (.mv (.r p2)))⟩, ⟨(some p54), (some (p46, false)), (.e (.bin .sub (.r p52) (.r p53)))⟩, ⟨(some p55), (some (p46, false)), (.e (.bin .gtr (.r p47) (.r p54)))⟩, ⟨(some p56), none, (.e (.pick (.r p46) (.c (.bool true)) (.r p55)))⟩, ⟨(some p30), none, (.e (.mv (.r p56)))⟩]) (.cond (.r p30) (.seq (.reg [⟨(some p8), none, (.e (.mv (.c (.str []))))⟩, ⟨(some p9), none, (.e (.mv (.c (.int .i64 (.ofNat 0)))))⟩, ⟨(some p10), none, (.e (.mv (.c (.int .i64 (.ofNat 1)))))⟩]) .ret) .skip))))) (.seq (.reg [⟨(some p13), none, (.e (.mv (.c (.bool false))))⟩, ⟨(some p14), none, (.e (.mv (.c (.str []))))⟩]) (.seq .skip (.seq (.seq (.reg [⟨(some p57), none, (.e (.mv (.r p13)))⟩]) (.cond (.r p57) (.seq (.seq (.reg [⟨(some p59), none, (.e (.mv (.r p11)))⟩, ⟨(some p60), none, (.c (.f 28 [(.r p59)]))⟩, ⟨(some p58), none, (.e (.mv (.r p60)))⟩, ⟨(some p61), none, (.e (.ext 0 (.r p58)))⟩, ⟨(some p62), none, (.e (.ext 1 (.r p58)))⟩, ⟨(some p14), none, (.e (.mv (.r p61)))⟩, ⟨(some p12), none, (.e (.mv (.r p62)))⟩]) (.seq (.reg [⟨(some p63), none, (.e (.mv (.r p12)))⟩, ⟨(some p64), none, (.e (.bin .neq (.r p63) (.c (.int .i64 (.ofNat 0)))))⟩]) (.cond (.r p64) (.seq (.reg [⟨(some p65), none, (.e (.mv (.r p12)))⟩, ⟨(some p8), none, (.e (.mv (.c (.str []))))⟩, ⟨(some p9), none, (.e (.mv (.c (.int .i64 (.ofNat 0)))))⟩, ⟨(some p10), none, (.e (.mv (.r p65)))⟩]) .ret) .skip))) (.seq (.drg [⟨0, ⟨(some p66), none, (.e (.mv (.r p14)))⟩, [], false⟩, ⟨1, ⟨(some p67), none, (.e (.mv (.r p2)))⟩, [], false⟩, ⟨2, ⟨(some p68), none, (.e (.mv (.r p2)))⟩, [], false⟩, ⟨3, ⟨(some p69), none, (.e (.mv (.r p3)))⟩, [], false⟩, ⟨4, ⟨(some p70), none, (.e (.bin .add (.r p68) (.r p69)))⟩, [], false⟩, ⟨5, ⟨(some p71), none, (.e (.slS (.r p66) (some (.r p67)) (some (.r p70))))⟩, [], false⟩, ⟨6, ⟨(some p72), none, (.e (.mv (.r p11)))⟩, [], false⟩, ⟨7, ⟨(some p73), none, (.c (.f 29 [(.r p72)]))⟩, [], false⟩, ⟨8, ⟨(some p8), none, (.e (.mv (.r p71)))⟩, [], false⟩, ⟨9, ⟨(some p9), none, (.e (.mv (.r p73)))⟩, [], false⟩, ⟨10, ⟨(some p10), none, (.e (.mv (.c (.int .i64 (.ofNat 0)))))⟩, [], false⟩]) .ret)) .skip)) (.seq (.reg [⟨(some p15), none, (.e (.mv (.c .nils)))⟩]) (.seq (.seq (.reg [⟨(some p74), none, (.e (.mv (.r p2)))⟩, ⟨(some p75), none, (.e (.mv (.r p2)))⟩, ⟨(some p76), none, (.e (.mv (.r p3)))⟩, ⟨(some p77), none, (.e (.bin .add (.r p75) (.r p76)))⟩, ⟨(some p16), none, (.e (.mv (.r p74)))⟩, ⟨(some p17), none, (.e (.mv (.r p77)))⟩]) (.block 1 C7_3)) C7_2))))))) (.seq .skip (.seq (.seq (.reg [⟨(some p57), none, (.e (.mv (.r p13)))⟩]) (.cond (.r p57) (.seq (.seq (.reg [⟨(some p59), none, (.e (.mv (.r p11)))⟩, ⟨(some p60), none, (.c (.f 28 [(.r p59)]))⟩, ⟨(some p58), none, (.e (.mv (.r p60)))⟩, ⟨(some p61), none, (.e (.ext 0 (.r p58)))⟩, ⟨(some p62), none, (.e (.ext 1 (.r p58)))⟩, ⟨(some p14), none, (.e (.mv (.r p61)))⟩, ⟨(some p12), none, (.e (.mv (.r p62)))⟩]) (.seq (.reg [⟨(some p63), none, (.e (.mv (.r p12)))⟩, ⟨(some p64), none, (.e (.bin .neq (.r p63) (.c (.int .i64 (.ofNat 0)))))⟩]) (.cond (.r p64) (.seq (.reg [⟨(some p65), none, (.e (.mv (.r p12)))⟩, ⟨(some p8), none, (.e (.mv (.c (.str []))))⟩, ⟨(some p9), none, (.e (.mv (.c (.int .i64 (.ofNat 0)))))⟩, ⟨(some p10), none, (.e (.mv (.r p65)))⟩]) .ret) .skip))) (.seq (.drg [⟨0, ⟨(some p66), none, (.e (.mv (.r p14)))⟩, [], false⟩, ⟨1, ⟨(some p67), none, (.e (.mv (.r p2)))⟩, [], false⟩, ⟨2, ⟨(some p68), none, (.e (.mv (.r p2)))⟩, [], false⟩, ⟨3, ⟨(some p69), none, (.e (.mv (.r p3)))⟩, [], false⟩, ⟨4, ⟨(some p70), none, (.e (.bin .add (.r p68) (.r p69)))⟩, [], false⟩, ⟨5, ⟨(some p71), none, (.e (.slS (.r p66) (some (.r p67)) (some (.r p70))))⟩, [], false⟩, ⟨6, ⟨(some p72), none, (.e (.mv (.r p11)))⟩, [], false⟩, ⟨7, ⟨(some p73), none, (.c (.f 29 [(.r p72)]))⟩, [], false⟩, ⟨8, ⟨(some p8), none, (.e (.mv (.r p71)))⟩, [], false⟩, ⟨9, ⟨(some p9), none, (.e (.mv (.r p73)))⟩, [], false⟩, ⟨10, ⟨(some p10), none, (.e (.mv (.c (.int .i64 (.ofNat 0)))))⟩, [], false⟩]) .ret)) .skip)) (.seq (.reg [⟨(some p15), none, (.e (.mv (.c .nils)))⟩]) (.seq (.seq (.reg [⟨(some p74), none, (.e (.mv (.r p2)))⟩, ⟨(some p75), none, (.e (.mv (.r p2)))⟩, ⟨(some p76), none, (.e (.mv (.r p3)))⟩, ⟨(some p77), none, (.e (.bin .add (.r p75) (.r p76)))⟩, ⟨(some p16), none, (.e (.mv (.r p74)))⟩, ⟨(some p17), none, (.e (.mv (.r p77)))⟩]) (.block 1 C7_5)) C7_4)))))
noncomputable def J7_0 (E : Env) (r0 r1 r2 r3 : DV) (h : H) : Ans :=
  J7_1 E r0 r1 r2 r3 h
def C7_0 : DC := (.seq (.reg [⟨(some p8), none, (.e (.mv (.c (.str []))))⟩, ⟨(some p9), none, (.e (.mv (.c (.int .i64 (.ofNat 0)))))⟩, ⟨(some p10), none, (.e (.mv (.c (.int .i64 (.ofNat 0)))))⟩]) C7_1)
noncomputable abbrev K7_6 (E : Env) (n1 : Nat) : KT2 (DV × H) := (jumpK3 4294967296 (fun σ h => (L7_1 E (σ p2) (σ p3) (σ p11) n1) (σ p13) h) (retK3 R7))
theorem I7_4 (E : Env) (n1 : Nat) : Is E C7_4 (K7_6 E n1) (fun σ h => J7_4 E (σ p11) (σ p15) h) :=
  fun σ h => by kernel_rfl
noncomputable abbrev K7_7 (E : Env) (n1 : Nat) : KT2 (DV × H) := (thenK3 (fun σ h => J7_4 E (σ p11) (σ p15) h) (K7_6 E n1))
theorem I7_5 (E : Env) (n1 : Nat) : Is E C7_5 (blockK3 1 (K7_7 E n1)) (fun σ h => L7_5 E (L7_1 E (σ p2) (σ p3) (σ p11) n1) (σ p11) (σ p17) FUEL (σ p15) (σ p16) h) :=
  Is.loop (fun n5 σ h => L7_5 E (L7_1 E (σ p2) (σ p3) (σ p11) n1) (σ p11) (σ p17) n5 (σ p15) (σ p16) h) (by kernel_rfl) fun n5 => Is.as (Is.leaf _) fun σ h => by kernel_rfl
noncomputable abbrev K7_8 (E : Env) : KT2 (DV × H) := (jumpK3 4294967296 (fun σ h => L7_1 E (σ p2) (σ p3) (σ p11) FUEL (σ p13) h) (retK3 R7))
theorem I7_2 (E : Env) : Is E C7_2 (K7_8 E) (fun σ h => J7_2 E (σ p11) (σ p15) h) :=
  fun σ h => by kernel_rfl
noncomputable abbrev K7_9 (E : Env) : KT2 (DV × H) := (thenK3 (fun σ h => J7_2 E (σ p11) (σ p15) h) (K7_8 E))
theorem I7_3 (E : Env) : Is E C7_3 (blockK3 1 (K7_9 E)) (fun σ h => L7_3 E (σ p2) (σ p3) (σ p11) (σ p17) FUEL (σ p15) (σ p16) h) :=
  Is.loop (fun n3 σ h => L7_3 E (σ p2) (σ p3) (σ p11) (σ p17) n3 (σ p15) (σ p16) h) (by kernel_rfl) fun n3 => Is.as (Is.leaf _) fun σ h => by kernel_rfl
theorem I7_1 (E : Env) : Is E C7_1 (retK3 R7) (fun σ h => J7_1 E (σ p0) (σ p1) (σ p2) (σ p3) h) :=
  Is.as (Is.jump (fun n1 σ h => L7_1 E (σ p2) (σ p3) (σ p11) n1 (σ p13) h) (by kernel_rfl) (fun n1 => Is.as (Is.seq (Is.seq (Is.seq (Is.seq (I7_4 E n1) (Is.seq (Is.block (I7_5 E n1)) (Is.leaf _))) (Is.leaf _)) (Is.leaf _)) (Is.leaf _)) fun σ h => by kernel_rfl) (Is.seq (Is.seq (Is.seq (Is.seq (Is.seq (Is.seq (Is.seq (I7_2 E) (Is.seq (Is.block (I7_3 E)) (Is.leaf _))) (Is.leaf _)) (Is.leaf _)) (Is.leaf _)) (Is.leaf _)) (Is.leaf _)) (Is.leaf _))) fun σ h => by kernel_rfl
theorem I7_0 (E : Env) : Is E C7_0 (retK3 R7) (fun σ h => J7_0 E (σ p0) (σ p1) (σ p2) (σ p3) h) :=
  Is.as (Is.seq (I7_1 E) (Is.leaf _)) fun σ h => by kernel_rfl
def D7 : DF := ⟨4, 131, C7_0, R7⟩
noncomputable def S7 (E : Env) : Fun := fun args h => aS args fun r0 args => aS args fun r1 args => aS args fun r2 args => aS args fun r3 args => a0 args (J7_0 E r0 r1 r2 r3 h)
theorem S7_eq (E : Env) (args : List DV) (h : H) : runFn E D7 args h = S7 E args h :=
  Is.fn4 (d := D7) (I7_0 E) rfl (fun r0 r1 r2 r3 h => J7_0 E r0 r1 r2 r3 h) (fun r0 r1 r2 r3 h => by kernel_rfl) args h
/- hurdle/reader.Missing -/
def R8 : List RV := [(.r p4)]
noncomputable def J8_0 (E : Env) (r0 r1 : DV) (h : H) : Ans :=
  wK (callK E 27 [r0, r1] h) fun x1 h2 =>
  vK (v_ext 0 x1) fun x3 =>
  vK (v_ext 1 x1) fun x4 =>
  vK (v_neq x4 (.int .i64 (.ofNat 0))) fun x5 =>
  bK x5
  (some (.nils, h2))
  (wK (callK E 31 [x3] h2) fun x6 h7 =>
  some (x6, h7))
def C8_0 : DC := (.seq (.reg [⟨(some p4), none, (.e (.mv (.c .nils)))⟩]) (.seq (.reg [⟨(some p8), none, (.e (.mv (.r p0)))⟩, ⟨(some p9), none, (.e (.mv (.r p1)))⟩, ⟨(some p10), none, (.c (.f 27 [(.r p8), (.r p9)]))⟩, ⟨(some p7), none, (.e (.mv (.r p10)))⟩, ⟨(some p11), none, (.e (.ext 0 (.r p7)))⟩, ⟨(some p12), none, (.e (.ext 1 (.r p7)))⟩, ⟨(some p5), none, (.e (.mv (.r p11)))⟩, ⟨(some p6), none, (.e (.mv (.r p12)))⟩]) (.seq (.seq (.reg [⟨(some p13), none, (.e (.mv (.r p6)))⟩, ⟨(some p14), none, (.e (.bin .neq (.r p13) (.c (.int .i64 (.ofNat 0)))))⟩]) (.cond (.r p14) (.seq (.reg [⟨(some p4), none, (.e (.mv (.c .nils)))⟩]) .ret) .skip)) (.seq (.reg [⟨(some p15), none, (.e (.mv (.r p5)))⟩, ⟨(some p16), none, (.c (.f 31 [(.r p15)]))⟩, ⟨(some p4), none, (.e (.mv (.r p16)))⟩]) .ret))))
theorem I8_0 (E : Env) : Is E C8_0 (retK3 R8) (fun σ h => J8_0 E (σ p0) (σ p1) h) :=
  fun σ h => by kernel_rfl
def D8 : DF := ⟨2, 17, C8_0, R8⟩
noncomputable def S8 (E : Env) : Fun := fun args h => aS args fun r0 args => aS args fun r1 args => a0 args (J8_0 E r0 r1 h)
theorem S8_eq (E : Env) (args : List DV) (h : H) : runFn E D8 args h = S8 E args h :=
  Is.fn2 (d := D8) (I8_0 E) rfl (fun r0 r1 h => J8_0 E r0 r1 h) (fun r0 r1 h => by kernel_rfl) args h
/- hurdle/reader.Check -/
def R9 : List RV := [(.r p4)]
noncomputable def J9_0 (E : Env) (r0 r1 : DV) (h : H) : Ans :=
  wK (callK E 27 [r0, r1] h) fun x1 h2 =>
  vK (v_ext 0 x1) fun x3 =>
  vK (v_ext 1 x1) fun x4 =>
  vK (v_neq x4 (.int .i64 (.ofNat 0))) fun x5 =>
  bK x5
  (some (x4, h2))
  (wK (callK E 31 [x3] h2) fun x6 h7 =>
  vK (v_lenL x6) fun x8 =>
  vK (v_gtr x8 (.int .i64 (.ofNat 0))) fun x9 =>
  bK x9
  (some ((.int .i64 (.ofNat 9)), h7))
  (vK (v_nilchk x3) fun x10 =>
  vK (v_fa 8 x10) fun x11 =>
  vK (v_ld h7.get x11) fun x12 =>
  wK (callK E 32 [x12] h7) fun x13 h14 =>
  vK (v_not x13) fun x15 =>
  bK x15
  (some ((.int .i64 (.ofNat 4)), h14))
  (some ((.int .i64 (.ofNat 0)), h14))))
def C9_0 : DC := (.seq (.reg [⟨(some p4), none, (.e (.mv (.c (.int .i64 (.ofNat 0)))))⟩]) (.seq (.reg [⟨(some p8), none, (.e (.mv (.r p0)))⟩, ⟨(some p9), none, (.e (.mv (.r p1)))⟩, ⟨(some p10), none, (.c (.f 27 [(.r p8), (.r p9)]))⟩, ⟨(some p7), none, (.e (.mv (.r p10)))⟩, ⟨(some p11), none, (.e (.ext 0 (.r p7)))⟩, ⟨(some p12), none, (.e (.ext 1 (.r p7)))⟩, ⟨(some p5), none, (.e (.mv (.r p11)))⟩, ⟨(some p6), none, (.e (.mv (.r p12)))⟩]) (.seq (.block 0 (.seq (.reg [⟨(some p14), none, (.e (.mv (.r p6)))⟩, ⟨(some p15), none, (.e (.bin .neq (.r p14) (.c (.int .i64 (.ofNat 0)))))⟩, ⟨(some p13), none, (.e (.mv (.r p15)))⟩]) (.cond (.r p13) (.seq (.reg [⟨(some p16), none, (.e (.mv (.r p6)))⟩, ⟨(some p4), none, (.e (.mv (.r p16)))⟩]) .ret) (.seq (.reg [⟨(some p18), none, (.e (.mv (.r p5)))⟩, ⟨(some p19), none, (.c (.f 31 [(.r p18)]))⟩, ⟨(some p20), none, (.e (.lenL (.r p19)))⟩, ⟨(some p21), none, (.e (.bin .gtr (.r p20) (.c (.int .i64 (.ofNat 0)))))⟩, ⟨(some p17), none, (.e (.mv (.r p21)))⟩]) (.cond (.r p17) (.seq (.reg [⟨(some p4), none, (.e (.mv (.c (.int .i64 (.ofNat 9)))))⟩]) .ret) (.seq (.reg [⟨(some p23), none, (.e (.mv (.r p5)))⟩, ⟨(some p24), none, (.e (.nilchk (.r p23)))⟩, ⟨(some p25), none, (.e (.fa 8 (.r p24)))⟩, ⟨(some p26), none, (.e (.ld (.r p25)))⟩, ⟨(some p27), none, (.c (.f 32 [(.r p26)]))⟩, ⟨(some p28), none, (.e (.not (.r p27)))⟩, ⟨(some p22), none, (.e (.mv (.r p28)))⟩]) (.cond (.r p22) (.seq (.reg [⟨(some p4), none, (.e (.mv (.c (.int .i64 (.ofNat 4)))))⟩]) .ret) .skip))))))) (.seq (.reg [⟨(some p4), none, (.e (.mv (.c (.int .i64 (.ofNat 0)))))⟩]) .ret))))
theorem I9_0 (E : Env) : Is E C9_0 (retK3 R9) (fun σ h => J9_0 E (σ p0) (σ p1) h) :=
  fun σ h => by kernel_rfl
def D9 : DF := ⟨2, 29, C9_0, R9⟩
noncomputable def S9 (E : Env) : Fun := fun args h => aS args fun r0 args => aS args fun r1 args => a0 args (J9_0 E r0 r1 h)
theorem S9_eq (E : Env) (args : List DV) (h : H) : runFn E D9 args h = S9 E args h :=
  Is.fn2 (d := D9) (I9_0 E) rfl (fun r0 r1 h => J9_0 E r0 r1 h) (fun r0 r1 h => by kernel_rfl) args h
/- hurdle/hurdlelaw34.awake -/
def R10 : List RV := [(.r p0)]
noncomputable def J10_0 (E : Env) (h : H) : Ans :=
  wK (callK E 33 [(.int .i64 (.ofNat 3)), (.int .i64 (.ofNat 60)), (.int .i64 (.ofNat 3)), (.int .i64 (.ofNat 0))] h) fun x1 h2 =>
  vK (v_eqv .ptr false h2.get x1 .nilp) fun x3 =>
  bK x3
  (some ((.bool false), h2))
  (wK (callK E 18 [x1, (.int .i64 (.ofNat 0)), (.str [97, 98, 99, 100, 101, 102]), (.int .i64 (.negSucc 0))] h2) fun x4 h5 =>
  wK (callK E 7 [x1, (.int .i64 (.ofNat 0)), (.int .i64 (.ofNat 1)), (.int .i64 (.ofNat 2))] h5) fun x6 h7 =>
  vK (v_ext 0 x6) fun x8 =>
  vK (v_ext 1 x6) fun x9 =>
  vK (v_ext 2 x6) fun x10 =>
  wK (callK E 23 [x1] h7) fun x11 h12 =>
  wK (callK E 34 [x11, (.int .i64 (.ofNat 0)), (.bool true)] h12) fun x13 h14 =>
  wK (callK E 6 [x1, (.int .i64 (.ofNat 0))] h14) fun x15 h16 =>
  vK (v_ext 0 x15) fun x17 =>
  vK (v_ext 1 x15) fun x18 =>
  wK (callK E 8 [x1, (.int .i64 (.ofNat 0))] h16) fun x19 h20 =>
  wK (callK E 7 [x1, (.int .i64 (.ofNat 0)), (.int .i64 (.ofNat 1)), (.int .i64 (.ofNat 1))] h20) fun x21 h22 =>
  vK (v_ext 0 x21) fun x23 =>
  vK (v_ext 1 x21) fun x24 =>
  vK (v_ext 2 x21) fun x25 =>
  wK (callK E 23 [x1] h22) fun x26 h27 =>
  wK (callK E 34 [x26, (.int .i64 (.ofNat 1)), (.bool true)] h27) fun x28 h29 =>
  wK (callK E 6 [x1, (.int .i64 (.ofNat 0))] h29) fun x30 h31 =>
  vK (v_ext 0 x30) fun x32 =>
  vK (v_ext 1 x30) fun x33 =>
  wK (callK E 6 [x1, (.int .i64 (.ofNat 1))] h31) fun x34 h35 =>
  vK (v_ext 0 x34) fun x36 =>
  vK (v_ext 1 x34) fun x37 =>
  vK (v_eql x8 (.str [98, 99])) fun x38 =>
  gdK x38 true (fun kk => kk x9 h35) h35 fun x39 h40 =>
  gdK x38 true (fun kk => vK (v_eql x39 (.int .i64 (.ofNat 1))) fun v => kk v h40) h40 fun x41 h42 =>
  vK (v_pick x38 x41 (.bool false)) fun x43 =>
  gdK x43 true (fun kk => kk x10 h42) h42 fun x44 h45 =>
  gdK x43 true (fun kk => vK (v_eql x44 (.int .i64 (.ofNat 0))) fun v => kk v h45) h45 fun x46 h47 =>
  vK (v_pick x43 x46 (.bool false)) fun x48 =>
  gdK x48 true (fun kk => kk x17 h47) h47 fun x49 h50 =>
  gdK x48 true (fun kk => vK (v_eql x49 (.str [97, 98, 99, 100, 101, 102])) fun v => kk v h50) h50 fun x51 h52 =>
  vK (v_pick x48 x51 (.bool false)) fun x53 =>
  gdK x53 true (fun kk => kk x18 h52) h52 fun x54 h55 =>
  gdK x53 true (fun kk => vK (v_eql x54 (.int .i64 (.ofNat 0))) fun v => kk v h55) h55 fun x56 h57 =>
  vK (v_pick x53 x56 (.bool false)) fun x58 =>
  gdK x58 true (fun kk => kk x19 h57) h57 fun x59 h60 =>
  gdK x58 true (fun kk => n_bsl 1 1 [(.int .i64 (.ofNat 0))] [(0, 1, (.int .i64 (.ofNat 0)))] h60 kk) h60 fun x61 h62 =>
  gdK x58 true (fun kk => wK (callK E 35 [x59, x61] h62) kk) h62 fun x63 h64 =>
  vK (v_pick x58 x63 (.bool false)) fun x65 =>
  gdK x65 true (fun kk => kk x23 h64) h64 fun x66 h67 =>
  gdK x65 true (fun kk => vK (v_eql x66 (.str [98])) fun v => kk v h67) h67 fun x68 h69 =>
  vK (v_pick x65 x68 (.bool false)) fun x70 =>
  gdK x70 true (fun kk => kk x24 h69) h69 fun x71 h72 =>
  gdK x70 true (fun kk => vK (v_eql x71 (.int .i64 (.ofNat 3))) fun v => kk v h72) h72 fun x73 h74 =>
  vK (v_pick x70 x73 (.bool false)) fun x75 =>
  gdK x75 true (fun kk => kk x25 h74) h74 fun x76 h77 =>
  gdK x75 true (fun kk => vK (v_eql x76 (.int .i64 (.ofNat 0))) fun v => kk v h77) h77 fun x78 h79 =>
  vK (v_pick x75 x78 (.bool false)) fun x80 =>
  gdK x80 true (fun kk => kk x33 h79) h79 fun x81 h82 =>
  gdK x80 true (fun kk => vK (v_eql x81 (.int .i64 (.ofNat 9))) fun v => kk v h82) h82 fun x83 h84 =>
  vK (v_pick x80 x83 (.bool false)) fun x85 =>
  gdK x85 true (fun kk => kk x37 h84) h84 fun x86 h87 =>
  gdK x85 true (fun kk => vK (v_eql x86 (.int .i64 (.ofNat 7))) fun v => kk v h87) h87 fun x88 h89 =>
  vK (v_pick x85 x88 (.bool false)) fun x90 =>
  gdK x90 true (fun kk => kk x1 h89) h89 fun x91 h92 =>
  gdK x90 true (fun kk => wK (callK E 9 [x91, (.int .i64 (.ofNat 0))] h92) kk) h92 fun x93 h94 =>
  gdK x90 true (fun kk => vK (v_eql x93 (.int .i64 (.ofNat 9))) fun v => kk v h94) h94 fun x95 h96 =>
  vK (v_pick x90 x95 (.bool false)) fun x97 =>
  some (x97, h96))
def C10_0 : DC := (.seq (.reg [⟨(some p0), none, (.e (.mv (.c (.bool false))))⟩]) (.seq (.reg [⟨(some p15), none, (.c (.f 33 [(.c (.int .i64 (.ofNat 3))), (.c (.int .i64 (.ofNat 60))), (.c (.int .i64 (.ofNat 3))), (.c (.int .i64 (.ofNat 0)))]))⟩, ⟨(some p1), none, (.e (.mv (.r p15)))⟩]) (.seq (.seq (.reg [⟨(some p16), none, (.e (.mv (.r p1)))⟩, ⟨(some p17), none, (.e (.eqv .ptr false (.r p16) (.c .nilp)))⟩]) (.cond (.r p17) (.seq (.reg [⟨(some p0), none, (.e (.mv (.c (.bool false))))⟩]) .ret) .skip)) (.seq (.reg [⟨(some p18), none, (.e (.mv (.r p1)))⟩, ⟨(some p19), none, (.c (.f 18 [(.r p18), (.c (.int .i64 (.ofNat 0))), (.c (.str [97, 98, 99, 100, 101, 102])), (.c (.int .i64 (.negSucc 0)))]))⟩]) (.seq (.reg [⟨(some p21), none, (.e (.mv (.r p1)))⟩, ⟨(some p22), none, (.c (.f 7 [(.r p21), (.c (.int .i64 (.ofNat 0))), (.c (.int .i64 (.ofNat 1))), (.c (.int .i64 (.ofNat 2)))]))⟩, ⟨(some p20), none, (.e (.mv (.r p22)))⟩, ⟨(some p23), none, (.e (.ext 0 (.r p20)))⟩, ⟨(some p24), none, (.e (.ext 1 (.r p20)))⟩, ⟨(some p25), none, (.e (.ext 2 (.r p20)))⟩, ⟨(some p2), none, (.e (.mv (.r p23)))⟩, ⟨(some p3), none, (.e (.mv (.r p24)))⟩, ⟨(some p4), none, (.e (.mv (.r p25)))⟩]) (.seq (.reg [⟨(some p26), none, (.e (.mv (.r p1)))⟩, ⟨(some p27), none, (.c (.f 23 [(.r p26)]))⟩, ⟨(some p28), none, (.c (.f 34 [(.r p27), (.c (.int .i64 (.ofNat 0))), (.c (.bool true))]))⟩]) (.seq (.reg [⟨(some p30), none, (.e (.mv (.r p1)))⟩, ⟨(some p31), none, (.c (.f 6 [(.r p30), (.c (.int .i64 (.ofNat 0)))]))⟩, ⟨(some p29), none, (.e (.mv (.r p31)))⟩, ⟨(some p32), none, (.e (.ext 0 (.r p29)))⟩, ⟨(some p33), none, (.e (.ext 1 (.r p29)))⟩, ⟨(some p5), none, (.e (.mv (.r p32)))⟩, ⟨(some p6), none, (.e (.mv (.r p33)))⟩]) (.seq (.reg [⟨(some p34), none, (.e (.mv (.r p1)))⟩, ⟨(some p35), none, (.c (.f 8 [(.r p34), (.c (.int .i64 (.ofNat 0)))]))⟩, ⟨(some p7), none, (.e (.mv (.r p35)))⟩]) (.seq (.reg [⟨(some p37), none, (.e (.mv (.r p1)))⟩, ⟨(some p38), none, (.c (.f 7 [(.r p37), (.c (.int .i64 (.ofNat 0))), (.c (.int .i64 (.ofNat 1))), (.c (.int .i64 (.ofNat 1)))]))⟩, ⟨(some p36), none, (.e (.mv (.r p38)))⟩, ⟨(some p39), none, (.e (.ext 0 (.r p36)))⟩, ⟨(some p40), none, (.e (.ext 1 (.r p36)))⟩, ⟨(some p41), none, (.e (.ext 2 (.r p36)))⟩, ⟨(some p8), none, (.e (.mv (.r p39)))⟩, ⟨(some p9), none, (.e (.mv (.r p40)))⟩, ⟨(some p10), none, (.e (.mv (.r p41)))⟩]) (.seq (.reg [⟨(some p42), none, (.e (.mv (.r p1)))⟩, ⟨(some p43), none, (.c (.f 23 [(.r p42)]))⟩, ⟨(some p44), none, (.c (.f 34 [(.r p43), (.c (.int .i64 (.ofNat 1))), (.c (.bool true))]))⟩]) (.seq (.reg [⟨(some p46), none, (.e (.mv (.r p1)))⟩, ⟨(some p47), none, (.c (.f 6 [(.r p46), (.c (.int .i64 (.ofNat 0)))]))⟩, ⟨(some p45), none, (.e (.mv (.r p47)))⟩, ⟨(some p48), none, (.e (.ext 0 (.r p45)))⟩, ⟨(some p49), none, (.e (.ext 1 (.r p45)))⟩, ⟨(some p11), none, (.e (.mv (.r p48)))⟩, ⟨(some p12), none, (.e (.mv (.r p49)))⟩]) (.seq (.reg [⟨(some p51), none, (.e (.mv (.r p1)))⟩, ⟨(some p52), none, (.c (.f 6 [(.r p51), (.c (.int .i64 (.ofNat 1)))]))⟩, ⟨(some p50), none, (.e (.mv (.r p52)))⟩, ⟨(some p53), none, (.e (.ext 0 (.r p50)))⟩, ⟨(some p54), none, (.e (.ext 1 (.r p50)))⟩, ⟨(some p13), none, (.e (.mv (.r p53)))⟩, ⟨(some p14), none, (.e (.mv (.r p54)))⟩]) (.seq (.reg [⟨(some p55), none, (.e (.mv (.r p2)))⟩, ⟨(some p56), none, (.e (.bin .eql (.r p55) (.c (.str [98, 99]))))⟩, ⟨(some p57), none, (.e (.mv (.r p56)))⟩, ⟨(some p58), (some (p57, true)), (.e (.mv (.r p3)))⟩, ⟨(some p59), (some (p57, true)), (.e (.bin .eql (.r p58) (.c (.int .i64 (.ofNat 1)))))⟩, ⟨(some p60), none, (.e (.pick (.r p57) (.r p59) (.c (.bool false))))⟩, ⟨(some p61), none, (.e (.mv (.r p60)))⟩, ⟨(some p62), (some (p61, true)), (.e (.mv (.r p4)))⟩, ⟨(some p63), (some (p61, true)), (.e (.bin .eql (.r p62) (.c (.int .i64 (.ofNat 0)))))⟩, ⟨(some p64), none, (.e (.pick (.r p61) (.r p63) (.c (.bool false))))⟩, ⟨(some p65), none, (.e (.mv (.r p64)))⟩, ⟨(some p66), (some (p65, true)), (.e (.mv (.r p5)))⟩, ⟨(some p67), (some (p65, true)), (.e (.bin .eql (.r p66) (.c (.str [97, 98, 99, 100, 101, 102]))))⟩, ⟨(some p68), none, (.e (.pick (.r p65) (.r p67) (.c (.bool false))))⟩, ⟨(some p69), none, (.e (.mv (.r p68)))⟩, ⟨(some p70), (some (p69, true)), (.e (.mv (.r p6)))⟩, ⟨(some p71), (some (p69, true)), (.e (.bin .eql (.r p70) (.c (.int .i64 (.ofNat 0)))))⟩, ⟨(some p72), none, (.e (.pick (.r p69) (.r p71) (.c (.bool false))))⟩, ⟨(some p73), none, (.e (.mv (.r p72)))⟩, ⟨(some p74), (some (p73, true)), (.e (.mv (.r p7)))⟩, ⟨(some p75), (some (p73, true)), (.e (.bsl 1 1 [(.int .i64 (.ofNat 0))] [(0, 1, (.c (.int .i64 (.ofNat 0))))]))⟩, ⟨(some p76), (some (p73, true)), (.c (.f 35 [(.r p74), (.r p75)]))⟩, ⟨(some p77), none, (.e (.pick (.r p73) (.r p76) (.c (.bool false))))⟩, ⟨(some p78), none, (.e (.mv (.r p77)))⟩, ⟨(some p79), (some (p78, true)), (.e (.mv (.r p8)))⟩, ⟨(some p80), (some (p78, true)), (.e (.bin .eql (.r p79) (.c (.str [98]))))⟩, ⟨(some p81), none, (.e (.pick (.r p78) (.r p80) (.c (.bool false))))⟩, ⟨(some p82), none, (.e (.mv (.r p81)))⟩, ⟨(some p83), (some (p82, true)), (.e (.mv (.r p9)))⟩, ⟨(some p84), (some (p82, true)), (.e (.bin .eql (.r p83) (.c (.int .i64 (.ofNat 3)))))⟩, ⟨(some p85), none, (.e (.pick (.r p82) (.r p84) (.c (.bool false))))⟩, ⟨(some p86), none, (.e (.mv (.r p85)))⟩, ⟨(some p87), (some (p86, true)), (.e (.mv (.r p10)))⟩, ⟨(some p88), (some (p86, true)), (.e (.bin .eql (.r p87) (.c (.int .i64 (.ofNat 0)))))⟩, ⟨(some p89), none, (.e (.pick (.r p86) (.r p88) (.c (.bool false))))⟩, ⟨(some p90), none, (.e (.mv (.r p89)))⟩, ⟨(some p91), (some (p90, true)), (.e (.mv (.r p12)))⟩, ⟨(some p92), (some (p90, true)), (.e (.bin .eql (.r p91) (.c (.int .i64 (.ofNat 9)))))⟩, ⟨(some p93), none, (.e (.pick (.r p90) (.r p92) (.c (.bool false))))⟩, ⟨(some p94), none, (.e (.mv (.r p93)))⟩, ⟨(some p95), (some (p94, true)), (.e (.mv (.r p14)))⟩, ⟨(some p96), (some (p94, true)), (.e (.bin .eql (.r p95) (.c (.int .i64 (.ofNat 7)))))⟩, ⟨(some p97), none, (.e (.pick (.r p94) (.r p96) (.c (.bool false))))⟩, ⟨(some p98), none, (.e (.mv (.r p97)))⟩, ⟨(some p99), (some (p98, true)), (.e (.mv (.r p1)))⟩, ⟨(some p100), (some (p98, true)), (.c (.f 9 [(.r p99), (.c (.int .i64 (.ofNat 0)))]))⟩, ⟨(some p101), (some (p98, true)), (.e (.bin .eql (.r p100) (.c (.int .i64 (.ofNat 9)))))⟩, ⟨(some p102), none, (.e (.pick (.r p98) (.r p101) (.c (.bool false))))⟩, ⟨(some p0), none, (.e (.mv (.r p102)))⟩]) .ret)))))))))))))
theorem I10_0 (E : Env) : Is E C10_0 (retK3 R10) (fun σ h => J10_0 E h) :=
  fun σ h => by kernel_rfl
def D10 : DF := ⟨0, 103, C10_0, R10⟩
noncomputable def S10 (E : Env) : Fun := fun args h => a0 args (J10_0 E h)
theorem S10_eq (E : Env) (args : List DV) (h : H) : runFn E D10 args h = S10 E args h :=
  Is.fn0 (d := D10) (I10_0 E) rfl (fun h => J10_0 E h) (fun h => by kernel_rfl) args h
/- (*hurdle/array.Array).Do -/
def R17 : List RV := [(.r p8), (.r p9)]
noncomputable def J17_1 (E : Env) (r0 r1 r10 : DV) (h : H) : Ans :=
  vK (v_ldN 8 h.get r10) fun x1 =>
  wK (callK E 42 [x1] h) fun x2 h3 =>
  vK (v_ext 0 x2) fun x4 =>
  vK (v_ext 1 x2) fun x5 =>
  vK (v_neq x5 (.int .i64 (.ofNat 0))) fun x6 =>
  bK x6
  (some ((.tup [(.int .i64 (.ofNat 1)), .nils]), h3))
  (vK (v_nilchk r0) fun x7 =>
  vK (v_fa 3 x7) fun x8 =>
  vK (v_iaA 16 1 x8 r1) fun x9 =>
  vK (v_ld h3.get x9) fun x10 =>
  vK (v_add x10 (.int .i64 (.ofNat 1))) fun x11 =>
  vK (v_nilchk r0) fun x12 =>
  vK (v_fa 3 x12) fun x13 =>
  vK (v_iaA 16 1 x13 r1) fun x14 =>
  wK (dStF 1 x14 x11 h3) fun x15 h16 =>
  vK (v_nilchk r0) fun x17 =>
  vK (v_fa 1 x17) fun x18 =>
  vK (v_ld h16.get x18) fun x19 =>
  wK (callK E 44 [x19, x4] h16) fun x20 h21 =>
  wK (callK E 43 [x20] h21) fun x22 h23 =>
  vK (v_ext 0 x22) fun x24 =>
  vK (v_ext 1 x22) fun x25 =>
  vK (v_ext 2 x22) fun x26 =>
  some ((.tup [x24, x25]), h23))
def C17_1 : DC := (.seq (.reg [⟨(some p61), none, (.e (.ldN 8 (.r p10)))⟩, ⟨(some p62), none, (.c (.f 42 [(.r p61)]))⟩, ⟨(some p60), none, (.e (.mv (.r p62)))⟩, ⟨(some p63), none, (.e (.ext 0 (.r p60)))⟩, ⟨(some p64), none, (.e (.ext 1 (.r p60)))⟩, ⟨(some p13), none, (.e (.mv (.r p63)))⟩, ⟨(some p14), none, (.e (.mv (.r p64)))⟩]) (.seq (.seq (.reg [⟨(some p65), none, (.e (.mv (.r p14)))⟩, ⟨(some p66), none, (.e (.bin .neq (.r p65) (.c (.int .i64 (.ofNat 0)))))⟩]) (.cond (.r p66) (.seq (.reg [⟨(some p8), none, (.e (.mv (.c (.int .i64 (.ofNat 1)))))⟩, ⟨(some p9), none, (.e (.mv (.c .nils)))⟩]) .ret) .skip)) (.seq (.drg [⟨0, ⟨(some p67), none, (.e (.mv (.r p0)))⟩, [], false⟩, ⟨1, ⟨(some p68), none, (.e (.mv (.r p1)))⟩, [], false⟩, ⟨2, ⟨(some p69), none, (.e (.nilchk (.r p67)))⟩, [], false⟩, ⟨3, ⟨(some p70), none, (.e (.fa 3 (.r p69)))⟩, [], false⟩, ⟨4, ⟨(some p71), none, (.e (.iaA 16 1 (.r p70) (.r p68)))⟩, [], false⟩, ⟨5, ⟨(some p72), none, (.e (.ld (.r p71)))⟩, [], false⟩, ⟨6, ⟨(some p73), none, (.e (.bin .add (.r p72) (.c (.int .i64 (.ofNat 1)))))⟩, [], false⟩, ⟨7, ⟨(some p74), none, (.e (.nilchk (.r p67)))⟩, [], false⟩, ⟨8, ⟨(some p75), none, (.e (.fa 3 (.r p74)))⟩, [], false⟩, ⟨9, ⟨(some p76), none, (.e (.iaA 16 1 (.r p75) (.r p68)))⟩, [], false⟩, ⟨10, ⟨none, none, (.w (.st 1 (.r p76) (.r p73)))⟩, [], false⟩]) (.seq (.reg [⟨(some p78), none, (.e (.mv (.r p0)))⟩, ⟨(some p79), none, (.e (.nilchk (.r p78)))⟩, ⟨(some p80), none, (.e (.fa 1 (.r p79)))⟩, ⟨(some p81), none, (.e (.ld (.r p80)))⟩, ⟨(some p82), none, (.e (.mv (.r p13)))⟩, ⟨(some p83), none, (.c (.f 44 [(.r p81), (.r p82)]))⟩, ⟨(some p84), none, (.c (.f 43 [(.r p83)]))⟩, ⟨(some p77), none, (.e (.mv (.r p84)))⟩, ⟨(some p85), none, (.e (.ext 0 (.r p77)))⟩, ⟨(some p86), none, (.e (.ext 1 (.r p77)))⟩, ⟨(some p87), none, (.e (.ext 2 (.r p77)))⟩, ⟨(some p15), none, (.e (.mv (.r p85)))⟩, ⟨(some p16), none, (.e (.mv (.r p86)))⟩, ⟨(some p17), none, (.e (.mv (.r p87)))⟩]) (.seq (.reg [⟨(some p88), none, (.e (.mv (.r p15)))⟩, ⟨(some p89), none, (.e (.mv (.r p16)))⟩, ⟨(some p8), none, (.e (.mv (.r p88)))⟩, ⟨(some p9), none, (.e (.mv (.r p89)))⟩]) .ret)))))
noncomputable def J17_3 (E : Env) (i2 : DV → H → Ans) (r44 : DV) (h : H) : Ans :=
  vK (v_add r44 (.int .i64 (.ofNat 1))) fun x1 =>
  i2 x1 h
def C17_3 : DC := (.reg [⟨(some p59), none, (.e (.bin .add (.r p44) (.c (.int .i64 (.ofNat 1)))))⟩, ⟨(some p44), none, (.e (.mv (.r p59)))⟩])
noncomputable def B17_2 (E : Env) (r0 r1 r3 r10 r42 r43 : DV) (i2 : DV → H → Ans) (r44 : DV) (h : H) : Ans :=
  vK (v_lss r44 r43) fun x1 =>
  bK x1
  (vK (v_iaS 1 r42 r44) fun x2 =>
  vK (v_ld h.get x2) fun x3 =>
  vK (v_lenL r3) fun x4 =>
  vK (v_lss r44 x4) fun x5 =>
  bK x5
  (vK (v_iaS 1 r3 r44) fun x6 =>
  vK (v_ld h.get x6) fun x7 =>
  vK (v_nilchk x3) fun x8 =>
  wK (dStF 1 x8 x7 h) fun x9 h10 =>
  J17_3 E i2 r44 h10)
  (J17_3 E i2 r44 h))
  (J17_1 E r0 r1 r10 h)
noncomputable def L17_2 (E : Env) (r0 r1 r3 r10 r42 r43 : DV) (n : Nat) : DV → H → Ans := Nat.rec (motive := fun _ => DV → H → Ans) (fun _ _ => none) (fun _ i => B17_2 E r0 r1 r3 r10 r42 r43 i) n
def C17_2 : DC := (.loop (.seq (.reg [⟨(some p45), none, (.e (.bin .lss (.r p44) (.r p43)))⟩]) (.seq (.cond (.r p45) .skip (.exit 0)) (.seq (.block 1 (.seq (.reg [⟨(some p46), none, (.e (.mv (.r p44)))⟩, ⟨(some p47), none, (.e (.iaS 1 (.r p42) (.r p44)))⟩, ⟨(some p48), none, (.e (.ld (.r p47)))⟩, ⟨(some p11), none, (.e (.mv (.r p46)))⟩, ⟨(some p12), none, (.e (.mv (.r p48)))⟩]) (.seq (.reg [⟨(some p49), none, (.e (.mv (.r p11)))⟩, ⟨(some p50), none, (.e (.mv (.r p3)))⟩, ⟨(some p51), none, (.e (.lenL (.r p50)))⟩, ⟨(some p52), none, (.e (.bin .lss (.r p49) (.r p51)))⟩]) (.cond (.r p52) (.reg [⟨(some p53), none, (.e (.mv (.r p12)))⟩, ⟨(some p54), none, (.e (.mv (.r p3)))⟩, ⟨(some p55), none, (.e (.mv (.r p11)))⟩, ⟨(some p56), none, (.e (.iaS 1 (.r p54) (.r p55)))⟩, ⟨(some p57), none, (.e (.ld (.r p56)))⟩, ⟨(some p58), none, (.e (.nilchk (.r p53)))⟩, ⟨none, none, (.w (.st 1 (.r p58) (.r p57)))⟩]) .skip)))) C17_3))))
noncomputable def J17_0 (E : Env) (r0 r1 r2 r3 : DV) (h : H) : Ans :=
  vK (v_eqv .ptr false h.get r0 .nilp) fun x1 =>
  gdK x1 false (fun kk => kk r1 h) h fun x2 h3 =>
  gdK x1 false (fun kk => vK (v_lss x2 (.int .i64 (.ofNat 0))) fun v => kk v h3) h3 fun x4 h5 =>
  vK (v_pick x1 (.bool true) x4) fun x6 =>
  gdK x6 false (fun kk => kk r1 h5) h5 fun x7 h8 =>
  gdK x6 false (fun kk => vK (v_geq x7 (.int .i64 (.ofNat 16))) fun v => kk v h8) h8 fun x9 h10 =>
  vK (v_pick x6 (.bool true) x9) fun x11 =>
  bK x11
  (some ((.tup [(.int .i64 (.ofNat 1)), .nils]), h10))
  (vK (v_nilchk r0) fun x12 =>
  vK (v_fa 3 x12) fun x13 =>
  vK (v_iaA 16 1 x13 r1) fun x14 =>
  vK (v_ld h10.get x14) fun x15 =>
  vK (v_bld [(.int .i64 (.ofNat 0)), (.int .i64 (.ofNat 0)), (.int .i64 (.ofNat 0)), (.int .i64 (.ofNat 0)), (.int .i64 (.ofNat 0)), (.int .i64 (.ofNat 0)), (.int .i64 (.ofNat 0)), (.int .i64 (.ofNat 0))] [(0, 1, r1), (1, 1, x15), (2, 1, r2)]) fun x16 =>
  n_alc 8 8 (.list [(.int .i64 (.ofNat 0)), (.int .i64 (.ofNat 0)), (.int .i64 (.ofNat 0)), (.int .i64 (.ofNat 0)), (.int .i64 (.ofNat 0)), (.int .i64 (.ofNat 0)), (.int .i64 (.ofNat 0)), (.int .i64 (.ofNat 0))]) h10 fun x17 h18 =>
  wK (dStF 8 x17 x16 h18) fun x19 h20 =>
  vK (v_fa 3 x17) fun x21 =>
  vK (v_fa 4 x17) fun x22 =>
  vK (v_fa 5 x17) fun x23 =>
  vK (v_fa 6 x17) fun x24 =>
  vK (v_fa 7 x17) fun x25 =>
  n_bsl 5 1 [.nilp] [(0, 1, x21), (1, 1, x22), (2, 1, x23), (3, 1, x24), (4, 1, x25)] h20 fun x26 h27 =>
  vK (v_lenL x26) fun x28 =>
  L17_2 E r0 r1 r3 x17 x26 x28 FUEL (.int .i64 (.ofNat 0)) h27)
def C17_0 : DC := (.seq (.reg [⟨(some p8), none, (.e (.mv (.c (.int .i64 (.ofNat 0)))))⟩, ⟨(some p9), none, (.e (.mv (.c .nils)))⟩]) (.seq (.seq (.reg [⟨(some p18), none, (.e (.mv (.r p0)))⟩, ⟨(some p19), none, (.e (.eqv .ptr false (.r p18) (.c .nilp)))⟩, ⟨(some p20), none, (.e (.mv (.r p19)))⟩, ⟨(some p21), (some (p20, false)), (.e (.mv (.r p1)))⟩, ⟨(some p22), (some (p20, false)), (.e (.bin .lss (.r p21) (.c (.int .i64 (.ofNat 0)))))⟩, ⟨(some p23), none, (.e (.pick (.r p20) (.c (.bool true)) (.r p22)))⟩, ⟨(some p24), none, (.e (.mv (.r p23)))⟩, ⟨(some p25), (some (p24, false)), (.e (.mv (.r p1)))⟩, ⟨(some p26), (some (p24, false)), (.e (.bin .geq (.r p25) (.c (.int .i64 (.ofNat 16)))))⟩, ⟨(some p27), none, (.e (.pick (.r p24) (.c (.bool true)) (.r p26)))⟩]) (.cond (.r p27) (.seq (.reg [⟨(some p8), none, (.e (.mv (.c (.int .i64 (.ofNat 1)))))⟩, ⟨(some p9), none, (.e (.mv (.c .nils)))⟩]) .ret) .skip)) (.seq (.reg [⟨(some p28), none, (.e (.mv (.r p1)))⟩, ⟨(some p29), none, (.e (.mv (.r p0)))⟩, ⟨(some p30), none, (.e (.mv (.r p1)))⟩, ⟨(some p31), none, (.e (.nilchk (.r p29)))⟩, ⟨(some p32), none, (.e (.fa 3 (.r p31)))⟩, ⟨(some p33), none, (.e (.iaA 16 1 (.r p32) (.r p30)))⟩, ⟨(some p34), none, (.e (.ld (.r p33)))⟩, ⟨(some p35), none, (.e (.mv (.r p2)))⟩, ⟨(some p36), none, (.e (.bld [(.int .i64 (.ofNat 0)), (.int .i64 (.ofNat 0)), (.int .i64 (.ofNat 0)), (.int .i64 (.ofNat 0)), (.int .i64 (.ofNat 0)), (.int .i64 (.ofNat 0)), (.int .i64 (.ofNat 0)), (.int .i64 (.ofNat 0))] [(0, 1, (.r p28)), (1, 1, (.r p34)), (2, 1, (.r p35))]))⟩, ⟨(some p10), none, (.e (.alc 8 8 (.list [(.int .i64 (.ofNat 0)), (.int .i64 (.ofNat 0)), (.int .i64 (.ofNat 0)), (.int .i64 (.ofNat 0)), (.int .i64 (.ofNat 0)), (.int .i64 (.ofNat 0)), (.int .i64 (.ofNat 0)), (.int .i64 (.ofNat 0))])))⟩, ⟨none, none, (.w (.st 8 (.r p10) (.r p36)))⟩]) (.seq (.seq (.reg [⟨(some p37), none, (.e (.fa 3 (.r p10)))⟩, ⟨(some p38), none, (.e (.fa 4 (.r p10)))⟩, ⟨(some p39), none, (.e (.fa 5 (.r p10)))⟩, ⟨(some p40), none, (.e (.fa 6 (.r p10)))⟩, ⟨(some p41), none, (.e (.fa 7 (.r p10)))⟩, ⟨(some p42), none, (.e (.bsl 5 1 [.nilp] [(0, 1, (.r p37)), (1, 1, (.r p38)), (2, 1, (.r p39)), (3, 1, (.r p40)), (4, 1, (.r p41))]))⟩, ⟨(some p43), none, (.e (.lenL (.r p42)))⟩, ⟨(some p44), none, (.e (.mv (.c (.int .i64 (.ofNat 0)))))⟩]) (.block 0 C17_2)) C17_1))))
theorem I17_1 (E : Env) : Is E C17_1 (retK3 R17) (fun σ h => J17_1 E (σ p0) (σ p1) (σ p10) h) :=
  fun σ h => by kernel_rfl
noncomputable abbrev K17_4 (E : Env) : KT2 (DV × H) := (thenK3 (fun σ h => J17_1 E (σ p0) (σ p1) (σ p10) h) (retK3 R17))
noncomputable abbrev K17_5 (E : Env) (n2 : Nat) : KT2 (DV × H) := (thenK3 (fun σ h => (L17_2 E (σ p0) (σ p1) (σ p3) (σ p10) (σ p42) (σ p43) n2) (σ p44) h) (blockK3 0 (K17_4 E)))
theorem I17_3 (E : Env) (n2 : Nat) : Is E C17_3 (K17_5 E n2) (fun σ h => J17_3 E (L17_2 E (σ p0) (σ p1) (σ p3) (σ p10) (σ p42) (σ p43) n2) (σ p44) h) :=
  fun σ h => by kernel_rfl
theorem I17_2 (E : Env) : Is E C17_2 (blockK3 0 (K17_4 E)) (fun σ h => L17_2 E (σ p0) (σ p1) (σ p3) (σ p10) (σ p42) (σ p43) FUEL (σ p44) h) :=
  Is.loop (fun n2 σ h => L17_2 E (σ p0) (σ p1) (σ p3) (σ p10) (σ p42) (σ p43) n2 (σ p44) h) (by kernel_rfl) fun n2 => Is.as (Is.seq (Is.seq (Is.seq (I17_3 E n2) (Is.leaf _)) (Is.leaf _)) (Is.leaf _)) fun σ h => by kernel_rfl
theorem I17_0 (E : Env) : Is E C17_0 (retK3 R17) (fun σ h => J17_0 E (σ p0) (σ p1) (σ p2) (σ p3) h) :=
  Is.as (Is.seq (Is.seq (Is.seq (Is.seq (I17_1 E) (Is.seq (Is.block (I17_2 E)) (Is.leaf _))) (Is.leaf _)) (Is.leaf _)) (Is.leaf _)) fun σ h => by kernel_rfl
def D17 : DF := ⟨4, 90, C17_0, R17⟩
noncomputable def S17 (E : Env) : Fun := fun args h => aS args fun r0 args => aS args fun r1 args => aS args fun r2 args => aS args fun r3 args => a0 args (J17_0 E r0 r1 r2 r3 h)
theorem S17_eq (E : Env) (args : List DV) (h : H) : runFn E D17 args h = S17 E args h :=
  Is.fn4 (d := D17) (I17_0 E) rfl (fun r0 r1 r2 r3 h => J17_0 E r0 r1 r2 r3 h) (fun r0 r1 r2 r3 h => by kernel_rfl) args h
/- (*hurdle/array.Array).Write -/
def R18 : List RV := [(.r p8), (.r p9)]
noncomputable def J18_1 (E : Env) (r0 r1 r3 r12 r13 : DV) (h : H) : Ans :=
  vK (v_eql r13 r3) fun x1 =>
  bK x1
  (some ((.tup [(.int .i64 (.ofNat 0)), (.int .i64 (.ofNat 16))]), h))
  (n_bsl 1 1 [(.int .i64 (.ofNat 0))] [(0, 1, r12)] h fun x2 h3 =>
  wK (callK E 17 [r0, r1, (.int .i64 (.ofNat 2)), x2] h3) fun x4 h5 =>
  vK (v_ext 0 x4) fun x6 =>
  vK (v_ext 1 x4) fun x7 =>
  vK (v_neq x6 (.int .i64 (.ofNat 0))) fun x8 =>
  bK x8
  (some ((.tup [(.int .i64 (.ofNat 0)), x6]), h5))
  (some ((.tup [r12, (.int .i64 (.ofNat 0))]), h5)))
def C18_1 : DC := (.seq (.seq (.reg [⟨(some p100), none, (.e (.mv (.r p13)))⟩, ⟨(some p101), none, (.e (.mv (.r p3)))⟩, ⟨(some p102), none, (.e (.bin .eql (.r p100) (.r p101)))⟩]) (.cond (.r p102) (.seq (.reg [⟨(some p8), none, (.e (.mv (.c (.int .i64 (.ofNat 0)))))⟩, ⟨(some p9), none, (.e (.mv (.c (.int .i64 (.ofNat 16)))))⟩]) .ret) .skip)) (.seq (.seq (.reg [⟨(some p104), none, (.e (.mv (.r p0)))⟩, ⟨(some p105), none, (.e (.mv (.r p1)))⟩, ⟨(some p106), none, (.e (.mv (.r p12)))⟩, ⟨(some p107), none, (.e (.bsl 1 1 [(.int .i64 (.ofNat 0))] [(0, 1, (.r p106))]))⟩, ⟨(some p108), none, (.c (.f 17 [(.r p104), (.r p105), (.c (.int .i64 (.ofNat 2))), (.r p107)]))⟩, ⟨(some p103), none, (.e (.mv (.r p108)))⟩, ⟨(some p109), none, (.e (.ext 0 (.r p103)))⟩, ⟨(some p110), none, (.e (.ext 1 (.r p103)))⟩, ⟨(some p19), none, (.e (.mv (.r p109)))⟩, ⟨(some p20), none, (.e (.mv (.r p110)))⟩]) (.seq (.reg [⟨(some p111), none, (.e (.mv (.r p19)))⟩, ⟨(some p112), none, (.e (.bin .neq (.r p111) (.c (.int .i64 (.ofNat 0)))))⟩]) (.cond (.r p112) (.seq (.reg [⟨(some p113), none, (.e (.mv (.r p19)))⟩, ⟨(some p8), none, (.e (.mv (.c (.int .i64 (.ofNat 0)))))⟩, ⟨(some p9), none, (.e (.mv (.r p113)))⟩]) .ret) .skip))) (.seq (.reg [⟨(some p114), none, (.e (.mv (.r p12)))⟩, ⟨(some p8), none, (.e (.mv (.r p114)))⟩, ⟨(some p9), none, (.e (.mv (.c (.int .i64 (.ofNat 0)))))⟩]) .ret)))
noncomputable def J18_3 (E : Env) (i2 : DV → DV → DV → H → Ans) (r13 r14 r71 : DV) (h : H) : Ans :=
  vK (v_add r71 (.int .i64 (.ofNat 1))) fun x1 =>
  i2 r13 r14 x1 h
def C18_3 : DC := (.reg [⟨(some p99), none, (.e (.bin .add (.r p71) (.c (.int .i64 (.ofNat 1)))))⟩, ⟨(some p71), none, (.e (.mv (.r p99)))⟩])
noncomputable def J18_4 (E : Env) (i2 : DV → DV → DV → H → Ans) (r0 r1 r12 r13 r14 r71 : DV) (h : H) : Ans :=
  vK (v_gtr r14 (.int .i64 (.ofNat 1))) fun x1 =>
  bK x1
  (n_bsl 1 1 [(.int .i64 (.ofNat 0))] [(0, 1, r12)] h fun x2 h3 =>
  wK (callK E 17 [r0, r1, (.int .i64 (.ofNat 3)), x2] h3) fun x4 h5 =>
  wK (callK E 46 [r0, r12] h5) fun x6 h7 =>
  some ((.tup [(.int .i64 (.ofNat 0)), (.int .i64 (.ofNat 9))]), h7))
  (J18_3 E i2 r13 r14 r71 h)
def C18_4 : DC := (.seq (.reg [⟨(some p89), none, (.e (.mv (.r p14)))⟩, ⟨(some p90), none, (.e (.bin .gtr (.r p89) (.c (.int .i64 (.ofNat 1)))))⟩]) (.cond (.r p90) (.seq (.reg [⟨(some p91), none, (.e (.mv (.r p0)))⟩, ⟨(some p92), none, (.e (.mv (.r p1)))⟩, ⟨(some p93), none, (.e (.mv (.r p12)))⟩, ⟨(some p94), none, (.e (.bsl 1 1 [(.int .i64 (.ofNat 0))] [(0, 1, (.r p93))]))⟩, ⟨(some p95), none, (.c (.f 17 [(.r p91), (.r p92), (.c (.int .i64 (.ofNat 3))), (.r p94)]))⟩]) (.seq (.reg [⟨(some p96), none, (.e (.mv (.r p0)))⟩, ⟨(some p97), none, (.e (.mv (.r p12)))⟩, ⟨(some p98), none, (.c (.f 46 [(.r p96), (.r p97)]))⟩]) (.seq (.reg [⟨(some p8), none, (.e (.mv (.c (.int .i64 (.ofNat 0)))))⟩, ⟨(some p9), none, (.e (.mv (.c (.int .i64 (.ofNat 9)))))⟩]) .ret))) .skip))
noncomputable def B18_2 (E : Env) (r0 r1 r3 r12 r69 r70 : DV) (i2 : DV → DV → DV → H → Ans) (r13 r14 r71 : DV) (h : H) : Ans :=
  vK (v_lss r71 r70) fun x1 =>
  bK x1
  (vK (v_iaS 1 r69 r71) fun x2 =>
  vK (v_ld h.get x2) fun x3 =>
  vK (v_eql r13 r3) fun x4 =>
  bK x4
  (some ((.tup [(.int .i64 (.ofNat 0)), (.int .i64 (.ofNat 16))]), h))
  (vK (v_add r13 (.int .i64 (.ofNat 1))) fun x5 =>
  wK (callK E 20 [r0, r12, r71, x3] h) fun x6 h7 =>
  vK (v_neq x6 (.int .i64 (.ofNat 0))) fun x8 =>
  bK x8
  (vK (v_add r14 (.int .i64 (.ofNat 1))) fun x9 =>
  J18_4 E i2 r0 r1 r12 x5 x9 r71 h7)
  (J18_4 E i2 r0 r1 r12 x5 r14 r71 h7)))
  (J18_1 E r0 r1 r3 r12 r13 h)
noncomputable def L18_2 (E : Env) (r0 r1 r3 r12 r69 r70 : DV) (n : Nat) : DV → DV → DV → H → Ans := Nat.rec (motive := fun _ => DV → DV → DV → H → Ans) (fun _ _ _ _ => none) (fun _ i => B18_2 E r0 r1 r3 r12 r69 r70 i) n
def C18_2 : DC := (.loop (.seq (.reg [⟨(some p72), none, (.e (.bin .lss (.r p71) (.r p70)))⟩]) (.seq (.cond (.r p72) .skip (.exit 1)) (.seq (.block 2 (.seq (.reg [⟨(some p73), none, (.e (.mv (.r p71)))⟩, ⟨(some p74), none, (.e (.iaS 1 (.r p69) (.r p71)))⟩, ⟨(some p75), none, (.e (.ld (.r p74)))⟩, ⟨(some p17), none, (.e (.mv (.r p73)))⟩, ⟨(some p18), none, (.e (.mv (.r p75)))⟩]) (.seq (.seq (.reg [⟨(some p76), none, (.e (.mv (.r p13)))⟩, ⟨(some p77), none, (.e (.mv (.r p3)))⟩, ⟨(some p78), none, (.e (.bin .eql (.r p76) (.r p77)))⟩]) (.cond (.r p78) (.seq (.reg [⟨(some p8), none, (.e (.mv (.c (.int .i64 (.ofNat 0)))))⟩, ⟨(some p9), none, (.e (.mv (.c (.int .i64 (.ofNat 16)))))⟩]) .ret) .skip)) (.seq (.reg [⟨(some p79), none, (.e (.mv (.r p13)))⟩, ⟨(some p80), none, (.e (.bin .add (.r p79) (.c (.int .i64 (.ofNat 1)))))⟩, ⟨(some p13), none, (.e (.mv (.r p80)))⟩]) (.seq (.seq (.reg [⟨(some p81), none, (.e (.mv (.r p0)))⟩, ⟨(some p82), none, (.e (.mv (.r p12)))⟩, ⟨(some p83), none, (.e (.mv (.r p17)))⟩, ⟨(some p84), none, (.e (.mv (.r p18)))⟩, ⟨(some p85), none, (.c (.f 20 [(.r p81), (.r p82), (.r p83), (.r p84)]))⟩, ⟨(some p86), none, (.e (.bin .neq (.r p85) (.c (.int .i64 (.ofNat 0)))))⟩]) (.cond (.r p86) (.reg [⟨(some p87), none, (.e (.mv (.r p14)))⟩, ⟨(some p88), none, (.e (.bin .add (.r p87) (.c (.int .i64 (.ofNat 1)))))⟩, ⟨(some p14), none, (.e (.mv (.r p88)))⟩]) .skip)) C18_4))))) C18_3))))
noncomputable def J18_0 (E : Env) (r0 r1 r2 r3 : DV) (h : H) : Ans :=
  vK (v_eqv .ptr false h.get r0 .nilp) fun x1 =>
  gdK x1 false (fun kk => kk r1 h) h fun x2 h3 =>
  gdK x1 false (fun kk => vK (v_lss x2 (.int .i64 (.ofNat 0))) fun v => kk v h3) h3 fun x4 h5 =>
  vK (v_pick x1 (.bool true) x4) fun x6 =>
  gdK x6 false (fun kk => kk r1 h5) h5 fun x7 h8 =>
  gdK x6 false (fun kk => vK (v_geq x7 (.int .i64 (.ofNat 16))) fun v => kk v h8) h8 fun x9 h10 =>
  vK (v_pick x6 (.bool true) x9) fun x11 =>
  bK x11
  (some ((.tup [(.int .i64 (.ofNat 0)), (.int .i64 (.ofNat 1))]), h10))
  (vK (v_eql r2 (.str [])) fun x12 =>
  gdK x12 false (fun kk => kk r2 h10) h10 fun x13 h14 =>
  gdK x12 false (fun kk => vK (v_lenS x13) fun v => kk v h14) h14 fun x15 h16 =>
  gdK x12 false (fun kk => kk r0 h16) h16 fun x17 h18 =>
  gdK x12 false (fun kk => wK (callK E 25 [x17] h18) kk) h18 fun x19 h20 =>
  gdK x12 false (fun kk => vK (v_gtr x15 x19) fun v => kk v h20) h20 fun x21 h22 =>
  vK (v_pick x12 (.bool true) x21) fun x23 =>
  bK x23
  (some ((.tup [(.int .i64 (.ofNat 0)), (.int .i64 (.ofNat 2))]), h22))
  (vK (v_eql r3 (.int .i64 (.ofNat 0))) fun x24 =>
  bK x24
  (some ((.tup [(.int .i64 (.ofNat 0)), (.int .i64 (.ofNat 16))]), h22))
  (vK (v_lenS r2) fun x25 =>
  n_bsl 1 1 [(.int .i64 (.ofNat 0))] [(0, 1, x25)] h22 fun x26 h27 =>
  wK (callK E 17 [r0, r1, (.int .i64 (.ofNat 1)), x26] h27) fun x28 h29 =>
  vK (v_ext 0 x28) fun x30 =>
  vK (v_ext 1 x28) fun x31 =>
  vK (v_neq x30 (.int .i64 (.ofNat 0))) fun x32 =>
  bK x32
  (some ((.tup [(.int .i64 (.ofNat 0)), x30]), h29))
  (vK (v_iaS 1 x31 (.int .i64 (.ofNat 0))) fun x33 =>
  vK (v_ld h29.get x33) fun x34 =>
  vK (v_nilchk r0) fun x35 =>
  vK (v_fa 2 x35) fun x36 =>
  vK (v_ld h29.get x36) fun x37 =>
  wK (callK E 45 [r2, x37] h29) fun x38 h39 =>
  vK (v_ext 0 x38) fun x40 =>
  vK (v_ext 1 x38) fun x41 =>
  vK (v_lenL x40) fun x42 =>
  L18_2 E r0 r1 r3 x34 x40 x42 FUEL (.int .i64 (.ofNat 1)) (.int .i64 (.ofNat 0)) (.int .i64 (.ofNat 0)) h39))))
def C18_0 : DC := (.seq (.reg [⟨(some p8), none, (.e (.mv (.c (.int .i64 (.ofNat 0)))))⟩, ⟨(some p9), none, (.e (.mv (.c (.int .i64 (.ofNat 0)))))⟩]) (.seq (.block 0 (.seq (.reg [⟨(some p22), none, (.e (.mv (.r p0)))⟩, ⟨(some p23), none, (.e (.eqv .ptr false (.r p22) (.c .nilp)))⟩, ⟨(some p24), none, (.e (.mv (.r p23)))⟩, ⟨(some p25), (some (p24, false)), (.e (.mv (.r p1)))⟩, ⟨(some p26), (some (p24, false)), (.e (.bin .lss (.r p25) (.c (.int .i64 (.ofNat 0)))))⟩, ⟨(some p27), none, (.e (.pick (.r p24) (.c (.bool true)) (.r p26)))⟩, ⟨(some p28), none, (.e (.mv (.r p27)))⟩, ⟨(some p29), (some (p28, false)), (.e (.mv (.r p1)))⟩, ⟨(some p30), (some (p28, false)), (.e (.bin .geq (.r p29) (.c (.int .i64 (.ofNat 16)))))⟩, ⟨(some p31), none, (.e (.pick (.r p28) (.c (.bool true)) (.r p30)))⟩, ⟨(some p21), none, (.e (.mv (.r p31)))⟩]) (.cond (.r p21) (.seq (.reg [⟨(some p8), none, (.e (.mv (.c (.int .i64 (.ofNat 0)))))⟩, ⟨(some p9), none, (.e (.mv (.c (.int .i64 (.ofNat 1)))))⟩]) .ret) (.seq (.reg [⟨(some p33), none, (.e (.mv (.r p2)))⟩, ⟨(some p34), none, (.e (.bin .eql (.r p33) (.c (.str []))))⟩, ⟨(some p35), none, (.e (.mv (.r p34)))⟩, ⟨(some p36), (some (p35, false)), (.e (.mv (.r p2)))⟩, ⟨(some p37), (some (p35, false)), (.e (.lenS (.r p36)))⟩, ⟨(some p38), (some (p35, false)), (.e (.mv (.r p0)))⟩, ⟨(some p39), (some (p35, false)), (.c (.f 25 [(.r p38)]))⟩, ⟨(some p40), (some (p35, false)), (.e (.bin .gtr (.r p37) (.r p39)))⟩, ⟨(some p41), none, (.e (.pick (.r p35) (.c (.bool true)) (.r p40)))⟩, ⟨(some p32), none, (.e (.mv (.r p41)))⟩]) (.cond (.r p32) (.seq (.reg [⟨(some p8), none, (.e (.mv (.c (.int .i64 (.ofNat 0)))))⟩, ⟨(some p9), none, (.e (.mv (.c (.int .i64 (.ofNat 2)))))⟩]) .ret) (.seq (.reg [⟨(some p43), none, (.e (.mv (.r p3)))⟩, ⟨(some p44), none, (.e (.bin .eql (.r p43) (.c (.int .i64 (.ofNat 0)))))⟩, ⟨(some p42), none, (.e (.mv (.r p44)))⟩]) (.cond (.r p42) (.seq (.reg [⟨(some p8), none, (.e (.mv (.c (.int .i64 (.ofNat 0)))))⟩, ⟨(some p9), none, (.e (.mv (.c (.int .i64 (.ofNat 16)))))⟩]) .ret) .skip))))))) (.seq (.reg [⟨(some p46), none, (.e (.mv (.r p0)))⟩, ⟨(some p47), none, (.e (.mv (.r p1)))⟩, ⟨(some p48), none, (.e (.mv (.r p2)))⟩, ⟨(some p49), none, (.e (.lenS (.r p48)))⟩, ⟨(some p50), none, (.e (.bsl 1 1 [(.int .i64 (.ofNat 0))] [(0, 1, (.r p49))]))⟩, ⟨(some p51), none, (.c (.f 17 [(.r p46), (.r p47), (.c (.int .i64 (.ofNat 1))), (.r p50)]))⟩, ⟨(some p45), none, (.e (.mv (.r p51)))⟩, ⟨(some p52), none, (.e (.ext 0 (.r p45)))⟩, ⟨(some p53), none, (.e (.ext 1 (.r p45)))⟩, ⟨(some p10), none, (.e (.mv (.r p52)))⟩, ⟨(some p11), none, (.e (.mv (.r p53)))⟩]) (.seq (.seq (.reg [⟨(some p54), none, (.e (.mv (.r p10)))⟩, ⟨(some p55), none, (.e (.bin .neq (.r p54) (.c (.int .i64 (.ofNat 0)))))⟩]) (.cond (.r p55) (.seq (.reg [⟨(some p56), none, (.e (.mv (.r p10)))⟩, ⟨(some p8), none, (.e (.mv (.c (.int .i64 (.ofNat 0)))))⟩, ⟨(some p9), none, (.e (.mv (.r p56)))⟩]) .ret) .skip)) (.seq (.reg [⟨(some p57), none, (.e (.mv (.r p11)))⟩, ⟨(some p58), none, (.e (.iaS 1 (.r p57) (.c (.int .i64 (.ofNat 0)))))⟩, ⟨(some p59), none, (.e (.ld (.r p58)))⟩, ⟨(some p12), none, (.e (.mv (.r p59)))⟩, ⟨(some p13), none, (.e (.mv (.c (.int .i64 (.ofNat 1)))))⟩, ⟨(some p14), none, (.e (.mv (.c (.int .i64 (.ofNat 0)))))⟩]) (.seq (.reg [⟨(some p61), none, (.e (.mv (.r p2)))⟩, ⟨(some p62), none, (.e (.mv (.r p0)))⟩, ⟨(some p63), none, (.e (.nilchk (.r p62)))⟩, ⟨(some p64), none, (.e (.fa 2 (.r p63)))⟩, ⟨(some p65), none, (.e (.ld (.r p64)))⟩, ⟨(some p66), none, (.c (.f 45 [(.r p61), (.r p65)]))⟩, ⟨(some p60), none, (.e (.mv (.r p66)))⟩, ⟨(some p67), none, (.e (.ext 0 (.r p60)))⟩, ⟨(some p68), none, (.e (.ext 1 (.r p60)))⟩, ⟨(some p15), none, (.e (.mv (.r p67)))⟩, ⟨(some p16), none, (.e (.mv (.r p68)))⟩]) (.seq (.seq (.reg [⟨(some p69), none, (.e (.mv (.r p15)))⟩, ⟨(some p70), none, (.e (.lenL (.r p69)))⟩, ⟨(some p71), none, (.e (.mv (.c (.int .i64 (.ofNat 0)))))⟩]) (.block 1 C18_2)) C18_1)))))))
theorem I18_1 (E : Env) : Is E C18_1 (retK3 R18) (fun σ h => J18_1 E (σ p0) (σ p1) (σ p3) (σ p12) (σ p13) h) :=
  fun σ h => by kernel_rfl
noncomputable abbrev K18_5 (E : Env) : KT2 (DV × H) := (thenK3 (fun σ h => J18_1 E (σ p0) (σ p1) (σ p3) (σ p12) (σ p13) h) (retK3 R18))
noncomputable abbrev K18_6 (E : Env) (n2 : Nat) : KT2 (DV × H) := (thenK3 (fun σ h => (L18_2 E (σ p0) (σ p1) (σ p3) (σ p12) (σ p69) (σ p70) n2) (σ p13) (σ p14) (σ p71) h) (blockK3 1 (K18_5 E)))
theorem I18_3 (E : Env) (n2 : Nat) : Is E C18_3 (K18_6 E n2) (fun σ h => J18_3 E (L18_2 E (σ p0) (σ p1) (σ p3) (σ p12) (σ p69) (σ p70) n2) (σ p13) (σ p14) (σ p71) h) :=
  fun σ h => by kernel_rfl
noncomputable abbrev K18_7 (E : Env) (n2 : Nat) : KT2 (DV × H) := (thenK3 (fun σ h => J18_3 E (L18_2 E (σ p0) (σ p1) (σ p3) (σ p12) (σ p69) (σ p70) n2) (σ p13) (σ p14) (σ p71) h) (K18_6 E n2))
theorem I18_4 (E : Env) (n2 : Nat) : Is E C18_4 (blockK3 2 (K18_7 E n2)) (fun σ h => J18_4 E (L18_2 E (σ p0) (σ p1) (σ p3) (σ p12) (σ p69) (σ p70) n2) (σ p0) (σ p1) (σ p12) (σ p13) (σ p14) (σ p71) h) :=
  fun σ h => by kernel_rfl
theorem I18_2 (E : Env) : Is E C18_2 (blockK3 1 (K18_5 E)) (fun σ h => L18_2 E (σ p0) (σ p1) (σ p3) (σ p12) (σ p69) (σ p70) FUEL (σ p13) (σ p14) (σ p71) h) :=
  Is.loop (fun n2 σ h => L18_2 E (σ p0) (σ p1) (σ p3) (σ p12) (σ p69) (σ p70) n2 (σ p13) (σ p14) (σ p71) h) (by kernel_rfl) fun n2 => Is.as (Is.seq (Is.seq (Is.seq (I18_3 E n2) (Is.block (Is.seq (Is.seq (Is.seq (Is.seq (I18_4 E n2) (Is.leaf _)) (Is.leaf _)) (Is.leaf _)) (Is.leaf _)))) (Is.leaf _)) (Is.leaf _)) fun σ h => by kernel_rfl
theorem I18_0 (E : Env) : Is E C18_0 (retK3 R18) (fun σ h => J18_0 E (σ p0) (σ p1) (σ p2) (σ p3) h) :=
  Is.as (Is.seq (Is.seq (Is.seq (Is.seq (Is.seq (Is.seq (Is.seq (I18_1 E) (Is.seq (Is.block (I18_2 E)) (Is.leaf _))) (Is.leaf _)) (Is.leaf _)) (Is.leaf _)) (Is.leaf _)) (Is.leaf _)) (Is.leaf _)) fun σ h => by kernel_rfl
def D18 : DF := ⟨4, 115, C18_0, R18⟩
noncomputable def S18 (E : Env) : Fun := fun args h => aS args fun r0 args => aS args fun r1 args => aS args fun r2 args => aS args fun r3 args => a0 args (J18_0 E r0 r1 r2 r3 h)
theorem S18_eq (E : Env) (args : List DV) (h : H) : runFn E D18 args h = S18 E args h :=
  Is.fn4 (d := D18) (I18_0 E) rfl (fun r0 r1 r2 r3 h => J18_0 E r0 r1 r2 r3 h) (fun r0 r1 r2 r3 h => by kernel_rfl) args h
/- (*hurdle/array.Array).Fragment -/
def R19 : List RV := [(.r p6), (.r p7)]
noncomputable def J19_0 (E : Env) (r0 r1 r2 : DV) (h : H) : Ans :=
  vK (v_eqv .ptr false h.get r0 .nilp) fun x1 =>
  bK x1
  (some ((.tup [(.str []), (.int .i64 (.ofNat 1))]), h))
  (wK (callK E 47 [r0, r1, r2] h) fun x2 h3 =>
  vK (v_ext 0 x2) fun x4 =>
  vK (v_ext 1 x2) fun x5 =>
  vK (v_not x5) fun x6 =>
  bK x6
  (some ((.tup [(.str []), (.int .i64 (.ofNat 7))]), h3))
  (vK (v_nilchk r0) fun x7 =>
  vK (v_fa 0 x7) fun x8 =>
  vK (v_ld h3.get x8) fun x9 =>
  vK (v_bld [(.int .i64 (.ofNat 0)), (.int .i64 (.ofNat 0))] [(0, 1, r1), (1, 1, r2)]) fun x10 =>
  wK (callK E 48 [x9, x4, x10] h3) fun x11 h12 =>
  vK (v_ext 0 x11) fun x13 =>
  vK (v_ext 1 x11) fun x14 =>
  some ((.tup [x13, x14]), h12)))
def C19_0 : DC := (.seq (.reg [⟨(some p6), none, (.e (.mv (.c (.str []))))⟩, ⟨(some p7), none, (.e (.mv (.c (.int .i64 (.ofNat 0)))))⟩]) (.seq (.seq (.reg [⟨(some p10), none, (.e (.mv (.r p0)))⟩, ⟨(some p11), none, (.e (.eqv .ptr false (.r p10) (.c .nilp)))⟩]) (.cond (.r p11) (.seq (.reg [⟨(some p6), none, (.e (.mv (.c (.str []))))⟩, ⟨(some p7), none, (.e (.mv (.c (.int .i64 (.ofNat 1)))))⟩]) .ret) .skip)) (.seq (.reg [⟨(some p13), none, (.e (.mv (.r p0)))⟩, ⟨(some p14), none, (.e (.mv (.r p1)))⟩, ⟨(some p15), none, (.e (.mv (.r p2)))⟩, ⟨(some p16), none, (.c (.f 47 [(.r p13), (.r p14), (.r p15)]))⟩, ⟨(some p12), none, (.e (.mv (.r p16)))⟩, ⟨(some p17), none, (.e (.ext 0 (.r p12)))⟩, ⟨(some p18), none, (.e (.ext 1 (.r p12)))⟩, ⟨(some p8), none, (.e (.mv (.r p17)))⟩, ⟨(some p9), none, (.e (.mv (.r p18)))⟩]) (.seq (.seq (.reg [⟨(some p19), none, (.e (.mv (.r p9)))⟩, ⟨(some p20), none, (.e (.not (.r p19)))⟩]) (.cond (.r p20) (.seq (.reg [⟨(some p6), none, (.e (.mv (.c (.str []))))⟩, ⟨(some p7), none, (.e (.mv (.c (.int .i64 (.ofNat 7)))))⟩]) .ret) .skip)) (.seq (.reg [⟨(some p21), none, (.e (.mv (.r p0)))⟩, ⟨(some p22), none, (.e (.nilchk (.r p21)))⟩, ⟨(some p23), none, (.e (.fa 0 (.r p22)))⟩, ⟨(some p24), none, (.e (.ld (.r p23)))⟩, ⟨(some p25), none, (.e (.mv (.r p8)))⟩, ⟨(some p26), none, (.e (.mv (.r p1)))⟩, ⟨(some p27), none, (.e (.mv (.r p2)))⟩, ⟨(some p28), none, (.e (.bld [(.int .i64 (.ofNat 0)), (.int .i64 (.ofNat 0))] [(0, 1, (.r p26)), (1, 1, (.r p27))]))⟩, ⟨(some p29), none, (.c (.f 48 [(.r p24), (.r p25), (.r p28)]))⟩, ⟨(some p30), none, (.e (.ext 0 (.r p29)))⟩, ⟨(some p31), none, (.e (.ext 1 (.r p29)))⟩, ⟨(some p6), none, (.e (.mv (.r p30)))⟩, ⟨(some p7), none, (.e (.mv (.r p31)))⟩]) .ret)))))
theorem I19_0 (E : Env) : Is E C19_0 (retK3 R19) (fun σ h => J19_0 E (σ p0) (σ p1) (σ p2) h) :=
  fun σ h => by kernel_rfl
def D19 : DF := ⟨3, 32, C19_0, R19⟩
noncomputable def S19 (E : Env) : Fun := fun args h => aS args fun r0 args => aS args fun r1 args => aS args fun r2 args => a0 args (J19_0 E r0 r1 r2 h)
theorem S19_eq (E : Env) (args : List DV) (h : H) : runFn E D19 args h = S19 E args h :=
  Is.fn3 (d := D19) (I19_0 E) rfl (fun r0 r1 r2 h => J19_0 E r0 r1 r2 h) (fun r0 r1 r2 h => by kernel_rfl) args h
/- (*hurdle/array.Array).Set -/
def R20 : List RV := [(.r p8)]
noncomputable def J20_0 (E : Env) (r0 r1 r2 r3 : DV) (h : H) : Ans :=
  vK (v_eqv .ptr false h.get r0 .nilp) fun x1 =>
  bK x1
  (some ((.int .i64 (.ofNat 1)), h))
  (wK (callK E 47 [r0, r1, r2] h) fun x2 h3 =>
  vK (v_ext 0 x2) fun x4 =>
  vK (v_ext 1 x2) fun x5 =>
  vK (v_not x5) fun x6 =>
  bK x6
  (some ((.int .i64 (.ofNat 7)), h3))
  (vK (v_nilchk r0) fun x7 =>
  vK (v_fa 0 x7) fun x8 =>
  vK (v_ld h3.get x8) fun x9 =>
  vK (v_bld [(.int .i64 (.ofNat 0)), (.int .i64 (.ofNat 0))] [(0, 1, r1), (1, 1, r2)]) fun x10 =>
  wK (callK E 49 [x9, x4, x10, r3] h3) fun x11 h12 =>
  some (x11, h12)))
def C20_0 : DC := (.seq (.reg [⟨(some p8), none, (.e (.mv (.c (.int .i64 (.ofNat 0)))))⟩]) (.seq (.seq (.reg [⟨(some p11), none, (.e (.mv (.r p0)))⟩, ⟨(some p12), none, (.e (.eqv .ptr false (.r p11) (.c .nilp)))⟩]) (.cond (.r p12) (.seq (.reg [⟨(some p8), none, (.e (.mv (.c (.int .i64 (.ofNat 1)))))⟩]) .ret) .skip)) (.seq (.reg [⟨(some p14), none, (.e (.mv (.r p0)))⟩, ⟨(some p15), none, (.e (.mv (.r p1)))⟩, ⟨(some p16), none, (.e (.mv (.r p2)))⟩, ⟨(some p17), none, (.c (.f 47 [(.r p14), (.r p15), (.r p16)]))⟩, ⟨(some p13), none, (.e (.mv (.r p17)))⟩, ⟨(some p18), none, (.e (.ext 0 (.r p13)))⟩, ⟨(some p19), none, (.e (.ext 1 (.r p13)))⟩, ⟨(some p9), none, (.e (.mv (.r p18)))⟩, ⟨(some p10), none, (.e (.mv (.r p19)))⟩]) (.seq (.seq (.reg [⟨(some p20), none, (.e (.mv (.r p10)))⟩, ⟨(some p21), none, (.e (.not (.r p20)))⟩]) (.cond (.r p21) (.seq (.reg [⟨(some p8), none, (.e (.mv (.c (.int .i64 (.ofNat 7)))))⟩]) .ret) .skip)) (.seq (.reg [⟨(some p22), none, (.e (.mv (.r p0)))⟩, ⟨(some p23), none, (.e (.nilchk (.r p22)))⟩, ⟨(some p24), none, (.e (.fa 0 (.r p23)))⟩, ⟨(some p25), none, (.e (.ld (.r p24)))⟩, ⟨(some p26), none, (.e (.mv (.r p9)))⟩, ⟨(some p27), none, (.e (.mv (.r p1)))⟩, ⟨(some p28), none, (.e (.mv (.r p2)))⟩, ⟨(some p29), none, (.e (.bld [(.int .i64 (.ofNat 0)), (.int .i64 (.ofNat 0))] [(0, 1, (.r p27)), (1, 1, (.r p28))]))⟩, ⟨(some p30), none, (.e (.mv (.r p3)))⟩, ⟨(some p31), none, (.c (.f 49 [(.r p25), (.r p26), (.r p29), (.r p30)]))⟩, ⟨(some p8), none, (.e (.mv (.r p31)))⟩]) .ret)))))
theorem I20_0 (E : Env) : Is E C20_0 (retK3 R20) (fun σ h => J20_0 E (σ p0) (σ p1) (σ p2) (σ p3) h) :=
  fun σ h => by kernel_rfl
def D20 : DF := ⟨4, 32, C20_0, R20⟩
noncomputable def S20 (E : Env) : Fun := fun args h => aS args fun r0 args => aS args fun r1 args => aS args fun r2 args => aS args fun r3 args => a0 args (J20_0 E r0 r1 r2 r3 h)
theorem S20_eq (E : Env) (args : List DV) (h : H) : runFn E D20 args h = S20 E args h :=
  Is.fn4 (d := D20) (I20_0 E) rfl (fun r0 r1 r2 r3 h => J20_0 E r0 r1 r2 r3 h) (fun r0 r1 r2 r3 h => by kernel_rfl) args h
/- (*hurdle/array.Array).Servers -/
def R23 : List RV := [(.r p2)]
noncomputable def J23_0 (E : Env) (r0 : DV) (h : H) : Ans :=
  vK (v_eqv .ptr false h.get r0 .nilp) fun x1 =>
  bK x1
  (some (.nilp, h))
  (vK (v_nilchk r0) fun x2 =>
  vK (v_fa 0 x2) fun x3 =>
  vK (v_ld h.get x3) fun x4 =>
  some (x4, h))
def C23_0 : DC := (.seq (.reg [⟨(some p2), none, (.e (.mv (.c .nilp)))⟩]) (.seq (.seq (.reg [⟨(some p3), none, (.e (.mv (.r p0)))⟩, ⟨(some p4), none, (.e (.eqv .ptr false (.r p3) (.c .nilp)))⟩]) (.cond (.r p4) (.seq (.reg [⟨(some p2), none, (.e (.mv (.c .nilp)))⟩]) .ret) .skip)) (.seq (.reg [⟨(some p5), none, (.e (.mv (.r p0)))⟩, ⟨(some p6), none, (.e (.nilchk (.r p5)))⟩, ⟨(some p7), none, (.e (.fa 0 (.r p6)))⟩, ⟨(some p8), none, (.e (.ld (.r p7)))⟩, ⟨(some p2), none, (.e (.mv (.r p8)))⟩]) .ret)))
theorem I23_0 (E : Env) : Is E C23_0 (retK3 R23) (fun σ h => J23_0 E (σ p0) h) :=
  fun σ h => by kernel_rfl
def D23 : DF := ⟨1, 9, C23_0, R23⟩
noncomputable def S23 (E : Env) : Fun := fun args h => aS args fun r0 args => a0 args (J23_0 E r0 h)
theorem S23_eq (E : Env) (args : List DV) (h : H) : runFn E D23 args h = S23 E args h :=
  Is.fn1 (d := D23) (I23_0 E) rfl (fun r0 h => J23_0 E r0 h) (fun r0 h => by kernel_rfl) args h
/- (*hurdle/array.Array).Manager -/
def R24 : List RV := [(.r p2)]
noncomputable def J24_0 (E : Env) (r0 : DV) (h : H) : Ans :=
  vK (v_eqv .ptr false h.get r0 .nilp) fun x1 =>
  bK x1
  (some (.nilp, h))
  (vK (v_nilchk r0) fun x2 =>
  vK (v_fa 1 x2) fun x3 =>
  vK (v_ld h.get x3) fun x4 =>
  some (x4, h))
def C24_0 : DC := (.seq (.reg [⟨(some p2), none, (.e (.mv (.c .nilp)))⟩]) (.seq (.seq (.reg [⟨(some p3), none, (.e (.mv (.r p0)))⟩, ⟨(some p4), none, (.e (.eqv .ptr false (.r p3) (.c .nilp)))⟩]) (.cond (.r p4) (.seq (.reg [⟨(some p2), none, (.e (.mv (.c .nilp)))⟩]) .ret) .skip)) (.seq (.reg [⟨(some p5), none, (.e (.mv (.r p0)))⟩, ⟨(some p6), none, (.e (.nilchk (.r p5)))⟩, ⟨(some p7), none, (.e (.fa 1 (.r p6)))⟩, ⟨(some p8), none, (.e (.ld (.r p7)))⟩, ⟨(some p2), none, (.e (.mv (.r p8)))⟩]) .ret)))
theorem I24_0 (E : Env) : Is E C24_0 (retK3 R24) (fun σ h => J24_0 E (σ p0) h) :=
  fun σ h => by kernel_rfl
def D24 : DF := ⟨1, 9, C24_0, R24⟩
noncomputable def S24 (E : Env) : Fun := fun args h => aS args fun r0 args => a0 args (J24_0 E r0 h)
theorem S24_eq (E : Env) (args : List DV) (h : H) : runFn E D24 args h = S24 E args h :=
  Is.fn1 (d := D24) (I24_0 E) rfl (fun r0 h => J24_0 E r0 h) (fun r0 h => by kernel_rfl) args h
/- (*hurdle/array.Array).Most -/
def R25 : List RV := [(.r p2)]
noncomputable def J25_0 (E : Env) (r0 : DV) (h : H) : Ans :=
  vK (v_eqv .ptr false h.get r0 .nilp) fun x1 =>
  bK x1
  (some ((.int .i64 (.ofNat 0)), h))
  (vK (v_nilchk r0) fun x2 =>
  vK (v_fa 2 x2) fun x3 =>
  vK (v_ld h.get x3) fun x4 =>
  vK (v_sub x4 (.int .i64 (.ofNat 1))) fun x5 =>
  vK (v_mul (.int .i64 (.ofNat 512)) x5) fun x6 =>
  some (x6, h))
def C25_0 : DC := (.seq (.reg [⟨(some p2), none, (.e (.mv (.c (.int .i64 (.ofNat 0)))))⟩]) (.seq (.seq (.reg [⟨(some p3), none, (.e (.mv (.r p0)))⟩, ⟨(some p4), none, (.e (.eqv .ptr false (.r p3) (.c .nilp)))⟩]) (.cond (.r p4) (.seq (.reg [⟨(some p2), none, (.e (.mv (.c (.int .i64 (.ofNat 0)))))⟩]) .ret) .skip)) (.seq (.reg [⟨(some p5), none, (.e (.mv (.r p0)))⟩, ⟨(some p6), none, (.e (.nilchk (.r p5)))⟩, ⟨(some p7), none, (.e (.fa 2 (.r p6)))⟩, ⟨(some p8), none, (.e (.ld (.r p7)))⟩, ⟨(some p9), none, (.e (.bin .sub (.r p8) (.c (.int .i64 (.ofNat 1)))))⟩, ⟨(some p10), none, (.e (.bin .mul (.c (.int .i64 (.ofNat 512))) (.r p9)))⟩, ⟨(some p2), none, (.e (.mv (.r p10)))⟩]) .ret)))
theorem I25_0 (E : Env) : Is E C25_0 (retK3 R25) (fun σ h => J25_0 E (σ p0) h) :=
  fun σ h => by kernel_rfl
def D25 : DF := ⟨1, 11, C25_0, R25⟩
noncomputable def S25 (E : Env) : Fun := fun args h => aS args fun r0 args => a0 args (J25_0 E r0 h)
theorem S25_eq (E : Env) (args : List DV) (h : H) : runFn E D25 args h = S25 E args h :=
  Is.fn1 (d := D25) (I25_0 E) rfl (fun r0 h => J25_0 E r0 h) (fun r0 h => by kernel_rfl) args h
/- hurdle/reader.of -/
def R27 : List RV := [(.r p4), (.r p5)]
noncomputable def J27_0 (E : Env) (r0 r1 : DV) (h : H) : Ans :=
  vK (v_eqv .ptr false h.get r0 .nilp) fun x1 =>
  bK x1
  (some ((.tup [.nilp, (.int .i64 (.ofNat 1))]), h))
  (wK (callK E 24 [r0] h) fun x2 h3 =>
  wK (callK E 54 [x2, r1] h3) fun x4 h5 =>
  vK (v_ext 0 x4) fun x6 =>
  vK (v_ext 1 x4) fun x7 =>
  n_alc 6 6 (.list [(.int .i64 (.ofNat 0)), (.int .i64 (.ofNat 0)), (.int .i64 (.ofNat 0)), (.int .i64 (.ofNat 0)), (.int .i64 (.ofNat 0)), .nils]) h5 fun x8 h9 =>
  wK (dStF 6 x8 x6 h9) fun x10 h11 =>
  vK (v_not x7) fun x12 =>
  gdK x12 false (fun kk => vK (v_fa 1 x8) fun v => kk v h11) h11 fun x13 h14 =>
  gdK x12 false (fun kk => vK (v_ld h14.get x13) fun v => kk v h14) h14 fun x15 h16 =>
  gdK x12 false (fun kk => vK (v_neq x15 (.int .i64 (.ofNat 2))) fun v => kk v h16) h16 fun x17 h18 =>
  vK (v_pick x12 (.bool true) x17) fun x19 =>
  bK x19
  (some ((.tup [.nilp, (.int .i64 (.ofNat 7))]), h18))
  (vK (v_fa 5 x8) fun x20 =>
  vK (v_ld h18.get x20) fun x21 =>
  vK (v_lenL x21) fun x22 =>
  vK (v_ldN 6 h18.get x8) fun x23 =>
  vK (v_fa 4 x8) fun x24 =>
  vK (v_ld h18.get x24) fun x25 =>
  n_mks 1 16 (.str []) x22 x22 h18 fun x26 h27 =>
  n_mks 1 1 (.bool false) x22 x22 h27 fun x28 h29 =>
  n_mks 1 1 (.bool false) x22 x22 h29 fun x30 h31 =>
  wK (callK E 55 [x25, x22] h31) fun x32 h33 =>
  rK (rcK (v_ldN 6 h33.get x8) x23) <|
  vK (v_bld [.nilp, (.int .i64 (.ofNat 0)), (.int .i64 (.ofNat 0)), (.int .i64 (.ofNat 0)), (.int .i64 (.ofNat 0)), (.int .i64 (.ofNat 0)), .nils, (.int .i64 (.ofNat 0)), .nils, .nils, .nils] [(0, 1, r0), (1, 6, x23), (7, 1, x32), (8, 1, x26), (9, 1, x28), (10, 1, x30)]) fun x34 =>
  n_box x34 h33 fun x35 h36 =>
  some ((.tup [x35, (.int .i64 (.ofNat 0))]), h36)))
def C27_0 : DC := (.seq (.reg [⟨(some p4), none, (.e (.mv (.c .nilp)))⟩, ⟨(some p5), none, (.e (.mv (.c (.int .i64 (.ofNat 0)))))⟩]) (.seq (.seq (.reg [⟨(some p9), none, (.e (.mv (.r p0)))⟩, ⟨(some p10), none, (.e (.eqv .ptr false (.r p9) (.c .nilp)))⟩]) (.cond (.r p10) (.seq (.reg [⟨(some p4), none, (.e (.mv (.c .nilp)))⟩, ⟨(some p5), none, (.e (.mv (.c (.int .i64 (.ofNat 1)))))⟩]) .ret) .skip)) (.seq (.reg [⟨(some p12), none, (.e (.mv (.r p0)))⟩, ⟨(some p13), none, (.c (.f 24 [(.r p12)]))⟩, ⟨(some p14), none, (.e (.mv (.r p1)))⟩, ⟨(some p15), none, (.c (.f 54 [(.r p13), (.r p14)]))⟩, ⟨(some p11), none, (.e (.mv (.r p15)))⟩, ⟨(some p16), none, (.e (.ext 0 (.r p11)))⟩, ⟨(some p17), none, (.e (.ext 1 (.r p11)))⟩, ⟨(some p6), none, (.e (.alc 6 6 (.list [(.int .i64 (.ofNat 0)), (.int .i64 (.ofNat 0)), (.int .i64 (.ofNat 0)), (.int .i64 (.ofNat 0)), (.int .i64 (.ofNat 0)), .nils])))⟩, ⟨none, none, (.w (.st 6 (.r p6) (.r p16)))⟩, ⟨(some p7), none, (.e (.mv (.r p17)))⟩]) (.seq (.seq (.reg [⟨(some p18), none, (.e (.mv (.r p7)))⟩, ⟨(some p19), none, (.e (.not (.r p18)))⟩, ⟨(some p20), none, (.e (.mv (.r p19)))⟩, ⟨(some p21), (some (p20, false)), (.e (.fa 1 (.r p6)))⟩, ⟨(some p22), (some (p20, false)), (.e (.ld (.r p21)))⟩, ⟨(some p23), (some (p20, false)), (.e (.bin .neq (.r p22) (.c (.int .i64 (.ofNat 2)))))⟩, ⟨(some p24), none, (.e (.pick (.r p20) (.c (.bool true)) (.r p23)))⟩]) (.cond (.r p24) (.seq (.reg [⟨(some p4), none, (.e (.mv (.c .nilp)))⟩, ⟨(some p5), none, (.e (.mv (.c (.int .i64 (.ofNat 7)))))⟩]) .ret) .skip)) (.seq (.reg [⟨(some p25), none, (.e (.fa 5 (.r p6)))⟩, ⟨(some p26), none, (.e (.ld (.r p25)))⟩, ⟨(some p27), none, (.e (.lenL (.r p26)))⟩, ⟨(some p8), none, (.e (.mv (.r p27)))⟩]) (.seq (.drg [⟨0, ⟨(some p28), none, (.e (.mv (.r p0)))⟩, [], false⟩, ⟨1, ⟨(some p29), none, (.e (.ldN 6 (.r p6)))⟩, [], false⟩, ⟨2, ⟨(some p30), none, (.e (.fa 4 (.r p6)))⟩, [], false⟩, ⟨3, ⟨(some p31), none, (.e (.ld (.r p30)))⟩, [], false⟩, ⟨4, ⟨(some p32), none, (.e (.mv (.r p8)))⟩, [], false⟩, ⟨6, ⟨(some p34), none, (.e (.mv (.r p8)))⟩, [], false⟩, ⟨7, ⟨(some p35), none, (.e (.mks 1 16 (.str []) (.r p34) (.r p34)))⟩, [], false⟩, ⟨8, ⟨(some p36), none, (.e (.mv (.r p8)))⟩, [], false⟩, ⟨9, ⟨(some p37), none, (.e (.mks 1 1 (.bool false) (.r p36) (.r p36)))⟩, [], false⟩, ⟨10, ⟨(some p38), none, (.e (.mv (.r p8)))⟩, [], false⟩, ⟨11, ⟨(some p39), none, (.e (.mks 1 1 (.bool false) (.r p38) (.r p38)))⟩, [], false⟩, ⟨5, ⟨(some p33), none, (.c (.f 55 [(.r p31), (.r p32)]))⟩, [1], false⟩, ⟨12, ⟨(some p40), none, (.e (.bld [.nilp, (.int .i64 (.ofNat 0)), (.int .i64 (.ofNat 0)), (.int .i64 (.ofNat 0)), (.int .i64 (.ofNat 0)), (.int .i64 (.ofNat 0)), .nils, (.int .i64 (.ofNat 0)), .nils, .nils, .nils] [(0, 1, (.r p28)), (1, 6, (.r p29)), (7, 1, (.r p33)), (8, 1, (.r p35)), (9, 1, (.r p37)), (10, 1, (.r p39))]))⟩, [], false⟩, ⟨13, ⟨(some p41), none, (.e (.box (.r p40)))⟩, [], false⟩, ⟨14, ⟨(some p4), none, (.e (.mv (.r p41)))⟩, [], false⟩, ⟨15, ⟨(some p5), none, (.e (.mv (.c (.int .i64 (.ofNat 0)))))⟩, [], false⟩]) .ret))))))
theorem I27_0 (E : Env) : Is E C27_0 (retK3 R27) (fun σ h => J27_0 E (σ p0) (σ p1) h) :=
  fun σ h => by kernel_rfl
def D27 : DF := ⟨2, 42, C27_0, R27⟩
noncomputable def S27 (E : Env) : Fun := fun args h => aS args fun r0 args => aS args fun r1 args => a0 args (J27_0 E r0 r1 h)
theorem S27_eq (E : Env) (args : List DV) (h : H) : runFn E D27 args h = S27 E args h :=
  Is.fn2 (d := D27) (I27_0 E) rfl (fun r0 r1 h => J27_0 E r0 r1 h) (fun r0 r1 h => by kernel_rfl) args h
/- (*hurdle/reader.stripe).whole -/
def R28 : List RV := [(.r p2), (.r p3)]
noncomputable def J28_1 (E : Env) (r0 : DV) (h : H) : Ans :=
  vK (v_nilchk r0) fun x1 =>
  vK (v_fa 8 x1) fun x2 =>
  vK (v_ld h.get x2) fun x3 =>
  vK (v_nilchk r0) fun x4 =>
  vK (v_fa 1 x4) fun x5 =>
  vK (v_fa 4 x5) fun x6 =>
  vK (v_ld h.get x6) fun x7 =>
  wK (callK E 57 [x3, x7] h) fun x8 h9 =>
  vK (v_ext 0 x8) fun x10 =>
  vK (v_ext 1 x8) fun x11 =>
  some ((.tup [x10, x11]), h9)
def C28_1 : DC := (.seq (.drg [⟨0, ⟨(some p34), none, (.e (.mv (.r p0)))⟩, [], false⟩, ⟨1, ⟨(some p35), none, (.e (.nilchk (.r p34)))⟩, [], false⟩, ⟨2, ⟨(some p36), none, (.e (.fa 8 (.r p35)))⟩, [], false⟩, ⟨3, ⟨(some p37), none, (.e (.ld (.r p36)))⟩, [], false⟩, ⟨4, ⟨(some p38), none, (.e (.mv (.r p0)))⟩, [], false⟩, ⟨5, ⟨(some p39), none, (.e (.nilchk (.r p38)))⟩, [], false⟩, ⟨6, ⟨(some p40), none, (.e (.fa 1 (.r p39)))⟩, [], false⟩, ⟨7, ⟨(some p41), none, (.e (.fa 4 (.r p40)))⟩, [], false⟩, ⟨8, ⟨(some p42), none, (.e (.ld (.r p41)))⟩, [], false⟩, ⟨9, ⟨(some p43), none, (.c (.f 57 [(.r p37), (.r p42)]))⟩, [], false⟩, ⟨10, ⟨(some p44), none, (.e (.ext 0 (.r p43)))⟩, [], false⟩, ⟨11, ⟨(some p45), none, (.e (.ext 1 (.r p43)))⟩, [], false⟩, ⟨12, ⟨(some p2), none, (.e (.mv (.r p44)))⟩, [], false⟩, ⟨13, ⟨(some p3), none, (.e (.mv (.r p45)))⟩, [], false⟩]) .ret)
noncomputable def B28_2 (E : Env) (r0 r12 r13 : DV) (i2 : DV → H → Ans) (r14 : DV) (h : H) : Ans :=
  vK (v_lss r14 r13) fun x1 =>
  bK x1
  (vK (v_iaS 1 r12 r14) fun x2 =>
  vK (v_ld h.get x2) fun x3 =>
  vK (v_nilchk r0) fun x4 =>
  vK (v_fa 8 x4) fun x5 =>
  vK (v_ld h.get x5) fun x6 =>
  vK (v_nilchk r0) fun x7 =>
  vK (v_fa 8 x7) fun x8 =>
  vK (v_ld h.get x8) fun x9 =>
  wK (callK E 56 [x9, x3] h) fun x10 h11 =>
  rK (rcK (v_ld h11.get x5) x6) <|
  vK (v_ext 0 x10) fun x12 =>
  vK (v_ext 1 x10) fun x13 =>
  vK (v_iaS 1 x6 x3) fun x14 =>
  wK (dStF 1 x14 x12 h11) fun x15 h16 =>
  vK (v_add r14 (.int .i64 (.ofNat 1))) fun x17 =>
  i2 x17 h16)
  (J28_1 E r0 h)
noncomputable def L28_2 (E : Env) (r0 r12 r13 : DV) (n : Nat) : DV → H → Ans := Nat.rec (motive := fun _ => DV → H → Ans) (fun _ _ => none) (fun _ i => B28_2 E r0 r12 r13 i) n
def C28_2 : DC := (.loop (.seq (.reg [⟨(some p15), none, (.e (.bin .lss (.r p14) (.r p13)))⟩]) (.seq (.cond (.r p15) .skip (.exit 0)) (.seq (.block 1 (.seq (.reg [⟨(some p16), none, (.e (.iaS 1 (.r p12) (.r p14)))⟩, ⟨(some p17), none, (.e (.ld (.r p16)))⟩, ⟨(some p6), none, (.e (.mv (.r p17)))⟩]) (.drg [⟨0, ⟨(some p19), none, (.e (.mv (.r p0)))⟩, [], false⟩, ⟨1, ⟨(some p20), none, (.e (.nilchk (.r p19)))⟩, [], false⟩, ⟨2, ⟨(some p21), none, (.e (.fa 8 (.r p20)))⟩, [], false⟩, ⟨3, ⟨(some p22), none, (.e (.ld (.r p21)))⟩, [], false⟩, ⟨4, ⟨(some p23), none, (.e (.mv (.r p6)))⟩, [], false⟩, ⟨5, ⟨(some p24), none, (.e (.mv (.r p0)))⟩, [], false⟩, ⟨6, ⟨(some p25), none, (.e (.nilchk (.r p24)))⟩, [], false⟩, ⟨7, ⟨(some p26), none, (.e (.fa 8 (.r p25)))⟩, [], false⟩, ⟨8, ⟨(some p27), none, (.e (.ld (.r p26)))⟩, [], false⟩, ⟨9, ⟨(some p28), none, (.e (.mv (.r p6)))⟩, [], false⟩, ⟨10, ⟨(some p29), none, (.c (.f 56 [(.r p27), (.r p28)]))⟩, [3], false⟩, ⟨11, ⟨(some p18), none, (.e (.mv (.r p29)))⟩, [], false⟩, ⟨12, ⟨(some p30), none, (.e (.ext 0 (.r p18)))⟩, [], false⟩, ⟨13, ⟨(some p31), none, (.e (.ext 1 (.r p18)))⟩, [], false⟩, ⟨14, ⟨(some p32), none, (.e (.iaS 1 (.r p22) (.r p23)))⟩, [], false⟩, ⟨15, ⟨none, none, (.w (.st 1 (.r p32) (.r p30)))⟩, [], false⟩]))) (.reg [⟨(some p33), none, (.e (.bin .add (.r p14) (.c (.int .i64 (.ofNat 1)))))⟩, ⟨(some p14), none, (.e (.mv (.r p33)))⟩])))))
noncomputable def J28_0 (E : Env) (r0 : DV) (h : H) : Ans :=
  wK (callK E 31 [r0] h) fun x1 h2 =>
  vK (v_lenL x1) fun x3 =>
  vK (v_gtr x3 (.int .i64 (.ofNat 1))) fun x4 =>
  bK x4
  (some ((.tup [(.str []), (.int .i64 (.ofNat 9))]), h2))
  (vK (v_lenL x1) fun x5 =>
  L28_2 E r0 x1 x5 FUEL (.int .i64 (.ofNat 0)) h2)
def C28_0 : DC := (.seq (.reg [⟨(some p2), none, (.e (.mv (.c (.str []))))⟩, ⟨(some p3), none, (.e (.mv (.c (.int .i64 (.ofNat 0)))))⟩]) (.seq (.reg [⟨(some p7), none, (.e (.mv (.r p0)))⟩, ⟨(some p8), none, (.c (.f 31 [(.r p7)]))⟩, ⟨(some p4), none, (.e (.mv (.r p8)))⟩]) (.seq (.seq (.reg [⟨(some p9), none, (.e (.mv (.r p4)))⟩, ⟨(some p10), none, (.e (.lenL (.r p9)))⟩, ⟨(some p11), none, (.e (.bin .gtr (.r p10) (.c (.int .i64 (.ofNat 1)))))⟩]) (.cond (.r p11) (.seq (.reg [⟨(some p2), none, (.e (.mv (.c (.str []))))⟩, ⟨(some p3), none, (.e (.mv (.c (.int .i64 (.ofNat 9)))))⟩]) .ret) .skip)) (.seq (.seq (.reg [⟨(some p12), none, (.e (.mv (.r p4)))⟩, ⟨(some p13), none, (.e (.lenL (.r p12)))⟩, ⟨(some p14), none, (.e (.mv (.c (.int .i64 (.ofNat 0)))))⟩]) (.block 0 C28_2)) C28_1))))
theorem I28_1 (E : Env) : Is E C28_1 (retK3 R28) (fun σ h => J28_1 E (σ p0) h) :=
  fun σ h => by kernel_rfl
noncomputable abbrev K28_3 (E : Env) : KT2 (DV × H) := (thenK3 (fun σ h => J28_1 E (σ p0) h) (retK3 R28))
theorem I28_2 (E : Env) : Is E C28_2 (blockK3 0 (K28_3 E)) (fun σ h => L28_2 E (σ p0) (σ p12) (σ p13) FUEL (σ p14) h) :=
  Is.loop (fun n2 σ h => L28_2 E (σ p0) (σ p12) (σ p13) n2 (σ p14) h) (by kernel_rfl) fun n2 => Is.as (Is.leaf _) fun σ h => by kernel_rfl
theorem I28_0 (E : Env) : Is E C28_0 (retK3 R28) (fun σ h => J28_0 E (σ p0) h) :=
  Is.as (Is.seq (Is.seq (Is.seq (Is.seq (I28_1 E) (Is.seq (Is.block (I28_2 E)) (Is.leaf _))) (Is.leaf _)) (Is.leaf _)) (Is.leaf _)) fun σ h => by kernel_rfl
def D28 : DF := ⟨1, 46, C28_0, R28⟩
noncomputable def S28 (E : Env) : Fun := fun args h => aS args fun r0 args => a0 args (J28_0 E r0 h)
theorem S28_eq (E : Env) (args : List DV) (h : H) : runFn E D28 args h = S28 E args h :=
  Is.fn1 (d := D28) (I28_0 E) rfl (fun r0 h => J28_0 E r0 h) (fun r0 h => by kernel_rfl) args h
/- (*hurdle/reader.stripe).count -/
def R29 : List RV := [(.r p2)]
noncomputable def J29_1 (E : Env) (r3 : DV) (h : H) : Ans :=
  some (r3, h)
def C29_1 : DC := (.seq (.reg [⟨(some p19), none, (.e (.mv (.r p3)))⟩, ⟨(some p2), none, (.e (.mv (.r p19)))⟩]) .ret)
noncomputable def J29_3 (E : Env) (i2 : DV → DV → H → Ans) (r3 r11 : DV) (h : H) : Ans :=
  vK (v_add r11 (.int .i64 (.ofNat 1))) fun x1 =>
  i2 r3 x1 h
def C29_3 : DC := (.reg [⟨(some p18), none, (.e (.bin .add (.r p11) (.c (.int .i64 (.ofNat 1)))))⟩, ⟨(some p11), none, (.e (.mv (.r p18)))⟩])
noncomputable def B29_2 (E : Env) (r9 r10 : DV) (i2 : DV → DV → H → Ans) (r3 r11 : DV) (h : H) : Ans :=
  vK (v_lss r11 r10) fun x1 =>
  bK x1
  (vK (v_iaS 1 r9 r11) fun x2 =>
  vK (v_ld h.get x2) fun x3 =>
  bK x3
  (vK (v_add r3 (.int .i64 (.ofNat 1))) fun x4 =>
  J29_3 E i2 x4 r11 h)
  (J29_3 E i2 r3 r11 h))
  (J29_1 E r3 h)
noncomputable def L29_2 (E : Env) (r9 r10 : DV) (n : Nat) : DV → DV → H → Ans := Nat.rec (motive := fun _ => DV → DV → H → Ans) (fun _ _ _ => none) (fun _ i => B29_2 E r9 r10 i) n
def C29_2 : DC := (.loop (.seq (.reg [⟨(some p12), none, (.e (.bin .lss (.r p11) (.r p10)))⟩]) (.seq (.cond (.r p12) .skip (.exit 0)) (.seq (.block 1 (.seq (.reg [⟨(some p13), none, (.e (.iaS 1 (.r p9) (.r p11)))⟩, ⟨(some p14), none, (.e (.ld (.r p13)))⟩, ⟨(some p5), none, (.e (.mv (.r p14)))⟩]) (.seq (.reg [⟨(some p15), none, (.e (.mv (.r p5)))⟩]) (.cond (.r p15) (.reg [⟨(some p16), none, (.e (.mv (.r p3)))⟩, ⟨(some p17), none, (.e (.bin .add (.r p16) (.c (.int .i64 (.ofNat 1)))))⟩, ⟨(some p3), none, (.e (.mv (.r p17)))⟩]) .skip)))) C29_3))))
noncomputable def J29_0 (E : Env) (r0 : DV) (h : H) : Ans :=
  vK (v_nilchk r0) fun x1 =>
  vK (v_fa 9 x1) fun x2 =>
  vK (v_ld h.get x2) fun x3 =>
  vK (v_lenL x3) fun x4 =>
  L29_2 E x3 x4 FUEL (.int .i64 (.ofNat 0)) (.int .i64 (.ofNat 0)) h
def C29_0 : DC := (.seq (.reg [⟨(some p2), none, (.e (.mv (.c (.int .i64 (.ofNat 0)))))⟩]) (.seq (.reg [⟨(some p3), none, (.e (.mv (.c (.int .i64 (.ofNat 0)))))⟩]) (.seq (.seq (.reg [⟨(some p6), none, (.e (.mv (.r p0)))⟩, ⟨(some p7), none, (.e (.nilchk (.r p6)))⟩, ⟨(some p8), none, (.e (.fa 9 (.r p7)))⟩, ⟨(some p9), none, (.e (.ld (.r p8)))⟩, ⟨(some p10), none, (.e (.lenL (.r p9)))⟩, ⟨(some p11), none, (.e (.mv (.c (.int .i64 (.ofNat 0)))))⟩]) (.block 0 C29_2)) C29_1)))
theorem I29_1 (E : Env) : Is E C29_1 (retK3 R29) (fun σ h => J29_1 E (σ p3) h) :=
  fun σ h => by kernel_rfl
noncomputable abbrev K29_4 (E : Env) : KT2 (DV × H) := (thenK3 (fun σ h => J29_1 E (σ p3) h) (retK3 R29))
noncomputable abbrev K29_5 (E : Env) (n2 : Nat) : KT2 (DV × H) := (thenK3 (fun σ h => (L29_2 E (σ p9) (σ p10) n2) (σ p3) (σ p11) h) (blockK3 0 (K29_4 E)))
theorem I29_3 (E : Env) (n2 : Nat) : Is E C29_3 (K29_5 E n2) (fun σ h => J29_3 E (L29_2 E (σ p9) (σ p10) n2) (σ p3) (σ p11) h) :=
  fun σ h => by kernel_rfl
theorem I29_2 (E : Env) : Is E C29_2 (blockK3 0 (K29_4 E)) (fun σ h => L29_2 E (σ p9) (σ p10) FUEL (σ p3) (σ p11) h) :=
  Is.loop (fun n2 σ h => L29_2 E (σ p9) (σ p10) n2 (σ p3) (σ p11) h) (by kernel_rfl) fun n2 => Is.as (Is.seq (Is.seq (Is.seq (I29_3 E n2) (Is.leaf _)) (Is.leaf _)) (Is.leaf _)) fun σ h => by kernel_rfl
theorem I29_0 (E : Env) : Is E C29_0 (retK3 R29) (fun σ h => J29_0 E (σ p0) h) :=
  Is.as (Is.seq (Is.seq (Is.seq (I29_1 E) (Is.seq (Is.block (I29_2 E)) (Is.leaf _))) (Is.leaf _)) (Is.leaf _)) fun σ h => by kernel_rfl
def D29 : DF := ⟨1, 20, C29_0, R29⟩
noncomputable def S29 (E : Env) : Fun := fun args h => aS args fun r0 args => a0 args (J29_0 E r0 h)
theorem S29_eq (E : Env) (args : List DV) (h : H) : runFn E D29 args h = S29 E args h :=
  Is.fn1 (d := D29) (I29_0 E) rfl (fun r0 h => J29_0 E r0 h) (fun r0 h => by kernel_rfl) args h
/- (*hurdle/reader.stripe).ask -/
def R30 : List RV := [(.r p4)]
noncomputable def J30_1 (E : Env) (r0 r1 : DV) (h : H) : Ans :=
  vK (v_nilchk r0) fun x1 =>
  vK (v_fa 10 x1) fun x2 =>
  vK (v_ld h.get x2) fun x3 =>
  vK (v_iaS 1 x3 r1) fun x4 =>
  vK (v_ld h.get x4) fun x5 =>
  some (x5, h)
def C30_1 : DC := (.seq (.reg [⟨(some p59), none, (.e (.mv (.r p0)))⟩, ⟨(some p60), none, (.e (.nilchk (.r p59)))⟩, ⟨(some p61), none, (.e (.fa 10 (.r p60)))⟩, ⟨(some p62), none, (.e (.ld (.r p61)))⟩, ⟨(some p63), none, (.e (.mv (.r p1)))⟩, ⟨(some p64), none, (.e (.iaS 1 (.r p62) (.r p63)))⟩, ⟨(some p65), none, (.e (.ld (.r p64)))⟩, ⟨(some p4), none, (.e (.mv (.r p65)))⟩]) .ret)
noncomputable def J30_0 (E : Env) (r0 r1 : DV) (h : H) : Ans :=
  vK (v_nilchk r0) fun x1 =>
  vK (v_fa 9 x1) fun x2 =>
  vK (v_ld h.get x2) fun x3 =>
  vK (v_iaS 1 x3 r1) fun x4 =>
  vK (v_ld h.get x4) fun x5 =>
  vK (v_not x5) fun x6 =>
  bK x6
  (vK (v_nilchk r0) fun x7 =>
  vK (v_fa 0 x7) fun x8 =>
  vK (v_ld h.get x8) fun x9 =>
  vK (v_nilchk r0) fun x10 =>
  vK (v_fa 1 x10) fun x11 =>
  vK (v_fa 0 x11) fun x12 =>
  vK (v_ld h.get x12) fun x13 =>
  wK (callK E 19 [x9, x13, r1] h) fun x14 h15 =>
  vK (v_ext 0 x14) fun x16 =>
  vK (v_ext 1 x14) fun x17 =>
  vK (v_nilchk r0) fun x18 =>
  vK (v_fa 8 x18) fun x19 =>
  vK (v_ld h15.get x19) fun x20 =>
  vK (v_nilchk r0) fun x21 =>
  vK (v_fa 9 x21) fun x22 =>
  vK (v_ld h15.get x22) fun x23 =>
  vK (v_iaS 1 x20 r1) fun x24 =>
  wK (dStF 1 x24 x16 h15) fun x25 h26 =>
  vK (v_iaS 1 x23 r1) fun x27 =>
  wK (dStF 1 x27 (.bool true) h26) fun x28 h29 =>
  vK (v_nilchk r0) fun x30 =>
  vK (v_fa 10 x30) fun x31 =>
  vK (v_ld h29.get x31) fun x32 =>
  vK (v_eql x17 (.int .i64 (.ofNat 0))) fun x33 =>
  gdK x33 true (fun kk => kk x16 h29) h29 fun x34 h35 =>
  gdK x33 true (fun kk => vK (v_lenS x34) fun v => kk v h35) h35 fun x36 h37 =>
  gdK x33 true (fun kk => kk r0 h37) h37 fun x38 h39 =>
  gdK x33 true (fun kk => vK (v_nilchk x38) fun v => kk v h39) h39 fun x40 h41 =>
  gdK x33 true (fun kk => vK (v_fa 7 x40) fun v => kk v h41) h41 fun x42 h43 =>
  gdK x33 true (fun kk => vK (v_ld h43.get x42) fun v => kk v h43) h43 fun x44 h45 =>
  gdK x33 true (fun kk => vK (v_eql x36 x44) fun v => kk v h45) h45 fun x46 h47 =>
  vK (v_pick x33 x46 (.bool false)) fun x48 =>
  vK (v_iaS 1 x32 r1) fun x49 =>
  wK (dStF 1 x49 x48 h47) fun x50 h51 =>
  J30_1 E r0 r1 h51)
  (J30_1 E r0 r1 h)
def C30_0 : DC := (.seq (.reg [⟨(some p4), none, (.e (.mv (.c (.bool false))))⟩]) (.seq (.seq (.reg [⟨(some p7), none, (.e (.mv (.r p0)))⟩, ⟨(some p8), none, (.e (.nilchk (.r p7)))⟩, ⟨(some p9), none, (.e (.fa 9 (.r p8)))⟩, ⟨(some p10), none, (.e (.ld (.r p9)))⟩, ⟨(some p11), none, (.e (.mv (.r p1)))⟩, ⟨(some p12), none, (.e (.iaS 1 (.r p10) (.r p11)))⟩, ⟨(some p13), none, (.e (.ld (.r p12)))⟩, ⟨(some p14), none, (.e (.not (.r p13)))⟩]) (.cond (.r p14) (.seq (.drg [⟨0, ⟨(some p16), none, (.e (.mv (.r p0)))⟩, [], false⟩, ⟨1, ⟨(some p17), none, (.e (.nilchk (.r p16)))⟩, [], false⟩, ⟨2, ⟨(some p18), none, (.e (.fa 0 (.r p17)))⟩, [], false⟩, ⟨3, ⟨(some p19), none, (.e (.ld (.r p18)))⟩, [], false⟩, ⟨4, ⟨(some p20), none, (.e (.mv (.r p0)))⟩, [], false⟩, ⟨5, ⟨(some p21), none, (.e (.nilchk (.r p20)))⟩, [], false⟩, ⟨6, ⟨(some p22), none, (.e (.fa 1 (.r p21)))⟩, [], false⟩, ⟨7, ⟨(some p23), none, (.e (.fa 0 (.r p22)))⟩, [], false⟩, ⟨8, ⟨(some p24), none, (.e (.ld (.r p23)))⟩, [], false⟩, ⟨9, ⟨(some p25), none, (.e (.mv (.r p1)))⟩, [], false⟩, ⟨10, ⟨(some p26), none, (.c (.f 19 [(.r p19), (.r p24), (.r p25)]))⟩, [], false⟩, ⟨11, ⟨(some p15), none, (.e (.mv (.r p26)))⟩, [], false⟩, ⟨12, ⟨(some p27), none, (.e (.ext 0 (.r p15)))⟩, [], false⟩, ⟨13, ⟨(some p28), none, (.e (.ext 1 (.r p15)))⟩, [], false⟩, ⟨14, ⟨(some p5), none, (.e (.mv (.r p27)))⟩, [], false⟩, ⟨15, ⟨(some p6), none, (.e (.mv (.r p28)))⟩, [], false⟩]) (.seq (.drg [⟨0, ⟨(some p29), none, (.e (.mv (.r p0)))⟩, [], false⟩, ⟨1, ⟨(some p30), none, (.e (.nilchk (.r p29)))⟩, [], false⟩, ⟨2, ⟨(some p31), none, (.e (.fa 8 (.r p30)))⟩, [], false⟩, ⟨3, ⟨(some p32), none, (.e (.ld (.r p31)))⟩, [], false⟩, ⟨4, ⟨(some p33), none, (.e (.mv (.r p1)))⟩, [], false⟩, ⟨5, ⟨(some p34), none, (.e (.mv (.r p0)))⟩, [], false⟩, ⟨6, ⟨(some p35), none, (.e (.nilchk (.r p34)))⟩, [], false⟩, ⟨7, ⟨(some p36), none, (.e (.fa 9 (.r p35)))⟩, [], false⟩, ⟨8, ⟨(some p37), none, (.e (.ld (.r p36)))⟩, [], false⟩, ⟨9, ⟨(some p38), none, (.e (.mv (.r p1)))⟩, [], false⟩, ⟨10, ⟨(some p39), none, (.e (.mv (.r p5)))⟩, [], false⟩, ⟨11, ⟨(some p40), none, (.e (.iaS 1 (.r p32) (.r p33)))⟩, [], false⟩, ⟨12, ⟨none, none, (.w (.st 1 (.r p40) (.r p39)))⟩, [], false⟩, ⟨13, ⟨(some p41), none, (.e (.iaS 1 (.r p37) (.r p38)))⟩, [], false⟩, ⟨14, ⟨none, none, (.w (.st 1 (.r p41) (.c (.bool true))))⟩, [], false⟩]) (.drg [⟨0, ⟨(some p42), none, (.e (.mv (.r p0)))⟩, [], false⟩, ⟨1, ⟨(some p43), none, (.e (.nilchk (.r p42)))⟩, [], false⟩, ⟨2, ⟨(some p44), none, (.e (.fa 10 (.r p43)))⟩, [], false⟩, ⟨3, ⟨(some p45), none, (.e (.ld (.r p44)))⟩, [], false⟩, ⟨4, ⟨(some p46), none, (.e (.mv (.r p1)))⟩, [], false⟩, ⟨5, ⟨(some p47), none, (.e (.mv (.r p6)))⟩, [], false⟩, ⟨6, ⟨(some p48), none, (.e (.bin .eql (.r p47) (.c (.int .i64 (.ofNat 0)))))⟩, [], false⟩, ⟨7, ⟨(some p49), none, (.e (.mv (.r p48)))⟩, [], false⟩, ⟨8, ⟨(some p50), (some (p49, true)), (.e (.mv (.r p5)))⟩, [], false⟩, ⟨9, ⟨(some p51), (some (p49, true)), (.e (.lenS (.r p50)))⟩, [], false⟩, ⟨10, ⟨(some p52), (some (p49, true)), (.e (.mv (.r p0)))⟩, [], false⟩, ⟨11, ⟨(some p53), (some (p49, true)), (.e (.nilchk (.r p52)))⟩, [], false⟩, ⟨12, ⟨(some p54), (some (p49, true)), (.e (.fa 7 (.r p53)))⟩, [], false⟩, ⟨13, ⟨(some p55), (some (p49, true)), (.e (.ld (.r p54)))⟩, [], false⟩, ⟨14, ⟨(some p56), (some (p49, true)), (.e (.bin .eql (.r p51) (.r p55)))⟩, [], false⟩, ⟨15, ⟨(some p57), none, (.e (.pick (.r p49) (.r p56) (.c (.bool false))))⟩, [], false⟩, ⟨16, ⟨(some p58), none, (.e (.iaS 1 (.r p45) (.r p46)))⟩, [], false⟩, ⟨17, ⟨none, none, (.w (.st 1 (.r p58) (.r p57)))⟩, [], false⟩]))) .skip)) C30_1))
theorem I30_1 (E : Env) : Is E C30_1 (retK3 R30) (fun σ h => J30_1 E (σ p0) (σ p1) h) :=
  fun σ h => by kernel_rfl
theorem I30_0 (E : Env) : Is E C30_0 (retK3 R30) (fun σ h => J30_0 E (σ p0) (σ p1) h) :=
  Is.as (Is.seq (Is.seq (I30_1 E) (Is.leaf _)) (Is.leaf _)) fun σ h => by kernel_rfl
def D30 : DF := ⟨2, 66, C30_0, R30⟩
noncomputable def S30 (E : Env) : Fun := fun args h => aS args fun r0 args => aS args fun r1 args => a0 args (J30_0 E r0 r1 h)
theorem S30_eq (E : Env) (args : List DV) (h : H) : runFn E D30 args h = S30 E args h :=
  Is.fn2 (d := D30) (I30_0 E) rfl (fun r0 r1 h => J30_0 E r0 r1 h) (fun r0 r1 h => by kernel_rfl) args h
/- (*hurdle/reader.stripe).missing -/
def R31 : List RV := [(.r p2)]
noncomputable def J31_1 (E : Env) (r3 : DV) (h : H) : Ans :=
  some (r3, h)
def C31_1 : DC := (.seq (.reg [⟨(some p22), none, (.e (.mv (.r p3)))⟩, ⟨(some p2), none, (.e (.mv (.r p22)))⟩]) .ret)
noncomputable def J31_3 (E : Env) (i2 : DV → DV → H → Ans) (r3 r10 : DV) (h : H) : Ans :=
  vK (v_add r10 (.int .i64 (.ofNat 1))) fun x1 =>
  i2 r3 x1 h
def C31_3 : DC := (.reg [⟨(some p21), none, (.e (.bin .add (.r p10) (.c (.int .i64 (.ofNat 1)))))⟩, ⟨(some p10), none, (.e (.mv (.r p21)))⟩])
noncomputable def B31_2 (E : Env) (r0 r9 : DV) (i2 : DV → DV → H → Ans) (r3 r10 : DV) (h : H) : Ans :=
  vK (v_lss r10 r9) fun x1 =>
  bK x1
  (wK (callK E 30 [r0, r10] h) fun x2 h3 =>
  vK (v_not x2) fun x4 =>
  bK x4
  (n_bsl 1 1 [(.int .i64 (.ofNat 0))] [(0, 1, r10)] h3 fun x5 h6 =>
  wK (dAppendF 1 8 r3 x5 h6) fun x7 h8 =>
  J31_3 E i2 x7 r10 h8)
  (J31_3 E i2 r3 r10 h3))
  (J31_1 E r3 h)
noncomputable def L31_2 (E : Env) (r0 r9 : DV) (n : Nat) : DV → DV → H → Ans := Nat.rec (motive := fun _ => DV → DV → H → Ans) (fun _ _ _ => none) (fun _ i => B31_2 E r0 r9 i) n
def C31_2 : DC := (.loop (.seq (.reg [⟨(some p11), none, (.e (.bin .lss (.r p10) (.r p9)))⟩]) (.seq (.cond (.r p11) .skip (.exit 0)) (.seq (.block 1 (.seq (.reg [⟨(some p12), none, (.e (.mv (.r p10)))⟩, ⟨(some p4), none, (.e (.mv (.r p12)))⟩]) (.seq (.reg [⟨(some p13), none, (.e (.mv (.r p0)))⟩, ⟨(some p14), none, (.e (.mv (.r p4)))⟩, ⟨(some p15), none, (.c (.f 30 [(.r p13), (.r p14)]))⟩, ⟨(some p16), none, (.e (.not (.r p15)))⟩]) (.cond (.r p16) (.reg [⟨(some p17), none, (.e (.mv (.r p3)))⟩, ⟨(some p18), none, (.e (.mv (.r p4)))⟩, ⟨(some p19), none, (.e (.bsl 1 1 [(.int .i64 (.ofNat 0))] [(0, 1, (.r p18))]))⟩, ⟨(some p20), none, (.w (.app 1 8 (.r p17) (.r p19)))⟩, ⟨(some p3), none, (.e (.mv (.r p20)))⟩]) .skip)))) C31_3))))
noncomputable def J31_0 (E : Env) (r0 : DV) (h : H) : Ans :=
  vK (v_nilchk r0) fun x1 =>
  vK (v_fa 8 x1) fun x2 =>
  vK (v_ld h.get x2) fun x3 =>
  vK (v_lenL x3) fun x4 =>
  L31_2 E r0 x4 FUEL .nils (.int .i64 (.ofNat 0)) h
def C31_0 : DC := (.seq (.reg [⟨(some p2), none, (.e (.mv (.c .nils)))⟩]) (.seq (.reg [⟨(some p3), none, (.e (.mv (.c .nils)))⟩]) (.seq (.seq (.reg [⟨(some p5), none, (.e (.mv (.r p0)))⟩, ⟨(some p6), none, (.e (.nilchk (.r p5)))⟩, ⟨(some p7), none, (.e (.fa 8 (.r p6)))⟩, ⟨(some p8), none, (.e (.ld (.r p7)))⟩, ⟨(some p9), none, (.e (.lenL (.r p8)))⟩, ⟨(some p10), none, (.e (.mv (.c (.int .i64 (.ofNat 0)))))⟩]) (.block 0 C31_2)) C31_1)))
theorem I31_1 (E : Env) : Is E C31_1 (retK3 R31) (fun σ h => J31_1 E (σ p3) h) :=
  fun σ h => by kernel_rfl
noncomputable abbrev K31_4 (E : Env) : KT2 (DV × H) := (thenK3 (fun σ h => J31_1 E (σ p3) h) (retK3 R31))
noncomputable abbrev K31_5 (E : Env) (n2 : Nat) : KT2 (DV × H) := (thenK3 (fun σ h => (L31_2 E (σ p0) (σ p9) n2) (σ p3) (σ p10) h) (blockK3 0 (K31_4 E)))
theorem I31_3 (E : Env) (n2 : Nat) : Is E C31_3 (K31_5 E n2) (fun σ h => J31_3 E (L31_2 E (σ p0) (σ p9) n2) (σ p3) (σ p10) h) :=
  fun σ h => by kernel_rfl
theorem I31_2 (E : Env) : Is E C31_2 (blockK3 0 (K31_4 E)) (fun σ h => L31_2 E (σ p0) (σ p9) FUEL (σ p3) (σ p10) h) :=
  Is.loop (fun n2 σ h => L31_2 E (σ p0) (σ p9) n2 (σ p3) (σ p10) h) (by kernel_rfl) fun n2 => Is.as (Is.seq (Is.seq (Is.seq (I31_3 E n2) (Is.leaf _)) (Is.leaf _)) (Is.leaf _)) fun σ h => by kernel_rfl
theorem I31_0 (E : Env) : Is E C31_0 (retK3 R31) (fun σ h => J31_0 E (σ p0) h) :=
  Is.as (Is.seq (Is.seq (Is.seq (I31_1 E) (Is.seq (Is.block (I31_2 E)) (Is.leaf _))) (Is.leaf _)) (Is.leaf _)) fun σ h => by kernel_rfl
def D31 : DF := ⟨1, 23, C31_0, R31⟩
noncomputable def S31 (E : Env) : Fun := fun args h => aS args fun r0 args => a0 args (J31_0 E r0 h)
theorem S31_eq (E : Env) (args : List DV) (h : H) : runFn E D31 args h = S31 E args h :=
  Is.fn1 (d := D31) (I31_0 E) rfl (fun r0 h => J31_0 E r0 h) (fun r0 h => by kernel_rfl) args h
/- hurdle/parity.Right -/
def R32 : List RV := [(.r p2)]
noncomputable def J32_0 (E : Env) (r0 : DV) (h : H) : Ans :=
  vK (v_lenL r0) fun x1 =>
  wK (callK E 58 [x1] h) fun x2 h3 =>
  vK (v_not x2) fun x4 =>
  bK x4
  (some ((.bool false), h3))
  (wK (callK E 59 [r0, (.int .i64 (.negSucc 0))] h3) fun x5 h6 =>
  vK (v_ext 0 x5) fun x7 =>
  vK (v_ext 1 x5) fun x8 =>
  gdK x8 true (fun kk => kk x7 h6) h6 fun x9 h10 =>
  gdK x8 true (fun kk => vK (v_nilchk x9) fun v => kk v h10) h10 fun x11 h12 =>
  gdK x8 true (fun kk => vK (v_ldN 513 h12.get x11) fun v => kk v h12) h12 fun x13 h14 =>
  gdK x8 true (fun kk => kk x7 h14) h14 fun x15 h16 =>
  gdK x8 true (fun kk => vK (v_nilchk x15) fun v => kk v h16) h16 fun x17 h18 =>
  gdK x8 true (fun kk => vK (v_fa 512 x17) fun v => kk v h18) h18 fun x19 h20 =>
  gdK x8 true (fun kk => vK (v_ld h20.get x19) fun v => kk v h20) h20 fun x21 h22 =>
  gdK x8 true (fun kk => vK (v_bld [(.int .u8 (.ofNat 0)), (.int .u8 (.ofNat 0)), (.int .u8 (.ofNat 0)), (.int .u8 (.ofNat 0)), (.int .u8 (.ofNat 0)), (.int .u8 (.ofNat 0)), (.int .u8 (.ofNat 0)), (.int .u8 (.ofNat 0)), (.int .u8 (.ofNat 0)), (.int .u8 (.ofNat 0)), (.int .u8 (.ofNat 0)), (.int .u8 (.ofNat 0)), (.int .u8 (.ofNat 0)), (.int .u8 (.ofNat 0)), (.int .u8 (.ofNat 0)), (.int .u8 (.ofNat 0)), (.int .u8 (.ofNat 0)), (.int .u8 (.ofNat 0)), (.int .u8 (.ofNat 0)), (.int .u8 (.ofNat 0)), (.int .u8 (.ofNat 0)), (.int .u8 (.ofNat 0)), (.int .u8 (.ofNat 0)), (.int .u8 (.ofNat 0)), (.int .u8 (.ofNat 0)), (.int .u8 (.ofNat 0)), (.int .u8 (.ofNat 0)), (.int .u8 (.ofNat 0)), (.int .u8 (.ofNat 0)), (.int .u8 (.ofNat 0)), (.int .u8 (.ofNat 0)), (.int .u8 (.ofNat 0)), (.int .u8 (.ofNat 0)), (.int .u8 (.ofNat 0)), (.int .u8 (.ofNat 0)), (.int .u8 (.ofNat 0)), (.int .u8 (.ofNat 0)), (.int .u8 (.ofNat 0)), (.int .u8 (.ofNat 0)), (.int .u8 (.ofNat 0)), (.int .u8 (.ofNat 0)), (.int .u8 (.ofNat 0)), (.int .u8 (.ofNat 0)), (.int .u8 (.ofNat 0)), (.int .u8 (.ofNat 0)), (.int .u8 (.ofNat 0)), (.int .u8 (.ofNat 0)), (.int .u8 (.ofNat 0)), (.int .u8 (.ofNat 0)), (.int .u8 (.ofNat 0)), (.int .u8 (.ofNat 0)), (.int .u8 (.ofNat 0)), (.int .u8 (.ofNat 0)), (.int .u8 (.ofNat 0)), (.int .u8 (.ofNat 0)), (.int .u8 (.ofNat 0)), (.int .u8 (.ofNat 0)), (.int .u8 (.ofNat 0)), (.int .u8 (.ofNat 0)), (.int .u8 (.ofNat 0)), (.int .u8 (.ofNat 0)), (.int .u8 (.ofNat 0)), (.int .u8 (.ofNat 0)), (.int .u8 (.ofNat 0)), (.int .u8 (.ofNat 0)), (.int .u8 (.ofNat 0)), (.int .u8 (.ofNat 0)), (.int .u8 (.ofNat 0)), (.int .u8 (.ofNat 0)), (.int .u8 (.ofNat 0)), (.int .u8 (.ofNat 0)), (.int .u8 (.ofNat 0)), (.int .u8 (.ofNat 0)), (.int .u8 (.ofNat 0)), (.int .u8 (.ofNat 0)), (.int .u8 (.ofNat 0)), (.int .u8 (.ofNat 0)), (.int .u8 (.ofNat 0)), (.int .u8 (.ofNat 0)), (.int .u8 (.ofNat 0)), (.int .u8 (.ofNat 0)), (.int .u8 (.ofNat 0)), (.int .u8 (.ofNat 0)), (.int .u8 (.ofNat 0)), (.int .u8 (.ofNat 0)), (.int .u8 (.ofNat 0)), (.int .u8 (.ofNat 0)), (.int .u8 (.ofNat 0)), (.int .u8 (.ofNat 0)), (.int .u8 (.ofNat 0)), (.int .u8 (.ofNat 0)), (.int .u8 (.ofNat 0)), (.int .u8 (.ofNat 0)), (.int .u8 (.ofNat 0)), (.int .u8 (.ofNat 0)), (.int .u8 (.ofNat 0)), (.int .u8 (.ofNat 0)), (.int .u8 (.ofNat 0)), (.int .u8 (.ofNat 0)), (.int .u8 (.ofNat 0)), (.int .u8 (.ofNat 0)), (.int .u8 (.ofNat 0)), (.int .u8 (.ofNat 0)), (.int .u8 (.ofNat 0)), (.int .u8 (.ofNat 0)), (.int .u8 (.ofNat 0)), (.int .u8 (.ofNat 0)), (.int .u8 (.ofNat 0)), (.int .u8 (.ofNat 0)), (.int .u8 (.ofNat 0)), (.int .u8 (.ofNat 0)), (.int .u8 (.ofNat 0)), (.int .u8 (.ofNat 0)), (.int .u8 (.ofNat 0)), (.int .u8 (.ofNat 0)), (.int .u8 (.ofNat 0)), (.int .u8 (.ofNat 0)), (.int .u8 (.ofNat 0)), (.int .u8 (.ofNat 0)), (.int .u8 (.ofNat 0)), (.int .u8 (.ofNat 0)), (.int .u8 (.ofNat 0)), (.int .u8 (.ofNat 0)), (.int .u8 (.ofNat 0)), (.int .u8 (.ofNat 0)), (.int .u8 (.ofNat 0)), (.int .u8 (.ofNat 0)), (.int .u8 (.ofNat 0)), (.int .u8 (.ofNat 0)), (.int .u8 (.ofNat 0)), (.int .u8 (.ofNat 0)), (.int .u8 (.ofNat 0)), (.int .u8 (.ofNat 0)), (.int .u8 (.ofNat 0)), (.int .u8 (.ofNat 0)), (.int .u8 (.ofNat 0)), (.int .u8 (.ofNat 0)), (.int .u8 (.ofNat 0)), (.int .u8 (.ofNat 0)), (.int .u8 (.ofNat 0)), (.int .u8 (.ofNat 0)), (.int .u8 (.ofNat 0)), (.int .u8 (.ofNat 0)), (.int .u8 (.ofNat 0)), (.int .u8 (.ofNat 0)), (.int .u8 (.ofNat 0)), (.int .u8 (.ofNat 0)), (.int .u8 (.ofNat 0)), (.int .u8 (.ofNat 0)), (.int .u8 (.ofNat 0)), (.int .u8 (.ofNat 0)), (.int .u8 (.ofNat 0)), (.int .u8 (.ofNat 0)), (.int .u8 (.ofNat 0)), (.int .u8 (.ofNat 0)), (.int .u8 (.ofNat 0)), (.int .u8 (.ofNat 0)), (.int .u8 (.ofNat 0)), (.int .u8 (.ofNat 0)), (.int .u8 (.ofNat 0)), (.int .u8 (.ofNat 0)), (.int .u8 (.ofNat 0)), (.int .u8 (.ofNat 0)), (.int .u8 (.ofNat 0)), (.int .u8 (.ofNat 0)), (.int .u8 (.ofNat 0)), (.int .u8 (.ofNat 0)), (.int .u8 (.ofNat 0)), (.int .u8 (.ofNat 0)), (.int .u8 (.ofNat 0)), (.int .u8 (.ofNat 0)), (.int .u8 (.ofNat 0)), (.int .u8 (.ofNat 0)), (.int .u8 (.ofNat 0)), (.int .u8 (.ofNat 0)), (.int .u8 (.ofNat 0)), (.int .u8 (.ofNat 0)), (.int .u8 (.ofNat 0)), (.int .u8 (.ofNat 0)), (.int .u8 (.ofNat 0)), (.int .u8 (.ofNat 0)), (.int .u8 (.ofNat 0)), (.int .u8 (.ofNat 0)), (.int .u8 (.ofNat 0)), (.int .u8 (.ofNat 0)), (.int .u8 (.ofNat 0)), (.int .u8 (.ofNat 0)), (.int .u8 (.ofNat 0)), (.int .u8 (.ofNat 0)), (.int .u8 (.ofNat 0)), (.int .u8 (.ofNat 0)), (.int .u8 (.ofNat 0)), (.int .u8 (.ofNat 0)), (.int .u8 (.ofNat 0)), (.int .u8 (.ofNat 0)), (.int .u8 (.ofNat 0)), (.int .u8 (.ofNat 0)), (.int .u8 (.ofNat 0)), (.int .u8 (.ofNat 0)), (.int .u8 (.ofNat 0)), (.int .u8 (.ofNat 0)), (.int .u8 (.ofNat 0)), (.int .u8 (.ofNat 0)), (.int .u8 (.ofNat 0)), (.int .u8 (.ofNat 0)), (.int .u8 (.ofNat 0)), (.int .u8 (.ofNat 0)), (.int .u8 (.ofNat 0)), (.int .u8 (.ofNat 0)), (.int .u8 (.ofNat 0)), (.int .u8 (.ofNat 0)), (.int .u8 (.ofNat 0)), (.int .u8 (.ofNat 0)), (.int .u8 (.ofNat 0)), (.int .u8 (.ofNat 0)), (.int .u8 (.ofNat 0)), (.int .u8 (.ofNat 0)), (.int .u8 (.ofNat 0)), (.int .u8 (.ofNat 0)), (.int .u8 (.ofNat 0)), (.int .u8 (.ofNat 0)), (.int .u8 (.ofNat 0)), (.int .u8 (.ofNat 0)), (.int .u8 (.ofNat 0)), (.int .u8 (.ofNat 0)), (.int .u8 (.ofNat 0)), (.int .u8 (.ofNat 0)), (.int .u8 (.ofNat 0)), (.int .u8 (.ofNat 0)), (.int .u8 (.ofNat 0)), (.int .u8 (.ofNat 0)), (.int .u8 (.ofNat 0)), (.int .u8 (.ofNat 0)), (.int .u8 (.ofNat 0)), (.int .u8 (.ofNat 0)), (.int .u8 (.ofNat 0)), (.int .u8 (.ofNat 0)), (.int .u8 (.ofNat 0)), (.int .u8 (.ofNat 0)), (.int .u8 (.ofNat 0)), (.int .u8 (.ofNat 0)), (.int .u8 (.ofNat 0)), (.int .u8 (.ofNat 0)), (.int .u8 (.ofNat 0)), (.int .u8 (.ofNat 0)), (.int .u8 (.ofNat 0)), (.int .u8 (.ofNat 0)), (.int .u8 (.ofNat 0)), (.int .u8 (.ofNat 0)), (.int .u8 (.ofNat 0)), (.int .u8 (.ofNat 0)), (.int .u8 (.ofNat 0)), (.int .u8 (.ofNat 0)), (.int .u8 (.ofNat 0)), (.int .u8 (.ofNat 0)), (.int .u8 (.ofNat 0)), (.int .u8 (.ofNat 0)), (.int .u8 (.ofNat 0)), (.int .u8 (.ofNat 0)), (.int .u8 (.ofNat 0)), (.int .u8 (.ofNat 0)), (.int .u8 (.ofNat 0)), (.int .u8 (.ofNat 0)), (.int .u8 (.ofNat 0)), (.int .u8 (.ofNat 0)), (.int .u8 (.ofNat 0)), (.int .u8 (.ofNat 0)), (.int .u8 (.ofNat 0)), (.int .u8 (.ofNat 0)), (.int .u8 (.ofNat 0)), (.int .u8 (.ofNat 0)), (.int .u8 (.ofNat 0)), (.int .u8 (.ofNat 0)), (.int .u8 (.ofNat 0)), (.int .u8 (.ofNat 0)), (.int .u8 (.ofNat 0)), (.int .u8 (.ofNat 0)), (.int .u8 (.ofNat 0)), (.int .u8 (.ofNat 0)), (.int .u8 (.ofNat 0)), (.int .u8 (.ofNat 0)), (.int .u8 (.ofNat 0)), (.int .u8 (.ofNat 0)), (.int .u8 (.ofNat 0)), (.int .u8 (.ofNat 0)), (.int .u8 (.ofNat 0)), (.int .u8 (.ofNat 0)), (.int .u8 (.ofNat 0)), (.int .u8 (.ofNat 0)), (.int .u8 (.ofNat 0)), (.int .u8 (.ofNat 0)), (.int .u8 (.ofNat 0)), (.int .u8 (.ofNat 0)), (.int .u8 (.ofNat 0)), (.int .u8 (.ofNat 0)), (.int .u8 (.ofNat 0)), (.int .u8 (.ofNat 0)), (.int .u8 (.ofNat 0)), (.int .u8 (.ofNat 0)), (.int .u8 (.ofNat 0)), (.int .u8 (.ofNat 0)), (.int .u8 (.ofNat 0)), (.int .u8 (.ofNat 0)), (.int .u8 (.ofNat 0)), (.int .u8 (.ofNat 0)), (.int .u8 (.ofNat 0)), (.int .u8 (.ofNat 0)), (.int .u8 (.ofNat 0)), (.int .u8 (.ofNat 0)), (.int .u8 (.ofNat 0)), (.int .u8 (.ofNat 0)), (.int .u8 (.ofNat 0)), (.int .u8 (.ofNat 0)), (.int .u8 (.ofNat 0)), (.int .u8 (.ofNat 0)), (.int .u8 (.ofNat 0)), (.int .u8 (.ofNat 0)), (.int .u8 (.ofNat 0)), (.int .u8 (.ofNat 0)), (.int .u8 (.ofNat 0)), (.int .u8 (.ofNat 0)), (.int .u8 (.ofNat 0)), (.int .u8 (.ofNat 0)), (.int .u8 (.ofNat 0)), (.int .u8 (.ofNat 0)), (.int .u8 (.ofNat 0)), (.int .u8 (.ofNat 0)), (.int .u8 (.ofNat 0)), (.int .u8 (.ofNat 0)), (.int .u8 (.ofNat 0)), (.int .u8 (.ofNat 0)), (.int .u8 (.ofNat 0)), (.int .u8 (.ofNat 0)), (.int .u8 (.ofNat 0)), (.int .u8 (.ofNat 0)), (.int .u8 (.ofNat 0)), (.int .u8 (.ofNat 0)), (.int .u8 (.ofNat 0)), (.int .u8 (.ofNat 0)), (.int .u8 (.ofNat 0)), (.int .u8 (.ofNat 0)), (.int .u8 (.ofNat 0)), (.int .u8 (.ofNat 0)), (.int .u8 (.ofNat 0)), (.int .u8 (.ofNat 0)), (.int .u8 (.ofNat 0)), (.int .u8 (.ofNat 0)), (.int .u8 (.ofNat 0)), (.int .u8 (.ofNat 0)), (.int .u8 (.ofNat 0)), (.int .u8 (.ofNat 0)), (.int .u8 (.ofNat 0)), (.int .u8 (.ofNat 0)), (.int .u8 (.ofNat 0)), (.int .u8 (.ofNat 0)), (.int .u8 (.ofNat 0)), (.int .u8 (.ofNat 0)), (.int .u8 (.ofNat 0)), (.int .u8 (.ofNat 0)), (.int .u8 (.ofNat 0)), (.int .u8 (.ofNat 0)), (.int .u8 (.ofNat 0)), (.int .u8 (.ofNat 0)), (.int .u8 (.ofNat 0)), (.int .u8 (.ofNat 0)), (.int .u8 (.ofNat 0)), (.int .u8 (.ofNat 0)), (.int .u8 (.ofNat 0)), (.int .u8 (.ofNat 0)), (.int .u8 (.ofNat 0)), (.int .u8 (.ofNat 0)), (.int .u8 (.ofNat 0)), (.int .u8 (.ofNat 0)), (.int .u8 (.ofNat 0)), (.int .u8 (.ofNat 0)), (.int .u8 (.ofNat 0)), (.int .u8 (.ofNat 0)), (.int .u8 (.ofNat 0)), (.int .u8 (.ofNat 0)), (.int .u8 (.ofNat 0)), (.int .u8 (.ofNat 0)), (.int .u8 (.ofNat 0)), (.int .u8 (.ofNat 0)), (.int .u8 (.ofNat 0)), (.int .u8 (.ofNat 0)), (.int .u8 (.ofNat 0)), (.int .u8 (.ofNat 0)), (.int .u8 (.ofNat 0)), (.int .u8 (.ofNat 0)), (.int .u8 (.ofNat 0)), (.int .u8 (.ofNat 0)), (.int .u8 (.ofNat 0)), (.int .u8 (.ofNat 0)), (.int .u8 (.ofNat 0)), (.int .u8 (.ofNat 0)), (.int .u8 (.ofNat 0)), (.int .u8 (.ofNat 0)), (.int .u8 (.ofNat 0)), (.int .u8 (.ofNat 0)), (.int .u8 (.ofNat 0)), (.int .u8 (.ofNat 0)), (.int .u8 (.ofNat 0)), (.int .u8 (.ofNat 0)), (.int .u8 (.ofNat 0)), (.int .u8 (.ofNat 0)), (.int .u8 (.ofNat 0)), (.int .u8 (.ofNat 0)), (.int .u8 (.ofNat 0)), (.int .u8 (.ofNat 0)), (.int .u8 (.ofNat 0)), (.int .u8 (.ofNat 0)), (.int .u8 (.ofNat 0)), (.int .u8 (.ofNat 0)), (.int .u8 (.ofNat 0)), (.int .u8 (.ofNat 0)), (.int .u8 (.ofNat 0)), (.int .u8 (.ofNat 0)), (.int .u8 (.ofNat 0)), (.int .u8 (.ofNat 0)), (.int .u8 (.ofNat 0)), (.int .u8 (.ofNat 0)), (.int .u8 (.ofNat 0)), (.int .u8 (.ofNat 0)), (.int .u8 (.ofNat 0)), (.int .u8 (.ofNat 0)), (.int .u8 (.ofNat 0)), (.int .u8 (.ofNat 0)), (.int .u8 (.ofNat 0)), (.int .u8 (.ofNat 0)), (.int .u8 (.ofNat 0)), (.int .u8 (.ofNat 0)), (.int .u8 (.ofNat 0)), (.int .u8 (.ofNat 0)), (.int .u8 (.ofNat 0)), (.int .u8 (.ofNat 0)), (.int .u8 (.ofNat 0)), (.int .u8 (.ofNat 0)), (.int .u8 (.ofNat 0)), (.int .u8 (.ofNat 0)), (.int .u8 (.ofNat 0)), (.int .u8 (.ofNat 0)), (.int .u8 (.ofNat 0)), (.int .u8 (.ofNat 0)), (.int .u8 (.ofNat 0)), (.int .u8 (.ofNat 0)), (.int .u8 (.ofNat 0)), (.int .u8 (.ofNat 0)), (.int .u8 (.ofNat 0)), (.int .u8 (.ofNat 0)), (.int .u8 (.ofNat 0)), (.int .u8 (.ofNat 0)), (.int .u8 (.ofNat 0)), (.int .u8 (.ofNat 0)), (.int .u8 (.ofNat 0)), (.int .u8 (.ofNat 0)), (.int .u8 (.ofNat 0)), (.int .u8 (.ofNat 0)), (.int .u8 (.ofNat 0)), (.int .u8 (.ofNat 0)), (.int .u8 (.ofNat 0)), (.int .u8 (.ofNat 0)), (.int .u8 (.ofNat 0)), (.int .u8 (.ofNat 0)), (.int .u8 (.ofNat 0)), (.int .u8 (.ofNat 0)), (.int .u8 (.ofNat 0)), (.int .u8 (.ofNat 0)), (.int .u8 (.ofNat 0)), (.int .u8 (.ofNat 0)), (.int .u8 (.ofNat 0)), (.int .u8 (.ofNat 0)), (.int .u8 (.ofNat 0)), (.int .u8 (.ofNat 0)), (.int .u8 (.ofNat 0)), (.int .u8 (.ofNat 0)), (.int .u8 (.ofNat 0)), (.int .u8 (.ofNat 0)), (.int .u8 (.ofNat 0)), (.int .u8 (.ofNat 0)), (.int .u8 (.ofNat 0)), (.int .u8 (.ofNat 0)), (.int .u8 (.ofNat 0)), (.int .u8 (.ofNat 0)), (.int .u8 (.ofNat 0)), (.int .u8 (.ofNat 0)), (.int .u8 (.ofNat 0)), (.int .u8 (.ofNat 0)), (.int .u8 (.ofNat 0)), (.int .u8 (.ofNat 0)), (.int .u8 (.ofNat 0)), (.int .u8 (.ofNat 0)), (.int .u8 (.ofNat 0)), (.int .u8 (.ofNat 0)), (.int .u8 (.ofNat 0)), (.int .u8 (.ofNat 0)), (.int .u8 (.ofNat 0)), (.int .u8 (.ofNat 0)), (.int .u8 (.ofNat 0)), (.int .u8 (.ofNat 0)), (.int .u8 (.ofNat 0)), (.int .u8 (.ofNat 0)), (.int .u8 (.ofNat 0)), (.int .u8 (.ofNat 0)), (.int .u8 (.ofNat 0)), (.int .u8 (.ofNat 0)), (.int .u8 (.ofNat 0)), (.int .u8 (.ofNat 0)), (.int .u8 (.ofNat 0)), (.int .u8 (.ofNat 0)), (.int .u8 (.ofNat 0)), (.int .u8 (.ofNat 0)), (.int .u8 (.ofNat 0)), (.int .i64 (.ofNat 0))] [(512, 1, x21)]) fun v => kk v h22) h22 fun x23 h24 =>
  gdK x8 true (fun kk => none) h24 fun x25 h26 =>
  vK (v_pick x8 x25 (.bool false)) fun x27 =>
  some (x27, h26))
def C32_0 : DC := (.seq (.reg [⟨(some p2), none, (.e (.mv (.c (.bool false))))⟩]) (.seq (.seq (.reg [⟨(some p5), none, (.e (.mv (.r p0)))⟩, ⟨(some p6), none, (.e (.lenL (.r p5)))⟩, ⟨(some p7), none, (.c (.f 58 [(.r p6)]))⟩, ⟨(some p8), none, (.e (.not (.r p7)))⟩]) (.cond (.r p8) (.seq (.reg [⟨(some p2), none, (.e (.mv (.c (.bool false))))⟩]) .ret) .skip)) (.seq (.reg [⟨(some p10), none, (.e (.mv (.r p0)))⟩, ⟨(some p11), none, (.c (.f 59 [(.r p10), (.c (.int .i64 (.negSucc 0)))]))⟩, ⟨(some p9), none, (.e (.mv (.r p11)))⟩, ⟨(some p12), none, (.e (.ext 0 (.r p9)))⟩, ⟨(some p13), none, (.e (.ext 1 (.r p9)))⟩, ⟨(some p3), none, (.e (.mv (.r p12)))⟩, ⟨(some p4), none, (.e (.mv (.r p13)))⟩]) (.seq (.drg [⟨0, ⟨(some p14), none, (.e (.mv (.r p4)))⟩, [], false⟩, ⟨1, ⟨(some p15), none, (.e (.mv (.r p14)))⟩, [], false⟩, ⟨2, ⟨(some p16), (some (p15, true)), (.e (.mv (.r p3)))⟩, [], false⟩, ⟨3, ⟨(some p17), (some (p15, true)), (.e (.nilchk (.r p16)))⟩, [], false⟩, ⟨4, ⟨(some p18), (some (p15, true)), (.e (.ldN 513 (.r p17)))⟩, [], false⟩, ⟨5, ⟨(some p19), (some (p15, true)), (.e (.mv (.r p3)))⟩, [], false⟩, ⟨6, ⟨(some p20), (some (p15, true)), (.e (.nilchk (.r p19)))⟩, [], false⟩, ⟨7, ⟨(some p21), (some (p15, true)), (.e (.fa 512 (.r p20)))⟩, [], false⟩, ⟨8, ⟨(some p22), (some (p15, true)), (.e (.ld (.r p21)))⟩, [], false⟩, ⟨9, ⟨(some p23), (some (p15, true)), (.e (.bld [(.int .u8 (.ofNat 0)), (.int .u8 (.ofNat 0)), (.int .u8 (.ofNat 0)), (.int .u8 (.ofNat 0)), (.int .u8 (.ofNat 0)), (.int .u8 (.ofNat 0)), (.int .u8 (.ofNat 0)), (.int .u8 (.ofNat 0)), (.int .u8 (.ofNat 0)), (.int .u8 (.ofNat 0)), (.int .u8 (.ofNat 0)), (.int .u8 (.ofNat 0)), (.int .u8 (.ofNat 0)), (.int .u8 (.ofNat 0)), (.int .u8 (.ofNat 0)), (.int .u8 (.ofNat 0)), (.int .u8 (.ofNat 0)), (.int .u8 (.ofNat 0)), (.int .u8 (.ofNat 0)), (.int .u8 (.ofNat 0)), (.int .u8 (.ofNat 0)), (.int .u8 (.ofNat 0)), (.int .u8 (.ofNat 0)), (.int .u8 (.ofNat 0)), (.int .u8 (.ofNat 0)), (.int .u8 (.ofNat 0)), (.int .u8 (.ofNat 0)), (.int .u8 (.ofNat 0)), (.int .u8 (.ofNat 0)), (.int .u8 (.ofNat 0)), (.int .u8 (.ofNat 0)), (.int .u8 (.ofNat 0)), (.int .u8 (.ofNat 0)), (.int .u8 (.ofNat 0)), (.int .u8 (.ofNat 0)), (.int .u8 (.ofNat 0)), (.int .u8 (.ofNat 0)), (.int .u8 (.ofNat 0)), (.int .u8 (.ofNat 0)), (.int .u8 (.ofNat 0)), (.int .u8 (.ofNat 0)), (.int .u8 (.ofNat 0)), (.int .u8 (.ofNat 0)), (.int .u8 (.ofNat 0)), (.int .u8 (.ofNat 0)), (.int .u8 (.ofNat 0)), (.int .u8 (.ofNat 0)), (.int .u8 (.ofNat 0)), (.int .u8 (.ofNat 0)), (.int .u8 (.ofNat 0)), (.int .u8 (.ofNat 0)), (.int .u8 (.ofNat 0)), (.int .u8 (.ofNat 0)), (.int .u8 (.ofNat 0)), (.int .u8 (.ofNat 0)), (.int .u8 (.ofNat 0)), (.int .u8 (.ofNat 0)), (.int .u8 (.ofNat 0)), (.int .u8 (.ofNat 0)), (.int .u8 (.ofNat 0)), (.int .u8 (.ofNat 0)), (.int .u8 (.ofNat 0)), (.int .u8 (.ofNat 0)), (.int .u8 (.ofNat 0)), (.int .u8 (.ofNat 0)), (.int .u8 (.ofNat 0)), (.int .u8 (.ofNat 0)), (.int .u8 (.ofNat 0)), (.int .u8 (.ofNat 0)), (.int .u8 (.ofNat 0)), (.int .u8 (.ofNat 0)), (.int .u8 (.ofNat 0)), (.int .u8 (.ofNat 0)), (.int .u8 (.ofNat 0)), (.int .u8 (.ofNat 0)), (.int .u8 (.ofNat 0)), (.int .u8 (.ofNat 0)), (.int .u8 (.ofNat 0)), (.int .u8 (.ofNat 0)), (.int .u8 (.ofNat 0)), (.int .u8 (.ofNat 0)), (.int .u8 (.ofNat 0)), (.int .u8 (.ofNat 0)), (.int .u8 (.ofNat 0)), (.int .u8 (.ofNat 0)), (.int .u8 (.ofNat 0)), (.int .u8 (.ofNat 0)), (.int .u8 (.ofNat 0)), (.int .u8 (.ofNat 0)), (.int .u8 (.ofNat 0)), (.int .u8 (.ofNat 0)), (.int .u8 (.ofNat 0)), (.int .u8 (.ofNat 0)), (.int .u8 (.ofNat 0)), (.int .u8 (.ofNat 0)), (.int .u8 (.ofNat 0)), (.int .u8 (.ofNat 0)), (.int .u8 (.ofNat 0)), (.int .u8 (.ofNat 0)), (.int .u8 (.ofNat 0)), (.int .u8 (.ofNat 0)), (.int .u8 (.ofNat 0)), (.int .u8 (.ofNat 0)), (.int .u8 (.ofNat 0)), (.int .u8 (.ofNat 0)), (.int .u8 (.ofNat 0)), (.int .u8 (.ofNat 0)), (.int .u8 (.ofNat 0)), (.int .u8 (.ofNat 0)), (.int .u8 (.ofNat 0)), (.int .u8 (.ofNat 0)), (.int .u8 (.ofNat 0)), (.int .u8 (.ofNat 0)), (.int .u8 (.ofNat 0)), (.int .u8 (.ofNat 0)), (.int .u8 (.ofNat 0)), (.int .u8 (.ofNat 0)), (.int .u8 (.ofNat 0)), (.int .u8 (.ofNat 0)), (.int .u8 (.ofNat 0)), (.int .u8 (.ofNat 0)), (.int .u8 (.ofNat 0)), (.int .u8 (.ofNat 0)), (.int .u8 (.ofNat 0)), (.int .u8 (.ofNat 0)), (.int .u8 (.ofNat 0)), (.int .u8 (.ofNat 0)), (.int .u8 (.ofNat 0)), (.int .u8 (.ofNat 0)), (.int .u8 (.ofNat 0)), (.int .u8 (.ofNat 0)), (.int .u8 (.ofNat 0)), (.int .u8 (.ofNat 0)), (.int .u8 (.ofNat 0)), (.int .u8 (.ofNat 0)), (.int .u8 (.ofNat 0)), (.int .u8 (.ofNat 0)), (.int .u8 (.ofNat 0)), (.int .u8 (.ofNat 0)), (.int .u8 (.ofNat 0)), (.int .u8 (.ofNat 0)), (.int .u8 (.ofNat 0)), (.int .u8 (.ofNat 0)), (.int .u8 (.ofNat 0)), (.int .u8 (.ofNat 0)), (.int .u8 (.ofNat 0)), (.int .u8 (.ofNat 0)), (.int .u8 (.ofNat 0)), (.int .u8 (.ofNat 0)), (.int .u8 (.ofNat 0)), (.int .u8 (.ofNat 0)), (.int .u8 (.ofNat 0)), (.int .u8 (.ofNat 0)), (.int .u8 (.ofNat 0)), (.int .u8 (.ofNat 0)), (.int .u8 (.ofNat 0)), (.int .u8 (.ofNat 0)), (.int .u8 (.ofNat 0)), (.int .u8 (.ofNat 0)), (.int .u8 (.ofNat 0)), (.int .u8 (.ofNat 0)), (.int .u8 (.ofNat 0)), (.int .u8 (.ofNat 0)), (.int .u8 (.ofNat 0)), (.int .u8 (.ofNat 0)), (.int .u8 (.ofNat 0)), (.int .u8 (.ofNat 0)), (.int .u8 (.ofNat 0)), (.int .u8 (.ofNat 0)), (.int .u8 (.ofNat 0)), (.int .u8 (.ofNat 0)), (.int .u8 (.ofNat 0)), (.int .u8 (.ofNat 0)), (.int .u8 (.ofNat 0)), (.int .u8 (.ofNat 0)), (.int .u8 (.ofNat 0)), (.int .u8 (.ofNat 0)), (.int .u8 (.ofNat 0)), (.int .u8 (.ofNat 0)), (.int .u8 (.ofNat 0)), (.int .u8 (.ofNat 0)), (.int .u8 (.ofNat 0)), (.int .u8 (.ofNat 0)), (.int .u8 (.ofNat 0)), (.int .u8 (.ofNat 0)), (.int .u8 (.ofNat 0)), (.int .u8 (.ofNat 0)), (.int .u8 (.ofNat 0)), (.int .u8 (.ofNat 0)), (.int .u8 (.ofNat 0)), (.int .u8 (.ofNat 0)), (.int .u8 (.ofNat 0)), (.int .u8 (.ofNat 0)), (.int .u8 (.ofNat 0)), (.int .u8 (.ofNat 0)), (.int .u8 (.ofNat 0)), (.int .u8 (.ofNat 0)), (.int .u8 (.ofNat 0)), (.int .u8 (.ofNat 0)), (.int .u8 (.ofNat 0)), (.int .u8 (.ofNat 0)), (.int .u8 (.ofNat 0)), (.int .u8 (.ofNat 0)), (.int .u8 (.ofNat 0)), (.int .u8 (.ofNat 0)), (.int .u8 (.ofNat 0)), (.int .u8 (.ofNat 0)), (.int .u8 (.ofNat 0)), (.int .u8 (.ofNat 0)), (.int .u8 (.ofNat 0)), (.int .u8 (.ofNat 0)), (.int .u8 (.ofNat 0)), (.int .u8 (.ofNat 0)), (.int .u8 (.ofNat 0)), (.int .u8 (.ofNat 0)), (.int .u8 (.ofNat 0)), (.int .u8 (.ofNat 0)), (.int .u8 (.ofNat 0)), (.int .u8 (.ofNat 0)), (.int .u8 (.ofNat 0)), (.int .u8 (.ofNat 0)), (.int .u8 (.ofNat 0)), (.int .u8 (.ofNat 0)), (.int .u8 (.ofNat 0)), (.int .u8 (.ofNat 0)), (.int .u8 (.ofNat 0)), (.int .u8 (.ofNat 0)), (.int .u8 (.ofNat 0)), (.int .u8 (.ofNat 0)), (.int .u8 (.ofNat 0)), (.int .u8 (.ofNat 0)), (.int .u8 (.ofNat 0)), (.int .u8 (.ofNat 0)), (.int .u8 (.ofNat 0)), (.int .u8 (.ofNat 0)), (.int .u8 (.ofNat 0)), (.int .u8 (.ofNat 0)), (.int .u8 (.ofNat 0)), (.int .u8 (.ofNat 0)), (.int .u8 (.ofNat 0)), (.int .u8 (.ofNat 0)), (.int .u8 (.ofNat 0)), (.int .u8 (.ofNat 0)), (.int .u8 (.ofNat 0)), (.int .u8 (.ofNat 0)), (.int .u8 (.ofNat 0)), (.int .u8 (.ofNat 0)), (.int .u8 (.ofNat 0)), (.int .u8 (.ofNat 0)), (.int .u8 (.ofNat 0)), (.int .u8 (.ofNat 0)), (.int .u8 (.ofNat 0)), (.int .u8 (.ofNat 0)), (.int .u8 (.ofNat 0)), (.int .u8 (.ofNat 0)), (.int .u8 (.ofNat 0)), (.int .u8 (.ofNat 0)), (.int .u8 (.ofNat 0)), (.int .u8 (.ofNat 0)), (.int .u8 (.ofNat 0)), (.int .u8 (.ofNat 0)), (.int .u8 (.ofNat 0)), (.int .u8 (.ofNat 0)), (.int .u8 (.ofNat 0)), (.int .u8 (.ofNat 0)), (.int .u8 (.ofNat 0)), (.int .u8 (.ofNat 0)), (.int .u8 (.ofNat 0)), (.int .u8 (.ofNat 0)), (.int .u8 (.ofNat 0)), (.int .u8 (.ofNat 0)), (.int .u8 (.ofNat 0)), (.int .u8 (.ofNat 0)), (.int .u8 (.ofNat 0)), (.int .u8 (.ofNat 0)), (.int .u8 (.ofNat 0)), (.int .u8 (.ofNat 0)), (.int .u8 (.ofNat 0)), (.int .u8 (.ofNat 0)), (.int .u8 (.ofNat 0)), (.int .u8 (.ofNat 0)), (.int .u8 (.ofNat 0)), (.int .u8 (.ofNat 0)), (.int .u8 (.ofNat 0)), (.int .u8 (.ofNat 0)), (.int .u8 (.ofNat 0)), (.int .u8 (.ofNat 0)), (.int .u8 (.ofNat 0)), (.int .u8 (.ofNat 0)), (.int .u8 (.ofNat 0)), (.int .u8 (.ofNat 0)), (.int .u8 (.ofNat 0)), (.int .u8 (.ofNat 0)), (.int .u8 (.ofNat 0)), (.int .u8 (.ofNat 0)), (.int .u8 (.ofNat 0)), (.int .u8 (.ofNat 0)), (.int .u8 (.ofNat 0)), (.int .u8 (.ofNat 0)), (.int .u8 (.ofNat 0)), (.int .u8 (.ofNat 0)), (.int .u8 (.ofNat 0)), (.int .u8 (.ofNat 0)), (.int .u8 (.ofNat 0)), (.int .u8 (.ofNat 0)), (.int .u8 (.ofNat 0)), (.int .u8 (.ofNat 0)), (.int .u8 (.ofNat 0)), (.int .u8 (.ofNat 0)), (.int .u8 (.ofNat 0)), (.int .u8 (.ofNat 0)), (.int .u8 (.ofNat 0)), (.int .u8 (.ofNat 0)), (.int .u8 (.ofNat 0)), (.int .u8 (.ofNat 0)), (.int .u8 (.ofNat 0)), (.int .u8 (.ofNat 0)), (.int .u8 (.ofNat 0)), (.int .u8 (.ofNat 0)), (.int .u8 (.ofNat 0)), (.int .u8 (.ofNat 0)), (.int .u8 (.ofNat 0)), (.int .u8 (.ofNat 0)), (.int .u8 (.ofNat 0)), (.int .u8 (.ofNat 0)), (.int .u8 (.ofNat 0)), (.int .u8 (.ofNat 0)), (.int .u8 (.ofNat 0)), (.int .u8 (.ofNat 0)), (.int .u8 (.ofNat 0)), (.int .u8 (.ofNat 0)), (.int .u8 (.ofNat 0)), (.int .u8 (.ofNat 0)), (.int .u8 (.ofNat 0)), (.int .u8 (.ofNat 0)), (.int .u8 (.ofNat 0)), (.int .u8 (.ofNat 0)), (.int .u8 (.ofNat 0)), (.int .u8 (.ofNat 0)), (.int .u8 (.ofNat 0)), (.int .u8 (.ofNat 0)), (.int .u8 (.ofNat 0)), (.int .u8 (.ofNat 0)), (.int .u8 (.ofNat 0)), (.int .u8 (.ofNat 0)), (.int .u8 (.ofNat 0)), (.int .u8 (.ofNat 0)), (.int .u8 (.ofNat 0)), (.int .u8 (.ofNat 0)), (.int .u8 (.ofNat 0)), (.int .u8 (.ofNat 0)), (.int .u8 (.ofNat 0)), (.int .u8 (.ofNat 0)), (.int .u8 (.ofNat 0)), (.int .u8 (.ofNat 0)), (.int .u8 (.ofNat 0)), (.int .u8 (.ofNat 0)), (.int .u8 (.ofNat 0)), (.int .u8 (.ofNat 0)), (.int .u8 (.ofNat 0)), (.int .u8 (.ofNat 0)), (.int .u8 (.ofNat 0)), (.int .u8 (.ofNat 0)), (.int .u8 (.ofNat 0)), (.int .u8 (.ofNat 0)), (.int .u8 (.ofNat 0)), (.int .u8 (.ofNat 0)), (.int .u8 (.ofNat 0)), (.int .u8 (.ofNat 0)), (.int .u8 (.ofNat 0)), (.int .u8 (.ofNat 0)), (.int .u8 (.ofNat 0)), (.int .u8 (.ofNat 0)), (.int .u8 (.ofNat 0)), (.int .u8 (.ofNat 0)), (.int .u8 (.ofNat 0)), (.int .u8 (.ofNat 0)), (.int .u8 (.ofNat 0)), (.int .u8 (.ofNat 0)), (.int .u8 (.ofNat 0)), (.int .u8 (.ofNat 0)), (.int .u8 (.ofNat 0)), (.int .u8 (.ofNat 0)), (.int .u8 (.ofNat 0)), (.int .u8 (.ofNat 0)), (.int .u8 (.ofNat 0)), (.int .u8 (.ofNat 0)), (.int .u8 (.ofNat 0)), (.int .u8 (.ofNat 0)), (.int .u8 (.ofNat 0)), (.int .u8 (.ofNat 0)), (.int .u8 (.ofNat 0)), (.int .u8 (.ofNat 0)), (.int .u8 (.ofNat 0)), (.int .u8 (.ofNat 0)), (.int .u8 (.ofNat 0)), (.int .u8 (.ofNat 0)), (.int .u8 (.ofNat 0)), (.int .u8 (.ofNat 0)), (.int .u8 (.ofNat 0)), (.int .u8 (.ofNat 0)), (.int .u8 (.ofNat 0)), (.int .u8 (.ofNat 0)), (.int .u8 (.ofNat 0)), (.int .u8 (.ofNat 0)), (.int .u8 (.ofNat 0)), (.int .u8 (.ofNat 0)), (.int .u8 (.ofNat 0)), (.int .u8 (.ofNat 0)), (.int .u8 (.ofNat 0)), (.int .u8 (.ofNat 0)), (.int .u8 (.ofNat 0)), (.int .u8 (.ofNat 0)), (.int .u8 (.ofNat 0)), (.int .u8 (.ofNat 0)), (.int .u8 (.ofNat 0)), (.int .u8 (.ofNat 0)), (.int .u8 (.ofNat 0)), (.int .u8 (.ofNat 0)), (.int .u8 (.ofNat 0)), (.int .u8 (.ofNat 0)), (.int .u8 (.ofNat 0)), (.int .u8 (.ofNat 0)), (.int .u8 (.ofNat 0)), (.int .u8 (.ofNat 0)), (.int .u8 (.ofNat 0)), (.int .u8 (.ofNat 0)), (.int .u8 (.ofNat 0)), (.int .u8 (.ofNat 0)), (.int .u8 (.ofNat 0)), (.int .u8 (.ofNat 0)), (.int .u8 (.ofNat 0)), (.int .u8 (.ofNat 0)), (.int .u8 (.ofNat 0)), (.int .u8 (.ofNat 0)), (.int .u8 (.ofNat 0)), (.int .u8 (.ofNat 0)), (.int .u8 (.ofNat 0)), (.int .u8 (.ofNat 0)), (.int .u8 (.ofNat 0)), (.int .u8 (.ofNat 0)), (.int .u8 (.ofNat 0)), (.int .u8 (.ofNat 0)), (.int .u8 (.ofNat 0)), (.int .u8 (.ofNat 0)), (.int .u8 (.ofNat 0)), (.int .u8 (.ofNat 0)), (.int .u8 (.ofNat 0)), (.int .u8 (.ofNat 0)), (.int .u8 (.ofNat 0)), (.int .u8 (.ofNat 0)), (.int .u8 (.ofNat 0)), (.int .u8 (.ofNat 0)), (.int .u8 (.ofNat 0)), (.int .u8 (.ofNat 0)), (.int .u8 (.ofNat 0)), (.int .u8 (.ofNat 0)), (.int .u8 (.ofNat 0)), (.int .u8 (.ofNat 0)), (.int .u8 (.ofNat 0)), (.int .u8 (.ofNat 0)), (.int .u8 (.ofNat 0)), (.int .u8 (.ofNat 0)), (.int .u8 (.ofNat 0)), (.int .u8 (.ofNat 0)), (.int .u8 (.ofNat 0)), (.int .u8 (.ofNat 0)), (.int .u8 (.ofNat 0)), (.int .u8 (.ofNat 0)), (.int .u8 (.ofNat 0)), (.int .u8 (.ofNat 0)), (.int .u8 (.ofNat 0)), (.int .u8 (.ofNat 0)), (.int .u8 (.ofNat 0)), (.int .u8 (.ofNat 0)), (.int .u8 (.ofNat 0)), (.int .u8 (.ofNat 0)), (.int .u8 (.ofNat 0)), (.int .u8 (.ofNat 0)), (.int .u8 (.ofNat 0)), (.int .u8 (.ofNat 0)), (.int .u8 (.ofNat 0)), (.int .u8 (.ofNat 0)), (.int .u8 (.ofNat 0)), (.int .u8 (.ofNat 0)), (.int .u8 (.ofNat 0)), (.int .u8 (.ofNat 0)), (.int .u8 (.ofNat 0)), (.int .u8 (.ofNat 0)), (.int .u8 (.ofNat 0)), (.int .u8 (.ofNat 0)), (.int .u8 (.ofNat 0)), (.int .u8 (.ofNat 0)), (.int .u8 (.ofNat 0)), (.int .u8 (.ofNat 0)), (.int .u8 (.ofNat 0)), (.int .u8 (.ofNat 0)), (.int .u8 (.ofNat 0)), (.int .u8 (.ofNat 0)), (.int .u8 (.ofNat 0)), (.int .u8 (.ofNat 0)), (.int .u8 (.ofNat 0)), (.int .u8 (.ofNat 0)), (.int .u8 (.ofNat 0)), (.int .u8 (.ofNat 0)), (.int .u8 (.ofNat 0)), (.int .u8 (.ofNat 0)), (.int .u8 (.ofNat 0)), (.int .u8 (.ofNat 0)), (.int .u8 (.ofNat 0)), (.int .u8 (.ofNat 0)), (.int .u8 (.ofNat 0)), (.int .i64 (.ofNat 0))] [(512, 1, (.r p22))]))⟩, [], false⟩, ⟨10, ⟨(some p24), (some (p15, true)), (.e .bad)⟩, [], false⟩, ⟨11, ⟨(some p25), none, (.e (.pick (.r p15) (.r p24) (.c (.bool false))))⟩, [], false⟩, ⟨12, ⟨(some p2), none, (.e (.mv (.r p25)))⟩, [], false⟩]) .ret))))
theorem I32_0 (E : Env) : Is E C32_0 (retK3 R32) (fun σ h => J32_0 E (σ p0) h) :=
  fun σ h => by kernel_rfl
def D32 : DF := ⟨1, 26, C32_0, R32⟩
noncomputable def S32 (E : Env) : Fun := fun args h => aS args fun r0 args => a0 args (J32_0 E r0 h)
theorem S32_eq (E : Env) (args : List DV) (h : H) : runFn E D32 args h = S32 E args h :=
  Is.fn1 (d := D32) (I32_0 E) rfl (fun r0 h => J32_0 E r0 h) (fun r0 h => by kernel_rfl) args h
/- hurdle/array.New -/
def R33 : List RV := [(.r p8)]
noncomputable def J33_0 (E : Env) (r0 r1 r2 r3 : DV) (h : H) : Ans :=
  vK (v_lss r0 (.int .i64 (.ofNat 1))) fun x1 =>
  gdK x1 false (fun kk => kk r0 h) h fun x2 h3 =>
  gdK x1 false (fun kk => vK (v_gtr x2 (.int .i64 (.ofNat 8))) fun v => kk v h3) h3 fun x4 h5 =>
  vK (v_pick x1 (.bool true) x4) fun x6 =>
  gdK x6 false (fun kk => kk r2 h5) h5 fun x7 h8 =>
  gdK x6 false (fun kk => vK (v_lss x7 (.int .i64 (.ofNat 2))) fun v => kk v h8) h8 fun x9 h10 =>
  vK (v_pick x6 (.bool true) x9) fun x11 =>
  gdK x11 false (fun kk => kk r2 h10) h10 fun x12 h13 =>
  gdK x11 false (fun kk => vK (v_gtr x12 (.int .i64 (.ofNat 8))) fun v => kk v h13) h13 fun x14 h15 =>
  vK (v_pick x11 (.bool true) x14) fun x16 =>
  gdK x16 false (fun kk => kk r3 h15) h15 fun x17 h18 =>
  gdK x16 false (fun kk => vK (v_lss x17 (.int .i64 (.ofNat 0))) fun v => kk v h18) h18 fun x19 h20 =>
  vK (v_pick x16 (.bool true) x19) fun x21 =>
  gdK x21 false (fun kk => kk r3 h20) h20 fun x22 h23 =>
  gdK x21 false (fun kk => kk r0 h23) h23 fun x24 h25 =>
  gdK x21 false (fun kk => kk r2 h25) h25 fun x26 h27 =>
  gdK x21 false (fun kk => vK (v_sub x24 x26) fun v => kk v h27) h27 fun x28 h29 =>
  gdK x21 false (fun kk => vK (v_gtr x22 x28) fun v => kk v h29) h29 fun x30 h31 =>
  vK (v_pick x21 (.bool true) x30) fun x32 =>
  bK x32
  (some (.nilp, h31))
  (wK (callK E 60 [r0, r1] h31) fun x33 h34 =>
  wK (callK E 62 [(.int .i64 (.ofNat 0)), r2] h34) fun x35 h36 =>
  wK (callK E 62 [r2, r3] h36) fun x37 h38 =>
  wK (callK E 61 [x35, x37] h38) fun x39 h40 =>
  vK (v_bld [.nilp, .nilp, (.int .i64 (.ofNat 0)), (.int .i64 (.ofNat 0)), (.int .i64 (.ofNat 0)), (.int .i64 (.ofNat 0)), (.int .i64 (.ofNat 0)), (.int .i64 (.ofNat 0)), (.int .i64 (.ofNat 0)), (.int .i64 (.ofNat 0)), (.int .i64 (.ofNat 0)), (.int .i64 (.ofNat 0)), (.int .i64 (.ofNat 0)), (.int .i64 (.ofNat 0)), (.int .i64 (.ofNat 0)), (.int .i64 (.ofNat 0)), (.int .i64 (.ofNat 0)), (.int .i64 (.ofNat 0)), (.int .i64 (.ofNat 0))] [(0, 1, x33), (1, 1, x39), (2, 1, r2)]) fun x41 =>
  n_box x41 h40 fun x42 h43 =>
  some (x42, h43))
def C33_0 : DC := (.seq (.reg [⟨(some p8), none, (.e (.mv (.c .nilp)))⟩]) (.seq (.seq (.reg [⟨(some p9), none, (.e (.mv (.r p0)))⟩, ⟨(some p10), none, (.e (.bin .lss (.r p9) (.c (.int .i64 (.ofNat 1)))))⟩, ⟨(some p11), none, (.e (.mv (.r p10)))⟩, ⟨(some p12), (some (p11, false)), (.e (.mv (.r p0)))⟩, ⟨(some p13), (some (p11, false)), (.e (.bin .gtr (.r p12) (.c (.int .i64 (.ofNat 8)))))⟩, ⟨(some p14), none, (.e (.pick (.r p11) (.c (.bool true)) (.r p13)))⟩, ⟨(some p15), none, (.e (.mv (.r p14)))⟩, ⟨(some p16), (some (p15, false)), (.e (.mv (.r p2)))⟩, ⟨(some p17), (some (p15, false)), (.e (.bin .lss (.r p16) (.c (.int .i64 (.ofNat 2)))))⟩, ⟨(some p18), none, (.e (.pick (.r p15) (.c (.bool true)) (.r p17)))⟩, ⟨(some p19), none, (.e (.mv (.r p18)))⟩, ⟨(some p20), (some (p19, false)), (.e (.mv (.r p2)))⟩, ⟨(some p21), (some (p19, false)), (.e (.bin .gtr (.r p20) (.c (.int .i64 (.ofNat 8)))))⟩, ⟨(some p22), none, (.e (.pick (.r p19) (.c (.bool true)) (.r p21)))⟩, ⟨(some p23), none, (.e (.mv (.r p22)))⟩, ⟨(some p24), (some (p23, false)), (.e (.mv (.r p3)))⟩, ⟨(some p25), (some (p23, false)), (.e (.bin .lss (.r p24) (.c (.int .i64 (.ofNat 0)))))⟩, ⟨(some p26), none, (.e (.pick (.r p23) (.c (.bool true)) (.r p25)))⟩, ⟨(some p27), none, (.e (.mv (.r p26)))⟩, ⟨(some p28), (some (p27, false)), (.e (.mv (.r p3)))⟩, ⟨(some p29), (some (p27, false)), (.e (.mv (.r p0)))⟩, ⟨(some p30), (some (p27, false)), (.e (.mv (.r p2)))⟩, ⟨(some p31), (some (p27, false)), (.e (.bin .sub (.r p29) (.r p30)))⟩, ⟨(some p32), (some (p27, false)), (.e (.bin .gtr (.r p28) (.r p31)))⟩, ⟨(some p33), none, (.e (.pick (.r p27) (.c (.bool true)) (.r p32)))⟩]) (.cond (.r p33) (.seq (.reg [⟨(some p8), none, (.e (.mv (.c .nilp)))⟩]) .ret) .skip)) (.seq (.reg [⟨(some p34), none, (.e (.mv (.r p0)))⟩, ⟨(some p35), none, (.e (.mv (.r p1)))⟩, ⟨(some p36), none, (.c (.f 60 [(.r p34), (.r p35)]))⟩, ⟨(some p37), none, (.e (.mv (.r p2)))⟩, ⟨(some p38), none, (.c (.f 62 [(.c (.int .i64 (.ofNat 0))), (.r p37)]))⟩, ⟨(some p39), none, (.e (.mv (.r p2)))⟩, ⟨(some p40), none, (.e (.mv (.r p3)))⟩, ⟨(some p41), none, (.c (.f 62 [(.r p39), (.r p40)]))⟩, ⟨(some p42), none, (.c (.f 61 [(.r p38), (.r p41)]))⟩, ⟨(some p43), none, (.e (.mv (.r p2)))⟩, ⟨(some p44), none, (.e (.bld [.nilp, .nilp, (.int .i64 (.ofNat 0)), (.int .i64 (.ofNat 0)), (.int .i64 (.ofNat 0)), (.int .i64 (.ofNat 0)), (.int .i64 (.ofNat 0)), (.int .i64 (.ofNat 0)), (.int .i64 (.ofNat 0)), (.int .i64 (.ofNat 0)), (.int .i64 (.ofNat 0)), (.int .i64 (.ofNat 0)), (.int .i64 (.ofNat 0)), (.int .i64 (.ofNat 0)), (.int .i64 (.ofNat 0)), (.int .i64 (.ofNat 0)), (.int .i64 (.ofNat 0)), (.int .i64 (.ofNat 0)), (.int .i64 (.ofNat 0))] [(0, 1, (.r p36)), (1, 1, (.r p42)), (2, 1, (.r p43))]))⟩, ⟨(some p45), none, (.e (.box (.r p44)))⟩, ⟨(some p8), none, (.e (.mv (.r p45)))⟩]) .ret)))
theorem I33_0 (E : Env) : Is E C33_0 (retK3 R33) (fun σ h => J33_0 E (σ p0) (σ p1) (σ p2) (σ p3) h) :=
  fun σ h => by kernel_rfl
def D33 : DF := ⟨4, 46, C33_0, R33⟩
noncomputable def S33 (E : Env) : Fun := fun args h => aS args fun r0 args => aS args fun r1 args => aS args fun r2 args => aS args fun r3 args => a0 args (J33_0 E r0 r1 r2 r3 h)
theorem S33_eq (E : Env) (args : List DV) (h : H) : runFn E D33 args h = S33 E args h :=
  Is.fn4 (d := D33) (I33_0 E) rfl (fun r0 r1 r2 r3 h => J33_0 E r0 r1 r2 r3 h) (fun r0 r1 r2 r3 h => by kernel_rfl) args h
/- (*hurdle/servers.Servers).Down -/
def R34 : List RV := [(.r p6)]
noncomputable def J34_0 (E : Env) (r0 r1 r2 : DV) (h : H) : Ans :=
  wK (callK E 63 [r0, r1] h) fun x1 h2 =>
  vK (v_eqv .ptr false h2.get x1 .nilp) fun x3 =>
  gdK x3 false (fun kk => kk x1 h2) h2 fun x4 h5 =>
  gdK x3 false (fun kk => vK (v_nilchk x4) fun v => kk v h5) h5 fun x6 h7 =>
  gdK x3 false (fun kk => vK (v_fa 3 x6) fun v => kk v h7) h7 fun x8 h9 =>
  gdK x3 false (fun kk => vK (v_ld h9.get x8) fun v => kk v h9) h9 fun x10 h11 =>
  vK (v_pick x3 (.bool true) x10) fun x12 =>
  bK x12
  (some ((.bool false), h11))
  (vK (v_nilchk x1) fun x13 =>
  vK (v_fa 2 x13) fun x14 =>
  wK (dStF 1 x14 r2 h11) fun x15 h16 =>
  some ((.bool true), h16))
def C34_0 : DC := (.seq (.reg [⟨(some p6), none, (.e (.mv (.c (.bool false))))⟩]) (.seq (.reg [⟨(some p8), none, (.e (.mv (.r p0)))⟩, ⟨(some p9), none, (.e (.mv (.r p1)))⟩, ⟨(some p10), none, (.c (.f 63 [(.r p8), (.r p9)]))⟩, ⟨(some p7), none, (.e (.mv (.r p10)))⟩]) (.seq (.seq (.reg [⟨(some p11), none, (.e (.mv (.r p7)))⟩, ⟨(some p12), none, (.e (.eqv .ptr false (.r p11) (.c .nilp)))⟩, ⟨(some p13), none, (.e (.mv (.r p12)))⟩, ⟨(some p14), (some (p13, false)), (.e (.mv (.r p7)))⟩, ⟨(some p15), (some (p13, false)), (.e (.nilchk (.r p14)))⟩, ⟨(some p16), (some (p13, false)), (.e (.fa 3 (.r p15)))⟩, ⟨(some p17), (some (p13, false)), (.e (.ld (.r p16)))⟩, ⟨(some p18), none, (.e (.pick (.r p13) (.c (.bool true)) (.r p17)))⟩]) (.cond (.r p18) (.seq (.reg [⟨(some p6), none, (.e (.mv (.c (.bool false))))⟩]) .ret) .skip)) (.seq (.reg [⟨(some p19), none, (.e (.mv (.r p7)))⟩, ⟨(some p20), none, (.e (.mv (.r p2)))⟩, ⟨(some p21), none, (.e (.nilchk (.r p19)))⟩, ⟨(some p22), none, (.e (.fa 2 (.r p21)))⟩, ⟨none, none, (.w (.st 1 (.r p22) (.r p20)))⟩]) (.seq (.reg [⟨(some p6), none, (.e (.mv (.c (.bool true))))⟩]) .ret)))))
theorem I34_0 (E : Env) : Is E C34_0 (retK3 R34) (fun σ h => J34_0 E (σ p0) (σ p1) (σ p2) h) :=
  fun σ h => by kernel_rfl
def D34 : DF := ⟨3, 23, C34_0, R34⟩
noncomputable def S34 (E : Env) : Fun := fun args h => aS args fun r0 args => aS args fun r1 args => aS args fun r2 args => a0 args (J34_0 E r0 r1 r2 h)
theorem S34_eq (E : Env) (args : List DV) (h : H) : runFn E D34 args h = S34 E args h :=
  Is.fn3 (d := D34) (I34_0 E) rfl (fun r0 r1 r2 h => J34_0 E r0 r1 r2 h) (fun r0 r1 r2 h => by kernel_rfl) args h
/- hurdle/hurdleref01.Ints -/
def R35 : List RV := [(.r p4)]
noncomputable def J35_1 (E : Env) (h : H) : Ans :=
  some ((.bool true), h)
def C35_1 : DC := (.seq (.reg [⟨(some p4), none, (.e (.mv (.c (.bool true))))⟩]) .ret)
noncomputable def B35_2 (E : Env) (r0 r1 : DV) (i2 : DV → H → Ans) (r5 : DV) (h : H) : Ans :=
  vK (v_lenL r0) fun x1 =>
  vK (v_lss r5 x1) fun x2 =>
  bK x2
  (vK (v_iaS 1 r0 r5) fun x3 =>
  vK (v_ld h.get x3) fun x4 =>
  vK (v_iaS 1 r1 r5) fun x5 =>
  vK (v_ld h.get x5) fun x6 =>
  vK (v_neq x4 x6) fun x7 =>
  bK x7
  (some ((.bool false), h))
  (vK (v_add r5 (.int .i64 (.ofNat 1))) fun x8 =>
  i2 x8 h))
  (J35_1 E h)
noncomputable def L35_2 (E : Env) (r0 r1 : DV) (n : Nat) : DV → H → Ans := Nat.rec (motive := fun _ => DV → H → Ans) (fun _ _ => none) (fun _ i => B35_2 E r0 r1 i) n
def C35_2 : DC := (.loop (.seq (.seq (.reg [⟨(some p11), none, (.e (.mv (.r p5)))⟩, ⟨(some p12), none, (.e (.mv (.r p0)))⟩, ⟨(some p13), none, (.e (.lenL (.r p12)))⟩, ⟨(some p14), none, (.e (.bin .lss (.r p11) (.r p13)))⟩]) (.cond (.r p14) .skip (.exit 0))) (.seq (.block 1 (.seq (.drg [⟨0, ⟨(some p17), none, (.e (.mv (.r p0)))⟩, [], false⟩, ⟨1, ⟨(some p18), none, (.e (.mv (.r p5)))⟩, [], false⟩, ⟨2, ⟨(some p19), none, (.e (.iaS 1 (.r p17) (.r p18)))⟩, [], false⟩, ⟨3, ⟨(some p20), none, (.e (.ld (.r p19)))⟩, [], false⟩, ⟨4, ⟨(some p21), none, (.e (.mv (.r p1)))⟩, [], false⟩, ⟨5, ⟨(some p22), none, (.e (.mv (.r p5)))⟩, [], false⟩, ⟨6, ⟨(some p23), none, (.e (.iaS 1 (.r p21) (.r p22)))⟩, [], false⟩, ⟨7, ⟨(some p24), none, (.e (.ld (.r p23)))⟩, [], false⟩, ⟨8, ⟨(some p25), none, (.e (.bin .neq (.r p20) (.r p24)))⟩, [], false⟩]) (.cond (.r p25) (.seq (.reg [⟨(some p4), none, (.e (.mv (.c (.bool false))))⟩]) .ret) .skip))) (.reg [⟨(some p15), none, (.e (.mv (.r p5)))⟩, ⟨(some p16), none, (.e (.bin .add (.r p15) (.c (.int .i64 (.ofNat 1)))))⟩, ⟨(some p5), none, (.e (.mv (.r p16)))⟩]))))
noncomputable def J35_0 (E : Env) (r0 r1 : DV) (h : H) : Ans :=
  vK (v_lenL r0) fun x1 =>
  vK (v_lenL r1) fun x2 =>
  vK (v_neq x1 x2) fun x3 =>
  bK x3
  (some ((.bool false), h))
  (L35_2 E r0 r1 FUEL (.int .i64 (.ofNat 0)) h)
def C35_0 : DC := (.seq (.reg [⟨(some p4), none, (.e (.mv (.c (.bool false))))⟩]) (.seq (.seq (.reg [⟨(some p6), none, (.e (.mv (.r p0)))⟩, ⟨(some p7), none, (.e (.lenL (.r p6)))⟩, ⟨(some p8), none, (.e (.mv (.r p1)))⟩, ⟨(some p9), none, (.e (.lenL (.r p8)))⟩, ⟨(some p10), none, (.e (.bin .neq (.r p7) (.r p9)))⟩]) (.cond (.r p10) (.seq (.reg [⟨(some p4), none, (.e (.mv (.c (.bool false))))⟩]) .ret) .skip)) (.seq (.seq (.reg [⟨(some p5), none, (.e (.mv (.c (.int .i64 (.ofNat 0)))))⟩]) (.block 0 C35_2)) C35_1)))
theorem I35_1 (E : Env) : Is E C35_1 (retK3 R35) (fun σ h => J35_1 E h) :=
  fun σ h => by kernel_rfl
noncomputable abbrev K35_3 (E : Env) : KT2 (DV × H) := (blockK3 0 (thenK3 (fun σ h => J35_1 E h) (retK3 R35)))
theorem I35_2 (E : Env) : Is E C35_2 (K35_3 E) (fun σ h => L35_2 E (σ p0) (σ p1) FUEL (σ p5) h) :=
  Is.loop (fun n2 σ h => L35_2 E (σ p0) (σ p1) n2 (σ p5) h) (by kernel_rfl) fun n2 => Is.as (Is.leaf _) fun σ h => by kernel_rfl
theorem I35_0 (E : Env) : Is E C35_0 (retK3 R35) (fun σ h => J35_0 E (σ p0) (σ p1) h) :=
  Is.as (Is.seq (Is.seq (Is.seq (I35_1 E) (Is.seq (Is.block (I35_2 E)) (Is.leaf _))) (Is.leaf _)) (Is.leaf _)) fun σ h => by kernel_rfl
def D35 : DF := ⟨2, 26, C35_0, R35⟩
noncomputable def S35 (E : Env) : Fun := fun args h => aS args fun r0 args => aS args fun r1 args => a0 args (J35_0 E r0 r1 h)
theorem S35_eq (E : Env) (args : List DV) (h : H) : runFn E D35 args h = S35 E args h :=
  Is.fn2 (d := D35) (I35_0 E) rfl (fun r0 r1 h => J35_0 E r0 r1 h) (fun r0 r1 h => by kernel_rfl) args h
/- hurdle/manager.Encode -/
def R42 : List RV := [(.r p2), (.r p3)]
noncomputable def J42_1 (E : Env) (r4 : DV) (h : H) : Ans :=
  wK (callK E 71 [r4] h) fun x1 h2 =>
  vK (v_ext 0 x1) fun x3 =>
  vK (v_ext 1 x1) fun x4 =>
  some ((.tup [x3, x4]), h2)
def C42_1 : DC := (.seq (.reg [⟨(some p48), none, (.e (.mv (.r p4)))⟩, ⟨(some p49), none, (.c (.f 71 [(.r p48)]))⟩, ⟨(some p50), none, (.e (.ext 0 (.r p49)))⟩, ⟨(some p51), none, (.e (.ext 1 (.r p49)))⟩, ⟨(some p2), none, (.e (.mv (.r p50)))⟩, ⟨(some p3), none, (.e (.mv (.r p51)))⟩]) .ret)
noncomputable def B42_2 (E : Env) (r4 r36 r37 : DV) (i2 : DV → H → Ans) (r38 : DV) (h : H) : Ans :=
  vK (v_lss r38 r37) fun x1 =>
  bK x1
  (vK (v_iaS 1 r36 r38) fun x2 =>
  vK (v_ld h.get x2) fun x3 =>
  vK (v_nilchk x3) fun x4 =>
  vK (v_ld h.get x4) fun x5 =>
  wK (callK E 70 [r4, x5] h) fun x6 h7 =>
  vK (v_add r38 (.int .i64 (.ofNat 1))) fun x8 =>
  i2 x8 h7)
  (J42_1 E r4 h)
noncomputable def L42_2 (E : Env) (r4 r36 r37 : DV) (n : Nat) : DV → H → Ans := Nat.rec (motive := fun _ => DV → H → Ans) (fun _ _ => none) (fun _ i => B42_2 E r4 r36 r37 i) n
def C42_2 : DC := (.loop (.seq (.reg [⟨(some p39), none, (.e (.bin .lss (.r p38) (.r p37)))⟩]) (.seq (.cond (.r p39) .skip (.exit 0)) (.seq (.block 1 (.seq (.reg [⟨(some p40), none, (.e (.iaS 1 (.r p36) (.r p38)))⟩, ⟨(some p41), none, (.e (.ld (.r p40)))⟩, ⟨(some p6), none, (.e (.mv (.r p41)))⟩]) (.reg [⟨(some p42), none, (.e (.mv (.r p4)))⟩, ⟨(some p43), none, (.e (.mv (.r p6)))⟩, ⟨(some p44), none, (.e (.nilchk (.r p43)))⟩, ⟨(some p45), none, (.e (.ld (.r p44)))⟩, ⟨(some p46), none, (.c (.f 70 [(.r p42), (.r p45)]))⟩]))) (.reg [⟨(some p47), none, (.e (.bin .add (.r p38) (.c (.int .i64 (.ofNat 1)))))⟩, ⟨(some p38), none, (.e (.mv (.r p47)))⟩])))))
noncomputable def J42_0 (E : Env) (r0 : DV) (h : H) : Ans :=
  n_box r0 h fun x1 h2 =>
  vK (v_fa 0 x1) fun x3 =>
  vK (v_ld h2.get x3) fun x4 =>
  vK (v_lss x4 (.int .i64 (.ofNat 0))) fun x5 =>
  gdK x5 false (fun kk => vK (v_fa 0 x1) fun v => kk v h2) h2 fun x6 h7 =>
  gdK x5 false (fun kk => vK (v_ld h7.get x6) fun v => kk v h7) h7 fun x8 h9 =>
  gdK x5 false (fun kk => vK (v_geq x8 (.int .i64 (.ofNat 16))) fun v => kk v h9) h9 fun x10 h11 =>
  vK (v_pick x5 (.bool true) x10) fun x12 =>
  gdK x12 false (fun kk => vK (v_fa 1 x1) fun v => kk v h11) h11 fun x13 h14 =>
  gdK x12 false (fun kk => vK (v_ld h14.get x13) fun v => kk v h14) h14 fun x15 h16 =>
  gdK x12 false (fun kk => vK (v_lss x15 (.int .i64 (.ofNat 0))) fun v => kk v h16) h16 fun x17 h18 =>
  vK (v_pick x12 (.bool true) x17) fun x19 =>
  gdK x19 false (fun kk => vK (v_fa 1 x1) fun v => kk v h18) h18 fun x20 h21 =>
  gdK x19 false (fun kk => vK (v_ld h21.get x20) fun v => kk v h21) h21 fun x22 h23 =>
  gdK x19 false (fun kk => vK (v_geq x22 (.int .i64 (.ofNat 2147483648))) fun v => kk v h23) h23 fun x24 h25 =>
  vK (v_pick x19 (.bool true) x24) fun x26 =>
  gdK x26 false (fun kk => vK (v_fa 2 x1) fun v => kk v h25) h25 fun x27 h28 =>
  gdK x26 false (fun kk => vK (v_ld h28.get x27) fun v => kk v h28) h28 fun x29 h30 =>
  gdK x26 false (fun kk => vK (v_lss x29 (.int .i64 (.ofNat 1))) fun v => kk v h30) h30 fun x31 h32 =>
  vK (v_pick x26 (.bool true) x31) fun x33 =>
  gdK x33 false (fun kk => vK (v_fa 2 x1) fun v => kk v h32) h32 fun x34 h35 =>
  gdK x33 false (fun kk => vK (v_ld h35.get x34) fun v => kk v h35) h35 fun x36 h37 =>
  gdK x33 false (fun kk => vK (v_gtr x36 (.int .i64 (.ofNat 9))) fun v => kk v h37) h37 fun x38 h39 =>
  vK (v_pick x33 (.bool true) x38) fun x40 =>
  bK x40
  (some ((.tup [(.str []), (.int .i64 (.ofNat 1))]), h39))
  (wK (callK E 68 [(.int .i64 (.ofNat 65536))] h39) fun x41 h42 =>
  wK (callK E 69 [x1] h42) fun x43 h44 =>
  vK (v_lenL x43) fun x45 =>
  L42_2 E x41 x43 x45 FUEL (.int .i64 (.ofNat 0)) h44)
def C42_0 : DC := (.seq (.reg [⟨(some p1), none, (.e (.box (.r p0)))⟩, ⟨(some p2), none, (.e (.mv (.c (.str []))))⟩, ⟨(some p3), none, (.e (.mv (.c (.int .i64 (.ofNat 0)))))⟩]) (.seq (.seq (.reg [⟨(some p7), none, (.e (.fa 0 (.r p1)))⟩, ⟨(some p8), none, (.e (.ld (.r p7)))⟩, ⟨(some p9), none, (.e (.bin .lss (.r p8) (.c (.int .i64 (.ofNat 0)))))⟩, ⟨(some p10), none, (.e (.mv (.r p9)))⟩, ⟨(some p11), (some (p10, false)), (.e (.fa 0 (.r p1)))⟩, ⟨(some p12), (some (p10, false)), (.e (.ld (.r p11)))⟩, ⟨(some p13), (some (p10, false)), (.e (.bin .geq (.r p12) (.c (.int .i64 (.ofNat 16)))))⟩, ⟨(some p14), none, (.e (.pick (.r p10) (.c (.bool true)) (.r p13)))⟩, ⟨(some p15), none, (.e (.mv (.r p14)))⟩, ⟨(some p16), (some (p15, false)), (.e (.fa 1 (.r p1)))⟩, ⟨(some p17), (some (p15, false)), (.e (.ld (.r p16)))⟩, ⟨(some p18), (some (p15, false)), (.e (.bin .lss (.r p17) (.c (.int .i64 (.ofNat 0)))))⟩, ⟨(some p19), none, (.e (.pick (.r p15) (.c (.bool true)) (.r p18)))⟩, ⟨(some p20), none, (.e (.mv (.r p19)))⟩, ⟨(some p21), (some (p20, false)), (.e (.fa 1 (.r p1)))⟩, ⟨(some p22), (some (p20, false)), (.e (.ld (.r p21)))⟩, ⟨(some p23), (some (p20, false)), (.e (.bin .geq (.r p22) (.c (.int .i64 (.ofNat 2147483648)))))⟩, ⟨(some p24), none, (.e (.pick (.r p20) (.c (.bool true)) (.r p23)))⟩, ⟨(some p25), none, (.e (.mv (.r p24)))⟩, ⟨(some p26), (some (p25, false)), (.e (.fa 2 (.r p1)))⟩, ⟨(some p27), (some (p25, false)), (.e (.ld (.r p26)))⟩, ⟨(some p28), (some (p25, false)), (.e (.bin .lss (.r p27) (.c (.int .i64 (.ofNat 1)))))⟩, ⟨(some p29), none, (.e (.pick (.r p25) (.c (.bool true)) (.r p28)))⟩, ⟨(some p30), none, (.e (.mv (.r p29)))⟩, ⟨(some p31), (some (p30, false)), (.e (.fa 2 (.r p1)))⟩, ⟨(some p32), (some (p30, false)), (.e (.ld (.r p31)))⟩, ⟨(some p33), (some (p30, false)), (.e (.bin .gtr (.r p32) (.c (.int .i64 (.ofNat 9)))))⟩, ⟨(some p34), none, (.e (.pick (.r p30) (.c (.bool true)) (.r p33)))⟩]) (.cond (.r p34) (.seq (.reg [⟨(some p2), none, (.e (.mv (.c (.str []))))⟩, ⟨(some p3), none, (.e (.mv (.c (.int .i64 (.ofNat 1)))))⟩]) .ret) .skip)) (.seq (.reg [⟨(some p35), none, (.c (.f 68 [(.c (.int .i64 (.ofNat 65536)))]))⟩, ⟨(some p4), none, (.e (.mv (.r p35)))⟩]) (.seq (.seq (.reg [⟨(some p36), none, (.c (.f 69 [(.r p1)]))⟩, ⟨(some p37), none, (.e (.lenL (.r p36)))⟩, ⟨(some p38), none, (.e (.mv (.c (.int .i64 (.ofNat 0)))))⟩]) (.block 0 C42_2)) C42_1))))
theorem I42_1 (E : Env) : Is E C42_1 (retK3 R42) (fun σ h => J42_1 E (σ p4) h) :=
  fun σ h => by kernel_rfl
noncomputable abbrev K42_3 (E : Env) : KT2 (DV × H) := (thenK3 (fun σ h => J42_1 E (σ p4) h) (retK3 R42))
theorem I42_2 (E : Env) : Is E C42_2 (blockK3 0 (K42_3 E)) (fun σ h => L42_2 E (σ p4) (σ p36) (σ p37) FUEL (σ p38) h) :=
  Is.loop (fun n2 σ h => L42_2 E (σ p4) (σ p36) (σ p37) n2 (σ p38) h) (by kernel_rfl) fun n2 => Is.as (Is.leaf _) fun σ h => by kernel_rfl
theorem I42_0 (E : Env) : Is E C42_0 (retK3 R42) (fun σ h => J42_0 E (σ p0) h) :=
  Is.as (Is.seq (Is.seq (Is.seq (Is.seq (I42_1 E) (Is.seq (Is.block (I42_2 E)) (Is.leaf _))) (Is.leaf _)) (Is.leaf _)) (Is.leaf _)) fun σ h => by kernel_rfl
def D42 : DF := ⟨1, 52, C42_0, R42⟩
noncomputable def S42 (E : Env) : Fun := fun args h => aS args fun r0 args => a0 args (J42_0 E r0 h)
theorem S42_eq (E : Env) (args : List DV) (h : H) : runFn E D42 args h = S42 E args h :=
  Is.fn1 (d := D42) (I42_0 E) rfl (fun r0 h => J42_0 E r0 h) (fun r0 h => by kernel_rfl) args h
/- hurdle/manager.Answer -/
def R43 : List RV := [(.r p2), (.r p3), (.r p4)]
noncomputable def J43_0 (E : Env) (r0 : DV) (h : H) : Ans :=
  wK (callK E 72 [r0] h) fun x1 h2 =>
  wK (callK E 73 [x1] h2) fun x3 h4 =>
  wK (callK E 74 [x1] h4) fun x5 h6 =>
  wK (callK E 75 [x1] h6) fun x7 h8 =>
  vK (v_neq x7 (.int .i64 (.ofNat 0))) fun x9 =>
  bK x9
  (some ((.tup [(.int .i64 (.ofNat 0)), .nils, (.int .i64 (.ofNat 3))]), h8))
  (some ((.tup [x3, x5, (.int .i64 (.ofNat 0))]), h8))
def C43_0 : DC := (.seq (.reg [⟨(some p2), none, (.e (.mv (.c (.int .i64 (.ofNat 0)))))⟩, ⟨(some p3), none, (.e (.mv (.c .nils)))⟩, ⟨(some p4), none, (.e (.mv (.c (.int .i64 (.ofNat 0)))))⟩]) (.seq (.reg [⟨(some p8), none, (.e (.mv (.r p0)))⟩, ⟨(some p9), none, (.c (.f 72 [(.r p8)]))⟩, ⟨(some p5), none, (.e (.mv (.r p9)))⟩]) (.seq (.reg [⟨(some p10), none, (.e (.mv (.r p5)))⟩, ⟨(some p11), none, (.c (.f 73 [(.r p10)]))⟩, ⟨(some p12), none, (.e (.mv (.r p5)))⟩, ⟨(some p13), none, (.c (.f 74 [(.r p12)]))⟩, ⟨(some p6), none, (.e (.mv (.r p11)))⟩, ⟨(some p7), none, (.e (.mv (.r p13)))⟩]) (.seq (.seq (.reg [⟨(some p14), none, (.e (.mv (.r p5)))⟩, ⟨(some p15), none, (.c (.f 75 [(.r p14)]))⟩, ⟨(some p16), none, (.e (.bin .neq (.r p15) (.c (.int .i64 (.ofNat 0)))))⟩]) (.cond (.r p16) (.seq (.reg [⟨(some p2), none, (.e (.mv (.c (.int .i64 (.ofNat 0)))))⟩, ⟨(some p3), none, (.e (.mv (.c .nils)))⟩, ⟨(some p4), none, (.e (.mv (.c (.int .i64 (.ofNat 3)))))⟩]) .ret) .skip)) (.seq (.reg [⟨(some p17), none, (.e (.mv (.r p6)))⟩, ⟨(some p18), none, (.e (.mv (.r p7)))⟩, ⟨(some p2), none, (.e (.mv (.r p17)))⟩, ⟨(some p3), none, (.e (.mv (.r p18)))⟩, ⟨(some p4), none, (.e (.mv (.c (.int .i64 (.ofNat 0)))))⟩]) .ret)))))
theorem I43_0 (E : Env) : Is E C43_0 (retK3 R43) (fun σ h => J43_0 E (σ p0) h) :=
  fun σ h => by kernel_rfl
def D43 : DF := ⟨1, 19, C43_0, R43⟩
noncomputable def S43 (E : Env) : Fun := fun args h => aS args fun r0 args => a0 args (J43_0 E r0 h)
theorem S43_eq (E : Env) (args : List DV) (h : H) : runFn E D43 args h = S43 E args h :=
  Is.fn1 (d := D43) (I43_0 E) rfl (fun r0 h => J43_0 E r0 h) (fun r0 h => by kernel_rfl) args h
/- (*hurdle/manager.Manager).Do -/
def R44 : List RV := [(.r p4)]
noncomputable def J44_0 (E : Env) (r0 r1 : DV) (h : H) : Ans :=
  vK (v_eqv .ptr false h.get r0 .nilp) fun x1 =>
  bK x1
  (wK (callK E 76 [.nils, (.int .i64 (.ofNat 1))] h) fun x2 h3 =>
  some (x2, h3))
  (wK (callK E 77 [r1] h) fun x4 h5 =>
  vK (v_ext 0 x4) fun x6 =>
  vK (v_ext 1 x4) fun x7 =>
  n_alc 8 8 (.list [(.int .i64 (.ofNat 0)), (.int .i64 (.ofNat 0)), (.int .i64 (.ofNat 0)), (.int .i64 (.ofNat 0)), (.int .i64 (.ofNat 0)), (.int .i64 (.ofNat 0)), (.int .i64 (.ofNat 0)), (.int .i64 (.ofNat 0))]) h5 fun x8 h9 =>
  wK (dStF 8 x8 x6 h9) fun x10 h11 =>
  vK (v_neq x7 (.int .i64 (.ofNat 0))) fun x12 =>
  bK x12
  (wK (callK E 76 [.nils, x7] h11) fun x13 h14 =>
  some (x13, h14))
  (vK (v_nilchk r0) fun x15 =>
  vK (v_fa 5 x15) fun x16 =>
  vK (v_ld h11.get x16) fun x17 =>
  vK (v_fa 0 x8) fun x18 =>
  vK (v_ld h11.get x18) fun x19 =>
  vK (v_fa 1 x8) fun x20 =>
  vK (v_ld h11.get x20) fun x21 =>
  wK (callK E 78 [x17, x19, x21] h11) fun x22 h23 =>
  vK (v_ext 0 x22) fun x24 =>
  vK (v_ext 1 x22) fun x25 =>
  vK (v_eql x24 (.int .i64 (.ofNat 2))) fun x26 =>
  bK x26
  (some (x25, h23))
  (vK (v_eql x24 (.int .i64 (.ofNat 1))) fun x27 =>
  bK x27
  (vK (v_fa 2 x8) fun x28 =>
  vK (v_ld h23.get x28) fun x29 =>
  vK (v_ldN 8 h23.get x8) fun x30 =>
  wK (callK E 79 [x29] h23) fun x31 h32 =>
  rK (rcK (v_ldN 8 h32.get x8) x30) <|
  wK (c_val E x31 [r0, x30] h32) fun x33 h34 =>
  vK (v_ext 0 x33) fun x35 =>
  vK (v_ext 1 x33) fun x36 =>
  wK (callK E 76 [x35, x36] h34) fun x37 h38 =>
  vK (v_nilchk r0) fun x39 =>
  vK (v_fa 5 x39) fun x40 =>
  vK (v_ld h38.get x40) fun x41 =>
  vK (v_fa 0 x8) fun x42 =>
  vK (v_ld h38.get x42) fun x43 =>
  vK (v_fa 1 x8) fun x44 =>
  vK (v_ld h38.get x44) fun x45 =>
  wK (callK E 80 [x41, x43, x45, x37] h38) fun x46 h47 =>
  some (x37, h47))
  (wK (callK E 76 [.nils, (.int .i64 (.ofNat 16))] h23) fun x48 h49 =>
  some (x48, h49)))))
def C44_0 : DC := (.seq (.reg [⟨(some p4), none, (.e (.mv (.c (.str []))))⟩]) (.seq (.seq (.reg [⟨(some p10), none, (.e (.mv (.r p0)))⟩, ⟨(some p11), none, (.e (.eqv .ptr false (.r p10) (.c .nilp)))⟩]) (.cond (.r p11) (.seq (.reg [⟨(some p12), none, (.c (.f 76 [(.c .nils), (.c (.int .i64 (.ofNat 1)))]))⟩, ⟨(some p4), none, (.e (.mv (.r p12)))⟩]) .ret) .skip)) (.seq (.reg [⟨(some p14), none, (.e (.mv (.r p1)))⟩, ⟨(some p15), none, (.c (.f 77 [(.r p14)]))⟩, ⟨(some p13), none, (.e (.mv (.r p15)))⟩, ⟨(some p16), none, (.e (.ext 0 (.r p13)))⟩, ⟨(some p17), none, (.e (.ext 1 (.r p13)))⟩, ⟨(some p5), none, (.e (.alc 8 8 (.list [(.int .i64 (.ofNat 0)), (.int .i64 (.ofNat 0)), (.int .i64 (.ofNat 0)), (.int .i64 (.ofNat 0)), (.int .i64 (.ofNat 0)), (.int .i64 (.ofNat 0)), (.int .i64 (.ofNat 0)), (.int .i64 (.ofNat 0))])))⟩, ⟨none, none, (.w (.st 8 (.r p5) (.r p16)))⟩, ⟨(some p6), none, (.e (.mv (.r p17)))⟩]) (.seq (.seq (.reg [⟨(some p18), none, (.e (.mv (.r p6)))⟩, ⟨(some p19), none, (.e (.bin .neq (.r p18) (.c (.int .i64 (.ofNat 0)))))⟩]) (.cond (.r p19) (.seq (.reg [⟨(some p20), none, (.e (.mv (.r p6)))⟩, ⟨(some p21), none, (.c (.f 76 [(.c .nils), (.r p20)]))⟩, ⟨(some p4), none, (.e (.mv (.r p21)))⟩]) .ret) .skip)) (.seq (.seq (.drg [⟨0, ⟨(some p23), none, (.e (.mv (.r p0)))⟩, [], false⟩, ⟨1, ⟨(some p24), none, (.e (.nilchk (.r p23)))⟩, [], false⟩, ⟨2, ⟨(some p25), none, (.e (.fa 5 (.r p24)))⟩, [], false⟩, ⟨3, ⟨(some p26), none, (.e (.ld (.r p25)))⟩, [], false⟩, ⟨4, ⟨(some p27), none, (.e (.fa 0 (.r p5)))⟩, [], false⟩, ⟨5, ⟨(some p28), none, (.e (.ld (.r p27)))⟩, [], false⟩, ⟨6, ⟨(some p29), none, (.e (.fa 1 (.r p5)))⟩, [], false⟩, ⟨7, ⟨(some p30), none, (.e (.ld (.r p29)))⟩, [], false⟩, ⟨8, ⟨(some p31), none, (.c (.f 78 [(.r p26), (.r p28), (.r p30)]))⟩, [], false⟩, ⟨9, ⟨(some p22), none, (.e (.mv (.r p31)))⟩, [], false⟩, ⟨10, ⟨(some p32), none, (.e (.ext 0 (.r p22)))⟩, [], false⟩, ⟨11, ⟨(some p33), none, (.e (.ext 1 (.r p22)))⟩, [], false⟩, ⟨12, ⟨(some p7), none, (.e (.mv (.r p32)))⟩, [], false⟩, ⟨13, ⟨(some p8), none, (.e (.mv (.r p33)))⟩, [], false⟩]) (.seq (.reg [⟨(some p34), none, (.e (.mv (.r p7)))⟩]) (.block 0 (.seq (.reg [⟨(some p37), none, (.e (.bin .eql (.r p34) (.c (.int .i64 (.ofNat 2)))))⟩, ⟨(some p36), none, (.e (.mv (.r p37)))⟩]) (.cond (.r p36) (.seq (.reg [⟨(some p38), none, (.e (.mv (.r p8)))⟩, ⟨(some p4), none, (.e (.mv (.r p38)))⟩]) .ret) (.seq (.reg [⟨(some p40), none, (.e (.bin .eql (.r p34) (.c (.int .i64 (.ofNat 1)))))⟩, ⟨(some p39), none, (.e (.mv (.r p40)))⟩]) (.cond (.r p39) .skip (.seq (.reg [⟨(some p35), none, (.c (.f 76 [(.c .nils), (.c (.int .i64 (.ofNat 16)))]))⟩, ⟨(some p4), none, (.e (.mv (.r p35)))⟩]) .ret)))))))) (.seq (.drg [⟨0, ⟨(some p41), none, (.e (.fa 2 (.r p5)))⟩, [], false⟩, ⟨1, ⟨(some p42), none, (.e (.ld (.r p41)))⟩, [], false⟩, ⟨3, ⟨(some p44), none, (.e (.mv (.r p0)))⟩, [], false⟩, ⟨4, ⟨(some p45), none, (.e (.ldN 8 (.r p5)))⟩, [], false⟩, ⟨2, ⟨(some p43), none, (.c (.f 79 [(.r p42)]))⟩, [4], false⟩, ⟨5, ⟨(some p46), none, (.c (.v (.r p43) [(.r p44), (.r p45)]))⟩, [], false⟩, ⟨6, ⟨(some p47), none, (.e (.ext 0 (.r p46)))⟩, [], false⟩, ⟨7, ⟨(some p48), none, (.e (.ext 1 (.r p46)))⟩, [], false⟩, ⟨8, ⟨(some p49), none, (.c (.f 76 [(.r p47), (.r p48)]))⟩, [], false⟩, ⟨9, ⟨(some p9), none, (.e (.mv (.r p49)))⟩, [], false⟩]) (.seq (.drg [⟨0, ⟨(some p50), none, (.e (.mv (.r p0)))⟩, [], false⟩, ⟨1, ⟨(some p51), none, (.e (.nilchk (.r p50)))⟩, [], false⟩, ⟨2, ⟨(some p52), none, (.e (.fa 5 (.r p51)))⟩, [], false⟩, ⟨3, ⟨(some p53), none, (.e (.ld (.r p52)))⟩, [], false⟩, ⟨4, ⟨(some p54), none, (.e (.fa 0 (.r p5)))⟩, [], false⟩, ⟨5, ⟨(some p55), none, (.e (.ld (.r p54)))⟩, [], false⟩, ⟨6, ⟨(some p56), none, (.e (.fa 1 (.r p5)))⟩, [], false⟩, ⟨7, ⟨(some p57), none, (.e (.ld (.r p56)))⟩, [], false⟩, ⟨8, ⟨(some p58), none, (.e (.mv (.r p9)))⟩, [], false⟩, ⟨9, ⟨(some p59), none, (.c (.f 80 [(.r p53), (.r p55), (.r p57), (.r p58)]))⟩, [], false⟩]) (.seq (.reg [⟨(some p60), none, (.e (.mv (.r p9)))⟩, ⟨(some p4), none, (.e (.mv (.r p60)))⟩]) .ret))))))))
theorem I44_0 (E : Env) : Is E C44_0 (retK3 R44) (fun σ h => J44_0 E (σ p0) (σ p1) h) :=
  fun σ h => by kernel_rfl
def D44 : DF := ⟨2, 61, C44_0, R44⟩
noncomputable def S44 (E : Env) : Fun := fun args h => aS args fun r0 args => aS args fun r1 args => a0 args (J44_0 E r0 r1 h)
theorem S44_eq (E : Env) (args : List DV) (h : H) : runFn E D44 args h = S44 E args h :=
  Is.fn2 (d := D44) (I44_0 E) rfl (fun r0 r1 h => J44_0 E r0 r1 h) (fun r0 r1 h => by kernel_rfl) args h
/- hurdle/parity.Encode -/
def R45 : List RV := [(.r p4), (.r p5)]
noncomputable def J45_1 (E : Env) (r7 : DV) (h : H) : Ans :=
  wK (callK E 59 [r7, (.int .i64 (.negSucc 0))] h) fun x1 h2 =>
  vK (v_ext 0 x1) fun x3 =>
  vK (v_ext 1 x1) fun x4 =>
  wK (callK E 83 [x3] h2) fun x5 h6 =>
  n_bsl 1 1 [(.str [])] [(0, 1, x5)] h6 fun x7 h8 =>
  wK (dAppendF 1 16 r7 x7 h8) fun x9 h10 =>
  some ((.tup [x9, (.int .i64 (.ofNat 0))]), h10)
def C45_1 : DC := (.seq (.reg [⟨(some p49), none, (.e (.mv (.r p7)))⟩, ⟨(some p50), none, (.c (.f 59 [(.r p49), (.c (.int .i64 (.negSucc 0)))]))⟩, ⟨(some p48), none, (.e (.mv (.r p50)))⟩, ⟨(some p51), none, (.e (.ext 0 (.r p48)))⟩, ⟨(some p52), none, (.e (.ext 1 (.r p48)))⟩, ⟨(some p11), none, (.e (.mv (.r p51)))⟩, ⟨(some p12), none, (.e (.mv (.r p52)))⟩]) (.seq (.reg [⟨(some p53), none, (.e (.mv (.r p7)))⟩, ⟨(some p54), none, (.e (.mv (.r p11)))⟩, ⟨(some p55), none, (.c (.f 83 [(.r p54)]))⟩, ⟨(some p56), none, (.e (.bsl 1 1 [(.str [])] [(0, 1, (.r p55))]))⟩, ⟨(some p57), none, (.w (.app 1 16 (.r p53) (.r p56)))⟩, ⟨(some p4), none, (.e (.mv (.r p57)))⟩, ⟨(some p5), none, (.e (.mv (.c (.int .i64 (.ofNat 0)))))⟩]) .ret))
noncomputable def B45_2 (E : Env) (r1 r9 : DV) (i2 : DV → H → Ans) (r7 : DV) (h : H) : Ans :=
  vK (v_lenL r7) fun x1 =>
  vK (v_sub r1 (.int .i64 (.ofNat 1))) fun x2 =>
  vK (v_lss x1 x2) fun x3 =>
  bK x3
  (n_bsl 1 1 [(.str [])] [(0, 1, r9)] h fun x4 h5 =>
  wK (dAppendF 1 16 r7 x4 h5) fun x6 h7 =>
  i2 x6 h7)
  (J45_1 E r7 h)
noncomputable def L45_2 (E : Env) (r1 r9 : DV) (n : Nat) : DV → H → Ans := Nat.rec (motive := fun _ => DV → H → Ans) (fun _ _ => none) (fun _ i => B45_2 E r1 r9 i) n
def C45_2 : DC := (.loop (.seq (.seq (.reg [⟨(some p39), none, (.e (.mv (.r p7)))⟩, ⟨(some p40), none, (.e (.lenL (.r p39)))⟩, ⟨(some p41), none, (.e (.mv (.r p1)))⟩, ⟨(some p42), none, (.e (.bin .sub (.r p41) (.c (.int .i64 (.ofNat 1)))))⟩, ⟨(some p43), none, (.e (.bin .lss (.r p40) (.r p42)))⟩]) (.cond (.r p43) .skip (.exit 0))) (.block 1 (.reg [⟨(some p44), none, (.e (.mv (.r p7)))⟩, ⟨(some p45), none, (.e (.mv (.r p9)))⟩, ⟨(some p46), none, (.e (.bsl 1 1 [(.str [])] [(0, 1, (.r p45))]))⟩, ⟨(some p47), none, (.w (.app 1 16 (.r p44) (.r p46)))⟩, ⟨(some p7), none, (.e (.mv (.r p47)))⟩]))))
noncomputable def J45_0 (E : Env) (r0 r1 : DV) (h : H) : Ans :=
  wK (callK E 58 [r1] h) fun x1 h2 =>
  vK (v_not x1) fun x3 =>
  bK x3
  (some ((.tup [.nils, (.int .i64 (.ofNat 1))]), h2))
  (vK (v_lenS r0) fun x4 =>
  wK (callK E 55 [x4, r1] h2) fun x5 h6 =>
  vK (v_lenS r0) fun x7 =>
  vK (v_gtr x7 (.int .i64 (.ofNat 65536))) fun x8 =>
  gdK x8 false (fun kk => kk x5 h6) h6 fun x9 h10 =>
  gdK x8 false (fun kk => vK (v_gtr x9 (.int .i64 (.ofNat 512))) fun v => kk v h10) h10 fun x11 h12 =>
  vK (v_pick x8 (.bool true) x11) fun x13 =>
  bK x13
  (some ((.tup [.nils, (.int .i64 (.ofNat 2))]), h12))
  (vK (v_mx x5 (.int .i64 (.ofNat 1))) fun x14 =>
  wK (callK E 81 [r0, x14] h12) fun x15 h16 =>
  vK (v_ext 0 x15) fun x17 =>
  vK (v_ext 1 x15) fun x18 =>
  wK (callK E 82 [(.str []), x5] h16) fun x19 h20 =>
  vK (v_ext 0 x19) fun x21 =>
  vK (v_ext 1 x19) fun x22 =>
  L45_2 E r1 x21 FUEL x17 h20))
def C45_0 : DC := (.seq (.reg [⟨(some p4), none, (.e (.mv (.c .nils)))⟩, ⟨(some p5), none, (.e (.mv (.c (.int .i64 (.ofNat 0)))))⟩]) (.seq (.seq (.reg [⟨(some p13), none, (.e (.mv (.r p1)))⟩, ⟨(some p14), none, (.c (.f 58 [(.r p13)]))⟩, ⟨(some p15), none, (.e (.not (.r p14)))⟩]) (.cond (.r p15) (.seq (.reg [⟨(some p4), none, (.e (.mv (.c .nils)))⟩, ⟨(some p5), none, (.e (.mv (.c (.int .i64 (.ofNat 1)))))⟩]) .ret) .skip)) (.seq (.reg [⟨(some p16), none, (.e (.mv (.r p0)))⟩, ⟨(some p17), none, (.e (.lenS (.r p16)))⟩, ⟨(some p18), none, (.e (.mv (.r p1)))⟩, ⟨(some p19), none, (.c (.f 55 [(.r p17), (.r p18)]))⟩, ⟨(some p6), none, (.e (.mv (.r p19)))⟩]) (.seq (.seq (.reg [⟨(some p20), none, (.e (.mv (.r p0)))⟩, ⟨(some p21), none, (.e (.lenS (.r p20)))⟩, ⟨(some p22), none, (.e (.bin .gtr (.r p21) (.c (.int .i64 (.ofNat 65536)))))⟩, ⟨(some p23), none, (.e (.mv (.r p22)))⟩, ⟨(some p24), (some (p23, false)), (.e (.mv (.r p6)))⟩, ⟨(some p25), (some (p23, false)), (.e (.bin .gtr (.r p24) (.c (.int .i64 (.ofNat 512)))))⟩, ⟨(some p26), none, (.e (.pick (.r p23) (.c (.bool true)) (.r p25)))⟩]) (.cond (.r p26) (.seq (.reg [⟨(some p4), none, (.e (.mv (.c .nils)))⟩, ⟨(some p5), none, (.e (.mv (.c (.int .i64 (.ofNat 2)))))⟩]) .ret) .skip)) (.seq (.reg [⟨(some p28), none, (.e (.mv (.r p0)))⟩, ⟨(some p29), none, (.e (.mv (.r p6)))⟩, ⟨(some p30), none, (.e (.mx (.r p29) (.c (.int .i64 (.ofNat 1)))))⟩, ⟨(some p31), none, (.c (.f 81 [(.r p28), (.r p30)]))⟩, ⟨(some p27), none, (.e (.mv (.r p31)))⟩, ⟨(some p32), none, (.e (.ext 0 (.r p27)))⟩, ⟨(some p33), none, (.e (.ext 1 (.r p27)))⟩, ⟨(some p7), none, (.e (.mv (.r p32)))⟩, ⟨(some p8), none, (.e (.mv (.r p33)))⟩]) (.seq (.reg [⟨(some p35), none, (.e (.mv (.r p6)))⟩, ⟨(some p36), none, (.c (.f 82 [(.c (.str [])), (.r p35)]))⟩, ⟨(some p34), none, (.e (.mv (.r p36)))⟩, ⟨(some p37), none, (.e (.ext 0 (.r p34)))⟩, ⟨(some p38), none, (.e (.ext 1 (.r p34)))⟩, ⟨(some p9), none, (.e (.mv (.r p37)))⟩, ⟨(some p10), none, (.e (.mv (.r p38)))⟩]) (.seq (.block 0 C45_2) C45_1)))))))
theorem I45_1 (E : Env) : Is E C45_1 (retK3 R45) (fun σ h => J45_1 E (σ p7) h) :=
  fun σ h => by kernel_rfl
noncomputable abbrev K45_3 (E : Env) : KT2 (DV × H) := (thenK3 (fun σ h => J45_1 E (σ p7) h) (retK3 R45))
theorem I45_2 (E : Env) : Is E C45_2 (blockK3 0 (K45_3 E)) (fun σ h => L45_2 E (σ p1) (σ p9) FUEL (σ p7) h) :=
  Is.loop (fun n2 σ h => L45_2 E (σ p1) (σ p9) n2 (σ p7) h) (by kernel_rfl) fun n2 => Is.as (Is.leaf _) fun σ h => by kernel_rfl
theorem I45_0 (E : Env) : Is E C45_0 (retK3 R45) (fun σ h => J45_0 E (σ p0) (σ p1) h) :=
  Is.as (Is.seq (Is.seq (Is.seq (Is.seq (Is.seq (Is.seq (Is.seq (I45_1 E) (Is.block (I45_2 E))) (Is.leaf _)) (Is.leaf _)) (Is.leaf _)) (Is.leaf _)) (Is.leaf _)) (Is.leaf _)) fun σ h => by kernel_rfl
def D45 : DF := ⟨2, 58, C45_0, R45⟩
noncomputable def S45 (E : Env) : Fun := fun args h => aS args fun r0 args => aS args fun r1 args => a0 args (J45_0 E r0 r1 h)
theorem S45_eq (E : Env) (args : List DV) (h : H) : runFn E D45 args h = S45 E args h :=
  Is.fn2 (d := D45) (I45_0 E) rfl (fun r0 r1 h => J45_0 E r0 r1 h) (fun r0 r1 h => by kernel_rfl) args h
/- (*hurdle/array.Array).clear -/
def R46 : List RV := []
noncomputable def J46_2 (E : Env) (i1 : DV → H → Ans) (r11 : DV) (h : H) : Ans :=
  vK (v_add r11 (.int .i64 (.ofNat 1))) fun x1 =>
  i1 x1 h
def C46_2 : DC := (.reg [⟨(some p31), none, (.e (.bin .add (.r p11) (.c (.int .i64 (.ofNat 1)))))⟩, ⟨(some p11), none, (.e (.mv (.r p31)))⟩])
noncomputable def B46_1 (E : Env) (r0 r1 r10 : DV) (i1 : DV → H → Ans) (r11 : DV) (h : H) : Ans :=
  vK (v_lss r11 r10) fun x1 =>
  bK x1
  (wK (callK E 47 [r0, r1, r11] h) fun x2 h3 =>
  vK (v_ext 0 x2) fun x4 =>
  vK (v_ext 1 x2) fun x5 =>
  bK x5
  (vK (v_nilchk r0) fun x6 =>
  vK (v_fa 0 x6) fun x7 =>
  vK (v_ld h3.get x7) fun x8 =>
  vK (v_bld [(.int .i64 (.ofNat 0)), (.int .i64 (.ofNat 0))] [(0, 1, r1), (1, 1, r11)]) fun x9 =>
  wK (callK E 53 [x8, x4, x9] h3) fun x10 h11 =>
  J46_2 E i1 r11 h11)
  (J46_2 E i1 r11 h3))
  (some ((.tup []), h))
noncomputable def L46_1 (E : Env) (r0 r1 r10 : DV) (n : Nat) : DV → H → Ans := Nat.rec (motive := fun _ => DV → H → Ans) (fun _ _ => none) (fun _ i => B46_1 E r0 r1 r10 i) n
def C46_1 : DC := (.loop (.seq (.reg [⟨(some p12), none, (.e (.bin .lss (.r p11) (.r p10)))⟩]) (.seq (.cond (.r p12) .skip (.exit 0)) (.seq (.block 1 (.seq (.reg [⟨(some p13), none, (.e (.mv (.r p11)))⟩, ⟨(some p4), none, (.e (.mv (.r p13)))⟩]) (.seq (.reg [⟨(some p15), none, (.e (.mv (.r p0)))⟩, ⟨(some p16), none, (.e (.mv (.r p1)))⟩, ⟨(some p17), none, (.e (.mv (.r p4)))⟩, ⟨(some p18), none, (.c (.f 47 [(.r p15), (.r p16), (.r p17)]))⟩, ⟨(some p14), none, (.e (.mv (.r p18)))⟩, ⟨(some p19), none, (.e (.ext 0 (.r p14)))⟩, ⟨(some p20), none, (.e (.ext 1 (.r p14)))⟩, ⟨(some p5), none, (.e (.mv (.r p19)))⟩, ⟨(some p6), none, (.e (.mv (.r p20)))⟩]) (.seq (.reg [⟨(some p21), none, (.e (.mv (.r p6)))⟩]) (.cond (.r p21) (.reg [⟨(some p22), none, (.e (.mv (.r p0)))⟩, ⟨(some p23), none, (.e (.nilchk (.r p22)))⟩, ⟨(some p24), none, (.e (.fa 0 (.r p23)))⟩, ⟨(some p25), none, (.e (.ld (.r p24)))⟩, ⟨(some p26), none, (.e (.mv (.r p5)))⟩, ⟨(some p27), none, (.e (.mv (.r p1)))⟩, ⟨(some p28), none, (.e (.mv (.r p4)))⟩, ⟨(some p29), none, (.e (.bld [(.int .i64 (.ofNat 0)), (.int .i64 (.ofNat 0))] [(0, 1, (.r p27)), (1, 1, (.r p28))]))⟩, ⟨(some p30), none, (.c (.f 53 [(.r p25), (.r p26), (.r p29)]))⟩]) .skip))))) C46_2))))
noncomputable def J46_0 (E : Env) (r0 r1 : DV) (h : H) : Ans :=
  vK (v_nilchk r0) fun x1 =>
  vK (v_fa 2 x1) fun x2 =>
  vK (v_ld h.get x2) fun x3 =>
  L46_1 E r0 r1 x3 FUEL (.int .i64 (.ofNat 0)) h
def C46_0 : DC := (.seq (.reg [⟨(some p7), none, (.e (.mv (.r p0)))⟩, ⟨(some p8), none, (.e (.nilchk (.r p7)))⟩, ⟨(some p9), none, (.e (.fa 2 (.r p8)))⟩, ⟨(some p10), none, (.e (.ld (.r p9)))⟩, ⟨(some p11), none, (.e (.mv (.c (.int .i64 (.ofNat 0)))))⟩]) (.block 0 C46_1))
noncomputable abbrev K46_3 (E : Env) (n1 : Nat) : KT2 (DV × H) := (thenK3 (fun σ h => (L46_1 E (σ p0) (σ p1) (σ p10) n1) (σ p11) h) (blockK3 0 (retK3 R46)))
theorem I46_2 (E : Env) (n1 : Nat) : Is E C46_2 (K46_3 E n1) (fun σ h => J46_2 E (L46_1 E (σ p0) (σ p1) (σ p10) n1) (σ p11) h) :=
  fun σ h => by kernel_rfl
theorem I46_1 (E : Env) : Is E C46_1 (blockK3 0 (retK3 R46)) (fun σ h => L46_1 E (σ p0) (σ p1) (σ p10) FUEL (σ p11) h) :=
  Is.loop (fun n1 σ h => L46_1 E (σ p0) (σ p1) (σ p10) n1 (σ p11) h) (by kernel_rfl) fun n1 => Is.as (Is.seq (Is.seq (Is.seq (I46_2 E n1) (Is.leaf _)) (Is.leaf _)) (Is.leaf _)) fun σ h => by kernel_rfl
theorem I46_0 (E : Env) : Is E C46_0 (retK3 R46) (fun σ h => J46_0 E (σ p0) (σ p1) h) :=
  Is.as (Is.seq (Is.block (I46_1 E)) (Is.leaf _)) fun σ h => by kernel_rfl
def D46 : DF := ⟨2, 32, C46_0, R46⟩
noncomputable def S46 (E : Env) : Fun := fun args h => aS args fun r0 args => aS args fun r1 args => a0 args (J46_0 E r0 r1 h)
theorem S46_eq (E : Env) (args : List DV) (h : H) : runFn E D46 args h = S46 E args h :=
  Is.fn2 (d := D46) (I46_0 E) rfl (fun r0 r1 h => J46_0 E r0 r1 h) (fun r0 r1 h => by kernel_rfl) args h
/- (*hurdle/array.Array).server -/
def R47 : List RV := [(.r p6), (.r p7)]
noncomputable def J47_0 (E : Env) (r0 r1 r2 : DV) (h : H) : Ans :=
  vK (v_nilchk r0) fun x1 =>
  vK (v_fa 1 x1) fun x2 =>
  vK (v_ld h.get x2) fun x3 =>
  wK (callK E 54 [x3, r1] h) fun x4 h5 =>
  vK (v_ext 0 x4) fun x6 =>
  vK (v_ext 1 x4) fun x7 =>
  n_alc 6 6 (.list [(.int .i64 (.ofNat 0)), (.int .i64 (.ofNat 0)), (.int .i64 (.ofNat 0)), (.int .i64 (.ofNat 0)), (.int .i64 (.ofNat 0)), .nils]) h5 fun x8 h9 =>
  wK (dStF 6 x8 x6 h9) fun x10 h11 =>
  vK (v_not x7) fun x12 =>
  bK x12
  (some ((.tup [(.int .i64 (.ofNat 0)), (.bool false)]), h11))
  (vK (v_fa 5 x8) fun x13 =>
  vK (v_ld h11.get x13) fun x14 =>
  wK (callK E 84 [x14, r1, r2] h11) fun x15 h16 =>
  vK (v_ext 0 x15) fun x17 =>
  vK (v_ext 1 x15) fun x18 =>
  vK (v_eql x18 (.int .i64 (.ofNat 0))) fun x19 =>
  some ((.tup [x17, x19]), h16))
def C47_0 : DC := (.seq (.reg [⟨(some p6), none, (.e (.mv (.c (.int .i64 (.ofNat 0)))))⟩, ⟨(some p7), none, (.e (.mv (.c (.bool false))))⟩]) (.seq (.reg [⟨(some p13), none, (.e (.mv (.r p0)))⟩, ⟨(some p14), none, (.e (.nilchk (.r p13)))⟩, ⟨(some p15), none, (.e (.fa 1 (.r p14)))⟩, ⟨(some p16), none, (.e (.ld (.r p15)))⟩, ⟨(some p17), none, (.e (.mv (.r p1)))⟩, ⟨(some p18), none, (.c (.f 54 [(.r p16), (.r p17)]))⟩, ⟨(some p12), none, (.e (.mv (.r p18)))⟩, ⟨(some p19), none, (.e (.ext 0 (.r p12)))⟩, ⟨(some p20), none, (.e (.ext 1 (.r p12)))⟩, ⟨(some p8), none, (.e (.alc 6 6 (.list [(.int .i64 (.ofNat 0)), (.int .i64 (.ofNat 0)), (.int .i64 (.ofNat 0)), (.int .i64 (.ofNat 0)), (.int .i64 (.ofNat 0)), .nils])))⟩, ⟨none, none, (.w (.st 6 (.r p8) (.r p19)))⟩, ⟨(some p9), none, (.e (.mv (.r p20)))⟩]) (.seq (.seq (.reg [⟨(some p21), none, (.e (.mv (.r p9)))⟩, ⟨(some p22), none, (.e (.not (.r p21)))⟩]) (.cond (.r p22) (.seq (.reg [⟨(some p6), none, (.e (.mv (.c (.int .i64 (.ofNat 0)))))⟩, ⟨(some p7), none, (.e (.mv (.c (.bool false))))⟩]) .ret) .skip)) (.seq (.reg [⟨(some p24), none, (.e (.fa 5 (.r p8)))⟩, ⟨(some p25), none, (.e (.ld (.r p24)))⟩, ⟨(some p26), none, (.e (.mv (.r p1)))⟩, ⟨(some p27), none, (.e (.mv (.r p2)))⟩, ⟨(some p28), none, (.c (.f 84 [(.r p25), (.r p26), (.r p27)]))⟩, ⟨(some p23), none, (.e (.mv (.r p28)))⟩, ⟨(some p29), none, (.e (.ext 0 (.r p23)))⟩, ⟨(some p30), none, (.e (.ext 1 (.r p23)))⟩, ⟨(some p10), none, (.e (.mv (.r p29)))⟩, ⟨(some p11), none, (.e (.mv (.r p30)))⟩]) (.seq (.reg [⟨(some p31), none, (.e (.mv (.r p10)))⟩, ⟨(some p32), none, (.e (.mv (.r p11)))⟩, ⟨(some p33), none, (.e (.bin .eql (.r p32) (.c (.int .i64 (.ofNat 0)))))⟩, ⟨(some p6), none, (.e (.mv (.r p31)))⟩, ⟨(some p7), none, (.e (.mv (.r p33)))⟩]) .ret)))))
theorem I47_0 (E : Env) : Is E C47_0 (retK3 R47) (fun σ h => J47_0 E (σ p0) (σ p1) (σ p2) h) :=
  fun σ h => by kernel_rfl
def D47 : DF := ⟨3, 34, C47_0, R47⟩
noncomputable def S47 (E : Env) : Fun := fun args h => aS args fun r0 args => aS args fun r1 args => aS args fun r2 args => a0 args (J47_0 E r0 r1 r2 h)
theorem S47_eq (E : Env) (args : List DV) (h : H) : runFn E D47 args h = S47 E args h :=
  Is.fn3 (d := D47) (I47_0 E) rfl (fun r0 r1 r2 h => J47_0 E r0 r1 r2 h) (fun r0 r1 r2 h => by kernel_rfl) args h
/- (*hurdle/servers.Servers).Get -/
def R48 : List RV := [(.cell p6), (.cell p7)]
noncomputable def J48_0 (E : Env) (r2 : DV) (h : H) : Ans :=
  n_box r2 h fun x1 h2 =>
  n_alc 1 1 (.list [(.str [])]) h2 fun x3 h4 =>
  n_alc 1 1 (.list [(.int .i64 (.ofNat 0))]) h4 fun x5 h6 =>
  none
def C48_0 : DC := (.seq (.reg [⟨(some p5), none, (.e (.box (.r p2)))⟩, ⟨(some p6), none, (.e (.alc 1 1 (.list [(.str [])])))⟩, ⟨(some p7), none, (.e (.alc 1 1 (.list [(.int .i64 (.ofNat 0))])))⟩]) (.seq (.reg [⟨(some p8), none, (.e (.mkF (.func 85) [] [(.r p6), (.r p7)]))⟩, ⟨none, none, (.e .bad)⟩]) (.seq (.drg [⟨0, ⟨(some p9), none, (.e (.mv (.r p0)))⟩, [], false⟩, ⟨1, ⟨(some p10), none, (.e (.mv (.r p1)))⟩, [], false⟩, ⟨3, ⟨(some p12), none, (.e (.ldN 2 (.r p5)))⟩, [], false⟩, ⟨2, ⟨(some p11), none, (.c (.f 87 [(.r p9), (.r p10)]))⟩, [3], false⟩, ⟨4, ⟨(some p13), none, (.c (.f 88 [(.r p11), (.r p12)]))⟩, [], false⟩, ⟨5, ⟨(some p14), none, (.e (.ext 0 (.r p13)))⟩, [], false⟩, ⟨6, ⟨(some p15), none, (.e (.ext 1 (.r p13)))⟩, [], false⟩, ⟨7, ⟨none, none, (.w (.st 1 (.r p6) (.r p14)))⟩, [], false⟩, ⟨8, ⟨none, none, (.w (.st 1 (.r p7) (.r p15)))⟩, [], false⟩]) .ret)))
theorem I48_0 (E : Env) : Is E C48_0 (retK3 R48) (fun σ h => J48_0 E (σ p2) h) :=
  fun σ h => by kernel_rfl
def D48 : DF := ⟨3, 16, C48_0, R48⟩
noncomputable def S48 (E : Env) : Fun := fun args h => aS args fun r0 args => aS args fun r1 args => aS args fun r2 args => a0 args (J48_0 E r2 h)
theorem S48_eq (E : Env) (args : List DV) (h : H) : runFn E D48 args h = S48 E args h :=
  Is.fn3 (d := D48) (I48_0 E) rfl (fun r0 r1 r2 h => J48_0 E r2 h) (fun r0 r1 r2 h => by kernel_rfl) args h
/- (*hurdle/servers.Servers).Put -/
def R49 : List RV := [(.cell p8)]
noncomputable def J49_0 (E : Env) (r2 : DV) (h : H) : Ans :=
  n_box r2 h fun x1 h2 =>
  n_alc 1 1 (.list [(.int .i64 (.ofNat 0))]) h2 fun x3 h4 =>
  none
def C49_0 : DC := (.seq (.reg [⟨(some p6), none, (.e (.box (.r p2)))⟩, ⟨(some p8), none, (.e (.alc 1 1 (.list [(.int .i64 (.ofNat 0))])))⟩]) (.seq (.reg [⟨(some p9), none, (.e (.mkF (.func 89) [] [(.r p8)]))⟩, ⟨none, none, (.e .bad)⟩]) (.seq (.drg [⟨0, ⟨(some p10), none, (.e (.mv (.r p0)))⟩, [], false⟩, ⟨1, ⟨(some p11), none, (.e (.mv (.r p1)))⟩, [], false⟩, ⟨3, ⟨(some p13), none, (.e (.ldN 2 (.r p6)))⟩, [], false⟩, ⟨4, ⟨(some p14), none, (.e (.mv (.r p3)))⟩, [], false⟩, ⟨2, ⟨(some p12), none, (.c (.f 87 [(.r p10), (.r p11)]))⟩, [3], false⟩, ⟨5, ⟨(some p15), none, (.c (.f 90 [(.r p12), (.r p13), (.r p14), (.c (.int .i64 (.negSucc 0)))]))⟩, [], false⟩, ⟨6, ⟨none, none, (.w (.st 1 (.r p8) (.r p15)))⟩, [], false⟩]) .ret)))
theorem I49_0 (E : Env) : Is E C49_0 (retK3 R49) (fun σ h => J49_0 E (σ p2) h) :=
  fun σ h => by kernel_rfl
def D49 : DF := ⟨4, 16, C49_0, R49⟩
noncomputable def S49 (E : Env) : Fun := fun args h => aS args fun r0 args => aS args fun r1 args => aS args fun r2 args => aS args fun r3 args => a0 args (J49_0 E r2 h)
theorem S49_eq (E : Env) (args : List DV) (h : H) : runFn E D49 args h = S49 E args h :=
  Is.fn4 (d := D49) (I49_0 E) rfl (fun r0 r1 r2 r3 h => J49_0 E r2 h) (fun r0 r1 r2 r3 h => by kernel_rfl) args h
/- (*hurdle/servers.Servers).Delete -/
def R53 : List RV := [(.cell p6)]
noncomputable def J53_0 (E : Env) (r2 : DV) (h : H) : Ans :=
  n_box r2 h fun x1 h2 =>
  n_alc 1 1 (.list [(.int .i64 (.ofNat 0))]) h2 fun x3 h4 =>
  none
def C53_0 : DC := (.seq (.reg [⟨(some p5), none, (.e (.box (.r p2)))⟩, ⟨(some p6), none, (.e (.alc 1 1 (.list [(.int .i64 (.ofNat 0))])))⟩]) (.seq (.reg [⟨(some p7), none, (.e (.mkF (.func 92) [] [(.r p6)]))⟩, ⟨none, none, (.e .bad)⟩]) (.seq (.drg [⟨0, ⟨(some p8), none, (.e (.mv (.r p0)))⟩, [], false⟩, ⟨1, ⟨(some p9), none, (.e (.mv (.r p1)))⟩, [], false⟩, ⟨3, ⟨(some p11), none, (.e (.ldN 2 (.r p5)))⟩, [], false⟩, ⟨2, ⟨(some p10), none, (.c (.f 87 [(.r p8), (.r p9)]))⟩, [3], false⟩, ⟨4, ⟨(some p12), none, (.c (.f 93 [(.r p10), (.r p11), (.c (.int .i64 (.negSucc 0)))]))⟩, [], false⟩, ⟨5, ⟨none, none, (.w (.st 1 (.r p6) (.r p12)))⟩, [], false⟩]) .ret)))
theorem I53_0 (E : Env) : Is E C53_0 (retK3 R53) (fun σ h => J53_0 E (σ p2) h) :=
  fun σ h => by kernel_rfl
def D53 : DF := ⟨3, 13, C53_0, R53⟩
noncomputable def S53 (E : Env) : Fun := fun args h => aS args fun r0 args => aS args fun r1 args => aS args fun r2 args => a0 args (J53_0 E r2 h)
theorem S53_eq (E : Env) (args : List DV) (h : H) : runFn E D53 args h = S53 E args h :=
  Is.fn3 (d := D53) (I53_0 E) rfl (fun r0 r1 r2 h => J53_0 E r2 h) (fun r0 r1 r2 h => by kernel_rfl) args h
/- (*hurdle/manager.Manager).Stripe -/
def R54 : List RV := [(.cells p4 6), (.r p5)]
noncomputable def J54_0 (E : Env) (r0 r1 : DV) (h : H) : Ans :=
  n_alc 6 6 (.list [(.int .i64 (.ofNat 0)), (.int .i64 (.ofNat 0)), (.int .i64 (.ofNat 0)), (.int .i64 (.ofNat 0)), (.int .i64 (.ofNat 0)), .nils]) h fun x1 h2 =>
  vK (v_eqv .ptr false h2.get r0 .nilp) fun x3 =>
  bK x3
  (vK (v_bld [(.int .i64 (.ofNat 0)), (.int .i64 (.ofNat 0)), (.int .i64 (.ofNat 0)), (.int .i64 (.ofNat 0)), (.int .i64 (.ofNat 0)), .nils] []) fun x4 =>
  wK (dStF 6 x1 x4 h2) fun x5 h6 =>
  vK (v_ldN 6 h6.get x1) fun x7 =>
  some ((.tup [x7, (.bool false)]), h6))
  (vK (v_nilchk r0) fun x8 =>
  vK (v_fa 1 x8) fun x9 =>
  vK (v_ld h2.get x9) fun x10 =>
  wK (callK E 94 [x10, r1] h2) fun x11 h12 =>
  vK (v_ext 0 x11) fun x13 =>
  vK (v_ext 1 x11) fun x14 =>
  wK (dStF 6 x1 x13 h12) fun x15 h16 =>
  vK (v_ldN 6 h16.get x1) fun x17 =>
  some ((.tup [x17, x14]), h16))
def C54_0 : DC := (.seq (.reg [⟨(some p4), none, (.e (.alc 6 6 (.list [(.int .i64 (.ofNat 0)), (.int .i64 (.ofNat 0)), (.int .i64 (.ofNat 0)), (.int .i64 (.ofNat 0)), (.int .i64 (.ofNat 0)), .nils])))⟩, ⟨(some p5), none, (.e (.mv (.c (.bool false))))⟩]) (.seq (.seq (.reg [⟨(some p6), none, (.e (.mv (.r p0)))⟩, ⟨(some p7), none, (.e (.eqv .ptr false (.r p6) (.c .nilp)))⟩]) (.cond (.r p7) (.seq (.reg [⟨(some p8), none, (.e (.bld [(.int .i64 (.ofNat 0)), (.int .i64 (.ofNat 0)), (.int .i64 (.ofNat 0)), (.int .i64 (.ofNat 0)), (.int .i64 (.ofNat 0)), .nils] []))⟩, ⟨none, none, (.w (.st 6 (.r p4) (.r p8)))⟩, ⟨(some p5), none, (.e (.mv (.c (.bool false))))⟩]) .ret) .skip)) (.seq (.reg [⟨(some p9), none, (.e (.mv (.r p0)))⟩, ⟨(some p10), none, (.e (.nilchk (.r p9)))⟩, ⟨(some p11), none, (.e (.fa 1 (.r p10)))⟩, ⟨(some p12), none, (.e (.ld (.r p11)))⟩, ⟨(some p13), none, (.e (.mv (.r p1)))⟩, ⟨(some p14), none, (.c (.f 94 [(.r p12), (.r p13)]))⟩, ⟨(some p15), none, (.e (.ext 0 (.r p14)))⟩, ⟨(some p16), none, (.e (.ext 1 (.r p14)))⟩, ⟨none, none, (.w (.st 6 (.r p4) (.r p15)))⟩, ⟨(some p5), none, (.e (.mv (.r p16)))⟩]) .ret)))
theorem I54_0 (E : Env) : Is E C54_0 (retK3 R54) (fun σ h => J54_0 E (σ p0) (σ p1) h) :=
  fun σ h => by kernel_rfl
def D54 : DF := ⟨2, 17, C54_0, R54⟩
noncomputable def S54 (E : Env) : Fun := fun args h => aS args fun r0 args => aS args fun r1 args => a0 args (J54_0 E r0 r1 h)
theorem S54_eq (E : Env) (args : List DV) (h : H) : runFn E D54 args h = S54 E args h :=
  Is.fn2 (d := D54) (I54_0 E) rfl (fun r0 r1 h => J54_0 E r0 r1 h) (fun r0 r1 h => by kernel_rfl) args h
/- hurdle/parity.Long -/
def R55 : List RV := [(.r p4)]
noncomputable def J55_0 (E : Env) (r0 r1 : DV) (h : H) : Ans :=
  vK (v_lss r0 (.int .i64 (.ofNat 0))) fun x1 =>
  gdK x1 false (fun kk => kk r0 h) h fun x2 h3 =>
  gdK x1 false (fun kk => vK (v_gtr x2 (.int .i64 (.ofNat 65536))) fun v => kk v h3) h3 fun x4 h5 =>
  vK (v_pick x1 (.bool true) x4) fun x6 =>
  gdK x6 false (fun kk => kk r1 h5) h5 fun x7 h8 =>
  gdK x6 false (fun kk => wK (callK E 58 [x7] h8) kk) h8 fun x9 h10 =>
  gdK x6 false (fun kk => vK (v_not x9) fun v => kk v h10) h10 fun x11 h12 =>
  vK (v_pick x6 (.bool true) x11) fun x13 =>
  bK x13
  (some ((.int .i64 (.ofNat 0)), h12))
  (vK (v_add r0 r1) fun x14 =>
  vK (v_sub x14 (.int .i64 (.ofNat 2))) fun x15 =>
  vK (v_sub r1 (.int .i64 (.ofNat 1))) fun x16 =>
  vK (v_quo x15 x16) fun x17 =>
  some (x17, h12))
def C55_0 : DC := (.seq (.reg [⟨(some p4), none, (.e (.mv (.c (.int .i64 (.ofNat 0)))))⟩]) (.seq (.seq (.reg [⟨(some p5), none, (.e (.mv (.r p0)))⟩, ⟨(some p6), none, (.e (.bin .lss (.r p5) (.c (.int .i64 (.ofNat 0)))))⟩, ⟨(some p7), none, (.e (.mv (.r p6)))⟩, ⟨(some p8), (some (p7, false)), (.e (.mv (.r p0)))⟩, ⟨(some p9), (some (p7, false)), (.e (.bin .gtr (.r p8) (.c (.int .i64 (.ofNat 65536)))))⟩, ⟨(some p10), none, (.e (.pick (.r p7) (.c (.bool true)) (.r p9)))⟩, ⟨(some p11), none, (.e (.mv (.r p10)))⟩, ⟨(some p12), (some (p11, false)), (.e (.mv (.r p1)))⟩, ⟨(some p13), (some (p11, false)), (.c (.f 58 [(.r p12)]))⟩, ⟨(some p14), (some (p11, false)), (.e (.not (.r p13)))⟩, ⟨(some p15), none, (.e (.pick (.r p11) (.c (.bool true)) (.r p14)))⟩]) (.cond (.r p15) (.seq (.reg [⟨(some p4), none, (.e (.mv (.c (.int .i64 (.ofNat 0)))))⟩]) .ret) .skip)) (.seq (.reg [⟨(some p16), none, (.e (.mv (.r p0)))⟩, ⟨(some p17), none, (.e (.mv (.r p1)))⟩, ⟨(some p18), none, (.e (.bin .add (.r p16) (.r p17)))⟩, ⟨(some p19), none, (.e (.bin .sub (.r p18) (.c (.int .i64 (.ofNat 2)))))⟩, ⟨(some p20), none, (.e (.mv (.r p1)))⟩, ⟨(some p21), none, (.e (.bin .sub (.r p20) (.c (.int .i64 (.ofNat 1)))))⟩, ⟨(some p22), none, (.e (.bin .quo (.r p19) (.r p21)))⟩, ⟨(some p4), none, (.e (.mv (.r p22)))⟩]) .ret)))
theorem I55_0 (E : Env) : Is E C55_0 (retK3 R55) (fun σ h => J55_0 E (σ p0) (σ p1) h) :=
  fun σ h => by kernel_rfl
def D55 : DF := ⟨2, 23, C55_0, R55⟩
noncomputable def S55 (E : Env) : Fun := fun args h => aS args fun r0 args => aS args fun r1 args => a0 args (J55_0 E r0 r1 h)
theorem S55_eq (E : Env) (args : List DV) (h : H) : runFn E D55 args h = S55 E args h :=
  Is.fn2 (d := D55) (I55_0 E) rfl (fun r0 r1 h => J55_0 E r0 r1 h) (fun r0 r1 h => by kernel_rfl) args h
/- hurdle/parity.Give -/
def R56 : List RV := [(.r p4), (.r p5)]
noncomputable def J56_0 (E : Env) (r0 r1 : DV) (h : H) : Ans :=
  vK (v_lenL r0) fun x1 =>
  wK (callK E 58 [x1] h) fun x2 h3 =>
  vK (v_not x2) fun x4 =>
  gdK x4 false (fun kk => kk r1 h3) h3 fun x5 h6 =>
  gdK x4 false (fun kk => vK (v_lss x5 (.int .i64 (.ofNat 0))) fun v => kk v h6) h6 fun x7 h8 =>
  vK (v_pick x4 (.bool true) x7) fun x9 =>
  gdK x9 false (fun kk => kk r1 h8) h8 fun x10 h11 =>
  gdK x9 false (fun kk => kk r0 h11) h11 fun x12 h13 =>
  gdK x9 false (fun kk => vK (v_lenL x12) fun v => kk v h13) h13 fun x14 h15 =>
  gdK x9 false (fun kk => vK (v_geq x10 x14) fun v => kk v h15) h15 fun x16 h17 =>
  vK (v_pick x9 (.bool true) x16) fun x18 =>
  bK x18
  (some ((.tup [(.str []), (.int .i64 (.ofNat 1))]), h17))
  (wK (callK E 59 [r0, r1] h17) fun x19 h20 =>
  vK (v_ext 0 x19) fun x21 =>
  vK (v_ext 1 x19) fun x22 =>
  vK (v_not x22) fun x23 =>
  bK x23
  (some ((.tup [(.str []), (.int .i64 (.ofNat 2))]), h20))
  (wK (callK E 83 [x21] h20) fun x24 h25 =>
  some ((.tup [x24, (.int .i64 (.ofNat 0))]), h25)))
def C56_0 : DC := (.seq (.reg [⟨(some p4), none, (.e (.mv (.c (.str []))))⟩, ⟨(some p5), none, (.e (.mv (.c (.int .i64 (.ofNat 0)))))⟩]) (.seq (.seq (.reg [⟨(some p8), none, (.e (.mv (.r p0)))⟩, ⟨(some p9), none, (.e (.lenL (.r p8)))⟩, ⟨(some p10), none, (.c (.f 58 [(.r p9)]))⟩, ⟨(some p11), none, (.e (.not (.r p10)))⟩, ⟨(some p12), none, (.e (.mv (.r p11)))⟩, ⟨(some p13), (some (p12, false)), (.e (.mv (.r p1)))⟩, ⟨(some p14), (some (p12, false)), (.e (.bin .lss (.r p13) (.c (.int .i64 (.ofNat 0)))))⟩, ⟨(some p15), none, (.e (.pick (.r p12) (.c (.bool true)) (.r p14)))⟩, ⟨(some p16), none, (.e (.mv (.r p15)))⟩, ⟨(some p17), (some (p16, false)), (.e (.mv (.r p1)))⟩, ⟨(some p18), (some (p16, false)), (.e (.mv (.r p0)))⟩, ⟨(some p19), (some (p16, false)), (.e (.lenL (.r p18)))⟩, ⟨(some p20), (some (p16, false)), (.e (.bin .geq (.r p17) (.r p19)))⟩, ⟨(some p21), none, (.e (.pick (.r p16) (.c (.bool true)) (.r p20)))⟩]) (.cond (.r p21) (.seq (.reg [⟨(some p4), none, (.e (.mv (.c (.str []))))⟩, ⟨(some p5), none, (.e (.mv (.c (.int .i64 (.ofNat 1)))))⟩]) .ret) .skip)) (.seq (.reg [⟨(some p23), none, (.e (.mv (.r p0)))⟩, ⟨(some p24), none, (.e (.mv (.r p1)))⟩, ⟨(some p25), none, (.c (.f 59 [(.r p23), (.r p24)]))⟩, ⟨(some p22), none, (.e (.mv (.r p25)))⟩, ⟨(some p26), none, (.e (.ext 0 (.r p22)))⟩, ⟨(some p27), none, (.e (.ext 1 (.r p22)))⟩, ⟨(some p6), none, (.e (.mv (.r p26)))⟩, ⟨(some p7), none, (.e (.mv (.r p27)))⟩]) (.seq (.seq (.reg [⟨(some p28), none, (.e (.mv (.r p7)))⟩, ⟨(some p29), none, (.e (.not (.r p28)))⟩]) (.cond (.r p29) (.seq (.reg [⟨(some p4), none, (.e (.mv (.c (.str []))))⟩, ⟨(some p5), none, (.e (.mv (.c (.int .i64 (.ofNat 2)))))⟩]) .ret) .skip)) (.seq (.reg [⟨(some p30), none, (.e (.mv (.r p6)))⟩, ⟨(some p31), none, (.c (.f 83 [(.r p30)]))⟩, ⟨(some p4), none, (.e (.mv (.r p31)))⟩, ⟨(some p5), none, (.e (.mv (.c (.int .i64 (.ofNat 0)))))⟩]) .ret)))))
theorem I56_0 (E : Env) : Is E C56_0 (retK3 R56) (fun σ h => J56_0 E (σ p0) (σ p1) h) :=
  fun σ h => by kernel_rfl
def D56 : DF := ⟨2, 32, C56_0, R56⟩
noncomputable def S56 (E : Env) : Fun := fun args h => aS args fun r0 args => aS args fun r1 args => a0 args (J56_0 E r0 r1 h)
theorem S56_eq (E : Env) (args : List DV) (h : H) : runFn E D56 args h = S56 E args h :=
  Is.fn2 (d := D56) (I56_0 E) rfl (fun r0 r1 h => J56_0 E r0 r1 h) (fun r0 r1 h => by kernel_rfl) args h
/- hurdle/parity.Join -/
def R57 : List RV := [(.r p4), (.r p5)]
noncomputable def J57_1 (E : Env) (r1 r7 : DV) (h : H) : Ans :=
  vK (v_slL 1 r7 none (some r1)) fun x1 =>
  vK (v_b2s h.get x1) fun x2 =>
  some ((.tup [x2, (.int .i64 (.ofNat 0))]), h)
def C57_1 : DC := (.seq (.reg [⟨(some p47), none, (.e (.mv (.r p7)))⟩, ⟨(some p48), none, (.e (.mv (.r p1)))⟩, ⟨(some p49), none, (.e (.slL 1 (.r p47) none (some (.r p48))))⟩, ⟨(some p50), none, (.e (.b2s (.r p49)))⟩, ⟨(some p4), none, (.e (.mv (.r p50)))⟩, ⟨(some p5), none, (.e (.mv (.c (.int .i64 (.ofNat 0)))))⟩]) .ret)
noncomputable def B57_2 (E : Env) (r1 r6 r33 r34 : DV) (i2 : DV → DV → H → Ans) (r7 r35 : DV) (h : H) : Ans :=
  vK (v_lss r35 r34) fun x1 =>
  bK x1
  (vK (v_iaS 1 r33 r35) fun x2 =>
  vK (v_ld h.get x2) fun x3 =>
  vK (v_lenS x3) fun x4 =>
  vK (v_neq x4 r6) fun x5 =>
  bK x5
  (some ((.tup [(.str []), (.int .i64 (.ofNat 2))]), h))
  (wK (dAppendF 1 1 r7 x3 h) fun x6 h7 =>
  vK (v_add r35 (.int .i64 (.ofNat 1))) fun x8 =>
  i2 x6 x8 h7))
  (J57_1 E r1 r7 h)
noncomputable def L57_2 (E : Env) (r1 r6 r33 r34 : DV) (n : Nat) : DV → DV → H → Ans := Nat.rec (motive := fun _ => DV → DV → H → Ans) (fun _ _ _ => none) (fun _ i => B57_2 E r1 r6 r33 r34 i) n
def C57_2 : DC := (.loop (.seq (.reg [⟨(some p36), none, (.e (.bin .lss (.r p35) (.r p34)))⟩]) (.seq (.cond (.r p36) .skip (.exit 0)) (.seq (.block 1 (.seq (.reg [⟨(some p37), none, (.e (.iaS 1 (.r p33) (.r p35)))⟩, ⟨(some p38), none, (.e (.ld (.r p37)))⟩, ⟨(some p9), none, (.e (.mv (.r p38)))⟩]) (.seq (.seq (.reg [⟨(some p39), none, (.e (.mv (.r p9)))⟩, ⟨(some p40), none, (.e (.lenS (.r p39)))⟩, ⟨(some p41), none, (.e (.mv (.r p6)))⟩, ⟨(some p42), none, (.e (.bin .neq (.r p40) (.r p41)))⟩]) (.cond (.r p42) (.seq (.reg [⟨(some p4), none, (.e (.mv (.c (.str []))))⟩, ⟨(some p5), none, (.e (.mv (.c (.int .i64 (.ofNat 2)))))⟩]) .ret) .skip)) (.reg [⟨(some p43), none, (.e (.mv (.r p7)))⟩, ⟨(some p44), none, (.e (.mv (.r p9)))⟩, ⟨(some p45), none, (.w (.app 1 1 (.r p43) (.r p44)))⟩, ⟨(some p7), none, (.e (.mv (.r p45)))⟩])))) (.reg [⟨(some p46), none, (.e (.bin .add (.r p35) (.c (.int .i64 (.ofNat 1)))))⟩, ⟨(some p35), none, (.e (.mv (.r p46)))⟩])))))
noncomputable def J57_0 (E : Env) (r0 r1 : DV) (h : H) : Ans :=
  vK (v_lenL r0) fun x1 =>
  wK (callK E 58 [x1] h) fun x2 h3 =>
  vK (v_not x2) fun x4 =>
  bK x4
  (some ((.tup [(.str []), (.int .i64 (.ofNat 1))]), h3))
  (vK (v_lenL r0) fun x5 =>
  wK (callK E 55 [r1, x5] h3) fun x6 h7 =>
  vK (v_lss r1 (.int .i64 (.ofNat 0))) fun x8 =>
  gdK x8 false (fun kk => kk r1 h7) h7 fun x9 h10 =>
  gdK x8 false (fun kk => vK (v_gtr x9 (.int .i64 (.ofNat 65536))) fun v => kk v h10) h10 fun x11 h12 =>
  vK (v_pick x8 (.bool true) x11) fun x13 =>
  gdK x13 false (fun kk => kk x6 h12) h12 fun x14 h15 =>
  gdK x13 false (fun kk => vK (v_gtr x14 (.int .i64 (.ofNat 512))) fun v => kk v h15) h15 fun x16 h17 =>
  vK (v_pick x13 (.bool true) x16) fun x18 =>
  bK x18
  (some ((.tup [(.str []), (.int .i64 (.ofNat 2))]), h17))
  (vK (v_lenL r0) fun x19 =>
  vK (v_mul x6 x19) fun x20 =>
  n_mks 1 1 (.int .u8 (.ofNat 0)) (.int .i64 (.ofNat 0)) x20 h17 fun x21 h22 =>
  vK (v_lenL r0) fun x23 =>
  L57_2 E r1 x6 r0 x23 FUEL x21 (.int .i64 (.ofNat 0)) h22))
def C57_0 : DC := (.seq (.reg [⟨(some p4), none, (.e (.mv (.c (.str []))))⟩, ⟨(some p5), none, (.e (.mv (.c (.int .i64 (.ofNat 0)))))⟩]) (.seq (.seq (.reg [⟨(some p10), none, (.e (.mv (.r p0)))⟩, ⟨(some p11), none, (.e (.lenL (.r p10)))⟩, ⟨(some p12), none, (.c (.f 58 [(.r p11)]))⟩, ⟨(some p13), none, (.e (.not (.r p12)))⟩]) (.cond (.r p13) (.seq (.reg [⟨(some p4), none, (.e (.mv (.c (.str []))))⟩, ⟨(some p5), none, (.e (.mv (.c (.int .i64 (.ofNat 1)))))⟩]) .ret) .skip)) (.seq (.reg [⟨(some p14), none, (.e (.mv (.r p1)))⟩, ⟨(some p15), none, (.e (.mv (.r p0)))⟩, ⟨(some p16), none, (.e (.lenL (.r p15)))⟩, ⟨(some p17), none, (.c (.f 55 [(.r p14), (.r p16)]))⟩, ⟨(some p6), none, (.e (.mv (.r p17)))⟩]) (.seq (.seq (.reg [⟨(some p18), none, (.e (.mv (.r p1)))⟩, ⟨(some p19), none, (.e (.bin .lss (.r p18) (.c (.int .i64 (.ofNat 0)))))⟩, ⟨(some p20), none, (.e (.mv (.r p19)))⟩, ⟨(some p21), (some (p20, false)), (.e (.mv (.r p1)))⟩, ⟨(some p22), (some (p20, false)), (.e (.bin .gtr (.r p21) (.c (.int .i64 (.ofNat 65536)))))⟩, ⟨(some p23), none, (.e (.pick (.r p20) (.c (.bool true)) (.r p22)))⟩, ⟨(some p24), none, (.e (.mv (.r p23)))⟩, ⟨(some p25), (some (p24, false)), (.e (.mv (.r p6)))⟩, ⟨(some p26), (some (p24, false)), (.e (.bin .gtr (.r p25) (.c (.int .i64 (.ofNat 512)))))⟩, ⟨(some p27), none, (.e (.pick (.r p24) (.c (.bool true)) (.r p26)))⟩]) (.cond (.r p27) (.seq (.reg [⟨(some p4), none, (.e (.mv (.c (.str []))))⟩, ⟨(some p5), none, (.e (.mv (.c (.int .i64 (.ofNat 2)))))⟩]) .ret) .skip)) (.seq (.reg [⟨(some p28), none, (.e (.mv (.r p6)))⟩, ⟨(some p29), none, (.e (.mv (.r p0)))⟩, ⟨(some p30), none, (.e (.lenL (.r p29)))⟩, ⟨(some p31), none, (.e (.bin .mul (.r p28) (.r p30)))⟩, ⟨(some p32), none, (.e (.mks 1 1 (.int .u8 (.ofNat 0)) (.c (.int .i64 (.ofNat 0))) (.r p31)))⟩, ⟨(some p7), none, (.e (.mv (.r p32)))⟩]) (.seq (.seq (.reg [⟨(some p33), none, (.e (.mv (.r p0)))⟩, ⟨(some p34), none, (.e (.lenL (.r p33)))⟩, ⟨(some p35), none, (.e (.mv (.c (.int .i64 (.ofNat 0)))))⟩]) (.block 0 C57_2)) C57_1))))))
theorem I57_1 (E : Env) : Is E C57_1 (retK3 R57) (fun σ h => J57_1 E (σ p1) (σ p7) h) :=
  fun σ h => by kernel_rfl
noncomputable abbrev K57_3 (E : Env) : KT2 (DV × H) := (thenK3 (fun σ h => J57_1 E (σ p1) (σ p7) h) (retK3 R57))
theorem I57_2 (E : Env) : Is E C57_2 (blockK3 0 (K57_3 E)) (fun σ h => L57_2 E (σ p1) (σ p6) (σ p33) (σ p34) FUEL (σ p7) (σ p35) h) :=
  Is.loop (fun n2 σ h => L57_2 E (σ p1) (σ p6) (σ p33) (σ p34) n2 (σ p7) (σ p35) h) (by kernel_rfl) fun n2 => Is.as (Is.leaf _) fun σ h => by kernel_rfl
theorem I57_0 (E : Env) : Is E C57_0 (retK3 R57) (fun σ h => J57_0 E (σ p0) (σ p1) h) :=
  Is.as (Is.seq (Is.seq (Is.seq (Is.seq (Is.seq (Is.seq (I57_1 E) (Is.seq (Is.block (I57_2 E)) (Is.leaf _))) (Is.leaf _)) (Is.leaf _)) (Is.leaf _)) (Is.leaf _)) (Is.leaf _)) fun σ h => by kernel_rfl
def D57 : DF := ⟨2, 51, C57_0, R57⟩
noncomputable def S57 (E : Env) : Fun := fun args h => aS args fun r0 args => aS args fun r1 args => a0 args (J57_0 E r0 r1 h)
theorem S57_eq (E : Env) (args : List DV) (h : H) : runFn E D57 args h = S57 E args h :=
  Is.fn2 (d := D57) (I57_0 E) rfl (fun r0 r1 h => J57_0 E r0 r1 h) (fun r0 r1 h => by kernel_rfl) args h
/- hurdle/parity.wide -/
def R58 : List RV := [(.r p2)]
noncomputable def J58_0 (E : Env) (r0 : DV) (h : H) : Ans :=
  vK (v_geq r0 (.int .i64 (.ofNat 2))) fun x1 =>
  gdK x1 true (fun kk => kk r0 h) h fun x2 h3 =>
  gdK x1 true (fun kk => vK (v_leq x2 (.int .i64 (.ofNat 8))) fun v => kk v h3) h3 fun x4 h5 =>
  vK (v_pick x1 x4 (.bool false)) fun x6 =>
  some (x6, h5)
def C58_0 : DC := (.seq (.reg [⟨(some p2), none, (.e (.mv (.c (.bool false))))⟩]) (.seq (.reg [⟨(some p3), none, (.e (.mv (.r p0)))⟩, ⟨(some p4), none, (.e (.bin .geq (.r p3) (.c (.int .i64 (.ofNat 2)))))⟩, ⟨(some p5), none, (.e (.mv (.r p4)))⟩, ⟨(some p6), (some (p5, true)), (.e (.mv (.r p0)))⟩, ⟨(some p7), (some (p5, true)), (.e (.bin .leq (.r p6) (.c (.int .i64 (.ofNat 8)))))⟩, ⟨(some p8), none, (.e (.pick (.r p5) (.r p7) (.c (.bool false))))⟩, ⟨(some p2), none, (.e (.mv (.r p8)))⟩]) .ret))
theorem I58_0 (E : Env) : Is E C58_0 (retK3 R58) (fun σ h => J58_0 E (σ p0) h) :=
  fun σ h => by kernel_rfl
def D58 : DF := ⟨1, 9, C58_0, R58⟩
noncomputable def S58 (E : Env) : Fun := fun args h => aS args fun r0 args => a0 args (J58_0 E r0 h)
theorem S58_eq (E : Env) (args : List DV) (h : H) : runFn E D58 args h = S58 E args h :=
  Is.fn1 (d := D58) (I58_0 E) rfl (fun r0 h => J58_0 E r0 h) (fun r0 h => by kernel_rfl) args h
/- hurdle/parity.all -/
def R59 : List RV := [(.r p4), (.r p5)]
noncomputable def J59_1 (E : Env) (r6 : DV) (h : H) : Ans :=
  some ((.tup [r6, (.bool true)]), h)
def C59_1 : DC := (.seq (.reg [⟨(some p28), none, (.e (.mv (.r p6)))⟩, ⟨(some p4), none, (.e (.mv (.r p28)))⟩, ⟨(some p5), none, (.e (.mv (.c (.bool true))))⟩]) .ret)
noncomputable def J59_3 (E : Env) (i2 : DV → DV → H → Ans) (r7 r14 : DV) (h : H) : Ans :=
  vK (v_add r14 (.int .i64 (.ofNat 1))) fun x1 =>
  i2 r7 x1 h
def C59_3 : DC := (.reg [⟨(some p27), none, (.e (.bin .add (.r p14) (.c (.int .i64 (.ofNat 1)))))⟩, ⟨(some p14), none, (.e (.mv (.r p27)))⟩])
noncomputable def B59_2 (E : Env) (r1 r6 r12 r13 : DV) (i2 : DV → DV → H → Ans) (r7 r14 : DV) (h : H) : Ans :=
  vK (v_lss r14 r13) fun x1 =>
  bK x1
  (vK (v_iaS 1 r12 r14) fun x2 =>
  vK (v_ld h.get x2) fun x3 =>
  vK (v_eql r14 r1) fun x4 =>
  bK x4
  (J59_3 E i2 r7 r14 h)
  (wK (callK E 95 [r6, x3, r7] h) fun x5 h6 =>
  vK (v_not x5) fun x7 =>
  bK x7
  (some ((.tup [.nilp, (.bool false)]), h6))
  (J59_3 E i2 (.bool false) r14 h6)))
  (J59_1 E r6 h)
noncomputable def L59_2 (E : Env) (r1 r6 r12 r13 : DV) (n : Nat) : DV → DV → H → Ans := Nat.rec (motive := fun _ => DV → DV → H → Ans) (fun _ _ _ => none) (fun _ i => B59_2 E r1 r6 r12 r13 i) n
def C59_2 : DC := (.loop (.seq (.reg [⟨(some p15), none, (.e (.bin .lss (.r p14) (.r p13)))⟩]) (.seq (.cond (.r p15) .skip (.exit 0)) (.seq (.block 1 (.seq (.reg [⟨(some p16), none, (.e (.mv (.r p14)))⟩, ⟨(some p17), none, (.e (.iaS 1 (.r p12) (.r p14)))⟩, ⟨(some p18), none, (.e (.ld (.r p17)))⟩, ⟨(some p8), none, (.e (.mv (.r p16)))⟩, ⟨(some p9), none, (.e (.mv (.r p18)))⟩]) (.seq (.seq (.reg [⟨(some p19), none, (.e (.mv (.r p8)))⟩, ⟨(some p20), none, (.e (.mv (.r p1)))⟩, ⟨(some p21), none, (.e (.bin .eql (.r p19) (.r p20)))⟩]) (.cond (.r p21) (.exit 1) .skip)) (.seq (.seq (.reg [⟨(some p22), none, (.e (.mv (.r p6)))⟩, ⟨(some p23), none, (.e (.mv (.r p9)))⟩, ⟨(some p24), none, (.e (.mv (.r p7)))⟩, ⟨(some p25), none, (.c (.f 95 [(.r p22), (.r p23), (.r p24)]))⟩, ⟨(some p26), none, (.e (.not (.r p25)))⟩]) (.cond (.r p26) (.seq (.reg [⟨(some p4), none, (.e (.mv (.c .nilp)))⟩, ⟨(some p5), none, (.e (.mv (.c (.bool false))))⟩]) .ret) .skip)) (.reg [⟨(some p7), none, (.e (.mv (.c (.bool false))))⟩]))))) C59_3))))
noncomputable def J59_0 (E : Env) (r0 r1 : DV) (h : H) : Ans :=
  vK (v_bld [(.int .u8 (.ofNat 0)), (.int .u8 (.ofNat 0)), (.int .u8 (.ofNat 0)), (.int .u8 (.ofNat 0)), (.int .u8 (.ofNat 0)), (.int .u8 (.ofNat 0)), (.int .u8 (.ofNat 0)), (.int .u8 (.ofNat 0)), (.int .u8 (.ofNat 0)), (.int .u8 (.ofNat 0)), (.int .u8 (.ofNat 0)), (.int .u8 (.ofNat 0)), (.int .u8 (.ofNat 0)), (.int .u8 (.ofNat 0)), (.int .u8 (.ofNat 0)), (.int .u8 (.ofNat 0)), (.int .u8 (.ofNat 0)), (.int .u8 (.ofNat 0)), (.int .u8 (.ofNat 0)), (.int .u8 (.ofNat 0)), (.int .u8 (.ofNat 0)), (.int .u8 (.ofNat 0)), (.int .u8 (.ofNat 0)), (.int .u8 (.ofNat 0)), (.int .u8 (.ofNat 0)), (.int .u8 (.ofNat 0)), (.int .u8 (.ofNat 0)), (.int .u8 (.ofNat 0)), (.int .u8 (.ofNat 0)), (.int .u8 (.ofNat 0)), (.int .u8 (.ofNat 0)), (.int .u8 (.ofNat 0)), (.int .u8 (.ofNat 0)), (.int .u8 (.ofNat 0)), (.int .u8 (.ofNat 0)), (.int .u8 (.ofNat 0)), (.int .u8 (.ofNat 0)), (.int .u8 (.ofNat 0)), (.int .u8 (.ofNat 0)), (.int .u8 (.ofNat 0)), (.int .u8 (.ofNat 0)), (.int .u8 (.ofNat 0)), (.int .u8 (.ofNat 0)), (.int .u8 (.ofNat 0)), (.int .u8 (.ofNat 0)), (.int .u8 (.ofNat 0)), (.int .u8 (.ofNat 0)), (.int .u8 (.ofNat 0)), (.int .u8 (.ofNat 0)), (.int .u8 (.ofNat 0)), (.int .u8 (.ofNat 0)), (.int .u8 (.ofNat 0)), (.int .u8 (.ofNat 0)), (.int .u8 (.ofNat 0)), (.int .u8 (.ofNat 0)), (.int .u8 (.ofNat 0)), (.int .u8 (.ofNat 0)), (.int .u8 (.ofNat 0)), (.int .u8 (.ofNat 0)), (.int .u8 (.ofNat 0)), (.int .u8 (.ofNat 0)), (.int .u8 (.ofNat 0)), (.int .u8 (.ofNat 0)), (.int .u8 (.ofNat 0)), (.int .u8 (.ofNat 0)), (.int .u8 (.ofNat 0)), (.int .u8 (.ofNat 0)), (.int .u8 (.ofNat 0)), (.int .u8 (.ofNat 0)), (.int .u8 (.ofNat 0)), (.int .u8 (.ofNat 0)), (.int .u8 (.ofNat 0)), (.int .u8 (.ofNat 0)), (.int .u8 (.ofNat 0)), (.int .u8 (.ofNat 0)), (.int .u8 (.ofNat 0)), (.int .u8 (.ofNat 0)), (.int .u8 (.ofNat 0)), (.int .u8 (.ofNat 0)), (.int .u8 (.ofNat 0)), (.int .u8 (.ofNat 0)), (.int .u8 (.ofNat 0)), (.int .u8 (.ofNat 0)), (.int .u8 (.ofNat 0)), (.int .u8 (.ofNat 0)), (.int .u8 (.ofNat 0)), (.int .u8 (.ofNat 0)), (.int .u8 (.ofNat 0)), (.int .u8 (.ofNat 0)), (.int .u8 (.ofNat 0)), (.int .u8 (.ofNat 0)), (.int .u8 (.ofNat 0)), (.int .u8 (.ofNat 0)), (.int .u8 (.ofNat 0)), (.int .u8 (.ofNat 0)), (.int .u8 (.ofNat 0)), (.int .u8 (.ofNat 0)), (.int .u8 (.ofNat 0)), (.int .u8 (.ofNat 0)), (.int .u8 (.ofNat 0)), (.int .u8 (.ofNat 0)), (.int .u8 (.ofNat 0)), (.int .u8 (.ofNat 0)), (.int .u8 (.ofNat 0)), (.int .u8 (.ofNat 0)), (.int .u8 (.ofNat 0)), (.int .u8 (.ofNat 0)), (.int .u8 (.ofNat 0)), (.int .u8 (.ofNat 0)), (.int .u8 (.ofNat 0)), (.int .u8 (.ofNat 0)), (.int .u8 (.ofNat 0)), (.int .u8 (.ofNat 0)), (.int .u8 (.ofNat 0)), (.int .u8 (.ofNat 0)), (.int .u8 (.ofNat 0)), (.int .u8 (.ofNat 0)), (.int .u8 (.ofNat 0)), (.int .u8 (.ofNat 0)), (.int .u8 (.ofNat 0)), (.int .u8 (.ofNat 0)), (.int .u8 (.ofNat 0)), (.int .u8 (.ofNat 0)), (.int .u8 (.ofNat 0)), (.int .u8 (.ofNat 0)), (.int .u8 (.ofNat 0)), (.int .u8 (.ofNat 0)), (.int .u8 (.ofNat 0)), (.int .u8 (.ofNat 0)), (.int .u8 (.ofNat 0)), (.int .u8 (.ofNat 0)), (.int .u8 (.ofNat 0)), (.int .u8 (.ofNat 0)), (.int .u8 (.ofNat 0)), (.int .u8 (.ofNat 0)), (.int .u8 (.ofNat 0)), (.int .u8 (.ofNat 0)), (.int .u8 (.ofNat 0)), (.int .u8 (.ofNat 0)), (.int .u8 (.ofNat 0)), (.int .u8 (.ofNat 0)), (.int .u8 (.ofNat 0)), (.int .u8 (.ofNat 0)), (.int .u8 (.ofNat 0)), (.int .u8 (.ofNat 0)), (.int .u8 (.ofNat 0)), (.int .u8 (.ofNat 0)), (.int .u8 (.ofNat 0)), (.int .u8 (.ofNat 0)), (.int .u8 (.ofNat 0)), (.int .u8 (.ofNat 0)), (.int .u8 (.ofNat 0)), (.int .u8 (.ofNat 0)), (.int .u8 (.ofNat 0)), (.int .u8 (.ofNat 0)), (.int .u8 (.ofNat 0)), (.int .u8 (.ofNat 0)), (.int .u8 (.ofNat 0)), (.int .u8 (.ofNat 0)), (.int .u8 (.ofNat 0)), (.int .u8 (.ofNat 0)), (.int .u8 (.ofNat 0)), (.int .u8 (.ofNat 0)), (.int .u8 (.ofNat 0)), (.int .u8 (.ofNat 0)), (.int .u8 (.ofNat 0)), (.int .u8 (.ofNat 0)), (.int .u8 (.ofNat 0)), (.int .u8 (.ofNat 0)), (.int .u8 (.ofNat 0)), (.int .u8 (.ofNat 0)), (.int .u8 (.ofNat 0)), (.int .u8 (.ofNat 0)), (.int .u8 (.ofNat 0)), (.int .u8 (.ofNat 0)), (.int .u8 (.ofNat 0)), (.int .u8 (.ofNat 0)), (.int .u8 (.ofNat 0)), (.int .u8 (.ofNat 0)), (.int .u8 (.ofNat 0)), (.int .u8 (.ofNat 0)), (.int .u8 (.ofNat 0)), (.int .u8 (.ofNat 0)), (.int .u8 (.ofNat 0)), (.int .u8 (.ofNat 0)), (.int .u8 (.ofNat 0)), (.int .u8 (.ofNat 0)), (.int .u8 (.ofNat 0)), (.int .u8 (.ofNat 0)), (.int .u8 (.ofNat 0)), (.int .u8 (.ofNat 0)), (.int .u8 (.ofNat 0)), (.int .u8 (.ofNat 0)), (.int .u8 (.ofNat 0)), (.int .u8 (.ofNat 0)), (.int .u8 (.ofNat 0)), (.int .u8 (.ofNat 0)), (.int .u8 (.ofNat 0)), (.int .u8 (.ofNat 0)), (.int .u8 (.ofNat 0)), (.int .u8 (.ofNat 0)), (.int .u8 (.ofNat 0)), (.int .u8 (.ofNat 0)), (.int .u8 (.ofNat 0)), (.int .u8 (.ofNat 0)), (.int .u8 (.ofNat 0)), (.int .u8 (.ofNat 0)), (.int .u8 (.ofNat 0)), (.int .u8 (.ofNat 0)), (.int .u8 (.ofNat 0)), (.int .u8 (.ofNat 0)), (.int .u8 (.ofNat 0)), (.int .u8 (.ofNat 0)), (.int .u8 (.ofNat 0)), (.int .u8 (.ofNat 0)), (.int .u8 (.ofNat 0)), (.int .u8 (.ofNat 0)), (.int .u8 (.ofNat 0)), (.int .u8 (.ofNat 0)), (.int .u8 (.ofNat 0)), (.int .u8 (.ofNat 0)), (.int .u8 (.ofNat 0)), (.int .u8 (.ofNat 0)), (.int .u8 (.ofNat 0)), (.int .u8 (.ofNat 0)), (.int .u8 (.ofNat 0)), (.int .u8 (.ofNat 0)), (.int .u8 (.ofNat 0)), (.int .u8 (.ofNat 0)), (.int .u8 (.ofNat 0)), (.int .u8 (.ofNat 0)), (.int .u8 (.ofNat 0)), (.int .u8 (.ofNat 0)), (.int .u8 (.ofNat 0)), (.int .u8 (.ofNat 0)), (.int .u8 (.ofNat 0)), (.int .u8 (.ofNat 0)), (.int .u8 (.ofNat 0)), (.int .u8 (.ofNat 0)), (.int .u8 (.ofNat 0)), (.int .u8 (.ofNat 0)), (.int .u8 (.ofNat 0)), (.int .u8 (.ofNat 0)), (.int .u8 (.ofNat 0)), (.int .u8 (.ofNat 0)), (.int .u8 (.ofNat 0)), (.int .u8 (.ofNat 0)), (.int .u8 (.ofNat 0)), (.int .u8 (.ofNat 0)), (.int .u8 (.ofNat 0)), (.int .u8 (.ofNat 0)), (.int .u8 (.ofNat 0)), (.int .u8 (.ofNat 0)), (.int .u8 (.ofNat 0)), (.int .u8 (.ofNat 0)), (.int .u8 (.ofNat 0)), (.int .u8 (.ofNat 0)), (.int .u8 (.ofNat 0)), (.int .u8 (.ofNat 0)), (.int .u8 (.ofNat 0)), (.int .u8 (.ofNat 0)), (.int .u8 (.ofNat 0)), (.int .u8 (.ofNat 0)), (.int .u8 (.ofNat 0)), (.int .u8 (.ofNat 0)), (.int .u8 (.ofNat 0)), (.int .u8 (.ofNat 0)), (.int .u8 (.ofNat 0)), (.int .u8 (.ofNat 0)), (.int .u8 (.ofNat 0)), (.int .u8 (.ofNat 0)), (.int .u8 (.ofNat 0)), (.int .u8 (.ofNat 0)), (.int .u8 (.ofNat 0)), (.int .u8 (.ofNat 0)), (.int .u8 (.ofNat 0)), (.int .u8 (.ofNat 0)), (.int .u8 (.ofNat 0)), (.int .u8 (.ofNat 0)), (.int .u8 (.ofNat 0)), (.int .u8 (.ofNat 0)), (.int .u8 (.ofNat 0)), (.int .u8 (.ofNat 0)), (.int .u8 (.ofNat 0)), (.int .u8 (.ofNat 0)), (.int .u8 (.ofNat 0)), (.int .u8 (.ofNat 0)), (.int .u8 (.ofNat 0)), (.int .u8 (.ofNat 0)), (.int .u8 (.ofNat 0)), (.int .u8 (.ofNat 0)), (.int .u8 (.ofNat 0)), (.int .u8 (.ofNat 0)), (.int .u8 (.ofNat 0)), (.int .u8 (.ofNat 0)), (.int .u8 (.ofNat 0)), (.int .u8 (.ofNat 0)), (.int .u8 (.ofNat 0)), (.int .u8 (.ofNat 0)), (.int .u8 (.ofNat 0)), (.int .u8 (.ofNat 0)), (.int .u8 (.ofNat 0)), (.int .u8 (.ofNat 0)), (.int .u8 (.ofNat 0)), (.int .u8 (.ofNat 0)), (.int .u8 (.ofNat 0)), (.int .u8 (.ofNat 0)), (.int .u8 (.ofNat 0)), (.int .u8 (.ofNat 0)), (.int .u8 (.ofNat 0)), (.int .u8 (.ofNat 0)), (.int .u8 (.ofNat 0)), (.int .u8 (.ofNat 0)), (.int .u8 (.ofNat 0)), (.int .u8 (.ofNat 0)), (.int .u8 (.ofNat 0)), (.int .u8 (.ofNat 0)), (.int .u8 (.ofNat 0)), (.int .u8 (.ofNat 0)), (.int .u8 (.ofNat 0)), (.int .u8 (.ofNat 0)), (.int .u8 (.ofNat 0)), (.int .u8 (.ofNat 0)), (.int .u8 (.ofNat 0)), (.int .u8 (.ofNat 0)), (.int .u8 (.ofNat 0)), (.int .u8 (.ofNat 0)), (.int .u8 (.ofNat 0)), (.int .u8 (.ofNat 0)), (.int .u8 (.ofNat 0)), (.int .u8 (.ofNat 0)), (.int .u8 (.ofNat 0)), (.int .u8 (.ofNat 0)), (.int .u8 (.ofNat 0)), (.int .u8 (.ofNat 0)), (.int .u8 (.ofNat 0)), (.int .u8 (.ofNat 0)), (.int .u8 (.ofNat 0)), (.int .u8 (.ofNat 0)), (.int .u8 (.ofNat 0)), (.int .u8 (.ofNat 0)), (.int .u8 (.ofNat 0)), (.int .u8 (.ofNat 0)), (.int .u8 (.ofNat 0)), (.int .u8 (.ofNat 0)), (.int .u8 (.ofNat 0)), (.int .u8 (.ofNat 0)), (.int .u8 (.ofNat 0)), (.int .u8 (.ofNat 0)), (.int .u8 (.ofNat 0)), (.int .u8 (.ofNat 0)), (.int .u8 (.ofNat 0)), (.int .u8 (.ofNat 0)), (.int .u8 (.ofNat 0)), (.int .u8 (.ofNat 0)), (.int .u8 (.ofNat 0)), (.int .u8 (.ofNat 0)), (.int .u8 (.ofNat 0)), (.int .u8 (.ofNat 0)), (.int .u8 (.ofNat 0)), (.int .u8 (.ofNat 0)), (.int .u8 (.ofNat 0)), (.int .u8 (.ofNat 0)), (.int .u8 (.ofNat 0)), (.int .u8 (.ofNat 0)), (.int .u8 (.ofNat 0)), (.int .u8 (.ofNat 0)), (.int .u8 (.ofNat 0)), (.int .u8 (.ofNat 0)), (.int .u8 (.ofNat 0)), (.int .u8 (.ofNat 0)), (.int .u8 (.ofNat 0)), (.int .u8 (.ofNat 0)), (.int .u8 (.ofNat 0)), (.int .u8 (.ofNat 0)), (.int .u8 (.ofNat 0)), (.int .u8 (.ofNat 0)), (.int .u8 (.ofNat 0)), (.int .u8 (.ofNat 0)), (.int .u8 (.ofNat 0)), (.int .u8 (.ofNat 0)), (.int .u8 (.ofNat 0)), (.int .u8 (.ofNat 0)), (.int .u8 (.ofNat 0)), (.int .u8 (.ofNat 0)), (.int .u8 (.ofNat 0)), (.int .u8 (.ofNat 0)), (.int .u8 (.ofNat 0)), (.int .u8 (.ofNat 0)), (.int .u8 (.ofNat 0)), (.int .u8 (.ofNat 0)), (.int .u8 (.ofNat 0)), (.int .u8 (.ofNat 0)), (.int .u8 (.ofNat 0)), (.int .u8 (.ofNat 0)), (.int .u8 (.ofNat 0)), (.int .u8 (.ofNat 0)), (.int .u8 (.ofNat 0)), (.int .u8 (.ofNat 0)), (.int .u8 (.ofNat 0)), (.int .u8 (.ofNat 0)), (.int .u8 (.ofNat 0)), (.int .u8 (.ofNat 0)), (.int .u8 (.ofNat 0)), (.int .u8 (.ofNat 0)), (.int .u8 (.ofNat 0)), (.int .u8 (.ofNat 0)), (.int .u8 (.ofNat 0)), (.int .u8 (.ofNat 0)), (.int .u8 (.ofNat 0)), (.int .u8 (.ofNat 0)), (.int .u8 (.ofNat 0)), (.int .u8 (.ofNat 0)), (.int .u8 (.ofNat 0)), (.int .u8 (.ofNat 0)), (.int .u8 (.ofNat 0)), (.int .u8 (.ofNat 0)), (.int .u8 (.ofNat 0)), (.int .u8 (.ofNat 0)), (.int .u8 (.ofNat 0)), (.int .u8 (.ofNat 0)), (.int .u8 (.ofNat 0)), (.int .u8 (.ofNat 0)), (.int .u8 (.ofNat 0)), (.int .u8 (.ofNat 0)), (.int .u8 (.ofNat 0)), (.int .u8 (.ofNat 0)), (.int .u8 (.ofNat 0)), (.int .u8 (.ofNat 0)), (.int .u8 (.ofNat 0)), (.int .u8 (.ofNat 0)), (.int .u8 (.ofNat 0)), (.int .u8 (.ofNat 0)), (.int .u8 (.ofNat 0)), (.int .u8 (.ofNat 0)), (.int .u8 (.ofNat 0)), (.int .u8 (.ofNat 0)), (.int .u8 (.ofNat 0)), (.int .u8 (.ofNat 0)), (.int .u8 (.ofNat 0)), (.int .u8 (.ofNat 0)), (.int .u8 (.ofNat 0)), (.int .u8 (.ofNat 0)), (.int .u8 (.ofNat 0)), (.int .u8 (.ofNat 0)), (.int .u8 (.ofNat 0)), (.int .u8 (.ofNat 0)), (.int .u8 (.ofNat 0)), (.int .u8 (.ofNat 0)), (.int .u8 (.ofNat 0)), (.int .u8 (.ofNat 0)), (.int .u8 (.ofNat 0)), (.int .u8 (.ofNat 0)), (.int .u8 (.ofNat 0)), (.int .u8 (.ofNat 0)), (.int .u8 (.ofNat 0)), (.int .u8 (.ofNat 0)), (.int .u8 (.ofNat 0)), (.int .u8 (.ofNat 0)), (.int .u8 (.ofNat 0)), (.int .u8 (.ofNat 0)), (.int .u8 (.ofNat 0)), (.int .u8 (.ofNat 0)), (.int .u8 (.ofNat 0)), (.int .u8 (.ofNat 0)), (.int .u8 (.ofNat 0)), (.int .u8 (.ofNat 0)), (.int .u8 (.ofNat 0)), (.int .u8 (.ofNat 0)), (.int .u8 (.ofNat 0)), (.int .u8 (.ofNat 0)), (.int .u8 (.ofNat 0)), (.int .u8 (.ofNat 0)), (.int .u8 (.ofNat 0)), (.int .u8 (.ofNat 0)), (.int .u8 (.ofNat 0)), (.int .u8 (.ofNat 0)), (.int .u8 (.ofNat 0)), (.int .u8 (.ofNat 0)), (.int .u8 (.ofNat 0)), (.int .u8 (.ofNat 0)), (.int .u8 (.ofNat 0)), (.int .u8 (.ofNat 0)), (.int .u8 (.ofNat 0)), (.int .u8 (.ofNat 0)), (.int .u8 (.ofNat 0)), (.int .u8 (.ofNat 0)), (.int .u8 (.ofNat 0)), (.int .u8 (.ofNat 0)), (.int .u8 (.ofNat 0)), (.int .u8 (.ofNat 0)), (.int .u8 (.ofNat 0)), (.int .u8 (.ofNat 0)), (.int .u8 (.ofNat 0)), (.int .u8 (.ofNat 0)), (.int .u8 (.ofNat 0)), (.int .u8 (.ofNat 0)), (.int .u8 (.ofNat 0)), (.int .u8 (.ofNat 0)), (.int .u8 (.ofNat 0)), (.int .u8 (.ofNat 0)), (.int .u8 (.ofNat 0)), (.int .u8 (.ofNat 0)), (.int .u8 (.ofNat 0)), (.int .u8 (.ofNat 0)), (.int .u8 (.ofNat 0)), (.int .u8 (.ofNat 0)), (.int .u8 (.ofNat 0)), (.int .u8 (.ofNat 0)), (.int .u8 (.ofNat 0)), (.int .u8 (.ofNat 0)), (.int .u8 (.ofNat 0)), (.int .i64 (.ofNat 0))] []) fun x1 =>
  n_box x1 h fun x2 h3 =>
  vK (v_lenL r0) fun x4 =>
  L59_2 E r1 x2 r0 x4 FUEL (.bool true) (.int .i64 (.ofNat 0)) h3
def C59_0 : DC := (.seq (.reg [⟨(some p4), none, (.e (.mv (.c .nilp)))⟩, ⟨(some p5), none, (.e (.mv (.c (.bool false))))⟩]) (.seq (.reg [⟨(some p10), none, (.e (.bld [(.int .u8 (.ofNat 0)), (.int .u8 (.ofNat 0)), (.int .u8 (.ofNat 0)), (.int .u8 (.ofNat 0)), (.int .u8 (.ofNat 0)), (.int .u8 (.ofNat 0)), (.int .u8 (.ofNat 0)), (.int .u8 (.ofNat 0)), (.int .u8 (.ofNat 0)), (.int .u8 (.ofNat 0)), (.int .u8 (.ofNat 0)), (.int .u8 (.ofNat 0)), (.int .u8 (.ofNat 0)), (.int .u8 (.ofNat 0)), (.int .u8 (.ofNat 0)), (.int .u8 (.ofNat 0)), (.int .u8 (.ofNat 0)), (.int .u8 (.ofNat 0)), (.int .u8 (.ofNat 0)), (.int .u8 (.ofNat 0)), (.int .u8 (.ofNat 0)), (.int .u8 (.ofNat 0)), (.int .u8 (.ofNat 0)), (.int .u8 (.ofNat 0)), (.int .u8 (.ofNat 0)), (.int .u8 (.ofNat 0)), (.int .u8 (.ofNat 0)), (.int .u8 (.ofNat 0)), (.int .u8 (.ofNat 0)), (.int .u8 (.ofNat 0)), (.int .u8 (.ofNat 0)), (.int .u8 (.ofNat 0)), (.int .u8 (.ofNat 0)), (.int .u8 (.ofNat 0)), (.int .u8 (.ofNat 0)), (.int .u8 (.ofNat 0)), (.int .u8 (.ofNat 0)), (.int .u8 (.ofNat 0)), (.int .u8 (.ofNat 0)), (.int .u8 (.ofNat 0)), (.int .u8 (.ofNat 0)), (.int .u8 (.ofNat 0)), (.int .u8 (.ofNat 0)), (.int .u8 (.ofNat 0)), (.int .u8 (.ofNat 0)), (.int .u8 (.ofNat 0)), (.int .u8 (.ofNat 0)), (.int .u8 (.ofNat 0)), (.int .u8 (.ofNat 0)), (.int .u8 (.ofNat 0)), (.int .u8 (.ofNat 0)), (.int .u8 (.ofNat 0)), (.int .u8 (.ofNat 0)), (.int .u8 (.ofNat 0)), (.int .u8 (.ofNat 0)), (.int .u8 (.ofNat 0)), (.int .u8 (.ofNat 0)), (.int .u8 (.ofNat 0)), (.int .u8 (.ofNat 0)), (.int .u8 (.ofNat 0)), (.int .u8 (.ofNat 0)), (.int .u8 (.ofNat 0)), (.int .u8 (.ofNat 0)), (.int .u8 (.ofNat 0)), (.int .u8 (.ofNat 0)), (.int .u8 (.ofNat 0)), (.int .u8 (.ofNat 0)), (.int .u8 (.ofNat 0)), (.int .u8 (.ofNat 0)), (.int .u8 (.ofNat 0)), (.int .u8 (.ofNat 0)), (.int .u8 (.ofNat 0)), (.int .u8 (.ofNat 0)), (.int .u8 (.ofNat 0)), (.int .u8 (.ofNat 0)), (.int .u8 (.ofNat 0)), (.int .u8 (.ofNat 0)), (.int .u8 (.ofNat 0)), (.int .u8 (.ofNat 0)), (.int .u8 (.ofNat 0)), (.int .u8 (.ofNat 0)), (.int .u8 (.ofNat 0)), (.int .u8 (.ofNat 0)), (.int .u8 (.ofNat 0)), (.int .u8 (.ofNat 0)), (.int .u8 (.ofNat 0)), (.int .u8 (.ofNat 0)), (.int .u8 (.ofNat 0)), (.int .u8 (.ofNat 0)), (.int .u8 (.ofNat 0)), (.int .u8 (.ofNat 0)), (.int .u8 (.ofNat 0)), (.int .u8 (.ofNat 0)), (.int .u8 (.ofNat 0)), (.int .u8 (.ofNat 0)), (.int .u8 (.ofNat 0)), (.int .u8 (.ofNat 0)), (.int .u8 (.ofNat 0)), (.int .u8 (.ofNat 0)), (.int .u8 (.ofNat 0)), (.int .u8 (.ofNat 0)), (.int .u8 (.ofNat 0)), (.int .u8 (.ofNat 0)), (.int .u8 (.ofNat 0)), (.int .u8 (.ofNat 0)), (.int .u8 (.ofNat 0)), (.int .u8 (.ofNat 0)), (.int .u8 (.ofNat 0)), (.int .u8 (.ofNat 0)), (.int .u8 (.ofNat 0)), (.int .u8 (.ofNat 0)), (.int .u8 (.ofNat 0)), (.int .u8 (.ofNat 0)), (.int .u8 (.ofNat 0)), (.int .u8 (.ofNat 0)), (.int .u8 (.ofNat 0)), (.int .u8 (.ofNat 0)), (.int .u8 (.ofNat 0)), (.int .u8 (.ofNat 0)), (.int .u8 (.ofNat 0)), (.int .u8 (.ofNat 0)), (.int .u8 (.ofNat 0)), (.int .u8 (.ofNat 0)), (.int .u8 (.ofNat 0)), (.int .u8 (.ofNat 0)), (.int .u8 (.ofNat 0)), (.int .u8 (.ofNat 0)), (.int .u8 (.ofNat 0)), (.int .u8 (.ofNat 0)), (.int .u8 (.ofNat 0)), (.int .u8 (.ofNat 0)), (.int .u8 (.ofNat 0)), (.int .u8 (.ofNat 0)), (.int .u8 (.ofNat 0)), (.int .u8 (.ofNat 0)), (.int .u8 (.ofNat 0)), (.int .u8 (.ofNat 0)), (.int .u8 (.ofNat 0)), (.int .u8 (.ofNat 0)), (.int .u8 (.ofNat 0)), (.int .u8 (.ofNat 0)), (.int .u8 (.ofNat 0)), (.int .u8 (.ofNat 0)), (.int .u8 (.ofNat 0)), (.int .u8 (.ofNat 0)), (.int .u8 (.ofNat 0)), (.int .u8 (.ofNat 0)), (.int .u8 (.ofNat 0)), (.int .u8 (.ofNat 0)), (.int .u8 (.ofNat 0)), (.int .u8 (.ofNat 0)), (.int .u8 (.ofNat 0)), (.int .u8 (.ofNat 0)), (.int .u8 (.ofNat 0)), (.int .u8 (.ofNat 0)), (.int .u8 (.ofNat 0)), (.int .u8 (.ofNat 0)), (.int .u8 (.ofNat 0)), (.int .u8 (.ofNat 0)), (.int .u8 (.ofNat 0)), (.int .u8 (.ofNat 0)), (.int .u8 (.ofNat 0)), (.int .u8 (.ofNat 0)), (.int .u8 (.ofNat 0)), (.int .u8 (.ofNat 0)), (.int .u8 (.ofNat 0)), (.int .u8 (.ofNat 0)), (.int .u8 (.ofNat 0)), (.int .u8 (.ofNat 0)), (.int .u8 (.ofNat 0)), (.int .u8 (.ofNat 0)), (.int .u8 (.ofNat 0)), (.int .u8 (.ofNat 0)), (.int .u8 (.ofNat 0)), (.int .u8 (.ofNat 0)), (.int .u8 (.ofNat 0)), (.int .u8 (.ofNat 0)), (.int .u8 (.ofNat 0)), (.int .u8 (.ofNat 0)), (.int .u8 (.ofNat 0)), (.int .u8 (.ofNat 0)), (.int .u8 (.ofNat 0)), (.int .u8 (.ofNat 0)), (.int .u8 (.ofNat 0)), (.int .u8 (.ofNat 0)), (.int .u8 (.ofNat 0)), (.int .u8 (.ofNat 0)), (.int .u8 (.ofNat 0)), (.int .u8 (.ofNat 0)), (.int .u8 (.ofNat 0)), (.int .u8 (.ofNat 0)), (.int .u8 (.ofNat 0)), (.int .u8 (.ofNat 0)), (.int .u8 (.ofNat 0)), (.int .u8 (.ofNat 0)), (.int .u8 (.ofNat 0)), (.int .u8 (.ofNat 0)), (.int .u8 (.ofNat 0)), (.int .u8 (.ofNat 0)), (.int .u8 (.ofNat 0)), (.int .u8 (.ofNat 0)), (.int .u8 (.ofNat 0)), (.int .u8 (.ofNat 0)), (.int .u8 (.ofNat 0)), (.int .u8 (.ofNat 0)), (.int .u8 (.ofNat 0)), (.int .u8 (.ofNat 0)), (.int .u8 (.ofNat 0)), (.int .u8 (.ofNat 0)), (.int .u8 (.ofNat 0)), (.int .u8 (.ofNat 0)), (.int .u8 (.ofNat 0)), (.int .u8 (.ofNat 0)), (.int .u8 (.ofNat 0)), (.int .u8 (.ofNat 0)), (.int .u8 (.ofNat 0)), (.int .u8 (.ofNat 0)), (.int .u8 (.ofNat 0)), (.int .u8 (.ofNat 0)), (.int .u8 (.ofNat 0)), (.int .u8 (.ofNat 0)), (.int .u8 (.ofNat 0)), (.int .u8 (.ofNat 0)), (.int .u8 (.ofNat 0)), (.int .u8 (.ofNat 0)), (.int .u8 (.ofNat 0)), (.int .u8 (.ofNat 0)), (.int .u8 (.ofNat 0)), (.int .u8 (.ofNat 0)), (.int .u8 (.ofNat 0)), (.int .u8 (.ofNat 0)), (.int .u8 (.ofNat 0)), (.int .u8 (.ofNat 0)), (.int .u8 (.ofNat 0)), (.int .u8 (.ofNat 0)), (.int .u8 (.ofNat 0)), (.int .u8 (.ofNat 0)), (.int .u8 (.ofNat 0)), (.int .u8 (.ofNat 0)), (.int .u8 (.ofNat 0)), (.int .u8 (.ofNat 0)), (.int .u8 (.ofNat 0)), (.int .u8 (.ofNat 0)), (.int .u8 (.ofNat 0)), (.int .u8 (.ofNat 0)), (.int .u8 (.ofNat 0)), (.int .u8 (.ofNat 0)), (.int .u8 (.ofNat 0)), (.int .u8 (.ofNat 0)), (.int .u8 (.ofNat 0)), (.int .u8 (.ofNat 0)), (.int .u8 (.ofNat 0)), (.int .u8 (.ofNat 0)), (.int .u8 (.ofNat 0)), (.int .u8 (.ofNat 0)), (.int .u8 (.ofNat 0)), (.int .u8 (.ofNat 0)), (.int .u8 (.ofNat 0)), (.int .u8 (.ofNat 0)), (.int .u8 (.ofNat 0)), (.int .u8 (.ofNat 0)), (.int .u8 (.ofNat 0)), (.int .u8 (.ofNat 0)), (.int .u8 (.ofNat 0)), (.int .u8 (.ofNat 0)), (.int .u8 (.ofNat 0)), (.int .u8 (.ofNat 0)), (.int .u8 (.ofNat 0)), (.int .u8 (.ofNat 0)), (.int .u8 (.ofNat 0)), (.int .u8 (.ofNat 0)), (.int .u8 (.ofNat 0)), (.int .u8 (.ofNat 0)), (.int .u8 (.ofNat 0)), (.int .u8 (.ofNat 0)), (.int .u8 (.ofNat 0)), (.int .u8 (.ofNat 0)), (.int .u8 (.ofNat 0)), (.int .u8 (.ofNat 0)), (.int .u8 (.ofNat 0)), (.int .u8 (.ofNat 0)), (.int .u8 (.ofNat 0)), (.int .u8 (.ofNat 0)), (.int .u8 (.ofNat 0)), (.int .u8 (.ofNat 0)), (.int .u8 (.ofNat 0)), (.int .u8 (.ofNat 0)), (.int .u8 (.ofNat 0)), (.int .u8 (.ofNat 0)), (.int .u8 (.ofNat 0)), (.int .u8 (.ofNat 0)), (.int .u8 (.ofNat 0)), (.int .u8 (.ofNat 0)), (.int .u8 (.ofNat 0)), (.int .u8 (.ofNat 0)), (.int .u8 (.ofNat 0)), (.int .u8 (.ofNat 0)), (.int .u8 (.ofNat 0)), (.int .u8 (.ofNat 0)), (.int .u8 (.ofNat 0)), (.int .u8 (.ofNat 0)), (.int .u8 (.ofNat 0)), (.int .u8 (.ofNat 0)), (.int .u8 (.ofNat 0)), (.int .u8 (.ofNat 0)), (.int .u8 (.ofNat 0)), (.int .u8 (.ofNat 0)), (.int .u8 (.ofNat 0)), (.int .u8 (.ofNat 0)), (.int .u8 (.ofNat 0)), (.int .u8 (.ofNat 0)), (.int .u8 (.ofNat 0)), (.int .u8 (.ofNat 0)), (.int .u8 (.ofNat 0)), (.int .u8 (.ofNat 0)), (.int .u8 (.ofNat 0)), (.int .u8 (.ofNat 0)), (.int .u8 (.ofNat 0)), (.int .u8 (.ofNat 0)), (.int .u8 (.ofNat 0)), (.int .u8 (.ofNat 0)), (.int .u8 (.ofNat 0)), (.int .u8 (.ofNat 0)), (.int .u8 (.ofNat 0)), (.int .u8 (.ofNat 0)), (.int .u8 (.ofNat 0)), (.int .u8 (.ofNat 0)), (.int .u8 (.ofNat 0)), (.int .u8 (.ofNat 0)), (.int .u8 (.ofNat 0)), (.int .u8 (.ofNat 0)), (.int .u8 (.ofNat 0)), (.int .u8 (.ofNat 0)), (.int .u8 (.ofNat 0)), (.int .u8 (.ofNat 0)), (.int .u8 (.ofNat 0)), (.int .u8 (.ofNat 0)), (.int .u8 (.ofNat 0)), (.int .u8 (.ofNat 0)), (.int .u8 (.ofNat 0)), (.int .u8 (.ofNat 0)), (.int .u8 (.ofNat 0)), (.int .u8 (.ofNat 0)), (.int .u8 (.ofNat 0)), (.int .u8 (.ofNat 0)), (.int .u8 (.ofNat 0)), (.int .u8 (.ofNat 0)), (.int .u8 (.ofNat 0)), (.int .u8 (.ofNat 0)), (.int .u8 (.ofNat 0)), (.int .u8 (.ofNat 0)), (.int .u8 (.ofNat 0)), (.int .u8 (.ofNat 0)), (.int .u8 (.ofNat 0)), (.int .u8 (.ofNat 0)), (.int .u8 (.ofNat 0)), (.int .u8 (.ofNat 0)), (.int .u8 (.ofNat 0)), (.int .u8 (.ofNat 0)), (.int .u8 (.ofNat 0)), (.int .u8 (.ofNat 0)), (.int .u8 (.ofNat 0)), (.int .u8 (.ofNat 0)), (.int .u8 (.ofNat 0)), (.int .u8 (.ofNat 0)), (.int .u8 (.ofNat 0)), (.int .u8 (.ofNat 0)), (.int .u8 (.ofNat 0)), (.int .u8 (.ofNat 0)), (.int .u8 (.ofNat 0)), (.int .u8 (.ofNat 0)), (.int .u8 (.ofNat 0)), (.int .u8 (.ofNat 0)), (.int .u8 (.ofNat 0)), (.int .u8 (.ofNat 0)), (.int .u8 (.ofNat 0)), (.int .u8 (.ofNat 0)), (.int .u8 (.ofNat 0)), (.int .u8 (.ofNat 0)), (.int .u8 (.ofNat 0)), (.int .u8 (.ofNat 0)), (.int .u8 (.ofNat 0)), (.int .u8 (.ofNat 0)), (.int .u8 (.ofNat 0)), (.int .u8 (.ofNat 0)), (.int .u8 (.ofNat 0)), (.int .u8 (.ofNat 0)), (.int .u8 (.ofNat 0)), (.int .u8 (.ofNat 0)), (.int .u8 (.ofNat 0)), (.int .u8 (.ofNat 0)), (.int .u8 (.ofNat 0)), (.int .u8 (.ofNat 0)), (.int .u8 (.ofNat 0)), (.int .u8 (.ofNat 0)), (.int .u8 (.ofNat 0)), (.int .u8 (.ofNat 0)), (.int .u8 (.ofNat 0)), (.int .u8 (.ofNat 0)), (.int .u8 (.ofNat 0)), (.int .u8 (.ofNat 0)), (.int .u8 (.ofNat 0)), (.int .u8 (.ofNat 0)), (.int .u8 (.ofNat 0)), (.int .u8 (.ofNat 0)), (.int .u8 (.ofNat 0)), (.int .u8 (.ofNat 0)), (.int .u8 (.ofNat 0)), (.int .u8 (.ofNat 0)), (.int .u8 (.ofNat 0)), (.int .u8 (.ofNat 0)), (.int .u8 (.ofNat 0)), (.int .u8 (.ofNat 0)), (.int .u8 (.ofNat 0)), (.int .u8 (.ofNat 0)), (.int .u8 (.ofNat 0)), (.int .u8 (.ofNat 0)), (.int .u8 (.ofNat 0)), (.int .u8 (.ofNat 0)), (.int .u8 (.ofNat 0)), (.int .u8 (.ofNat 0)), (.int .u8 (.ofNat 0)), (.int .u8 (.ofNat 0)), (.int .u8 (.ofNat 0)), (.int .u8 (.ofNat 0)), (.int .u8 (.ofNat 0)), (.int .u8 (.ofNat 0)), (.int .u8 (.ofNat 0)), (.int .u8 (.ofNat 0)), (.int .u8 (.ofNat 0)), (.int .u8 (.ofNat 0)), (.int .u8 (.ofNat 0)), (.int .u8 (.ofNat 0)), (.int .u8 (.ofNat 0)), (.int .u8 (.ofNat 0)), (.int .u8 (.ofNat 0)), (.int .u8 (.ofNat 0)), (.int .u8 (.ofNat 0)), (.int .u8 (.ofNat 0)), (.int .u8 (.ofNat 0)), (.int .u8 (.ofNat 0)), (.int .u8 (.ofNat 0)), (.int .u8 (.ofNat 0)), (.int .u8 (.ofNat 0)), (.int .u8 (.ofNat 0)), (.int .u8 (.ofNat 0)), (.int .u8 (.ofNat 0)), (.int .u8 (.ofNat 0)), (.int .u8 (.ofNat 0)), (.int .u8 (.ofNat 0)), (.int .u8 (.ofNat 0)), (.int .u8 (.ofNat 0)), (.int .u8 (.ofNat 0)), (.int .u8 (.ofNat 0)), (.int .u8 (.ofNat 0)), (.int .u8 (.ofNat 0)), (.int .u8 (.ofNat 0)), (.int .u8 (.ofNat 0)), (.int .u8 (.ofNat 0)), (.int .u8 (.ofNat 0)), (.int .u8 (.ofNat 0)), (.int .u8 (.ofNat 0)), (.int .u8 (.ofNat 0)), (.int .u8 (.ofNat 0)), (.int .u8 (.ofNat 0)), (.int .u8 (.ofNat 0)), (.int .u8 (.ofNat 0)), (.int .u8 (.ofNat 0)), (.int .u8 (.ofNat 0)), (.int .u8 (.ofNat 0)), (.int .u8 (.ofNat 0)), (.int .u8 (.ofNat 0)), (.int .u8 (.ofNat 0)), (.int .u8 (.ofNat 0)), (.int .u8 (.ofNat 0)), (.int .u8 (.ofNat 0)), (.int .u8 (.ofNat 0)), (.int .u8 (.ofNat 0)), (.int .u8 (.ofNat 0)), (.int .u8 (.ofNat 0)), (.int .u8 (.ofNat 0)), (.int .u8 (.ofNat 0)), (.int .u8 (.ofNat 0)), (.int .u8 (.ofNat 0)), (.int .u8 (.ofNat 0)), (.int .u8 (.ofNat 0)), (.int .u8 (.ofNat 0)), (.int .u8 (.ofNat 0)), (.int .u8 (.ofNat 0)), (.int .u8 (.ofNat 0)), (.int .u8 (.ofNat 0)), (.int .u8 (.ofNat 0)), (.int .u8 (.ofNat 0)), (.int .u8 (.ofNat 0)), (.int .u8 (.ofNat 0)), (.int .u8 (.ofNat 0)), (.int .u8 (.ofNat 0)), (.int .u8 (.ofNat 0)), (.int .u8 (.ofNat 0)), (.int .u8 (.ofNat 0)), (.int .u8 (.ofNat 0)), (.int .u8 (.ofNat 0)), (.int .u8 (.ofNat 0)), (.int .u8 (.ofNat 0)), (.int .u8 (.ofNat 0)), (.int .u8 (.ofNat 0)), (.int .u8 (.ofNat 0)), (.int .u8 (.ofNat 0)), (.int .u8 (.ofNat 0)), (.int .u8 (.ofNat 0)), (.int .u8 (.ofNat 0)), (.int .u8 (.ofNat 0)), (.int .i64 (.ofNat 0))] []))⟩, ⟨(some p11), none, (.e (.box (.r p10)))⟩, ⟨(some p6), none, (.e (.mv (.r p11)))⟩, ⟨(some p7), none, (.e (.mv (.c (.bool true))))⟩]) (.seq (.seq (.reg [⟨(some p12), none, (.e (.mv (.r p0)))⟩, ⟨(some p13), none, (.e (.lenL (.r p12)))⟩, ⟨(some p14), none, (.e (.mv (.c (.int .i64 (.ofNat 0)))))⟩]) (.block 0 C59_2)) C59_1)))
theorem I59_1 (E : Env) : Is E C59_1 (retK3 R59) (fun σ h => J59_1 E (σ p6) h) :=
  fun σ h => by kernel_rfl
noncomputable abbrev K59_4 (E : Env) : KT2 (DV × H) := (thenK3 (fun σ h => J59_1 E (σ p6) h) (retK3 R59))
noncomputable abbrev K59_5 (E : Env) (n2 : Nat) : KT2 (DV × H) := (thenK3 (fun σ h => (L59_2 E (σ p1) (σ p6) (σ p12) (σ p13) n2) (σ p7) (σ p14) h) (blockK3 0 (K59_4 E)))
theorem I59_3 (E : Env) (n2 : Nat) : Is E C59_3 (K59_5 E n2) (fun σ h => J59_3 E (L59_2 E (σ p1) (σ p6) (σ p12) (σ p13) n2) (σ p7) (σ p14) h) :=
  fun σ h => by kernel_rfl
theorem I59_2 (E : Env) : Is E C59_2 (blockK3 0 (K59_4 E)) (fun σ h => L59_2 E (σ p1) (σ p6) (σ p12) (σ p13) FUEL (σ p7) (σ p14) h) :=
  Is.loop (fun n2 σ h => L59_2 E (σ p1) (σ p6) (σ p12) (σ p13) n2 (σ p7) (σ p14) h) (by kernel_rfl) fun n2 => Is.as (Is.seq (Is.seq (Is.seq (I59_3 E n2) (Is.leaf _)) (Is.leaf _)) (Is.leaf _)) fun σ h => by kernel_rfl
theorem I59_0 (E : Env) : Is E C59_0 (retK3 R59) (fun σ h => J59_0 E (σ p0) (σ p1) h) :=
  Is.as (Is.seq (Is.seq (Is.seq (I59_1 E) (Is.seq (Is.block (I59_2 E)) (Is.leaf _))) (Is.leaf _)) (Is.leaf _)) fun σ h => by kernel_rfl
def D59 : DF := ⟨2, 29, C59_0, R59⟩
noncomputable def S59 (E : Env) : Fun := fun args h => aS args fun r0 args => aS args fun r1 args => a0 args (J59_0 E r0 r1 h)
theorem S59_eq (E : Env) (args : List DV) (h : H) : runFn E D59 args h = S59 E args h :=
  Is.fn2 (d := D59) (I59_0 E) rfl (fun r0 r1 h => J59_0 E r0 r1 h) (fun r0 r1 h => by kernel_rfl) args h
/- hurdle/servers.New -/
def R60 : List RV := [(.r p4)]
noncomputable def J60_1 (E : Env) (r5 : DV) (h : H) : Ans :=
  some (r5, h)
def C60_1 : DC := (.seq (.reg [⟨(some p38), none, (.e (.mv (.r p5)))⟩, ⟨(some p4), none, (.e (.mv (.r p38)))⟩]) .ret)
noncomputable def B60_2 (E : Env) (r1 r5 r13 : DV) (i2 : DV → H → Ans) (r14 : DV) (h : H) : Ans :=
  vK (v_lss r14 r13) fun x1 =>
  bK x1
  (vK (v_mx r1 (.int .i64 (.ofNat 9))) fun x2 =>
  wK (callK E 96 [x2] h) fun x3 h4 =>
  wK (callK E 97 [x3] h4) fun x5 h6 =>
  vK (v_ext 0 x5) fun x7 =>
  vK (v_ext 1 x5) fun x8 =>
  vK (v_nilchk r5) fun x9 =>
  vK (v_fa 0 x9) fun x10 =>
  vK (v_ld h6.get x10) fun x11 =>
  vK (v_bld [.nilp, .nilp, (.bool false), (.bool false)] [(0, 1, x3), (1, 1, x7)]) fun x12 =>
  n_box x12 h6 fun x13 h14 =>
  n_bsl 1 1 [.nilp] [(0, 1, x13)] h14 fun x15 h16 =>
  wK (dAppendF 1 8 x11 x15 h16) fun x17 h18 =>
  vK (v_nilchk r5) fun x19 =>
  vK (v_fa 0 x19) fun x20 =>
  wK (dStF 1 x20 x17 h18) fun x21 h22 =>
  vK (v_add r14 (.int .i64 (.ofNat 1))) fun x23 =>
  i2 x23 h22)
  (J60_1 E r5 h)
noncomputable def L60_2 (E : Env) (r1 r5 r13 : DV) (n : Nat) : DV → H → Ans := Nat.rec (motive := fun _ => DV → H → Ans) (fun _ _ => none) (fun _ i => B60_2 E r1 r5 r13 i) n
def C60_2 : DC := (.loop (.seq (.reg [⟨(some p15), none, (.e (.bin .lss (.r p14) (.r p13)))⟩]) (.seq (.cond (.r p15) .skip (.exit 0)) (.seq (.block 1 (.seq (.reg [⟨(some p16), none, (.e (.mv (.r p1)))⟩, ⟨(some p17), none, (.e (.mx (.r p16) (.c (.int .i64 (.ofNat 9)))))⟩, ⟨(some p18), none, (.c (.f 96 [(.r p17)]))⟩, ⟨(some p6), none, (.e (.mv (.r p18)))⟩]) (.seq (.reg [⟨(some p20), none, (.e (.mv (.r p6)))⟩, ⟨(some p21), none, (.c (.f 97 [(.r p20)]))⟩, ⟨(some p19), none, (.e (.mv (.r p21)))⟩, ⟨(some p22), none, (.e (.ext 0 (.r p19)))⟩, ⟨(some p23), none, (.e (.ext 1 (.r p19)))⟩, ⟨(some p7), none, (.e (.mv (.r p22)))⟩, ⟨(some p8), none, (.e (.mv (.r p23)))⟩]) (.reg [⟨(some p24), none, (.e (.mv (.r p5)))⟩, ⟨(some p25), none, (.e (.mv (.r p5)))⟩, ⟨(some p26), none, (.e (.nilchk (.r p25)))⟩, ⟨(some p27), none, (.e (.fa 0 (.r p26)))⟩, ⟨(some p28), none, (.e (.ld (.r p27)))⟩, ⟨(some p29), none, (.e (.mv (.r p6)))⟩, ⟨(some p30), none, (.e (.mv (.r p7)))⟩, ⟨(some p31), none, (.e (.bld [.nilp, .nilp, (.bool false), (.bool false)] [(0, 1, (.r p29)), (1, 1, (.r p30))]))⟩, ⟨(some p32), none, (.e (.box (.r p31)))⟩, ⟨(some p33), none, (.e (.bsl 1 1 [.nilp] [(0, 1, (.r p32))]))⟩, ⟨(some p34), none, (.w (.app 1 8 (.r p28) (.r p33)))⟩, ⟨(some p35), none, (.e (.nilchk (.r p24)))⟩, ⟨(some p36), none, (.e (.fa 0 (.r p35)))⟩, ⟨none, none, (.w (.st 1 (.r p36) (.r p34)))⟩])))) (.reg [⟨(some p37), none, (.e (.bin .add (.r p14) (.c (.int .i64 (.ofNat 1)))))⟩, ⟨(some p14), none, (.e (.mv (.r p37)))⟩])))))
noncomputable def J60_0 (E : Env) (r0 r1 : DV) (h : H) : Ans :=
  vK (v_bld [.nils] []) fun x1 =>
  n_box x1 h fun x2 h3 =>
  vK (v_mx r0 (.int .i64 (.ofNat 1))) fun x4 =>
  vK (v_mn x4 (.int .i64 (.ofNat 8))) fun x5 =>
  L60_2 E r1 x2 x5 FUEL (.int .i64 (.ofNat 0)) h3
def C60_0 : DC := (.seq (.reg [⟨(some p4), none, (.e (.mv (.c .nilp)))⟩]) (.seq (.reg [⟨(some p9), none, (.e (.bld [.nils] []))⟩, ⟨(some p10), none, (.e (.box (.r p9)))⟩, ⟨(some p5), none, (.e (.mv (.r p10)))⟩]) (.seq (.seq (.reg [⟨(some p11), none, (.e (.mv (.r p0)))⟩, ⟨(some p12), none, (.e (.mx (.r p11) (.c (.int .i64 (.ofNat 1)))))⟩, ⟨(some p13), none, (.e (.mn (.r p12) (.c (.int .i64 (.ofNat 8)))))⟩, ⟨(some p14), none, (.e (.mv (.c (.int .i64 (.ofNat 0)))))⟩]) (.block 0 C60_2)) C60_1)))
theorem I60_1 (E : Env) : Is E C60_1 (retK3 R60) (fun σ h => J60_1 E (σ p5) h) :=
  fun σ h => by kernel_rfl
noncomputable abbrev K60_3 (E : Env) : KT2 (DV × H) := (thenK3 (fun σ h => J60_1 E (σ p5) h) (retK3 R60))
theorem I60_2 (E : Env) : Is E C60_2 (blockK3 0 (K60_3 E)) (fun σ h => L60_2 E (σ p1) (σ p5) (σ p13) FUEL (σ p14) h) :=
  Is.loop (fun n2 σ h => L60_2 E (σ p1) (σ p5) (σ p13) n2 (σ p14) h) (by kernel_rfl) fun n2 => Is.as (Is.leaf _) fun σ h => by kernel_rfl
theorem I60_0 (E : Env) : Is E C60_0 (retK3 R60) (fun σ h => J60_0 E (σ p0) (σ p1) h) :=
  Is.as (Is.seq (Is.seq (Is.seq (I60_1 E) (Is.seq (Is.block (I60_2 E)) (Is.leaf _))) (Is.leaf _)) (Is.leaf _)) fun σ h => by kernel_rfl
def D60 : DF := ⟨2, 39, C60_0, R60⟩
noncomputable def S60 (E : Env) : Fun := fun args h => aS args fun r0 args => aS args fun r1 args => a0 args (J60_0 E r0 r1 h)
theorem S60_eq (E : Env) (args : List DV) (h : H) : runFn E D60 args h = S60 E args h :=
  Is.fn2 (d := D60) (I60_0 E) rfl (fun r0 r1 h => J60_0 E r0 r1 h) (fun r0 r1 h => by kernel_rfl) args h
/- hurdle/manager.New -/
def R61 : List RV := [(.r p4)]
noncomputable def J61_0 (E : Env) (r0 r1 : DV) (h : H) : Ans :=
  wK (callK E 98 [r0, r1] h) fun x1 h2 =>
  vK (v_eqv .ptr false h2.get x1 .nilp) fun x3 =>
  bK x3
  (some (.nilp, h2))
  (wK (callK E 99 [] h2) fun x4 h5 =>
  wK (callK E 100 [] h5) fun x6 h7 =>
  wK (callK E 101 [] h7) fun x8 h9 =>
  wK (callK E 102 [] h9) fun x10 h11 =>
  wK (callK E 103 [(.int .i64 (.ofNat 4))] h11) fun x12 h13 =>
  vK (v_bld [.nilp, .nilp, .nilp, .nilp, .nilp, .nilp, (.int .i64 (.ofNat 0))] [(0, 1, x1), (1, 1, x4), (2, 1, x6), (3, 1, x8), (4, 1, x10), (5, 1, x12)]) fun x14 =>
  n_box x14 h13 fun x15 h16 =>
  some (x15, h16))
def C61_0 : DC := (.seq (.reg [⟨(some p4), none, (.e (.mv (.c .nilp)))⟩]) (.seq (.reg [⟨(some p6), none, (.e (.mv (.r p0)))⟩, ⟨(some p7), none, (.e (.mv (.r p1)))⟩, ⟨(some p8), none, (.c (.f 98 [(.r p6), (.r p7)]))⟩, ⟨(some p5), none, (.e (.mv (.r p8)))⟩]) (.seq (.seq (.reg [⟨(some p9), none, (.e (.mv (.r p5)))⟩, ⟨(some p10), none, (.e (.eqv .ptr false (.r p9) (.c .nilp)))⟩]) (.cond (.r p10) (.seq (.reg [⟨(some p4), none, (.e (.mv (.c .nilp)))⟩]) .ret) .skip)) (.seq (.reg [⟨(some p11), none, (.e (.mv (.r p5)))⟩, ⟨(some p12), none, (.c (.f 99 []))⟩, ⟨(some p13), none, (.c (.f 100 []))⟩, ⟨(some p14), none, (.c (.f 101 []))⟩, ⟨(some p15), none, (.c (.f 102 []))⟩, ⟨(some p16), none, (.c (.f 103 [(.c (.int .i64 (.ofNat 4)))]))⟩, ⟨(some p17), none, (.e (.bld [.nilp, .nilp, .nilp, .nilp, .nilp, .nilp, (.int .i64 (.ofNat 0))] [(0, 1, (.r p11)), (1, 1, (.r p12)), (2, 1, (.r p13)), (3, 1, (.r p14)), (4, 1, (.r p15)), (5, 1, (.r p16))]))⟩, ⟨(some p18), none, (.e (.box (.r p17)))⟩, ⟨(some p4), none, (.e (.mv (.r p18)))⟩]) .ret))))
theorem I61_0 (E : Env) : Is E C61_0 (retK3 R61) (fun σ h => J61_0 E (σ p0) (σ p1) h) :=
  fun σ h => by kernel_rfl
def D61 : DF := ⟨2, 19, C61_0, R61⟩
noncomputable def S61 (E : Env) : Fun := fun args h => aS args fun r0 args => aS args fun r1 args => a0 args (J61_0 E r0 r1 h)
theorem S61_eq (E : Env) (args : List DV) (h : H) : runFn E D61 args h = S61 E args h :=
  Is.fn2 (d := D61) (I61_0 E) rfl (fun r0 r1 h => J61_0 E r0 r1 h) (fun r0 r1 h => by kernel_rfl) args h
/- hurdle/array.row -/
def R62 : List RV := [(.r p4)]
noncomputable def J62_1 (E : Env) (r5 : DV) (h : H) : Ans :=
  some (r5, h)
def C62_1 : DC := (.seq (.reg [⟨(some p21), none, (.e (.mv (.r p5)))⟩, ⟨(some p4), none, (.e (.mv (.r p21)))⟩]) .ret)
noncomputable def B62_2 (E : Env) (r0 r5 r10 : DV) (i2 : DV → H → Ans) (r11 : DV) (h : H) : Ans :=
  vK (v_lss r11 r10) fun x1 =>
  bK x1
  (vK (v_add r0 r11) fun x2 =>
  vK (v_iaS 1 r5 r11) fun x3 =>
  wK (dStF 1 x3 x2 h) fun x4 h5 =>
  vK (v_add r11 (.int .i64 (.ofNat 1))) fun x6 =>
  i2 x6 h5)
  (J62_1 E r5 h)
noncomputable def L62_2 (E : Env) (r0 r5 r10 : DV) (n : Nat) : DV → H → Ans := Nat.rec (motive := fun _ => DV → H → Ans) (fun _ _ => none) (fun _ i => B62_2 E r0 r5 r10 i) n
def C62_2 : DC := (.loop (.seq (.reg [⟨(some p12), none, (.e (.bin .lss (.r p11) (.r p10)))⟩]) (.seq (.cond (.r p12) .skip (.exit 0)) (.seq (.block 1 (.seq (.reg [⟨(some p13), none, (.e (.mv (.r p11)))⟩, ⟨(some p6), none, (.e (.mv (.r p13)))⟩]) (.reg [⟨(some p14), none, (.e (.mv (.r p5)))⟩, ⟨(some p15), none, (.e (.mv (.r p6)))⟩, ⟨(some p16), none, (.e (.mv (.r p0)))⟩, ⟨(some p17), none, (.e (.mv (.r p6)))⟩, ⟨(some p18), none, (.e (.bin .add (.r p16) (.r p17)))⟩, ⟨(some p19), none, (.e (.iaS 1 (.r p14) (.r p15)))⟩, ⟨none, none, (.w (.st 1 (.r p19) (.r p18)))⟩]))) (.reg [⟨(some p20), none, (.e (.bin .add (.r p11) (.c (.int .i64 (.ofNat 1)))))⟩, ⟨(some p11), none, (.e (.mv (.r p20)))⟩])))))
noncomputable def J62_0 (E : Env) (r0 r1 : DV) (h : H) : Ans :=
  n_mks 1 8 (.int .i64 (.ofNat 0)) r1 r1 h fun x1 h2 =>
  vK (v_lenL x1) fun x3 =>
  L62_2 E r0 x1 x3 FUEL (.int .i64 (.ofNat 0)) h2
def C62_0 : DC := (.seq (.reg [⟨(some p4), none, (.e (.mv (.c .nils)))⟩]) (.seq (.reg [⟨(some p7), none, (.e (.mv (.r p1)))⟩, ⟨(some p8), none, (.e (.mks 1 8 (.int .i64 (.ofNat 0)) (.r p7) (.r p7)))⟩, ⟨(some p5), none, (.e (.mv (.r p8)))⟩]) (.seq (.seq (.reg [⟨(some p9), none, (.e (.mv (.r p5)))⟩, ⟨(some p10), none, (.e (.lenL (.r p9)))⟩, ⟨(some p11), none, (.e (.mv (.c (.int .i64 (.ofNat 0)))))⟩]) (.block 0 C62_2)) C62_1)))
theorem I62_1 (E : Env) : Is E C62_1 (retK3 R62) (fun σ h => J62_1 E (σ p5) h) :=
  fun σ h => by kernel_rfl
noncomputable abbrev K62_3 (E : Env) : KT2 (DV × H) := (thenK3 (fun σ h => J62_1 E (σ p5) h) (retK3 R62))
theorem I62_2 (E : Env) : Is E C62_2 (blockK3 0 (K62_3 E)) (fun σ h => L62_2 E (σ p0) (σ p5) (σ p10) FUEL (σ p11) h) :=
  Is.loop (fun n2 σ h => L62_2 E (σ p0) (σ p5) (σ p10) n2 (σ p11) h) (by kernel_rfl) fun n2 => Is.as (Is.leaf _) fun σ h => by kernel_rfl
theorem I62_0 (E : Env) : Is E C62_0 (retK3 R62) (fun σ h => J62_0 E (σ p0) (σ p1) h) :=
  Is.as (Is.seq (Is.seq (Is.seq (I62_1 E) (Is.seq (Is.block (I62_2 E)) (Is.leaf _))) (Is.leaf _)) (Is.leaf _)) fun σ h => by kernel_rfl
def D62 : DF := ⟨2, 22, C62_0, R62⟩
noncomputable def S62 (E : Env) : Fun := fun args h => aS args fun r0 args => aS args fun r1 args => a0 args (J62_0 E r0 r1 h)
theorem S62_eq (E : Env) (args : List DV) (h : H) : runFn E D62 args h = S62 E args h :=
  Is.fn2 (d := D62) (I62_0 E) rfl (fun r0 r1 h => J62_0 E r0 r1 h) (fun r0 r1 h => by kernel_rfl) args h
/- (*hurdle/servers.Servers).at -/
def R63 : List RV := [(.r p4)]
noncomputable def J63_0 (E : Env) (r0 r1 : DV) (h : H) : Ans :=
  vK (v_eqv .ptr false h.get r0 .nilp) fun x1 =>
  gdK x1 false (fun kk => kk r1 h) h fun x2 h3 =>
  gdK x1 false (fun kk => vK (v_lss x2 (.int .i64 (.ofNat 0))) fun v => kk v h3) h3 fun x4 h5 =>
  vK (v_pick x1 (.bool true) x4) fun x6 =>
  gdK x6 false (fun kk => kk r1 h5) h5 fun x7 h8 =>
  gdK x6 false (fun kk => kk r0 h8) h8 fun x9 h10 =>
  gdK x6 false (fun kk => vK (v_nilchk x9) fun v => kk v h10) h10 fun x11 h12 =>
  gdK x6 false (fun kk => vK (v_fa 0 x11) fun v => kk v h12) h12 fun x13 h14 =>
  gdK x6 false (fun kk => vK (v_ld h14.get x13) fun v => kk v h14) h14 fun x15 h16 =>
  gdK x6 false (fun kk => vK (v_lenL x15) fun v => kk v h16) h16 fun x17 h18 =>
  gdK x6 false (fun kk => vK (v_geq x7 x17) fun v => kk v h18) h18 fun x19 h20 =>
  vK (v_pick x6 (.bool true) x19) fun x21 =>
  bK x21
  (some (.nilp, h20))
  (vK (v_nilchk r0) fun x22 =>
  vK (v_fa 0 x22) fun x23 =>
  vK (v_ld h20.get x23) fun x24 =>
  vK (v_iaS 1 x24 r1) fun x25 =>
  vK (v_ld h20.get x25) fun x26 =>
  some (x26, h20))
def C63_0 : DC := (.seq (.reg [⟨(some p4), none, (.e (.mv (.c .nilp)))⟩]) (.seq (.seq (.reg [⟨(some p5), none, (.e (.mv (.r p0)))⟩, ⟨(some p6), none, (.e (.eqv .ptr false (.r p5) (.c .nilp)))⟩, ⟨(some p7), none, (.e (.mv (.r p6)))⟩, ⟨(some p8), (some (p7, false)), (.e (.mv (.r p1)))⟩, ⟨(some p9), (some (p7, false)), (.e (.bin .lss (.r p8) (.c (.int .i64 (.ofNat 0)))))⟩, ⟨(some p10), none, (.e (.pick (.r p7) (.c (.bool true)) (.r p9)))⟩, ⟨(some p11), none, (.e (.mv (.r p10)))⟩, ⟨(some p12), (some (p11, false)), (.e (.mv (.r p1)))⟩, ⟨(some p13), (some (p11, false)), (.e (.mv (.r p0)))⟩, ⟨(some p14), (some (p11, false)), (.e (.nilchk (.r p13)))⟩, ⟨(some p15), (some (p11, false)), (.e (.fa 0 (.r p14)))⟩, ⟨(some p16), (some (p11, false)), (.e (.ld (.r p15)))⟩, ⟨(some p17), (some (p11, false)), (.e (.lenL (.r p16)))⟩, ⟨(some p18), (some (p11, false)), (.e (.bin .geq (.r p12) (.r p17)))⟩, ⟨(some p19), none, (.e (.pick (.r p11) (.c (.bool true)) (.r p18)))⟩]) (.cond (.r p19) (.seq (.reg [⟨(some p4), none, (.e (.mv (.c .nilp)))⟩]) .ret) .skip)) (.seq (.reg [⟨(some p20), none, (.e (.mv (.r p0)))⟩, ⟨(some p21), none, (.e (.nilchk (.r p20)))⟩, ⟨(some p22), none, (.e (.fa 0 (.r p21)))⟩, ⟨(some p23), none, (.e (.ld (.r p22)))⟩, ⟨(some p24), none, (.e (.mv (.r p1)))⟩, ⟨(some p25), none, (.e (.iaS 1 (.r p23) (.r p24)))⟩, ⟨(some p26), none, (.e (.ld (.r p25)))⟩, ⟨(some p4), none, (.e (.mv (.r p26)))⟩]) .ret)))
theorem I63_0 (E : Env) : Is E C63_0 (retK3 R63) (fun σ h => J63_0 E (σ p0) (σ p1) h) :=
  fun σ h => by kernel_rfl
def D63 : DF := ⟨2, 27, C63_0, R63⟩
noncomputable def S63 (E : Env) : Fun := fun args h => aS args fun r0 args => aS args fun r1 args => a0 args (J63_0 E r0 r1 h)
theorem S63_eq (E : Env) (args : List DV) (h : H) : runFn E D63 args h = S63 E args h :=
  Is.fn2 (d := D63) (I63_0 E) rfl (fun r0 r1 h => J63_0 E r0 r1 h) (fun r0 r1 h => by kernel_rfl) args h
/- slices.Contains[[]int,int] -/
def R66 : List RV := [(.r p4)]
noncomputable def J66_0 (E : Env) (r0 r1 : DV) (h : H) : Ans :=
  wK (callK E 106 [r0, r1] h) fun x1 h2 =>
  vK (v_geq x1 (.int .i64 (.ofNat 0))) fun x3 =>
  some (x3, h2)
def C66_0 : DC := (.seq (.reg [⟨(some p4), none, (.e (.mv (.c (.bool false))))⟩]) (.seq (.reg [⟨(some p5), none, (.e (.mv (.r p0)))⟩, ⟨(some p6), none, (.e (.mv (.r p1)))⟩, ⟨(some p7), none, (.c (.f 106 [(.r p5), (.r p6)]))⟩, ⟨(some p8), none, (.e (.bin .geq (.r p7) (.c (.int .i64 (.ofNat 0)))))⟩, ⟨(some p4), none, (.e (.mv (.r p8)))⟩]) .ret))
theorem I66_0 (E : Env) : Is E C66_0 (retK3 R66) (fun σ h => J66_0 E (σ p0) (σ p1) h) :=
  fun σ h => by kernel_rfl
def D66 : DF := ⟨2, 9, C66_0, R66⟩
noncomputable def S66 (E : Env) : Fun := fun args h => aS args fun r0 args => aS args fun r1 args => a0 args (J66_0 E r0 r1 h)
theorem S66_eq (E : Env) (args : List DV) (h : H) : runFn E D66 args h = S66 E args h :=
  Is.fn2 (d := D66) (I66_0 E) rfl (fun r0 r1 h => J66_0 E r0 r1 h) (fun r0 r1 h => by kernel_rfl) args h
/- hurdle/codec.NewWriter -/
def R68 : List RV := [(.r p2)]
noncomputable def J68_0 (E : Env) (r0 : DV) (h : H) : Ans :=
  vK (v_mx r0 (.int .i64 (.ofNat 0))) fun x1 =>
  vK (v_mn x1 (.int .i64 (.ofNat 65536))) fun x2 =>
  vK (v_bld [(.int .i64 (.ofNat 0)), .nils, (.int .i64 (.ofNat 0))] [(0, 1, x2)]) fun x3 =>
  n_box x3 h fun x4 h5 =>
  some (x4, h5)
def C68_0 : DC := (.seq (.reg [⟨(some p2), none, (.e (.mv (.c .nilp)))⟩]) (.seq (.reg [⟨(some p3), none, (.e (.mv (.r p0)))⟩, ⟨(some p4), none, (.e (.mx (.r p3) (.c (.int .i64 (.ofNat 0)))))⟩, ⟨(some p5), none, (.e (.mn (.r p4) (.c (.int .i64 (.ofNat 65536)))))⟩, ⟨(some p6), none, (.e (.bld [(.int .i64 (.ofNat 0)), .nils, (.int .i64 (.ofNat 0))] [(0, 1, (.r p5))]))⟩, ⟨(some p7), none, (.e (.box (.r p6)))⟩, ⟨(some p2), none, (.e (.mv (.r p7)))⟩]) .ret))
theorem I68_0 (E : Env) : Is E C68_0 (retK3 R68) (fun σ h => J68_0 E (σ p0) h) :=
  fun σ h => by kernel_rfl
def D68 : DF := ⟨1, 8, C68_0, R68⟩
noncomputable def S68 (E : Env) : Fun := fun args h => aS args fun r0 args => a0 args (J68_0 E r0 h)
theorem S68_eq (E : Env) (args : List DV) (h : H) : runFn E D68 args h = S68 E args h :=
  Is.fn1 (d := D68) (I68_0 E) rfl (fun r0 h => J68_0 E r0 h) (fun r0 h => by kernel_rfl) args h
/- hurdle/manager.ints -/
def R69 : List RV := [(.r p2)]
noncomputable def J69_0 (E : Env) (r0 : DV) (h : H) : Ans :=
  vK (v_nilchk r0) fun x1 =>
  vK (v_fa 0 x1) fun x2 =>
  vK (v_nilchk r0) fun x3 =>
  vK (v_fa 1 x3) fun x4 =>
  vK (v_nilchk r0) fun x5 =>
  vK (v_fa 2 x5) fun x6 =>
  vK (v_nilchk r0) fun x7 =>
  vK (v_fa 3 x7) fun x8 =>
  vK (v_nilchk r0) fun x9 =>
  vK (v_fa 4 x9) fun x10 =>
  vK (v_nilchk r0) fun x11 =>
  vK (v_fa 5 x11) fun x12 =>
  vK (v_nilchk r0) fun x13 =>
  vK (v_fa 6 x13) fun x14 =>
  vK (v_nilchk r0) fun x15 =>
  vK (v_fa 7 x15) fun x16 =>
  n_bsl 8 1 [.nilp] [(0, 1, x2), (1, 1, x4), (2, 1, x6), (3, 1, x8), (4, 1, x10), (5, 1, x12), (6, 1, x14), (7, 1, x16)] h fun x17 h18 =>
  some (x17, h18)
def C69_0 : DC := (.seq (.reg [⟨(some p2), none, (.e (.mv (.c .nils)))⟩]) (.seq (.drg [⟨0, ⟨(some p3), none, (.e (.mv (.r p0)))⟩, [], false⟩, ⟨1, ⟨(some p4), none, (.e (.nilchk (.r p3)))⟩, [], false⟩, ⟨2, ⟨(some p5), none, (.e (.fa 0 (.r p4)))⟩, [], false⟩, ⟨3, ⟨(some p6), none, (.e (.mv (.r p0)))⟩, [], false⟩, ⟨4, ⟨(some p7), none, (.e (.nilchk (.r p6)))⟩, [], false⟩, ⟨5, ⟨(some p8), none, (.e (.fa 1 (.r p7)))⟩, [], false⟩, ⟨6, ⟨(some p9), none, (.e (.mv (.r p0)))⟩, [], false⟩, ⟨7, ⟨(some p10), none, (.e (.nilchk (.r p9)))⟩, [], false⟩, ⟨8, ⟨(some p11), none, (.e (.fa 2 (.r p10)))⟩, [], false⟩, ⟨9, ⟨(some p12), none, (.e (.mv (.r p0)))⟩, [], false⟩, ⟨10, ⟨(some p13), none, (.e (.nilchk (.r p12)))⟩, [], false⟩, ⟨11, ⟨(some p14), none, (.e (.fa 3 (.r p13)))⟩, [], false⟩, ⟨12, ⟨(some p15), none, (.e (.mv (.r p0)))⟩, [], false⟩, ⟨13, ⟨(some p16), none, (.e (.nilchk (.r p15)))⟩, [], false⟩, ⟨14, ⟨(some p17), none, (.e (.fa 4 (.r p16)))⟩, [], false⟩, ⟨15, ⟨(some p18), none, (.e (.mv (.r p0)))⟩, [], false⟩, ⟨16, ⟨(some p19), none, (.e (.nilchk (.r p18)))⟩, [], false⟩, ⟨17, ⟨(some p20), none, (.e (.fa 5 (.r p19)))⟩, [], false⟩, ⟨18, ⟨(some p21), none, (.e (.mv (.r p0)))⟩, [], false⟩, ⟨19, ⟨(some p22), none, (.e (.nilchk (.r p21)))⟩, [], false⟩, ⟨20, ⟨(some p23), none, (.e (.fa 6 (.r p22)))⟩, [], false⟩, ⟨21, ⟨(some p24), none, (.e (.mv (.r p0)))⟩, [], false⟩, ⟨22, ⟨(some p25), none, (.e (.nilchk (.r p24)))⟩, [], false⟩, ⟨23, ⟨(some p26), none, (.e (.fa 7 (.r p25)))⟩, [], false⟩, ⟨24, ⟨(some p27), none, (.e (.bsl 8 1 [.nilp] [(0, 1, (.r p5)), (1, 1, (.r p8)), (2, 1, (.r p11)), (3, 1, (.r p14)), (4, 1, (.r p17)), (5, 1, (.r p20)), (6, 1, (.r p23)), (7, 1, (.r p26))]))⟩, [], false⟩, ⟨25, ⟨(some p2), none, (.e (.mv (.r p27)))⟩, [], false⟩]) .ret))
theorem I69_0 (E : Env) : Is E C69_0 (retK3 R69) (fun σ h => J69_0 E (σ p0) h) :=
  fun σ h => by kernel_rfl
def D69 : DF := ⟨1, 28, C69_0, R69⟩
noncomputable def S69 (E : Env) : Fun := fun args h => aS args fun r0 args => a0 args (J69_0 E r0 h)
theorem S69_eq (E : Env) (args : List DV) (h : H) : runFn E D69 args h = S69 E args h :=
  Is.fn1 (d := D69) (I69_0 E) rfl (fun r0 h => J69_0 E r0 h) (fun r0 h => by kernel_rfl) args h
/- (*hurdle/codec.Writer).Int -/
def R70 : List RV := []
noncomputable def J70_0 (E : Env) (r0 r1 : DV) (h : H) : Ans :=
  n_box r1 h fun x1 h2 =>
  wK (callK E 109 [r0, (.fn (.func 110) [] [x1])] h2) fun x3 h4 =>
  some ((.tup []), h4)
def C70_0 : DC := (.seq (.reg [⟨(some p3), none, (.e (.box (.r p1)))⟩]) (.reg [⟨(some p4), none, (.e (.mv (.r p0)))⟩, ⟨(some p5), none, (.e (.mkF (.func 110) [] [(.r p3)]))⟩, ⟨(some p6), none, (.c (.f 109 [(.r p4), (.r p5)]))⟩]))
theorem I70_0 (E : Env) : Is E C70_0 (retK3 R70) (fun σ h => J70_0 E (σ p0) (σ p1) h) :=
  fun σ h => by kernel_rfl
def D70 : DF := ⟨2, 7, C70_0, R70⟩
noncomputable def S70 (E : Env) : Fun := fun args h => aS args fun r0 args => aS args fun r1 args => a0 args (J70_0 E r0 r1 h)
theorem S70_eq (E : Env) (args : List DV) (h : H) : runFn E D70 args h = S70 E args h :=
  Is.fn2 (d := D70) (I70_0 E) rfl (fun r0 r1 h => J70_0 E r0 r1 h) (fun r0 r1 h => by kernel_rfl) args h
/- (*hurdle/codec.Writer).Done -/
def R71 : List RV := [(.r p2), (.r p3)]
noncomputable def J71_0 (E : Env) (r0 : DV) (h : H) : Ans :=
  vK (v_eqv .ptr false h.get r0 .nilp) fun x1 =>
  bK x1
  (some ((.tup [(.str []), (.int .i64 (.ofNat 1))]), h))
  (vK (v_nilchk r0) fun x2 =>
  vK (v_fa 2 x2) fun x3 =>
  vK (v_ld h.get x3) fun x4 =>
  vK (v_neq x4 (.int .i64 (.ofNat 0))) fun x5 =>
  bK x5
  (vK (v_nilchk r0) fun x6 =>
  vK (v_fa 2 x6) fun x7 =>
  vK (v_ld h.get x7) fun x8 =>
  some ((.tup [(.str []), x8]), h))
  (vK (v_nilchk r0) fun x9 =>
  vK (v_fa 1 x9) fun x10 =>
  vK (v_ld h.get x10) fun x11 =>
  vK (v_b2s h.get x11) fun x12 =>
  some ((.tup [x12, (.int .i64 (.ofNat 0))]), h)))
def C71_0 : DC := (.seq (.reg [⟨(some p2), none, (.e (.mv (.c (.str []))))⟩, ⟨(some p3), none, (.e (.mv (.c (.int .i64 (.ofNat 0)))))⟩]) (.seq (.block 0 (.seq (.reg [⟨(some p5), none, (.e (.mv (.r p0)))⟩, ⟨(some p6), none, (.e (.eqv .ptr false (.r p5) (.c .nilp)))⟩, ⟨(some p4), none, (.e (.mv (.r p6)))⟩]) (.cond (.r p4) (.seq (.reg [⟨(some p2), none, (.e (.mv (.c (.str []))))⟩, ⟨(some p3), none, (.e (.mv (.c (.int .i64 (.ofNat 1)))))⟩]) .ret) (.seq (.reg [⟨(some p8), none, (.e (.mv (.r p0)))⟩, ⟨(some p9), none, (.e (.nilchk (.r p8)))⟩, ⟨(some p10), none, (.e (.fa 2 (.r p9)))⟩, ⟨(some p11), none, (.e (.ld (.r p10)))⟩, ⟨(some p12), none, (.e (.bin .neq (.r p11) (.c (.int .i64 (.ofNat 0)))))⟩, ⟨(some p7), none, (.e (.mv (.r p12)))⟩]) (.cond (.r p7) (.seq (.drg [⟨0, ⟨(some p13), none, (.e (.mv (.r p0)))⟩, [], false⟩, ⟨1, ⟨(some p14), none, (.e (.nilchk (.r p13)))⟩, [], false⟩, ⟨2, ⟨(some p15), none, (.e (.fa 2 (.r p14)))⟩, [], false⟩, ⟨3, ⟨(some p16), none, (.e (.ld (.r p15)))⟩, [], false⟩, ⟨4, ⟨(some p2), none, (.e (.mv (.c (.str []))))⟩, [], false⟩, ⟨5, ⟨(some p3), none, (.e (.mv (.r p16)))⟩, [], false⟩]) .ret) .skip))))) (.seq (.reg [⟨(some p17), none, (.e (.mv (.r p0)))⟩, ⟨(some p18), none, (.e (.nilchk (.r p17)))⟩, ⟨(some p19), none, (.e (.fa 1 (.r p18)))⟩, ⟨(some p20), none, (.e (.ld (.r p19)))⟩, ⟨(some p21), none, (.e (.b2s (.r p20)))⟩, ⟨(some p2), none, (.e (.mv (.r p21)))⟩, ⟨(some p3), none, (.e (.mv (.c (.int .i64 (.ofNat 0)))))⟩]) .ret)))
theorem I71_0 (E : Env) : Is E C71_0 (retK3 R71) (fun σ h => J71_0 E (σ p0) h) :=
  fun σ h => by kernel_rfl
def D71 : DF := ⟨1, 22, C71_0, R71⟩
noncomputable def S71 (E : Env) : Fun := fun args h => aS args fun r0 args => a0 args (J71_0 E r0 h)
theorem S71_eq (E : Env) (args : List DV) (h : H) : runFn E D71 args h = S71 E args h :=
  Is.fn1 (d := D71) (I71_0 E) rfl (fun r0 h => J71_0 E r0 h) (fun r0 h => by kernel_rfl) args h
/- hurdle/codec.NewReader -/
def R72 : List RV := [(.r p2)]
noncomputable def J72_0 (E : Env) (r0 : DV) (h : H) : Ans :=
  vK (v_bld [(.str []), (.bool false)] [(0, 1, r0)]) fun x1 =>
  n_box x1 h fun x2 h3 =>
  some (x2, h3)
def C72_0 : DC := (.seq (.reg [⟨(some p2), none, (.e (.mv (.c .nilp)))⟩]) (.seq (.reg [⟨(some p3), none, (.e (.mv (.r p0)))⟩, ⟨(some p4), none, (.e (.bld [(.str []), (.bool false)] [(0, 1, (.r p3))]))⟩, ⟨(some p5), none, (.e (.box (.r p4)))⟩, ⟨(some p2), none, (.e (.mv (.r p5)))⟩]) .ret))
theorem I72_0 (E : Env) : Is E C72_0 (retK3 R72) (fun σ h => J72_0 E (σ p0) h) :=
  fun σ h => by kernel_rfl
def D72 : DF := ⟨1, 6, C72_0, R72⟩
noncomputable def S72 (E : Env) : Fun := fun args h => aS args fun r0 args => a0 args (J72_0 E r0 h)
theorem S72_eq (E : Env) (args : List DV) (h : H) : runFn E D72 args h = S72 E args h :=
  Is.fn1 (d := D72) (I72_0 E) rfl (fun r0 h => J72_0 E r0 h) (fun r0 h => by kernel_rfl) args h
/- (*hurdle/codec.Reader).Byte -/
def R73 : List RV := [(.r p2)]
noncomputable def J73_0 (E : Env) (r0 : DV) (h : H) : Ans :=
  wK (callK E 112 [r0, (.int .i64 (.ofNat 1))] h) fun x1 h2 =>
  vK (v_ext 0 x1) fun x3 =>
  vK (v_ext 1 x1) fun x4 =>
  bK x4
  (vK (v_ixS x3 (.int .i64 (.ofNat 0))) fun x5 =>
  vK (v_conv .i64 x5) fun x6 =>
  some (x6, h2))
  (some ((.int .i64 (.ofNat 0)), h2))
def C73_0 : DC := (.seq (.reg [⟨(some p2), none, (.e (.mv (.c (.int .i64 (.ofNat 0)))))⟩]) (.seq (.seq (.reg [⟨(some p6), none, (.e (.mv (.r p0)))⟩, ⟨(some p7), none, (.c (.f 112 [(.r p6), (.c (.int .i64 (.ofNat 1)))]))⟩, ⟨(some p5), none, (.e (.mv (.r p7)))⟩, ⟨(some p8), none, (.e (.ext 0 (.r p5)))⟩, ⟨(some p9), none, (.e (.ext 1 (.r p5)))⟩, ⟨(some p3), none, (.e (.mv (.r p8)))⟩, ⟨(some p4), none, (.e (.mv (.r p9)))⟩]) (.seq (.reg [⟨(some p10), none, (.e (.mv (.r p4)))⟩]) (.cond (.r p10) (.seq (.reg [⟨(some p11), none, (.e (.mv (.r p3)))⟩, ⟨(some p12), none, (.e (.ixS (.r p11) (.c (.int .i64 (.ofNat 0)))))⟩, ⟨(some p13), none, (.e (.conv .i64 (.r p12)))⟩, ⟨(some p2), none, (.e (.mv (.r p13)))⟩]) .ret) .skip))) (.seq (.reg [⟨(some p2), none, (.e (.mv (.c (.int .i64 (.ofNat 0)))))⟩]) .ret)))
theorem I73_0 (E : Env) : Is E C73_0 (retK3 R73) (fun σ h => J73_0 E (σ p0) h) :=
  fun σ h => by kernel_rfl
def D73 : DF := ⟨1, 14, C73_0, R73⟩
noncomputable def S73 (E : Env) : Fun := fun args h => aS args fun r0 args => a0 args (J73_0 E r0 h)
theorem S73_eq (E : Env) (args : List DV) (h : H) : runFn E D73 args h = S73 E args h :=
  Is.fn1 (d := D73) (I73_0 E) rfl (fun r0 h => J73_0 E r0 h) (fun r0 h => by kernel_rfl) args h
/- (*hurdle/codec.Reader).Ints -/
def R74 : List RV := [(.r p2)]
noncomputable def J74_0 (E : Env) (r0 : DV) (h : H) : Ans :=
  wK (callK E 114 [r0, (.fn (.func 113) [r0] [])] h) fun x1 h2 =>
  some (x1, h2)
def C74_0 : DC := (.seq (.reg [⟨(some p2), none, (.e (.mv (.c .nils)))⟩]) (.seq (.reg [⟨(some p4), none, (.e (.mv (.r p0)))⟩, ⟨(some p5), none, (.e (.mkF (.func 113) [(.r p4)] []))⟩, ⟨(some p3), none, (.e (.mv (.r p5)))⟩]) (.seq (.reg [⟨(some p6), none, (.e (.mv (.r p0)))⟩, ⟨(some p7), none, (.e (.mv (.r p3)))⟩, ⟨(some p8), none, (.c (.f 114 [(.r p6), (.r p7)]))⟩, ⟨(some p2), none, (.e (.mv (.r p8)))⟩]) .ret)))
theorem I74_0 (E : Env) : Is E C74_0 (retK3 R74) (fun σ h => J74_0 E (σ p0) h) :=
  fun σ h => by kernel_rfl
def D74 : DF := ⟨1, 9, C74_0, R74⟩
noncomputable def S74 (E : Env) : Fun := fun args h => aS args fun r0 args => a0 args (J74_0 E r0 h)
theorem S74_eq (E : Env) (args : List DV) (h : H) : runFn E D74 args h = S74 E args h :=
  Is.fn1 (d := D74) (I74_0 E) rfl (fun r0 h => J74_0 E r0 h) (fun r0 h => by kernel_rfl) args h
/- (*hurdle/codec.Reader).Done -/
def R75 : List RV := [(.r p2)]
noncomputable def J75_0 (E : Env) (r0 : DV) (h : H) : Ans :=
  vK (v_eqv .ptr false h.get r0 .nilp) fun x1 =>
  bK x1
  (some ((.int .i64 (.ofNat 1)), h))
  (vK (v_nilchk r0) fun x2 =>
  vK (v_fa 1 x2) fun x3 =>
  vK (v_ld h.get x3) fun x4 =>
  gdK x4 false (fun kk => kk r0 h) h fun x5 h6 =>
  gdK x4 false (fun kk => vK (v_nilchk x5) fun v => kk v h6) h6 fun x7 h8 =>
  gdK x4 false (fun kk => vK (v_fa 0 x7) fun v => kk v h8) h8 fun x9 h10 =>
  gdK x4 false (fun kk => vK (v_ld h10.get x9) fun v => kk v h10) h10 fun x11 h12 =>
  gdK x4 false (fun kk => vK (v_neq x11 (.str [])) fun v => kk v h12) h12 fun x13 h14 =>
  vK (v_pick x4 (.bool true) x13) fun x15 =>
  bK x15
  (some ((.int .i64 (.ofNat 3)), h14))
  (some ((.int .i64 (.ofNat 0)), h14)))
def C75_0 : DC := (.seq (.reg [⟨(some p2), none, (.e (.mv (.c (.int .i64 (.ofNat 0)))))⟩]) (.seq (.block 0 (.seq (.reg [⟨(some p4), none, (.e (.mv (.r p0)))⟩, ⟨(some p5), none, (.e (.eqv .ptr false (.r p4) (.c .nilp)))⟩, ⟨(some p3), none, (.e (.mv (.r p5)))⟩]) (.cond (.r p3) (.seq (.reg [⟨(some p2), none, (.e (.mv (.c (.int .i64 (.ofNat 1)))))⟩]) .ret) (.seq (.reg [⟨(some p7), none, (.e (.mv (.r p0)))⟩, ⟨(some p8), none, (.e (.nilchk (.r p7)))⟩, ⟨(some p9), none, (.e (.fa 1 (.r p8)))⟩, ⟨(some p10), none, (.e (.ld (.r p9)))⟩, ⟨(some p11), none, (.e (.mv (.r p10)))⟩, ⟨(some p12), (some (p11, false)), (.e (.mv (.r p0)))⟩, ⟨(some p13), (some (p11, false)), (.e (.nilchk (.r p12)))⟩, ⟨(some p14), (some (p11, false)), (.e (.fa 0 (.r p13)))⟩, ⟨(some p15), (some (p11, false)), (.e (.ld (.r p14)))⟩, ⟨(some p16), (some (p11, false)), (.e (.bin .neq (.r p15) (.c (.str []))))⟩, ⟨(some p17), none, (.e (.pick (.r p11) (.c (.bool true)) (.r p16)))⟩, ⟨(some p6), none, (.e (.mv (.r p17)))⟩]) (.cond (.r p6) (.seq (.reg [⟨(some p2), none, (.e (.mv (.c (.int .i64 (.ofNat 3)))))⟩]) .ret) .skip))))) (.seq (.reg [⟨(some p2), none, (.e (.mv (.c (.int .i64 (.ofNat 0)))))⟩]) .ret)))
theorem I75_0 (E : Env) : Is E C75_0 (retK3 R75) (fun σ h => J75_0 E (σ p0) h) :=
  fun σ h => by kernel_rfl
def D75 : DF := ⟨1, 18, C75_0, R75⟩
noncomputable def S75 (E : Env) : Fun := fun args h => aS args fun r0 args => a0 args (J75_0 E r0 h)
theorem S75_eq (E : Env) (args : List DV) (h : H) : runFn E D75 args h = S75 E args h :=
  Is.fn1 (d := D75) (I75_0 E) rfl (fun r0 h => J75_0 E r0 h) (fun r0 h => by kernel_rfl) args h
/- hurdle/manager.answer -/
def R76 : List RV := [(.r p4)]
noncomputable def J76_1 (E : Env) (r0 r1 : DV) (h : H) : Ans :=
  wK (callK E 68 [(.int .i64 (.ofNat 65536))] h) fun x1 h2 =>
  wK (callK E 115 [x1, r1] h2) fun x3 h4 =>
  wK (callK E 116 [x1, r0] h4) fun x5 h6 =>
  wK (callK E 71 [x1] h6) fun x7 h8 =>
  vK (v_ext 0 x7) fun x9 =>
  vK (v_ext 1 x7) fun x10 =>
  some (x9, h8)
def C76_1 : DC := (.seq (.reg [⟨(some p10), none, (.c (.f 68 [(.c (.int .i64 (.ofNat 65536)))]))⟩, ⟨(some p5), none, (.e (.mv (.r p10)))⟩]) (.seq (.reg [⟨(some p11), none, (.e (.mv (.r p5)))⟩, ⟨(some p12), none, (.e (.mv (.r p1)))⟩, ⟨(some p13), none, (.c (.f 115 [(.r p11), (.r p12)]))⟩]) (.seq (.reg [⟨(some p14), none, (.e (.mv (.r p5)))⟩, ⟨(some p15), none, (.e (.mv (.r p0)))⟩, ⟨(some p16), none, (.c (.f 116 [(.r p14), (.r p15)]))⟩]) (.seq (.reg [⟨(some p18), none, (.e (.mv (.r p5)))⟩, ⟨(some p19), none, (.c (.f 71 [(.r p18)]))⟩, ⟨(some p17), none, (.e (.mv (.r p19)))⟩, ⟨(some p20), none, (.e (.ext 0 (.r p17)))⟩, ⟨(some p21), none, (.e (.ext 1 (.r p17)))⟩, ⟨(some p6), none, (.e (.mv (.r p20)))⟩, ⟨(some p7), none, (.e (.mv (.r p21)))⟩]) (.seq (.reg [⟨(some p22), none, (.e (.mv (.r p6)))⟩, ⟨(some p4), none, (.e (.mv (.r p22)))⟩]) .ret)))))
noncomputable def J76_0 (E : Env) (r0 r1 : DV) (h : H) : Ans :=
  vK (v_neq r1 (.int .i64 (.ofNat 0))) fun x1 =>
  bK x1
  (J76_1 E .nils r1 h)
  (J76_1 E r0 r1 h)
def C76_0 : DC := (.seq (.reg [⟨(some p4), none, (.e (.mv (.c (.str []))))⟩]) (.seq (.seq (.reg [⟨(some p8), none, (.e (.mv (.r p1)))⟩, ⟨(some p9), none, (.e (.bin .neq (.r p8) (.c (.int .i64 (.ofNat 0)))))⟩]) (.cond (.r p9) (.reg [⟨(some p0), none, (.e (.mv (.c .nils)))⟩]) .skip)) C76_1))
theorem I76_1 (E : Env) : Is E C76_1 (retK3 R76) (fun σ h => J76_1 E (σ p0) (σ p1) h) :=
  fun σ h => by kernel_rfl
theorem I76_0 (E : Env) : Is E C76_0 (retK3 R76) (fun σ h => J76_0 E (σ p0) (σ p1) h) :=
  Is.as (Is.seq (Is.seq (I76_1 E) (Is.leaf _)) (Is.leaf _)) fun σ h => by kernel_rfl
def D76 : DF := ⟨2, 23, C76_0, R76⟩
noncomputable def S76 (E : Env) : Fun := fun args h => aS args fun r0 args => aS args fun r1 args => a0 args (J76_0 E r0 r1 h)
theorem S76_eq (E : Env) (args : List DV) (h : H) : runFn E D76 args h = S76 E args h :=
  Is.fn2 (d := D76) (I76_0 E) rfl (fun r0 r1 h => J76_0 E r0 r1 h) (fun r0 r1 h => by kernel_rfl) args h
noncomputable def fs0 : List FD := [⟨3, D3, S3⟩, ⟨6, D6, S6⟩, ⟨7, D7, S7⟩, ⟨8, D8, S8⟩, ⟨9, D9, S9⟩, ⟨10, D10, S10⟩, ⟨17, D17, S17⟩, ⟨18, D18, S18⟩, ⟨19, D19, S19⟩, ⟨20, D20, S20⟩, ⟨23, D23, S23⟩, ⟨24, D24, S24⟩, ⟨25, D25, S25⟩, ⟨27, D27, S27⟩, ⟨28, D28, S28⟩, ⟨29, D29, S29⟩, ⟨30, D30, S30⟩, ⟨31, D31, S31⟩, ⟨32, D32, S32⟩, ⟨33, D33, S33⟩, ⟨34, D34, S34⟩, ⟨35, D35, S35⟩, ⟨42, D42, S42⟩, ⟨43, D43, S43⟩, ⟨44, D44, S44⟩, ⟨45, D45, S45⟩, ⟨46, D46, S46⟩, ⟨47, D47, S47⟩, ⟨48, D48, S48⟩, ⟨49, D49, S49⟩, ⟨53, D53, S53⟩, ⟨54, D54, S54⟩, ⟨55, D55, S55⟩, ⟨56, D56, S56⟩, ⟨57, D57, S57⟩, ⟨58, D58, S58⟩, ⟨59, D59, S59⟩, ⟨60, D60, S60⟩, ⟨61, D61, S61⟩, ⟨62, D62, S62⟩, ⟨63, D63, S63⟩, ⟨66, D66, S66⟩, ⟨68, D68, S68⟩, ⟨69, D69, S69⟩, ⟨70, D70, S70⟩, ⟨71, D71, S71⟩, ⟨72, D72, S72⟩, ⟨73, D73, S73⟩, ⟨74, D74, S74⟩, ⟨75, D75, S75⟩, ⟨76, D76, S76⟩]
theorem fs0_eq : AllEq fs0 := ⟨S3_eq, ⟨S6_eq, ⟨S7_eq, ⟨S8_eq, ⟨S9_eq, ⟨S10_eq, ⟨S17_eq, ⟨S18_eq, ⟨S19_eq, ⟨S20_eq, ⟨S23_eq, ⟨S24_eq, ⟨S25_eq, ⟨S27_eq, ⟨S28_eq, ⟨S29_eq, ⟨S30_eq, ⟨S31_eq, ⟨S32_eq, ⟨S33_eq, ⟨S34_eq, ⟨S35_eq, ⟨S42_eq, ⟨S43_eq, ⟨S44_eq, ⟨S45_eq, ⟨S46_eq, ⟨S47_eq, ⟨S48_eq, ⟨S49_eq, ⟨S53_eq, ⟨S54_eq, ⟨S55_eq, ⟨S56_eq, ⟨S57_eq, ⟨S58_eq, ⟨S59_eq, ⟨S60_eq, ⟨S61_eq, ⟨S62_eq, ⟨S63_eq, ⟨S66_eq, ⟨S68_eq, ⟨S69_eq, ⟨S70_eq, ⟨S71_eq, ⟨S72_eq, ⟨S73_eq, ⟨S74_eq, ⟨S75_eq, ⟨S76_eq, trivial⟩⟩⟩⟩⟩⟩⟩⟩⟩⟩⟩⟩⟩⟩⟩⟩⟩⟩⟩⟩⟩⟩⟩⟩⟩⟩⟩⟩⟩⟩⟩⟩⟩⟩⟩⟩⟩⟩⟩⟩⟩⟩⟩⟩⟩⟩⟩⟩⟩⟩⟩
end Go.Proofs.YtjofbahcdfjklaaGreat

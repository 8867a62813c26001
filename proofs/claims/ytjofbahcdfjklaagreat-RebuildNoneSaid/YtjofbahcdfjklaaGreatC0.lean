/- The functions of the program as D's and as plain Lean functions, and that both are the same. No condition. -/
import Derived.KernelRfl
import Derived.Test.YtjofbahcdfjklaaGreatDc
set_option linter.unusedVariables false
namespace Go.Proofs.YtjofbahcdfjklaaGreat
open Go.DI
def p0 : Pa := .h
def p1 : Pa := .l p0
def p2 : Pa := .r p0
def p3 : Pa := .l p1
def p4 : Pa := .r p1
def p5 : Pa := .l p2
def p6 : Pa := .r p2
def p7 : Pa := .l p3
def p8 : Pa := .r p3
def p9 : Pa := .l p4
def p10 : Pa := .r p4
def p11 : Pa := .l p5
def p12 : Pa := .r p5
def p13 : Pa := .l p6
def p14 : Pa := .r p6
def p15 : Pa := .l p7
def p16 : Pa := .r p7
def p17 : Pa := .l p8
def p18 : Pa := .r p8
def p19 : Pa := .l p9
def p20 : Pa := .r p9
def p21 : Pa := .l p10
def p22 : Pa := .r p10
def p23 : Pa := .l p11
def p24 : Pa := .r p11
def p25 : Pa := .l p12
def p26 : Pa := .r p12
def p27 : Pa := .l p13
def p28 : Pa := .r p13
def p29 : Pa := .l p14
def p30 : Pa := .r p14
def p31 : Pa := .l p15
def p32 : Pa := .r p15
def p33 : Pa := .l p16
def p34 : Pa := .r p16
def p35 : Pa := .l p17
def p36 : Pa := .r p17
def p37 : Pa := .l p18
def p38 : Pa := .r p18
def p39 : Pa := .l p19
def p40 : Pa := .r p19
def p41 : Pa := .l p20
def p42 : Pa := .r p20
def p43 : Pa := .l p21
def p44 : Pa := .r p21
def p45 : Pa := .l p22
def p46 : Pa := .r p22
def p47 : Pa := .l p23
def p48 : Pa := .r p23
def p49 : Pa := .l p24
def p50 : Pa := .r p24
def p51 : Pa := .l p25
def p52 : Pa := .r p25
def p53 : Pa := .l p26
def p54 : Pa := .r p26
def p55 : Pa := .l p27
def p56 : Pa := .r p27
def p57 : Pa := .l p28
def p58 : Pa := .r p28
def p59 : Pa := .l p29
def p60 : Pa := .r p29
def p61 : Pa := .l p30
def p62 : Pa := .r p30
def p63 : Pa := .l p31
def p64 : Pa := .r p31
def p65 : Pa := .l p32
def p66 : Pa := .r p32
def p67 : Pa := .l p33
def p68 : Pa := .r p33
def p69 : Pa := .l p34
def p70 : Pa := .r p34
def p71 : Pa := .l p35
def p72 : Pa := .r p35
def p73 : Pa := .l p36
def p74 : Pa := .r p36
def p75 : Pa := .l p37
def p76 : Pa := .r p37
def p77 : Pa := .l p38
def p78 : Pa := .r p38
def p79 : Pa := .l p39
def p80 : Pa := .r p39
def p81 : Pa := .l p40
def p82 : Pa := .r p40
def p83 : Pa := .l p41
def p84 : Pa := .r p41
def p85 : Pa := .l p42
def p86 : Pa := .r p42
def p87 : Pa := .l p43
def p88 : Pa := .r p43
def p89 : Pa := .l p44
def p90 : Pa := .r p44
def p91 : Pa := .l p45
def p92 : Pa := .r p45
def p93 : Pa := .l p46
def p94 : Pa := .r p46
def p95 : Pa := .l p47
def p96 : Pa := .r p47
def p97 : Pa := .l p48
def p98 : Pa := .r p48
def p99 : Pa := .l p49
def p100 : Pa := .r p49
def p101 : Pa := .l p50
def p102 : Pa := .r p50
def p103 : Pa := .l p51
def p104 : Pa := .r p51
def p105 : Pa := .l p52
def p106 : Pa := .r p52
def p107 : Pa := .l p53
def p108 : Pa := .r p53
def p109 : Pa := .l p54
def p110 : Pa := .r p54
def p111 : Pa := .l p55
def p112 : Pa := .r p55
def p113 : Pa := .l p56
def p114 : Pa := .r p56
/- hurdle/hurdlelaw35.RebuildNone -/
def R4 : List RV := [(.r p2)]
noncomputable def J4_0 (E : Env) (r0 : DV) (h : H) : Ans :=
  wK (callK E 11 [.nilp] h) fun x1 h2 =>
  vK (v_ext 0 x1) fun x3 =>
  vK (v_ext 1 x1) fun x4 =>
  wK (callK E 12 [.nilp, r0] h2) fun x5 h6 =>
  vK (v_ext 0 x5) fun x7 =>
  vK (v_ext 1 x5) fun x8 =>
  wK (callK E 13 [.nilp, r0] h6) fun x9 h10 =>
  vK (v_eql x9 (.int .i64 (.ofNat 1))) fun x11 =>
  gdK x11 true (fun kk => kk x3 h10) h10 fun x12 h13 =>
  gdK x11 true (fun kk => vK (v_eql x12 (.int .i64 (.ofNat 0))) fun v => kk v h13) h13 fun x14 h15 =>
  vK (v_pick x11 x14 (.bool false)) fun x16 =>
  gdK x16 true (fun kk => kk x4 h15) h15 fun x17 h18 =>
  gdK x16 true (fun kk => vK (v_eql x17 (.int .i64 (.ofNat 1))) fun v => kk v h18) h18 fun x19 h20 =>
  vK (v_pick x16 x19 (.bool false)) fun x21 =>
  gdK x21 true (fun kk => kk .nilp h20) h20 fun x22 h23 =>
  gdK x21 true (fun kk => wK (callK E 14 [x22] h23) kk) h23 fun x24 h25 =>
  gdK x21 true (fun kk => vK (v_lenL x24) fun v => kk v h25) h25 fun x26 h27 =>
  gdK x21 true (fun kk => vK (v_eql x26 (.int .i64 (.ofNat 0))) fun v => kk v h27) h27 fun x28 h29 =>
  vK (v_pick x21 x28 (.bool false)) fun x30 =>
  gdK x30 true (fun kk => kk x7 h29) h29 fun x31 h32 =>
  gdK x30 true (fun kk => vK (v_eql x31 (.int .i64 (.ofNat 0))) fun v => kk v h32) h32 fun x33 h34 =>
  vK (v_pick x30 x33 (.bool false)) fun x35 =>
  gdK x35 true (fun kk => kk x8 h34) h34 fun x36 h37 =>
  gdK x35 true (fun kk => vK (v_eql x36 (.int .i64 (.ofNat 1))) fun v => kk v h37) h37 fun x38 h39 =>
  vK (v_pick x35 x38 (.bool false)) fun x40 =>
  gdK x40 true (fun kk => kk .nilp h39) h39 fun x41 h42 =>
  gdK x40 true (fun kk => wK (callK E 15 [x41] h42) kk) h42 fun x43 h44 =>
  gdK x40 true (fun kk => vK (v_eql x43 (.int .i64 (.ofNat 1))) fun v => kk v h44) h44 fun x45 h46 =>
  vK (v_pick x40 x45 (.bool false)) fun x47 =>
  gdK x47 true (fun kk => wK (callK E 16 [] h46) kk) h46 fun x48 h49 =>
  vK (v_pick x47 x48 (.bool false)) fun x50 =>
  some (x50, h49)
def C4_0 : DC := (.seq (.reg [⟨(some p2), none, (.e (.mv (.c (.bool false))))⟩]) (.seq (.reg [⟨(some p3), none, (.e (.mv (.c .nilp)))⟩]) (.seq (.reg [⟨(some p9), none, (.e (.mv (.r p3)))⟩, ⟨(some p10), none, (.c (.f 11 [(.r p9)]))⟩, ⟨(some p8), none, (.e (.mv (.r p10)))⟩, ⟨(some p11), none, (.e (.ext 0 (.r p8)))⟩, ⟨(some p12), none, (.e (.ext 1 (.r p8)))⟩, ⟨(some p4), none, (.e (.mv (.r p11)))⟩, ⟨(some p5), none, (.e (.mv (.r p12)))⟩]) (.seq (.reg [⟨(some p14), none, (.e (.mv (.r p3)))⟩, ⟨(some p15), none, (.e (.mv (.r p0)))⟩, ⟨(some p16), none, (.c (.f 12 [(.r p14), (.r p15)]))⟩, ⟨(some p13), none, (.e (.mv (.r p16)))⟩, ⟨(some p17), none, (.e (.ext 0 (.r p13)))⟩, ⟨(some p18), none, (.e (.ext 1 (.r p13)))⟩, ⟨(some p6), none, (.e (.mv (.r p17)))⟩, ⟨(some p7), none, (.e (.mv (.r p18)))⟩]) (.seq (.reg [⟨(some p19), none, (.e (.mv (.r p3)))⟩, ⟨(some p20), none, (.e (.mv (.r p0)))⟩, ⟨(some p21), none, (.c (.f 13 [(.r p19), (.r p20)]))⟩, ⟨(some p22), none, (.e (.bin .eql (.r p21) (.c (.int .i64 (.ofNat 1)))))⟩, ⟨(some p23), none, (.e (.mv (.r p22)))⟩, ⟨(some p24), (some (p23, true)), (.e (.mv (.r p4)))⟩, ⟨(some p25), (some (p23, true)), (.e (.bin .eql (.r p24) (.c (.int .i64 (.ofNat 0)))))⟩, ⟨(some p26), none, (.e (.pick (.r p23) (.r p25) (.c (.bool false))))⟩, ⟨(some p27), none, (.e (.mv (.r p26)))⟩, ⟨(some p28), (some (p27, true)), (.e (.mv (.r p5)))⟩, ⟨(some p29), (some (p27, true)), (.e (.bin .eql (.r p28) (.c (.int .i64 (.ofNat 1)))))⟩, ⟨(some p30), none, (.e (.pick (.r p27) (.r p29) (.c (.bool false))))⟩, ⟨(some p31), none, (.e (.mv (.r p30)))⟩, ⟨(some p32), (some (p31, true)), (.e (.mv (.r p3)))⟩, ⟨(some p33), (some (p31, true)), (.c (.f 14 [(.r p32)]))⟩, ⟨(some p34), (some (p31, true)), (.e (.lenL (.r p33)))⟩, ⟨(some p35), (some (p31, true)), (.e (.bin .eql (.r p34) (.c (.int .i64 (.ofNat 0)))))⟩, ⟨(some p36), none, (.e (.pick (.r p31) (.r p35) (.c (.bool false))))⟩, ⟨(some p37), none, (.e (.mv (.r p36)))⟩, ⟨(some p38), (some (p37, true)), (.e (.mv (.r p6)))⟩, ⟨(some p39), (some (p37, true)), (.e (.bin .eql (.r p38) (.c (.int .i64 (.ofNat 0)))))⟩, ⟨(some p40), none, (.e (.pick (.r p37) (.r p39) (.c (.bool false))))⟩, ⟨(some p41), none, (.e (.mv (.r p40)))⟩, ⟨(some p42), (some (p41, true)), (.e (.mv (.r p7)))⟩, ⟨(some p43), (some (p41, true)), (.e (.bin .eql (.r p42) (.c (.int .i64 (.ofNat 1)))))⟩, ⟨(some p44), none, (.e (.pick (.r p41) (.r p43) (.c (.bool false))))⟩, ⟨(some p45), none, (.e (.mv (.r p44)))⟩, ⟨(some p46), (some (p45, true)), (.e (.mv (.r p3)))⟩, ⟨(some p47), (some (p45, true)), (.c (.f 15 [(.r p46)]))⟩, ⟨(some p48), (some (p45, true)), (.e (.bin .eql (.r p47) (.c (.int .i64 (.ofNat 1)))))⟩, ⟨(some p49), none, (.e (.pick (.r p45) (.r p48) (.c (.bool false))))⟩, ⟨(some p50), none, (.e (.mv (.r p49)))⟩, ⟨(some p51), (some (p50, true)), (.c (.f 16 []))⟩, ⟨(some p52), none, (.e (.pick (.r p50) (.r p51) (.c (.bool false))))⟩, ⟨(some p2), none, (.e (.mv (.r p52)))⟩]) .ret)))))
theorem I4_0 (E : Env) : Is E C4_0 (retK3 R4) (fun σ h => J4_0 E (σ p0) h) :=
  fun σ h => by kernel_rfl
def D4 : DF := ⟨1, 53, C4_0, R4⟩
noncomputable def S4 (E : Env) : Fun := fun args h => aS args fun r0 args => a0 args (J4_0 E r0 h)
theorem S4_eq (E : Env) (args : List DV) (h : H) : runFn E D4 args h = S4 E args h :=
  Is.fn1 (d := D4) (I4_0 E) rfl (fun r0 h => J4_0 E r0 h) (fun r0 h => by kernel_rfl) args h
/- hurdle/reader.Read -/
def R6 : List RV := [(.r p4), (.r p5)]
noncomputable def J6_0 (E : Env) (r0 r1 : DV) (h : H) : Ans :=
  wK (callK E 27 [r0, r1] h) fun x1 h2 =>
  vK (v_ext 0 x1) fun x3 =>
  vK (v_ext 1 x1) fun x4 =>
  vK (v_neq x4 (.int .i64 (.ofNat 0))) fun x5 =>
  bK x5
  (some ((.tup [(.str []), x4]), h2))
  (wK (callK E 28 [x3] h2) fun x6 h7 =>
  vK (v_ext 0 x6) fun x8 =>
  vK (v_ext 1 x6) fun x9 =>
  some ((.tup [x8, x9]), h7))
def C6_0 : DC := (.seq (.reg [⟨(some p4), none, (.e (.mv (.c (.str []))))⟩, ⟨(some p5), none, (.e (.mv (.c (.int .i64 (.ofNat 0)))))⟩]) (.seq (.reg [⟨(some p9), none, (.e (.mv (.r p0)))⟩, ⟨(some p10), none, (.e (.mv (.r p1)))⟩, ⟨(some p11), none, (.c (.f 27 [(.r p9), (.r p10)]))⟩, ⟨(some p8), none, (.e (.mv (.r p11)))⟩, ⟨(some p12), none, (.e (.ext 0 (.r p8)))⟩, ⟨(some p13), none, (.e (.ext 1 (.r p8)))⟩, ⟨(some p6), none, (.e (.mv (.r p12)))⟩, ⟨(some p7), none, (.e (.mv (.r p13)))⟩]) (.seq (.seq (.reg [⟨(some p14), none, (.e (.mv (.r p7)))⟩, ⟨(some p15), none, (.e (.bin .neq (.r p14) (.c (.int .i64 (.ofNat 0)))))⟩]) (.cond (.r p15) (.seq (.reg [⟨(some p16), none, (.e (.mv (.r p7)))⟩, ⟨(some p4), none, (.e (.mv (.c (.str []))))⟩, ⟨(some p5), none, (.e (.mv (.r p16)))⟩]) .ret) .skip)) (.seq (.reg [⟨(some p17), none, (.e (.mv (.r p6)))⟩, ⟨(some p18), none, (.c (.f 28 [(.r p17)]))⟩, ⟨(some p19), none, (.e (.ext 0 (.r p18)))⟩, ⟨(some p20), none, (.e (.ext 1 (.r p18)))⟩, ⟨(some p4), none, (.e (.mv (.r p19)))⟩, ⟨(some p5), none, (.e (.mv (.r p20)))⟩]) .ret))))
theorem I6_0 (E : Env) : Is E C6_0 (retK3 R6) (fun σ h => J6_0 E (σ p0) (σ p1) h) :=
  fun σ h => by kernel_rfl
def D6 : DF := ⟨2, 21, C6_0, R6⟩
noncomputable def S6 (E : Env) : Fun := fun args h => aS args fun r0 args => aS args fun r1 args => a0 args (J6_0 E r0 r1 h)
theorem S6_eq (E : Env) (args : List DV) (h : H) : runFn E D6 args h = S6 E args h :=
  Is.fn2 (d := D6) (I6_0 E) rfl (fun r0 r1 h => J6_0 E r0 r1 h) (fun r0 r1 h => by kernel_rfl) args h
/- hurdle/reader.Missing -/
def R8 : List RV := [(.r p4)]
noncomputable def J8_0 (E : Env) (r0 r1 : DV) (h : H) : Ans :=
  wK (callK E 27 [r0, r1] h) fun x1 h2 =>
  vK (v_ext 0 x1) fun x3 =>
  vK (v_ext 1 x1) fun x4 =>
  vK (v_neq x4 (.int .i64 (.ofNat 0))) fun x5 =>
  bK x5
  (some (.nils, h2))
  (wK (callK E 31 [x3] h2) fun x6 h7 =>
  some (x6, h7))
def C8_0 : DC := (.seq (.reg [⟨(some p4), none, (.e (.mv (.c .nils)))⟩]) (.seq (.reg [⟨(some p8), none, (.e (.mv (.r p0)))⟩, ⟨(some p9), none, (.e (.mv (.r p1)))⟩, ⟨(some p10), none, (.c (.f 27 [(.r p8), (.r p9)]))⟩, ⟨(some p7), none, (.e (.mv (.r p10)))⟩, ⟨(some p11), none, (.e (.ext 0 (.r p7)))⟩, ⟨(some p12), none, (.e (.ext 1 (.r p7)))⟩, ⟨(some p5), none, (.e (.mv (.r p11)))⟩, ⟨(some p6), none, (.e (.mv (.r p12)))⟩]) (.seq (.seq (.reg [⟨(some p13), none, (.e (.mv (.r p6)))⟩, ⟨(some p14), none, (.e (.bin .neq (.r p13) (.c (.int .i64 (.ofNat 0)))))⟩]) (.cond (.r p14) (.seq (.reg [⟨(some p4), none, (.e (.mv (.c .nils)))⟩]) .ret) .skip)) (.seq (.reg [⟨(some p15), none, (.e (.mv (.r p5)))⟩, ⟨(some p16), none, (.c (.f 31 [(.r p15)]))⟩, ⟨(some p4), none, (.e (.mv (.r p16)))⟩]) .ret))))
theorem I8_0 (E : Env) : Is E C8_0 (retK3 R8) (fun σ h => J8_0 E (σ p0) (σ p1) h) :=
  fun σ h => by kernel_rfl
def D8 : DF := ⟨2, 17, C8_0, R8⟩
noncomputable def S8 (E : Env) : Fun := fun args h => aS args fun r0 args => aS args fun r1 args => a0 args (J8_0 E r0 r1 h)
theorem S8_eq (E : Env) (args : List DV) (h : H) : runFn E D8 args h = S8 E args h :=
  Is.fn2 (d := D8) (I8_0 E) rfl (fun r0 r1 h => J8_0 E r0 r1 h) (fun r0 r1 h => by kernel_rfl) args h
/- hurdle/reader.Check -/
def R9 : List RV := [(.r p4)]
noncomputable def J9_0 (E : Env) (r0 r1 : DV) (h : H) : Ans :=
  wK (callK E 27 [r0, r1] h) fun x1 h2 =>
  vK (v_ext 0 x1) fun x3 =>
  vK (v_ext 1 x1) fun x4 =>
  vK (v_neq x4 (.int .i64 (.ofNat 0))) fun x5 =>
  bK x5
  (some (x4, h2))
  (wK (callK E 31 [x3] h2) fun x6 h7 =>
  vK (v_lenL x6) fun x8 =>
  vK (v_gtr x8 (.int .i64 (.ofNat 0))) fun x9 =>
  bK x9
  (some ((.int .i64 (.ofNat 9)), h7))
  (vK (v_nilchk x3) fun x10 =>
  vK (v_fa 8 x10) fun x11 =>
  vK (v_ld h7.get x11) fun x12 =>
  wK (callK E 32 [x12] h7) fun x13 h14 =>
  vK (v_not x13) fun x15 =>
  bK x15
  (some ((.int .i64 (.ofNat 4)), h14))
  (some ((.int .i64 (.ofNat 0)), h14))))
def C9_0 : DC := (.seq (.reg [⟨(some p4), none, (.e (.mv (.c (.int .i64 (.ofNat 0)))))⟩]) (.seq (.reg [⟨(some p8), none, (.e (.mv (.r p0)))⟩, ⟨(some p9), none, (.e (.mv (.r p1)))⟩, ⟨(some p10), none, (.c (.f 27 [(.r p8), (.r p9)]))⟩, ⟨(some p7), none, (.e (.mv (.r p10)))⟩, ⟨(some p11), none, (.e (.ext 0 (.r p7)))⟩, ⟨(some p12), none, (.e (.ext 1 (.r p7)))⟩, ⟨(some p5), none, (.e (.mv (.r p11)))⟩, ⟨(some p6), none, (.e (.mv (.r p12)))⟩]) (.seq (.block 0 (.seq (.reg [⟨(some p14), none, (.e (.mv (.r p6)))⟩, ⟨(some p15), none, (.e (.bin .neq (.r p14) (.c (.int .i64 (.ofNat 0)))))⟩, ⟨(some p13), none, (.e (.mv (.r p15)))⟩]) (.cond (.r p13) (.seq (.reg [⟨(some p16), none, (.e (.mv (.r p6)))⟩, ⟨(some p4), none, (.e (.mv (.r p16)))⟩]) .ret) (.seq (.reg [⟨(some p18), none, (.e (.mv (.r p5)))⟩, ⟨(some p19), none, (.c (.f 31 [(.r p18)]))⟩, ⟨(some p20), none, (.e (.lenL (.r p19)))⟩, ⟨(some p21), none, (.e (.bin .gtr (.r p20) (.c (.int .i64 (.ofNat 0)))))⟩, ⟨(some p17), none, (.e (.mv (.r p21)))⟩]) (.cond (.r p17) (.seq (.reg [⟨(some p4), none, (.e (.mv (.c (.int .i64 (.ofNat 9)))))⟩]) .ret) (.seq (.reg [⟨(some p23), none, (.e (.mv (.r p5)))⟩, ⟨(some p24), none, (.e (.nilchk (.r p23)))⟩, ⟨(some p25), none, (.e (.fa 8 (.r p24)))⟩, ⟨(some p26), none, (.e (.ld (.r p25)))⟩, ⟨(some p27), none, (.c (.f 32 [(.r p26)]))⟩, ⟨(some p28), none, (.e (.not (.r p27)))⟩, ⟨(some p22), none, (.e (.mv (.r p28)))⟩]) (.cond (.r p22) (.seq (.reg [⟨(some p4), none, (.e (.mv (.c (.int .i64 (.ofNat 4)))))⟩]) .ret) .skip))))))) (.seq (.reg [⟨(some p4), none, (.e (.mv (.c (.int .i64 (.ofNat 0)))))⟩]) .ret))))
theorem I9_0 (E : Env) : Is E C9_0 (retK3 R9) (fun σ h => J9_0 E (σ p0) (σ p1) h) :=
  fun σ h => by kernel_rfl
def D9 : DF := ⟨2, 29, C9_0, R9⟩
noncomputable def S9 (E : Env) : Fun := fun args h => aS args fun r0 args => aS args fun r1 args => a0 args (J9_0 E r0 r1 h)
theorem S9_eq (E : Env) (args : List DV) (h : H) : runFn E D9 args h = S9 E args h :=
  Is.fn2 (d := D9) (I9_0 E) rfl (fun r0 r1 h => J9_0 E r0 r1 h) (fun r0 r1 h => by kernel_rfl) args h
/- (*hurdle/rebuild.Rebuild).Start -/
def R11 : List RV := [(.r p2), (.r p3)]
noncomputable def J11_0 (E : Env) (r0 : DV) (h : H) : Ans :=
  vK (v_eqv .ptr false h.get r0 .nilp) fun x1 =>
  bK x1
  (some ((.tup [(.int .i64 (.ofNat 0)), (.int .i64 (.ofNat 1))]), h))
  (vK (v_nilchk r0) fun x2 =>
  vK (v_fa 0 x2) fun x3 =>
  vK (v_ld h.get x3) fun x4 =>
  wK (callK E 36 [r0] h) fun x5 h6 =>
  rK (rcK (v_ld h6.get x3) x4) <|
  n_bsl 1 1 [(.int .i64 (.ofNat 0))] [(0, 1, x5)] h6 fun x7 h8 =>
  wK (callK E 17 [x4, (.int .i64 (.ofNat 15)), (.int .i64 (.ofNat 6)), x7] h8) fun x9 h10 =>
  vK (v_ext 0 x9) fun x11 =>
  vK (v_ext 1 x9) fun x12 =>
  vK (v_neq x11 (.int .i64 (.ofNat 0))) fun x13 =>
  bK x13
  (some ((.tup [(.int .i64 (.ofNat 0)), x11]), h10))
  (vK (v_iaS 1 x12 (.int .i64 (.ofNat 0))) fun x14 =>
  vK (v_ld h10.get x14) fun x15 =>
  vK (v_nilchk r0) fun x16 =>
  vK (v_fa 1 x16) fun x17 =>
  wK (dStF 1 x17 x15 h10) fun x18 h19 =>
  vK (v_nilchk r0) fun x20 =>
  vK (v_fa 1 x20) fun x21 =>
  vK (v_ld h19.get x21) fun x22 =>
  some ((.tup [x22, (.int .i64 (.ofNat 0))]), h19)))
def C11_0 : DC := (.seq (.reg [⟨(some p2), none, (.e (.mv (.c (.int .i64 (.ofNat 0)))))⟩, ⟨(some p3), none, (.e (.mv (.c (.int .i64 (.ofNat 0)))))⟩]) (.seq (.seq (.reg [⟨(some p6), none, (.e (.mv (.r p0)))⟩, ⟨(some p7), none, (.e (.eqv .ptr false (.r p6) (.c .nilp)))⟩]) (.cond (.r p7) (.seq (.reg [⟨(some p2), none, (.e (.mv (.c (.int .i64 (.ofNat 0)))))⟩, ⟨(some p3), none, (.e (.mv (.c (.int .i64 (.ofNat 1)))))⟩]) .ret) .skip)) (.seq (.drg [⟨0, ⟨(some p9), none, (.e (.mv (.r p0)))⟩, [], false⟩, ⟨1, ⟨(some p10), none, (.e (.nilchk (.r p9)))⟩, [], false⟩, ⟨2, ⟨(some p11), none, (.e (.fa 0 (.r p10)))⟩, [], false⟩, ⟨3, ⟨(some p12), none, (.e (.ld (.r p11)))⟩, [], false⟩, ⟨4, ⟨(some p13), none, (.e (.mv (.r p0)))⟩, [], false⟩, ⟨5, ⟨(some p14), none, (.c (.f 36 [(.r p13)]))⟩, [3], false⟩, ⟨6, ⟨(some p15), none, (.e (.bsl 1 1 [(.int .i64 (.ofNat 0))] [(0, 1, (.r p14))]))⟩, [], false⟩, ⟨7, ⟨(some p16), none, (.c (.f 17 [(.r p12), (.c (.int .i64 (.ofNat 15))), (.c (.int .i64 (.ofNat 6))), (.r p15)]))⟩, [], false⟩, ⟨8, ⟨(some p8), none, (.e (.mv (.r p16)))⟩, [], false⟩, ⟨9, ⟨(some p17), none, (.e (.ext 0 (.r p8)))⟩, [], false⟩, ⟨10, ⟨(some p18), none, (.e (.ext 1 (.r p8)))⟩, [], false⟩, ⟨11, ⟨(some p4), none, (.e (.mv (.r p17)))⟩, [], false⟩, ⟨12, ⟨(some p5), none, (.e (.mv (.r p18)))⟩, [], false⟩]) (.seq (.seq (.reg [⟨(some p19), none, (.e (.mv (.r p4)))⟩, ⟨(some p20), none, (.e (.bin .neq (.r p19) (.c (.int .i64 (.ofNat 0)))))⟩]) (.cond (.r p20) (.seq (.reg [⟨(some p21), none, (.e (.mv (.r p4)))⟩, ⟨(some p2), none, (.e (.mv (.c (.int .i64 (.ofNat 0)))))⟩, ⟨(some p3), none, (.e (.mv (.r p21)))⟩]) .ret) .skip)) (.seq (.reg [⟨(some p22), none, (.e (.mv (.r p0)))⟩, ⟨(some p23), none, (.e (.mv (.r p5)))⟩, ⟨(some p24), none, (.e (.iaS 1 (.r p23) (.c (.int .i64 (.ofNat 0)))))⟩, ⟨(some p25), none, (.e (.ld (.r p24)))⟩, ⟨(some p26), none, (.e (.nilchk (.r p22)))⟩, ⟨(some p27), none, (.e (.fa 1 (.r p26)))⟩, ⟨none, none, (.w (.st 1 (.r p27) (.r p25)))⟩]) (.seq (.reg [⟨(some p28), none, (.e (.mv (.r p0)))⟩, ⟨(some p29), none, (.e (.nilchk (.r p28)))⟩, ⟨(some p30), none, (.e (.fa 1 (.r p29)))⟩, ⟨(some p31), none, (.e (.ld (.r p30)))⟩, ⟨(some p2), none, (.e (.mv (.r p31)))⟩, ⟨(some p3), none, (.e (.mv (.c (.int .i64 (.ofNat 0)))))⟩]) .ret))))))
theorem I11_0 (E : Env) : Is E C11_0 (retK3 R11) (fun σ h => J11_0 E (σ p0) h) :=
  fun σ h => by kernel_rfl
def D11 : DF := ⟨1, 32, C11_0, R11⟩
noncomputable def S11 (E : Env) : Fun := fun args h => aS args fun r0 args => a0 args (J11_0 E r0 h)
theorem S11_eq (E : Env) (args : List DV) (h : H) : runFn E D11 args h = S11 E args h :=
  Is.fn1 (d := D11) (I11_0 E) rfl (fun r0 h => J11_0 E r0 h) (fun r0 h => by kernel_rfl) args h
/- (*hurdle/rebuild.Rebuild).Step -/
def R12 : List RV := [(.r p4), (.r p5)]
noncomputable def J12_1 (E : Env) (r1 r6 : DV) (h : H) : Ans :=
  vK (v_mx r1 (.int .i64 (.ofNat 0))) fun x1 =>
  vK (v_lenL r6) fun x2 =>
  vK (v_mn x1 x2) fun x3 =>
  some ((.tup [x3, (.int .i64 (.ofNat 0))]), h)
def C12_1 : DC := (.seq (.reg [⟨(some p34), none, (.e (.mv (.r p1)))⟩, ⟨(some p35), none, (.e (.mx (.r p34) (.c (.int .i64 (.ofNat 0)))))⟩, ⟨(some p36), none, (.e (.mv (.r p6)))⟩, ⟨(some p37), none, (.e (.lenL (.r p36)))⟩, ⟨(some p38), none, (.e (.mn (.r p35) (.r p37)))⟩, ⟨(some p4), none, (.e (.mv (.r p38)))⟩, ⟨(some p5), none, (.e (.mv (.c (.int .i64 (.ofNat 0)))))⟩]) .ret)
noncomputable def B12_2 (E : Env) (r0 r1 r6 r17 : DV) (i2 : DV → H → Ans) (r18 : DV) (h : H) : Ans :=
  vK (v_lss r18 r17) fun x1 =>
  bK x1
  (vK (v_iaS 1 r6 r18) fun x2 =>
  vK (v_ld h.get x2) fun x3 =>
  wK (callK E 38 [r0, x3] h) fun x4 h5 =>
  wK (callK E 37 [r0, x4] h5) fun x6 h7 =>
  vK (v_neq x6 (.int .i64 (.ofNat 0))) fun x8 =>
  bK x8
  (some ((.tup [r18, x6]), h7))
  (vK (v_add r18 (.int .i64 (.ofNat 1))) fun x9 =>
  i2 x9 h7))
  (J12_1 E r1 r6 h)
noncomputable def L12_2 (E : Env) (r0 r1 r6 r17 : DV) (n : Nat) : DV → H → Ans := Nat.rec (motive := fun _ => DV → H → Ans) (fun _ _ => none) (fun _ i => B12_2 E r0 r1 r6 r17 i) n
def C12_2 : DC := (.loop (.seq (.reg [⟨(some p19), none, (.e (.bin .lss (.r p18) (.r p17)))⟩]) (.seq (.cond (.r p19) .skip (.exit 0)) (.seq (.block 1 (.seq (.reg [⟨(some p20), none, (.e (.mv (.r p18)))⟩, ⟨(some p7), none, (.e (.mv (.r p20)))⟩]) (.seq (.reg [⟨(some p21), none, (.e (.mv (.r p0)))⟩, ⟨(some p22), none, (.e (.mv (.r p0)))⟩, ⟨(some p23), none, (.e (.mv (.r p6)))⟩, ⟨(some p24), none, (.e (.mv (.r p7)))⟩, ⟨(some p25), none, (.e (.iaS 1 (.r p23) (.r p24)))⟩, ⟨(some p26), none, (.e (.ld (.r p25)))⟩, ⟨(some p27), none, (.c (.f 38 [(.r p22), (.r p26)]))⟩, ⟨(some p28), none, (.c (.f 37 [(.r p21), (.r p27)]))⟩, ⟨(some p8), none, (.e (.mv (.r p28)))⟩]) (.seq (.reg [⟨(some p29), none, (.e (.mv (.r p8)))⟩, ⟨(some p30), none, (.e (.bin .neq (.r p29) (.c (.int .i64 (.ofNat 0)))))⟩]) (.cond (.r p30) (.seq (.reg [⟨(some p31), none, (.e (.mv (.r p7)))⟩, ⟨(some p32), none, (.e (.mv (.r p8)))⟩, ⟨(some p4), none, (.e (.mv (.r p31)))⟩, ⟨(some p5), none, (.e (.mv (.r p32)))⟩]) .ret) .skip))))) (.reg [⟨(some p33), none, (.e (.bin .add (.r p18) (.c (.int .i64 (.ofNat 1)))))⟩, ⟨(some p18), none, (.e (.mv (.r p33)))⟩])))))
noncomputable def J12_0 (E : Env) (r0 r1 : DV) (h : H) : Ans :=
  vK (v_eqv .ptr false h.get r0 .nilp) fun x1 =>
  bK x1
  (some ((.tup [(.int .i64 (.ofNat 0)), (.int .i64 (.ofNat 1))]), h))
  (wK (callK E 14 [r0] h) fun x2 h3 =>
  vK (v_mx r1 (.int .i64 (.ofNat 0))) fun x4 =>
  vK (v_lenL x2) fun x5 =>
  vK (v_mn x4 x5) fun x6 =>
  L12_2 E r0 r1 x2 x6 FUEL (.int .i64 (.ofNat 0)) h3)
def C12_0 : DC := (.seq (.reg [⟨(some p4), none, (.e (.mv (.c (.int .i64 (.ofNat 0)))))⟩, ⟨(some p5), none, (.e (.mv (.c (.int .i64 (.ofNat 0)))))⟩]) (.seq (.seq (.reg [⟨(some p9), none, (.e (.mv (.r p0)))⟩, ⟨(some p10), none, (.e (.eqv .ptr false (.r p9) (.c .nilp)))⟩]) (.cond (.r p10) (.seq (.reg [⟨(some p4), none, (.e (.mv (.c (.int .i64 (.ofNat 0)))))⟩, ⟨(some p5), none, (.e (.mv (.c (.int .i64 (.ofNat 1)))))⟩]) .ret) .skip)) (.seq (.reg [⟨(some p11), none, (.e (.mv (.r p0)))⟩, ⟨(some p12), none, (.c (.f 14 [(.r p11)]))⟩, ⟨(some p6), none, (.e (.mv (.r p12)))⟩]) (.seq (.seq (.reg [⟨(some p13), none, (.e (.mv (.r p1)))⟩, ⟨(some p14), none, (.e (.mx (.r p13) (.c (.int .i64 (.ofNat 0)))))⟩, ⟨(some p15), none, (.e (.mv (.r p6)))⟩, ⟨(some p16), none, (.e (.lenL (.r p15)))⟩, ⟨(some p17), none, (.e (.mn (.r p14) (.r p16)))⟩, ⟨(some p18), none, (.e (.mv (.c (.int .i64 (.ofNat 0)))))⟩]) (.block 0 C12_2)) C12_1))))
theorem I12_1 (E : Env) : Is E C12_1 (retK3 R12) (fun σ h => J12_1 E (σ p1) (σ p6) h) :=
  fun σ h => by kernel_rfl
noncomputable abbrev K12_3 (E : Env) : KT2 (DV × H) := (thenK3 (fun σ h => J12_1 E (σ p1) (σ p6) h) (retK3 R12))
theorem I12_2 (E : Env) : Is E C12_2 (blockK3 0 (K12_3 E)) (fun σ h => L12_2 E (σ p0) (σ p1) (σ p6) (σ p17) FUEL (σ p18) h) :=
  Is.loop (fun n2 σ h => L12_2 E (σ p0) (σ p1) (σ p6) (σ p17) n2 (σ p18) h) (by kernel_rfl) fun n2 => Is.as (Is.leaf _) fun σ h => by kernel_rfl
theorem I12_0 (E : Env) : Is E C12_0 (retK3 R12) (fun σ h => J12_0 E (σ p0) (σ p1) h) :=
  Is.as (Is.seq (Is.seq (Is.seq (Is.seq (I12_1 E) (Is.seq (Is.block (I12_2 E)) (Is.leaf _))) (Is.leaf _)) (Is.leaf _)) (Is.leaf _)) fun σ h => by kernel_rfl
def D12 : DF := ⟨2, 39, C12_0, R12⟩
noncomputable def S12 (E : Env) : Fun := fun args h => aS args fun r0 args => aS args fun r1 args => a0 args (J12_0 E r0 r1 h)
theorem S12_eq (E : Env) (args : List DV) (h : H) : runFn E D12 args h = S12 E args h :=
  Is.fn2 (d := D12) (I12_0 E) rfl (fun r0 r1 h => J12_0 E r0 r1 h) (fun r0 r1 h => by kernel_rfl) args h
/- (*hurdle/rebuild.Rebuild).Fail -/
def R13 : List RV := [(.r p4)]
noncomputable def J13_1 (E : Env) (r5 : DV) (h : H) : Ans :=
  some (r5, h)
def C13_1 : DC := (.seq (.reg [⟨(some p30), none, (.e (.mv (.r p5)))⟩, ⟨(some p4), none, (.e (.mv (.r p30)))⟩]) .ret)
noncomputable def J13_0 (E : Env) (r0 r1 : DV) (h : H) : Ans :=
  vK (v_eqv .ptr false h.get r0 .nilp) fun x1 =>
  bK x1
  (some ((.int .i64 (.ofNat 1)), h))
  (vK (v_nilchk r0) fun x2 =>
  vK (v_fa 0 x2) fun x3 =>
  vK (v_ld h.get x3) fun x4 =>
  wK (callK E 36 [r0] h) fun x5 h6 =>
  rK (rcK (v_ld h6.get x3) x4) <|
  n_bsl 2 1 [(.int .i64 (.ofNat 0))] [(0, 1, r1), (1, 1, x5)] h6 fun x7 h8 =>
  wK (callK E 17 [x4, (.int .i64 (.ofNat 15)), (.int .i64 (.ofNat 5)), x7] h8) fun x9 h10 =>
  vK (v_ext 0 x9) fun x11 =>
  vK (v_ext 1 x9) fun x12 =>
  vK (v_eql x11 (.int .i64 (.ofNat 0))) fun x13 =>
  bK x13
  (vK (v_nilchk r0) fun x14 =>
  vK (v_fa 0 x14) fun x15 =>
  vK (v_ld h10.get x15) fun x16 =>
  wK (callK E 23 [x16] h10) fun x17 h18 =>
  wK (callK E 39 [x17, r1] h18) fun x19 h20 =>
  J13_1 E x11 h20)
  (J13_1 E x11 h10))
def C13_0 : DC := (.seq (.reg [⟨(some p4), none, (.e (.mv (.c (.int .i64 (.ofNat 0)))))⟩]) (.seq (.seq (.reg [⟨(some p7), none, (.e (.mv (.r p0)))⟩, ⟨(some p8), none, (.e (.eqv .ptr false (.r p7) (.c .nilp)))⟩]) (.cond (.r p8) (.seq (.reg [⟨(some p4), none, (.e (.mv (.c (.int .i64 (.ofNat 1)))))⟩]) .ret) .skip)) (.seq (.drg [⟨0, ⟨(some p10), none, (.e (.mv (.r p0)))⟩, [], false⟩, ⟨1, ⟨(some p11), none, (.e (.nilchk (.r p10)))⟩, [], false⟩, ⟨2, ⟨(some p12), none, (.e (.fa 0 (.r p11)))⟩, [], false⟩, ⟨3, ⟨(some p13), none, (.e (.ld (.r p12)))⟩, [], false⟩, ⟨4, ⟨(some p14), none, (.e (.mv (.r p1)))⟩, [], false⟩, ⟨5, ⟨(some p15), none, (.e (.mv (.r p0)))⟩, [], false⟩, ⟨6, ⟨(some p16), none, (.c (.f 36 [(.r p15)]))⟩, [3], false⟩, ⟨7, ⟨(some p17), none, (.e (.bsl 2 1 [(.int .i64 (.ofNat 0))] [(0, 1, (.r p14)), (1, 1, (.r p16))]))⟩, [], false⟩, ⟨8, ⟨(some p18), none, (.c (.f 17 [(.r p13), (.c (.int .i64 (.ofNat 15))), (.c (.int .i64 (.ofNat 5))), (.r p17)]))⟩, [], false⟩, ⟨9, ⟨(some p9), none, (.e (.mv (.r p18)))⟩, [], false⟩, ⟨10, ⟨(some p19), none, (.e (.ext 0 (.r p9)))⟩, [], false⟩, ⟨11, ⟨(some p20), none, (.e (.ext 1 (.r p9)))⟩, [], false⟩, ⟨12, ⟨(some p5), none, (.e (.mv (.r p19)))⟩, [], false⟩, ⟨13, ⟨(some p6), none, (.e (.mv (.r p20)))⟩, [], false⟩]) (.seq (.seq (.reg [⟨(some p21), none, (.e (.mv (.r p5)))⟩, ⟨(some p22), none, (.e (.bin .eql (.r p21) (.c (.int .i64 (.ofNat 0)))))⟩]) (.cond (.r p22) (.reg [⟨(some p23), none, (.e (.mv (.r p0)))⟩, ⟨(some p24), none, (.e (.nilchk (.r p23)))⟩, ⟨(some p25), none, (.e (.fa 0 (.r p24)))⟩, ⟨(some p26), none, (.e (.ld (.r p25)))⟩, ⟨(some p27), none, (.c (.f 23 [(.r p26)]))⟩, ⟨(some p28), none, (.e (.mv (.r p1)))⟩, ⟨(some p29), none, (.c (.f 39 [(.r p27), (.r p28)]))⟩]) .skip)) C13_1))))
theorem I13_1 (E : Env) : Is E C13_1 (retK3 R13) (fun σ h => J13_1 E (σ p5) h) :=
  fun σ h => by kernel_rfl
theorem I13_0 (E : Env) : Is E C13_0 (retK3 R13) (fun σ h => J13_0 E (σ p0) (σ p1) h) :=
  Is.as (Is.seq (Is.seq (Is.seq (Is.seq (I13_1 E) (Is.leaf _)) (Is.leaf _)) (Is.leaf _)) (Is.leaf _)) fun σ h => by kernel_rfl
def D13 : DF := ⟨2, 31, C13_0, R13⟩
noncomputable def S13 (E : Env) : Fun := fun args h => aS args fun r0 args => aS args fun r1 args => a0 args (J13_0 E r0 r1 h)
theorem S13_eq (E : Env) (args : List DV) (h : H) : runFn E D13 args h = S13 E args h :=
  Is.fn2 (d := D13) (I13_0 E) rfl (fun r0 r1 h => J13_0 E r0 r1 h) (fun r0 r1 h => by kernel_rfl) args h
/- (*hurdle/rebuild.Rebuild).Left -/
def R14 : List RV := [(.r p2)]
noncomputable def J14_1 (E : Env) (r3 : DV) (h : H) : Ans :=
  some (r3, h)
def C14_1 : DC := (.seq (.reg [⟨(some p36), none, (.e (.mv (.r p3)))⟩, ⟨(some p2), none, (.e (.mv (.r p36)))⟩]) .ret)
noncomputable def J14_3 (E : Env) (i2 : DV → DV → H → Ans) (r3 r22 : DV) (h : H) : Ans :=
  vK (v_add r22 (.int .i64 (.ofNat 1))) fun x1 =>
  i2 r3 x1 h
def C14_3 : DC := (.reg [⟨(some p35), none, (.e (.bin .add (.r p22) (.c (.int .i64 (.ofNat 1)))))⟩, ⟨(some p22), none, (.e (.mv (.r p35)))⟩])
noncomputable def B14_2 (E : Env) (r0 r20 r21 : DV) (i2 : DV → DV → H → Ans) (r3 r22 : DV) (h : H) : Ans :=
  vK (v_lss r22 r21) fun x1 =>
  bK x1
  (vK (v_iaS 1 r20 r22) fun x2 =>
  vK (v_ld h.get x2) fun x3 =>
  wK (callK E 38 [r0, x3] h) fun x4 h5 =>
  vK (v_bld [(.int .i64 (.ofNat 0)), (.int .i64 (.ofNat 0))] [(1, 1, (.int .i64 (.negSucc 0)))]) fun x6 =>
  vK (v_eqs true (.leaf .int 0 (.leaf .int 1 .nil)) h5.get x4 x6) fun x7 =>
  bK x7
  (n_bsl 1 1 [(.int .i64 (.ofNat 0))] [(0, 1, x3)] h5 fun x8 h9 =>
  wK (dAppendF 1 8 r3 x8 h9) fun x10 h11 =>
  J14_3 E i2 x10 r22 h11)
  (J14_3 E i2 r3 r22 h5))
  (J14_1 E r3 h)
noncomputable def L14_2 (E : Env) (r0 r20 r21 : DV) (n : Nat) : DV → DV → H → Ans := Nat.rec (motive := fun _ => DV → DV → H → Ans) (fun _ _ _ => none) (fun _ i => B14_2 E r0 r20 r21 i) n
def C14_2 : DC := (.loop (.seq (.reg [⟨(some p23), none, (.e (.bin .lss (.r p22) (.r p21)))⟩]) (.seq (.cond (.r p23) .skip (.exit 0)) (.seq (.block 1 (.seq (.reg [⟨(some p24), none, (.e (.iaS 1 (.r p20) (.r p22)))⟩, ⟨(some p25), none, (.e (.ld (.r p24)))⟩, ⟨(some p5), none, (.e (.mv (.r p25)))⟩]) (.seq (.reg [⟨(some p26), none, (.e (.mv (.r p0)))⟩, ⟨(some p27), none, (.e (.mv (.r p5)))⟩, ⟨(some p28), none, (.c (.f 38 [(.r p26), (.r p27)]))⟩, ⟨(some p29), none, (.e (.bld [(.int .i64 (.ofNat 0)), (.int .i64 (.ofNat 0))] [(1, 1, (.c (.int .i64 (.negSucc 0))))]))⟩, ⟨(some p30), none, (.e (.eqs true (.leaf .int 0 (.leaf .int 1 .nil)) (.r p28) (.r p29)))⟩]) (.cond (.r p30) (.reg [⟨(some p31), none, (.e (.mv (.r p3)))⟩, ⟨(some p32), none, (.e (.mv (.r p5)))⟩, ⟨(some p33), none, (.e (.bsl 1 1 [(.int .i64 (.ofNat 0))] [(0, 1, (.r p32))]))⟩, ⟨(some p34), none, (.w (.app 1 8 (.r p31) (.r p33)))⟩, ⟨(some p3), none, (.e (.mv (.r p34)))⟩]) .skip)))) C14_3))))
noncomputable def J14_0 (E : Env) (r0 : DV) (h : H) : Ans :=
  vK (v_eqv .ptr false h.get r0 .nilp) fun x1 =>
  gdK x1 false (fun kk => kk r0 h) h fun x2 h3 =>
  gdK x1 false (fun kk => vK (v_nilchk x2) fun v => kk v h3) h3 fun x4 h5 =>
  gdK x1 false (fun kk => vK (v_fa 1 x4) fun v => kk v h5) h5 fun x6 h7 =>
  gdK x1 false (fun kk => vK (v_ld h7.get x6) fun v => kk v h7) h7 fun x8 h9 =>
  gdK x1 false (fun kk => vK (v_eql x8 (.int .i64 (.negSucc 0))) fun v => kk v h9) h9 fun x10 h11 =>
  vK (v_pick x1 (.bool true) x10) fun x12 =>
  bK x12
  (some (.nils, h11))
  (vK (v_nilchk r0) fun x13 =>
  vK (v_fa 0 x13) fun x14 =>
  vK (v_ld h11.get x14) fun x15 =>
  wK (callK E 24 [x15] h11) fun x16 h17 =>
  wK (callK E 40 [x16, (.int .i64 (.ofNat 2))] h17) fun x18 h19 =>
  vK (v_lenL x18) fun x20 =>
  L14_2 E r0 x18 x20 FUEL .nils (.int .i64 (.ofNat 0)) h19)
def C14_0 : DC := (.seq (.reg [⟨(some p2), none, (.e (.mv (.c .nils)))⟩]) (.seq (.seq (.reg [⟨(some p6), none, (.e (.mv (.r p0)))⟩, ⟨(some p7), none, (.e (.eqv .ptr false (.r p6) (.c .nilp)))⟩, ⟨(some p8), none, (.e (.mv (.r p7)))⟩, ⟨(some p9), (some (p8, false)), (.e (.mv (.r p0)))⟩, ⟨(some p10), (some (p8, false)), (.e (.nilchk (.r p9)))⟩, ⟨(some p11), (some (p8, false)), (.e (.fa 1 (.r p10)))⟩, ⟨(some p12), (some (p8, false)), (.e (.ld (.r p11)))⟩, ⟨(some p13), (some (p8, false)), (.e (.bin .eql (.r p12) (.c (.int .i64 (.negSucc 0)))))⟩, ⟨(some p14), none, (.e (.pick (.r p8) (.c (.bool true)) (.r p13)))⟩]) (.cond (.r p14) (.seq (.reg [⟨(some p2), none, (.e (.mv (.c .nils)))⟩]) .ret) .skip)) (.seq (.reg [⟨(some p3), none, (.e (.mv (.c .nils)))⟩]) (.seq (.seq (.reg [⟨(some p15), none, (.e (.mv (.r p0)))⟩, ⟨(some p16), none, (.e (.nilchk (.r p15)))⟩, ⟨(some p17), none, (.e (.fa 0 (.r p16)))⟩, ⟨(some p18), none, (.e (.ld (.r p17)))⟩, ⟨(some p19), none, (.c (.f 24 [(.r p18)]))⟩, ⟨(some p20), none, (.c (.f 40 [(.r p19), (.c (.int .i64 (.ofNat 2)))]))⟩, ⟨(some p21), none, (.e (.lenL (.r p20)))⟩, ⟨(some p22), none, (.e (.mv (.c (.int .i64 (.ofNat 0)))))⟩]) (.block 0 C14_2)) C14_1))))
theorem I14_1 (E : Env) : Is E C14_1 (retK3 R14) (fun σ h => J14_1 E (σ p3) h) :=
  fun σ h => by kernel_rfl
noncomputable abbrev K14_4 (E : Env) : KT2 (DV × H) := (thenK3 (fun σ h => J14_1 E (σ p3) h) (retK3 R14))
noncomputable abbrev K14_5 (E : Env) (n2 : Nat) : KT2 (DV × H) := (thenK3 (fun σ h => (L14_2 E (σ p0) (σ p20) (σ p21) n2) (σ p3) (σ p22) h) (blockK3 0 (K14_4 E)))
theorem I14_3 (E : Env) (n2 : Nat) : Is E C14_3 (K14_5 E n2) (fun σ h => J14_3 E (L14_2 E (σ p0) (σ p20) (σ p21) n2) (σ p3) (σ p22) h) :=
  fun σ h => by kernel_rfl
theorem I14_2 (E : Env) : Is E C14_2 (blockK3 0 (K14_4 E)) (fun σ h => L14_2 E (σ p0) (σ p20) (σ p21) FUEL (σ p3) (σ p22) h) :=
  Is.loop (fun n2 σ h => L14_2 E (σ p0) (σ p20) (σ p21) n2 (σ p3) (σ p22) h) (by kernel_rfl) fun n2 => Is.as (Is.seq (Is.seq (Is.seq (I14_3 E n2) (Is.leaf _)) (Is.leaf _)) (Is.leaf _)) fun σ h => by kernel_rfl
theorem I14_0 (E : Env) : Is E C14_0 (retK3 R14) (fun σ h => J14_0 E (σ p0) h) :=
  Is.as (Is.seq (Is.seq (Is.seq (Is.seq (I14_1 E) (Is.seq (Is.block (I14_2 E)) (Is.leaf _))) (Is.leaf _)) (Is.leaf _)) (Is.leaf _)) fun σ h => by kernel_rfl
def D14 : DF := ⟨1, 37, C14_0, R14⟩
noncomputable def S14 (E : Env) : Fun := fun args h => aS args fun r0 args => a0 args (J14_0 E r0 h)
theorem S14_eq (E : Env) (args : List DV) (h : H) : runFn E D14 args h = S14 E args h :=
  Is.fn1 (d := D14) (I14_0 E) rfl (fun r0 h => J14_0 E r0 h) (fun r0 h => by kernel_rfl) args h
/- (*hurdle/rebuild.Rebuild).Finish -/
def R15 : List RV := [(.r p2)]
noncomputable def J15_0 (E : Env) (r0 : DV) (h : H) : Ans :=
  vK (v_eqv .ptr false h.get r0 .nilp) fun x1 =>
  bK x1
  (some ((.int .i64 (.ofNat 1)), h))
  (vK (v_nilchk r0) fun x2 =>
  vK (v_fa 1 x2) fun x3 =>
  vK (v_ld h.get x3) fun x4 =>
  vK (v_eql x4 (.int .i64 (.negSucc 0))) fun x5 =>
  gdK x5 false (fun kk => kk r0 h) h fun x6 h7 =>
  gdK x5 false (fun kk => wK (callK E 14 [x6] h7) kk) h7 fun x8 h9 =>
  gdK x5 false (fun kk => vK (v_lenL x8) fun v => kk v h9) h9 fun x10 h11 =>
  gdK x5 false (fun kk => vK (v_gtr x10 (.int .i64 (.ofNat 0))) fun v => kk v h11) h11 fun x12 h13 =>
  vK (v_pick x5 (.bool true) x12) fun x14 =>
  bK x14
  (some ((.int .i64 (.ofNat 16)), h13))
  (vK (v_nilchk r0) fun x15 =>
  vK (v_fa 0 x15) fun x16 =>
  vK (v_ld h13.get x16) fun x17 =>
  wK (callK E 36 [r0] h13) fun x18 h19 =>
  rK (rcK (v_ld h19.get x16) x17) <|
  n_bsl 1 1 [(.int .i64 (.ofNat 0))] [(0, 1, x18)] h19 fun x20 h21 =>
  wK (callK E 17 [x17, (.int .i64 (.ofNat 15)), (.int .i64 (.ofNat 7)), x20] h21) fun x22 h23 =>
  vK (v_ext 0 x22) fun x24 =>
  vK (v_ext 1 x22) fun x25 =>
  some (x24, h23)))
def C15_0 : DC := (.seq (.reg [⟨(some p2), none, (.e (.mv (.c (.int .i64 (.ofNat 0)))))⟩]) (.seq (.seq (.reg [⟨(some p5), none, (.e (.mv (.r p0)))⟩, ⟨(some p6), none, (.e (.eqv .ptr false (.r p5) (.c .nilp)))⟩]) (.cond (.r p6) (.seq (.reg [⟨(some p2), none, (.e (.mv (.c (.int .i64 (.ofNat 1)))))⟩]) .ret) .skip)) (.seq (.seq (.reg [⟨(some p7), none, (.e (.mv (.r p0)))⟩, ⟨(some p8), none, (.e (.nilchk (.r p7)))⟩, ⟨(some p9), none, (.e (.fa 1 (.r p8)))⟩, ⟨(some p10), none, (.e (.ld (.r p9)))⟩, ⟨(some p11), none, (.e (.bin .eql (.r p10) (.c (.int .i64 (.negSucc 0)))))⟩, ⟨(some p12), none, (.e (.mv (.r p11)))⟩, ⟨(some p13), (some (p12, false)), (.e (.mv (.r p0)))⟩, ⟨(some p14), (some (p12, false)), (.c (.f 14 [(.r p13)]))⟩, ⟨(some p15), (some (p12, false)), (.e (.lenL (.r p14)))⟩, ⟨(some p16), (some (p12, false)), (.e (.bin .gtr (.r p15) (.c (.int .i64 (.ofNat 0)))))⟩, ⟨(some p17), none, (.e (.pick (.r p12) (.c (.bool true)) (.r p16)))⟩]) (.cond (.r p17) (.seq (.reg [⟨(some p2), none, (.e (.mv (.c (.int .i64 (.ofNat 16)))))⟩]) .ret) .skip)) (.seq (.drg [⟨0, ⟨(some p19), none, (.e (.mv (.r p0)))⟩, [], false⟩, ⟨1, ⟨(some p20), none, (.e (.nilchk (.r p19)))⟩, [], false⟩, ⟨2, ⟨(some p21), none, (.e (.fa 0 (.r p20)))⟩, [], false⟩, ⟨3, ⟨(some p22), none, (.e (.ld (.r p21)))⟩, [], false⟩, ⟨4, ⟨(some p23), none, (.e (.mv (.r p0)))⟩, [], false⟩, ⟨5, ⟨(some p24), none, (.c (.f 36 [(.r p23)]))⟩, [3], false⟩, ⟨6, ⟨(some p25), none, (.e (.bsl 1 1 [(.int .i64 (.ofNat 0))] [(0, 1, (.r p24))]))⟩, [], false⟩, ⟨7, ⟨(some p26), none, (.c (.f 17 [(.r p22), (.c (.int .i64 (.ofNat 15))), (.c (.int .i64 (.ofNat 7))), (.r p25)]))⟩, [], false⟩, ⟨8, ⟨(some p18), none, (.e (.mv (.r p26)))⟩, [], false⟩, ⟨9, ⟨(some p27), none, (.e (.ext 0 (.r p18)))⟩, [], false⟩, ⟨10, ⟨(some p28), none, (.e (.ext 1 (.r p18)))⟩, [], false⟩, ⟨11, ⟨(some p3), none, (.e (.mv (.r p27)))⟩, [], false⟩, ⟨12, ⟨(some p4), none, (.e (.mv (.r p28)))⟩, [], false⟩]) (.seq (.reg [⟨(some p29), none, (.e (.mv (.r p3)))⟩, ⟨(some p2), none, (.e (.mv (.r p29)))⟩]) .ret)))))
theorem I15_0 (E : Env) : Is E C15_0 (retK3 R15) (fun σ h => J15_0 E (σ p0) h) :=
  fun σ h => by kernel_rfl
def D15 : DF := ⟨1, 30, C15_0, R15⟩
noncomputable def S15 (E : Env) : Fun := fun args h => aS args fun r0 args => a0 args (J15_0 E r0 h)
theorem S15_eq (E : Env) (args : List DV) (h : H) : runFn E D15 args h = S15 E args h :=
  Is.fn1 (d := D15) (I15_0 E) rfl (fun r0 h => J15_0 E r0 h) (fun r0 h => by kernel_rfl) args h
/- hurdle/hurdlelaw35.awake -/
def R16 : List RV := [(.r p0)]
noncomputable def J16_0 (E : Env) (h : H) : Ans :=
  wK (callK E 33 [(.int .i64 (.ofNat 4)), (.int .i64 (.ofNat 60)), (.int .i64 (.ofNat 3)), (.int .i64 (.ofNat 1))] h) fun x1 h2 =>
  wK (callK E 41 [x1] h2) fun x3 h4 =>
  vK (v_eqv .ptr false h4.get x1 .nilp) fun x5 =>
  gdK x5 false (fun kk => kk x3 h4) h4 fun x6 h7 =>
  gdK x5 false (fun kk => vK (v_eqv .ptr false h7.get x6 .nilp) fun v => kk v h7) h7 fun x8 h9 =>
  vK (v_pick x5 (.bool true) x8) fun x10 =>
  gdK x10 false (fun kk => wK (callK E 41 [.nilp] h9) kk) h9 fun x11 h12 =>
  gdK x10 false (fun kk => vK (v_eqv .ptr true h12.get x11 .nilp) fun v => kk v h12) h12 fun x13 h14 =>
  vK (v_pick x10 (.bool true) x13) fun x15 =>
  bK x15
  (some ((.bool false), h14))
  (wK (callK E 18 [x1, (.int .i64 (.ofNat 0)), (.str [97]), (.int .i64 (.negSucc 0))] h14) fun x16 h17 =>
  wK (callK E 18 [x1, (.int .i64 (.ofNat 0)), (.str [98, 98]), (.int .i64 (.negSucc 0))] h17) fun x18 h19 =>
  wK (callK E 18 [x1, (.int .i64 (.ofNat 0)), (.str [99, 99, 99]), (.int .i64 (.negSucc 0))] h19) fun x20 h21 =>
  wK (callK E 15 [x3] h21) fun x22 h23 =>
  wK (callK E 13 [x3, (.int .i64 (.ofNat 1))] h23) fun x24 h25 =>
  wK (callK E 11 [x3] h25) fun x26 h27 =>
  vK (v_ext 0 x26) fun x28 =>
  vK (v_ext 1 x26) fun x29 =>
  wK (callK E 12 [x3, (.int .i64 (.ofNat 2))] h27) fun x30 h31 =>
  vK (v_ext 0 x30) fun x32 =>
  vK (v_ext 1 x30) fun x33 =>
  wK (callK E 15 [x3] h31) fun x34 h35 =>
  wK (callK E 12 [x3, (.int .i64 (.ofNat 2))] h35) fun x36 h37 =>
  vK (v_ext 0 x36) fun x38 =>
  vK (v_ext 1 x36) fun x39 =>
  wK (callK E 15 [x3] h37) fun x40 h41 =>
  wK (callK E 6 [x1, (.int .i64 (.ofNat 2))] h41) fun x42 h43 =>
  vK (v_ext 0 x42) fun x44 =>
  vK (v_ext 1 x42) fun x45 =>
  vK (v_eql x22 (.int .i64 (.ofNat 16))) fun x46 =>
  gdK x46 true (fun kk => kk x24 h43) h43 fun x47 h48 =>
  gdK x46 true (fun kk => vK (v_eql x47 (.int .i64 (.ofNat 0))) fun v => kk v h48) h48 fun x49 h50 =>
  vK (v_pick x46 x49 (.bool false)) fun x51 =>
  gdK x51 true (fun kk => kk x28 h50) h50 fun x52 h53 =>
  gdK x51 true (fun kk => vK (v_eql x52 (.int .i64 (.ofNat 3))) fun v => kk v h53) h53 fun x54 h55 =>
  vK (v_pick x51 x54 (.bool false)) fun x56 =>
  gdK x56 true (fun kk => kk x29 h55) h55 fun x57 h58 =>
  gdK x56 true (fun kk => vK (v_eql x57 (.int .i64 (.ofNat 0))) fun v => kk v h58) h58 fun x59 h60 =>
  vK (v_pick x56 x59 (.bool false)) fun x61 =>
  gdK x61 true (fun kk => kk x32 h60) h60 fun x62 h63 =>
  gdK x61 true (fun kk => vK (v_eql x62 (.int .i64 (.ofNat 2))) fun v => kk v h63) h63 fun x64 h65 =>
  vK (v_pick x61 x64 (.bool false)) fun x66 =>
  gdK x66 true (fun kk => kk x33 h65) h65 fun x67 h68 =>
  gdK x66 true (fun kk => vK (v_eql x67 (.int .i64 (.ofNat 0))) fun v => kk v h68) h68 fun x69 h70 =>
  vK (v_pick x66 x69 (.bool false)) fun x71 =>
  gdK x71 true (fun kk => kk x34 h70) h70 fun x72 h73 =>
  gdK x71 true (fun kk => vK (v_eql x72 (.int .i64 (.ofNat 16))) fun v => kk v h73) h73 fun x74 h75 =>
  vK (v_pick x71 x74 (.bool false)) fun x76 =>
  gdK x76 true (fun kk => kk x38 h75) h75 fun x77 h78 =>
  gdK x76 true (fun kk => vK (v_eql x77 (.int .i64 (.ofNat 1))) fun v => kk v h78) h78 fun x79 h80 =>
  vK (v_pick x76 x79 (.bool false)) fun x81 =>
  gdK x81 true (fun kk => kk x39 h80) h80 fun x82 h83 =>
  gdK x81 true (fun kk => vK (v_eql x82 (.int .i64 (.ofNat 0))) fun v => kk v h83) h83 fun x84 h85 =>
  vK (v_pick x81 x84 (.bool false)) fun x86 =>
  gdK x86 true (fun kk => kk x40 h85) h85 fun x87 h88 =>
  gdK x86 true (fun kk => vK (v_eql x87 (.int .i64 (.ofNat 0))) fun v => kk v h88) h88 fun x89 h90 =>
  vK (v_pick x86 x89 (.bool false)) fun x91 =>
  gdK x91 true (fun kk => kk x44 h90) h90 fun x92 h93 =>
  gdK x91 true (fun kk => vK (v_eql x92 (.str [99, 99, 99])) fun v => kk v h93) h93 fun x94 h95 =>
  vK (v_pick x91 x94 (.bool false)) fun x96 =>
  gdK x96 true (fun kk => kk x45 h95) h95 fun x97 h98 =>
  gdK x96 true (fun kk => vK (v_eql x97 (.int .i64 (.ofNat 0))) fun v => kk v h98) h98 fun x99 h100 =>
  vK (v_pick x96 x99 (.bool false)) fun x101 =>
  gdK x101 true (fun kk => kk x1 h100) h100 fun x102 h103 =>
  gdK x101 true (fun kk => wK (callK E 9 [x102, (.int .i64 (.ofNat 0))] h103) kk) h103 fun x104 h105 =>
  gdK x101 true (fun kk => vK (v_eql x104 (.int .i64 (.ofNat 0))) fun v => kk v h105) h105 fun x106 h107 =>
  vK (v_pick x101 x106 (.bool false)) fun x108 =>
  some (x108, h107))
def C16_0 : DC := (.seq (.reg [⟨(some p0), none, (.e (.mv (.c (.bool false))))⟩]) (.seq (.reg [⟨(some p15), none, (.c (.f 33 [(.c (.int .i64 (.ofNat 4))), (.c (.int .i64 (.ofNat 60))), (.c (.int .i64 (.ofNat 3))), (.c (.int .i64 (.ofNat 1)))]))⟩, ⟨(some p1), none, (.e (.mv (.r p15)))⟩]) (.seq (.reg [⟨(some p16), none, (.e (.mv (.r p1)))⟩, ⟨(some p17), none, (.c (.f 41 [(.r p16)]))⟩, ⟨(some p2), none, (.e (.mv (.r p17)))⟩]) (.seq (.seq (.reg [⟨(some p18), none, (.e (.mv (.r p1)))⟩, ⟨(some p19), none, (.e (.eqv .ptr false (.r p18) (.c .nilp)))⟩, ⟨(some p20), none, (.e (.mv (.r p19)))⟩, ⟨(some p21), (some (p20, false)), (.e (.mv (.r p2)))⟩, ⟨(some p22), (some (p20, false)), (.e (.eqv .ptr false (.r p21) (.c .nilp)))⟩, ⟨(some p23), none, (.e (.pick (.r p20) (.c (.bool true)) (.r p22)))⟩, ⟨(some p24), none, (.e (.mv (.r p23)))⟩, ⟨(some p25), (some (p24, false)), (.c (.f 41 [(.c .nilp)]))⟩, ⟨(some p26), (some (p24, false)), (.e (.eqv .ptr true (.r p25) (.c .nilp)))⟩, ⟨(some p27), none, (.e (.pick (.r p24) (.c (.bool true)) (.r p26)))⟩]) (.cond (.r p27) (.seq (.reg [⟨(some p0), none, (.e (.mv (.c (.bool false))))⟩]) .ret) .skip)) (.seq (.reg [⟨(some p28), none, (.e (.mv (.r p1)))⟩, ⟨(some p29), none, (.c (.f 18 [(.r p28), (.c (.int .i64 (.ofNat 0))), (.c (.str [97])), (.c (.int .i64 (.negSucc 0)))]))⟩]) (.seq (.reg [⟨(some p30), none, (.e (.mv (.r p1)))⟩, ⟨(some p31), none, (.c (.f 18 [(.r p30), (.c (.int .i64 (.ofNat 0))), (.c (.str [98, 98])), (.c (.int .i64 (.negSucc 0)))]))⟩]) (.seq (.reg [⟨(some p32), none, (.e (.mv (.r p1)))⟩, ⟨(some p33), none, (.c (.f 18 [(.r p32), (.c (.int .i64 (.ofNat 0))), (.c (.str [99, 99, 99])), (.c (.int .i64 (.negSucc 0)))]))⟩]) (.seq (.reg [⟨(some p34), none, (.e (.mv (.r p2)))⟩, ⟨(some p35), none, (.c (.f 15 [(.r p34)]))⟩, ⟨(some p3), none, (.e (.mv (.r p35)))⟩]) (.seq (.reg [⟨(some p36), none, (.e (.mv (.r p2)))⟩, ⟨(some p37), none, (.c (.f 13 [(.r p36), (.c (.int .i64 (.ofNat 1)))]))⟩, ⟨(some p4), none, (.e (.mv (.r p37)))⟩]) (.seq (.reg [⟨(some p39), none, (.e (.mv (.r p2)))⟩, ⟨(some p40), none, (.c (.f 11 [(.r p39)]))⟩, ⟨(some p38), none, (.e (.mv (.r p40)))⟩, ⟨(some p41), none, (.e (.ext 0 (.r p38)))⟩, ⟨(some p42), none, (.e (.ext 1 (.r p38)))⟩, ⟨(some p5), none, (.e (.mv (.r p41)))⟩, ⟨(some p6), none, (.e (.mv (.r p42)))⟩]) (.seq (.reg [⟨(some p44), none, (.e (.mv (.r p2)))⟩, ⟨(some p45), none, (.c (.f 12 [(.r p44), (.c (.int .i64 (.ofNat 2)))]))⟩, ⟨(some p43), none, (.e (.mv (.r p45)))⟩, ⟨(some p46), none, (.e (.ext 0 (.r p43)))⟩, ⟨(some p47), none, (.e (.ext 1 (.r p43)))⟩, ⟨(some p7), none, (.e (.mv (.r p46)))⟩, ⟨(some p8), none, (.e (.mv (.r p47)))⟩]) (.seq (.reg [⟨(some p48), none, (.e (.mv (.r p2)))⟩, ⟨(some p49), none, (.c (.f 15 [(.r p48)]))⟩, ⟨(some p9), none, (.e (.mv (.r p49)))⟩]) (.seq (.reg [⟨(some p51), none, (.e (.mv (.r p2)))⟩, ⟨(some p52), none, (.c (.f 12 [(.r p51), (.c (.int .i64 (.ofNat 2)))]))⟩, ⟨(some p50), none, (.e (.mv (.r p52)))⟩, ⟨(some p53), none, (.e (.ext 0 (.r p50)))⟩, ⟨(some p54), none, (.e (.ext 1 (.r p50)))⟩, ⟨(some p10), none, (.e (.mv (.r p53)))⟩, ⟨(some p11), none, (.e (.mv (.r p54)))⟩]) (.seq (.reg [⟨(some p55), none, (.e (.mv (.r p2)))⟩, ⟨(some p56), none, (.c (.f 15 [(.r p55)]))⟩, ⟨(some p12), none, (.e (.mv (.r p56)))⟩]) (.seq (.reg [⟨(some p58), none, (.e (.mv (.r p1)))⟩, ⟨(some p59), none, (.c (.f 6 [(.r p58), (.c (.int .i64 (.ofNat 2)))]))⟩, ⟨(some p57), none, (.e (.mv (.r p59)))⟩, ⟨(some p60), none, (.e (.ext 0 (.r p57)))⟩, ⟨(some p61), none, (.e (.ext 1 (.r p57)))⟩, ⟨(some p13), none, (.e (.mv (.r p60)))⟩, ⟨(some p14), none, (.e (.mv (.r p61)))⟩]) (.seq (.reg [⟨(some p62), none, (.e (.mv (.r p3)))⟩, ⟨(some p63), none, (.e (.bin .eql (.r p62) (.c (.int .i64 (.ofNat 16)))))⟩, ⟨(some p64), none, (.e (.mv (.r p63)))⟩, ⟨(some p65), (some (p64, true)), (.e (.mv (.r p4)))⟩, ⟨(some p66), (some (p64, true)), (.e (.bin .eql (.r p65) (.c (.int .i64 (.ofNat 0)))))⟩, ⟨(some p67), none, (.e (.pick (.r p64) (.r p66) (.c (.bool false))))⟩, ⟨(some p68), none, (.e (.mv (.r p67)))⟩, ⟨(some p69), (some (p68, true)), (.e (.mv (.r p5)))⟩, ⟨(some p70), (some (p68, true)), (.e (.bin .eql (.r p69) (.c (.int .i64 (.ofNat 3)))))⟩, ⟨(some p71), none, (.e (.pick (.r p68) (.r p70) (.c (.bool false))))⟩, ⟨(some p72), none, (.e (.mv (.r p71)))⟩, ⟨(some p73), (some (p72, true)), (.e (.mv (.r p6)))⟩, ⟨(some p74), (some (p72, true)), (.e (.bin .eql (.r p73) (.c (.int .i64 (.ofNat 0)))))⟩, ⟨(some p75), none, (.e (.pick (.r p72) (.r p74) (.c (.bool false))))⟩, ⟨(some p76), none, (.e (.mv (.r p75)))⟩, ⟨(some p77), (some (p76, true)), (.e (.mv (.r p7)))⟩, ⟨(some p78), (some (p76, true)), (.e (.bin .eql (.r p77) (.c (.int .i64 (.ofNat 2)))))⟩, ⟨(some p79), none, (.e (.pick (.r p76) (.r p78) (.c (.bool false))))⟩, ⟨(some p80), none, (.e (.mv (.r p79)))⟩, ⟨(some p81), (some (p80, true)), (.e (.mv (.r p8)))⟩, ⟨(some p82), (some (p80, true)), (.e (.bin .eql (.r p81) (.c (.int .i64 (.ofNat 0)))))⟩, ⟨(some p83), none, (.e (.pick (.r p80) (.r p82) (.c (.bool false))))⟩, ⟨(some p84), none, (.e (.mv (.r p83)))⟩, ⟨(some p85), (some (p84, true)), (.e (.mv (.r p9)))⟩, ⟨(some p86), (some (p84, true)), (.e (.bin .eql (.r p85) (.c (.int .i64 (.ofNat 16)))))⟩, ⟨(some p87), none, (.e (.pick (.r p84) (.r p86) (.c (.bool false))))⟩, ⟨(some p88), none, (.e (.mv (.r p87)))⟩, ⟨(some p89), (some (p88, true)), (.e (.mv (.r p10)))⟩, ⟨(some p90), (some (p88, true)), (.e (.bin .eql (.r p89) (.c (.int .i64 (.ofNat 1)))))⟩, ⟨(some p91), none, (.e (.pick (.r p88) (.r p90) (.c (.bool false))))⟩, ⟨(some p92), none, (.e (.mv (.r p91)))⟩, ⟨(some p93), (some (p92, true)), (.e (.mv (.r p11)))⟩, ⟨(some p94), (some (p92, true)), (.e (.bin .eql (.r p93) (.c (.int .i64 (.ofNat 0)))))⟩, ⟨(some p95), none, (.e (.pick (.r p92) (.r p94) (.c (.bool false))))⟩, ⟨(some p96), none, (.e (.mv (.r p95)))⟩, ⟨(some p97), (some (p96, true)), (.e (.mv (.r p12)))⟩, ⟨(some p98), (some (p96, true)), (.e (.bin .eql (.r p97) (.c (.int .i64 (.ofNat 0)))))⟩, ⟨(some p99), none, (.e (.pick (.r p96) (.r p98) (.c (.bool false))))⟩, ⟨(some p100), none, (.e (.mv (.r p99)))⟩, ⟨(some p101), (some (p100, true)), (.e (.mv (.r p13)))⟩, ⟨(some p102), (some (p100, true)), (.e (.bin .eql (.r p101) (.c (.str [99, 99, 99]))))⟩, ⟨(some p103), none, (.e (.pick (.r p100) (.r p102) (.c (.bool false))))⟩, ⟨(some p104), none, (.e (.mv (.r p103)))⟩, ⟨(some p105), (some (p104, true)), (.e (.mv (.r p14)))⟩, ⟨(some p106), (some (p104, true)), (.e (.bin .eql (.r p105) (.c (.int .i64 (.ofNat 0)))))⟩, ⟨(some p107), none, (.e (.pick (.r p104) (.r p106) (.c (.bool false))))⟩, ⟨(some p108), none, (.e (.mv (.r p107)))⟩, ⟨(some p109), (some (p108, true)), (.e (.mv (.r p1)))⟩, ⟨(some p110), (some (p108, true)), (.c (.f 9 [(.r p109), (.c (.int .i64 (.ofNat 0)))]))⟩, ⟨(some p111), (some (p108, true)), (.e (.bin .eql (.r p110) (.c (.int .i64 (.ofNat 0)))))⟩, ⟨(some p112), none, (.e (.pick (.r p108) (.r p111) (.c (.bool false))))⟩, ⟨(some p0), none, (.e (.mv (.r p112)))⟩]) .ret))))))))))))))))
theorem I16_0 (E : Env) : Is E C16_0 (retK3 R16) (fun σ h => J16_0 E h) :=
  fun σ h => by kernel_rfl
def D16 : DF := ⟨0, 113, C16_0, R16⟩
noncomputable def S16 (E : Env) : Fun := fun args h => a0 args (J16_0 E h)
theorem S16_eq (E : Env) (args : List DV) (h : H) : runFn E D16 args h = S16 E args h :=
  Is.fn0 (d := D16) (I16_0 E) rfl (fun h => J16_0 E h) (fun h => by kernel_rfl) args h
/- (*hurdle/array.Array).Do -/
def R17 : List RV := [(.r p8), (.r p9)]
noncomputable def J17_1 (E : Env) (r0 r1 r10 : DV) (h : H) : Ans :=
  vK (v_ldN 8 h.get r10) fun x1 =>
  wK (callK E 42 [x1] h) fun x2 h3 =>
  vK (v_ext 0 x2) fun x4 =>
  vK (v_ext 1 x2) fun x5 =>
  vK (v_neq x5 (.int .i64 (.ofNat 0))) fun x6 =>
  bK x6
  (some ((.tup [(.int .i64 (.ofNat 1)), .nils]), h3))
  (vK (v_nilchk r0) fun x7 =>
  vK (v_fa 3 x7) fun x8 =>
  vK (v_iaA 16 1 x8 r1) fun x9 =>
  vK (v_ld h3.get x9) fun x10 =>
  vK (v_add x10 (.int .i64 (.ofNat 1))) fun x11 =>
  vK (v_nilchk r0) fun x12 =>
  vK (v_fa 3 x12) fun x13 =>
  vK (v_iaA 16 1 x13 r1) fun x14 =>
  wK (dStF 1 x14 x11 h3) fun x15 h16 =>
  vK (v_nilchk r0) fun x17 =>
  vK (v_fa 1 x17) fun x18 =>
  vK (v_ld h16.get x18) fun x19 =>
  wK (callK E 44 [x19, x4] h16) fun x20 h21 =>
  wK (callK E 43 [x20] h21) fun x22 h23 =>
  vK (v_ext 0 x22) fun x24 =>
  vK (v_ext 1 x22) fun x25 =>
  vK (v_ext 2 x22) fun x26 =>
  some ((.tup [x24, x25]), h23))
def C17_1 : DC := (.seq (.reg [⟨(some p61), none, (.e (.ldN 8 (.r p10)))⟩, ⟨(some p62), none, (.c (.f 42 [(.r p61)]))⟩, ⟨(some p60), none, (.e (.mv (.r p62)))⟩, ⟨(some p63), none, (.e (.ext 0 (.r p60)))⟩, ⟨(some p64), none, (.e (.ext 1 (.r p60)))⟩, ⟨(some p13), none, (.e (.mv (.r p63)))⟩, ⟨(some p14), none, (.e (.mv (.r p64)))⟩]) (.seq (.seq (.reg [⟨(some p65), none, (.e (.mv (.r p14)))⟩, ⟨(some p66), none, (.e (.bin .neq (.r p65) (.c (.int .i64 (.ofNat 0)))))⟩]) (.cond (.r p66) (.seq (.reg [⟨(some p8), none, (.e (.mv (.c (.int .i64 (.ofNat 1)))))⟩, ⟨(some p9), none, (.e (.mv (.c .nils)))⟩]) .ret) .skip)) (.seq (.drg [⟨0, ⟨(some p67), none, (.e (.mv (.r p0)))⟩, [], false⟩, ⟨1, ⟨(some p68), none, (.e (.mv (.r p1)))⟩, [], false⟩, ⟨2, ⟨(some p69), none, (.e (.nilchk (.r p67)))⟩, [], false⟩, ⟨3, ⟨(some p70), none, (.e (.fa 3 (.r p69)))⟩, [], false⟩, ⟨4, ⟨(some p71), none, (.e (.iaA 16 1 (.r p70) (.r p68)))⟩, [], false⟩, ⟨5, ⟨(some p72), none, (.e (.ld (.r p71)))⟩, [], false⟩, ⟨6, ⟨(some p73), none, (.e (.bin .add (.r p72) (.c (.int .i64 (.ofNat 1)))))⟩, [], false⟩, ⟨7, ⟨(some p74), none, (.e (.nilchk (.r p67)))⟩, [], false⟩, ⟨8, ⟨(some p75), none, (.e (.fa 3 (.r p74)))⟩, [], false⟩, ⟨9, ⟨(some p76), none, (.e (.iaA 16 1 (.r p75) (.r p68)))⟩, [], false⟩, ⟨10, ⟨none, none, (.w (.st 1 (.r p76) (.r p73)))⟩, [], false⟩]) (.seq (.reg [⟨(some p78), none, (.e (.mv (.r p0)))⟩, ⟨(some p79), none, (.e (.nilchk (.r p78)))⟩, ⟨(some p80), none, (.e (.fa 1 (.r p79)))⟩, ⟨(some p81), none, (.e (.ld (.r p80)))⟩, ⟨(some p82), none, (.e (.mv (.r p13)))⟩, ⟨(some p83), none, (.c (.f 44 [(.r p81), (.r p82)]))⟩, ⟨(some p84), none, (.c (.f 43 [(.r p83)]))⟩, ⟨(some p77), none, (.e (.mv (.r p84)))⟩, ⟨(some p85), none, (.e (.ext 0 (.r p77)))⟩, ⟨(some p86), none, (.e (.ext 1 (.r p77)))⟩, ⟨(some p87), none, (.e (.ext 2 (.r p77)))⟩, ⟨(some p15), none, (.e (.mv (.r p85)))⟩, ⟨(some p16), none, (.e (.mv (.r p86)))⟩, ⟨(some p17), none, (.e (.mv (.r p87)))⟩]) (.seq (.reg [⟨(some p88), none, (.e (.mv (.r p15)))⟩, ⟨(some p89), none, (.e (.mv (.r p16)))⟩, ⟨(some p8), none, (.e (.mv (.r p88)))⟩, ⟨(some p9), none, (.e (.mv (.r p89)))⟩]) .ret)))))
noncomputable def J17_3 (E : Env) (i2 : DV → H → Ans) (r44 : DV) (h : H) : Ans :=
  vK (v_add r44 (.int .i64 (.ofNat 1))) fun x1 =>
  i2 x1 h
def C17_3 : DC := (.reg [⟨(some p59), none, (.e (.bin .add (.r p44) (.c (.int .i64 (.ofNat 1)))))⟩, ⟨(some p44), none, (.e (.mv (.r p59)))⟩])
noncomputable def B17_2 (E : Env) (r0 r1 r3 r10 r42 r43 : DV) (i2 : DV → H → Ans) (r44 : DV) (h : H) : Ans :=
  vK (v_lss r44 r43) fun x1 =>
  bK x1
  (vK (v_iaS 1 r42 r44) fun x2 =>
  vK (v_ld h.get x2) fun x3 =>
  vK (v_lenL r3) fun x4 =>
  vK (v_lss r44 x4) fun x5 =>
  bK x5
  (vK (v_iaS 1 r3 r44) fun x6 =>
  vK (v_ld h.get x6) fun x7 =>
  vK (v_nilchk x3) fun x8 =>
  wK (dStF 1 x8 x7 h) fun x9 h10 =>
  J17_3 E i2 r44 h10)
  (J17_3 E i2 r44 h))
  (J17_1 E r0 r1 r10 h)
noncomputable def L17_2 (E : Env) (r0 r1 r3 r10 r42 r43 : DV) (n : Nat) : DV → H → Ans := Nat.rec (motive := fun _ => DV → H → Ans) (fun _ _ => none) (fun _ i => B17_2 E r0 r1 r3 r10 r42 r43 i) n
def C17_2 : DC := (.loop (.seq (.reg [⟨(some p45), none, (.e (.bin .lss (.r p44) (.r p43)))⟩]) (.seq (.cond (.r p45) .skip (.exit 0)) (.seq (.block 1 (.seq (.reg [⟨(some p46), none, (.e (.mv (.r p44)))⟩, ⟨(some p47), none, (.e (.iaS 1 (.r p42) (.r p44)))⟩, ⟨(some p48), none, (.e (.ld (.r p47)))⟩, ⟨(some p11), none, (.e (.mv (.r p46)))⟩, ⟨(some p12), none, (.e (.mv (.r p48)))⟩]) (.seq (.reg [⟨(some p49), none, (.e (.mv (.r p11)))⟩, ⟨(some p50), none, (.e (.mv (.r p3)))⟩, ⟨(some p51), none, (.e (.lenL (.r p50)))⟩, ⟨(some p52), none, (.e (.bin .lss (.r p49) (.r p51)))⟩]) (.cond (.r p52) (.reg [⟨(some p53), none, (.e (.mv (.r p12)))⟩, ⟨(some p54), none, (.e (.mv (.r p3)))⟩, ⟨(some p55), none, (.e (.mv (.r p11)))⟩, ⟨(some p56), none, (.e (.iaS 1 (.r p54) (.r p55)))⟩, ⟨(some p57), none, (.e (.ld (.r p56)))⟩, ⟨(some p58), none, (.e (.nilchk (.r p53)))⟩, ⟨none, none, (.w (.st 1 (.r p58) (.r p57)))⟩]) .skip)))) C17_3))))
noncomputable def J17_0 (E : Env) (r0 r1 r2 r3 : DV) (h : H) : Ans :=
  vK (v_eqv .ptr false h.get r0 .nilp) fun x1 =>
  gdK x1 false (fun kk => kk r1 h) h fun x2 h3 =>
  gdK x1 false (fun kk => vK (v_lss x2 (.int .i64 (.ofNat 0))) fun v => kk v h3) h3 fun x4 h5 =>
  vK (v_pick x1 (.bool true) x4) fun x6 =>
  gdK x6 false (fun kk => kk r1 h5) h5 fun x7 h8 =>
  gdK x6 false (fun kk => vK (v_geq x7 (.int .i64 (.ofNat 16))) fun v => kk v h8) h8 fun x9 h10 =>
  vK (v_pick x6 (.bool true) x9) fun x11 =>
  bK x11
  (some ((.tup [(.int .i64 (.ofNat 1)), .nils]), h10))
  (vK (v_nilchk r0) fun x12 =>
  vK (v_fa 3 x12) fun x13 =>
  vK (v_iaA 16 1 x13 r1) fun x14 =>
  vK (v_ld h10.get x14) fun x15 =>
  vK (v_bld [(.int .i64 (.ofNat 0)), (.int .i64 (.ofNat 0)), (.int .i64 (.ofNat 0)), (.int .i64 (.ofNat 0)), (.int .i64 (.ofNat 0)), (.int .i64 (.ofNat 0)), (.int .i64 (.ofNat 0)), (.int .i64 (.ofNat 0))] [(0, 1, r1), (1, 1, x15), (2, 1, r2)]) fun x16 =>
  n_alc 8 8 (.list [(.int .i64 (.ofNat 0)), (.int .i64 (.ofNat 0)), (.int .i64 (.ofNat 0)), (.int .i64 (.ofNat 0)), (.int .i64 (.ofNat 0)), (.int .i64 (.ofNat 0)), (.int .i64 (.ofNat 0)), (.int .i64 (.ofNat 0))]) h10 fun x17 h18 =>
  wK (dStF 8 x17 x16 h18) fun x19 h20 =>
  vK (v_fa 3 x17) fun x21 =>
  vK (v_fa 4 x17) fun x22 =>
  vK (v_fa 5 x17) fun x23 =>
  vK (v_fa 6 x17) fun x24 =>
  vK (v_fa 7 x17) fun x25 =>
  n_bsl 5 1 [.nilp] [(0, 1, x21), (1, 1, x22), (2, 1, x23), (3, 1, x24), (4, 1, x25)] h20 fun x26 h27 =>
  vK (v_lenL x26) fun x28 =>
  L17_2 E r0 r1 r3 x17 x26 x28 FUEL (.int .i64 (.ofNat 0)) h27)
def C17_0 : DC := (.seq (.reg [⟨(some p8), none, (.e (.mv (.c (.int .i64 (.ofNat 0)))))⟩, ⟨(some p9), none, (.e (.mv (.c .nils)))⟩]) (.seq (.seq (.reg [⟨(some p18), none, (.e (.mv (.r p0)))⟩, ⟨(some p19), none, (.e (.eqv .ptr false (.r p18) (.c .nilp)))⟩, ⟨(some p20), none, (.e (.mv (.r p19)))⟩, ⟨(some p21), (some (p20, false)), (.e (.mv (.r p1)))⟩, ⟨(some p22), (some (p20, false)), (.e (.bin .lss (.r p21) (.c (.int .i64 (.ofNat 0)))))⟩, ⟨(some p23), none, (.e (.pick (.r p20) (.c (.bool true)) (.r p22)))⟩, ⟨(some p24), none, (.e (.mv (.r p23)))⟩, ⟨(some p25), (some (p24, false)), (.e (.mv (.r p1)))⟩, ⟨(some p26), (some (p24, false)), (.e (.bin .geq (.r p25) (.c (.int .i64 (.ofNat 16)))))⟩, ⟨(some p27), none, (.e (.pick (.r p24) (.c (.bool true)) (.r p26)))⟩]) (.cond (.r p27) (.seq (.reg [⟨(some p8), none, (.e (.mv (.c (.int .i64 (.ofNat 1)))))⟩, ⟨(some p9), none, (.e (.mv (.c .nils)))⟩]) .ret) .skip)) (.seq (.reg [⟨(some p28), none, (.e (.mv (.r p1)))⟩, ⟨(some p29), none, (.e (.mv (.r p0)))⟩, ⟨(some p30), none, (.e (.mv (.r p1)))⟩, ⟨(some p31), none, (.e (.nilchk (.r p29)))⟩, ⟨(some p32), none, (.e (.fa 3 (.r p31)))⟩, ⟨(some p33), none, (.e (.iaA 16 1 (.r p32) (.r p30)))⟩, ⟨(some p34), none, (.e (.ld (.r p33)))⟩, ⟨(some p35), none, (.e (.mv (.r p2)))⟩, ⟨(some p36), none, (.e (.bld [(.int .i64 (.ofNat 0)), (.int .i64 (.ofNat 0)), (.int .i64 (.ofNat 0)), (.int .i64 (.ofNat 0)), (.int .i64 (.ofNat 0)), (.int .i64 (.ofNat 0)), (.int .i64 (.ofNat 0)), (.int .i64 (.ofNat 0))] [(0, 1, (.r p28)), (1, 1, (.r p34)), (2, 1, (.r p35))]))⟩, ⟨(some p10), none, (.e (.alc 8 8 (.list [(.int .i64 (.ofNat 0)), (.int .i64 (.ofNat 0)), (.int .i64 (.ofNat 0)), (.int .i64 (.ofNat 0)), (.int .i64 (.ofNat 0)), (.int .i64 (.ofNat 0)), (.int .i64 (.ofNat 0)), (.int .i64 (.ofNat 0))])))⟩, ⟨none, none, (.w (.st 8 (.r p10) (.r p36)))⟩]) (.seq (.seq (.reg [⟨(some p37), none, (.e (.fa 3 (.r p10)))⟩, ⟨(some p38), none, (.e (.fa 4 (.r p10)))⟩, ⟨(some p39), none, (.e (.fa 5 (.r p10)))⟩, ⟨(some p40), none, (.e (.fa 6 (.r p10)))⟩, ⟨(some p41), none, (.e (.fa 7 (.r p10)))⟩, ⟨(some p42), none, (.e (.bsl 5 1 [.nilp] [(0, 1, (.r p37)), (1, 1, (.r p38)), (2, 1, (.r p39)), (3, 1, (.r p40)), (4, 1, (.r p41))]))⟩, ⟨(some p43), none, (.e (.lenL (.r p42)))⟩, ⟨(some p44), none, (.e (.mv (.c (.int .i64 (.ofNat 0)))))⟩]) (.block 0 C17_2)) C17_1))))
theorem I17_1 (E : Env) : Is E C17_1 (retK3 R17) (fun σ h => J17_1 E (σ p0) (σ p1) (σ p10) h) :=
  fun σ h => by kernel_rfl
noncomputable abbrev K17_4 (E : Env) : KT2 (DV × H) := (thenK3 (fun σ h => J17_1 E (σ p0) (σ p1) (σ p10) h) (retK3 R17))
noncomputable abbrev K17_5 (E : Env) (n2 : Nat) : KT2 (DV × H) := (thenK3 (fun σ h => (L17_2 E (σ p0) (σ p1) (σ p3) (σ p10) (σ p42) (σ p43) n2) (σ p44) h) (blockK3 0 (K17_4 E)))
theorem I17_3 (E : Env) (n2 : Nat) : Is E C17_3 (K17_5 E n2) (fun σ h => J17_3 E (L17_2 E (σ p0) (σ p1) (σ p3) (σ p10) (σ p42) (σ p43) n2) (σ p44) h) :=
  fun σ h => by kernel_rfl
theorem I17_2 (E : Env) : Is E C17_2 (blockK3 0 (K17_4 E)) (fun σ h => L17_2 E (σ p0) (σ p1) (σ p3) (σ p10) (σ p42) (σ p43) FUEL (σ p44) h) :=
  Is.loop (fun n2 σ h => L17_2 E (σ p0) (σ p1) (σ p3) (σ p10) (σ p42) (σ p43) n2 (σ p44) h) (by kernel_rfl) fun n2 => Is.as (Is.seq (Is.seq (Is.seq (I17_3 E n2) (Is.leaf _)) (Is.leaf _)) (Is.leaf _)) fun σ h => by kernel_rfl
theorem I17_0 (E : Env) : Is E C17_0 (retK3 R17) (fun σ h => J17_0 E (σ p0) (σ p1) (σ p2) (σ p3) h) :=
  Is.as (Is.seq (Is.seq (Is.seq (Is.seq (I17_1 E) (Is.seq (Is.block (I17_2 E)) (Is.leaf _))) (Is.leaf _)) (Is.leaf _)) (Is.leaf _)) fun σ h => by kernel_rfl
def D17 : DF := ⟨4, 90, C17_0, R17⟩
noncomputable def S17 (E : Env) : Fun := fun args h => aS args fun r0 args => aS args fun r1 args => aS args fun r2 args => aS args fun r3 args => a0 args (J17_0 E r0 r1 r2 r3 h)
theorem S17_eq (E : Env) (args : List DV) (h : H) : runFn E D17 args h = S17 E args h :=
  Is.fn4 (d := D17) (I17_0 E) rfl (fun r0 r1 r2 r3 h => J17_0 E r0 r1 r2 r3 h) (fun r0 r1 r2 r3 h => by kernel_rfl) args h
/- (*hurdle/array.Array).Write -/
def R18 : List RV := [(.r p8), (.r p9)]
noncomputable def J18_1 (E : Env) (r0 r1 r3 r12 r13 : DV) (h : H) : Ans :=
  vK (v_eql r13 r3) fun x1 =>
  bK x1
  (some ((.tup [(.int .i64 (.ofNat 0)), (.int .i64 (.ofNat 16))]), h))
  (n_bsl 1 1 [(.int .i64 (.ofNat 0))] [(0, 1, r12)] h fun x2 h3 =>
  wK (callK E 17 [r0, r1, (.int .i64 (.ofNat 2)), x2] h3) fun x4 h5 =>
  vK (v_ext 0 x4) fun x6 =>
  vK (v_ext 1 x4) fun x7 =>
  vK (v_neq x6 (.int .i64 (.ofNat 0))) fun x8 =>
  bK x8
  (some ((.tup [(.int .i64 (.ofNat 0)), x6]), h5))
  (some ((.tup [r12, (.int .i64 (.ofNat 0))]), h5)))
def C18_1 : DC := (.seq (.seq (.reg [⟨(some p100), none, (.e (.mv (.r p13)))⟩, ⟨(some p101), none, (.e (.mv (.r p3)))⟩, ⟨(some p102), none, (.e (.bin .eql (.r p100) (.r p101)))⟩]) (.cond (.r p102) (.seq (.reg [⟨(some p8), none, (.e (.mv (.c (.int .i64 (.ofNat 0)))))⟩, ⟨(some p9), none, (.e (.mv (.c (.int .i64 (.ofNat 16)))))⟩]) .ret) .skip)) (.seq (.seq (.reg [⟨(some p104), none, (.e (.mv (.r p0)))⟩, ⟨(some p105), none, (.e (.mv (.r p1)))⟩, ⟨(some p106), none, (.e (.mv (.r p12)))⟩, ⟨(some p107), none, (.e (.bsl 1 1 [(.int .i64 (.ofNat 0))] [(0, 1, (.r p106))]))⟩, ⟨(some p108), none, (.c (.f 17 [(.r p104), (.r p105), (.c (.int .i64 (.ofNat 2))), (.r p107)]))⟩, ⟨(some p103), none, (.e (.mv (.r p108)))⟩, ⟨(some p109), none, (.e (.ext 0 (.r p103)))⟩, ⟨(some p110), none, (.e (.ext 1 (.r p103)))⟩, ⟨(some p19), none, (.e (.mv (.r p109)))⟩, ⟨(some p20), none, (.e (.mv (.r p110)))⟩]) (.seq (.reg [⟨(some p111), none, (.e (.mv (.r p19)))⟩, ⟨(some p112), none, (.e (.bin .neq (.r p111) (.c (.int .i64 (.ofNat 0)))))⟩]) (.cond (.r p112) (.seq (.reg [⟨(some p113), none, (.e (.mv (.r p19)))⟩, ⟨(some p8), none, (.e (.mv (.c (.int .i64 (.ofNat 0)))))⟩, ⟨(some p9), none, (.e (.mv (.r p113)))⟩]) .ret) .skip))) (.seq (.reg [⟨(some p114), none, (.e (.mv (.r p12)))⟩, ⟨(some p8), none, (.e (.mv (.r p114)))⟩, ⟨(some p9), none, (.e (.mv (.c (.int .i64 (.ofNat 0)))))⟩]) .ret)))
noncomputable def J18_3 (E : Env) (i2 : DV → DV → DV → H → Ans) (r13 r14 r71 : DV) (h : H) : Ans :=
  vK (v_add r71 (.int .i64 (.ofNat 1))) fun x1 =>
  i2 r13 r14 x1 h
def C18_3 : DC := (.reg [⟨(some p99), none, (.e (.bin .add (.r p71) (.c (.int .i64 (.ofNat 1)))))⟩, ⟨(some p71), none, (.e (.mv (.r p99)))⟩])
noncomputable def J18_4 (E : Env) (i2 : DV → DV → DV → H → Ans) (r0 r1 r12 r13 r14 r71 : DV) (h : H) : Ans :=
  vK (v_gtr r14 (.int .i64 (.ofNat 1))) fun x1 =>
  bK x1
  (n_bsl 1 1 [(.int .i64 (.ofNat 0))] [(0, 1, r12)] h fun x2 h3 =>
  wK (callK E 17 [r0, r1, (.int .i64 (.ofNat 3)), x2] h3) fun x4 h5 =>
  wK (callK E 46 [r0, r12] h5) fun x6 h7 =>
  some ((.tup [(.int .i64 (.ofNat 0)), (.int .i64 (.ofNat 9))]), h7))
  (J18_3 E i2 r13 r14 r71 h)
def C18_4 : DC := (.seq (.reg [⟨(some p89), none, (.e (.mv (.r p14)))⟩, ⟨(some p90), none, (.e (.bin .gtr (.r p89) (.c (.int .i64 (.ofNat 1)))))⟩]) (.cond (.r p90) (.seq (.reg [⟨(some p91), none, (.e (.mv (.r p0)))⟩, ⟨(some p92), none, (.e (.mv (.r p1)))⟩, ⟨(some p93), none, (.e (.mv (.r p12)))⟩, ⟨(some p94), none, (.e (.bsl 1 1 [(.int .i64 (.ofNat 0))] [(0, 1, (.r p93))]))⟩, ⟨(some p95), none, (.c (.f 17 [(.r p91), (.r p92), (.c (.int .i64 (.ofNat 3))), (.r p94)]))⟩]) (.seq (.reg [⟨(some p96), none, (.e (.mv (.r p0)))⟩, ⟨(some p97), none, (.e (.mv (.r p12)))⟩, ⟨(some p98), none, (.c (.f 46 [(.r p96), (.r p97)]))⟩]) (.seq (.reg [⟨(some p8), none, (.e (.mv (.c (.int .i64 (.ofNat 0)))))⟩, ⟨(some p9), none, (.e (.mv (.c (.int .i64 (.ofNat 9)))))⟩]) .ret))) .skip))
noncomputable def B18_2 (E : Env) (r0 r1 r3 r12 r69 r70 : DV) (i2 : DV → DV → DV → H → Ans) (r13 r14 r71 : DV) (h : H) : Ans :=
  vK (v_lss r71 r70) fun x1 =>
  bK x1
  (vK (v_iaS 1 r69 r71) fun x2 =>
  vK (v_ld h.get x2) fun x3 =>
  vK (v_eql r13 r3) fun x4 =>
  bK x4
  (some ((.tup [(.int .i64 (.ofNat 0)), (.int .i64 (.ofNat 16))]), h))
  (vK (v_add r13 (.int .i64 (.ofNat 1))) fun x5 =>
  wK (callK E 20 [r0, r12, r71, x3] h) fun x6 h7 =>
  vK (v_neq x6 (.int .i64 (.ofNat 0))) fun x8 =>
  bK x8
  (vK (v_add r14 (.int .i64 (.ofNat 1))) fun x9 =>
  J18_4 E i2 r0 r1 r12 x5 x9 r71 h7)
  (J18_4 E i2 r0 r1 r12 x5 r14 r71 h7)))
  (J18_1 E r0 r1 r3 r12 r13 h)
noncomputable def L18_2 (E : Env) (r0 r1 r3 r12 r69 r70 : DV) (n : Nat) : DV → DV → DV → H → Ans := Nat.rec (motive := fun _ => DV → DV → DV → H → Ans) (fun _ _ _ _ => none) (fun _ i => B18_2 E r0 r1 r3 r12 r69 r70 i) n
def C18_2 : DC := (.loop (.seq (.reg [⟨(some p72), none, (.e (.bin .lss (.r p71) (.r p70)))⟩]) (.seq (.cond (.r p72) .skip (.exit 1)) (.seq (.block 2 (.seq (.reg [⟨(some p73), none, (.e (.mv (.r p71)))⟩, ⟨(some p74), none, (.e (.iaS 1 (.r p69) (.r p71)))⟩, ⟨(some p75), none, (.e (.ld (.r p74)))⟩, ⟨(some p17), none, (.e (.mv (.r p73)))⟩, ⟨(some p18), none, (.e (.mv (.r p75)))⟩]) (.seq (.seq (.reg [⟨(some p76), none, (.e (.mv (.r p13)))⟩, ⟨(some p77), none, (.e (.mv (.r p3)))⟩, ⟨(some p78), none, (.e (.bin .eql (.r p76) (.r p77)))⟩]) (.cond (.r p78) (.seq (.reg [⟨(some p8), none, (.e (.mv (.c (.int .i64 (.ofNat 0)))))⟩, ⟨(some p9), none, (.e (.mv (.c (.int .i64 (.ofNat 16)))))⟩]) .ret) .skip)) (.seq (.reg [⟨(some p79), none, (.e (.mv (.r p13)))⟩, ⟨(some p80), none, (.e (.bin .add (.r p79) (.c (.int .i64 (.ofNat 1)))))⟩, ⟨(some p13), none, (.e (.mv (.r p80)))⟩]) (.seq (.seq (.reg [⟨(some p81), none, (.e (.mv (.r p0)))⟩, ⟨(some p82), none, (.e (.mv (.r p12)))⟩, ⟨(some p83), none, (.e (.mv (.r p17)))⟩, ⟨(some p84), none, (.e (.mv (.r p18)))⟩, ⟨(some p85), none, (.c (.f 20 [(.r p81), (.r p82), (.r p83), (.r p84)]))⟩, ⟨(some p86), none, (.e (.bin .neq (.r p85) (.c (.int .i64 (.ofNat 0)))))⟩]) (.cond (.r p86) (.reg [⟨(some p87), none, (.e (.mv (.r p14)))⟩, ⟨(some p88), none, (.e (.bin .add (.r p87) (.c (.int .i64 (.ofNat 1)))))⟩, ⟨(some p14), none, (.e (.mv (.r p88)))⟩]) .skip)) C18_4))))) C18_3))))
noncomputable def J18_0 (E : Env) (r0 r1 r2 r3 : DV) (h : H) : Ans :=
  vK (v_eqv .ptr false h.get r0 .nilp) fun x1 =>
  gdK x1 false (fun kk => kk r1 h) h fun x2 h3 =>
  gdK x1 false (fun kk => vK (v_lss x2 (.int .i64 (.ofNat 0))) fun v => kk v h3) h3 fun x4 h5 =>
  vK (v_pick x1 (.bool true) x4) fun x6 =>
  gdK x6 false (fun kk => kk r1 h5) h5 fun x7 h8 =>
  gdK x6 false (fun kk => vK (v_geq x7 (.int .i64 (.ofNat 16))) fun v => kk v h8) h8 fun x9 h10 =>
  vK (v_pick x6 (.bool true) x9) fun x11 =>
  bK x11
  (some ((.tup [(.int .i64 (.ofNat 0)), (.int .i64 (.ofNat 1))]), h10))
  (vK (v_eql r2 (.str [])) fun x12 =>
  gdK x12 false (fun kk => kk r2 h10) h10 fun x13 h14 =>
  gdK x12 false (fun kk => vK (v_lenS x13) fun v => kk v h14) h14 fun x15 h16 =>
  gdK x12 false (fun kk => kk r0 h16) h16 fun x17 h18 =>
  gdK x12 false (fun kk => wK (callK E 25 [x17] h18) kk) h18 fun x19 h20 =>
  gdK x12 false (fun kk => vK (v_gtr x15 x19) fun v => kk v h20) h20 fun x21 h22 =>
  vK (v_pick x12 (.bool true) x21) fun x23 =>
  bK x23
  (some ((.tup [(.int .i64 (.ofNat 0)), (.int .i64 (.ofNat 2))]), h22))
  (vK (v_eql r3 (.int .i64 (.ofNat 0))) fun x24 =>
  bK x24
  (some ((.tup [(.int .i64 (.ofNat 0)), (.int .i64 (.ofNat 16))]), h22))
  (vK (v_lenS r2) fun x25 =>
  n_bsl 1 1 [(.int .i64 (.ofNat 0))] [(0, 1, x25)] h22 fun x26 h27 =>
  wK (callK E 17 [r0, r1, (.int .i64 (.ofNat 1)), x26] h27) fun x28 h29 =>
  vK (v_ext 0 x28) fun x30 =>
  vK (v_ext 1 x28) fun x31 =>
  vK (v_neq x30 (.int .i64 (.ofNat 0))) fun x32 =>
  bK x32
  (some ((.tup [(.int .i64 (.ofNat 0)), x30]), h29))
  (vK (v_iaS 1 x31 (.int .i64 (.ofNat 0))) fun x33 =>
  vK (v_ld h29.get x33) fun x34 =>
  vK (v_nilchk r0) fun x35 =>
  vK (v_fa 2 x35) fun x36 =>
  vK (v_ld h29.get x36) fun x37 =>
  wK (callK E 45 [r2, x37] h29) fun x38 h39 =>
  vK (v_ext 0 x38) fun x40 =>
  vK (v_ext 1 x38) fun x41 =>
  vK (v_lenL x40) fun x42 =>
  L18_2 E r0 r1 r3 x34 x40 x42 FUEL (.int .i64 (.ofNat 1)) (.int .i64 (.ofNat 0)) (.int .i64 (.ofNat 0)) h39))))
def C18_0 : DC := (.seq (.reg [⟨(some p8), none, (.e (.mv (.c (.int .i64 (.ofNat 0)))))⟩, ⟨(some p9), none, (.e (.mv (.c (.int .i64 (.ofNat 0)))))⟩]) (.seq (.block 0 (.seq (.reg [⟨(some p22), none, (.e (.mv (.r p0)))⟩, ⟨(some p23), none, (.e (.eqv .ptr false (.r p22) (.c .nilp)))⟩, ⟨(some p24), none, (.e (.mv (.r p23)))⟩, ⟨(some p25), (some (p24, false)), (.e (.mv (.r p1)))⟩, ⟨(some p26), (some (p24, false)), (.e (.bin .lss (.r p25) (.c (.int .i64 (.ofNat 0)))))⟩, ⟨(some p27), none, (.e (.pick (.r p24) (.c (.bool true)) (.r p26)))⟩, ⟨(some p28), none, (.e (.mv (.r p27)))⟩, ⟨(some p29), (some (p28, false)), (.e (.mv (.r p1)))⟩, ⟨(some p30), (some (p28, false)), (.e (.bin .geq (.r p29) (.c (.int .i64 (.ofNat 16)))))⟩, ⟨(some p31), none, (.e (.pick (.r p28) (.c (.bool true)) (.r p30)))⟩, ⟨(some p21), none, (.e (.mv (.r p31)))⟩]) (.cond (.r p21) (.seq (.reg [⟨(some p8), none, (.e (.mv (.c (.int .i64 (.ofNat 0)))))⟩, ⟨(some p9), none, (.e (.mv (.c (.int .i64 (.ofNat 1)))))⟩]) .ret) (.seq (.reg [⟨(some p33), none, (.e (.mv (.r p2)))⟩, ⟨(some p34), none, (.e (.bin .eql (.r p33) (.c (.str []))))⟩, ⟨(some p35), none, (.e (.mv (.r p34)))⟩, ⟨(some p36), (some (p35, false)), (.e (.mv (.r p2)))⟩, ⟨(some p37), (some (p35, false)), (.e (.lenS (.r p36)))⟩, ⟨(some p38), (some (p35, false)), (.e (.mv (.r p0)))⟩, ⟨(some p39), (some (p35, false)), (.c (.f 25 [(.r p38)]))⟩, ⟨(some p40), (some (p35, false)), (.e (.bin .gtr (.r p37) (.r p39)))⟩, ⟨(some p41), none, (.e (.pick (.r p35) (.c (.bool true)) (.r p40)))⟩, ⟨(some p32), none, (.e (.mv (.r p41)))⟩]) (.cond (.r p32) (.seq (.reg [⟨(some p8), none, (.e (.mv (.c (.int .i64 (.ofNat 0)))))⟩, ⟨(some p9), none, (.e (.mv (.c (.int .i64 (.ofNat 2)))))⟩]) .ret) (.seq (.reg [⟨(some p43), none, (.e (.mv (.r p3)))⟩, ⟨(some p44), none, (.e (.bin .eql (.r p43) (.c (.int .i64 (.ofNat 0)))))⟩, ⟨(some p42), none, (.e (.mv (.r p44)))⟩]) (.cond (.r p42) (.seq (.reg [⟨(some p8), none, (.e (.mv (.c (.int .i64 (.ofNat 0)))))⟩, ⟨(some p9), none, (.e (.mv (.c (.int .i64 (.ofNat 16)))))⟩]) .ret) .skip))))))) (.seq (.reg [⟨(some p46), none, (.e (.mv (.r p0)))⟩, ⟨(some p47), none, (.e (.mv (.r p1)))⟩, ⟨(some p48), none, (.e (.mv (.r p2)))⟩, ⟨(some p49), none, (.e (.lenS (.r p48)))⟩, ⟨(some p50), none, (.e (.bsl 1 1 [(.int .i64 (.ofNat 0))] [(0, 1, (.r p49))]))⟩, ⟨(some p51), none, (.c (.f 17 [(.r p46), (.r p47), (.c (.int .i64 (.ofNat 1))), (.r p50)]))⟩, ⟨(some p45), none, (.e (.mv (.r p51)))⟩, ⟨(some p52), none, (.e (.ext 0 (.r p45)))⟩, ⟨(some p53), none, (.e (.ext 1 (.r p45)))⟩, ⟨(some p10), none, (.e (.mv (.r p52)))⟩, ⟨(some p11), none, (.e (.mv (.r p53)))⟩]) (.seq (.seq (.reg [⟨(some p54), none, (.e (.mv (.r p10)))⟩, ⟨(some p55), none, (.e (.bin .neq (.r p54) (.c (.int .i64 (.ofNat 0)))))⟩]) (.cond (.r p55) (.seq (.reg [⟨(some p56), none, (.e (.mv (.r p10)))⟩, ⟨(some p8), none, (.e (.mv (.c (.int .i64 (.ofNat 0)))))⟩, ⟨(some p9), none, (.e (.mv (.r p56)))⟩]) .ret) .skip)) (.seq (.reg [⟨(some p57), none, (.e (.mv (.r p11)))⟩, ⟨(some p58), none, (.e (.iaS 1 (.r p57) (.c (.int .i64 (.ofNat 0)))))⟩, ⟨(some p59), none, (.e (.ld (.r p58)))⟩, ⟨(some p12), none, (.e (.mv (.r p59)))⟩, ⟨(some p13), none, (.e (.mv (.c (.int .i64 (.ofNat 1)))))⟩, ⟨(some p14), none, (.e (.mv (.c (.int .i64 (.ofNat 0)))))⟩]) (.seq (.reg [⟨(some p61), none, (.e (.mv (.r p2)))⟩, ⟨(some p62), none, (.e (.mv (.r p0)))⟩, ⟨(some p63), none, (.e (.nilchk (.r p62)))⟩, ⟨(some p64), none, (.e (.fa 2 (.r p63)))⟩, ⟨(some p65), none, (.e (.ld (.r p64)))⟩, ⟨(some p66), none, (.c (.f 45 [(.r p61), (.r p65)]))⟩, ⟨(some p60), none, (.e (.mv (.r p66)))⟩, ⟨(some p67), none, (.e (.ext 0 (.r p60)))⟩, ⟨(some p68), none, (.e (.ext 1 (.r p60)))⟩, ⟨(some p15), none, (.e (.mv (.r p67)))⟩, ⟨(some p16), none, (.e (.mv (.r p68)))⟩]) (.seq (.seq (.reg [⟨(some p69), none, (.e (.mv (.r p15)))⟩, ⟨(some p70), none, (.e (.lenL (.r p69)))⟩, ⟨(some p71), none, (.e (.mv (.c (.int .i64 (.ofNat 0)))))⟩]) (.block 1 C18_2)) C18_1)))))))
theorem I18_1 (E : Env) : Is E C18_1 (retK3 R18) (fun σ h => J18_1 E (σ p0) (σ p1) (σ p3) (σ p12) (σ p13) h) :=
  fun σ h => by kernel_rfl
noncomputable abbrev K18_5 (E : Env) : KT2 (DV × H) := (thenK3 (fun σ h => J18_1 E (σ p0) (σ p1) (σ p3) (σ p12) (σ p13) h) (retK3 R18))
noncomputable abbrev K18_6 (E : Env) (n2 : Nat) : KT2 (DV × H) := (thenK3 (fun σ h => (L18_2 E (σ p0) (σ p1) (σ p3) (σ p12) (σ p69) (σ p70) n2) (σ p13) (σ p14) (σ p71) h) (blockK3 1 (K18_5 E)))
theorem I18_3 (E : Env) (n2 : Nat) : Is E C18_3 (K18_6 E n2) (fun σ h => J18_3 E (L18_2 E (σ p0) (σ p1) (σ p3) (σ p12) (σ p69) (σ p70) n2) (σ p13) (σ p14) (σ p71) h) :=
  fun σ h => by kernel_rfl
noncomputable abbrev K18_7 (E : Env) (n2 : Nat) : KT2 (DV × H) := (thenK3 (fun σ h => J18_3 E (L18_2 E (σ p0) (σ p1) (σ p3) (σ p12) (σ p69) (σ p70) n2) (σ p13) (σ p14) (σ p71) h) (K18_6 E n2))
theorem I18_4 (E : Env) (n2 : Nat) : Is E C18_4 (blockK3 2 (K18_7 E n2)) (fun σ h => J18_4 E (L18_2 E (σ p0) (σ p1) (σ p3) (σ p12) (σ p69) (σ p70) n2) (σ p0) (σ p1) (σ p12) (σ p13) (σ p14) (σ p71) h) :=
  fun σ h => by kernel_rfl
theorem I18_2 (E : Env) : Is E C18_2 (blockK3 1 (K18_5 E)) (fun σ h => L18_2 E (σ p0) (σ p1) (σ p3) (σ p12) (σ p69) (σ p70) FUEL (σ p13) (σ p14) (σ p71) h) :=
  Is.loop (fun n2 σ h => L18_2 E (σ p0) (σ p1) (σ p3) (σ p12) (σ p69) (σ p70) n2 (σ p13) (σ p14) (σ p71) h) (by kernel_rfl) fun n2 => Is.as (Is.seq (Is.seq (Is.seq (I18_3 E n2) (Is.block (Is.seq (Is.seq (Is.seq (Is.seq (I18_4 E n2) (Is.leaf _)) (Is.leaf _)) (Is.leaf _)) (Is.leaf _)))) (Is.leaf _)) (Is.leaf _)) fun σ h => by kernel_rfl
theorem I18_0 (E : Env) : Is E C18_0 (retK3 R18) (fun σ h => J18_0 E (σ p0) (σ p1) (σ p2) (σ p3) h) :=
  Is.as (Is.seq (Is.seq (Is.seq (Is.seq (Is.seq (Is.seq (Is.seq (I18_1 E) (Is.seq (Is.block (I18_2 E)) (Is.leaf _))) (Is.leaf _)) (Is.leaf _)) (Is.leaf _)) (Is.leaf _)) (Is.leaf _)) (Is.leaf _)) fun σ h => by kernel_rfl
def D18 : DF := ⟨4, 115, C18_0, R18⟩
noncomputable def S18 (E : Env) : Fun := fun args h => aS args fun r0 args => aS args fun r1 args => aS args fun r2 args => aS args fun r3 args => a0 args (J18_0 E r0 r1 r2 r3 h)
theorem S18_eq (E : Env) (args : List DV) (h : H) : runFn E D18 args h = S18 E args h :=
  Is.fn4 (d := D18) (I18_0 E) rfl (fun r0 r1 r2 r3 h => J18_0 E r0 r1 r2 r3 h) (fun r0 r1 r2 r3 h => by kernel_rfl) args h
/- (*hurdle/array.Array).Fragment -/
def R19 : List RV := [(.r p6), (.r p7)]
noncomputable def J19_0 (E : Env) (r0 r1 r2 : DV) (h : H) : Ans :=
  vK (v_eqv .ptr false h.get r0 .nilp) fun x1 =>
  bK x1
  (some ((.tup [(.str []), (.int .i64 (.ofNat 1))]), h))
  (wK (callK E 47 [r0, r1, r2] h) fun x2 h3 =>
  vK (v_ext 0 x2) fun x4 =>
  vK (v_ext 1 x2) fun x5 =>
  vK (v_not x5) fun x6 =>
  bK x6
  (some ((.tup [(.str []), (.int .i64 (.ofNat 7))]), h3))
  (vK (v_nilchk r0) fun x7 =>
  vK (v_fa 0 x7) fun x8 =>
  vK (v_ld h3.get x8) fun x9 =>
  vK (v_bld [(.int .i64 (.ofNat 0)), (.int .i64 (.ofNat 0))] [(0, 1, r1), (1, 1, r2)]) fun x10 =>
  wK (callK E 48 [x9, x4, x10] h3) fun x11 h12 =>
  vK (v_ext 0 x11) fun x13 =>
  vK (v_ext 1 x11) fun x14 =>
  some ((.tup [x13, x14]), h12)))
def C19_0 : DC := (.seq (.reg [⟨(some p6), none, (.e (.mv (.c (.str []))))⟩, ⟨(some p7), none, (.e (.mv (.c (.int .i64 (.ofNat 0)))))⟩]) (.seq (.seq (.reg [⟨(some p10), none, (.e (.mv (.r p0)))⟩, ⟨(some p11), none, (.e (.eqv .ptr false (.r p10) (.c .nilp)))⟩]) (.cond (.r p11) (.seq (.reg [⟨(some p6), none, (.e (.mv (.c (.str []))))⟩, ⟨(some p7), none, (.e (.mv (.c (.int .i64 (.ofNat 1)))))⟩]) .ret) .skip)) (.seq (.reg [⟨(some p13), none, (.e (.mv (.r p0)))⟩, ⟨(some p14), none, (.e (.mv (.r p1)))⟩, ⟨(some p15), none, (.e (.mv (.r p2)))⟩, ⟨(some p16), none, (.c (.f 47 [(.r p13), (.r p14), (.r p15)]))⟩, ⟨(some p12), none, (.e (.mv (.r p16)))⟩, ⟨(some p17), none, (.e (.ext 0 (.r p12)))⟩, ⟨(some p18), none, (.e (.ext 1 (.r p12)))⟩, ⟨(some p8), none, (.e (.mv (.r p17)))⟩, ⟨(some p9), none, (.e (.mv (.r p18)))⟩]) (.seq (.seq (.reg [⟨(some p19), none, (.e (.mv (.r p9)))⟩, ⟨(some p20), none, (.e (.not (.r p19)))⟩]) (.cond (.r p20) (.seq (.reg [⟨(some p6), none, (.e (.mv (.c (.str []))))⟩, ⟨(some p7), none, (.e (.mv (.c (.int .i64 (.ofNat 7)))))⟩]) .ret) .skip)) (.seq (.reg [⟨(some p21), none, (.e (.mv (.r p0)))⟩, ⟨(some p22), none, (.e (.nilchk (.r p21)))⟩, ⟨(some p23), none, (.e (.fa 0 (.r p22)))⟩, ⟨(some p24), none, (.e (.ld (.r p23)))⟩, ⟨(some p25), none, (.e (.mv (.r p8)))⟩, ⟨(some p26), none, (.e (.mv (.r p1)))⟩, ⟨(some p27), none, (.e (.mv (.r p2)))⟩, ⟨(some p28), none, (.e (.bld [(.int .i64 (.ofNat 0)), (.int .i64 (.ofNat 0))] [(0, 1, (.r p26)), (1, 1, (.r p27))]))⟩, ⟨(some p29), none, (.c (.f 48 [(.r p24), (.r p25), (.r p28)]))⟩, ⟨(some p30), none, (.e (.ext 0 (.r p29)))⟩, ⟨(some p31), none, (.e (.ext 1 (.r p29)))⟩, ⟨(some p6), none, (.e (.mv (.r p30)))⟩, ⟨(some p7), none, (.e (.mv (.r p31)))⟩]) .ret)))))
theorem I19_0 (E : Env) : Is E C19_0 (retK3 R19) (fun σ h => J19_0 E (σ p0) (σ p1) (σ p2) h) :=
  fun σ h => by kernel_rfl
def D19 : DF := ⟨3, 32, C19_0, R19⟩
noncomputable def S19 (E : Env) : Fun := fun args h => aS args fun r0 args => aS args fun r1 args => aS args fun r2 args => a0 args (J19_0 E r0 r1 r2 h)
theorem S19_eq (E : Env) (args : List DV) (h : H) : runFn E D19 args h = S19 E args h :=
  Is.fn3 (d := D19) (I19_0 E) rfl (fun r0 r1 r2 h => J19_0 E r0 r1 r2 h) (fun r0 r1 r2 h => by kernel_rfl) args h
/- (*hurdle/array.Array).Set -/
def R20 : List RV := [(.r p8)]
noncomputable def J20_0 (E : Env) (r0 r1 r2 r3 : DV) (h : H) : Ans :=
  vK (v_eqv .ptr false h.get r0 .nilp) fun x1 =>
  bK x1
  (some ((.int .i64 (.ofNat 1)), h))
  (wK (callK E 47 [r0, r1, r2] h) fun x2 h3 =>
  vK (v_ext 0 x2) fun x4 =>
  vK (v_ext 1 x2) fun x5 =>
  vK (v_not x5) fun x6 =>
  bK x6
  (some ((.int .i64 (.ofNat 7)), h3))
  (vK (v_nilchk r0) fun x7 =>
  vK (v_fa 0 x7) fun x8 =>
  vK (v_ld h3.get x8) fun x9 =>
  vK (v_bld [(.int .i64 (.ofNat 0)), (.int .i64 (.ofNat 0))] [(0, 1, r1), (1, 1, r2)]) fun x10 =>
  wK (callK E 49 [x9, x4, x10, r3] h3) fun x11 h12 =>
  some (x11, h12)))
def C20_0 : DC := (.seq (.reg [⟨(some p8), none, (.e (.mv (.c (.int .i64 (.ofNat 0)))))⟩]) (.seq (.seq (.reg [⟨(some p11), none, (.e (.mv (.r p0)))⟩, ⟨(some p12), none, (.e (.eqv .ptr false (.r p11) (.c .nilp)))⟩]) (.cond (.r p12) (.seq (.reg [⟨(some p8), none, (.e (.mv (.c (.int .i64 (.ofNat 1)))))⟩]) .ret) .skip)) (.seq (.reg [⟨(some p14), none, (.e (.mv (.r p0)))⟩, ⟨(some p15), none, (.e (.mv (.r p1)))⟩, ⟨(some p16), none, (.e (.mv (.r p2)))⟩, ⟨(some p17), none, (.c (.f 47 [(.r p14), (.r p15), (.r p16)]))⟩, ⟨(some p13), none, (.e (.mv (.r p17)))⟩, ⟨(some p18), none, (.e (.ext 0 (.r p13)))⟩, ⟨(some p19), none, (.e (.ext 1 (.r p13)))⟩, ⟨(some p9), none, (.e (.mv (.r p18)))⟩, ⟨(some p10), none, (.e (.mv (.r p19)))⟩]) (.seq (.seq (.reg [⟨(some p20), none, (.e (.mv (.r p10)))⟩, ⟨(some p21), none, (.e (.not (.r p20)))⟩]) (.cond (.r p21) (.seq (.reg [⟨(some p8), none, (.e (.mv (.c (.int .i64 (.ofNat 7)))))⟩]) .ret) .skip)) (.seq (.reg [⟨(some p22), none, (.e (.mv (.r p0)))⟩, ⟨(some p23), none, (.e (.nilchk (.r p22)))⟩, ⟨(some p24), none, (.e (.fa 0 (.r p23)))⟩, ⟨(some p25), none, (.e (.ld (.r p24)))⟩, ⟨(some p26), none, (.e (.mv (.r p9)))⟩, ⟨(some p27), none, (.e (.mv (.r p1)))⟩, ⟨(some p28), none, (.e (.mv (.r p2)))⟩, ⟨(some p29), none, (.e (.bld [(.int .i64 (.ofNat 0)), (.int .i64 (.ofNat 0))] [(0, 1, (.r p27)), (1, 1, (.r p28))]))⟩, ⟨(some p30), none, (.e (.mv (.r p3)))⟩, ⟨(some p31), none, (.c (.f 49 [(.r p25), (.r p26), (.r p29), (.r p30)]))⟩, ⟨(some p8), none, (.e (.mv (.r p31)))⟩]) .ret)))))
theorem I20_0 (E : Env) : Is E C20_0 (retK3 R20) (fun σ h => J20_0 E (σ p0) (σ p1) (σ p2) (σ p3) h) :=
  fun σ h => by kernel_rfl
def D20 : DF := ⟨4, 32, C20_0, R20⟩
noncomputable def S20 (E : Env) : Fun := fun args h => aS args fun r0 args => aS args fun r1 args => aS args fun r2 args => aS args fun r3 args => a0 args (J20_0 E r0 r1 r2 r3 h)
theorem S20_eq (E : Env) (args : List DV) (h : H) : runFn E D20 args h = S20 E args h :=
  Is.fn4 (d := D20) (I20_0 E) rfl (fun r0 r1 r2 r3 h => J20_0 E r0 r1 r2 r3 h) (fun r0 r1 r2 r3 h => by kernel_rfl) args h
/- (*hurdle/array.Array).Servers -/
def R23 : List RV := [(.r p2)]
noncomputable def J23_0 (E : Env) (r0 : DV) (h : H) : Ans :=
  vK (v_eqv .ptr false h.get r0 .nilp) fun x1 =>
  bK x1
  (some (.nilp, h))
  (vK (v_nilchk r0) fun x2 =>
  vK (v_fa 0 x2) fun x3 =>
  vK (v_ld h.get x3) fun x4 =>
  some (x4, h))
def C23_0 : DC := (.seq (.reg [⟨(some p2), none, (.e (.mv (.c .nilp)))⟩]) (.seq (.seq (.reg [⟨(some p3), none, (.e (.mv (.r p0)))⟩, ⟨(some p4), none, (.e (.eqv .ptr false (.r p3) (.c .nilp)))⟩]) (.cond (.r p4) (.seq (.reg [⟨(some p2), none, (.e (.mv (.c .nilp)))⟩]) .ret) .skip)) (.seq (.reg [⟨(some p5), none, (.e (.mv (.r p0)))⟩, ⟨(some p6), none, (.e (.nilchk (.r p5)))⟩, ⟨(some p7), none, (.e (.fa 0 (.r p6)))⟩, ⟨(some p8), none, (.e (.ld (.r p7)))⟩, ⟨(some p2), none, (.e (.mv (.r p8)))⟩]) .ret)))
theorem I23_0 (E : Env) : Is E C23_0 (retK3 R23) (fun σ h => J23_0 E (σ p0) h) :=
  fun σ h => by kernel_rfl
def D23 : DF := ⟨1, 9, C23_0, R23⟩
noncomputable def S23 (E : Env) : Fun := fun args h => aS args fun r0 args => a0 args (J23_0 E r0 h)
theorem S23_eq (E : Env) (args : List DV) (h : H) : runFn E D23 args h = S23 E args h :=
  Is.fn1 (d := D23) (I23_0 E) rfl (fun r0 h => J23_0 E r0 h) (fun r0 h => by kernel_rfl) args h
/- (*hurdle/array.Array).Manager -/
def R24 : List RV := [(.r p2)]
noncomputable def J24_0 (E : Env) (r0 : DV) (h : H) : Ans :=
  vK (v_eqv .ptr false h.get r0 .nilp) fun x1 =>
  bK x1
  (some (.nilp, h))
  (vK (v_nilchk r0) fun x2 =>
  vK (v_fa 1 x2) fun x3 =>
  vK (v_ld h.get x3) fun x4 =>
  some (x4, h))
def C24_0 : DC := (.seq (.reg [⟨(some p2), none, (.e (.mv (.c .nilp)))⟩]) (.seq (.seq (.reg [⟨(some p3), none, (.e (.mv (.r p0)))⟩, ⟨(some p4), none, (.e (.eqv .ptr false (.r p3) (.c .nilp)))⟩]) (.cond (.r p4) (.seq (.reg [⟨(some p2), none, (.e (.mv (.c .nilp)))⟩]) .ret) .skip)) (.seq (.reg [⟨(some p5), none, (.e (.mv (.r p0)))⟩, ⟨(some p6), none, (.e (.nilchk (.r p5)))⟩, ⟨(some p7), none, (.e (.fa 1 (.r p6)))⟩, ⟨(some p8), none, (.e (.ld (.r p7)))⟩, ⟨(some p2), none, (.e (.mv (.r p8)))⟩]) .ret)))
theorem I24_0 (E : Env) : Is E C24_0 (retK3 R24) (fun σ h => J24_0 E (σ p0) h) :=
  fun σ h => by kernel_rfl
def D24 : DF := ⟨1, 9, C24_0, R24⟩
noncomputable def S24 (E : Env) : Fun := fun args h => aS args fun r0 args => a0 args (J24_0 E r0 h)
theorem S24_eq (E : Env) (args : List DV) (h : H) : runFn E D24 args h = S24 E args h :=
  Is.fn1 (d := D24) (I24_0 E) rfl (fun r0 h => J24_0 E r0 h) (fun r0 h => by kernel_rfl) args h
/- (*hurdle/array.Array).Most -/
def R25 : List RV := [(.r p2)]
noncomputable def J25_0 (E : Env) (r0 : DV) (h : H) : Ans :=
  vK (v_eqv .ptr false h.get r0 .nilp) fun x1 =>
  bK x1
  (some ((.int .i64 (.ofNat 0)), h))
  (vK (v_nilchk r0) fun x2 =>
  vK (v_fa 2 x2) fun x3 =>
  vK (v_ld h.get x3) fun x4 =>
  vK (v_sub x4 (.int .i64 (.ofNat 1))) fun x5 =>
  vK (v_mul (.int .i64 (.ofNat 512)) x5) fun x6 =>
  some (x6, h))
def C25_0 : DC := (.seq (.reg [⟨(some p2), none, (.e (.mv (.c (.int .i64 (.ofNat 0)))))⟩]) (.seq (.seq (.reg [⟨(some p3), none, (.e (.mv (.r p0)))⟩, ⟨(some p4), none, (.e (.eqv .ptr false (.r p3) (.c .nilp)))⟩]) (.cond (.r p4) (.seq (.reg [⟨(some p2), none, (.e (.mv (.c (.int .i64 (.ofNat 0)))))⟩]) .ret) .skip)) (.seq (.reg [⟨(some p5), none, (.e (.mv (.r p0)))⟩, ⟨(some p6), none, (.e (.nilchk (.r p5)))⟩, ⟨(some p7), none, (.e (.fa 2 (.r p6)))⟩, ⟨(some p8), none, (.e (.ld (.r p7)))⟩, ⟨(some p9), none, (.e (.bin .sub (.r p8) (.c (.int .i64 (.ofNat 1)))))⟩, ⟨(some p10), none, (.e (.bin .mul (.c (.int .i64 (.ofNat 512))) (.r p9)))⟩, ⟨(some p2), none, (.e (.mv (.r p10)))⟩]) .ret)))
theorem I25_0 (E : Env) : Is E C25_0 (retK3 R25) (fun σ h => J25_0 E (σ p0) h) :=
  fun σ h => by kernel_rfl
def D25 : DF := ⟨1, 11, C25_0, R25⟩
noncomputable def S25 (E : Env) : Fun := fun args h => aS args fun r0 args => a0 args (J25_0 E r0 h)
theorem S25_eq (E : Env) (args : List DV) (h : H) : runFn E D25 args h = S25 E args h :=
  Is.fn1 (d := D25) (I25_0 E) rfl (fun r0 h => J25_0 E r0 h) (fun r0 h => by kernel_rfl) args h
/- hurdle/reader.of -/
def R27 : List RV := [(.r p4), (.r p5)]
noncomputable def J27_0 (E : Env) (r0 r1 : DV) (h : H) : Ans :=
  vK (v_eqv .ptr false h.get r0 .nilp) fun x1 =>
  bK x1
  (some ((.tup [.nilp, (.int .i64 (.ofNat 1))]), h))
  (wK (callK E 24 [r0] h) fun x2 h3 =>
  wK (callK E 54 [x2, r1] h3) fun x4 h5 =>
  vK (v_ext 0 x4) fun x6 =>
  vK (v_ext 1 x4) fun x7 =>
  n_alc 6 6 (.list [(.int .i64 (.ofNat 0)), (.int .i64 (.ofNat 0)), (.int .i64 (.ofNat 0)), (.int .i64 (.ofNat 0)), (.int .i64 (.ofNat 0)), .nils]) h5 fun x8 h9 =>
  wK (dStF 6 x8 x6 h9) fun x10 h11 =>
  vK (v_not x7) fun x12 =>
  gdK x12 false (fun kk => vK (v_fa 1 x8) fun v => kk v h11) h11 fun x13 h14 =>
  gdK x12 false (fun kk => vK (v_ld h14.get x13) fun v => kk v h14) h14 fun x15 h16 =>
  gdK x12 false (fun kk => vK (v_neq x15 (.int .i64 (.ofNat 2))) fun v => kk v h16) h16 fun x17 h18 =>
  vK (v_pick x12 (.bool true) x17) fun x19 =>
  bK x19
  (some ((.tup [.nilp, (.int .i64 (.ofNat 7))]), h18))
  (vK (v_fa 5 x8) fun x20 =>
  vK (v_ld h18.get x20) fun x21 =>
  vK (v_lenL x21) fun x22 =>
  vK (v_ldN 6 h18.get x8) fun x23 =>
  vK (v_fa 4 x8) fun x24 =>
  vK (v_ld h18.get x24) fun x25 =>
  n_mks 1 16 (.str []) x22 x22 h18 fun x26 h27 =>
  n_mks 1 1 (.bool false) x22 x22 h27 fun x28 h29 =>
  n_mks 1 1 (.bool false) x22 x22 h29 fun x30 h31 =>
  wK (callK E 55 [x25, x22] h31) fun x32 h33 =>
  rK (rcK (v_ldN 6 h33.get x8) x23) <|
  vK (v_bld [.nilp, (.int .i64 (.ofNat 0)), (.int .i64 (.ofNat 0)), (.int .i64 (.ofNat 0)), (.int .i64 (.ofNat 0)), (.int .i64 (.ofNat 0)), .nils, (.int .i64 (.ofNat 0)), .nils, .nils, .nils] [(0, 1, r0), (1, 6, x23), (7, 1, x32), (8, 1, x26), (9, 1, x28), (10, 1, x30)]) fun x34 =>
  n_box x34 h33 fun x35 h36 =>
  some ((.tup [x35, (.int .i64 (.ofNat 0))]), h36)))
def C27_0 : DC := (.seq (.reg [⟨(some p4), none, (.e (.mv (.c .nilp)))⟩, ⟨(some p5), none, (.e (.mv (.c (.int .i64 (.ofNat 0)))))⟩]) (.seq (.seq (.reg [⟨(some p9), none, (.e (.mv (.r p0)))⟩, ⟨(some p10), none, (.e (.eqv .ptr false (.r p9) (.c .nilp)))⟩]) (.cond (.r p10) (.seq (.reg [⟨(some p4), none, (.e (.mv (.c .nilp)))⟩, ⟨(some p5), none, (.e (.mv (.c (.int .i64 (.ofNat 1)))))⟩]) .ret) .skip)) (.seq (.reg [⟨(some p12), none, (.e (.mv (.r p0)))⟩, ⟨(some p13), none, (.c (.f 24 [(.r p12)]))⟩, ⟨(some p14), none, (.e (.mv (.r p1)))⟩, ⟨(some p15), none, (.c (.f 54 [(.r p13), (.r p14)]))⟩, ⟨(some p11), none, (.e (.mv (.r p15)))⟩, ⟨(some p16), none, (.e (.ext 0 (.r p11)))⟩, ⟨(some p17), none, (.e (.ext 1 (.r p11)))⟩, ⟨(some p6), none, (.e (.alc 6 6 (.list [(.int .i64 (.ofNat 0)), (.int .i64 (.ofNat 0)), (.int .i64 (.ofNat 0)), (.int .i64 (.ofNat 0)), (.int .i64 (.ofNat 0)), .nils])))⟩, ⟨none, none, (.w (.st 6 (.r p6) (.r p16)))⟩, ⟨(some p7), none, (.e (.mv (.r p17)))⟩]) (.seq (.seq (.reg [⟨(some p18), none, (.e (.mv (.r p7)))⟩, ⟨(some p19), none, (.e (.not (.r p18)))⟩, ⟨(some p20), none, (.e (.mv (.r p19)))⟩, ⟨(some p21), (some (p20, false)), (.e (.fa 1 (.r p6)))⟩, ⟨(some p22), (some (p20, false)), (.e (.ld (.r p21)))⟩, ⟨(some p23), (some (p20, false)), (.e (.bin .neq (.r p22) (.c (.int .i64 (.ofNat 2)))))⟩, ⟨(some p24), none, (.e (.pick (.r p20) (.c (.bool true)) (.r p23)))⟩]) (.cond (.r p24) (.seq (.reg [⟨(some p4), none, (.e (.mv (.c .nilp)))⟩, ⟨(some p5), none, (.e (.mv (.c (.int .i64 (.ofNat 7)))))⟩]) .ret) .skip)) (.seq (.reg [⟨(some p25), none, (.e (.fa 5 (.r p6)))⟩, ⟨(some p26), none, (.e (.ld (.r p25)))⟩, ⟨(some p27), none, (.e (.lenL (.r p26)))⟩, ⟨(some p8), none, (.e (.mv (.r p27)))⟩]) (.seq (.drg [⟨0, ⟨(some p28), none, (.e (.mv (.r p0)))⟩, [], false⟩, ⟨1, ⟨(some p29), none, (.e (.ldN 6 (.r p6)))⟩, [], false⟩, ⟨2, ⟨(some p30), none, (.e (.fa 4 (.r p6)))⟩, [], false⟩, ⟨3, ⟨(some p31), none, (.e (.ld (.r p30)))⟩, [], false⟩, ⟨4, ⟨(some p32), none, (.e (.mv (.r p8)))⟩, [], false⟩, ⟨6, ⟨(some p34), none, (.e (.mv (.r p8)))⟩, [], false⟩, ⟨7, ⟨(some p35), none, (.e (.mks 1 16 (.str []) (.r p34) (.r p34)))⟩, [], false⟩, ⟨8, ⟨(some p36), none, (.e (.mv (.r p8)))⟩, [], false⟩, ⟨9, ⟨(some p37), none, (.e (.mks 1 1 (.bool false) (.r p36) (.r p36)))⟩, [], false⟩, ⟨10, ⟨(some p38), none, (.e (.mv (.r p8)))⟩, [], false⟩, ⟨11, ⟨(some p39), none, (.e (.mks 1 1 (.bool false) (.r p38) (.r p38)))⟩, [], false⟩, ⟨5, ⟨(some p33), none, (.c (.f 55 [(.r p31), (.r p32)]))⟩, [1], false⟩, ⟨12, ⟨(some p40), none, (.e (.bld [.nilp, (.int .i64 (.ofNat 0)), (.int .i64 (.ofNat 0)), (.int .i64 (.ofNat 0)), (.int .i64 (.ofNat 0)), (.int .i64 (.ofNat 0)), .nils, (.int .i64 (.ofNat 0)), .nils, .nils, .nils] [(0, 1, (.r p28)), (1, 6, (.r p29)), (7, 1, (.r p33)), (8, 1, (.r p35)), (9, 1, (.r p37)), (10, 1, (.r p39))]))⟩, [], false⟩, ⟨13, ⟨(some p41), none, (.e (.box (.r p40)))⟩, [], false⟩, ⟨14, ⟨(some p4), none, (.e (.mv (.r p41)))⟩, [], false⟩, ⟨15, ⟨(some p5), none, (.e (.mv (.c (.int .i64 (.ofNat 0)))))⟩, [], false⟩]) .ret))))))
theorem I27_0 (E : Env) : Is E C27_0 (retK3 R27) (fun σ h => J27_0 E (σ p0) (σ p1) h) :=
  fun σ h => by kernel_rfl
def D27 : DF := ⟨2, 42, C27_0, R27⟩
noncomputable def S27 (E : Env) : Fun := fun args h => aS args fun r0 args => aS args fun r1 args => a0 args (J27_0 E r0 r1 h)
theorem S27_eq (E : Env) (args : List DV) (h : H) : runFn E D27 args h = S27 E args h :=
  Is.fn2 (d := D27) (I27_0 E) rfl (fun r0 r1 h => J27_0 E r0 r1 h) (fun r0 r1 h => by kernel_rfl) args h
/- (*hurdle/reader.stripe).whole -/
def R28 : List RV := [(.r p2), (.r p3)]
noncomputable def J28_1 (E : Env) (r0 : DV) (h : H) : Ans :=
  vK (v_nilchk r0) fun x1 =>
  vK (v_fa 8 x1) fun x2 =>
  vK (v_ld h.get x2) fun x3 =>
  vK (v_nilchk r0) fun x4 =>
  vK (v_fa 1 x4) fun x5 =>
  vK (v_fa 4 x5) fun x6 =>
  vK (v_ld h.get x6) fun x7 =>
  wK (callK E 57 [x3, x7] h) fun x8 h9 =>
  vK (v_ext 0 x8) fun x10 =>
  vK (v_ext 1 x8) fun x11 =>
  some ((.tup [x10, x11]), h9)
def C28_1 : DC := (.seq (.drg [⟨0, ⟨(some p34), none, (.e (.mv (.r p0)))⟩, [], false⟩, ⟨1, ⟨(some p35), none, (.e (.nilchk (.r p34)))⟩, [], false⟩, ⟨2, ⟨(some p36), none, (.e (.fa 8 (.r p35)))⟩, [], false⟩, ⟨3, ⟨(some p37), none, (.e (.ld (.r p36)))⟩, [], false⟩, ⟨4, ⟨(some p38), none, (.e (.mv (.r p0)))⟩, [], false⟩, ⟨5, ⟨(some p39), none, (.e (.nilchk (.r p38)))⟩, [], false⟩, ⟨6, ⟨(some p40), none, (.e (.fa 1 (.r p39)))⟩, [], false⟩, ⟨7, ⟨(some p41), none, (.e (.fa 4 (.r p40)))⟩, [], false⟩, ⟨8, ⟨(some p42), none, (.e (.ld (.r p41)))⟩, [], false⟩, ⟨9, ⟨(some p43), none, (.c (.f 57 [(.r p37), (.r p42)]))⟩, [], false⟩, ⟨10, ⟨(some p44), none, (.e (.ext 0 (.r p43)))⟩, [], false⟩, ⟨11, ⟨(some p45), none, (.e (.ext 1 (.r p43)))⟩, [], false⟩, ⟨12, ⟨(some p2), none, (.e (.mv (.r p44)))⟩, [], false⟩, ⟨13, ⟨(some p3), none, (.e (.mv (.r p45)))⟩, [], false⟩]) .ret)
noncomputable def B28_2 (E : Env) (r0 r12 r13 : DV) (i2 : DV → H → Ans) (r14 : DV) (h : H) : Ans :=
  vK (v_lss r14 r13) fun x1 =>
  bK x1
  (vK (v_iaS 1 r12 r14) fun x2 =>
  vK (v_ld h.get x2) fun x3 =>
  vK (v_nilchk r0) fun x4 =>
  vK (v_fa 8 x4) fun x5 =>
  vK (v_ld h.get x5) fun x6 =>
  vK (v_nilchk r0) fun x7 =>
  vK (v_fa 8 x7) fun x8 =>
  vK (v_ld h.get x8) fun x9 =>
  wK (callK E 56 [x9, x3] h) fun x10 h11 =>
  rK (rcK (v_ld h11.get x5) x6) <|
  vK (v_ext 0 x10) fun x12 =>
  vK (v_ext 1 x10) fun x13 =>
  vK (v_iaS 1 x6 x3) fun x14 =>
  wK (dStF 1 x14 x12 h11) fun x15 h16 =>
  vK (v_add r14 (.int .i64 (.ofNat 1))) fun x17 =>
  i2 x17 h16)
  (J28_1 E r0 h)
noncomputable def L28_2 (E : Env) (r0 r12 r13 : DV) (n : Nat) : DV → H → Ans := Nat.rec (motive := fun _ => DV → H → Ans) (fun _ _ => none) (fun _ i => B28_2 E r0 r12 r13 i) n
def C28_2 : DC := (.loop (.seq (.reg [⟨(some p15), none, (.e (.bin .lss (.r p14) (.r p13)))⟩]) (.seq (.cond (.r p15) .skip (.exit 0)) (.seq (.block 1 (.seq (.reg [⟨(some p16), none, (.e (.iaS 1 (.r p12) (.r p14)))⟩, ⟨(some p17), none, (.e (.ld (.r p16)))⟩, ⟨(some p6), none, (.e (.mv (.r p17)))⟩]) (.drg [⟨0, ⟨(some p19), none, (.e (.mv (.r p0)))⟩, [], false⟩, ⟨1, ⟨(some p20), none, (.e (.nilchk (.r p19)))⟩, [], false⟩, ⟨2, ⟨(some p21), none, (.e (.fa 8 (.r p20)))⟩, [], false⟩, ⟨3, ⟨(some p22), none, (.e (.ld (.r p21)))⟩, [], false⟩, ⟨4, ⟨(some p23), none, (.e (.mv (.r p6)))⟩, [], false⟩, ⟨5, ⟨(some p24), none, (.e (.mv (.r p0)))⟩, [], false⟩, ⟨6, ⟨(some p25), none, (.e (.nilchk (.r p24)))⟩, [], false⟩, ⟨7, ⟨(some p26), none, (.e (.fa 8 (.r p25)))⟩, [], false⟩, ⟨8, ⟨(some p27), none, (.e (.ld (.r p26)))⟩, [], false⟩, ⟨9, ⟨(some p28), none, (.e (.mv (.r p6)))⟩, [], false⟩, ⟨10, ⟨(some p29), none, (.c (.f 56 [(.r p27), (.r p28)]))⟩, [3], false⟩, ⟨11, ⟨(some p18), none, (.e (.mv (.r p29)))⟩, [], false⟩, ⟨12, ⟨(some p30), none, (.e (.ext 0 (.r p18)))⟩, [], false⟩, ⟨13, ⟨(some p31), none, (.e (.ext 1 (.r p18)))⟩, [], false⟩, ⟨14, ⟨(some p32), none, (.e (.iaS 1 (.r p22) (.r p23)))⟩, [], false⟩, ⟨15, ⟨none, none, (.w (.st 1 (.r p32) (.r p30)))⟩, [], false⟩]))) (.reg [⟨(some p33), none, (.e (.bin .add (.r p14) (.c (.int .i64 (.ofNat 1)))))⟩, ⟨(some p14), none, (.e (.mv (.r p33)))⟩])))))
noncomputable def J28_0 (E : Env) (r0 : DV) (h : H) : Ans :=
  wK (callK E 31 [r0] h) fun x1 h2 =>
  vK (v_lenL x1) fun x3 =>
  vK (v_gtr x3 (.int .i64 (.ofNat 1))) fun x4 =>
  bK x4
  (some ((.tup [(.str []), (.int .i64 (.ofNat 9))]), h2))
  (vK (v_lenL x1) fun x5 =>
  L28_2 E r0 x1 x5 FUEL (.int .i64 (.ofNat 0)) h2)
def C28_0 : DC := (.seq (.reg [⟨(some p2), none, (.e (.mv (.c (.str []))))⟩, ⟨(some p3), none, (.e (.mv (.c (.int .i64 (.ofNat 0)))))⟩]) (.seq (.reg [⟨(some p7), none, (.e (.mv (.r p0)))⟩, ⟨(some p8), none, (.c (.f 31 [(.r p7)]))⟩, ⟨(some p4), none, (.e (.mv (.r p8)))⟩]) (.seq (.seq (.reg [⟨(some p9), none, (.e (.mv (.r p4)))⟩, ⟨(some p10), none, (.e (.lenL (.r p9)))⟩, ⟨(some p11), none, (.e (.bin .gtr (.r p10) (.c (.int .i64 (.ofNat 1)))))⟩]) (.cond (.r p11) (.seq (.reg [⟨(some p2), none, (.e (.mv (.c (.str []))))⟩, ⟨(some p3), none, (.e (.mv (.c (.int .i64 (.ofNat 9)))))⟩]) .ret) .skip)) (.seq (.seq (.reg [⟨(some p12), none, (.e (.mv (.r p4)))⟩, ⟨(some p13), none, (.e (.lenL (.r p12)))⟩, ⟨(some p14), none, (.e (.mv (.c (.int .i64 (.ofNat 0)))))⟩]) (.block 0 C28_2)) C28_1))))
theorem I28_1 (E : Env) : Is E C28_1 (retK3 R28) (fun σ h => J28_1 E (σ p0) h) :=
  fun σ h => by kernel_rfl
noncomputable abbrev K28_3 (E : Env) : KT2 (DV × H) := (thenK3 (fun σ h => J28_1 E (σ p0) h) (retK3 R28))
theorem I28_2 (E : Env) : Is E C28_2 (blockK3 0 (K28_3 E)) (fun σ h => L28_2 E (σ p0) (σ p12) (σ p13) FUEL (σ p14) h) :=
  Is.loop (fun n2 σ h => L28_2 E (σ p0) (σ p12) (σ p13) n2 (σ p14) h) (by kernel_rfl) fun n2 => Is.as (Is.leaf _) fun σ h => by kernel_rfl
theorem I28_0 (E : Env) : Is E C28_0 (retK3 R28) (fun σ h => J28_0 E (σ p0) h) :=
  Is.as (Is.seq (Is.seq (Is.seq (Is.seq (I28_1 E) (Is.seq (Is.block (I28_2 E)) (Is.leaf _))) (Is.leaf _)) (Is.leaf _)) (Is.leaf _)) fun σ h => by kernel_rfl
def D28 : DF := ⟨1, 46, C28_0, R28⟩
noncomputable def S28 (E : Env) : Fun := fun args h => aS args fun r0 args => a0 args (J28_0 E r0 h)
theorem S28_eq (E : Env) (args : List DV) (h : H) : runFn E D28 args h = S28 E args h :=
  Is.fn1 (d := D28) (I28_0 E) rfl (fun r0 h => J28_0 E r0 h) (fun r0 h => by kernel_rfl) args h
/- (*hurdle/reader.stripe).ask -/
def R30 : List RV := [(.r p4)]
noncomputable def J30_1 (E : Env) (r0 r1 : DV) (h : H) : Ans :=
  vK (v_nilchk r0) fun x1 =>
  vK (v_fa 10 x1) fun x2 =>
  vK (v_ld h.get x2) fun x3 =>
  vK (v_iaS 1 x3 r1) fun x4 =>
  vK (v_ld h.get x4) fun x5 =>
  some (x5, h)
def C30_1 : DC := (.seq (.reg [⟨(some p59), none, (.e (.mv (.r p0)))⟩, ⟨(some p60), none, (.e (.nilchk (.r p59)))⟩, ⟨(some p61), none, (.e (.fa 10 (.r p60)))⟩, ⟨(some p62), none, (.e (.ld (.r p61)))⟩, ⟨(some p63), none, (.e (.mv (.r p1)))⟩, ⟨(some p64), none, (.e (.iaS 1 (.r p62) (.r p63)))⟩, ⟨(some p65), none, (.e (.ld (.r p64)))⟩, ⟨(some p4), none, (.e (.mv (.r p65)))⟩]) .ret)
noncomputable def J30_0 (E : Env) (r0 r1 : DV) (h : H) : Ans :=
  vK (v_nilchk r0) fun x1 =>
  vK (v_fa 9 x1) fun x2 =>
  vK (v_ld h.get x2) fun x3 =>
  vK (v_iaS 1 x3 r1) fun x4 =>
  vK (v_ld h.get x4) fun x5 =>
  vK (v_not x5) fun x6 =>
  bK x6
  (vK (v_nilchk r0) fun x7 =>
  vK (v_fa 0 x7) fun x8 =>
  vK (v_ld h.get x8) fun x9 =>
  vK (v_nilchk r0) fun x10 =>
  vK (v_fa 1 x10) fun x11 =>
  vK (v_fa 0 x11) fun x12 =>
  vK (v_ld h.get x12) fun x13 =>
  wK (callK E 19 [x9, x13, r1] h) fun x14 h15 =>
  vK (v_ext 0 x14) fun x16 =>
  vK (v_ext 1 x14) fun x17 =>
  vK (v_nilchk r0) fun x18 =>
  vK (v_fa 8 x18) fun x19 =>
  vK (v_ld h15.get x19) fun x20 =>
  vK (v_nilchk r0) fun x21 =>
  vK (v_fa 9 x21) fun x22 =>
  vK (v_ld h15.get x22) fun x23 =>
  vK (v_iaS 1 x20 r1) fun x24 =>
  wK (dStF 1 x24 x16 h15) fun x25 h26 =>
  vK (v_iaS 1 x23 r1) fun x27 =>
  wK (dStF 1 x27 (.bool true) h26) fun x28 h29 =>
  vK (v_nilchk r0) fun x30 =>
  vK (v_fa 10 x30) fun x31 =>
  vK (v_ld h29.get x31) fun x32 =>
  vK (v_eql x17 (.int .i64 (.ofNat 0))) fun x33 =>
  gdK x33 true (fun kk => kk x16 h29) h29 fun x34 h35 =>
  gdK x33 true (fun kk => vK (v_lenS x34) fun v => kk v h35) h35 fun x36 h37 =>
  gdK x33 true (fun kk => kk r0 h37) h37 fun x38 h39 =>
  gdK x33 true (fun kk => vK (v_nilchk x38) fun v => kk v h39) h39 fun x40 h41 =>
  gdK x33 true (fun kk => vK (v_fa 7 x40) fun v => kk v h41) h41 fun x42 h43 =>
  gdK x33 true (fun kk => vK (v_ld h43.get x42) fun v => kk v h43) h43 fun x44 h45 =>
  gdK x33 true (fun kk => vK (v_eql x36 x44) fun v => kk v h45) h45 fun x46 h47 =>
  vK (v_pick x33 x46 (.bool false)) fun x48 =>
  vK (v_iaS 1 x32 r1) fun x49 =>
  wK (dStF 1 x49 x48 h47) fun x50 h51 =>
  J30_1 E r0 r1 h51)
  (J30_1 E r0 r1 h)
def C30_0 : DC := (.seq (.reg [⟨(some p4), none, (.e (.mv (.c (.bool false))))⟩]) (.seq (.seq (.reg [⟨(some p7), none, (.e (.mv (.r p0)))⟩, ⟨(some p8), none, (.e (.nilchk (.r p7)))⟩, ⟨(some p9), none, (.e (.fa 9 (.r p8)))⟩, ⟨(some p10), none, (.e (.ld (.r p9)))⟩, ⟨(some p11), none, (.e (.mv (.r p1)))⟩, ⟨(some p12), none, (.e (.iaS 1 (.r p10) (.r p11)))⟩, ⟨(some p13), none, (.e (.ld (.r p12)))⟩, ⟨(some p14), none, (.e (.not (.r p13)))⟩]) (.cond (.r p14) (.seq (.drg [⟨0, ⟨(some p16), none, (.e (.mv (.r p0)))⟩, [], false⟩, ⟨1, ⟨(some p17), none, (.e (.nilchk (.r p16)))⟩, [], false⟩, ⟨2, ⟨(some p18), none, (.e (.fa 0 (.r p17)))⟩, [], false⟩, ⟨3, ⟨(some p19), none, (.e (.ld (.r p18)))⟩, [], false⟩, ⟨4, ⟨(some p20), none, (.e (.mv (.r p0)))⟩, [], false⟩, ⟨5, ⟨(some p21), none, (.e (.nilchk (.r p20)))⟩, [], false⟩, ⟨6, ⟨(some p22), none, (.e (.fa 1 (.r p21)))⟩, [], false⟩, ⟨7, ⟨(some p23), none, (.e (.fa 0 (.r p22)))⟩, [], false⟩, ⟨8, ⟨(some p24), none, (.e (.ld (.r p23)))⟩, [], false⟩, ⟨9, ⟨(some p25), none, (.e (.mv (.r p1)))⟩, [], false⟩, ⟨10, ⟨(some p26), none, (.c (.f 19 [(.r p19), (.r p24), (.r p25)]))⟩, [], false⟩, ⟨11, ⟨(some p15), none, (.e (.mv (.r p26)))⟩, [], false⟩, ⟨12, ⟨(some p27), none, (.e (.ext 0 (.r p15)))⟩, [], false⟩, ⟨13, ⟨(some p28), none, (.e (.ext 1 (.r p15)))⟩, [], false⟩, ⟨14, ⟨(some p5), none, (.e (.mv (.r p27)))⟩, [], false⟩, ⟨15, ⟨(some p6), none, (.e (.mv (.r p28)))⟩, [], false⟩]) (.seq (.drg [⟨0, ⟨(some p29), none, (.e (.mv (.r p0)))⟩, [], false⟩, ⟨1, ⟨(some p30), none, (.e (.nilchk (.r p29)))⟩, [], false⟩, ⟨2, ⟨(some p31), none, (.e (.fa 8 (.r p30)))⟩, [], false⟩, ⟨3, ⟨(some p32), none, (.e (.ld (.r p31)))⟩, [], false⟩, ⟨4, ⟨(some p33), none, (.e (.mv (.r p1)))⟩, [], false⟩, ⟨5, ⟨(some p34), none, (.e (.mv (.r p0)))⟩, [], false⟩, ⟨6, ⟨(some p35), none, (.e (.nilchk (.r p34)))⟩, [], false⟩, ⟨7, ⟨(some p36), none, (.e (.fa 9 (.r p35)))⟩, [], false⟩, ⟨8, ⟨(some p37), none, (.e (.ld (.r p36)))⟩, [], false⟩, ⟨9, ⟨(some p38), none, (.e (.mv (.r p1)))⟩, [], false⟩, ⟨10, ⟨(some p39), none, (.e (.mv (.r p5)))⟩, [], false⟩, ⟨11, ⟨(some p40), none, (.e (.iaS 1 (.r p32) (.r p33)))⟩, [], false⟩, ⟨12, ⟨none, none, (.w (.st 1 (.r p40) (.r p39)))⟩, [], false⟩, ⟨13, ⟨(some p41), none, (.e (.iaS 1 (.r p37) (.r p38)))⟩, [], false⟩, ⟨14, ⟨none, none, (.w (.st 1 (.r p41) (.c (.bool true))))⟩, [], false⟩]) (.drg [⟨0, ⟨(some p42), none, (.e (.mv (.r p0)))⟩, [], false⟩, ⟨1, ⟨(some p43), none, (.e (.nilchk (.r p42)))⟩, [], false⟩, ⟨2, ⟨(some p44), none, (.e (.fa 10 (.r p43)))⟩, [], false⟩, ⟨3, ⟨(some p45), none, (.e (.ld (.r p44)))⟩, [], false⟩, ⟨4, ⟨(some p46), none, (.e (.mv (.r p1)))⟩, [], false⟩, ⟨5, ⟨(some p47), none, (.e (.mv (.r p6)))⟩, [], false⟩, ⟨6, ⟨(some p48), none, (.e (.bin .eql (.r p47) (.c (.int .i64 (.ofNat 0)))))⟩, [], false⟩, ⟨7, ⟨(some p49), none, (.e (.mv (.r p48)))⟩, [], false⟩, ⟨8, ⟨(some p50), (some (p49, true)), (.e (.mv (.r p5)))⟩, [], false⟩, ⟨9, ⟨(some p51), (some (p49, true)), (.e (.lenS (.r p50)))⟩, [], false⟩, ⟨10, ⟨(some p52), (some (p49, true)), (.e (.mv (.r p0)))⟩, [], false⟩, ⟨11, ⟨(some p53), (some (p49, true)), (.e (.nilchk (.r p52)))⟩, [], false⟩, ⟨12, ⟨(some p54), (some (p49, true)), (.e (.fa 7 (.r p53)))⟩, [], false⟩, ⟨13, ⟨(some p55), (some (p49, true)), (.e (.ld (.r p54)))⟩, [], false⟩, ⟨14, ⟨(some p56), (some (p49, true)), (.e (.bin .eql (.r p51) (.r p55)))⟩, [], false⟩, ⟨15, ⟨(some p57), none, (.e (.pick (.r p49) (.r p56) (.c (.bool false))))⟩, [], false⟩, ⟨16, ⟨(some p58), none, (.e (.iaS 1 (.r p45) (.r p46)))⟩, [], false⟩, ⟨17, ⟨none, none, (.w (.st 1 (.r p58) (.r p57)))⟩, [], false⟩]))) .skip)) C30_1))
theorem I30_1 (E : Env) : Is E C30_1 (retK3 R30) (fun σ h => J30_1 E (σ p0) (σ p1) h) :=
  fun σ h => by kernel_rfl
theorem I30_0 (E : Env) : Is E C30_0 (retK3 R30) (fun σ h => J30_0 E (σ p0) (σ p1) h) :=
  Is.as (Is.seq (Is.seq (I30_1 E) (Is.leaf _)) (Is.leaf _)) fun σ h => by kernel_rfl
def D30 : DF := ⟨2, 66, C30_0, R30⟩
noncomputable def S30 (E : Env) : Fun := fun args h => aS args fun r0 args => aS args fun r1 args => a0 args (J30_0 E r0 r1 h)
theorem S30_eq (E : Env) (args : List DV) (h : H) : runFn E D30 args h = S30 E args h :=
  Is.fn2 (d := D30) (I30_0 E) rfl (fun r0 r1 h => J30_0 E r0 r1 h) (fun r0 r1 h => by kernel_rfl) args h
/- (*hurdle/reader.stripe).missing -/
def R31 : List RV := [(.r p2)]
noncomputable def J31_1 (E : Env) (r3 : DV) (h : H) : Ans :=
  some (r3, h)
def C31_1 : DC := (.seq (.reg [⟨(some p22), none, (.e (.mv (.r p3)))⟩, ⟨(some p2), none, (.e (.mv (.r p22)))⟩]) .ret)
noncomputable def J31_3 (E : Env) (i2 : DV → DV → H → Ans) (r3 r10 : DV) (h : H) : Ans :=
  vK (v_add r10 (.int .i64 (.ofNat 1))) fun x1 =>
  i2 r3 x1 h
def C31_3 : DC := (.reg [⟨(some p21), none, (.e (.bin .add (.r p10) (.c (.int .i64 (.ofNat 1)))))⟩, ⟨(some p10), none, (.e (.mv (.r p21)))⟩])
noncomputable def B31_2 (E : Env) (r0 r9 : DV) (i2 : DV → DV → H → Ans) (r3 r10 : DV) (h : H) : Ans :=
  vK (v_lss r10 r9) fun x1 =>
  bK x1
  (wK (callK E 30 [r0, r10] h) fun x2 h3 =>
  vK (v_not x2) fun x4 =>
  bK x4
  (n_bsl 1 1 [(.int .i64 (.ofNat 0))] [(0, 1, r10)] h3 fun x5 h6 =>
  wK (dAppendF 1 8 r3 x5 h6) fun x7 h8 =>
  J31_3 E i2 x7 r10 h8)
  (J31_3 E i2 r3 r10 h3))
  (J31_1 E r3 h)
noncomputable def L31_2 (E : Env) (r0 r9 : DV) (n : Nat) : DV → DV → H → Ans := Nat.rec (motive := fun _ => DV → DV → H → Ans) (fun _ _ _ => none) (fun _ i => B31_2 E r0 r9 i) n
def C31_2 : DC := (.loop (.seq (.reg [⟨(some p11), none, (.e (.bin .lss (.r p10) (.r p9)))⟩]) (.seq (.cond (.r p11) .skip (.exit 0)) (.seq (.block 1 (.seq (.reg [⟨(some p12), none, (.e (.mv (.r p10)))⟩, ⟨(some p4), none, (.e (.mv (.r p12)))⟩]) (.seq (.reg [⟨(some p13), none, (.e (.mv (.r p0)))⟩, ⟨(some p14), none, (.e (.mv (.r p4)))⟩, ⟨(some p15), none, (.c (.f 30 [(.r p13), (.r p14)]))⟩, ⟨(some p16), none, (.e (.not (.r p15)))⟩]) (.cond (.r p16) (.reg [⟨(some p17), none, (.e (.mv (.r p3)))⟩, ⟨(some p18), none, (.e (.mv (.r p4)))⟩, ⟨(some p19), none, (.e (.bsl 1 1 [(.int .i64 (.ofNat 0))] [(0, 1, (.r p18))]))⟩, ⟨(some p20), none, (.w (.app 1 8 (.r p17) (.r p19)))⟩, ⟨(some p3), none, (.e (.mv (.r p20)))⟩]) .skip)))) C31_3))))
noncomputable def J31_0 (E : Env) (r0 : DV) (h : H) : Ans :=
  vK (v_nilchk r0) fun x1 =>
  vK (v_fa 8 x1) fun x2 =>
  vK (v_ld h.get x2) fun x3 =>
  vK (v_lenL x3) fun x4 =>
  L31_2 E r0 x4 FUEL .nils (.int .i64 (.ofNat 0)) h
def C31_0 : DC := (.seq (.reg [⟨(some p2), none, (.e (.mv (.c .nils)))⟩]) (.seq (.reg [⟨(some p3), none, (.e (.mv (.c .nils)))⟩]) (.seq (.seq (.reg [⟨(some p5), none, (.e (.mv (.r p0)))⟩, ⟨(some p6), none, (.e (.nilchk (.r p5)))⟩, ⟨(some p7), none, (.e (.fa 8 (.r p6)))⟩, ⟨(some p8), none, (.e (.ld (.r p7)))⟩, ⟨(some p9), none, (.e (.lenL (.r p8)))⟩, ⟨(some p10), none, (.e (.mv (.c (.int .i64 (.ofNat 0)))))⟩]) (.block 0 C31_2)) C31_1)))
theorem I31_1 (E : Env) : Is E C31_1 (retK3 R31) (fun σ h => J31_1 E (σ p3) h) :=
  fun σ h => by kernel_rfl
noncomputable abbrev K31_4 (E : Env) : KT2 (DV × H) := (thenK3 (fun σ h => J31_1 E (σ p3) h) (retK3 R31))
noncomputable abbrev K31_5 (E : Env) (n2 : Nat) : KT2 (DV × H) := (thenK3 (fun σ h => (L31_2 E (σ p0) (σ p9) n2) (σ p3) (σ p10) h) (blockK3 0 (K31_4 E)))
theorem I31_3 (E : Env) (n2 : Nat) : Is E C31_3 (K31_5 E n2) (fun σ h => J31_3 E (L31_2 E (σ p0) (σ p9) n2) (σ p3) (σ p10) h) :=
  fun σ h => by kernel_rfl
theorem I31_2 (E : Env) : Is E C31_2 (blockK3 0 (K31_4 E)) (fun σ h => L31_2 E (σ p0) (σ p9) FUEL (σ p3) (σ p10) h) :=
  Is.loop (fun n2 σ h => L31_2 E (σ p0) (σ p9) n2 (σ p3) (σ p10) h) (by kernel_rfl) fun n2 => Is.as (Is.seq (Is.seq (Is.seq (I31_3 E n2) (Is.leaf _)) (Is.leaf _)) (Is.leaf _)) fun σ h => by kernel_rfl
theorem I31_0 (E : Env) : Is E C31_0 (retK3 R31) (fun σ h => J31_0 E (σ p0) h) :=
  Is.as (Is.seq (Is.seq (Is.seq (I31_1 E) (Is.seq (Is.block (I31_2 E)) (Is.leaf _))) (Is.leaf _)) (Is.leaf _)) fun σ h => by kernel_rfl
def D31 : DF := ⟨1, 23, C31_0, R31⟩
noncomputable def S31 (E : Env) : Fun := fun args h => aS args fun r0 args => a0 args (J31_0 E r0 h)
theorem S31_eq (E : Env) (args : List DV) (h : H) : runFn E D31 args h = S31 E args h :=
  Is.fn1 (d := D31) (I31_0 E) rfl (fun r0 h => J31_0 E r0 h) (fun r0 h => by kernel_rfl) args h
/- hurdle/parity.Right -/
def R32 : List RV := [(.r p2)]
noncomputable def J32_0 (E : Env) (r0 : DV) (h : H) : Ans :=
  vK (v_lenL r0) fun x1 =>
  wK (callK E 58 [x1] h) fun x2 h3 =>
  vK (v_not x2) fun x4 =>
  bK x4
  (some ((.bool false), h3))
  (wK (callK E 59 [r0, (.int .i64 (.negSucc 0))] h3) fun x5 h6 =>
  vK (v_ext 0 x5) fun x7 =>
  vK (v_ext 1 x5) fun x8 =>
  gdK x8 true (fun kk => kk x7 h6) h6 fun x9 h10 =>
  gdK x8 true (fun kk => vK (v_nilchk x9) fun v => kk v h10) h10 fun x11 h12 =>
  gdK x8 true (fun kk => vK (v_ldN 513 h12.get x11) fun v => kk v h12) h12 fun x13 h14 =>
  gdK x8 true (fun kk => kk x7 h14) h14 fun x15 h16 =>
  gdK x8 true (fun kk => vK (v_nilchk x15) fun v => kk v h16) h16 fun x17 h18 =>
  gdK x8 true (fun kk => vK (v_fa 512 x17) fun v => kk v h18) h18 fun x19 h20 =>
  gdK x8 true (fun kk => vK (v_ld h20.get x19) fun v => kk v h20) h20 fun x21 h22 =>
  gdK x8 true (fun kk => vK (v_bld [(.int .u8 (.ofNat 0)), (.int .u8 (.ofNat 0)), (.int .u8 (.ofNat 0)), (.int .u8 (.ofNat 0)), (.int .u8 (.ofNat 0)), (.int .u8 (.ofNat 0)), (.int .u8 (.ofNat 0)), (.int .u8 (.ofNat 0)), (.int .u8 (.ofNat 0)), (.int .u8 (.ofNat 0)), (.int .u8 (.ofNat 0)), (.int .u8 (.ofNat 0)), (.int .u8 (.ofNat 0)), (.int .u8 (.ofNat 0)), (.int .u8 (.ofNat 0)), (.int .u8 (.ofNat 0)), (.int .u8 (.ofNat 0)), (.int .u8 (.ofNat 0)), (.int .u8 (.ofNat 0)), (.int .u8 (.ofNat 0)), (.int .u8 (.ofNat 0)), (.int .u8 (.ofNat 0)), (.int .u8 (.ofNat 0)), (.int .u8 (.ofNat 0)), (.int .u8 (.ofNat 0)), (.int .u8 (.ofNat 0)), (.int .u8 (.ofNat 0)), (.int .u8 (.ofNat 0)), (.int .u8 (.ofNat 0)), (.int .u8 (.ofNat 0)), (.int .u8 (.ofNat 0)), (.int .u8 (.ofNat 0)), (.int .u8 (.ofNat 0)), (.int .u8 (.ofNat 0)), (.int .u8 (.ofNat 0)), (.int .u8 (.ofNat 0)), (.int .u8 (.ofNat 0)), (.int .u8 (.ofNat 0)), (.int .u8 (.ofNat 0)), (.int .u8 (.ofNat 0)), (.int .u8 (.ofNat 0)), (.int .u8 (.ofNat 0)), (.int .u8 (.ofNat 0)), (.int .u8 (.ofNat 0)), (.int .u8 (.ofNat 0)), (.int .u8 (.ofNat 0)), (.int .u8 (.ofNat 0)), (.int .u8 (.ofNat 0)), (.int .u8 (.ofNat 0)), (.int .u8 (.ofNat 0)), (.int .u8 (.ofNat 0)), (.int .u8 (.ofNat 0)), (.int .u8 (.ofNat 0)), (.int .u8 (.ofNat 0)), (.int .u8 (.ofNat 0)), (.int .u8 (.ofNat 0)), (.int .u8 (.ofNat 0)), (.int .u8 (.ofNat 0)), (.int .u8 (.ofNat 0)), (.int .u8 (.ofNat 0)), (.int .u8 (.ofNat 0)), (.int .u8 (.ofNat 0)), (.int .u8 (.ofNat 0)), (.int .u8 (.ofNat 0)), (.int .u8 (.ofNat 0)), (.int .u8 (.ofNat 0)), (.int .u8 (.ofNat 0)), (.int .u8 (.ofNat 0)), (.int .u8 (.ofNat 0)), (.int .u8 (.ofNat 0)), (.int .u8 (.ofNat 0)), (.int .u8 (.ofNat 0)), (.int .u8 (.ofNat 0)), (.int .u8 (.ofNat 0)), (.int .u8 (.ofNat 0)), (.int .u8 (.ofNat 0)), (.int .u8 (.ofNat 0)), (.int .u8 (.ofNat 0)), (.int .u8 (.ofNat 0)), (.int .u8 (.ofNat 0)), (.int .u8 (.ofNat 0)), (.int .u8 (.ofNat 0)), (.int .u8 (.ofNat 0)), (.int .u8 (.ofNat 0)), (.int .u8 (.ofNat 0)), (.int .u8 (.ofNat 0)), (.int .u8 (.ofNat 0)), (.int .u8 (.ofNat 0)), (.int .u8 (.ofNat 0)), (.int .u8 (.ofNat 0)), (.int .u8 (.ofNat 0)), (.int .u8 (.ofNat 0)), (.int .u8 (.ofNat 0)), (.int .u8 (.ofNat 0)), (.int .u8 (.ofNat 0)), (.int .u8 (.ofNat 0)), (.int .u8 (.ofNat 0)), (.int .u8 (.ofNat 0)), (.int .u8 (.ofNat 0)), (.int .u8 (.ofNat 0)), (.int .u8 (.ofNat 0)), (.int .u8 (.ofNat 0)), (.int .u8 (.ofNat 0)), (.int .u8 (.ofNat 0)), (.int .u8 (.ofNat 0)), (.int .u8 (.ofNat 0)), (.int .u8 (.ofNat 0)), (.int .u8 (.ofNat 0)), (.int .u8 (.ofNat 0)), (.int .u8 (.ofNat 0)), (.int .u8 (.ofNat 0)), (.int .u8 (.ofNat 0)), (.int .u8 (.ofNat 0)), (.int .u8 (.ofNat 0)), (.int .u8 (.ofNat 0)), (.int .u8 (.ofNat 0)), (.int .u8 (.ofNat 0)), (.int .u8 (.ofNat 0)), (.int .u8 (.ofNat 0)), (.int .u8 (.ofNat 0)), (.int .u8 (.ofNat 0)), (.int .u8 (.ofNat 0)), (.int .u8 (.ofNat 0)), (.int .u8 (.ofNat 0)), (.int .u8 (.ofNat 0)), (.int .u8 (.ofNat 0)), (.int .u8 (.ofNat 0)), (.int .u8 (.ofNat 0)), (.int .u8 (.ofNat 0)), (.int .u8 (.ofNat 0)), (.int .u8 (.ofNat 0)), (.int .u8 (.ofNat 0)), (.int .u8 (.ofNat 0)), (.int .u8 (.ofNat 0)), (.int .u8 (.ofNat 0)), (.int .u8 (.ofNat 0)), (.int .u8 (.ofNat 0)), (.int .u8 (.ofNat 0)), (.int .u8 (.ofNat 0)), (.int .u8 (.ofNat 0)), (.int .u8 (.ofNat 0)), (.int .u8 (.ofNat 0)), (.int .u8 (.ofNat 0)), (.int .u8 (.ofNat 0)), (.int .u8 (.ofNat 0)), (.int .u8 (.ofNat 0)), (.int .u8 (.ofNat 0)), (.int .u8 (.ofNat 0)), (.int .u8 (.ofNat 0)), (.int .u8 (.ofNat 0)), (.int .u8 (.ofNat 0)), (.int .u8 (.ofNat 0)), (.int .u8 (.ofNat 0)), (.int .u8 (.ofNat 0)), (.int .u8 (.ofNat 0)), (.int .u8 (.ofNat 0)), (.int .u8 (.ofNat 0)), (.int .u8 (.ofNat 0)), (.int .u8 (.ofNat 0)), (.int .u8 (.ofNat 0)), (.int .u8 (.ofNat 0)), (.int .u8 (.ofNat 0)), (.int .u8 (.ofNat 0)), (.int .u8 (.ofNat 0)), (.int .u8 (.ofNat 0)), (.int .u8 (.ofNat 0)), (.int .u8 (.ofNat 0)), (.int .u8 (.ofNat 0)), (.int .u8 (.ofNat 0)), (.int .u8 (.ofNat 0)), (.int .u8 (.ofNat 0)), (.int .u8 (.ofNat 0)), (.int .u8 (.ofNat 0)), (.int .u8 (.ofNat 0)), (.int .u8 (.ofNat 0)), (.int .u8 (.ofNat 0)), (.int .u8 (.ofNat 0)), (.int .u8 (.ofNat 0)), (.int .u8 (.ofNat 0)), (.int .u8 (.ofNat 0)), (.int .u8 (.ofNat 0)), (.int .u8 (.ofNat 0)), (.int .u8 (.ofNat 0)), (.int .u8 (.ofNat 0)), (.int .u8 (.ofNat 0)), (.int .u8 (.ofNat 0)), (.int .u8 (.ofNat 0)), (.int .u8 (.ofNat 0)), (.int .u8 (.ofNat 0)), (.int .u8 (.ofNat 0)), (.int .u8 (.ofNat 0)), (.int .u8 (.ofNat 0)), (.int .u8 (.ofNat 0)), (.int .u8 (.ofNat 0)), (.int .u8 (.ofNat 0)), (.int .u8 (.ofNat 0)), (.int .u8 (.ofNat 0)), (.int .u8 (.ofNat 0)), (.int .u8 (.ofNat 0)), (.int .u8 (.ofNat 0)), (.int .u8 (.ofNat 0)), (.int .u8 (.ofNat 0)), (.int .u8 (.ofNat 0)), (.int .u8 (.ofNat 0)), (.int .u8 (.ofNat 0)), (.int .u8 (.ofNat 0)), (.int .u8 (.ofNat 0)), (.int .u8 (.ofNat 0)), (.int .u8 (.ofNat 0)), (.int .u8 (.ofNat 0)), (.int .u8 (.ofNat 0)), (.int .u8 (.ofNat 0)), (.int .u8 (.ofNat 0)), (.int .u8 (.ofNat 0)), (.int .u8 (.ofNat 0)), (.int .u8 (.ofNat 0)), (.int .u8 (.ofNat 0)), (.int .u8 (.ofNat 0)), (.int .u8 (.ofNat 0)), (.int .u8 (.ofNat 0)), (.int .u8 (.ofNat 0)), (.int .u8 (.ofNat 0)), (.int .u8 (.ofNat 0)), (.int .u8 (.ofNat 0)), (.int .u8 (.ofNat 0)), (.int .u8 (.ofNat 0)), (.int .u8 (.ofNat 0)), (.int .u8 (.ofNat 0)), (.int .u8 (.ofNat 0)), (.int .u8 (.ofNat 0)), (.int .u8 (.ofNat 0)), (.int .u8 (.ofNat 0)), (.int .u8 (.ofNat 0)), (.int .u8 (.ofNat 0)), (.int .u8 (.ofNat 0)), (.int .u8 (.ofNat 0)), (.int .u8 (.ofNat 0)), (.int .u8 (.ofNat 0)), (.int .u8 (.ofNat 0)), (.int .u8 (.ofNat 0)), (.int .u8 (.ofNat 0)), (.int .u8 (.ofNat 0)), (.int .u8 (.ofNat 0)), (.int .u8 (.ofNat 0)), (.int .u8 (.ofNat 0)), (.int .u8 (.ofNat 0)), (.int .u8 (.ofNat 0)), (.int .u8 (.ofNat 0)), (.int .u8 (.ofNat 0)), (.int .u8 (.ofNat 0)), (.int .u8 (.ofNat 0)), (.int .u8 (.ofNat 0)), (.int .u8 (.ofNat 0)), (.int .u8 (.ofNat 0)), (.int .u8 (.ofNat 0)), (.int .u8 (.ofNat 0)), (.int .u8 (.ofNat 0)), (.int .u8 (.ofNat 0)), (.int .u8 (.ofNat 0)), (.int .u8 (.ofNat 0)), (.int .u8 (.ofNat 0)), (.int .u8 (.ofNat 0)), (.int .u8 (.ofNat 0)), (.int .u8 (.ofNat 0)), (.int .u8 (.ofNat 0)), (.int .u8 (.ofNat 0)), (.int .u8 (.ofNat 0)), (.int .u8 (.ofNat 0)), (.int .u8 (.ofNat 0)), (.int .u8 (.ofNat 0)), (.int .u8 (.ofNat 0)), (.int .u8 (.ofNat 0)), (.int .u8 (.ofNat 0)), (.int .u8 (.ofNat 0)), (.int .u8 (.ofNat 0)), (.int .u8 (.ofNat 0)), (.int .u8 (.ofNat 0)), (.int .u8 (.ofNat 0)), (.int .u8 (.ofNat 0)), (.int .u8 (.ofNat 0)), (.int .u8 (.ofNat 0)), (.int .u8 (.ofNat 0)), (.int .u8 (.ofNat 0)), (.int .u8 (.ofNat 0)), (.int .u8 (.ofNat 0)), (.int .u8 (.ofNat 0)), (.int .u8 (.ofNat 0)), (.int .u8 (.ofNat 0)), (.int .u8 (.ofNat 0)), (.int .u8 (.ofNat 0)), (.int .u8 (.ofNat 0)), (.int .u8 (.ofNat 0)), (.int .u8 (.ofNat 0)), (.int .u8 (.ofNat 0)), (.int .u8 (.ofNat 0)), (.int .u8 (.ofNat 0)), (.int .u8 (.ofNat 0)), (.int .u8 (.ofNat 0)), (.int .u8 (.ofNat 0)), (.int .u8 (.ofNat 0)), (.int .u8 (.ofNat 0)), (.int .u8 (.ofNat 0)), (.int .u8 (.ofNat 0)), (.int .u8 (.ofNat 0)), (.int .u8 (.ofNat 0)), (.int .u8 (.ofNat 0)), (.int .u8 (.ofNat 0)), (.int .u8 (.ofNat 0)), (.int .u8 (.ofNat 0)), (.int .u8 (.ofNat 0)), (.int .u8 (.ofNat 0)), (.int .u8 (.ofNat 0)), (.int .u8 (.ofNat 0)), (.int .u8 (.ofNat 0)), (.int .u8 (.ofNat 0)), (.int .u8 (.ofNat 0)), (.int .u8 (.ofNat 0)), (.int .u8 (.ofNat 0)), (.int .u8 (.ofNat 0)), (.int .u8 (.ofNat 0)), (.int .u8 (.ofNat 0)), (.int .u8 (.ofNat 0)), (.int .u8 (.ofNat 0)), (.int .u8 (.ofNat 0)), (.int .u8 (.ofNat 0)), (.int .u8 (.ofNat 0)), (.int .u8 (.ofNat 0)), (.int .u8 (.ofNat 0)), (.int .u8 (.ofNat 0)), (.int .u8 (.ofNat 0)), (.int .u8 (.ofNat 0)), (.int .u8 (.ofNat 0)), (.int .u8 (.ofNat 0)), (.int .u8 (.ofNat 0)), (.int .u8 (.ofNat 0)), (.int .u8 (.ofNat 0)), (.int .u8 (.ofNat 0)), (.int .u8 (.ofNat 0)), (.int .u8 (.ofNat 0)), (.int .u8 (.ofNat 0)), (.int .u8 (.ofNat 0)), (.int .u8 (.ofNat 0)), (.int .u8 (.ofNat 0)), (.int .u8 (.ofNat 0)), (.int .u8 (.ofNat 0)), (.int .u8 (.ofNat 0)), (.int .u8 (.ofNat 0)), (.int .u8 (.ofNat 0)), (.int .u8 (.ofNat 0)), (.int .u8 (.ofNat 0)), (.int .u8 (.ofNat 0)), (.int .u8 (.ofNat 0)), (.int .u8 (.ofNat 0)), (.int .u8 (.ofNat 0)), (.int .u8 (.ofNat 0)), (.int .u8 (.ofNat 0)), (.int .u8 (.ofNat 0)), (.int .u8 (.ofNat 0)), (.int .u8 (.ofNat 0)), (.int .u8 (.ofNat 0)), (.int .u8 (.ofNat 0)), (.int .u8 (.ofNat 0)), (.int .u8 (.ofNat 0)), (.int .u8 (.ofNat 0)), (.int .u8 (.ofNat 0)), (.int .u8 (.ofNat 0)), (.int .u8 (.ofNat 0)), (.int .u8 (.ofNat 0)), (.int .u8 (.ofNat 0)), (.int .u8 (.ofNat 0)), (.int .u8 (.ofNat 0)), (.int .u8 (.ofNat 0)), (.int .u8 (.ofNat 0)), (.int .u8 (.ofNat 0)), (.int .u8 (.ofNat 0)), (.int .u8 (.ofNat 0)), (.int .u8 (.ofNat 0)), (.int .u8 (.ofNat 0)), (.int .u8 (.ofNat 0)), (.int .u8 (.ofNat 0)), (.int .u8 (.ofNat 0)), (.int .u8 (.ofNat 0)), (.int .u8 (.ofNat 0)), (.int .u8 (.ofNat 0)), (.int .u8 (.ofNat 0)), (.int .u8 (.ofNat 0)), (.int .u8 (.ofNat 0)), (.int .u8 (.ofNat 0)), (.int .u8 (.ofNat 0)), (.int .u8 (.ofNat 0)), (.int .u8 (.ofNat 0)), (.int .u8 (.ofNat 0)), (.int .u8 (.ofNat 0)), (.int .u8 (.ofNat 0)), (.int .u8 (.ofNat 0)), (.int .u8 (.ofNat 0)), (.int .u8 (.ofNat 0)), (.int .u8 (.ofNat 0)), (.int .u8 (.ofNat 0)), (.int .u8 (.ofNat 0)), (.int .u8 (.ofNat 0)), (.int .u8 (.ofNat 0)), (.int .u8 (.ofNat 0)), (.int .u8 (.ofNat 0)), (.int .u8 (.ofNat 0)), (.int .u8 (.ofNat 0)), (.int .u8 (.ofNat 0)), (.int .u8 (.ofNat 0)), (.int .u8 (.ofNat 0)), (.int .u8 (.ofNat 0)), (.int .u8 (.ofNat 0)), (.int .u8 (.ofNat 0)), (.int .u8 (.ofNat 0)), (.int .u8 (.ofNat 0)), (.int .u8 (.ofNat 0)), (.int .u8 (.ofNat 0)), (.int .u8 (.ofNat 0)), (.int .u8 (.ofNat 0)), (.int .u8 (.ofNat 0)), (.int .u8 (.ofNat 0)), (.int .u8 (.ofNat 0)), (.int .u8 (.ofNat 0)), (.int .u8 (.ofNat 0)), (.int .u8 (.ofNat 0)), (.int .u8 (.ofNat 0)), (.int .u8 (.ofNat 0)), (.int .u8 (.ofNat 0)), (.int .u8 (.ofNat 0)), (.int .u8 (.ofNat 0)), (.int .u8 (.ofNat 0)), (.int .u8 (.ofNat 0)), (.int .u8 (.ofNat 0)), (.int .u8 (.ofNat 0)), (.int .u8 (.ofNat 0)), (.int .u8 (.ofNat 0)), (.int .u8 (.ofNat 0)), (.int .u8 (.ofNat 0)), (.int .u8 (.ofNat 0)), (.int .u8 (.ofNat 0)), (.int .u8 (.ofNat 0)), (.int .u8 (.ofNat 0)), (.int .u8 (.ofNat 0)), (.int .u8 (.ofNat 0)), (.int .u8 (.ofNat 0)), (.int .u8 (.ofNat 0)), (.int .u8 (.ofNat 0)), (.int .u8 (.ofNat 0)), (.int .u8 (.ofNat 0)), (.int .u8 (.ofNat 0)), (.int .u8 (.ofNat 0)), (.int .u8 (.ofNat 0)), (.int .u8 (.ofNat 0)), (.int .u8 (.ofNat 0)), (.int .u8 (.ofNat 0)), (.int .u8 (.ofNat 0)), (.int .u8 (.ofNat 0)), (.int .u8 (.ofNat 0)), (.int .u8 (.ofNat 0)), (.int .u8 (.ofNat 0)), (.int .u8 (.ofNat 0)), (.int .u8 (.ofNat 0)), (.int .u8 (.ofNat 0)), (.int .u8 (.ofNat 0)), (.int .u8 (.ofNat 0)), (.int .u8 (.ofNat 0)), (.int .u8 (.ofNat 0)), (.int .u8 (.ofNat 0)), (.int .u8 (.ofNat 0)), (.int .u8 (.ofNat 0)), (.int .u8 (.ofNat 0)), (.int .u8 (.ofNat 0)), (.int .u8 (.ofNat 0)), (.int .u8 (.ofNat 0)), (.int .u8 (.ofNat 0)), (.int .u8 (.ofNat 0)), (.int .u8 (.ofNat 0)), (.int .u8 (.ofNat 0)), (.int .u8 (.ofNat 0)), (.int .u8 (.ofNat 0)), (.int .u8 (.ofNat 0)), (.int .u8 (.ofNat 0)), (.int .u8 (.ofNat 0)), (.int .u8 (.ofNat 0)), (.int .u8 (.ofNat 0)), (.int .u8 (.ofNat 0)), (.int .u8 (.ofNat 0)), (.int .u8 (.ofNat 0)), (.int .u8 (.ofNat 0)), (.int .u8 (.ofNat 0)), (.int .u8 (.ofNat 0)), (.int .u8 (.ofNat 0)), (.int .u8 (.ofNat 0)), (.int .u8 (.ofNat 0)), (.int .u8 (.ofNat 0)), (.int .u8 (.ofNat 0)), (.int .u8 (.ofNat 0)), (.int .u8 (.ofNat 0)), (.int .u8 (.ofNat 0)), (.int .u8 (.ofNat 0)), (.int .u8 (.ofNat 0)), (.int .u8 (.ofNat 0)), (.int .u8 (.ofNat 0)), (.int .u8 (.ofNat 0)), (.int .u8 (.ofNat 0)), (.int .u8 (.ofNat 0)), (.int .u8 (.ofNat 0)), (.int .u8 (.ofNat 0)), (.int .u8 (.ofNat 0)), (.int .u8 (.ofNat 0)), (.int .u8 (.ofNat 0)), (.int .u8 (.ofNat 0)), (.int .u8 (.ofNat 0)), (.int .i64 (.ofNat 0))] [(512, 1, x21)]) fun v => kk v h22) h22 fun x23 h24 =>
  gdK x8 true (fun kk => vK (v_eqs false (.arr .int 0 512 (.leaf .int 512 .nil)) h24.get x13 x23) fun v => kk v h24) h24 fun x25 h26 =>
  vK (v_pick x8 x25 (.bool false)) fun x27 =>
  some (x27, h26))
def C32_0 : DC := (.seq (.reg [⟨(some p2), none, (.e (.mv (.c (.bool false))))⟩]) (.seq (.seq (.reg [⟨(some p5), none, (.e (.mv (.r p0)))⟩, ⟨(some p6), none, (.e (.lenL (.r p5)))⟩, ⟨(some p7), none, (.c (.f 58 [(.r p6)]))⟩, ⟨(some p8), none, (.e (.not (.r p7)))⟩]) (.cond (.r p8) (.seq (.reg [⟨(some p2), none, (.e (.mv (.c (.bool false))))⟩]) .ret) .skip)) (.seq (.reg [⟨(some p10), none, (.e (.mv (.r p0)))⟩, ⟨(some p11), none, (.c (.f 59 [(.r p10), (.c (.int .i64 (.negSucc 0)))]))⟩, ⟨(some p9), none, (.e (.mv (.r p11)))⟩, ⟨(some p12), none, (.e (.ext 0 (.r p9)))⟩, ⟨(some p13), none, (.e (.ext 1 (.r p9)))⟩, ⟨(some p3), none, (.e (.mv (.r p12)))⟩, ⟨(some p4), none, (.e (.mv (.r p13)))⟩]) (.seq (.drg [⟨0, ⟨(some p14), none, (.e (.mv (.r p4)))⟩, [], false⟩, ⟨1, ⟨(some p15), none, (.e (.mv (.r p14)))⟩, [], false⟩, ⟨2, ⟨(some p16), (some (p15, true)), (.e (.mv (.r p3)))⟩, [], false⟩, ⟨3, ⟨(some p17), (some (p15, true)), (.e (.nilchk (.r p16)))⟩, [], false⟩, ⟨4, ⟨(some p18), (some (p15, true)), (.e (.ldN 513 (.r p17)))⟩, [], false⟩, ⟨5, ⟨(some p19), (some (p15, true)), (.e (.mv (.r p3)))⟩, [], false⟩, ⟨6, ⟨(some p20), (some (p15, true)), (.e (.nilchk (.r p19)))⟩, [], false⟩, ⟨7, ⟨(some p21), (some (p15, true)), (.e (.fa 512 (.r p20)))⟩, [], false⟩, ⟨8, ⟨(some p22), (some (p15, true)), (.e (.ld (.r p21)))⟩, [], false⟩, ⟨9, ⟨(some p23), (some (p15, true)), (.e (.bld [(.int .u8 (.ofNat 0)), (.int .u8 (.ofNat 0)), (.int .u8 (.ofNat 0)), (.int .u8 (.ofNat 0)), (.int .u8 (.ofNat 0)), (.int .u8 (.ofNat 0)), (.int .u8 (.ofNat 0)), (.int .u8 (.ofNat 0)), (.int .u8 (.ofNat 0)), (.int .u8 (.ofNat 0)), (.int .u8 (.ofNat 0)), (.int .u8 (.ofNat 0)), (.int .u8 (.ofNat 0)), (.int .u8 (.ofNat 0)), (.int .u8 (.ofNat 0)), (.int .u8 (.ofNat 0)), (.int .u8 (.ofNat 0)), (.int .u8 (.ofNat 0)), (.int .u8 (.ofNat 0)), (.int .u8 (.ofNat 0)), (.int .u8 (.ofNat 0)), (.int .u8 (.ofNat 0)), (.int .u8 (.ofNat 0)), (.int .u8 (.ofNat 0)), (.int .u8 (.ofNat 0)), (.int .u8 (.ofNat 0)), (.int .u8 (.ofNat 0)), (.int .u8 (.ofNat 0)), (.int .u8 (.ofNat 0)), (.int .u8 (.ofNat 0)), (.int .u8 (.ofNat 0)), (.int .u8 (.ofNat 0)), (.int .u8 (.ofNat 0)), (.int .u8 (.ofNat 0)), (.int .u8 (.ofNat 0)), (.int .u8 (.ofNat 0)), (.int .u8 (.ofNat 0)), (.int .u8 (.ofNat 0)), (.int .u8 (.ofNat 0)), (.int .u8 (.ofNat 0)), (.int .u8 (.ofNat 0)), (.int .u8 (.ofNat 0)), (.int .u8 (.ofNat 0)), (.int .u8 (.ofNat 0)), (.int .u8 (.ofNat 0)), (.int .u8 (.ofNat 0)), (.int .u8 (.ofNat 0)), (.int .u8 (.ofNat 0)), (.int .u8 (.ofNat 0)), (.int .u8 (.ofNat 0)), (.int .u8 (.ofNat 0)), (.int .u8 (.ofNat 0)), (.int .u8 (.ofNat 0)), (.int .u8 (.ofNat 0)), (.int .u8 (.ofNat 0)), (.int .u8 (.ofNat 0)), (.int .u8 (.ofNat 0)), (.int .u8 (.ofNat 0)), (.int .u8 (.ofNat 0)), (.int .u8 (.ofNat 0)), (.int .u8 (.ofNat 0)), (.int .u8 (.ofNat 0)), (.int .u8 (.ofNat 0)), (.int .u8 (.ofNat 0)), (.int .u8 (.ofNat 0)), (.int .u8 (.ofNat 0)), (.int .u8 (.ofNat 0)), (.int .u8 (.ofNat 0)), (.int .u8 (.ofNat 0)), (.int .u8 (.ofNat 0)), (.int .u8 (.ofNat 0)), (.int .u8 (.ofNat 0)), (.int .u8 (.ofNat 0)), (.int .u8 (.ofNat 0)), (.int .u8 (.ofNat 0)), (.int .u8 (.ofNat 0)), (.int .u8 (.ofNat 0)), (.int .u8 (.ofNat 0)), (.int .u8 (.ofNat 0)), (.int .u8 (.ofNat 0)), (.int .u8 (.ofNat 0)), (.int .u8 (.ofNat 0)), (.int .u8 (.ofNat 0)), (.int .u8 (.ofNat 0)), (.int .u8 (.ofNat 0)), (.int .u8 (.ofNat 0)), (.int .u8 (.ofNat 0)), (.int .u8 (.ofNat 0)), (.int .u8 (.ofNat 0)), (.int .u8 (.ofNat 0)), (.int .u8 (.ofNat 0)), (.int .u8 (.ofNat 0)), (.int .u8 (.ofNat 0)), (.int .u8 (.ofNat 0)), (.int .u8 (.ofNat 0)), (.int .u8 (.ofNat 0)), (.int .u8 (.ofNat 0)), (.int .u8 (.ofNat 0)), (.int .u8 (.ofNat 0)), (.int .u8 (.ofNat 0)), (.int .u8 (.ofNat 0)), (.int .u8 (.ofNat 0)), (.int .u8 (.ofNat 0)), (.int .u8 (.ofNat 0)), (.int .u8 (.ofNat 0)), (.int .u8 (.ofNat 0)), (.int .u8 (.ofNat 0)), (.int .u8 (.ofNat 0)), (.int .u8 (.ofNat 0)), (.int .u8 (.ofNat 0)), (.int .u8 (.ofNat 0)), (.int .u8 (.ofNat 0)), (.int .u8 (.ofNat 0)), (.int .u8 (.ofNat 0)), (.int .u8 (.ofNat 0)), (.int .u8 (.ofNat 0)), (.int .u8 (.ofNat 0)), (.int .u8 (.ofNat 0)), (.int .u8 (.ofNat 0)), (.int .u8 (.ofNat 0)), (.int .u8 (.ofNat 0)), (.int .u8 (.ofNat 0)), (.int .u8 (.ofNat 0)), (.int .u8 (.ofNat 0)), (.int .u8 (.ofNat 0)), (.int .u8 (.ofNat 0)), (.int .u8 (.ofNat 0)), (.int .u8 (.ofNat 0)), (.int .u8 (.ofNat 0)), (.int .u8 (.ofNat 0)), (.int .u8 (.ofNat 0)), (.int .u8 (.ofNat 0)), (.int .u8 (.ofNat 0)), (.int .u8 (.ofNat 0)), (.int .u8 (.ofNat 0)), (.int .u8 (.ofNat 0)), (.int .u8 (.ofNat 0)), (.int .u8 (.ofNat 0)), (.int .u8 (.ofNat 0)), (.int .u8 (.ofNat 0)), (.int .u8 (.ofNat 0)), (.int .u8 (.ofNat 0)), (.int .u8 (.ofNat 0)), (.int .u8 (.ofNat 0)), (.int .u8 (.ofNat 0)), (.int .u8 (.ofNat 0)), (.int .u8 (.ofNat 0)), (.int .u8 (.ofNat 0)), (.int .u8 (.ofNat 0)), (.int .u8 (.ofNat 0)), (.int .u8 (.ofNat 0)), (.int .u8 (.ofNat 0)), (.int .u8 (.ofNat 0)), (.int .u8 (.ofNat 0)), (.int .u8 (.ofNat 0)), (.int .u8 (.ofNat 0)), (.int .u8 (.ofNat 0)), (.int .u8 (.ofNat 0)), (.int .u8 (.ofNat 0)), (.int .u8 (.ofNat 0)), (.int .u8 (.ofNat 0)), (.int .u8 (.ofNat 0)), (.int .u8 (.ofNat 0)), (.int .u8 (.ofNat 0)), (.int .u8 (.ofNat 0)), (.int .u8 (.ofNat 0)), (.int .u8 (.ofNat 0)), (.int .u8 (.ofNat 0)), (.int .u8 (.ofNat 0)), (.int .u8 (.ofNat 0)), (.int .u8 (.ofNat 0)), (.int .u8 (.ofNat 0)), (.int .u8 (.ofNat 0)), (.int .u8 (.ofNat 0)), (.int .u8 (.ofNat 0)), (.int .u8 (.ofNat 0)), (.int .u8 (.ofNat 0)), (.int .u8 (.ofNat 0)), (.int .u8 (.ofNat 0)), (.int .u8 (.ofNat 0)), (.int .u8 (.ofNat 0)), (.int .u8 (.ofNat 0)), (.int .u8 (.ofNat 0)), (.int .u8 (.ofNat 0)), (.int .u8 (.ofNat 0)), (.int .u8 (.ofNat 0)), (.int .u8 (.ofNat 0)), (.int .u8 (.ofNat 0)), (.int .u8 (.ofNat 0)), (.int .u8 (.ofNat 0)), (.int .u8 (.ofNat 0)), (.int .u8 (.ofNat 0)), (.int .u8 (.ofNat 0)), (.int .u8 (.ofNat 0)), (.int .u8 (.ofNat 0)), (.int .u8 (.ofNat 0)), (.int .u8 (.ofNat 0)), (.int .u8 (.ofNat 0)), (.int .u8 (.ofNat 0)), (.int .u8 (.ofNat 0)), (.int .u8 (.ofNat 0)), (.int .u8 (.ofNat 0)), (.int .u8 (.ofNat 0)), (.int .u8 (.ofNat 0)), (.int .u8 (.ofNat 0)), (.int .u8 (.ofNat 0)), (.int .u8 (.ofNat 0)), (.int .u8 (.ofNat 0)), (.int .u8 (.ofNat 0)), (.int .u8 (.ofNat 0)), (.int .u8 (.ofNat 0)), (.int .u8 (.ofNat 0)), (.int .u8 (.ofNat 0)), (.int .u8 (.ofNat 0)), (.int .u8 (.ofNat 0)), (.int .u8 (.ofNat 0)), (.int .u8 (.ofNat 0)), (.int .u8 (.ofNat 0)), (.int .u8 (.ofNat 0)), (.int .u8 (.ofNat 0)), (.int .u8 (.ofNat 0)), (.int .u8 (.ofNat 0)), (.int .u8 (.ofNat 0)), (.int .u8 (.ofNat 0)), (.int .u8 (.ofNat 0)), (.int .u8 (.ofNat 0)), (.int .u8 (.ofNat 0)), (.int .u8 (.ofNat 0)), (.int .u8 (.ofNat 0)), (.int .u8 (.ofNat 0)), (.int .u8 (.ofNat 0)), (.int .u8 (.ofNat 0)), (.int .u8 (.ofNat 0)), (.int .u8 (.ofNat 0)), (.int .u8 (.ofNat 0)), (.int .u8 (.ofNat 0)), (.int .u8 (.ofNat 0)), (.int .u8 (.ofNat 0)), (.int .u8 (.ofNat 0)), (.int .u8 (.ofNat 0)), (.int .u8 (.ofNat 0)), (.int .u8 (.ofNat 0)), (.int .u8 (.ofNat 0)), (.int .u8 (.ofNat 0)), (.int .u8 (.ofNat 0)), (.int .u8 (.ofNat 0)), (.int .u8 (.ofNat 0)), (.int .u8 (.ofNat 0)), (.int .u8 (.ofNat 0)), (.int .u8 (.ofNat 0)), (.int .u8 (.ofNat 0)), (.int .u8 (.ofNat 0)), (.int .u8 (.ofNat 0)), (.int .u8 (.ofNat 0)), (.int .u8 (.ofNat 0)), (.int .u8 (.ofNat 0)), (.int .u8 (.ofNat 0)), (.int .u8 (.ofNat 0)), (.int .u8 (.ofNat 0)), (.int .u8 (.ofNat 0)), (.int .u8 (.ofNat 0)), (.int .u8 (.ofNat 0)), (.int .u8 (.ofNat 0)), (.int .u8 (.ofNat 0)), (.int .u8 (.ofNat 0)), (.int .u8 (.ofNat 0)), (.int .u8 (.ofNat 0)), (.int .u8 (.ofNat 0)), (.int .u8 (.ofNat 0)), (.int .u8 (.ofNat 0)), (.int .u8 (.ofNat 0)), (.int .u8 (.ofNat 0)), (.int .u8 (.ofNat 0)), (.int .u8 (.ofNat 0)), (.int .u8 (.ofNat 0)), (.int .u8 (.ofNat 0)), (.int .u8 (.ofNat 0)), (.int .u8 (.ofNat 0)), (.int .u8 (.ofNat 0)), (.int .u8 (.ofNat 0)), (.int .u8 (.ofNat 0)), (.int .u8 (.ofNat 0)), (.int .u8 (.ofNat 0)), (.int .u8 (.ofNat 0)), (.int .u8 (.ofNat 0)), (.int .u8 (.ofNat 0)), (.int .u8 (.ofNat 0)), (.int .u8 (.ofNat 0)), (.int .u8 (.ofNat 0)), (.int .u8 (.ofNat 0)), (.int .u8 (.ofNat 0)), (.int .u8 (.ofNat 0)), (.int .u8 (.ofNat 0)), (.int .u8 (.ofNat 0)), (.int .u8 (.ofNat 0)), (.int .u8 (.ofNat 0)), (.int .u8 (.ofNat 0)), (.int .u8 (.ofNat 0)), (.int .u8 (.ofNat 0)), (.int .u8 (.ofNat 0)), (.int .u8 (.ofNat 0)), (.int .u8 (.ofNat 0)), (.int .u8 (.ofNat 0)), (.int .u8 (.ofNat 0)), (.int .u8 (.ofNat 0)), (.int .u8 (.ofNat 0)), (.int .u8 (.ofNat 0)), (.int .u8 (.ofNat 0)), (.int .u8 (.ofNat 0)), (.int .u8 (.ofNat 0)), (.int .u8 (.ofNat 0)), (.int .u8 (.ofNat 0)), (.int .u8 (.ofNat 0)), (.int .u8 (.ofNat 0)), (.int .u8 (.ofNat 0)), (.int .u8 (.ofNat 0)), (.int .u8 (.ofNat 0)), (.int .u8 (.ofNat 0)), (.int .u8 (.ofNat 0)), (.int .u8 (.ofNat 0)), (.int .u8 (.ofNat 0)), (.int .u8 (.ofNat 0)), (.int .u8 (.ofNat 0)), (.int .u8 (.ofNat 0)), (.int .u8 (.ofNat 0)), (.int .u8 (.ofNat 0)), (.int .u8 (.ofNat 0)), (.int .u8 (.ofNat 0)), (.int .u8 (.ofNat 0)), (.int .u8 (.ofNat 0)), (.int .u8 (.ofNat 0)), (.int .u8 (.ofNat 0)), (.int .u8 (.ofNat 0)), (.int .u8 (.ofNat 0)), (.int .u8 (.ofNat 0)), (.int .u8 (.ofNat 0)), (.int .u8 (.ofNat 0)), (.int .u8 (.ofNat 0)), (.int .u8 (.ofNat 0)), (.int .u8 (.ofNat 0)), (.int .u8 (.ofNat 0)), (.int .u8 (.ofNat 0)), (.int .u8 (.ofNat 0)), (.int .u8 (.ofNat 0)), (.int .u8 (.ofNat 0)), (.int .u8 (.ofNat 0)), (.int .u8 (.ofNat 0)), (.int .u8 (.ofNat 0)), (.int .u8 (.ofNat 0)), (.int .u8 (.ofNat 0)), (.int .u8 (.ofNat 0)), (.int .u8 (.ofNat 0)), (.int .u8 (.ofNat 0)), (.int .u8 (.ofNat 0)), (.int .u8 (.ofNat 0)), (.int .u8 (.ofNat 0)), (.int .u8 (.ofNat 0)), (.int .u8 (.ofNat 0)), (.int .u8 (.ofNat 0)), (.int .u8 (.ofNat 0)), (.int .u8 (.ofNat 0)), (.int .u8 (.ofNat 0)), (.int .u8 (.ofNat 0)), (.int .u8 (.ofNat 0)), (.int .u8 (.ofNat 0)), (.int .u8 (.ofNat 0)), (.int .u8 (.ofNat 0)), (.int .u8 (.ofNat 0)), (.int .u8 (.ofNat 0)), (.int .u8 (.ofNat 0)), (.int .u8 (.ofNat 0)), (.int .u8 (.ofNat 0)), (.int .u8 (.ofNat 0)), (.int .u8 (.ofNat 0)), (.int .u8 (.ofNat 0)), (.int .u8 (.ofNat 0)), (.int .u8 (.ofNat 0)), (.int .u8 (.ofNat 0)), (.int .u8 (.ofNat 0)), (.int .u8 (.ofNat 0)), (.int .u8 (.ofNat 0)), (.int .u8 (.ofNat 0)), (.int .u8 (.ofNat 0)), (.int .u8 (.ofNat 0)), (.int .u8 (.ofNat 0)), (.int .u8 (.ofNat 0)), (.int .u8 (.ofNat 0)), (.int .u8 (.ofNat 0)), (.int .u8 (.ofNat 0)), (.int .u8 (.ofNat 0)), (.int .u8 (.ofNat 0)), (.int .u8 (.ofNat 0)), (.int .u8 (.ofNat 0)), (.int .u8 (.ofNat 0)), (.int .u8 (.ofNat 0)), (.int .u8 (.ofNat 0)), (.int .u8 (.ofNat 0)), (.int .u8 (.ofNat 0)), (.int .u8 (.ofNat 0)), (.int .u8 (.ofNat 0)), (.int .u8 (.ofNat 0)), (.int .u8 (.ofNat 0)), (.int .u8 (.ofNat 0)), (.int .u8 (.ofNat 0)), (.int .u8 (.ofNat 0)), (.int .u8 (.ofNat 0)), (.int .u8 (.ofNat 0)), (.int .u8 (.ofNat 0)), (.int .u8 (.ofNat 0)), (.int .u8 (.ofNat 0)), (.int .u8 (.ofNat 0)), (.int .u8 (.ofNat 0)), (.int .u8 (.ofNat 0)), (.int .u8 (.ofNat 0)), (.int .u8 (.ofNat 0)), (.int .u8 (.ofNat 0)), (.int .u8 (.ofNat 0)), (.int .u8 (.ofNat 0)), (.int .u8 (.ofNat 0)), (.int .u8 (.ofNat 0)), (.int .u8 (.ofNat 0)), (.int .u8 (.ofNat 0)), (.int .u8 (.ofNat 0)), (.int .u8 (.ofNat 0)), (.int .u8 (.ofNat 0)), (.int .u8 (.ofNat 0)), (.int .u8 (.ofNat 0)), (.int .u8 (.ofNat 0)), (.int .u8 (.ofNat 0)), (.int .u8 (.ofNat 0)), (.int .u8 (.ofNat 0)), (.int .u8 (.ofNat 0)), (.int .u8 (.ofNat 0)), (.int .u8 (.ofNat 0)), (.int .u8 (.ofNat 0)), (.int .u8 (.ofNat 0)), (.int .u8 (.ofNat 0)), (.int .u8 (.ofNat 0)), (.int .u8 (.ofNat 0)), (.int .u8 (.ofNat 0)), (.int .u8 (.ofNat 0)), (.int .u8 (.ofNat 0)), (.int .u8 (.ofNat 0)), (.int .u8 (.ofNat 0)), (.int .u8 (.ofNat 0)), (.int .u8 (.ofNat 0)), (.int .u8 (.ofNat 0)), (.int .u8 (.ofNat 0)), (.int .u8 (.ofNat 0)), (.int .u8 (.ofNat 0)), (.int .u8 (.ofNat 0)), (.int .u8 (.ofNat 0)), (.int .u8 (.ofNat 0)), (.int .u8 (.ofNat 0)), (.int .u8 (.ofNat 0)), (.int .u8 (.ofNat 0)), (.int .u8 (.ofNat 0)), (.int .u8 (.ofNat 0)), (.int .u8 (.ofNat 0)), (.int .u8 (.ofNat 0)), (.int .u8 (.ofNat 0)), (.int .u8 (.ofNat 0)), (.int .u8 (.ofNat 0)), (.int .u8 (.ofNat 0)), (.int .u8 (.ofNat 0)), (.int .u8 (.ofNat 0)), (.int .u8 (.ofNat 0)), (.int .u8 (.ofNat 0)), (.int .u8 (.ofNat 0)), (.int .u8 (.ofNat 0)), (.int .u8 (.ofNat 0)), (.int .u8 (.ofNat 0)), (.int .u8 (.ofNat 0)), (.int .u8 (.ofNat 0)), (.int .u8 (.ofNat 0)), (.int .u8 (.ofNat 0)), (.int .u8 (.ofNat 0)), (.int .u8 (.ofNat 0)), (.int .u8 (.ofNat 0)), (.int .u8 (.ofNat 0)), (.int .u8 (.ofNat 0)), (.int .u8 (.ofNat 0)), (.int .u8 (.ofNat 0)), (.int .u8 (.ofNat 0)), (.int .u8 (.ofNat 0)), (.int .u8 (.ofNat 0)), (.int .u8 (.ofNat 0)), (.int .u8 (.ofNat 0)), (.int .u8 (.ofNat 0)), (.int .u8 (.ofNat 0)), (.int .u8 (.ofNat 0)), (.int .u8 (.ofNat 0)), (.int .u8 (.ofNat 0)), (.int .u8 (.ofNat 0)), (.int .u8 (.ofNat 0)), (.int .u8 (.ofNat 0)), (.int .u8 (.ofNat 0)), (.int .u8 (.ofNat 0)), (.int .u8 (.ofNat 0)), (.int .u8 (.ofNat 0)), (.int .u8 (.ofNat 0)), (.int .u8 (.ofNat 0)), (.int .u8 (.ofNat 0)), (.int .u8 (.ofNat 0)), (.int .u8 (.ofNat 0)), (.int .u8 (.ofNat 0)), (.int .u8 (.ofNat 0)), (.int .u8 (.ofNat 0)), (.int .u8 (.ofNat 0)), (.int .u8 (.ofNat 0)), (.int .u8 (.ofNat 0)), (.int .u8 (.ofNat 0)), (.int .i64 (.ofNat 0))] [(512, 1, (.r p22))]))⟩, [], false⟩, ⟨10, ⟨(some p24), (some (p15, true)), (.e (.eqs false (.arr .int 0 512 (.leaf .int 512 .nil)) (.r p18) (.r p23)))⟩, [], false⟩, ⟨11, ⟨(some p25), none, (.e (.pick (.r p15) (.r p24) (.c (.bool false))))⟩, [], false⟩, ⟨12, ⟨(some p2), none, (.e (.mv (.r p25)))⟩, [], false⟩]) .ret))))
theorem I32_0 (E : Env) : Is E C32_0 (retK3 R32) (fun σ h => J32_0 E (σ p0) h) :=
  fun σ h => by kernel_rfl
def D32 : DF := ⟨1, 26, C32_0, R32⟩
noncomputable def S32 (E : Env) : Fun := fun args h => aS args fun r0 args => a0 args (J32_0 E r0 h)
theorem S32_eq (E : Env) (args : List DV) (h : H) : runFn E D32 args h = S32 E args h :=
  Is.fn1 (d := D32) (I32_0 E) rfl (fun r0 h => J32_0 E r0 h) (fun r0 h => by kernel_rfl) args h
/- hurdle/array.New -/
def R33 : List RV := [(.r p8)]
noncomputable def J33_0 (E : Env) (r0 r1 r2 r3 : DV) (h : H) : Ans :=
  vK (v_lss r0 (.int .i64 (.ofNat 1))) fun x1 =>
  gdK x1 false (fun kk => kk r0 h) h fun x2 h3 =>
  gdK x1 false (fun kk => vK (v_gtr x2 (.int .i64 (.ofNat 8))) fun v => kk v h3) h3 fun x4 h5 =>
  vK (v_pick x1 (.bool true) x4) fun x6 =>
  gdK x6 false (fun kk => kk r2 h5) h5 fun x7 h8 =>
  gdK x6 false (fun kk => vK (v_lss x7 (.int .i64 (.ofNat 2))) fun v => kk v h8) h8 fun x9 h10 =>
  vK (v_pick x6 (.bool true) x9) fun x11 =>
  gdK x11 false (fun kk => kk r2 h10) h10 fun x12 h13 =>
  gdK x11 false (fun kk => vK (v_gtr x12 (.int .i64 (.ofNat 8))) fun v => kk v h13) h13 fun x14 h15 =>
  vK (v_pick x11 (.bool true) x14) fun x16 =>
  gdK x16 false (fun kk => kk r3 h15) h15 fun x17 h18 =>
  gdK x16 false (fun kk => vK (v_lss x17 (.int .i64 (.ofNat 0))) fun v => kk v h18) h18 fun x19 h20 =>
  vK (v_pick x16 (.bool true) x19) fun x21 =>
  gdK x21 false (fun kk => kk r3 h20) h20 fun x22 h23 =>
  gdK x21 false (fun kk => kk r0 h23) h23 fun x24 h25 =>
  gdK x21 false (fun kk => kk r2 h25) h25 fun x26 h27 =>
  gdK x21 false (fun kk => vK (v_sub x24 x26) fun v => kk v h27) h27 fun x28 h29 =>
  gdK x21 false (fun kk => vK (v_gtr x22 x28) fun v => kk v h29) h29 fun x30 h31 =>
  vK (v_pick x21 (.bool true) x30) fun x32 =>
  bK x32
  (some (.nilp, h31))
  (wK (callK E 60 [r0, r1] h31) fun x33 h34 =>
  wK (callK E 62 [(.int .i64 (.ofNat 0)), r2] h34) fun x35 h36 =>
  wK (callK E 62 [r2, r3] h36) fun x37 h38 =>
  wK (callK E 61 [x35, x37] h38) fun x39 h40 =>
  vK (v_bld [.nilp, .nilp, (.int .i64 (.ofNat 0)), (.int .i64 (.ofNat 0)), (.int .i64 (.ofNat 0)), (.int .i64 (.ofNat 0)), (.int .i64 (.ofNat 0)), (.int .i64 (.ofNat 0)), (.int .i64 (.ofNat 0)), (.int .i64 (.ofNat 0)), (.int .i64 (.ofNat 0)), (.int .i64 (.ofNat 0)), (.int .i64 (.ofNat 0)), (.int .i64 (.ofNat 0)), (.int .i64 (.ofNat 0)), (.int .i64 (.ofNat 0)), (.int .i64 (.ofNat 0)), (.int .i64 (.ofNat 0)), (.int .i64 (.ofNat 0))] [(0, 1, x33), (1, 1, x39), (2, 1, r2)]) fun x41 =>
  n_box x41 h40 fun x42 h43 =>
  some (x42, h43))
def C33_0 : DC := (.seq (.reg [⟨(some p8), none, (.e (.mv (.c .nilp)))⟩]) (.seq (.seq (.reg [⟨(some p9), none, (.e (.mv (.r p0)))⟩, ⟨(some p10), none, (.e (.bin .lss (.r p9) (.c (.int .i64 (.ofNat 1)))))⟩, ⟨(some p11), none, (.e (.mv (.r p10)))⟩, ⟨(some p12), (some (p11, false)), (.e (.mv (.r p0)))⟩, ⟨(some p13), (some (p11, false)), (.e (.bin .gtr (.r p12) (.c (.int .i64 (.ofNat 8)))))⟩, ⟨(some p14), none, (.e (.pick (.r p11) (.c (.bool true)) (.r p13)))⟩, ⟨(some p15), none, (.e (.mv (.r p14)))⟩, ⟨(some p16), (some (p15, false)), (.e (.mv (.r p2)))⟩, ⟨(some p17), (some (p15, false)), (.e (.bin .lss (.r p16) (.c (.int .i64 (.ofNat 2)))))⟩, ⟨(some p18), none, (.e (.pick (.r p15) (.c (.bool true)) (.r p17)))⟩, ⟨(some p19), none, (.e (.mv (.r p18)))⟩, ⟨(some p20), (some (p19, false)), (.e (.mv (.r p2)))⟩, ⟨(some p21), (some (p19, false)), (.e (.bin .gtr (.r p20) (.c (.int .i64 (.ofNat 8)))))⟩, ⟨(some p22), none, (.e (.pick (.r p19) (.c (.bool true)) (.r p21)))⟩, ⟨(some p23), none, (.e (.mv (.r p22)))⟩, ⟨(some p24), (some (p23, false)), (.e (.mv (.r p3)))⟩, ⟨(some p25), (some (p23, false)), (.e (.bin .lss (.r p24) (.c (.int .i64 (.ofNat 0)))))⟩, ⟨(some p26), none, (.e (.pick (.r p23) (.c (.bool true)) (.r p25)))⟩, ⟨(some p27), none, (.e (.mv (.r p26)))⟩, ⟨(some p28), (some (p27, false)), (.e (.mv (.r p3)))⟩, ⟨(some p29), (some (p27, false)), (.e (.mv (.r p0)))⟩, ⟨(some p30), (some (p27, false)), (.e (.mv (.r p2)))⟩, ⟨(some p31), (some (p27, false)), (.e (.bin .sub (.r p29) (.r p30)))⟩, ⟨(some p32), (some (p27, false)), (.e (.bin .gtr (.r p28) (.r p31)))⟩, ⟨(some p33), none, (.e (.pick (.r p27) (.c (.bool true)) (.r p32)))⟩]) (.cond (.r p33) (.seq (.reg [⟨(some p8), none, (.e (.mv (.c .nilp)))⟩]) .ret) .skip)) (.seq (.reg [⟨(some p34), none, (.e (.mv (.r p0)))⟩, ⟨(some p35), none, (.e (.mv (.r p1)))⟩, ⟨(some p36), none, (.c (.f 60 [(.r p34), (.r p35)]))⟩, ⟨(some p37), none, (.e (.mv (.r p2)))⟩, ⟨(some p38), none, (.c (.f 62 [(.c (.int .i64 (.ofNat 0))), (.r p37)]))⟩, ⟨(some p39), none, (.e (.mv (.r p2)))⟩, ⟨(some p40), none, (.e (.mv (.r p3)))⟩, ⟨(some p41), none, (.c (.f 62 [(.r p39), (.r p40)]))⟩, ⟨(some p42), none, (.c (.f 61 [(.r p38), (.r p41)]))⟩, ⟨(some p43), none, (.e (.mv (.r p2)))⟩, ⟨(some p44), none, (.e (.bld [.nilp, .nilp, (.int .i64 (.ofNat 0)), (.int .i64 (.ofNat 0)), (.int .i64 (.ofNat 0)), (.int .i64 (.ofNat 0)), (.int .i64 (.ofNat 0)), (.int .i64 (.ofNat 0)), (.int .i64 (.ofNat 0)), (.int .i64 (.ofNat 0)), (.int .i64 (.ofNat 0)), (.int .i64 (.ofNat 0)), (.int .i64 (.ofNat 0)), (.int .i64 (.ofNat 0)), (.int .i64 (.ofNat 0)), (.int .i64 (.ofNat 0)), (.int .i64 (.ofNat 0)), (.int .i64 (.ofNat 0)), (.int .i64 (.ofNat 0))] [(0, 1, (.r p36)), (1, 1, (.r p42)), (2, 1, (.r p43))]))⟩, ⟨(some p45), none, (.e (.box (.r p44)))⟩, ⟨(some p8), none, (.e (.mv (.r p45)))⟩]) .ret)))
theorem I33_0 (E : Env) : Is E C33_0 (retK3 R33) (fun σ h => J33_0 E (σ p0) (σ p1) (σ p2) (σ p3) h) :=
  fun σ h => by kernel_rfl
def D33 : DF := ⟨4, 46, C33_0, R33⟩
noncomputable def S33 (E : Env) : Fun := fun args h => aS args fun r0 args => aS args fun r1 args => aS args fun r2 args => aS args fun r3 args => a0 args (J33_0 E r0 r1 r2 r3 h)
theorem S33_eq (E : Env) (args : List DV) (h : H) : runFn E D33 args h = S33 E args h :=
  Is.fn4 (d := D33) (I33_0 E) rfl (fun r0 r1 r2 r3 h => J33_0 E r0 r1 r2 r3 h) (fun r0 r1 r2 r3 h => by kernel_rfl) args h
/- (*hurdle/rebuild.Rebuild).epoch -/
def R36 : List RV := [(.r p2)]
noncomputable def J36_0 (E : Env) (r0 : DV) (h : H) : Ans :=
  vK (v_nilchk r0) fun x1 =>
  vK (v_fa 0 x1) fun x2 =>
  vK (v_ld h.get x2) fun x3 =>
  wK (callK E 24 [x3] h) fun x4 h5 =>
  wK (callK E 64 [x4] h5) fun x6 h7 =>
  some (x6, h7)
def C36_0 : DC := (.seq (.reg [⟨(some p2), none, (.e (.mv (.c (.int .i64 (.ofNat 0)))))⟩]) (.seq (.reg [⟨(some p3), none, (.e (.mv (.r p0)))⟩, ⟨(some p4), none, (.e (.nilchk (.r p3)))⟩, ⟨(some p5), none, (.e (.fa 0 (.r p4)))⟩, ⟨(some p6), none, (.e (.ld (.r p5)))⟩, ⟨(some p7), none, (.c (.f 24 [(.r p6)]))⟩, ⟨(some p8), none, (.c (.f 64 [(.r p7)]))⟩, ⟨(some p2), none, (.e (.mv (.r p8)))⟩]) .ret))
theorem I36_0 (E : Env) : Is E C36_0 (retK3 R36) (fun σ h => J36_0 E (σ p0) h) :=
  fun σ h => by kernel_rfl
def D36 : DF := ⟨1, 9, C36_0, R36⟩
noncomputable def S36 (E : Env) : Fun := fun args h => aS args fun r0 args => a0 args (J36_0 E r0 h)
theorem S36_eq (E : Env) (args : List DV) (h : H) : runFn E D36 args h = S36 E args h :=
  Is.fn1 (d := D36) (I36_0 E) rfl (fun r0 h => J36_0 E r0 h) (fun r0 h => by kernel_rfl) args h
/- (*hurdle/rebuild.Rebuild).give -/
def R37 : List RV := [(.r p4)]
noncomputable def J37_1 (E : Env) (r0 r3 r7 : DV) (h : H) : Ans :=
  vK (v_fa 1 r3) fun x1 =>
  vK (v_ld h.get x1) fun x2 =>
  wK (callK E 56 [r7, x2] h) fun x3 h4 =>
  vK (v_ext 0 x3) fun x5 =>
  vK (v_ext 1 x3) fun x6 =>
  vK (v_neq x6 (.int .i64 (.ofNat 0))) fun x7 =>
  bK x7
  (some ((.int .i64 (.ofNat 9)), h4))
  (vK (v_nilchk r0) fun x8 =>
  vK (v_fa 0 x8) fun x9 =>
  vK (v_ld h4.get x9) fun x10 =>
  vK (v_fa 0 r3) fun x11 =>
  vK (v_ld h4.get x11) fun x12 =>
  vK (v_fa 1 r3) fun x13 =>
  vK (v_ld h4.get x13) fun x14 =>
  wK (callK E 20 [x10, x12, x14, x5] h4) fun x15 h16 =>
  some (x15, h16))
def C37_1 : DC := (.seq (.reg [⟨(some p56), none, (.e (.mv (.r p7)))⟩, ⟨(some p57), none, (.e (.fa 1 (.r p3)))⟩, ⟨(some p58), none, (.e (.ld (.r p57)))⟩, ⟨(some p59), none, (.c (.f 56 [(.r p56), (.r p58)]))⟩, ⟨(some p55), none, (.e (.mv (.r p59)))⟩, ⟨(some p60), none, (.e (.ext 0 (.r p55)))⟩, ⟨(some p61), none, (.e (.ext 1 (.r p55)))⟩, ⟨(some p9), none, (.e (.mv (.r p60)))⟩, ⟨(some p10), none, (.e (.mv (.r p61)))⟩]) (.seq (.seq (.reg [⟨(some p62), none, (.e (.mv (.r p10)))⟩, ⟨(some p63), none, (.e (.bin .neq (.r p62) (.c (.int .i64 (.ofNat 0)))))⟩]) (.cond (.r p63) (.seq (.reg [⟨(some p4), none, (.e (.mv (.c (.int .i64 (.ofNat 9)))))⟩]) .ret) .skip)) (.seq (.drg [⟨0, ⟨(some p64), none, (.e (.mv (.r p0)))⟩, [], false⟩, ⟨1, ⟨(some p65), none, (.e (.nilchk (.r p64)))⟩, [], false⟩, ⟨2, ⟨(some p66), none, (.e (.fa 0 (.r p65)))⟩, [], false⟩, ⟨3, ⟨(some p67), none, (.e (.ld (.r p66)))⟩, [], false⟩, ⟨4, ⟨(some p68), none, (.e (.fa 0 (.r p3)))⟩, [], false⟩, ⟨5, ⟨(some p69), none, (.e (.ld (.r p68)))⟩, [], false⟩, ⟨6, ⟨(some p70), none, (.e (.fa 1 (.r p3)))⟩, [], false⟩, ⟨7, ⟨(some p71), none, (.e (.ld (.r p70)))⟩, [], false⟩, ⟨8, ⟨(some p72), none, (.e (.mv (.r p9)))⟩, [], false⟩, ⟨9, ⟨(some p73), none, (.c (.f 20 [(.r p67), (.r p69), (.r p71), (.r p72)]))⟩, [], false⟩, ⟨10, ⟨(some p4), none, (.e (.mv (.r p73)))⟩, [], false⟩]) .ret)))
noncomputable def B37_2 (E : Env) (r0 r3 r7 r36 : DV) (i2 : DV → H → Ans) (r37 : DV) (h : H) : Ans :=
  vK (v_lss r37 r36) fun x1 =>
  bK x1
  (vK (v_nilchk r0) fun x2 =>
  vK (v_fa 0 x2) fun x3 =>
  vK (v_ld h.get x3) fun x4 =>
  vK (v_fa 0 r3) fun x5 =>
  vK (v_ld h.get x5) fun x6 =>
  wK (callK E 19 [x4, x6, r37] h) fun x7 h8 =>
  vK (v_ext 0 x7) fun x9 =>
  vK (v_ext 1 x7) fun x10 =>
  vK (v_iaS 1 r7 r37) fun x11 =>
  wK (dStF 1 x11 x9 h8) fun x12 h13 =>
  vK (v_add r37 (.int .i64 (.ofNat 1))) fun x14 =>
  i2 x14 h13)
  (J37_1 E r0 r3 r7 h)
noncomputable def L37_2 (E : Env) (r0 r3 r7 r36 : DV) (n : Nat) : DV → H → Ans := Nat.rec (motive := fun _ => DV → H → Ans) (fun _ _ => none) (fun _ i => B37_2 E r0 r3 r7 r36 i) n
def C37_2 : DC := (.loop (.seq (.reg [⟨(some p38), none, (.e (.bin .lss (.r p37) (.r p36)))⟩]) (.seq (.cond (.r p38) .skip (.exit 0)) (.seq (.block 1 (.seq (.reg [⟨(some p39), none, (.e (.mv (.r p37)))⟩, ⟨(some p8), none, (.e (.mv (.r p39)))⟩]) (.drg [⟨0, ⟨(some p41), none, (.e (.mv (.r p7)))⟩, [], false⟩, ⟨1, ⟨(some p42), none, (.e (.mv (.r p8)))⟩, [], false⟩, ⟨2, ⟨(some p43), none, (.e (.mv (.r p0)))⟩, [], false⟩, ⟨3, ⟨(some p44), none, (.e (.nilchk (.r p43)))⟩, [], false⟩, ⟨4, ⟨(some p45), none, (.e (.fa 0 (.r p44)))⟩, [], false⟩, ⟨5, ⟨(some p46), none, (.e (.ld (.r p45)))⟩, [], false⟩, ⟨6, ⟨(some p47), none, (.e (.fa 0 (.r p3)))⟩, [], false⟩, ⟨7, ⟨(some p48), none, (.e (.ld (.r p47)))⟩, [], false⟩, ⟨8, ⟨(some p49), none, (.e (.mv (.r p8)))⟩, [], false⟩, ⟨9, ⟨(some p50), none, (.c (.f 19 [(.r p46), (.r p48), (.r p49)]))⟩, [], false⟩, ⟨10, ⟨(some p40), none, (.e (.mv (.r p50)))⟩, [], false⟩, ⟨11, ⟨(some p51), none, (.e (.ext 0 (.r p40)))⟩, [], false⟩, ⟨12, ⟨(some p52), none, (.e (.ext 1 (.r p40)))⟩, [], false⟩, ⟨13, ⟨(some p53), none, (.e (.iaS 1 (.r p41) (.r p42)))⟩, [], false⟩, ⟨14, ⟨none, none, (.w (.st 1 (.r p53) (.r p51)))⟩, [], false⟩]))) (.reg [⟨(some p54), none, (.e (.bin .add (.r p37) (.c (.int .i64 (.ofNat 1)))))⟩, ⟨(some p37), none, (.e (.mv (.r p54)))⟩])))))
noncomputable def J37_0 (E : Env) (r0 r1 : DV) (h : H) : Ans :=
  n_box r1 h fun x1 h2 =>
  vK (v_nilchk r0) fun x3 =>
  vK (v_fa 0 x3) fun x4 =>
  vK (v_ld h2.get x4) fun x5 =>
  vK (v_fa 0 x1) fun x6 =>
  vK (v_ld h2.get x6) fun x7 =>
  wK (callK E 8 [x5, x7] h2) fun x8 h9 =>
  vK (v_lenL x8) fun x10 =>
  vK (v_gtr x10 (.int .i64 (.ofNat 1))) fun x11 =>
  bK x11
  (some ((.int .i64 (.ofNat 9)), h9))
  (vK (v_nilchk r0) fun x12 =>
  vK (v_fa 0 x12) fun x13 =>
  vK (v_ld h9.get x13) fun x14 =>
  vK (v_fa 0 x1) fun x15 =>
  vK (v_ld h9.get x15) fun x16 =>
  n_alc 6 6 (.list [(.int .i64 (.ofNat 0)), (.int .i64 (.ofNat 0)), (.int .i64 (.ofNat 0)), (.int .i64 (.ofNat 0)), (.int .i64 (.ofNat 0)), .nils]) h9 fun x17 h18 =>
  wK (callK E 24 [x14] h18) fun x19 h20 =>
  rK (rcK (v_ld h20.get x15) x16) <|
  wK (callK E 54 [x19, x16] h20) fun x21 h22 =>
  vK (v_ext 0 x21) fun x23 =>
  vK (v_ext 1 x21) fun x24 =>
  wK (dStF 6 x17 x23 h22) fun x25 h26 =>
  vK (v_fa 5 x17) fun x27 =>
  vK (v_ld h26.get x27) fun x28 =>
  vK (v_lenL x28) fun x29 =>
  n_mks 1 16 (.str []) x29 x29 h26 fun x30 h31 =>
  vK (v_lenL x30) fun x32 =>
  L37_2 E r0 x1 x30 x32 FUEL (.int .i64 (.ofNat 0)) h31)
def C37_0 : DC := (.seq (.reg [⟨(some p3), none, (.e (.box (.r p1)))⟩, ⟨(some p4), none, (.e (.mv (.c (.int .i64 (.ofNat 0)))))⟩]) (.seq (.seq (.drg [⟨0, ⟨(some p11), none, (.e (.mv (.r p0)))⟩, [], false⟩, ⟨1, ⟨(some p12), none, (.e (.nilchk (.r p11)))⟩, [], false⟩, ⟨2, ⟨(some p13), none, (.e (.fa 0 (.r p12)))⟩, [], false⟩, ⟨3, ⟨(some p14), none, (.e (.ld (.r p13)))⟩, [], false⟩, ⟨4, ⟨(some p15), none, (.e (.fa 0 (.r p3)))⟩, [], false⟩, ⟨5, ⟨(some p16), none, (.e (.ld (.r p15)))⟩, [], false⟩, ⟨6, ⟨(some p17), none, (.c (.f 8 [(.r p14), (.r p16)]))⟩, [], false⟩, ⟨7, ⟨(some p18), none, (.e (.lenL (.r p17)))⟩, [], false⟩, ⟨8, ⟨(some p19), none, (.e (.bin .gtr (.r p18) (.c (.int .i64 (.ofNat 1)))))⟩, [], false⟩]) (.cond (.r p19) (.seq (.reg [⟨(some p4), none, (.e (.mv (.c (.int .i64 (.ofNat 9)))))⟩]) .ret) .skip)) (.seq (.drg [⟨0, ⟨(some p21), none, (.e (.mv (.r p0)))⟩, [], false⟩, ⟨1, ⟨(some p22), none, (.e (.nilchk (.r p21)))⟩, [], false⟩, ⟨2, ⟨(some p23), none, (.e (.fa 0 (.r p22)))⟩, [], false⟩, ⟨3, ⟨(some p24), none, (.e (.ld (.r p23)))⟩, [], false⟩, ⟨5, ⟨(some p26), none, (.e (.fa 0 (.r p3)))⟩, [], false⟩, ⟨6, ⟨(some p27), none, (.e (.ld (.r p26)))⟩, [], false⟩, ⟨11, ⟨(some p5), none, (.e (.alc 6 6 (.list [(.int .i64 (.ofNat 0)), (.int .i64 (.ofNat 0)), (.int .i64 (.ofNat 0)), (.int .i64 (.ofNat 0)), (.int .i64 (.ofNat 0)), .nils])))⟩, [], false⟩, ⟨4, ⟨(some p25), none, (.c (.f 24 [(.r p24)]))⟩, [6], false⟩, ⟨7, ⟨(some p28), none, (.c (.f 54 [(.r p25), (.r p27)]))⟩, [], false⟩, ⟨8, ⟨(some p20), none, (.e (.mv (.r p28)))⟩, [], false⟩, ⟨9, ⟨(some p29), none, (.e (.ext 0 (.r p20)))⟩, [], false⟩, ⟨10, ⟨(some p30), none, (.e (.ext 1 (.r p20)))⟩, [], false⟩, ⟨12, ⟨none, none, (.w (.st 6 (.r p5) (.r p29)))⟩, [], false⟩, ⟨13, ⟨(some p6), none, (.e (.mv (.r p30)))⟩, [], false⟩]) (.seq (.reg [⟨(some p31), none, (.e (.fa 5 (.r p5)))⟩, ⟨(some p32), none, (.e (.ld (.r p31)))⟩, ⟨(some p33), none, (.e (.lenL (.r p32)))⟩, ⟨(some p34), none, (.e (.mks 1 16 (.str []) (.r p33) (.r p33)))⟩, ⟨(some p7), none, (.e (.mv (.r p34)))⟩]) (.seq (.seq (.reg [⟨(some p35), none, (.e (.mv (.r p7)))⟩, ⟨(some p36), none, (.e (.lenL (.r p35)))⟩, ⟨(some p37), none, (.e (.mv (.c (.int .i64 (.ofNat 0)))))⟩]) (.block 0 C37_2)) C37_1)))))
theorem I37_1 (E : Env) : Is E C37_1 (retK3 R37) (fun σ h => J37_1 E (σ p0) (σ p3) (σ p7) h) :=
  fun σ h => by kernel_rfl
noncomputable abbrev K37_3 (E : Env) : KT2 (DV × H) := (thenK3 (fun σ h => J37_1 E (σ p0) (σ p3) (σ p7) h) (retK3 R37))
theorem I37_2 (E : Env) : Is E C37_2 (blockK3 0 (K37_3 E)) (fun σ h => L37_2 E (σ p0) (σ p3) (σ p7) (σ p36) FUEL (σ p37) h) :=
  Is.loop (fun n2 σ h => L37_2 E (σ p0) (σ p3) (σ p7) (σ p36) n2 (σ p37) h) (by kernel_rfl) fun n2 => Is.as (Is.leaf _) fun σ h => by kernel_rfl
theorem I37_0 (E : Env) : Is E C37_0 (retK3 R37) (fun σ h => J37_0 E (σ p0) (σ p1) h) :=
  Is.as (Is.seq (Is.seq (Is.seq (Is.seq (Is.seq (I37_1 E) (Is.seq (Is.block (I37_2 E)) (Is.leaf _))) (Is.leaf _)) (Is.leaf _)) (Is.leaf _)) (Is.leaf _)) fun σ h => by kernel_rfl
def D37 : DF := ⟨2, 74, C37_0, R37⟩
noncomputable def S37 (E : Env) : Fun := fun args h => aS args fun r0 args => aS args fun r1 args => a0 args (J37_0 E r0 r1 h)
theorem S37_eq (E : Env) (args : List DV) (h : H) : runFn E D37 args h = S37 E args h :=
  Is.fn2 (d := D37) (I37_0 E) rfl (fun r0 r1 h => J37_0 E r0 r1 h) (fun r0 r1 h => by kernel_rfl) args h
/- (*hurdle/rebuild.Rebuild).place -/
def R38 : List RV := [(.cells p4 2)]
noncomputable def J38_0 (E : Env) (r0 r1 : DV) (h : H) : Ans :=
  n_alc 2 2 (.list [(.int .i64 (.ofNat 0)), (.int .i64 (.ofNat 0))]) h fun x1 h2 =>
  vK (v_nilchk r0) fun x3 =>
  vK (v_fa 0 x3) fun x4 =>
  vK (v_ld h2.get x4) fun x5 =>
  wK (callK E 24 [x5] h2) fun x6 h7 =>
  wK (callK E 54 [x6, r1] h7) fun x8 h9 =>
  vK (v_ext 0 x8) fun x10 =>
  vK (v_ext 1 x8) fun x11 =>
  n_alc 6 6 (.list [(.int .i64 (.ofNat 0)), (.int .i64 (.ofNat 0)), (.int .i64 (.ofNat 0)), (.int .i64 (.ofNat 0)), (.int .i64 (.ofNat 0)), .nils]) h9 fun x12 h13 =>
  wK (dStF 6 x12 x10 h13) fun x14 h15 =>
  vK (v_fa 5 x12) fun x16 =>
  vK (v_ld h15.get x16) fun x17 =>
  vK (v_nilchk r0) fun x18 =>
  vK (v_fa 1 x18) fun x19 =>
  vK (v_ld h15.get x19) fun x20 =>
  wK (callK E 65 [x17, r1, x20] h15) fun x21 h22 =>
  vK (v_ext 0 x21) fun x23 =>
  vK (v_ext 1 x21) fun x24 =>
  vK (v_neq x24 (.int .i64 (.ofNat 0))) fun x25 =>
  gdK x25 false (fun kk => kk r0 h22) h22 fun x26 h27 =>
  gdK x25 false (fun kk => vK (v_nilchk x26) fun v => kk v h27) h27 fun x28 h29 =>
  gdK x25 false (fun kk => vK (v_fa 0 x28) fun v => kk v h29) h29 fun x30 h31 =>
  gdK x25 false (fun kk => vK (v_ld h31.get x30) fun v => kk v h31) h31 fun x32 h33 =>
  gdK x25 false (fun kk => kk r1 h33) h33 fun x34 h35 =>
  gdK x25 false (fun kk => wK (callK E 8 [x32, x34] h35) kk) h35 fun x36 h37 =>
  gdK x25 false (fun kk => kk x23 h37) h37 fun x38 h39 =>
  gdK x25 false (fun kk => wK (callK E 66 [x36, x38] h39) kk) h39 fun x40 h41 =>
  gdK x25 false (fun kk => vK (v_not x40) fun v => kk v h41) h41 fun x42 h43 =>
  vK (v_pick x25 (.bool true) x42) fun x44 =>
  bK x44
  (vK (v_bld [(.int .i64 (.ofNat 0)), (.int .i64 (.ofNat 0))] [(1, 1, (.int .i64 (.negSucc 0)))]) fun x45 =>
  wK (dStF 2 x1 x45 h43) fun x46 h47 =>
  vK (v_ldN 2 h47.get x1) fun x48 =>
  some (x48, h47))
  (vK (v_bld [(.int .i64 (.ofNat 0)), (.int .i64 (.ofNat 0))] [(0, 1, r1), (1, 1, x23)]) fun x49 =>
  wK (dStF 2 x1 x49 h43) fun x50 h51 =>
  vK (v_ldN 2 h51.get x1) fun x52 =>
  some (x52, h51))
def C38_0 : DC := (.seq (.reg [⟨(some p4), none, (.e (.alc 2 2 (.list [(.int .i64 (.ofNat 0)), (.int .i64 (.ofNat 0))])))⟩]) (.seq (.reg [⟨(some p10), none, (.e (.mv (.r p0)))⟩, ⟨(some p11), none, (.e (.nilchk (.r p10)))⟩, ⟨(some p12), none, (.e (.fa 0 (.r p11)))⟩, ⟨(some p13), none, (.e (.ld (.r p12)))⟩, ⟨(some p14), none, (.c (.f 24 [(.r p13)]))⟩, ⟨(some p15), none, (.e (.mv (.r p1)))⟩, ⟨(some p16), none, (.c (.f 54 [(.r p14), (.r p15)]))⟩, ⟨(some p9), none, (.e (.mv (.r p16)))⟩, ⟨(some p17), none, (.e (.ext 0 (.r p9)))⟩, ⟨(some p18), none, (.e (.ext 1 (.r p9)))⟩, ⟨(some p5), none, (.e (.alc 6 6 (.list [(.int .i64 (.ofNat 0)), (.int .i64 (.ofNat 0)), (.int .i64 (.ofNat 0)), (.int .i64 (.ofNat 0)), (.int .i64 (.ofNat 0)), .nils])))⟩, ⟨none, none, (.w (.st 6 (.r p5) (.r p17)))⟩, ⟨(some p6), none, (.e (.mv (.r p18)))⟩]) (.seq (.drg [⟨0, ⟨(some p20), none, (.e (.fa 5 (.r p5)))⟩, [], false⟩, ⟨1, ⟨(some p21), none, (.e (.ld (.r p20)))⟩, [], false⟩, ⟨2, ⟨(some p22), none, (.e (.mv (.r p1)))⟩, [], false⟩, ⟨3, ⟨(some p23), none, (.e (.mv (.r p0)))⟩, [], false⟩, ⟨4, ⟨(some p24), none, (.e (.nilchk (.r p23)))⟩, [], false⟩, ⟨5, ⟨(some p25), none, (.e (.fa 1 (.r p24)))⟩, [], false⟩, ⟨6, ⟨(some p26), none, (.e (.ld (.r p25)))⟩, [], false⟩, ⟨7, ⟨(some p27), none, (.c (.f 65 [(.r p21), (.r p22), (.r p26)]))⟩, [], false⟩, ⟨8, ⟨(some p19), none, (.e (.mv (.r p27)))⟩, [], false⟩, ⟨9, ⟨(some p28), none, (.e (.ext 0 (.r p19)))⟩, [], false⟩, ⟨10, ⟨(some p29), none, (.e (.ext 1 (.r p19)))⟩, [], false⟩, ⟨11, ⟨(some p7), none, (.e (.mv (.r p28)))⟩, [], false⟩, ⟨12, ⟨(some p8), none, (.e (.mv (.r p29)))⟩, [], false⟩]) (.seq (.seq (.reg [⟨(some p30), none, (.e (.mv (.r p8)))⟩, ⟨(some p31), none, (.e (.bin .neq (.r p30) (.c (.int .i64 (.ofNat 0)))))⟩, ⟨(some p32), none, (.e (.mv (.r p31)))⟩, ⟨(some p33), (some (p32, false)), (.e (.mv (.r p0)))⟩, ⟨(some p34), (some (p32, false)), (.e (.nilchk (.r p33)))⟩, ⟨(some p35), (some (p32, false)), (.e (.fa 0 (.r p34)))⟩, ⟨(some p36), (some (p32, false)), (.e (.ld (.r p35)))⟩, ⟨(some p37), (some (p32, false)), (.e (.mv (.r p1)))⟩, ⟨(some p38), (some (p32, false)), (.c (.f 8 [(.r p36), (.r p37)]))⟩, ⟨(some p39), (some (p32, false)), (.e (.mv (.r p7)))⟩, ⟨(some p40), (some (p32, false)), (.c (.f 66 [(.r p38), (.r p39)]))⟩, ⟨(some p41), (some (p32, false)), (.e (.not (.r p40)))⟩, ⟨(some p42), none, (.e (.pick (.r p32) (.c (.bool true)) (.r p41)))⟩]) (.cond (.r p42) (.seq (.reg [⟨(some p43), none, (.e (.bld [(.int .i64 (.ofNat 0)), (.int .i64 (.ofNat 0))] [(1, 1, (.c (.int .i64 (.negSucc 0))))]))⟩, ⟨none, none, (.w (.st 2 (.r p4) (.r p43)))⟩]) .ret) .skip)) (.seq (.reg [⟨(some p44), none, (.e (.mv (.r p1)))⟩, ⟨(some p45), none, (.e (.mv (.r p7)))⟩, ⟨(some p46), none, (.e (.bld [(.int .i64 (.ofNat 0)), (.int .i64 (.ofNat 0))] [(0, 1, (.r p44)), (1, 1, (.r p45))]))⟩, ⟨none, none, (.w (.st 2 (.r p4) (.r p46)))⟩]) .ret)))))
theorem I38_0 (E : Env) : Is E C38_0 (retK3 R38) (fun σ h => J38_0 E (σ p0) (σ p1) h) :=
  fun σ h => by kernel_rfl
def D38 : DF := ⟨2, 47, C38_0, R38⟩
noncomputable def S38 (E : Env) : Fun := fun args h => aS args fun r0 args => aS args fun r1 args => a0 args (J38_0 E r0 r1 h)
theorem S38_eq (E : Env) (args : List DV) (h : H) : runFn E D38 args h = S38 E args h :=
  Is.fn2 (d := D38) (I38_0 E) rfl (fun r0 r1 h => J38_0 E r0 r1 h) (fun r0 r1 h => by kernel_rfl) args h
/- (*hurdle/servers.Servers).Lose -/
def R39 : List RV := [(.r p4)]
noncomputable def J39_1 (E : Env) (r5 : DV) (h : H) : Ans :=
  vK (v_eqv .ptr true h.get r5 .nilp) fun x1 =>
  some (x1, h)
def C39_1 : DC := (.seq (.reg [⟨(some p14), none, (.e (.mv (.r p5)))⟩, ⟨(some p15), none, (.e (.eqv .ptr true (.r p14) (.c .nilp)))⟩, ⟨(some p4), none, (.e (.mv (.r p15)))⟩]) .ret)
noncomputable def J39_0 (E : Env) (r0 r1 : DV) (h : H) : Ans :=
  wK (callK E 63 [r0, r1] h) fun x1 h2 =>
  vK (v_eqv .ptr true h2.get x1 .nilp) fun x3 =>
  bK x3
  (vK (v_nilchk x1) fun x4 =>
  vK (v_fa 3 x4) fun x5 =>
  wK (dStF 1 x5 (.bool true) h2) fun x6 h7 =>
  J39_1 E x1 h7)
  (J39_1 E x1 h2)
def C39_0 : DC := (.seq (.reg [⟨(some p4), none, (.e (.mv (.c (.bool false))))⟩]) (.seq (.reg [⟨(some p6), none, (.e (.mv (.r p0)))⟩, ⟨(some p7), none, (.e (.mv (.r p1)))⟩, ⟨(some p8), none, (.c (.f 63 [(.r p6), (.r p7)]))⟩, ⟨(some p5), none, (.e (.mv (.r p8)))⟩]) (.seq (.seq (.reg [⟨(some p9), none, (.e (.mv (.r p5)))⟩, ⟨(some p10), none, (.e (.eqv .ptr true (.r p9) (.c .nilp)))⟩]) (.cond (.r p10) (.reg [⟨(some p11), none, (.e (.mv (.r p5)))⟩, ⟨(some p12), none, (.e (.nilchk (.r p11)))⟩, ⟨(some p13), none, (.e (.fa 3 (.r p12)))⟩, ⟨none, none, (.w (.st 1 (.r p13) (.c (.bool true))))⟩]) .skip)) C39_1)))
theorem I39_1 (E : Env) : Is E C39_1 (retK3 R39) (fun σ h => J39_1 E (σ p5) h) :=
  fun σ h => by kernel_rfl
theorem I39_0 (E : Env) : Is E C39_0 (retK3 R39) (fun σ h => J39_0 E (σ p0) (σ p1) h) :=
  Is.as (Is.seq (Is.seq (Is.seq (I39_1 E) (Is.leaf _)) (Is.leaf _)) (Is.leaf _)) fun σ h => by kernel_rfl
def D39 : DF := ⟨2, 16, C39_0, R39⟩
noncomputable def S39 (E : Env) : Fun := fun args h => aS args fun r0 args => aS args fun r1 args => a0 args (J39_0 E r0 r1 h)
theorem S39_eq (E : Env) (args : List DV) (h : H) : runFn E D39 args h = S39 E args h :=
  Is.fn2 (d := D39) (I39_0 E) rfl (fun r0 r1 h => J39_0 E r0 r1 h) (fun r0 r1 h => by kernel_rfl) args h
/- (*hurdle/manager.Manager).Stripes -/
def R40 : List RV := [(.r p4)]
noncomputable def J40_0 (E : Env) (r0 r1 : DV) (h : H) : Ans :=
  vK (v_eqv .ptr false h.get r0 .nilp) fun x1 =>
  bK x1
  (some (.nils, h))
  (vK (v_nilchk r0) fun x2 =>
  vK (v_fa 1 x2) fun x3 =>
  vK (v_ld h.get x3) fun x4 =>
  wK (callK E 67 [x4, r1] h) fun x5 h6 =>
  some (x5, h6))
def C40_0 : DC := (.seq (.reg [⟨(some p4), none, (.e (.mv (.c .nils)))⟩]) (.seq (.seq (.reg [⟨(some p5), none, (.e (.mv (.r p0)))⟩, ⟨(some p6), none, (.e (.eqv .ptr false (.r p5) (.c .nilp)))⟩]) (.cond (.r p6) (.seq (.reg [⟨(some p4), none, (.e (.mv (.c .nils)))⟩]) .ret) .skip)) (.seq (.reg [⟨(some p7), none, (.e (.mv (.r p0)))⟩, ⟨(some p8), none, (.e (.nilchk (.r p7)))⟩, ⟨(some p9), none, (.e (.fa 1 (.r p8)))⟩, ⟨(some p10), none, (.e (.ld (.r p9)))⟩, ⟨(some p11), none, (.e (.mv (.r p1)))⟩, ⟨(some p12), none, (.c (.f 67 [(.r p10), (.r p11)]))⟩, ⟨(some p4), none, (.e (.mv (.r p12)))⟩]) .ret)))
theorem I40_0 (E : Env) : Is E C40_0 (retK3 R40) (fun σ h => J40_0 E (σ p0) (σ p1) h) :=
  fun σ h => by kernel_rfl
def D40 : DF := ⟨2, 13, C40_0, R40⟩
noncomputable def S40 (E : Env) : Fun := fun args h => aS args fun r0 args => aS args fun r1 args => a0 args (J40_0 E r0 r1 h)
theorem S40_eq (E : Env) (args : List DV) (h : H) : runFn E D40 args h = S40 E args h :=
  Is.fn2 (d := D40) (I40_0 E) rfl (fun r0 r1 h => J40_0 E r0 r1 h) (fun r0 r1 h => by kernel_rfl) args h
/- hurdle/rebuild.New -/
def R41 : List RV := [(.r p2)]
noncomputable def J41_0 (E : Env) (r0 : DV) (h : H) : Ans :=
  vK (v_eqv .ptr false h.get r0 .nilp) fun x1 =>
  bK x1
  (some (.nilp, h))
  (vK (v_bld [.nilp, (.int .i64 (.ofNat 0))] [(0, 1, r0), (1, 1, (.int .i64 (.negSucc 0)))]) fun x2 =>
  n_box x2 h fun x3 h4 =>
  some (x3, h4))
def C41_0 : DC := (.seq (.reg [⟨(some p2), none, (.e (.mv (.c .nilp)))⟩]) (.seq (.seq (.reg [⟨(some p3), none, (.e (.mv (.r p0)))⟩, ⟨(some p4), none, (.e (.eqv .ptr false (.r p3) (.c .nilp)))⟩]) (.cond (.r p4) (.seq (.reg [⟨(some p2), none, (.e (.mv (.c .nilp)))⟩]) .ret) .skip)) (.seq (.reg [⟨(some p5), none, (.e (.mv (.r p0)))⟩, ⟨(some p6), none, (.e (.bld [.nilp, (.int .i64 (.ofNat 0))] [(0, 1, (.r p5)), (1, 1, (.c (.int .i64 (.negSucc 0))))]))⟩, ⟨(some p7), none, (.e (.box (.r p6)))⟩, ⟨(some p2), none, (.e (.mv (.r p7)))⟩]) .ret)))
theorem I41_0 (E : Env) : Is E C41_0 (retK3 R41) (fun σ h => J41_0 E (σ p0) h) :=
  fun σ h => by kernel_rfl
def D41 : DF := ⟨1, 8, C41_0, R41⟩
noncomputable def S41 (E : Env) : Fun := fun args h => aS args fun r0 args => a0 args (J41_0 E r0 h)
theorem S41_eq (E : Env) (args : List DV) (h : H) : runFn E D41 args h = S41 E args h :=
  Is.fn1 (d := D41) (I41_0 E) rfl (fun r0 h => J41_0 E r0 h) (fun r0 h => by kernel_rfl) args h
/- hurdle/manager.Encode -/
def R42 : List RV := [(.r p2), (.r p3)]
noncomputable def J42_1 (E : Env) (r4 : DV) (h : H) : Ans :=
  wK (callK E 71 [r4] h) fun x1 h2 =>
  vK (v_ext 0 x1) fun x3 =>
  vK (v_ext 1 x1) fun x4 =>
  some ((.tup [x3, x4]), h2)
def C42_1 : DC := (.seq (.reg [⟨(some p48), none, (.e (.mv (.r p4)))⟩, ⟨(some p49), none, (.c (.f 71 [(.r p48)]))⟩, ⟨(some p50), none, (.e (.ext 0 (.r p49)))⟩, ⟨(some p51), none, (.e (.ext 1 (.r p49)))⟩, ⟨(some p2), none, (.e (.mv (.r p50)))⟩, ⟨(some p3), none, (.e (.mv (.r p51)))⟩]) .ret)
noncomputable def B42_2 (E : Env) (r4 r36 r37 : DV) (i2 : DV → H → Ans) (r38 : DV) (h : H) : Ans :=
  vK (v_lss r38 r37) fun x1 =>
  bK x1
  (vK (v_iaS 1 r36 r38) fun x2 =>
  vK (v_ld h.get x2) fun x3 =>
  vK (v_nilchk x3) fun x4 =>
  vK (v_ld h.get x4) fun x5 =>
  wK (callK E 70 [r4, x5] h) fun x6 h7 =>
  vK (v_add r38 (.int .i64 (.ofNat 1))) fun x8 =>
  i2 x8 h7)
  (J42_1 E r4 h)
noncomputable def L42_2 (E : Env) (r4 r36 r37 : DV) (n : Nat) : DV → H → Ans := Nat.rec (motive := fun _ => DV → H → Ans) (fun _ _ => none) (fun _ i => B42_2 E r4 r36 r37 i) n
def C42_2 : DC := (.loop (.seq (.reg [⟨(some p39), none, (.e (.bin .lss (.r p38) (.r p37)))⟩]) (.seq (.cond (.r p39) .skip (.exit 0)) (.seq (.block 1 (.seq (.reg [⟨(some p40), none, (.e (.iaS 1 (.r p36) (.r p38)))⟩, ⟨(some p41), none, (.e (.ld (.r p40)))⟩, ⟨(some p6), none, (.e (.mv (.r p41)))⟩]) (.reg [⟨(some p42), none, (.e (.mv (.r p4)))⟩, ⟨(some p43), none, (.e (.mv (.r p6)))⟩, ⟨(some p44), none, (.e (.nilchk (.r p43)))⟩, ⟨(some p45), none, (.e (.ld (.r p44)))⟩, ⟨(some p46), none, (.c (.f 70 [(.r p42), (.r p45)]))⟩]))) (.reg [⟨(some p47), none, (.e (.bin .add (.r p38) (.c (.int .i64 (.ofNat 1)))))⟩, ⟨(some p38), none, (.e (.mv (.r p47)))⟩])))))
noncomputable def J42_0 (E : Env) (r0 : DV) (h : H) : Ans :=
  n_box r0 h fun x1 h2 =>
  vK (v_fa 0 x1) fun x3 =>
  vK (v_ld h2.get x3) fun x4 =>
  vK (v_lss x4 (.int .i64 (.ofNat 0))) fun x5 =>
  gdK x5 false (fun kk => vK (v_fa 0 x1) fun v => kk v h2) h2 fun x6 h7 =>
  gdK x5 false (fun kk => vK (v_ld h7.get x6) fun v => kk v h7) h7 fun x8 h9 =>
  gdK x5 false (fun kk => vK (v_geq x8 (.int .i64 (.ofNat 16))) fun v => kk v h9) h9 fun x10 h11 =>
  vK (v_pick x5 (.bool true) x10) fun x12 =>
  gdK x12 false (fun kk => vK (v_fa 1 x1) fun v => kk v h11) h11 fun x13 h14 =>
  gdK x12 false (fun kk => vK (v_ld h14.get x13) fun v => kk v h14) h14 fun x15 h16 =>
  gdK x12 false (fun kk => vK (v_lss x15 (.int .i64 (.ofNat 0))) fun v => kk v h16) h16 fun x17 h18 =>
  vK (v_pick x12 (.bool true) x17) fun x19 =>
  gdK x19 false (fun kk => vK (v_fa 1 x1) fun v => kk v h18) h18 fun x20 h21 =>
  gdK x19 false (fun kk => vK (v_ld h21.get x20) fun v => kk v h21) h21 fun x22 h23 =>
  gdK x19 false (fun kk => vK (v_geq x22 (.int .i64 (.ofNat 2147483648))) fun v => kk v h23) h23 fun x24 h25 =>
  vK (v_pick x19 (.bool true) x24) fun x26 =>
  gdK x26 false (fun kk => vK (v_fa 2 x1) fun v => kk v h25) h25 fun x27 h28 =>
  gdK x26 false (fun kk => vK (v_ld h28.get x27) fun v => kk v h28) h28 fun x29 h30 =>
  gdK x26 false (fun kk => vK (v_lss x29 (.int .i64 (.ofNat 1))) fun v => kk v h30) h30 fun x31 h32 =>
  vK (v_pick x26 (.bool true) x31) fun x33 =>
  gdK x33 false (fun kk => vK (v_fa 2 x1) fun v => kk v h32) h32 fun x34 h35 =>
  gdK x33 false (fun kk => vK (v_ld h35.get x34) fun v => kk v h35) h35 fun x36 h37 =>
  gdK x33 false (fun kk => vK (v_gtr x36 (.int .i64 (.ofNat 9))) fun v => kk v h37) h37 fun x38 h39 =>
  vK (v_pick x33 (.bool true) x38) fun x40 =>
  bK x40
  (some ((.tup [(.str []), (.int .i64 (.ofNat 1))]), h39))
  (wK (callK E 68 [(.int .i64 (.ofNat 65536))] h39) fun x41 h42 =>
  wK (callK E 69 [x1] h42) fun x43 h44 =>
  vK (v_lenL x43) fun x45 =>
  L42_2 E x41 x43 x45 FUEL (.int .i64 (.ofNat 0)) h44)
def C42_0 : DC := (.seq (.reg [⟨(some p1), none, (.e (.box (.r p0)))⟩, ⟨(some p2), none, (.e (.mv (.c (.str []))))⟩, ⟨(some p3), none, (.e (.mv (.c (.int .i64 (.ofNat 0)))))⟩]) (.seq (.seq (.reg [⟨(some p7), none, (.e (.fa 0 (.r p1)))⟩, ⟨(some p8), none, (.e (.ld (.r p7)))⟩, ⟨(some p9), none, (.e (.bin .lss (.r p8) (.c (.int .i64 (.ofNat 0)))))⟩, ⟨(some p10), none, (.e (.mv (.r p9)))⟩, ⟨(some p11), (some (p10, false)), (.e (.fa 0 (.r p1)))⟩, ⟨(some p12), (some (p10, false)), (.e (.ld (.r p11)))⟩, ⟨(some p13), (some (p10, false)), (.e (.bin .geq (.r p12) (.c (.int .i64 (.ofNat 16)))))⟩, ⟨(some p14), none, (.e (.pick (.r p10) (.c (.bool true)) (.r p13)))⟩, ⟨(some p15), none, (.e (.mv (.r p14)))⟩, ⟨(some p16), (some (p15, false)), (.e (.fa 1 (.r p1)))⟩, ⟨(some p17), (some (p15, false)), (.e (.ld (.r p16)))⟩, ⟨(some p18), (some (p15, false)), (.e (.bin .lss (.r p17) (.c (.int .i64 (.ofNat 0)))))⟩, ⟨(some p19), none, (.e (.pick (.r p15) (.c (.bool true)) (.r p18)))⟩, ⟨(some p20), none, (.e (.mv (.r p19)))⟩, ⟨(some p21), (some (p20, false)), (.e (.fa 1 (.r p1)))⟩, ⟨(some p22), (some (p20, false)), (.e (.ld (.r p21)))⟩, ⟨(some p23), (some (p20, false)), (.e (.bin .geq (.r p22) (.c (.int .i64 (.ofNat 2147483648)))))⟩, ⟨(some p24), none, (.e (.pick (.r p20) (.c (.bool true)) (.r p23)))⟩, ⟨(some p25), none, (.e (.mv (.r p24)))⟩, ⟨(some p26), (some (p25, false)), (.e (.fa 2 (.r p1)))⟩, ⟨(some p27), (some (p25, false)), (.e (.ld (.r p26)))⟩, ⟨(some p28), (some (p25, false)), (.e (.bin .lss (.r p27) (.c (.int .i64 (.ofNat 1)))))⟩, ⟨(some p29), none, (.e (.pick (.r p25) (.c (.bool true)) (.r p28)))⟩, ⟨(some p30), none, (.e (.mv (.r p29)))⟩, ⟨(some p31), (some (p30, false)), (.e (.fa 2 (.r p1)))⟩, ⟨(some p32), (some (p30, false)), (.e (.ld (.r p31)))⟩, ⟨(some p33), (some (p30, false)), (.e (.bin .gtr (.r p32) (.c (.int .i64 (.ofNat 9)))))⟩, ⟨(some p34), none, (.e (.pick (.r p30) (.c (.bool true)) (.r p33)))⟩]) (.cond (.r p34) (.seq (.reg [⟨(some p2), none, (.e (.mv (.c (.str []))))⟩, ⟨(some p3), none, (.e (.mv (.c (.int .i64 (.ofNat 1)))))⟩]) .ret) .skip)) (.seq (.reg [⟨(some p35), none, (.c (.f 68 [(.c (.int .i64 (.ofNat 65536)))]))⟩, ⟨(some p4), none, (.e (.mv (.r p35)))⟩]) (.seq (.seq (.reg [⟨(some p36), none, (.c (.f 69 [(.r p1)]))⟩, ⟨(some p37), none, (.e (.lenL (.r p36)))⟩, ⟨(some p38), none, (.e (.mv (.c (.int .i64 (.ofNat 0)))))⟩]) (.block 0 C42_2)) C42_1))))
theorem I42_1 (E : Env) : Is E C42_1 (retK3 R42) (fun σ h => J42_1 E (σ p4) h) :=
  fun σ h => by kernel_rfl
noncomputable abbrev K42_3 (E : Env) : KT2 (DV × H) := (thenK3 (fun σ h => J42_1 E (σ p4) h) (retK3 R42))
theorem I42_2 (E : Env) : Is E C42_2 (blockK3 0 (K42_3 E)) (fun σ h => L42_2 E (σ p4) (σ p36) (σ p37) FUEL (σ p38) h) :=
  Is.loop (fun n2 σ h => L42_2 E (σ p4) (σ p36) (σ p37) n2 (σ p38) h) (by kernel_rfl) fun n2 => Is.as (Is.leaf _) fun σ h => by kernel_rfl
theorem I42_0 (E : Env) : Is E C42_0 (retK3 R42) (fun σ h => J42_0 E (σ p0) h) :=
  Is.as (Is.seq (Is.seq (Is.seq (Is.seq (I42_1 E) (Is.seq (Is.block (I42_2 E)) (Is.leaf _))) (Is.leaf _)) (Is.leaf _)) (Is.leaf _)) fun σ h => by kernel_rfl
def D42 : DF := ⟨1, 52, C42_0, R42⟩
noncomputable def S42 (E : Env) : Fun := fun args h => aS args fun r0 args => a0 args (J42_0 E r0 h)
theorem S42_eq (E : Env) (args : List DV) (h : H) : runFn E D42 args h = S42 E args h :=
  Is.fn1 (d := D42) (I42_0 E) rfl (fun r0 h => J42_0 E r0 h) (fun r0 h => by kernel_rfl) args h
/- hurdle/manager.Answer -/
def R43 : List RV := [(.r p2), (.r p3), (.r p4)]
noncomputable def J43_0 (E : Env) (r0 : DV) (h : H) : Ans :=
  wK (callK E 72 [r0] h) fun x1 h2 =>
  wK (callK E 73 [x1] h2) fun x3 h4 =>
  wK (callK E 74 [x1] h4) fun x5 h6 =>
  wK (callK E 75 [x1] h6) fun x7 h8 =>
  vK (v_neq x7 (.int .i64 (.ofNat 0))) fun x9 =>
  bK x9
  (some ((.tup [(.int .i64 (.ofNat 0)), .nils, (.int .i64 (.ofNat 3))]), h8))
  (some ((.tup [x3, x5, (.int .i64 (.ofNat 0))]), h8))
def C43_0 : DC := (.seq (.reg [⟨(some p2), none, (.e (.mv (.c (.int .i64 (.ofNat 0)))))⟩, ⟨(some p3), none, (.e (.mv (.c .nils)))⟩, ⟨(some p4), none, (.e (.mv (.c (.int .i64 (.ofNat 0)))))⟩]) (.seq (.reg [⟨(some p8), none, (.e (.mv (.r p0)))⟩, ⟨(some p9), none, (.c (.f 72 [(.r p8)]))⟩, ⟨(some p5), none, (.e (.mv (.r p9)))⟩]) (.seq (.reg [⟨(some p10), none, (.e (.mv (.r p5)))⟩, ⟨(some p11), none, (.c (.f 73 [(.r p10)]))⟩, ⟨(some p12), none, (.e (.mv (.r p5)))⟩, ⟨(some p13), none, (.c (.f 74 [(.r p12)]))⟩, ⟨(some p6), none, (.e (.mv (.r p11)))⟩, ⟨(some p7), none, (.e (.mv (.r p13)))⟩]) (.seq (.seq (.reg [⟨(some p14), none, (.e (.mv (.r p5)))⟩, ⟨(some p15), none, (.c (.f 75 [(.r p14)]))⟩, ⟨(some p16), none, (.e (.bin .neq (.r p15) (.c (.int .i64 (.ofNat 0)))))⟩]) (.cond (.r p16) (.seq (.reg [⟨(some p2), none, (.e (.mv (.c (.int .i64 (.ofNat 0)))))⟩, ⟨(some p3), none, (.e (.mv (.c .nils)))⟩, ⟨(some p4), none, (.e (.mv (.c (.int .i64 (.ofNat 3)))))⟩]) .ret) .skip)) (.seq (.reg [⟨(some p17), none, (.e (.mv (.r p6)))⟩, ⟨(some p18), none, (.e (.mv (.r p7)))⟩, ⟨(some p2), none, (.e (.mv (.r p17)))⟩, ⟨(some p3), none, (.e (.mv (.r p18)))⟩, ⟨(some p4), none, (.e (.mv (.c (.int .i64 (.ofNat 0)))))⟩]) .ret)))))
theorem I43_0 (E : Env) : Is E C43_0 (retK3 R43) (fun σ h => J43_0 E (σ p0) h) :=
  fun σ h => by kernel_rfl
def D43 : DF := ⟨1, 19, C43_0, R43⟩
noncomputable def S43 (E : Env) : Fun := fun args h => aS args fun r0 args => a0 args (J43_0 E r0 h)
theorem S43_eq (E : Env) (args : List DV) (h : H) : runFn E D43 args h = S43 E args h :=
  Is.fn1 (d := D43) (I43_0 E) rfl (fun r0 h => J43_0 E r0 h) (fun r0 h => by kernel_rfl) args h
/- (*hurdle/manager.Manager).Do -/
def R44 : List RV := [(.r p4)]
noncomputable def J44_0 (E : Env) (r0 r1 : DV) (h : H) : Ans :=
  vK (v_eqv .ptr false h.get r0 .nilp) fun x1 =>
  bK x1
  (wK (callK E 76 [.nils, (.int .i64 (.ofNat 1))] h) fun x2 h3 =>
  some (x2, h3))
  (wK (callK E 77 [r1] h) fun x4 h5 =>
  vK (v_ext 0 x4) fun x6 =>
  vK (v_ext 1 x4) fun x7 =>
  n_alc 8 8 (.list [(.int .i64 (.ofNat 0)), (.int .i64 (.ofNat 0)), (.int .i64 (.ofNat 0)), (.int .i64 (.ofNat 0)), (.int .i64 (.ofNat 0)), (.int .i64 (.ofNat 0)), (.int .i64 (.ofNat 0)), (.int .i64 (.ofNat 0))]) h5 fun x8 h9 =>
  wK (dStF 8 x8 x6 h9) fun x10 h11 =>
  vK (v_neq x7 (.int .i64 (.ofNat 0))) fun x12 =>
  bK x12
  (wK (callK E 76 [.nils, x7] h11) fun x13 h14 =>
  some (x13, h14))
  (vK (v_nilchk r0) fun x15 =>
  vK (v_fa 5 x15) fun x16 =>
  vK (v_ld h11.get x16) fun x17 =>
  vK (v_fa 0 x8) fun x18 =>
  vK (v_ld h11.get x18) fun x19 =>
  vK (v_fa 1 x8) fun x20 =>
  vK (v_ld h11.get x20) fun x21 =>
  wK (callK E 78 [x17, x19, x21] h11) fun x22 h23 =>
  vK (v_ext 0 x22) fun x24 =>
  vK (v_ext 1 x22) fun x25 =>
  vK (v_eql x24 (.int .i64 (.ofNat 2))) fun x26 =>
  bK x26
  (some (x25, h23))
  (vK (v_eql x24 (.int .i64 (.ofNat 1))) fun x27 =>
  bK x27
  (vK (v_fa 2 x8) fun x28 =>
  vK (v_ld h23.get x28) fun x29 =>
  vK (v_ldN 8 h23.get x8) fun x30 =>
  wK (callK E 79 [x29] h23) fun x31 h32 =>
  rK (rcK (v_ldN 8 h32.get x8) x30) <|
  wK (c_val E x31 [r0, x30] h32) fun x33 h34 =>
  vK (v_ext 0 x33) fun x35 =>
  vK (v_ext 1 x33) fun x36 =>
  wK (callK E 76 [x35, x36] h34) fun x37 h38 =>
  vK (v_nilchk r0) fun x39 =>
  vK (v_fa 5 x39) fun x40 =>
  vK (v_ld h38.get x40) fun x41 =>
  vK (v_fa 0 x8) fun x42 =>
  vK (v_ld h38.get x42) fun x43 =>
  vK (v_fa 1 x8) fun x44 =>
  vK (v_ld h38.get x44) fun x45 =>
  wK (callK E 80 [x41, x43, x45, x37] h38) fun x46 h47 =>
  some (x37, h47))
  (wK (callK E 76 [.nils, (.int .i64 (.ofNat 16))] h23) fun x48 h49 =>
  some (x48, h49)))))
def C44_0 : DC := (.seq (.reg [⟨(some p4), none, (.e (.mv (.c (.str []))))⟩]) (.seq (.seq (.reg [⟨(some p10), none, (.e (.mv (.r p0)))⟩, ⟨(some p11), none, (.e (.eqv .ptr false (.r p10) (.c .nilp)))⟩]) (.cond (.r p11) (.seq (.reg [⟨(some p12), none, (.c (.f 76 [(.c .nils), (.c (.int .i64 (.ofNat 1)))]))⟩, ⟨(some p4), none, (.e (.mv (.r p12)))⟩]) .ret) .skip)) (.seq (.reg [⟨(some p14), none, (.e (.mv (.r p1)))⟩, ⟨(some p15), none, (.c (.f 77 [(.r p14)]))⟩, ⟨(some p13), none, (.e (.mv (.r p15)))⟩, ⟨(some p16), none, (.e (.ext 0 (.r p13)))⟩, ⟨(some p17), none, (.e (.ext 1 (.r p13)))⟩, ⟨(some p5), none, (.e (.alc 8 8 (.list [(.int .i64 (.ofNat 0)), (.int .i64 (.ofNat 0)), (.int .i64 (.ofNat 0)), (.int .i64 (.ofNat 0)), (.int .i64 (.ofNat 0)), (.int .i64 (.ofNat 0)), (.int .i64 (.ofNat 0)), (.int .i64 (.ofNat 0))])))⟩, ⟨none, none, (.w (.st 8 (.r p5) (.r p16)))⟩, ⟨(some p6), none, (.e (.mv (.r p17)))⟩]) (.seq (.seq (.reg [⟨(some p18), none, (.e (.mv (.r p6)))⟩, ⟨(some p19), none, (.e (.bin .neq (.r p18) (.c (.int .i64 (.ofNat 0)))))⟩]) (.cond (.r p19) (.seq (.reg [⟨(some p20), none, (.e (.mv (.r p6)))⟩, ⟨(some p21), none, (.c (.f 76 [(.c .nils), (.r p20)]))⟩, ⟨(some p4), none, (.e (.mv (.r p21)))⟩]) .ret) .skip)) (.seq (.seq (.drg [⟨0, ⟨(some p23), none, (.e (.mv (.r p0)))⟩, [], false⟩, ⟨1, ⟨(some p24), none, (.e (.nilchk (.r p23)))⟩, [], false⟩, ⟨2, ⟨(some p25), none, (.e (.fa 5 (.r p24)))⟩, [], false⟩, ⟨3, ⟨(some p26), none, (.e (.ld (.r p25)))⟩, [], false⟩, ⟨4, ⟨(some p27), none, (.e (.fa 0 (.r p5)))⟩, [], false⟩, ⟨5, ⟨(some p28), none, (.e (.ld (.r p27)))⟩, [], false⟩, ⟨6, ⟨(some p29), none, (.e (.fa 1 (.r p5)))⟩, [], false⟩, ⟨7, ⟨(some p30), none, (.e (.ld (.r p29)))⟩, [], false⟩, ⟨8, ⟨(some p31), none, (.c (.f 78 [(.r p26), (.r p28), (.r p30)]))⟩, [], false⟩, ⟨9, ⟨(some p22), none, (.e (.mv (.r p31)))⟩, [], false⟩, ⟨10, ⟨(some p32), none, (.e (.ext 0 (.r p22)))⟩, [], false⟩, ⟨11, ⟨(some p33), none, (.e (.ext 1 (.r p22)))⟩, [], false⟩, ⟨12, ⟨(some p7), none, (.e (.mv (.r p32)))⟩, [], false⟩, ⟨13, ⟨(some p8), none, (.e (.mv (.r p33)))⟩, [], false⟩]) (.seq (.reg [⟨(some p34), none, (.e (.mv (.r p7)))⟩]) (.block 0 (.seq (.reg [⟨(some p37), none, (.e (.bin .eql (.r p34) (.c (.int .i64 (.ofNat 2)))))⟩, ⟨(some p36), none, (.e (.mv (.r p37)))⟩]) (.cond (.r p36) (.seq (.reg [⟨(some p38), none, (.e (.mv (.r p8)))⟩, ⟨(some p4), none, (.e (.mv (.r p38)))⟩]) .ret) (.seq (.reg [⟨(some p40), none, (.e (.bin .eql (.r p34) (.c (.int .i64 (.ofNat 1)))))⟩, ⟨(some p39), none, (.e (.mv (.r p40)))⟩]) (.cond (.r p39) .skip (.seq (.reg [⟨(some p35), none, (.c (.f 76 [(.c .nils), (.c (.int .i64 (.ofNat 16)))]))⟩, ⟨(some p4), none, (.e (.mv (.r p35)))⟩]) .ret)))))))) (.seq (.drg [⟨0, ⟨(some p41), none, (.e (.fa 2 (.r p5)))⟩, [], false⟩, ⟨1, ⟨(some p42), none, (.e (.ld (.r p41)))⟩, [], false⟩, ⟨3, ⟨(some p44), none, (.e (.mv (.r p0)))⟩, [], false⟩, ⟨4, ⟨(some p45), none, (.e (.ldN 8 (.r p5)))⟩, [], false⟩, ⟨2, ⟨(some p43), none, (.c (.f 79 [(.r p42)]))⟩, [4], false⟩, ⟨5, ⟨(some p46), none, (.c (.v (.r p43) [(.r p44), (.r p45)]))⟩, [], false⟩, ⟨6, ⟨(some p47), none, (.e (.ext 0 (.r p46)))⟩, [], false⟩, ⟨7, ⟨(some p48), none, (.e (.ext 1 (.r p46)))⟩, [], false⟩, ⟨8, ⟨(some p49), none, (.c (.f 76 [(.r p47), (.r p48)]))⟩, [], false⟩, ⟨9, ⟨(some p9), none, (.e (.mv (.r p49)))⟩, [], false⟩]) (.seq (.drg [⟨0, ⟨(some p50), none, (.e (.mv (.r p0)))⟩, [], false⟩, ⟨1, ⟨(some p51), none, (.e (.nilchk (.r p50)))⟩, [], false⟩, ⟨2, ⟨(some p52), none, (.e (.fa 5 (.r p51)))⟩, [], false⟩, ⟨3, ⟨(some p53), none, (.e (.ld (.r p52)))⟩, [], false⟩, ⟨4, ⟨(some p54), none, (.e (.fa 0 (.r p5)))⟩, [], false⟩, ⟨5, ⟨(some p55), none, (.e (.ld (.r p54)))⟩, [], false⟩, ⟨6, ⟨(some p56), none, (.e (.fa 1 (.r p5)))⟩, [], false⟩, ⟨7, ⟨(some p57), none, (.e (.ld (.r p56)))⟩, [], false⟩, ⟨8, ⟨(some p58), none, (.e (.mv (.r p9)))⟩, [], false⟩, ⟨9, ⟨(some p59), none, (.c (.f 80 [(.r p53), (.r p55), (.r p57), (.r p58)]))⟩, [], false⟩]) (.seq (.reg [⟨(some p60), none, (.e (.mv (.r p9)))⟩, ⟨(some p4), none, (.e (.mv (.r p60)))⟩]) .ret))))))))
theorem I44_0 (E : Env) : Is E C44_0 (retK3 R44) (fun σ h => J44_0 E (σ p0) (σ p1) h) :=
  fun σ h => by kernel_rfl
def D44 : DF := ⟨2, 61, C44_0, R44⟩
noncomputable def S44 (E : Env) : Fun := fun args h => aS args fun r0 args => aS args fun r1 args => a0 args (J44_0 E r0 r1 h)
theorem S44_eq (E : Env) (args : List DV) (h : H) : runFn E D44 args h = S44 E args h :=
  Is.fn2 (d := D44) (I44_0 E) rfl (fun r0 r1 h => J44_0 E r0 r1 h) (fun r0 r1 h => by kernel_rfl) args h
/- hurdle/parity.Encode -/
def R45 : List RV := [(.r p4), (.r p5)]
noncomputable def J45_1 (E : Env) (r7 : DV) (h : H) : Ans :=
  wK (callK E 59 [r7, (.int .i64 (.negSucc 0))] h) fun x1 h2 =>
  vK (v_ext 0 x1) fun x3 =>
  vK (v_ext 1 x1) fun x4 =>
  wK (callK E 83 [x3] h2) fun x5 h6 =>
  n_bsl 1 1 [(.str [])] [(0, 1, x5)] h6 fun x7 h8 =>
  wK (dAppendF 1 16 r7 x7 h8) fun x9 h10 =>
  some ((.tup [x9, (.int .i64 (.ofNat 0))]), h10)
def C45_1 : DC := (.seq (.reg [⟨(some p49), none, (.e (.mv (.r p7)))⟩, ⟨(some p50), none, (.c (.f 59 [(.r p49), (.c (.int .i64 (.negSucc 0)))]))⟩, ⟨(some p48), none, (.e (.mv (.r p50)))⟩, ⟨(some p51), none, (.e (.ext 0 (.r p48)))⟩, ⟨(some p52), none, (.e (.ext 1 (.r p48)))⟩, ⟨(some p11), none, (.e (.mv (.r p51)))⟩, ⟨(some p12), none, (.e (.mv (.r p52)))⟩]) (.seq (.reg [⟨(some p53), none, (.e (.mv (.r p7)))⟩, ⟨(some p54), none, (.e (.mv (.r p11)))⟩, ⟨(some p55), none, (.c (.f 83 [(.r p54)]))⟩, ⟨(some p56), none, (.e (.bsl 1 1 [(.str [])] [(0, 1, (.r p55))]))⟩, ⟨(some p57), none, (.w (.app 1 16 (.r p53) (.r p56)))⟩, ⟨(some p4), none, (.e (.mv (.r p57)))⟩, ⟨(some p5), none, (.e (.mv (.c (.int .i64 (.ofNat 0)))))⟩]) .ret))
noncomputable def B45_2 (E : Env) (r1 r9 : DV) (i2 : DV → H → Ans) (r7 : DV) (h : H) : Ans :=
  vK (v_lenL r7) fun x1 =>
  vK (v_sub r1 (.int .i64 (.ofNat 1))) fun x2 =>
  vK (v_lss x1 x2) fun x3 =>
  bK x3
  (n_bsl 1 1 [(.str [])] [(0, 1, r9)] h fun x4 h5 =>
  wK (dAppendF 1 16 r7 x4 h5) fun x6 h7 =>
  i2 x6 h7)
  (J45_1 E r7 h)
noncomputable def L45_2 (E : Env) (r1 r9 : DV) (n : Nat) : DV → H → Ans := Nat.rec (motive := fun _ => DV → H → Ans) (fun _ _ => none) (fun _ i => B45_2 E r1 r9 i) n
def C45_2 : DC := (.loop (.seq (.seq (.reg [⟨(some p39), none, (.e (.mv (.r p7)))⟩, ⟨(some p40), none, (.e (.lenL (.r p39)))⟩, ⟨(some p41), none, (.e (.mv (.r p1)))⟩, ⟨(some p42), none, (.e (.bin .sub (.r p41) (.c (.int .i64 (.ofNat 1)))))⟩, ⟨(some p43), none, (.e (.bin .lss (.r p40) (.r p42)))⟩]) (.cond (.r p43) .skip (.exit 0))) (.block 1 (.reg [⟨(some p44), none, (.e (.mv (.r p7)))⟩, ⟨(some p45), none, (.e (.mv (.r p9)))⟩, ⟨(some p46), none, (.e (.bsl 1 1 [(.str [])] [(0, 1, (.r p45))]))⟩, ⟨(some p47), none, (.w (.app 1 16 (.r p44) (.r p46)))⟩, ⟨(some p7), none, (.e (.mv (.r p47)))⟩]))))
noncomputable def J45_0 (E : Env) (r0 r1 : DV) (h : H) : Ans :=
  wK (callK E 58 [r1] h) fun x1 h2 =>
  vK (v_not x1) fun x3 =>
  bK x3
  (some ((.tup [.nils, (.int .i64 (.ofNat 1))]), h2))
  (vK (v_lenS r0) fun x4 =>
  wK (callK E 55 [x4, r1] h2) fun x5 h6 =>
  vK (v_lenS r0) fun x7 =>
  vK (v_gtr x7 (.int .i64 (.ofNat 65536))) fun x8 =>
  gdK x8 false (fun kk => kk x5 h6) h6 fun x9 h10 =>
  gdK x8 false (fun kk => vK (v_gtr x9 (.int .i64 (.ofNat 512))) fun v => kk v h10) h10 fun x11 h12 =>
  vK (v_pick x8 (.bool true) x11) fun x13 =>
  bK x13
  (some ((.tup [.nils, (.int .i64 (.ofNat 2))]), h12))
  (vK (v_mx x5 (.int .i64 (.ofNat 1))) fun x14 =>
  wK (callK E 81 [r0, x14] h12) fun x15 h16 =>
  vK (v_ext 0 x15) fun x17 =>
  vK (v_ext 1 x15) fun x18 =>
  wK (callK E 82 [(.str []), x5] h16) fun x19 h20 =>
  vK (v_ext 0 x19) fun x21 =>
  vK (v_ext 1 x19) fun x22 =>
  L45_2 E r1 x21 FUEL x17 h20))
def C45_0 : DC := (.seq (.reg [⟨(some p4), none, (.e (.mv (.c .nils)))⟩, ⟨(some p5), none, (.e (.mv (.c (.int .i64 (.ofNat 0)))))⟩]) (.seq (.seq (.reg [⟨(some p13), none, (.e (.mv (.r p1)))⟩, ⟨(some p14), none, (.c (.f 58 [(.r p13)]))⟩, ⟨(some p15), none, (.e (.not (.r p14)))⟩]) (.cond (.r p15) (.seq (.reg [⟨(some p4), none, (.e (.mv (.c .nils)))⟩, ⟨(some p5), none, (.e (.mv (.c (.int .i64 (.ofNat 1)))))⟩]) .ret) .skip)) (.seq (.reg [⟨(some p16), none, (.e (.mv (.r p0)))⟩, ⟨(some p17), none, (.e (.lenS (.r p16)))⟩, ⟨(some p18), none, (.e (.mv (.r p1)))⟩, ⟨(some p19), none, (.c (.f 55 [(.r p17), (.r p18)]))⟩, ⟨(some p6), none, (.e (.mv (.r p19)))⟩]) (.seq (.seq (.reg [⟨(some p20), none, (.e (.mv (.r p0)))⟩, ⟨(some p21), none, (.e (.lenS (.r p20)))⟩, ⟨(some p22), none, (.e (.bin .gtr (.r p21) (.c (.int .i64 (.ofNat 65536)))))⟩, ⟨(some p23), none, (.e (.mv (.r p22)))⟩, ⟨(some p24), (some (p23, false)), (.e (.mv (.r p6)))⟩, ⟨(some p25), (some (p23, false)), (.e (.bin .gtr (.r p24) (.c (.int .i64 (.ofNat 512)))))⟩, ⟨(some p26), none, (.e (.pick (.r p23) (.c (.bool true)) (.r p25)))⟩]) (.cond (.r p26) (.seq (.reg [⟨(some p4), none, (.e (.mv (.c .nils)))⟩, ⟨(some p5), none, (.e (.mv (.c (.int .i64 (.ofNat 2)))))⟩]) .ret) .skip)) (.seq (.reg [⟨(some p28), none, (.e (.mv (.r p0)))⟩, ⟨(some p29), none, (.e (.mv (.r p6)))⟩, ⟨(some p30), none, (.e (.mx (.r p29) (.c (.int .i64 (.ofNat 1)))))⟩, ⟨(some p31), none, (.c (.f 81 [(.r p28), (.r p30)]))⟩, ⟨(some p27), none, (.e (.mv (.r p31)))⟩, ⟨(some p32), none, (.e (.ext 0 (.r p27)))⟩, ⟨(some p33), none, (.e (.ext 1 (.r p27)))⟩, ⟨(some p7), none, (.e (.mv (.r p32)))⟩, ⟨(some p8), none, (.e (.mv (.r p33)))⟩]) (.seq (.reg [⟨(some p35), none, (.e (.mv (.r p6)))⟩, ⟨(some p36), none, (.c (.f 82 [(.c (.str [])), (.r p35)]))⟩, ⟨(some p34), none, (.e (.mv (.r p36)))⟩, ⟨(some p37), none, (.e (.ext 0 (.r p34)))⟩, ⟨(some p38), none, (.e (.ext 1 (.r p34)))⟩, ⟨(some p9), none, (.e (.mv (.r p37)))⟩, ⟨(some p10), none, (.e (.mv (.r p38)))⟩]) (.seq (.block 0 C45_2) C45_1)))))))
theorem I45_1 (E : Env) : Is E C45_1 (retK3 R45) (fun σ h => J45_1 E (σ p7) h) :=
  fun σ h => by kernel_rfl
noncomputable abbrev K45_3 (E : Env) : KT2 (DV × H) := (thenK3 (fun σ h => J45_1 E (σ p7) h) (retK3 R45))
theorem I45_2 (E : Env) : Is E C45_2 (blockK3 0 (K45_3 E)) (fun σ h => L45_2 E (σ p1) (σ p9) FUEL (σ p7) h) :=
  Is.loop (fun n2 σ h => L45_2 E (σ p1) (σ p9) n2 (σ p7) h) (by kernel_rfl) fun n2 => Is.as (Is.leaf _) fun σ h => by kernel_rfl
theorem I45_0 (E : Env) : Is E C45_0 (retK3 R45) (fun σ h => J45_0 E (σ p0) (σ p1) h) :=
  Is.as (Is.seq (Is.seq (Is.seq (Is.seq (Is.seq (Is.seq (Is.seq (I45_1 E) (Is.block (I45_2 E))) (Is.leaf _)) (Is.leaf _)) (Is.leaf _)) (Is.leaf _)) (Is.leaf _)) (Is.leaf _)) fun σ h => by kernel_rfl
def D45 : DF := ⟨2, 58, C45_0, R45⟩
noncomputable def S45 (E : Env) : Fun := fun args h => aS args fun r0 args => aS args fun r1 args => a0 args (J45_0 E r0 r1 h)
theorem S45_eq (E : Env) (args : List DV) (h : H) : runFn E D45 args h = S45 E args h :=
  Is.fn2 (d := D45) (I45_0 E) rfl (fun r0 r1 h => J45_0 E r0 r1 h) (fun r0 r1 h => by kernel_rfl) args h
/- (*hurdle/array.Array).server -/
def R47 : List RV := [(.r p6), (.r p7)]
noncomputable def J47_0 (E : Env) (r0 r1 r2 : DV) (h : H) : Ans :=
  vK (v_nilchk r0) fun x1 =>
  vK (v_fa 1 x1) fun x2 =>
  vK (v_ld h.get x2) fun x3 =>
  wK (callK E 54 [x3, r1] h) fun x4 h5 =>
  vK (v_ext 0 x4) fun x6 =>
  vK (v_ext 1 x4) fun x7 =>
  n_alc 6 6 (.list [(.int .i64 (.ofNat 0)), (.int .i64 (.ofNat 0)), (.int .i64 (.ofNat 0)), (.int .i64 (.ofNat 0)), (.int .i64 (.ofNat 0)), .nils]) h5 fun x8 h9 =>
  wK (dStF 6 x8 x6 h9) fun x10 h11 =>
  vK (v_not x7) fun x12 =>
  bK x12
  (some ((.tup [(.int .i64 (.ofNat 0)), (.bool false)]), h11))
  (vK (v_fa 5 x8) fun x13 =>
  vK (v_ld h11.get x13) fun x14 =>
  wK (callK E 84 [x14, r1, r2] h11) fun x15 h16 =>
  vK (v_ext 0 x15) fun x17 =>
  vK (v_ext 1 x15) fun x18 =>
  vK (v_eql x18 (.int .i64 (.ofNat 0))) fun x19 =>
  some ((.tup [x17, x19]), h16))
def C47_0 : DC := (.seq (.reg [⟨(some p6), none, (.e (.mv (.c (.int .i64 (.ofNat 0)))))⟩, ⟨(some p7), none, (.e (.mv (.c (.bool false))))⟩]) (.seq (.reg [⟨(some p13), none, (.e (.mv (.r p0)))⟩, ⟨(some p14), none, (.e (.nilchk (.r p13)))⟩, ⟨(some p15), none, (.e (.fa 1 (.r p14)))⟩, ⟨(some p16), none, (.e (.ld (.r p15)))⟩, ⟨(some p17), none, (.e (.mv (.r p1)))⟩, ⟨(some p18), none, (.c (.f 54 [(.r p16), (.r p17)]))⟩, ⟨(some p12), none, (.e (.mv (.r p18)))⟩, ⟨(some p19), none, (.e (.ext 0 (.r p12)))⟩, ⟨(some p20), none, (.e (.ext 1 (.r p12)))⟩, ⟨(some p8), none, (.e (.alc 6 6 (.list [(.int .i64 (.ofNat 0)), (.int .i64 (.ofNat 0)), (.int .i64 (.ofNat 0)), (.int .i64 (.ofNat 0)), (.int .i64 (.ofNat 0)), .nils])))⟩, ⟨none, none, (.w (.st 6 (.r p8) (.r p19)))⟩, ⟨(some p9), none, (.e (.mv (.r p20)))⟩]) (.seq (.seq (.reg [⟨(some p21), none, (.e (.mv (.r p9)))⟩, ⟨(some p22), none, (.e (.not (.r p21)))⟩]) (.cond (.r p22) (.seq (.reg [⟨(some p6), none, (.e (.mv (.c (.int .i64 (.ofNat 0)))))⟩, ⟨(some p7), none, (.e (.mv (.c (.bool false))))⟩]) .ret) .skip)) (.seq (.reg [⟨(some p24), none, (.e (.fa 5 (.r p8)))⟩, ⟨(some p25), none, (.e (.ld (.r p24)))⟩, ⟨(some p26), none, (.e (.mv (.r p1)))⟩, ⟨(some p27), none, (.e (.mv (.r p2)))⟩, ⟨(some p28), none, (.c (.f 84 [(.r p25), (.r p26), (.r p27)]))⟩, ⟨(some p23), none, (.e (.mv (.r p28)))⟩, ⟨(some p29), none, (.e (.ext 0 (.r p23)))⟩, ⟨(some p30), none, (.e (.ext 1 (.r p23)))⟩, ⟨(some p10), none, (.e (.mv (.r p29)))⟩, ⟨(some p11), none, (.e (.mv (.r p30)))⟩]) (.seq (.reg [⟨(some p31), none, (.e (.mv (.r p10)))⟩, ⟨(some p32), none, (.e (.mv (.r p11)))⟩, ⟨(some p33), none, (.e (.bin .eql (.r p32) (.c (.int .i64 (.ofNat 0)))))⟩, ⟨(some p6), none, (.e (.mv (.r p31)))⟩, ⟨(some p7), none, (.e (.mv (.r p33)))⟩]) .ret)))))
theorem I47_0 (E : Env) : Is E C47_0 (retK3 R47) (fun σ h => J47_0 E (σ p0) (σ p1) (σ p2) h) :=
  fun σ h => by kernel_rfl
def D47 : DF := ⟨3, 34, C47_0, R47⟩
noncomputable def S47 (E : Env) : Fun := fun args h => aS args fun r0 args => aS args fun r1 args => aS args fun r2 args => a0 args (J47_0 E r0 r1 r2 h)
theorem S47_eq (E : Env) (args : List DV) (h : H) : runFn E D47 args h = S47 E args h :=
  Is.fn3 (d := D47) (I47_0 E) rfl (fun r0 r1 r2 h => J47_0 E r0 r1 r2 h) (fun r0 r1 r2 h => by kernel_rfl) args h
/- (*hurdle/servers.Servers).Get -/
def R48 : List RV := [(.cell p6), (.cell p7)]
noncomputable def J48_0 (E : Env) (r2 : DV) (h : H) : Ans :=
  n_box r2 h fun x1 h2 =>
  n_alc 1 1 (.list [(.str [])]) h2 fun x3 h4 =>
  n_alc 1 1 (.list [(.int .i64 (.ofNat 0))]) h4 fun x5 h6 =>
  none
def C48_0 : DC := (.seq (.reg [⟨(some p5), none, (.e (.box (.r p2)))⟩, ⟨(some p6), none, (.e (.alc 1 1 (.list [(.str [])])))⟩, ⟨(some p7), none, (.e (.alc 1 1 (.list [(.int .i64 (.ofNat 0))])))⟩]) (.seq (.reg [⟨(some p8), none, (.e (.mkF (.func 85) [] [(.r p6), (.r p7)]))⟩, ⟨none, none, (.e .bad)⟩]) (.seq (.drg [⟨0, ⟨(some p9), none, (.e (.mv (.r p0)))⟩, [], false⟩, ⟨1, ⟨(some p10), none, (.e (.mv (.r p1)))⟩, [], false⟩, ⟨3, ⟨(some p12), none, (.e (.ldN 2 (.r p5)))⟩, [], false⟩, ⟨2, ⟨(some p11), none, (.c (.f 87 [(.r p9), (.r p10)]))⟩, [3], false⟩, ⟨4, ⟨(some p13), none, (.c (.f 88 [(.r p11), (.r p12)]))⟩, [], false⟩, ⟨5, ⟨(some p14), none, (.e (.ext 0 (.r p13)))⟩, [], false⟩, ⟨6, ⟨(some p15), none, (.e (.ext 1 (.r p13)))⟩, [], false⟩, ⟨7, ⟨none, none, (.w (.st 1 (.r p6) (.r p14)))⟩, [], false⟩, ⟨8, ⟨none, none, (.w (.st 1 (.r p7) (.r p15)))⟩, [], false⟩]) .ret)))
theorem I48_0 (E : Env) : Is E C48_0 (retK3 R48) (fun σ h => J48_0 E (σ p2) h) :=
  fun σ h => by kernel_rfl
def D48 : DF := ⟨3, 16, C48_0, R48⟩
noncomputable def S48 (E : Env) : Fun := fun args h => aS args fun r0 args => aS args fun r1 args => aS args fun r2 args => a0 args (J48_0 E r2 h)
theorem S48_eq (E : Env) (args : List DV) (h : H) : runFn E D48 args h = S48 E args h :=
  Is.fn3 (d := D48) (I48_0 E) rfl (fun r0 r1 r2 h => J48_0 E r2 h) (fun r0 r1 r2 h => by kernel_rfl) args h
/- (*hurdle/servers.Servers).Put -/
def R49 : List RV := [(.cell p8)]
noncomputable def J49_0 (E : Env) (r2 : DV) (h : H) : Ans :=
  n_box r2 h fun x1 h2 =>
  n_alc 1 1 (.list [(.int .i64 (.ofNat 0))]) h2 fun x3 h4 =>
  none
def C49_0 : DC := (.seq (.reg [⟨(some p6), none, (.e (.box (.r p2)))⟩, ⟨(some p8), none, (.e (.alc 1 1 (.list [(.int .i64 (.ofNat 0))])))⟩]) (.seq (.reg [⟨(some p9), none, (.e (.mkF (.func 89) [] [(.r p8)]))⟩, ⟨none, none, (.e .bad)⟩]) (.seq (.drg [⟨0, ⟨(some p10), none, (.e (.mv (.r p0)))⟩, [], false⟩, ⟨1, ⟨(some p11), none, (.e (.mv (.r p1)))⟩, [], false⟩, ⟨3, ⟨(some p13), none, (.e (.ldN 2 (.r p6)))⟩, [], false⟩, ⟨4, ⟨(some p14), none, (.e (.mv (.r p3)))⟩, [], false⟩, ⟨2, ⟨(some p12), none, (.c (.f 87 [(.r p10), (.r p11)]))⟩, [3], false⟩, ⟨5, ⟨(some p15), none, (.c (.f 90 [(.r p12), (.r p13), (.r p14), (.c (.int .i64 (.negSucc 0)))]))⟩, [], false⟩, ⟨6, ⟨none, none, (.w (.st 1 (.r p8) (.r p15)))⟩, [], false⟩]) .ret)))
theorem I49_0 (E : Env) : Is E C49_0 (retK3 R49) (fun σ h => J49_0 E (σ p2) h) :=
  fun σ h => by kernel_rfl
def D49 : DF := ⟨4, 16, C49_0, R49⟩
noncomputable def S49 (E : Env) : Fun := fun args h => aS args fun r0 args => aS args fun r1 args => aS args fun r2 args => aS args fun r3 args => a0 args (J49_0 E r2 h)
theorem S49_eq (E : Env) (args : List DV) (h : H) : runFn E D49 args h = S49 E args h :=
  Is.fn4 (d := D49) (I49_0 E) rfl (fun r0 r1 r2 r3 h => J49_0 E r2 h) (fun r0 r1 r2 r3 h => by kernel_rfl) args h
/- (*hurdle/manager.Manager).Stripe -/
def R54 : List RV := [(.cells p4 6), (.r p5)]
noncomputable def J54_0 (E : Env) (r0 r1 : DV) (h : H) : Ans :=
  n_alc 6 6 (.list [(.int .i64 (.ofNat 0)), (.int .i64 (.ofNat 0)), (.int .i64 (.ofNat 0)), (.int .i64 (.ofNat 0)), (.int .i64 (.ofNat 0)), .nils]) h fun x1 h2 =>
  vK (v_eqv .ptr false h2.get r0 .nilp) fun x3 =>
  bK x3
  (vK (v_bld [(.int .i64 (.ofNat 0)), (.int .i64 (.ofNat 0)), (.int .i64 (.ofNat 0)), (.int .i64 (.ofNat 0)), (.int .i64 (.ofNat 0)), .nils] []) fun x4 =>
  wK (dStF 6 x1 x4 h2) fun x5 h6 =>
  vK (v_ldN 6 h6.get x1) fun x7 =>
  some ((.tup [x7, (.bool false)]), h6))
  (vK (v_nilchk r0) fun x8 =>
  vK (v_fa 1 x8) fun x9 =>
  vK (v_ld h2.get x9) fun x10 =>
  wK (callK E 94 [x10, r1] h2) fun x11 h12 =>
  vK (v_ext 0 x11) fun x13 =>
  vK (v_ext 1 x11) fun x14 =>
  wK (dStF 6 x1 x13 h12) fun x15 h16 =>
  vK (v_ldN 6 h16.get x1) fun x17 =>
  some ((.tup [x17, x14]), h16))
def C54_0 : DC := (.seq (.reg [⟨(some p4), none, (.e (.alc 6 6 (.list [(.int .i64 (.ofNat 0)), (.int .i64 (.ofNat 0)), (.int .i64 (.ofNat 0)), (.int .i64 (.ofNat 0)), (.int .i64 (.ofNat 0)), .nils])))⟩, ⟨(some p5), none, (.e (.mv (.c (.bool false))))⟩]) (.seq (.seq (.reg [⟨(some p6), none, (.e (.mv (.r p0)))⟩, ⟨(some p7), none, (.e (.eqv .ptr false (.r p6) (.c .nilp)))⟩]) (.cond (.r p7) (.seq (.reg [⟨(some p8), none, (.e (.bld [(.int .i64 (.ofNat 0)), (.int .i64 (.ofNat 0)), (.int .i64 (.ofNat 0)), (.int .i64 (.ofNat 0)), (.int .i64 (.ofNat 0)), .nils] []))⟩, ⟨none, none, (.w (.st 6 (.r p4) (.r p8)))⟩, ⟨(some p5), none, (.e (.mv (.c (.bool false))))⟩]) .ret) .skip)) (.seq (.reg [⟨(some p9), none, (.e (.mv (.r p0)))⟩, ⟨(some p10), none, (.e (.nilchk (.r p9)))⟩, ⟨(some p11), none, (.e (.fa 1 (.r p10)))⟩, ⟨(some p12), none, (.e (.ld (.r p11)))⟩, ⟨(some p13), none, (.e (.mv (.r p1)))⟩, ⟨(some p14), none, (.c (.f 94 [(.r p12), (.r p13)]))⟩, ⟨(some p15), none, (.e (.ext 0 (.r p14)))⟩, ⟨(some p16), none, (.e (.ext 1 (.r p14)))⟩, ⟨none, none, (.w (.st 6 (.r p4) (.r p15)))⟩, ⟨(some p5), none, (.e (.mv (.r p16)))⟩]) .ret)))
theorem I54_0 (E : Env) : Is E C54_0 (retK3 R54) (fun σ h => J54_0 E (σ p0) (σ p1) h) :=
  fun σ h => by kernel_rfl
def D54 : DF := ⟨2, 17, C54_0, R54⟩
noncomputable def S54 (E : Env) : Fun := fun args h => aS args fun r0 args => aS args fun r1 args => a0 args (J54_0 E r0 r1 h)
theorem S54_eq (E : Env) (args : List DV) (h : H) : runFn E D54 args h = S54 E args h :=
  Is.fn2 (d := D54) (I54_0 E) rfl (fun r0 r1 h => J54_0 E r0 r1 h) (fun r0 r1 h => by kernel_rfl) args h
/- hurdle/parity.Long -/
def R55 : List RV := [(.r p4)]
noncomputable def J55_0 (E : Env) (r0 r1 : DV) (h : H) : Ans :=
  vK (v_lss r0 (.int .i64 (.ofNat 0))) fun x1 =>
  gdK x1 false (fun kk => kk r0 h) h fun x2 h3 =>
  gdK x1 false (fun kk => vK (v_gtr x2 (.int .i64 (.ofNat 65536))) fun v => kk v h3) h3 fun x4 h5 =>
  vK (v_pick x1 (.bool true) x4) fun x6 =>
  gdK x6 false (fun kk => kk r1 h5) h5 fun x7 h8 =>
  gdK x6 false (fun kk => wK (callK E 58 [x7] h8) kk) h8 fun x9 h10 =>
  gdK x6 false (fun kk => vK (v_not x9) fun v => kk v h10) h10 fun x11 h12 =>
  vK (v_pick x6 (.bool true) x11) fun x13 =>
  bK x13
  (some ((.int .i64 (.ofNat 0)), h12))
  (vK (v_add r0 r1) fun x14 =>
  vK (v_sub x14 (.int .i64 (.ofNat 2))) fun x15 =>
  vK (v_sub r1 (.int .i64 (.ofNat 1))) fun x16 =>
  vK (v_quo x15 x16) fun x17 =>
  some (x17, h12))
def C55_0 : DC := (.seq (.reg [⟨(some p4), none, (.e (.mv (.c (.int .i64 (.ofNat 0)))))⟩]) (.seq (.seq (.reg [⟨(some p5), none, (.e (.mv (.r p0)))⟩, ⟨(some p6), none, (.e (.bin .lss (.r p5) (.c (.int .i64 (.ofNat 0)))))⟩, ⟨(some p7), none, (.e (.mv (.r p6)))⟩, ⟨(some p8), (some (p7, false)), (.e (.mv (.r p0)))⟩, ⟨(some p9), (some (p7, false)), (.e (.bin .gtr (.r p8) (.c (.int .i64 (.ofNat 65536)))))⟩, ⟨(some p10), none, (.e (.pick (.r p7) (.c (.bool true)) (.r p9)))⟩, ⟨(some p11), none, (.e (.mv (.r p10)))⟩, ⟨(some p12), (some (p11, false)), (.e (.mv (.r p1)))⟩, ⟨(some p13), (some (p11, false)), (.c (.f 58 [(.r p12)]))⟩, ⟨(some p14), (some (p11, false)), (.e (.not (.r p13)))⟩, ⟨(some p15), none, (.e (.pick (.r p11) (.c (.bool true)) (.r p14)))⟩]) (.cond (.r p15) (.seq (.reg [⟨(some p4), none, (.e (.mv (.c (.int .i64 (.ofNat 0)))))⟩]) .ret) .skip)) (.seq (.reg [⟨(some p16), none, (.e (.mv (.r p0)))⟩, ⟨(some p17), none, (.e (.mv (.r p1)))⟩, ⟨(some p18), none, (.e (.bin .add (.r p16) (.r p17)))⟩, ⟨(some p19), none, (.e (.bin .sub (.r p18) (.c (.int .i64 (.ofNat 2)))))⟩, ⟨(some p20), none, (.e (.mv (.r p1)))⟩, ⟨(some p21), none, (.e (.bin .sub (.r p20) (.c (.int .i64 (.ofNat 1)))))⟩, ⟨(some p22), none, (.e (.bin .quo (.r p19) (.r p21)))⟩, ⟨(some p4), none, (.e (.mv (.r p22)))⟩]) .ret)))
theorem I55_0 (E : Env) : Is E C55_0 (retK3 R55) (fun σ h => J55_0 E (σ p0) (σ p1) h) :=
  fun σ h => by kernel_rfl
def D55 : DF := ⟨2, 23, C55_0, R55⟩
noncomputable def S55 (E : Env) : Fun := fun args h => aS args fun r0 args => aS args fun r1 args => a0 args (J55_0 E r0 r1 h)
theorem S55_eq (E : Env) (args : List DV) (h : H) : runFn E D55 args h = S55 E args h :=
  Is.fn2 (d := D55) (I55_0 E) rfl (fun r0 r1 h => J55_0 E r0 r1 h) (fun r0 r1 h => by kernel_rfl) args h
/- hurdle/parity.Give -/
def R56 : List RV := [(.r p4), (.r p5)]
noncomputable def J56_0 (E : Env) (r0 r1 : DV) (h : H) : Ans :=
  vK (v_lenL r0) fun x1 =>
  wK (callK E 58 [x1] h) fun x2 h3 =>
  vK (v_not x2) fun x4 =>
  gdK x4 false (fun kk => kk r1 h3) h3 fun x5 h6 =>
  gdK x4 false (fun kk => vK (v_lss x5 (.int .i64 (.ofNat 0))) fun v => kk v h6) h6 fun x7 h8 =>
  vK (v_pick x4 (.bool true) x7) fun x9 =>
  gdK x9 false (fun kk => kk r1 h8) h8 fun x10 h11 =>
  gdK x9 false (fun kk => kk r0 h11) h11 fun x12 h13 =>
  gdK x9 false (fun kk => vK (v_lenL x12) fun v => kk v h13) h13 fun x14 h15 =>
  gdK x9 false (fun kk => vK (v_geq x10 x14) fun v => kk v h15) h15 fun x16 h17 =>
  vK (v_pick x9 (.bool true) x16) fun x18 =>
  bK x18
  (some ((.tup [(.str []), (.int .i64 (.ofNat 1))]), h17))
  (wK (callK E 59 [r0, r1] h17) fun x19 h20 =>
  vK (v_ext 0 x19) fun x21 =>
  vK (v_ext 1 x19) fun x22 =>
  vK (v_not x22) fun x23 =>
  bK x23
  (some ((.tup [(.str []), (.int .i64 (.ofNat 2))]), h20))
  (wK (callK E 83 [x21] h20) fun x24 h25 =>
  some ((.tup [x24, (.int .i64 (.ofNat 0))]), h25)))
def C56_0 : DC := (.seq (.reg [⟨(some p4), none, (.e (.mv (.c (.str []))))⟩, ⟨(some p5), none, (.e (.mv (.c (.int .i64 (.ofNat 0)))))⟩]) (.seq (.seq (.reg [⟨(some p8), none, (.e (.mv (.r p0)))⟩, ⟨(some p9), none, (.e (.lenL (.r p8)))⟩, ⟨(some p10), none, (.c (.f 58 [(.r p9)]))⟩, ⟨(some p11), none, (.e (.not (.r p10)))⟩, ⟨(some p12), none, (.e (.mv (.r p11)))⟩, ⟨(some p13), (some (p12, false)), (.e (.mv (.r p1)))⟩, ⟨(some p14), (some (p12, false)), (.e (.bin .lss (.r p13) (.c (.int .i64 (.ofNat 0)))))⟩, ⟨(some p15), none, (.e (.pick (.r p12) (.c (.bool true)) (.r p14)))⟩, ⟨(some p16), none, (.e (.mv (.r p15)))⟩, ⟨(some p17), (some (p16, false)), (.e (.mv (.r p1)))⟩, ⟨(some p18), (some (p16, false)), (.e (.mv (.r p0)))⟩, ⟨(some p19), (some (p16, false)), (.e (.lenL (.r p18)))⟩, ⟨(some p20), (some (p16, false)), (.e (.bin .geq (.r p17) (.r p19)))⟩, ⟨(some p21), none, (.e (.pick (.r p16) (.c (.bool true)) (.r p20)))⟩]) (.cond (.r p21) (.seq (.reg [⟨(some p4), none, (.e (.mv (.c (.str []))))⟩, ⟨(some p5), none, (.e (.mv (.c (.int .i64 (.ofNat 1)))))⟩]) .ret) .skip)) (.seq (.reg [⟨(some p23), none, (.e (.mv (.r p0)))⟩, ⟨(some p24), none, (.e (.mv (.r p1)))⟩, ⟨(some p25), none, (.c (.f 59 [(.r p23), (.r p24)]))⟩, ⟨(some p22), none, (.e (.mv (.r p25)))⟩, ⟨(some p26), none, (.e (.ext 0 (.r p22)))⟩, ⟨(some p27), none, (.e (.ext 1 (.r p22)))⟩, ⟨(some p6), none, (.e (.mv (.r p26)))⟩, ⟨(some p7), none, (.e (.mv (.r p27)))⟩]) (.seq (.seq (.reg [⟨(some p28), none, (.e (.mv (.r p7)))⟩, ⟨(some p29), none, (.e (.not (.r p28)))⟩]) (.cond (.r p29) (.seq (.reg [⟨(some p4), none, (.e (.mv (.c (.str []))))⟩, ⟨(some p5), none, (.e (.mv (.c (.int .i64 (.ofNat 2)))))⟩]) .ret) .skip)) (.seq (.reg [⟨(some p30), none, (.e (.mv (.r p6)))⟩, ⟨(some p31), none, (.c (.f 83 [(.r p30)]))⟩, ⟨(some p4), none, (.e (.mv (.r p31)))⟩, ⟨(some p5), none, (.e (.mv (.c (.int .i64 (.ofNat 0)))))⟩]) .ret)))))
theorem I56_0 (E : Env) : Is E C56_0 (retK3 R56) (fun σ h => J56_0 E (σ p0) (σ p1) h) :=
  fun σ h => by kernel_rfl
def D56 : DF := ⟨2, 32, C56_0, R56⟩
noncomputable def S56 (E : Env) : Fun := fun args h => aS args fun r0 args => aS args fun r1 args => a0 args (J56_0 E r0 r1 h)
theorem S56_eq (E : Env) (args : List DV) (h : H) : runFn E D56 args h = S56 E args h :=
  Is.fn2 (d := D56) (I56_0 E) rfl (fun r0 r1 h => J56_0 E r0 r1 h) (fun r0 r1 h => by kernel_rfl) args h
/- hurdle/parity.Join -/
def R57 : List RV := [(.r p4), (.r p5)]
noncomputable def J57_1 (E : Env) (r1 r7 : DV) (h : H) : Ans :=
  vK (v_slL 1 r7 none (some r1)) fun x1 =>
  vK (v_b2s h.get x1) fun x2 =>
  some ((.tup [x2, (.int .i64 (.ofNat 0))]), h)
def C57_1 : DC := (.seq (.reg [⟨(some p47), none, (.e (.mv (.r p7)))⟩, ⟨(some p48), none, (.e (.mv (.r p1)))⟩, ⟨(some p49), none, (.e (.slL 1 (.r p47) none (some (.r p48))))⟩, ⟨(some p50), none, (.e (.b2s (.r p49)))⟩, ⟨(some p4), none, (.e (.mv (.r p50)))⟩, ⟨(some p5), none, (.e (.mv (.c (.int .i64 (.ofNat 0)))))⟩]) .ret)
noncomputable def B57_2 (E : Env) (r1 r6 r33 r34 : DV) (i2 : DV → DV → H → Ans) (r7 r35 : DV) (h : H) : Ans :=
  vK (v_lss r35 r34) fun x1 =>
  bK x1
  (vK (v_iaS 1 r33 r35) fun x2 =>
  vK (v_ld h.get x2) fun x3 =>
  vK (v_lenS x3) fun x4 =>
  vK (v_neq x4 r6) fun x5 =>
  bK x5
  (some ((.tup [(.str []), (.int .i64 (.ofNat 2))]), h))
  (wK (dAppendF 1 1 r7 x3 h) fun x6 h7 =>
  vK (v_add r35 (.int .i64 (.ofNat 1))) fun x8 =>
  i2 x6 x8 h7))
  (J57_1 E r1 r7 h)
noncomputable def L57_2 (E : Env) (r1 r6 r33 r34 : DV) (n : Nat) : DV → DV → H → Ans := Nat.rec (motive := fun _ => DV → DV → H → Ans) (fun _ _ _ => none) (fun _ i => B57_2 E r1 r6 r33 r34 i) n
def C57_2 : DC := (.loop (.seq (.reg [⟨(some p36), none, (.e (.bin .lss (.r p35) (.r p34)))⟩]) (.seq (.cond (.r p36) .skip (.exit 0)) (.seq (.block 1 (.seq (.reg [⟨(some p37), none, (.e (.iaS 1 (.r p33) (.r p35)))⟩, ⟨(some p38), none, (.e (.ld (.r p37)))⟩, ⟨(some p9), none, (.e (.mv (.r p38)))⟩]) (.seq (.seq (.reg [⟨(some p39), none, (.e (.mv (.r p9)))⟩, ⟨(some p40), none, (.e (.lenS (.r p39)))⟩, ⟨(some p41), none, (.e (.mv (.r p6)))⟩, ⟨(some p42), none, (.e (.bin .neq (.r p40) (.r p41)))⟩]) (.cond (.r p42) (.seq (.reg [⟨(some p4), none, (.e (.mv (.c (.str []))))⟩, ⟨(some p5), none, (.e (.mv (.c (.int .i64 (.ofNat 2)))))⟩]) .ret) .skip)) (.reg [⟨(some p43), none, (.e (.mv (.r p7)))⟩, ⟨(some p44), none, (.e (.mv (.r p9)))⟩, ⟨(some p45), none, (.w (.app 1 1 (.r p43) (.r p44)))⟩, ⟨(some p7), none, (.e (.mv (.r p45)))⟩])))) (.reg [⟨(some p46), none, (.e (.bin .add (.r p35) (.c (.int .i64 (.ofNat 1)))))⟩, ⟨(some p35), none, (.e (.mv (.r p46)))⟩])))))
noncomputable def J57_0 (E : Env) (r0 r1 : DV) (h : H) : Ans :=
  vK (v_lenL r0) fun x1 =>
  wK (callK E 58 [x1] h) fun x2 h3 =>
  vK (v_not x2) fun x4 =>
  bK x4
  (some ((.tup [(.str []), (.int .i64 (.ofNat 1))]), h3))
  (vK (v_lenL r0) fun x5 =>
  wK (callK E 55 [r1, x5] h3) fun x6 h7 =>
  vK (v_lss r1 (.int .i64 (.ofNat 0))) fun x8 =>
  gdK x8 false (fun kk => kk r1 h7) h7 fun x9 h10 =>
  gdK x8 false (fun kk => vK (v_gtr x9 (.int .i64 (.ofNat 65536))) fun v => kk v h10) h10 fun x11 h12 =>
  vK (v_pick x8 (.bool true) x11) fun x13 =>
  gdK x13 false (fun kk => kk x6 h12) h12 fun x14 h15 =>
  gdK x13 false (fun kk => vK (v_gtr x14 (.int .i64 (.ofNat 512))) fun v => kk v h15) h15 fun x16 h17 =>
  vK (v_pick x13 (.bool true) x16) fun x18 =>
  bK x18
  (some ((.tup [(.str []), (.int .i64 (.ofNat 2))]), h17))
  (vK (v_lenL r0) fun x19 =>
  vK (v_mul x6 x19) fun x20 =>
  n_mks 1 1 (.int .u8 (.ofNat 0)) (.int .i64 (.ofNat 0)) x20 h17 fun x21 h22 =>
  vK (v_lenL r0) fun x23 =>
  L57_2 E r1 x6 r0 x23 FUEL x21 (.int .i64 (.ofNat 0)) h22))
def C57_0 : DC := (.seq (.reg [⟨(some p4), none, (.e (.mv (.c (.str []))))⟩, ⟨(some p5), none, (.e (.mv (.c (.int .i64 (.ofNat 0)))))⟩]) (.seq (.seq (.reg [⟨(some p10), none, (.e (.mv (.r p0)))⟩, ⟨(some p11), none, (.e (.lenL (.r p10)))⟩, ⟨(some p12), none, (.c (.f 58 [(.r p11)]))⟩, ⟨(some p13), none, (.e (.not (.r p12)))⟩]) (.cond (.r p13) (.seq (.reg [⟨(some p4), none, (.e (.mv (.c (.str []))))⟩, ⟨(some p5), none, (.e (.mv (.c (.int .i64 (.ofNat 1)))))⟩]) .ret) .skip)) (.seq (.reg [⟨(some p14), none, (.e (.mv (.r p1)))⟩, ⟨(some p15), none, (.e (.mv (.r p0)))⟩, ⟨(some p16), none, (.e (.lenL (.r p15)))⟩, ⟨(some p17), none, (.c (.f 55 [(.r p14), (.r p16)]))⟩, ⟨(some p6), none, (.e (.mv (.r p17)))⟩]) (.seq (.seq (.reg [⟨(some p18), none, (.e (.mv (.r p1)))⟩, ⟨(some p19), none, (.e (.bin .lss (.r p18) (.c (.int .i64 (.ofNat 0)))))⟩, ⟨(some p20), none, (.e (.mv (.r p19)))⟩, ⟨(some p21), (some (p20, false)), (.e (.mv (.r p1)))⟩, ⟨(some p22), (some (p20, false)), (.e (.bin .gtr (.r p21) (.c (.int .i64 (.ofNat 65536)))))⟩, ⟨(some p23), none, (.e (.pick (.r p20) (.c (.bool true)) (.r p22)))⟩, ⟨(some p24), none, (.e (.mv (.r p23)))⟩, ⟨(some p25), (some (p24, false)), (.e (.mv (.r p6)))⟩, ⟨(some p26), (some (p24, false)), (.e (.bin .gtr (.r p25) (.c (.int .i64 (.ofNat 512)))))⟩, ⟨(some p27), none, (.e (.pick (.r p24) (.c (.bool true)) (.r p26)))⟩]) (.cond (.r p27) (.seq (.reg [⟨(some p4), none, (.e (.mv (.c (.str []))))⟩, ⟨(some p5), none, (.e (.mv (.c (.int .i64 (.ofNat 2)))))⟩]) .ret) .skip)) (.seq (.reg [⟨(some p28), none, (.e (.mv (.r p6)))⟩, ⟨(some p29), none, (.e (.mv (.r p0)))⟩, ⟨(some p30), none, (.e (.lenL (.r p29)))⟩, ⟨(some p31), none, (.e (.bin .mul (.r p28) (.r p30)))⟩, ⟨(some p32), none, (.e (.mks 1 1 (.int .u8 (.ofNat 0)) (.c (.int .i64 (.ofNat 0))) (.r p31)))⟩, ⟨(some p7), none, (.e (.mv (.r p32)))⟩]) (.seq (.seq (.reg [⟨(some p33), none, (.e (.mv (.r p0)))⟩, ⟨(some p34), none, (.e (.lenL (.r p33)))⟩, ⟨(some p35), none, (.e (.mv (.c (.int .i64 (.ofNat 0)))))⟩]) (.block 0 C57_2)) C57_1))))))
theorem I57_1 (E : Env) : Is E C57_1 (retK3 R57) (fun σ h => J57_1 E (σ p1) (σ p7) h) :=
  fun σ h => by kernel_rfl
noncomputable abbrev K57_3 (E : Env) : KT2 (DV × H) := (thenK3 (fun σ h => J57_1 E (σ p1) (σ p7) h) (retK3 R57))
theorem I57_2 (E : Env) : Is E C57_2 (blockK3 0 (K57_3 E)) (fun σ h => L57_2 E (σ p1) (σ p6) (σ p33) (σ p34) FUEL (σ p7) (σ p35) h) :=
  Is.loop (fun n2 σ h => L57_2 E (σ p1) (σ p6) (σ p33) (σ p34) n2 (σ p7) (σ p35) h) (by kernel_rfl) fun n2 => Is.as (Is.leaf _) fun σ h => by kernel_rfl
theorem I57_0 (E : Env) : Is E C57_0 (retK3 R57) (fun σ h => J57_0 E (σ p0) (σ p1) h) :=
  Is.as (Is.seq (Is.seq (Is.seq (Is.seq (Is.seq (Is.seq (I57_1 E) (Is.seq (Is.block (I57_2 E)) (Is.leaf _))) (Is.leaf _)) (Is.leaf _)) (Is.leaf _)) (Is.leaf _)) (Is.leaf _)) fun σ h => by kernel_rfl
def D57 : DF := ⟨2, 51, C57_0, R57⟩
noncomputable def S57 (E : Env) : Fun := fun args h => aS args fun r0 args => aS args fun r1 args => a0 args (J57_0 E r0 r1 h)
theorem S57_eq (E : Env) (args : List DV) (h : H) : runFn E D57 args h = S57 E args h :=
  Is.fn2 (d := D57) (I57_0 E) rfl (fun r0 r1 h => J57_0 E r0 r1 h) (fun r0 r1 h => by kernel_rfl) args h
/- hurdle/parity.wide -/
def R58 : List RV := [(.r p2)]
noncomputable def J58_0 (E : Env) (r0 : DV) (h : H) : Ans :=
  vK (v_geq r0 (.int .i64 (.ofNat 2))) fun x1 =>
  gdK x1 true (fun kk => kk r0 h) h fun x2 h3 =>
  gdK x1 true (fun kk => vK (v_leq x2 (.int .i64 (.ofNat 8))) fun v => kk v h3) h3 fun x4 h5 =>
  vK (v_pick x1 x4 (.bool false)) fun x6 =>
  some (x6, h5)
def C58_0 : DC := (.seq (.reg [⟨(some p2), none, (.e (.mv (.c (.bool false))))⟩]) (.seq (.reg [⟨(some p3), none, (.e (.mv (.r p0)))⟩, ⟨(some p4), none, (.e (.bin .geq (.r p3) (.c (.int .i64 (.ofNat 2)))))⟩, ⟨(some p5), none, (.e (.mv (.r p4)))⟩, ⟨(some p6), (some (p5, true)), (.e (.mv (.r p0)))⟩, ⟨(some p7), (some (p5, true)), (.e (.bin .leq (.r p6) (.c (.int .i64 (.ofNat 8)))))⟩, ⟨(some p8), none, (.e (.pick (.r p5) (.r p7) (.c (.bool false))))⟩, ⟨(some p2), none, (.e (.mv (.r p8)))⟩]) .ret))
theorem I58_0 (E : Env) : Is E C58_0 (retK3 R58) (fun σ h => J58_0 E (σ p0) h) :=
  fun σ h => by kernel_rfl
def D58 : DF := ⟨1, 9, C58_0, R58⟩
noncomputable def S58 (E : Env) : Fun := fun args h => aS args fun r0 args => a0 args (J58_0 E r0 h)
theorem S58_eq (E : Env) (args : List DV) (h : H) : runFn E D58 args h = S58 E args h :=
  Is.fn1 (d := D58) (I58_0 E) rfl (fun r0 h => J58_0 E r0 h) (fun r0 h => by kernel_rfl) args h
/- hurdle/parity.all -/
def R59 : List RV := [(.r p4), (.r p5)]
noncomputable def J59_1 (E : Env) (r6 : DV) (h : H) : Ans :=
  some ((.tup [r6, (.bool true)]), h)
def C59_1 : DC := (.seq (.reg [⟨(some p28), none, (.e (.mv (.r p6)))⟩, ⟨(some p4), none, (.e (.mv (.r p28)))⟩, ⟨(some p5), none, (.e (.mv (.c (.bool true))))⟩]) .ret)
noncomputable def J59_3 (E : Env) (i2 : DV → DV → H → Ans) (r7 r14 : DV) (h : H) : Ans :=
  vK (v_add r14 (.int .i64 (.ofNat 1))) fun x1 =>
  i2 r7 x1 h
def C59_3 : DC := (.reg [⟨(some p27), none, (.e (.bin .add (.r p14) (.c (.int .i64 (.ofNat 1)))))⟩, ⟨(some p14), none, (.e (.mv (.r p27)))⟩])
noncomputable def B59_2 (E : Env) (r1 r6 r12 r13 : DV) (i2 : DV → DV → H → Ans) (r7 r14 : DV) (h : H) : Ans :=
  vK (v_lss r14 r13) fun x1 =>
  bK x1
  (vK (v_iaS 1 r12 r14) fun x2 =>
  vK (v_ld h.get x2) fun x3 =>
  vK (v_eql r14 r1) fun x4 =>
  bK x4
  (J59_3 E i2 r7 r14 h)
  (wK (callK E 95 [r6, x3, r7] h) fun x5 h6 =>
  vK (v_not x5) fun x7 =>
  bK x7
  (some ((.tup [.nilp, (.bool false)]), h6))
  (J59_3 E i2 (.bool false) r14 h6)))
  (J59_1 E r6 h)
noncomputable def L59_2 (E : Env) (r1 r6 r12 r13 : DV) (n : Nat) : DV → DV → H → Ans := Nat.rec (motive := fun _ => DV → DV → H → Ans) (fun _ _ _ => none) (fun _ i => B59_2 E r1 r6 r12 r13 i) n
def C59_2 : DC := (.loop (.seq (.reg [⟨(some p15), none, (.e (.bin .lss (.r p14) (.r p13)))⟩]) (.seq (.cond (.r p15) .skip (.exit 0)) (.seq (.block 1 (.seq (.reg [⟨(some p16), none, (.e (.mv (.r p14)))⟩, ⟨(some p17), none, (.e (.iaS 1 (.r p12) (.r p14)))⟩, ⟨(some p18), none, (.e (.ld (.r p17)))⟩, ⟨(some p8), none, (.e (.mv (.r p16)))⟩, ⟨(some p9), none, (.e (.mv (.r p18)))⟩]) (.seq (.seq (.reg [⟨(some p19), none, (.e (.mv (.r p8)))⟩, ⟨(some p20), none, (.e (.mv (.r p1)))⟩, ⟨(some p21), none, (.e (.bin .eql (.r p19) (.r p20)))⟩]) (.cond (.r p21) (.exit 1) .skip)) (.seq (.seq (.reg [⟨(some p22), none, (.e (.mv (.r p6)))⟩, ⟨(some p23), none, (.e (.mv (.r p9)))⟩, ⟨(some p24), none, (.e (.mv (.r p7)))⟩, ⟨(some p25), none, (.c (.f 95 [(.r p22), (.r p23), (.r p24)]))⟩, ⟨(some p26), none, (.e (.not (.r p25)))⟩]) (.cond (.r p26) (.seq (.reg [⟨(some p4), none, (.e (.mv (.c .nilp)))⟩, ⟨(some p5), none, (.e (.mv (.c (.bool false))))⟩]) .ret) .skip)) (.reg [⟨(some p7), none, (.e (.mv (.c (.bool false))))⟩]))))) C59_3))))
noncomputable def J59_0 (E : Env) (r0 r1 : DV) (h : H) : Ans :=
  vK (v_bld [(.int .u8 (.ofNat 0)), (.int .u8 (.ofNat 0)), (.int .u8 (.ofNat 0)), (.int .u8 (.ofNat 0)), (.int .u8 (.ofNat 0)), (.int .u8 (.ofNat 0)), (.int .u8 (.ofNat 0)), (.int .u8 (.ofNat 0)), (.int .u8 (.ofNat 0)), (.int .u8 (.ofNat 0)), (.int .u8 (.ofNat 0)), (.int .u8 (.ofNat 0)), (.int .u8 (.ofNat 0)), (.int .u8 (.ofNat 0)), (.int .u8 (.ofNat 0)), (.int .u8 (.ofNat 0)), (.int .u8 (.ofNat 0)), (.int .u8 (.ofNat 0)), (.int .u8 (.ofNat 0)), (.int .u8 (.ofNat 0)), (.int .u8 (.ofNat 0)), (.int .u8 (.ofNat 0)), (.int .u8 (.ofNat 0)), (.int .u8 (.ofNat 0)), (.int .u8 (.ofNat 0)), (.int .u8 (.ofNat 0)), (.int .u8 (.ofNat 0)), (.int .u8 (.ofNat 0)), (.int .u8 (.ofNat 0)), (.int .u8 (.ofNat 0)), (.int .u8 (.ofNat 0)), (.int .u8 (.ofNat 0)), (.int .u8 (.ofNat 0)), (.int .u8 (.ofNat 0)), (.int .u8 (.ofNat 0)), (.int .u8 (.ofNat 0)), (.int .u8 (.ofNat 0)), (.int .u8 (.ofNat 0)), (.int .u8 (.ofNat 0)), (.int .u8 (.ofNat 0)), (.int .u8 (.ofNat 0)), (.int .u8 (.ofNat 0)), (.int .u8 (.ofNat 0)), (.int .u8 (.ofNat 0)), (.int .u8 (.ofNat 0)), (.int .u8 (.ofNat 0)), (.int .u8 (.ofNat 0)), (.int .u8 (.ofNat 0)), (.int .u8 (.ofNat 0)), (.int .u8 (.ofNat 0)), (.int .u8 (.ofNat 0)), (.int .u8 (.ofNat 0)), (.int .u8 (.ofNat 0)), (.int .u8 (.ofNat 0)), (.int .u8 (.ofNat 0)), (.int .u8 (.ofNat 0)), (.int .u8 (.ofNat 0)), (.int .u8 (.ofNat 0)), (.int .u8 (.ofNat 0)), (.int .u8 (.ofNat 0)), (.int .u8 (.ofNat 0)), (.int .u8 (.ofNat 0)), (.int .u8 (.ofNat 0)), (.int .u8 (.ofNat 0)), (.int .u8 (.ofNat 0)), (.int .u8 (.ofNat 0)), (.int .u8 (.ofNat 0)), (.int .u8 (.ofNat 0)), (.int .u8 (.ofNat 0)), (.int .u8 (.ofNat 0)), (.int .u8 (.ofNat 0)), (.int .u8 (.ofNat 0)), (.int .u8 (.ofNat 0)), (.int .u8 (.ofNat 0)), (.int .u8 (.ofNat 0)), (.int .u8 (.ofNat 0)), (.int .u8 (.ofNat 0)), (.int .u8 (.ofNat 0)), (.int .u8 (.ofNat 0)), (.int .u8 (.ofNat 0)), (.int .u8 (.ofNat 0)), (.int .u8 (.ofNat 0)), (.int .u8 (.ofNat 0)), (.int .u8 (.ofNat 0)), (.int .u8 (.ofNat 0)), (.int .u8 (.ofNat 0)), (.int .u8 (.ofNat 0)), (.int .u8 (.ofNat 0)), (.int .u8 (.ofNat 0)), (.int .u8 (.ofNat 0)), (.int .u8 (.ofNat 0)), (.int .u8 (.ofNat 0)), (.int .u8 (.ofNat 0)), (.int .u8 (.ofNat 0)), (.int .u8 (.ofNat 0)), (.int .u8 (.ofNat 0)), (.int .u8 (.ofNat 0)), (.int .u8 (.ofNat 0)), (.int .u8 (.ofNat 0)), (.int .u8 (.ofNat 0)), (.int .u8 (.ofNat 0)), (.int .u8 (.ofNat 0)), (.int .u8 (.ofNat 0)), (.int .u8 (.ofNat 0)), (.int .u8 (.ofNat 0)), (.int .u8 (.ofNat 0)), (.int .u8 (.ofNat 0)), (.int .u8 (.ofNat 0)), (.int .u8 (.ofNat 0)), (.int .u8 (.ofNat 0)), (.int .u8 (.ofNat 0)), (.int .u8 (.ofNat 0)), (.int .u8 (.ofNat 0)), (.int .u8 (.ofNat 0)), (.int .u8 (.ofNat 0)), (.int .u8 (.ofNat 0)), (.int .u8 (.ofNat 0)), (.int .u8 (.ofNat 0)), (.int .u8 (.ofNat 0)), (.int .u8 (.ofNat 0)), (.int .u8 (.ofNat 0)), (.int .u8 (.ofNat 0)), (.int .u8 (.ofNat 0)), (.int .u8 (.ofNat 0)), (.int .u8 (.ofNat 0)), (.int .u8 (.ofNat 0)), (.int .u8 (.ofNat 0)), (.int .u8 (.ofNat 0)), (.int .u8 (.ofNat 0)), (.int .u8 (.ofNat 0)), (.int .u8 (.ofNat 0)), (.int .u8 (.ofNat 0)), (.int .u8 (.ofNat 0)), (.int .u8 (.ofNat 0)), (.int .u8 (.ofNat 0)), (.int .u8 (.ofNat 0)), (.int .u8 (.ofNat 0)), (.int .u8 (.ofNat 0)), (.int .u8 (.ofNat 0)), (.int .u8 (.ofNat 0)), (.int .u8 (.ofNat 0)), (.int .u8 (.ofNat 0)), (.int .u8 (.ofNat 0)), (.int .u8 (.ofNat 0)), (.int .u8 (.ofNat 0)), (.int .u8 (.ofNat 0)), (.int .u8 (.ofNat 0)), (.int .u8 (.ofNat 0)), (.int .u8 (.ofNat 0)), (.int .u8 (.ofNat 0)), (.int .u8 (.ofNat 0)), (.int .u8 (.ofNat 0)), (.int .u8 (.ofNat 0)), (.int .u8 (.ofNat 0)), (.int .u8 (.ofNat 0)), (.int .u8 (.ofNat 0)), (.int .u8 (.ofNat 0)), (.int .u8 (.ofNat 0)), (.int .u8 (.ofNat 0)), (.int .u8 (.ofNat 0)), (.int .u8 (.ofNat 0)), (.int .u8 (.ofNat 0)), (.int .u8 (.ofNat 0)), (.int .u8 (.ofNat 0)), (.int .u8 (.ofNat 0)), (.int .u8 (.ofNat 0)), (.int .u8 (.ofNat 0)), (.int .u8 (.ofNat 0)), (.int .u8 (.ofNat 0)), (.int .u8 (.ofNat 0)), (.int .u8 (.ofNat 0)), (.int .u8 (.ofNat 0)), (.int .u8 (.ofNat 0)), (.int .u8 (.ofNat 0)), (.int .u8 (.ofNat 0)), (.int .u8 (.ofNat 0)), (.int .u8 (.ofNat 0)), (.int .u8 (.ofNat 0)), (.int .u8 (.ofNat 0)), (.int .u8 (.ofNat 0)), (.int .u8 (.ofNat 0)), (.int .u8 (.ofNat 0)), (.int .u8 (.ofNat 0)), (.int .u8 (.ofNat 0)), (.int .u8 (.ofNat 0)), (.int .u8 (.ofNat 0)), (.int .u8 (.ofNat 0)), (.int .u8 (.ofNat 0)), (.int .u8 (.ofNat 0)), (.int .u8 (.ofNat 0)), (.int .u8 (.ofNat 0)), (.int .u8 (.ofNat 0)), (.int .u8 (.ofNat 0)), (.int .u8 (.ofNat 0)), (.int .u8 (.ofNat 0)), (.int .u8 (.ofNat 0)), (.int .u8 (.ofNat 0)), (.int .u8 (.ofNat 0)), (.int .u8 (.ofNat 0)), (.int .u8 (.ofNat 0)), (.int .u8 (.ofNat 0)), (.int .u8 (.ofNat 0)), (.int .u8 (.ofNat 0)), (.int .u8 (.ofNat 0)), (.int .u8 (.ofNat 0)), (.int .u8 (.ofNat 0)), (.int .u8 (.ofNat 0)), (.int .u8 (.ofNat 0)), (.int .u8 (.ofNat 0)), (.int .u8 (.ofNat 0)), (.int .u8 (.ofNat 0)), (.int .u8 (.ofNat 0)), (.int .u8 (.ofNat 0)), (.int .u8 (.ofNat 0)), (.int .u8 (.ofNat 0)), (.int .u8 (.ofNat 0)), (.int .u8 (.ofNat 0)), (.int .u8 (.ofNat 0)), (.int .u8 (.ofNat 0)), (.int .u8 (.ofNat 0)), (.int .u8 (.ofNat 0)), (.int .u8 (.ofNat 0)), (.int .u8 (.ofNat 0)), (.int .u8 (.ofNat 0)), (.int .u8 (.ofNat 0)), (.int .u8 (.ofNat 0)), (.int .u8 (.ofNat 0)), (.int .u8 (.ofNat 0)), (.int .u8 (.ofNat 0)), (.int .u8 (.ofNat 0)), (.int .u8 (.ofNat 0)), (.int .u8 (.ofNat 0)), (.int .u8 (.ofNat 0)), (.int .u8 (.ofNat 0)), (.int .u8 (.ofNat 0)), (.int .u8 (.ofNat 0)), (.int .u8 (.ofNat 0)), (.int .u8 (.ofNat 0)), (.int .u8 (.ofNat 0)), (.int .u8 (.ofNat 0)), (.int .u8 (.ofNat 0)), (.int .u8 (.ofNat 0)), (.int .u8 (.ofNat 0)), (.int .u8 (.ofNat 0)), (.int .u8 (.ofNat 0)), (.int .u8 (.ofNat 0)), (.int .u8 (.ofNat 0)), (.int .u8 (.ofNat 0)), (.int .u8 (.ofNat 0)), (.int .u8 (.ofNat 0)), (.int .u8 (.ofNat 0)), (.int .u8 (.ofNat 0)), (.int .u8 (.ofNat 0)), (.int .u8 (.ofNat 0)), (.int .u8 (.ofNat 0)), (.int .u8 (.ofNat 0)), (.int .u8 (.ofNat 0)), (.int .u8 (.ofNat 0)), (.int .u8 (.ofNat 0)), (.int .u8 (.ofNat 0)), (.int .u8 (.ofNat 0)), (.int .u8 (.ofNat 0)), (.int .u8 (.ofNat 0)), (.int .u8 (.ofNat 0)), (.int .u8 (.ofNat 0)), (.int .u8 (.ofNat 0)), (.int .u8 (.ofNat 0)), (.int .u8 (.ofNat 0)), (.int .u8 (.ofNat 0)), (.int .u8 (.ofNat 0)), (.int .u8 (.ofNat 0)), (.int .u8 (.ofNat 0)), (.int .u8 (.ofNat 0)), (.int .u8 (.ofNat 0)), (.int .u8 (.ofNat 0)), (.int .u8 (.ofNat 0)), (.int .u8 (.ofNat 0)), (.int .u8 (.ofNat 0)), (.int .u8 (.ofNat 0)), (.int .u8 (.ofNat 0)), (.int .u8 (.ofNat 0)), (.int .u8 (.ofNat 0)), (.int .u8 (.ofNat 0)), (.int .u8 (.ofNat 0)), (.int .u8 (.ofNat 0)), (.int .u8 (.ofNat 0)), (.int .u8 (.ofNat 0)), (.int .u8 (.ofNat 0)), (.int .u8 (.ofNat 0)), (.int .u8 (.ofNat 0)), (.int .u8 (.ofNat 0)), (.int .u8 (.ofNat 0)), (.int .u8 (.ofNat 0)), (.int .u8 (.ofNat 0)), (.int .u8 (.ofNat 0)), (.int .u8 (.ofNat 0)), (.int .u8 (.ofNat 0)), (.int .u8 (.ofNat 0)), (.int .u8 (.ofNat 0)), (.int .u8 (.ofNat 0)), (.int .u8 (.ofNat 0)), (.int .u8 (.ofNat 0)), (.int .u8 (.ofNat 0)), (.int .u8 (.ofNat 0)), (.int .u8 (.ofNat 0)), (.int .u8 (.ofNat 0)), (.int .u8 (.ofNat 0)), (.int .u8 (.ofNat 0)), (.int .u8 (.ofNat 0)), (.int .u8 (.ofNat 0)), (.int .u8 (.ofNat 0)), (.int .u8 (.ofNat 0)), (.int .u8 (.ofNat 0)), (.int .u8 (.ofNat 0)), (.int .u8 (.ofNat 0)), (.int .u8 (.ofNat 0)), (.int .u8 (.ofNat 0)), (.int .u8 (.ofNat 0)), (.int .u8 (.ofNat 0)), (.int .u8 (.ofNat 0)), (.int .u8 (.ofNat 0)), (.int .u8 (.ofNat 0)), (.int .u8 (.ofNat 0)), (.int .u8 (.ofNat 0)), (.int .u8 (.ofNat 0)), (.int .u8 (.ofNat 0)), (.int .u8 (.ofNat 0)), (.int .u8 (.ofNat 0)), (.int .u8 (.ofNat 0)), (.int .u8 (.ofNat 0)), (.int .u8 (.ofNat 0)), (.int .u8 (.ofNat 0)), (.int .u8 (.ofNat 0)), (.int .u8 (.ofNat 0)), (.int .u8 (.ofNat 0)), (.int .u8 (.ofNat 0)), (.int .u8 (.ofNat 0)), (.int .u8 (.ofNat 0)), (.int .u8 (.ofNat 0)), (.int .u8 (.ofNat 0)), (.int .u8 (.ofNat 0)), (.int .u8 (.ofNat 0)), (.int .u8 (.ofNat 0)), (.int .u8 (.ofNat 0)), (.int .u8 (.ofNat 0)), (.int .u8 (.ofNat 0)), (.int .u8 (.ofNat 0)), (.int .u8 (.ofNat 0)), (.int .u8 (.ofNat 0)), (.int .u8 (.ofNat 0)), (.int .u8 (.ofNat 0)), (.int .u8 (.ofNat 0)), (.int .u8 (.ofNat 0)), (.int .u8 (.ofNat 0)), (.int .u8 (.ofNat 0)), (.int .u8 (.ofNat 0)), (.int .u8 (.ofNat 0)), (.int .u8 (.ofNat 0)), (.int .u8 (.ofNat 0)), (.int .u8 (.ofNat 0)), (.int .u8 (.ofNat 0)), (.int .u8 (.ofNat 0)), (.int .u8 (.ofNat 0)), (.int .u8 (.ofNat 0)), (.int .u8 (.ofNat 0)), (.int .u8 (.ofNat 0)), (.int .u8 (.ofNat 0)), (.int .u8 (.ofNat 0)), (.int .u8 (.ofNat 0)), (.int .u8 (.ofNat 0)), (.int .u8 (.ofNat 0)), (.int .u8 (.ofNat 0)), (.int .u8 (.ofNat 0)), (.int .u8 (.ofNat 0)), (.int .u8 (.ofNat 0)), (.int .u8 (.ofNat 0)), (.int .u8 (.ofNat 0)), (.int .u8 (.ofNat 0)), (.int .u8 (.ofNat 0)), (.int .u8 (.ofNat 0)), (.int .u8 (.ofNat 0)), (.int .u8 (.ofNat 0)), (.int .u8 (.ofNat 0)), (.int .u8 (.ofNat 0)), (.int .u8 (.ofNat 0)), (.int .u8 (.ofNat 0)), (.int .u8 (.ofNat 0)), (.int .u8 (.ofNat 0)), (.int .u8 (.ofNat 0)), (.int .u8 (.ofNat 0)), (.int .u8 (.ofNat 0)), (.int .u8 (.ofNat 0)), (.int .u8 (.ofNat 0)), (.int .u8 (.ofNat 0)), (.int .u8 (.ofNat 0)), (.int .u8 (.ofNat 0)), (.int .u8 (.ofNat 0)), (.int .u8 (.ofNat 0)), (.int .u8 (.ofNat 0)), (.int .u8 (.ofNat 0)), (.int .u8 (.ofNat 0)), (.int .u8 (.ofNat 0)), (.int .u8 (.ofNat 0)), (.int .u8 (.ofNat 0)), (.int .u8 (.ofNat 0)), (.int .u8 (.ofNat 0)), (.int .u8 (.ofNat 0)), (.int .u8 (.ofNat 0)), (.int .u8 (.ofNat 0)), (.int .u8 (.ofNat 0)), (.int .u8 (.ofNat 0)), (.int .u8 (.ofNat 0)), (.int .u8 (.ofNat 0)), (.int .u8 (.ofNat 0)), (.int .u8 (.ofNat 0)), (.int .u8 (.ofNat 0)), (.int .u8 (.ofNat 0)), (.int .u8 (.ofNat 0)), (.int .u8 (.ofNat 0)), (.int .u8 (.ofNat 0)), (.int .u8 (.ofNat 0)), (.int .u8 (.ofNat 0)), (.int .u8 (.ofNat 0)), (.int .u8 (.ofNat 0)), (.int .u8 (.ofNat 0)), (.int .u8 (.ofNat 0)), (.int .u8 (.ofNat 0)), (.int .u8 (.ofNat 0)), (.int .u8 (.ofNat 0)), (.int .u8 (.ofNat 0)), (.int .u8 (.ofNat 0)), (.int .u8 (.ofNat 0)), (.int .u8 (.ofNat 0)), (.int .u8 (.ofNat 0)), (.int .u8 (.ofNat 0)), (.int .u8 (.ofNat 0)), (.int .u8 (.ofNat 0)), (.int .u8 (.ofNat 0)), (.int .u8 (.ofNat 0)), (.int .u8 (.ofNat 0)), (.int .u8 (.ofNat 0)), (.int .u8 (.ofNat 0)), (.int .u8 (.ofNat 0)), (.int .u8 (.ofNat 0)), (.int .u8 (.ofNat 0)), (.int .u8 (.ofNat 0)), (.int .u8 (.ofNat 0)), (.int .u8 (.ofNat 0)), (.int .u8 (.ofNat 0)), (.int .u8 (.ofNat 0)), (.int .u8 (.ofNat 0)), (.int .u8 (.ofNat 0)), (.int .u8 (.ofNat 0)), (.int .u8 (.ofNat 0)), (.int .u8 (.ofNat 0)), (.int .u8 (.ofNat 0)), (.int .u8 (.ofNat 0)), (.int .u8 (.ofNat 0)), (.int .u8 (.ofNat 0)), (.int .u8 (.ofNat 0)), (.int .u8 (.ofNat 0)), (.int .u8 (.ofNat 0)), (.int .u8 (.ofNat 0)), (.int .u8 (.ofNat 0)), (.int .u8 (.ofNat 0)), (.int .u8 (.ofNat 0)), (.int .u8 (.ofNat 0)), (.int .u8 (.ofNat 0)), (.int .u8 (.ofNat 0)), (.int .u8 (.ofNat 0)), (.int .u8 (.ofNat 0)), (.int .u8 (.ofNat 0)), (.int .u8 (.ofNat 0)), (.int .u8 (.ofNat 0)), (.int .u8 (.ofNat 0)), (.int .u8 (.ofNat 0)), (.int .u8 (.ofNat 0)), (.int .u8 (.ofNat 0)), (.int .u8 (.ofNat 0)), (.int .u8 (.ofNat 0)), (.int .u8 (.ofNat 0)), (.int .u8 (.ofNat 0)), (.int .u8 (.ofNat 0)), (.int .u8 (.ofNat 0)), (.int .u8 (.ofNat 0)), (.int .u8 (.ofNat 0)), (.int .u8 (.ofNat 0)), (.int .u8 (.ofNat 0)), (.int .u8 (.ofNat 0)), (.int .u8 (.ofNat 0)), (.int .u8 (.ofNat 0)), (.int .u8 (.ofNat 0)), (.int .u8 (.ofNat 0)), (.int .u8 (.ofNat 0)), (.int .u8 (.ofNat 0)), (.int .u8 (.ofNat 0)), (.int .u8 (.ofNat 0)), (.int .u8 (.ofNat 0)), (.int .u8 (.ofNat 0)), (.int .u8 (.ofNat 0)), (.int .u8 (.ofNat 0)), (.int .u8 (.ofNat 0)), (.int .u8 (.ofNat 0)), (.int .u8 (.ofNat 0)), (.int .u8 (.ofNat 0)), (.int .u8 (.ofNat 0)), (.int .u8 (.ofNat 0)), (.int .u8 (.ofNat 0)), (.int .u8 (.ofNat 0)), (.int .u8 (.ofNat 0)), (.int .u8 (.ofNat 0)), (.int .u8 (.ofNat 0)), (.int .i64 (.ofNat 0))] []) fun x1 =>
  n_box x1 h fun x2 h3 =>
  vK (v_lenL r0) fun x4 =>
  L59_2 E r1 x2 r0 x4 FUEL (.bool true) (.int .i64 (.ofNat 0)) h3
def C59_0 : DC := (.seq (.reg [⟨(some p4), none, (.e (.mv (.c .nilp)))⟩, ⟨(some p5), none, (.e (.mv (.c (.bool false))))⟩]) (.seq (.reg [⟨(some p10), none, (.e (.bld [(.int .u8 (.ofNat 0)), (.int .u8 (.ofNat 0)), (.int .u8 (.ofNat 0)), (.int .u8 (.ofNat 0)), (.int .u8 (.ofNat 0)), (.int .u8 (.ofNat 0)), (.int .u8 (.ofNat 0)), (.int .u8 (.ofNat 0)), (.int .u8 (.ofNat 0)), (.int .u8 (.ofNat 0)), (.int .u8 (.ofNat 0)), (.int .u8 (.ofNat 0)), (.int .u8 (.ofNat 0)), (.int .u8 (.ofNat 0)), (.int .u8 (.ofNat 0)), (.int .u8 (.ofNat 0)), (.int .u8 (.ofNat 0)), (.int .u8 (.ofNat 0)), (.int .u8 (.ofNat 0)), (.int .u8 (.ofNat 0)), (.int .u8 (.ofNat 0)), (.int .u8 (.ofNat 0)), (.int .u8 (.ofNat 0)), (.int .u8 (.ofNat 0)), (.int .u8 (.ofNat 0)), (.int .u8 (.ofNat 0)), (.int .u8 (.ofNat 0)), (.int .u8 (.ofNat 0)), (.int .u8 (.ofNat 0)), (.int .u8 (.ofNat 0)), (.int .u8 (.ofNat 0)), (.int .u8 (.ofNat 0)), (.int .u8 (.ofNat 0)), (.int .u8 (.ofNat 0)), (.int .u8 (.ofNat 0)), (.int .u8 (.ofNat 0)), (.int .u8 (.ofNat 0)), (.int .u8 (.ofNat 0)), (.int .u8 (.ofNat 0)), (.int .u8 (.ofNat 0)), (.int .u8 (.ofNat 0)), (.int .u8 (.ofNat 0)), (.int .u8 (.ofNat 0)), (.int .u8 (.ofNat 0)), (.int .u8 (.ofNat 0)), (.int .u8 (.ofNat 0)), (.int .u8 (.ofNat 0)), (.int .u8 (.ofNat 0)), (.int .u8 (.ofNat 0)), (.int .u8 (.ofNat 0)), (.int .u8 (.ofNat 0)), (.int .u8 (.ofNat 0)), (.int .u8 (.ofNat 0)), (.int .u8 (.ofNat 0)), (.int .u8 (.ofNat 0)), (.int .u8 (.ofNat 0)), (.int .u8 (.ofNat 0)), (.int .u8 (.ofNat 0)), (.int .u8 (.ofNat 0)), (.int .u8 (.ofNat 0)), (.int .u8 (.ofNat 0)), (.int .u8 (.ofNat 0)), (.int .u8 (.ofNat 0)), (.int .u8 (.ofNat 0)), (.int .u8 (.ofNat 0)), (.int .u8 (.ofNat 0)), (.int .u8 (.ofNat 0)), (.int .u8 (.ofNat 0)), (.int .u8 (.ofNat 0)), (.int .u8 (.ofNat 0)), (.int .u8 (.ofNat 0)), (.int .u8 (.ofNat 0)), (.int .u8 (.ofNat 0)), (.int .u8 (.ofNat 0)), (.int .u8 (.ofNat 0)), (.int .u8 (.ofNat 0)), (.int .u8 (.ofNat 0)), (.int .u8 (.ofNat 0)), (.int .u8 (.ofNat 0)), (.int .u8 (.ofNat 0)), (.int .u8 (.ofNat 0)), (.int .u8 (.ofNat 0)), (.int .u8 (.ofNat 0)), (.int .u8 (.ofNat 0)), (.int .u8 (.ofNat 0)), (.int .u8 (.ofNat 0)), (.int .u8 (.ofNat 0)), (.int .u8 (.ofNat 0)), (.int .u8 (.ofNat 0)), (.int .u8 (.ofNat 0)), (.int .u8 (.ofNat 0)), (.int .u8 (.ofNat 0)), (.int .u8 (.ofNat 0)), (.int .u8 (.ofNat 0)), (.int .u8 (.ofNat 0)), (.int .u8 (.ofNat 0)), (.int .u8 (.ofNat 0)), (.int .u8 (.ofNat 0)), (.int .u8 (.ofNat 0)), (.int .u8 (.ofNat 0)), (.int .u8 (.ofNat 0)), (.int .u8 (.ofNat 0)), (.int .u8 (.ofNat 0)), (.int .u8 (.ofNat 0)), (.int .u8 (.ofNat 0)), (.int .u8 (.ofNat 0)), (.int .u8 (.ofNat 0)), (.int .u8 (.ofNat 0)), (.int .u8 (.ofNat 0)), (.int .u8 (.ofNat 0)), (.int .u8 (.ofNat 0)), (.int .u8 (.ofNat 0)), (.int .u8 (.ofNat 0)), (.int .u8 (.ofNat 0)), (.int .u8 (.ofNat 0)), (.int .u8 (.ofNat 0)), (.int .u8 (.ofNat 0)), (.int .u8 (.ofNat 0)), (.int .u8 (.ofNat 0)), (.int .u8 (.ofNat 0)), (.int .u8 (.ofNat 0)), (.int .u8 (.ofNat 0)), (.int .u8 (.ofNat 0)), (.int .u8 (.ofNat 0)), (.int .u8 (.ofNat 0)), (.int .u8 (.ofNat 0)), (.int .u8 (.ofNat 0)), (.int .u8 (.ofNat 0)), (.int .u8 (.ofNat 0)), (.int .u8 (.ofNat 0)), (.int .u8 (.ofNat 0)), (.int .u8 (.ofNat 0)), (.int .u8 (.ofNat 0)), (.int .u8 (.ofNat 0)), (.int .u8 (.ofNat 0)), (.int .u8 (.ofNat 0)), (.int .u8 (.ofNat 0)), (.int .u8 (.ofNat 0)), (.int .u8 (.ofNat 0)), (.int .u8 (.ofNat 0)), (.int .u8 (.ofNat 0)), (.int .u8 (.ofNat 0)), (.int .u8 (.ofNat 0)), (.int .u8 (.ofNat 0)), (.int .u8 (.ofNat 0)), (.int .u8 (.ofNat 0)), (.int .u8 (.ofNat 0)), (.int .u8 (.ofNat 0)), (.int .u8 (.ofNat 0)), (.int .u8 (.ofNat 0)), (.int .u8 (.ofNat 0)), (.int .u8 (.ofNat 0)), (.int .u8 (.ofNat 0)), (.int .u8 (.ofNat 0)), (.int .u8 (.ofNat 0)), (.int .u8 (.ofNat 0)), (.int .u8 (.ofNat 0)), (.int .u8 (.ofNat 0)), (.int .u8 (.ofNat 0)), (.int .u8 (.ofNat 0)), (.int .u8 (.ofNat 0)), (.int .u8 (.ofNat 0)), (.int .u8 (.ofNat 0)), (.int .u8 (.ofNat 0)), (.int .u8 (.ofNat 0)), (.int .u8 (.ofNat 0)), (.int .u8 (.ofNat 0)), (.int .u8 (.ofNat 0)), (.int .u8 (.ofNat 0)), (.int .u8 (.ofNat 0)), (.int .u8 (.ofNat 0)), (.int .u8 (.ofNat 0)), (.int .u8 (.ofNat 0)), (.int .u8 (.ofNat 0)), (.int .u8 (.ofNat 0)), (.int .u8 (.ofNat 0)), (.int .u8 (.ofNat 0)), (.int .u8 (.ofNat 0)), (.int .u8 (.ofNat 0)), (.int .u8 (.ofNat 0)), (.int .u8 (.ofNat 0)), (.int .u8 (.ofNat 0)), (.int .u8 (.ofNat 0)), (.int .u8 (.ofNat 0)), (.int .u8 (.ofNat 0)), (.int .u8 (.ofNat 0)), (.int .u8 (.ofNat 0)), (.int .u8 (.ofNat 0)), (.int .u8 (.ofNat 0)), (.int .u8 (.ofNat 0)), (.int .u8 (.ofNat 0)), (.int .u8 (.ofNat 0)), (.int .u8 (.ofNat 0)), (.int .u8 (.ofNat 0)), (.int .u8 (.ofNat 0)), (.int .u8 (.ofNat 0)), (.int .u8 (.ofNat 0)), (.int .u8 (.ofNat 0)), (.int .u8 (.ofNat 0)), (.int .u8 (.ofNat 0)), (.int .u8 (.ofNat 0)), (.int .u8 (.ofNat 0)), (.int .u8 (.ofNat 0)), (.int .u8 (.ofNat 0)), (.int .u8 (.ofNat 0)), (.int .u8 (.ofNat 0)), (.int .u8 (.ofNat 0)), (.int .u8 (.ofNat 0)), (.int .u8 (.ofNat 0)), (.int .u8 (.ofNat 0)), (.int .u8 (.ofNat 0)), (.int .u8 (.ofNat 0)), (.int .u8 (.ofNat 0)), (.int .u8 (.ofNat 0)), (.int .u8 (.ofNat 0)), (.int .u8 (.ofNat 0)), (.int .u8 (.ofNat 0)), (.int .u8 (.ofNat 0)), (.int .u8 (.ofNat 0)), (.int .u8 (.ofNat 0)), (.int .u8 (.ofNat 0)), (.int .u8 (.ofNat 0)), (.int .u8 (.ofNat 0)), (.int .u8 (.ofNat 0)), (.int .u8 (.ofNat 0)), (.int .u8 (.ofNat 0)), (.int .u8 (.ofNat 0)), (.int .u8 (.ofNat 0)), (.int .u8 (.ofNat 0)), (.int .u8 (.ofNat 0)), (.int .u8 (.ofNat 0)), (.int .u8 (.ofNat 0)), (.int .u8 (.ofNat 0)), (.int .u8 (.ofNat 0)), (.int .u8 (.ofNat 0)), (.int .u8 (.ofNat 0)), (.int .u8 (.ofNat 0)), (.int .u8 (.ofNat 0)), (.int .u8 (.ofNat 0)), (.int .u8 (.ofNat 0)), (.int .u8 (.ofNat 0)), (.int .u8 (.ofNat 0)), (.int .u8 (.ofNat 0)), (.int .u8 (.ofNat 0)), (.int .u8 (.ofNat 0)), (.int .u8 (.ofNat 0)), (.int .u8 (.ofNat 0)), (.int .u8 (.ofNat 0)), (.int .u8 (.ofNat 0)), (.int .u8 (.ofNat 0)), (.int .u8 (.ofNat 0)), (.int .u8 (.ofNat 0)), (.int .u8 (.ofNat 0)), (.int .u8 (.ofNat 0)), (.int .u8 (.ofNat 0)), (.int .u8 (.ofNat 0)), (.int .u8 (.ofNat 0)), (.int .u8 (.ofNat 0)), (.int .u8 (.ofNat 0)), (.int .u8 (.ofNat 0)), (.int .u8 (.ofNat 0)), (.int .u8 (.ofNat 0)), (.int .u8 (.ofNat 0)), (.int .u8 (.ofNat 0)), (.int .u8 (.ofNat 0)), (.int .u8 (.ofNat 0)), (.int .u8 (.ofNat 0)), (.int .u8 (.ofNat 0)), (.int .u8 (.ofNat 0)), (.int .u8 (.ofNat 0)), (.int .u8 (.ofNat 0)), (.int .u8 (.ofNat 0)), (.int .u8 (.ofNat 0)), (.int .u8 (.ofNat 0)), (.int .u8 (.ofNat 0)), (.int .u8 (.ofNat 0)), (.int .u8 (.ofNat 0)), (.int .u8 (.ofNat 0)), (.int .u8 (.ofNat 0)), (.int .u8 (.ofNat 0)), (.int .u8 (.ofNat 0)), (.int .u8 (.ofNat 0)), (.int .u8 (.ofNat 0)), (.int .u8 (.ofNat 0)), (.int .u8 (.ofNat 0)), (.int .u8 (.ofNat 0)), (.int .u8 (.ofNat 0)), (.int .u8 (.ofNat 0)), (.int .u8 (.ofNat 0)), (.int .u8 (.ofNat 0)), (.int .u8 (.ofNat 0)), (.int .u8 (.ofNat 0)), (.int .u8 (.ofNat 0)), (.int .u8 (.ofNat 0)), (.int .u8 (.ofNat 0)), (.int .u8 (.ofNat 0)), (.int .u8 (.ofNat 0)), (.int .u8 (.ofNat 0)), (.int .u8 (.ofNat 0)), (.int .u8 (.ofNat 0)), (.int .u8 (.ofNat 0)), (.int .u8 (.ofNat 0)), (.int .u8 (.ofNat 0)), (.int .u8 (.ofNat 0)), (.int .u8 (.ofNat 0)), (.int .u8 (.ofNat 0)), (.int .u8 (.ofNat 0)), (.int .u8 (.ofNat 0)), (.int .u8 (.ofNat 0)), (.int .u8 (.ofNat 0)), (.int .u8 (.ofNat 0)), (.int .u8 (.ofNat 0)), (.int .u8 (.ofNat 0)), (.int .u8 (.ofNat 0)), (.int .u8 (.ofNat 0)), (.int .u8 (.ofNat 0)), (.int .u8 (.ofNat 0)), (.int .u8 (.ofNat 0)), (.int .u8 (.ofNat 0)), (.int .u8 (.ofNat 0)), (.int .u8 (.ofNat 0)), (.int .u8 (.ofNat 0)), (.int .u8 (.ofNat 0)), (.int .u8 (.ofNat 0)), (.int .u8 (.ofNat 0)), (.int .u8 (.ofNat 0)), (.int .u8 (.ofNat 0)), (.int .u8 (.ofNat 0)), (.int .u8 (.ofNat 0)), (.int .u8 (.ofNat 0)), (.int .u8 (.ofNat 0)), (.int .u8 (.ofNat 0)), (.int .u8 (.ofNat 0)), (.int .u8 (.ofNat 0)), (.int .u8 (.ofNat 0)), (.int .u8 (.ofNat 0)), (.int .u8 (.ofNat 0)), (.int .u8 (.ofNat 0)), (.int .u8 (.ofNat 0)), (.int .u8 (.ofNat 0)), (.int .u8 (.ofNat 0)), (.int .u8 (.ofNat 0)), (.int .u8 (.ofNat 0)), (.int .u8 (.ofNat 0)), (.int .u8 (.ofNat 0)), (.int .u8 (.ofNat 0)), (.int .u8 (.ofNat 0)), (.int .u8 (.ofNat 0)), (.int .u8 (.ofNat 0)), (.int .u8 (.ofNat 0)), (.int .u8 (.ofNat 0)), (.int .u8 (.ofNat 0)), (.int .u8 (.ofNat 0)), (.int .u8 (.ofNat 0)), (.int .u8 (.ofNat 0)), (.int .u8 (.ofNat 0)), (.int .u8 (.ofNat 0)), (.int .u8 (.ofNat 0)), (.int .u8 (.ofNat 0)), (.int .u8 (.ofNat 0)), (.int .u8 (.ofNat 0)), (.int .u8 (.ofNat 0)), (.int .u8 (.ofNat 0)), (.int .u8 (.ofNat 0)), (.int .u8 (.ofNat 0)), (.int .u8 (.ofNat 0)), (.int .u8 (.ofNat 0)), (.int .u8 (.ofNat 0)), (.int .u8 (.ofNat 0)), (.int .u8 (.ofNat 0)), (.int .u8 (.ofNat 0)), (.int .u8 (.ofNat 0)), (.int .u8 (.ofNat 0)), (.int .u8 (.ofNat 0)), (.int .u8 (.ofNat 0)), (.int .u8 (.ofNat 0)), (.int .u8 (.ofNat 0)), (.int .u8 (.ofNat 0)), (.int .u8 (.ofNat 0)), (.int .u8 (.ofNat 0)), (.int .u8 (.ofNat 0)), (.int .u8 (.ofNat 0)), (.int .u8 (.ofNat 0)), (.int .u8 (.ofNat 0)), (.int .u8 (.ofNat 0)), (.int .u8 (.ofNat 0)), (.int .u8 (.ofNat 0)), (.int .u8 (.ofNat 0)), (.int .u8 (.ofNat 0)), (.int .u8 (.ofNat 0)), (.int .u8 (.ofNat 0)), (.int .u8 (.ofNat 0)), (.int .u8 (.ofNat 0)), (.int .u8 (.ofNat 0)), (.int .u8 (.ofNat 0)), (.int .u8 (.ofNat 0)), (.int .u8 (.ofNat 0)), (.int .u8 (.ofNat 0)), (.int .u8 (.ofNat 0)), (.int .u8 (.ofNat 0)), (.int .u8 (.ofNat 0)), (.int .u8 (.ofNat 0)), (.int .u8 (.ofNat 0)), (.int .u8 (.ofNat 0)), (.int .u8 (.ofNat 0)), (.int .u8 (.ofNat 0)), (.int .u8 (.ofNat 0)), (.int .u8 (.ofNat 0)), (.int .u8 (.ofNat 0)), (.int .u8 (.ofNat 0)), (.int .u8 (.ofNat 0)), (.int .u8 (.ofNat 0)), (.int .u8 (.ofNat 0)), (.int .u8 (.ofNat 0)), (.int .u8 (.ofNat 0)), (.int .u8 (.ofNat 0)), (.int .u8 (.ofNat 0)), (.int .u8 (.ofNat 0)), (.int .u8 (.ofNat 0)), (.int .u8 (.ofNat 0)), (.int .u8 (.ofNat 0)), (.int .u8 (.ofNat 0)), (.int .u8 (.ofNat 0)), (.int .u8 (.ofNat 0)), (.int .u8 (.ofNat 0)), (.int .u8 (.ofNat 0)), (.int .u8 (.ofNat 0)), (.int .u8 (.ofNat 0)), (.int .u8 (.ofNat 0)), (.int .u8 (.ofNat 0)), (.int .u8 (.ofNat 0)), (.int .u8 (.ofNat 0)), (.int .u8 (.ofNat 0)), (.int .u8 (.ofNat 0)), (.int .u8 (.ofNat 0)), (.int .u8 (.ofNat 0)), (.int .u8 (.ofNat 0)), (.int .u8 (.ofNat 0)), (.int .u8 (.ofNat 0)), (.int .u8 (.ofNat 0)), (.int .u8 (.ofNat 0)), (.int .u8 (.ofNat 0)), (.int .u8 (.ofNat 0)), (.int .u8 (.ofNat 0)), (.int .u8 (.ofNat 0)), (.int .u8 (.ofNat 0)), (.int .u8 (.ofNat 0)), (.int .u8 (.ofNat 0)), (.int .u8 (.ofNat 0)), (.int .u8 (.ofNat 0)), (.int .u8 (.ofNat 0)), (.int .u8 (.ofNat 0)), (.int .u8 (.ofNat 0)), (.int .u8 (.ofNat 0)), (.int .u8 (.ofNat 0)), (.int .u8 (.ofNat 0)), (.int .u8 (.ofNat 0)), (.int .u8 (.ofNat 0)), (.int .u8 (.ofNat 0)), (.int .u8 (.ofNat 0)), (.int .u8 (.ofNat 0)), (.int .u8 (.ofNat 0)), (.int .u8 (.ofNat 0)), (.int .u8 (.ofNat 0)), (.int .u8 (.ofNat 0)), (.int .u8 (.ofNat 0)), (.int .u8 (.ofNat 0)), (.int .u8 (.ofNat 0)), (.int .u8 (.ofNat 0)), (.int .u8 (.ofNat 0)), (.int .u8 (.ofNat 0)), (.int .u8 (.ofNat 0)), (.int .u8 (.ofNat 0)), (.int .u8 (.ofNat 0)), (.int .u8 (.ofNat 0)), (.int .u8 (.ofNat 0)), (.int .u8 (.ofNat 0)), (.int .u8 (.ofNat 0)), (.int .u8 (.ofNat 0)), (.int .u8 (.ofNat 0)), (.int .u8 (.ofNat 0)), (.int .u8 (.ofNat 0)), (.int .u8 (.ofNat 0)), (.int .u8 (.ofNat 0)), (.int .u8 (.ofNat 0)), (.int .u8 (.ofNat 0)), (.int .u8 (.ofNat 0)), (.int .u8 (.ofNat 0)), (.int .u8 (.ofNat 0)), (.int .u8 (.ofNat 0)), (.int .u8 (.ofNat 0)), (.int .u8 (.ofNat 0)), (.int .u8 (.ofNat 0)), (.int .u8 (.ofNat 0)), (.int .u8 (.ofNat 0)), (.int .u8 (.ofNat 0)), (.int .u8 (.ofNat 0)), (.int .u8 (.ofNat 0)), (.int .u8 (.ofNat 0)), (.int .u8 (.ofNat 0)), (.int .u8 (.ofNat 0)), (.int .u8 (.ofNat 0)), (.int .u8 (.ofNat 0)), (.int .u8 (.ofNat 0)), (.int .u8 (.ofNat 0)), (.int .u8 (.ofNat 0)), (.int .u8 (.ofNat 0)), (.int .u8 (.ofNat 0)), (.int .u8 (.ofNat 0)), (.int .u8 (.ofNat 0)), (.int .u8 (.ofNat 0)), (.int .u8 (.ofNat 0)), (.int .i64 (.ofNat 0))] []))⟩, ⟨(some p11), none, (.e (.box (.r p10)))⟩, ⟨(some p6), none, (.e (.mv (.r p11)))⟩, ⟨(some p7), none, (.e (.mv (.c (.bool true))))⟩]) (.seq (.seq (.reg [⟨(some p12), none, (.e (.mv (.r p0)))⟩, ⟨(some p13), none, (.e (.lenL (.r p12)))⟩, ⟨(some p14), none, (.e (.mv (.c (.int .i64 (.ofNat 0)))))⟩]) (.block 0 C59_2)) C59_1)))
theorem I59_1 (E : Env) : Is E C59_1 (retK3 R59) (fun σ h => J59_1 E (σ p6) h) :=
  fun σ h => by kernel_rfl
noncomputable abbrev K59_4 (E : Env) : KT2 (DV × H) := (thenK3 (fun σ h => J59_1 E (σ p6) h) (retK3 R59))
noncomputable abbrev K59_5 (E : Env) (n2 : Nat) : KT2 (DV × H) := (thenK3 (fun σ h => (L59_2 E (σ p1) (σ p6) (σ p12) (σ p13) n2) (σ p7) (σ p14) h) (blockK3 0 (K59_4 E)))
theorem I59_3 (E : Env) (n2 : Nat) : Is E C59_3 (K59_5 E n2) (fun σ h => J59_3 E (L59_2 E (σ p1) (σ p6) (σ p12) (σ p13) n2) (σ p7) (σ p14) h) :=
  fun σ h => by kernel_rfl
theorem I59_2 (E : Env) : Is E C59_2 (blockK3 0 (K59_4 E)) (fun σ h => L59_2 E (σ p1) (σ p6) (σ p12) (σ p13) FUEL (σ p7) (σ p14) h) :=
  Is.loop (fun n2 σ h => L59_2 E (σ p1) (σ p6) (σ p12) (σ p13) n2 (σ p7) (σ p14) h) (by kernel_rfl) fun n2 => Is.as (Is.seq (Is.seq (Is.seq (I59_3 E n2) (Is.leaf _)) (Is.leaf _)) (Is.leaf _)) fun σ h => by kernel_rfl
theorem I59_0 (E : Env) : Is E C59_0 (retK3 R59) (fun σ h => J59_0 E (σ p0) (σ p1) h) :=
  Is.as (Is.seq (Is.seq (Is.seq (I59_1 E) (Is.seq (Is.block (I59_2 E)) (Is.leaf _))) (Is.leaf _)) (Is.leaf _)) fun σ h => by kernel_rfl
def D59 : DF := ⟨2, 29, C59_0, R59⟩
noncomputable def S59 (E : Env) : Fun := fun args h => aS args fun r0 args => aS args fun r1 args => a0 args (J59_0 E r0 r1 h)
theorem S59_eq (E : Env) (args : List DV) (h : H) : runFn E D59 args h = S59 E args h :=
  Is.fn2 (d := D59) (I59_0 E) rfl (fun r0 r1 h => J59_0 E r0 r1 h) (fun r0 r1 h => by kernel_rfl) args h
/- hurdle/servers.New -/
def R60 : List RV := [(.r p4)]
noncomputable def J60_1 (E : Env) (r5 : DV) (h : H) : Ans :=
  some (r5, h)
def C60_1 : DC := (.seq (.reg [⟨(some p38), none, (.e (.mv (.r p5)))⟩, ⟨(some p4), none, (.e (.mv (.r p38)))⟩]) .ret)
noncomputable def B60_2 (E : Env) (r1 r5 r13 : DV) (i2 : DV → H → Ans) (r14 : DV) (h : H) : Ans :=
  vK (v_lss r14 r13) fun x1 =>
  bK x1
  (vK (v_mx r1 (.int .i64 (.ofNat 9))) fun x2 =>
  wK (callK E 96 [x2] h) fun x3 h4 =>
  wK (callK E 97 [x3] h4) fun x5 h6 =>
  vK (v_ext 0 x5) fun x7 =>
  vK (v_ext 1 x5) fun x8 =>
  vK (v_nilchk r5) fun x9 =>
  vK (v_fa 0 x9) fun x10 =>
  vK (v_ld h6.get x10) fun x11 =>
  vK (v_bld [.nilp, .nilp, (.bool false), (.bool false)] [(0, 1, x3), (1, 1, x7)]) fun x12 =>
  n_box x12 h6 fun x13 h14 =>
  n_bsl 1 1 [.nilp] [(0, 1, x13)] h14 fun x15 h16 =>
  wK (dAppendF 1 8 x11 x15 h16) fun x17 h18 =>
  vK (v_nilchk r5) fun x19 =>
  vK (v_fa 0 x19) fun x20 =>
  wK (dStF 1 x20 x17 h18) fun x21 h22 =>
  vK (v_add r14 (.int .i64 (.ofNat 1))) fun x23 =>
  i2 x23 h22)
  (J60_1 E r5 h)
noncomputable def L60_2 (E : Env) (r1 r5 r13 : DV) (n : Nat) : DV → H → Ans := Nat.rec (motive := fun _ => DV → H → Ans) (fun _ _ => none) (fun _ i => B60_2 E r1 r5 r13 i) n
def C60_2 : DC := (.loop (.seq (.reg [⟨(some p15), none, (.e (.bin .lss (.r p14) (.r p13)))⟩]) (.seq (.cond (.r p15) .skip (.exit 0)) (.seq (.block 1 (.seq (.reg [⟨(some p16), none, (.e (.mv (.r p1)))⟩, ⟨(some p17), none, (.e (.mx (.r p16) (.c (.int .i64 (.ofNat 9)))))⟩, ⟨(some p18), none, (.c (.f 96 [(.r p17)]))⟩, ⟨(some p6), none, (.e (.mv (.r p18)))⟩]) (.seq (.reg [⟨(some p20), none, (.e (.mv (.r p6)))⟩, ⟨(some p21), none, (.c (.f 97 [(.r p20)]))⟩, ⟨(some p19), none, (.e (.mv (.r p21)))⟩, ⟨(some p22), none, (.e (.ext 0 (.r p19)))⟩, ⟨(some p23), none, (.e (.ext 1 (.r p19)))⟩, ⟨(some p7), none, (.e (.mv (.r p22)))⟩, ⟨(some p8), none, (.e (.mv (.r p23)))⟩]) (.reg [⟨(some p24), none, (.e (.mv (.r p5)))⟩, ⟨(some p25), none, (.e (.mv (.r p5)))⟩, ⟨(some p26), none, (.e (.nilchk (.r p25)))⟩, ⟨(some p27), none, (.e (.fa 0 (.r p26)))⟩, ⟨(some p28), none, (.e (.ld (.r p27)))⟩, ⟨(some p29), none, (.e (.mv (.r p6)))⟩, ⟨(some p30), none, (.e (.mv (.r p7)))⟩, ⟨(some p31), none, (.e (.bld [.nilp, .nilp, (.bool false), (.bool false)] [(0, 1, (.r p29)), (1, 1, (.r p30))]))⟩, ⟨(some p32), none, (.e (.box (.r p31)))⟩, ⟨(some p33), none, (.e (.bsl 1 1 [.nilp] [(0, 1, (.r p32))]))⟩, ⟨(some p34), none, (.w (.app 1 8 (.r p28) (.r p33)))⟩, ⟨(some p35), none, (.e (.nilchk (.r p24)))⟩, ⟨(some p36), none, (.e (.fa 0 (.r p35)))⟩, ⟨none, none, (.w (.st 1 (.r p36) (.r p34)))⟩])))) (.reg [⟨(some p37), none, (.e (.bin .add (.r p14) (.c (.int .i64 (.ofNat 1)))))⟩, ⟨(some p14), none, (.e (.mv (.r p37)))⟩])))))
noncomputable def J60_0 (E : Env) (r0 r1 : DV) (h : H) : Ans :=
  vK (v_bld [.nils] []) fun x1 =>
  n_box x1 h fun x2 h3 =>
  vK (v_mx r0 (.int .i64 (.ofNat 1))) fun x4 =>
  vK (v_mn x4 (.int .i64 (.ofNat 8))) fun x5 =>
  L60_2 E r1 x2 x5 FUEL (.int .i64 (.ofNat 0)) h3
def C60_0 : DC := (.seq (.reg [⟨(some p4), none, (.e (.mv (.c .nilp)))⟩]) (.seq (.reg [⟨(some p9), none, (.e (.bld [.nils] []))⟩, ⟨(some p10), none, (.e (.box (.r p9)))⟩, ⟨(some p5), none, (.e (.mv (.r p10)))⟩]) (.seq (.seq (.reg [⟨(some p11), none, (.e (.mv (.r p0)))⟩, ⟨(some p12), none, (.e (.mx (.r p11) (.c (.int .i64 (.ofNat 1)))))⟩, ⟨(some p13), none, (.e (.mn (.r p12) (.c (.int .i64 (.ofNat 8)))))⟩, ⟨(some p14), none, (.e (.mv (.c (.int .i64 (.ofNat 0)))))⟩]) (.block 0 C60_2)) C60_1)))
theorem I60_1 (E : Env) : Is E C60_1 (retK3 R60) (fun σ h => J60_1 E (σ p5) h) :=
  fun σ h => by kernel_rfl
noncomputable abbrev K60_3 (E : Env) : KT2 (DV × H) := (thenK3 (fun σ h => J60_1 E (σ p5) h) (retK3 R60))
theorem I60_2 (E : Env) : Is E C60_2 (blockK3 0 (K60_3 E)) (fun σ h => L60_2 E (σ p1) (σ p5) (σ p13) FUEL (σ p14) h) :=
  Is.loop (fun n2 σ h => L60_2 E (σ p1) (σ p5) (σ p13) n2 (σ p14) h) (by kernel_rfl) fun n2 => Is.as (Is.leaf _) fun σ h => by kernel_rfl
theorem I60_0 (E : Env) : Is E C60_0 (retK3 R60) (fun σ h => J60_0 E (σ p0) (σ p1) h) :=
  Is.as (Is.seq (Is.seq (Is.seq (I60_1 E) (Is.seq (Is.block (I60_2 E)) (Is.leaf _))) (Is.leaf _)) (Is.leaf _)) fun σ h => by kernel_rfl
def D60 : DF := ⟨2, 39, C60_0, R60⟩
noncomputable def S60 (E : Env) : Fun := fun args h => aS args fun r0 args => aS args fun r1 args => a0 args (J60_0 E r0 r1 h)
theorem S60_eq (E : Env) (args : List DV) (h : H) : runFn E D60 args h = S60 E args h :=
  Is.fn2 (d := D60) (I60_0 E) rfl (fun r0 r1 h => J60_0 E r0 r1 h) (fun r0 r1 h => by kernel_rfl) args h
/- hurdle/manager.New -/
def R61 : List RV := [(.r p4)]
noncomputable def J61_0 (E : Env) (r0 r1 : DV) (h : H) : Ans :=
  wK (callK E 98 [r0, r1] h) fun x1 h2 =>
  vK (v_eqv .ptr false h2.get x1 .nilp) fun x3 =>
  bK x3
  (some (.nilp, h2))
  (wK (callK E 99 [] h2) fun x4 h5 =>
  wK (callK E 100 [] h5) fun x6 h7 =>
  wK (callK E 101 [] h7) fun x8 h9 =>
  wK (callK E 102 [] h9) fun x10 h11 =>
  wK (callK E 103 [(.int .i64 (.ofNat 4))] h11) fun x12 h13 =>
  vK (v_bld [.nilp, .nilp, .nilp, .nilp, .nilp, .nilp, (.int .i64 (.ofNat 0))] [(0, 1, x1), (1, 1, x4), (2, 1, x6), (3, 1, x8), (4, 1, x10), (5, 1, x12)]) fun x14 =>
  n_box x14 h13 fun x15 h16 =>
  some (x15, h16))
def C61_0 : DC := (.seq (.reg [⟨(some p4), none, (.e (.mv (.c .nilp)))⟩]) (.seq (.reg [⟨(some p6), none, (.e (.mv (.r p0)))⟩, ⟨(some p7), none, (.e (.mv (.r p1)))⟩, ⟨(some p8), none, (.c (.f 98 [(.r p6), (.r p7)]))⟩, ⟨(some p5), none, (.e (.mv (.r p8)))⟩]) (.seq (.seq (.reg [⟨(some p9), none, (.e (.mv (.r p5)))⟩, ⟨(some p10), none, (.e (.eqv .ptr false (.r p9) (.c .nilp)))⟩]) (.cond (.r p10) (.seq (.reg [⟨(some p4), none, (.e (.mv (.c .nilp)))⟩]) .ret) .skip)) (.seq (.reg [⟨(some p11), none, (.e (.mv (.r p5)))⟩, ⟨(some p12), none, (.c (.f 99 []))⟩, ⟨(some p13), none, (.c (.f 100 []))⟩, ⟨(some p14), none, (.c (.f 101 []))⟩, ⟨(some p15), none, (.c (.f 102 []))⟩, ⟨(some p16), none, (.c (.f 103 [(.c (.int .i64 (.ofNat 4)))]))⟩, ⟨(some p17), none, (.e (.bld [.nilp, .nilp, .nilp, .nilp, .nilp, .nilp, (.int .i64 (.ofNat 0))] [(0, 1, (.r p11)), (1, 1, (.r p12)), (2, 1, (.r p13)), (3, 1, (.r p14)), (4, 1, (.r p15)), (5, 1, (.r p16))]))⟩, ⟨(some p18), none, (.e (.box (.r p17)))⟩, ⟨(some p4), none, (.e (.mv (.r p18)))⟩]) .ret))))
theorem I61_0 (E : Env) : Is E C61_0 (retK3 R61) (fun σ h => J61_0 E (σ p0) (σ p1) h) :=
  fun σ h => by kernel_rfl
def D61 : DF := ⟨2, 19, C61_0, R61⟩
noncomputable def S61 (E : Env) : Fun := fun args h => aS args fun r0 args => aS args fun r1 args => a0 args (J61_0 E r0 r1 h)
theorem S61_eq (E : Env) (args : List DV) (h : H) : runFn E D61 args h = S61 E args h :=
  Is.fn2 (d := D61) (I61_0 E) rfl (fun r0 r1 h => J61_0 E r0 r1 h) (fun r0 r1 h => by kernel_rfl) args h
/- hurdle/array.row -/
def R62 : List RV := [(.r p4)]
noncomputable def J62_1 (E : Env) (r5 : DV) (h : H) : Ans :=
  some (r5, h)
def C62_1 : DC := (.seq (.reg [⟨(some p21), none, (.e (.mv (.r p5)))⟩, ⟨(some p4), none, (.e (.mv (.r p21)))⟩]) .ret)
noncomputable def B62_2 (E : Env) (r0 r5 r10 : DV) (i2 : DV → H → Ans) (r11 : DV) (h : H) : Ans :=
  vK (v_lss r11 r10) fun x1 =>
  bK x1
  (vK (v_add r0 r11) fun x2 =>
  vK (v_iaS 1 r5 r11) fun x3 =>
  wK (dStF 1 x3 x2 h) fun x4 h5 =>
  vK (v_add r11 (.int .i64 (.ofNat 1))) fun x6 =>
  i2 x6 h5)
  (J62_1 E r5 h)
noncomputable def L62_2 (E : Env) (r0 r5 r10 : DV) (n : Nat) : DV → H → Ans := Nat.rec (motive := fun _ => DV → H → Ans) (fun _ _ => none) (fun _ i => B62_2 E r0 r5 r10 i) n
def C62_2 : DC := (.loop (.seq (.reg [⟨(some p12), none, (.e (.bin .lss (.r p11) (.r p10)))⟩]) (.seq (.cond (.r p12) .skip (.exit 0)) (.seq (.block 1 (.seq (.reg [⟨(some p13), none, (.e (.mv (.r p11)))⟩, ⟨(some p6), none, (.e (.mv (.r p13)))⟩]) (.reg [⟨(some p14), none, (.e (.mv (.r p5)))⟩, ⟨(some p15), none, (.e (.mv (.r p6)))⟩, ⟨(some p16), none, (.e (.mv (.r p0)))⟩, ⟨(some p17), none, (.e (.mv (.r p6)))⟩, ⟨(some p18), none, (.e (.bin .add (.r p16) (.r p17)))⟩, ⟨(some p19), none, (.e (.iaS 1 (.r p14) (.r p15)))⟩, ⟨none, none, (.w (.st 1 (.r p19) (.r p18)))⟩]))) (.reg [⟨(some p20), none, (.e (.bin .add (.r p11) (.c (.int .i64 (.ofNat 1)))))⟩, ⟨(some p11), none, (.e (.mv (.r p20)))⟩])))))
noncomputable def J62_0 (E : Env) (r0 r1 : DV) (h : H) : Ans :=
  n_mks 1 8 (.int .i64 (.ofNat 0)) r1 r1 h fun x1 h2 =>
  vK (v_lenL x1) fun x3 =>
  L62_2 E r0 x1 x3 FUEL (.int .i64 (.ofNat 0)) h2
def C62_0 : DC := (.seq (.reg [⟨(some p4), none, (.e (.mv (.c .nils)))⟩]) (.seq (.reg [⟨(some p7), none, (.e (.mv (.r p1)))⟩, ⟨(some p8), none, (.e (.mks 1 8 (.int .i64 (.ofNat 0)) (.r p7) (.r p7)))⟩, ⟨(some p5), none, (.e (.mv (.r p8)))⟩]) (.seq (.seq (.reg [⟨(some p9), none, (.e (.mv (.r p5)))⟩, ⟨(some p10), none, (.e (.lenL (.r p9)))⟩, ⟨(some p11), none, (.e (.mv (.c (.int .i64 (.ofNat 0)))))⟩]) (.block 0 C62_2)) C62_1)))
theorem I62_1 (E : Env) : Is E C62_1 (retK3 R62) (fun σ h => J62_1 E (σ p5) h) :=
  fun σ h => by kernel_rfl
noncomputable abbrev K62_3 (E : Env) : KT2 (DV × H) := (thenK3 (fun σ h => J62_1 E (σ p5) h) (retK3 R62))
theorem I62_2 (E : Env) : Is E C62_2 (blockK3 0 (K62_3 E)) (fun σ h => L62_2 E (σ p0) (σ p5) (σ p10) FUEL (σ p11) h) :=
  Is.loop (fun n2 σ h => L62_2 E (σ p0) (σ p5) (σ p10) n2 (σ p11) h) (by kernel_rfl) fun n2 => Is.as (Is.leaf _) fun σ h => by kernel_rfl
theorem I62_0 (E : Env) : Is E C62_0 (retK3 R62) (fun σ h => J62_0 E (σ p0) (σ p1) h) :=
  Is.as (Is.seq (Is.seq (Is.seq (I62_1 E) (Is.seq (Is.block (I62_2 E)) (Is.leaf _))) (Is.leaf _)) (Is.leaf _)) fun σ h => by kernel_rfl
def D62 : DF := ⟨2, 22, C62_0, R62⟩
noncomputable def S62 (E : Env) : Fun := fun args h => aS args fun r0 args => aS args fun r1 args => a0 args (J62_0 E r0 r1 h)
theorem S62_eq (E : Env) (args : List DV) (h : H) : runFn E D62 args h = S62 E args h :=
  Is.fn2 (d := D62) (I62_0 E) rfl (fun r0 r1 h => J62_0 E r0 r1 h) (fun r0 r1 h => by kernel_rfl) args h
/- (*hurdle/servers.Servers).at -/
def R63 : List RV := [(.r p4)]
noncomputable def J63_0 (E : Env) (r0 r1 : DV) (h : H) : Ans :=
  vK (v_eqv .ptr false h.get r0 .nilp) fun x1 =>
  gdK x1 false (fun kk => kk r1 h) h fun x2 h3 =>
  gdK x1 false (fun kk => vK (v_lss x2 (.int .i64 (.ofNat 0))) fun v => kk v h3) h3 fun x4 h5 =>
  vK (v_pick x1 (.bool true) x4) fun x6 =>
  gdK x6 false (fun kk => kk r1 h5) h5 fun x7 h8 =>
  gdK x6 false (fun kk => kk r0 h8) h8 fun x9 h10 =>
  gdK x6 false (fun kk => vK (v_nilchk x9) fun v => kk v h10) h10 fun x11 h12 =>
  gdK x6 false (fun kk => vK (v_fa 0 x11) fun v => kk v h12) h12 fun x13 h14 =>
  gdK x6 false (fun kk => vK (v_ld h14.get x13) fun v => kk v h14) h14 fun x15 h16 =>
  gdK x6 false (fun kk => vK (v_lenL x15) fun v => kk v h16) h16 fun x17 h18 =>
  gdK x6 false (fun kk => vK (v_geq x7 x17) fun v => kk v h18) h18 fun x19 h20 =>
  vK (v_pick x6 (.bool true) x19) fun x21 =>
  bK x21
  (some (.nilp, h20))
  (vK (v_nilchk r0) fun x22 =>
  vK (v_fa 0 x22) fun x23 =>
  vK (v_ld h20.get x23) fun x24 =>
  vK (v_iaS 1 x24 r1) fun x25 =>
  vK (v_ld h20.get x25) fun x26 =>
  some (x26, h20))
def C63_0 : DC := (.seq (.reg [⟨(some p4), none, (.e (.mv (.c .nilp)))⟩]) (.seq (.seq (.reg [⟨(some p5), none, (.e (.mv (.r p0)))⟩, ⟨(some p6), none, (.e (.eqv .ptr false (.r p5) (.c .nilp)))⟩, ⟨(some p7), none, (.e (.mv (.r p6)))⟩, ⟨(some p8), (some (p7, false)), (.e (.mv (.r p1)))⟩, ⟨(some p9), (some (p7, false)), (.e (.bin .lss (.r p8) (.c (.int .i64 (.ofNat 0)))))⟩, ⟨(some p10), none, (.e (.pick (.r p7) (.c (.bool true)) (.r p9)))⟩, ⟨(some p11), none, (.e (.mv (.r p10)))⟩, ⟨(some p12), (some (p11, false)), (.e (.mv (.r p1)))⟩, ⟨(some p13), (some (p11, false)), (.e (.mv (.r p0)))⟩, ⟨(some p14), (some (p11, false)), (.e (.nilchk (.r p13)))⟩, ⟨(some p15), (some (p11, false)), (.e (.fa 0 (.r p14)))⟩, ⟨(some p16), (some (p11, false)), (.e (.ld (.r p15)))⟩, ⟨(some p17), (some (p11, false)), (.e (.lenL (.r p16)))⟩, ⟨(some p18), (some (p11, false)), (.e (.bin .geq (.r p12) (.r p17)))⟩, ⟨(some p19), none, (.e (.pick (.r p11) (.c (.bool true)) (.r p18)))⟩]) (.cond (.r p19) (.seq (.reg [⟨(some p4), none, (.e (.mv (.c .nilp)))⟩]) .ret) .skip)) (.seq (.reg [⟨(some p20), none, (.e (.mv (.r p0)))⟩, ⟨(some p21), none, (.e (.nilchk (.r p20)))⟩, ⟨(some p22), none, (.e (.fa 0 (.r p21)))⟩, ⟨(some p23), none, (.e (.ld (.r p22)))⟩, ⟨(some p24), none, (.e (.mv (.r p1)))⟩, ⟨(some p25), none, (.e (.iaS 1 (.r p23) (.r p24)))⟩, ⟨(some p26), none, (.e (.ld (.r p25)))⟩, ⟨(some p4), none, (.e (.mv (.r p26)))⟩]) .ret)))
theorem I63_0 (E : Env) : Is E C63_0 (retK3 R63) (fun σ h => J63_0 E (σ p0) (σ p1) h) :=
  fun σ h => by kernel_rfl
def D63 : DF := ⟨2, 27, C63_0, R63⟩
noncomputable def S63 (E : Env) : Fun := fun args h => aS args fun r0 args => aS args fun r1 args => a0 args (J63_0 E r0 r1 h)
theorem S63_eq (E : Env) (args : List DV) (h : H) : runFn E D63 args h = S63 E args h :=
  Is.fn2 (d := D63) (I63_0 E) rfl (fun r0 r1 h => J63_0 E r0 r1 h) (fun r0 r1 h => by kernel_rfl) args h
/- (*hurdle/manager.Manager).Epoch -/
def R64 : List RV := [(.r p2)]
noncomputable def J64_0 (E : Env) (r0 : DV) (h : H) : Ans :=
  vK (v_eqv .ptr false h.get r0 .nilp) fun x1 =>
  bK x1
  (some ((.int .i64 (.ofNat 0)), h))
  (vK (v_nilchk r0) fun x2 =>
  vK (v_fa 0 x2) fun x3 =>
  vK (v_ld h.get x3) fun x4 =>
  wK (callK E 104 [x4] h) fun x5 h6 =>
  some (x5, h6))
def C64_0 : DC := (.seq (.reg [⟨(some p2), none, (.e (.mv (.c (.int .i64 (.ofNat 0)))))⟩]) (.seq (.seq (.reg [⟨(some p3), none, (.e (.mv (.r p0)))⟩, ⟨(some p4), none, (.e (.eqv .ptr false (.r p3) (.c .nilp)))⟩]) (.cond (.r p4) (.seq (.reg [⟨(some p2), none, (.e (.mv (.c (.int .i64 (.ofNat 0)))))⟩]) .ret) .skip)) (.seq (.reg [⟨(some p5), none, (.e (.mv (.r p0)))⟩, ⟨(some p6), none, (.e (.nilchk (.r p5)))⟩, ⟨(some p7), none, (.e (.fa 0 (.r p6)))⟩, ⟨(some p8), none, (.e (.ld (.r p7)))⟩, ⟨(some p9), none, (.c (.f 104 [(.r p8)]))⟩, ⟨(some p2), none, (.e (.mv (.r p9)))⟩]) .ret)))
theorem I64_0 (E : Env) : Is E C64_0 (retK3 R64) (fun σ h => J64_0 E (σ p0) h) :=
  fun σ h => by kernel_rfl
def D64 : DF := ⟨1, 10, C64_0, R64⟩
noncomputable def S64 (E : Env) : Fun := fun args h => aS args fun r0 args => a0 args (J64_0 E r0 h)
theorem S64_eq (E : Env) (args : List DV) (h : H) : runFn E D64 args h = S64 E args h :=
  Is.fn1 (d := D64) (I64_0 E) rfl (fun r0 h => J64_0 E r0 h) (fun r0 h => by kernel_rfl) args h
/- hurdle/layout.Index -/
def R65 : List RV := [(.r p6), (.r p7)]
noncomputable def J65_0 (E : Env) (r0 r1 r2 : DV) (h : H) : Ans :=
  wK (callK E 105 [r0, r1] h) fun x1 h2 =>
  vK (v_ext 0 x1) fun x3 =>
  vK (v_ext 1 x1) fun x4 =>
  vK (v_neq x4 (.int .i64 (.ofNat 0))) fun x5 =>
  bK x5
  (some ((.tup [(.int .i64 (.ofNat 0)), x4]), h2))
  (wK (callK E 106 [x3, r2] h2) fun x6 h7 =>
  vK (v_lss x6 (.int .i64 (.ofNat 0))) fun x8 =>
  bK x8
  (some ((.tup [(.int .i64 (.ofNat 0)), (.int .i64 (.ofNat 7))]), h7))
  (some ((.tup [x6, (.int .i64 (.ofNat 0))]), h7)))
def C65_0 : DC := (.seq (.reg [⟨(some p6), none, (.e (.mv (.c (.int .i64 (.ofNat 0)))))⟩, ⟨(some p7), none, (.e (.mv (.c (.int .i64 (.ofNat 0)))))⟩]) (.seq (.reg [⟨(some p12), none, (.e (.mv (.r p0)))⟩, ⟨(some p13), none, (.e (.mv (.r p1)))⟩, ⟨(some p14), none, (.c (.f 105 [(.r p12), (.r p13)]))⟩, ⟨(some p11), none, (.e (.mv (.r p14)))⟩, ⟨(some p15), none, (.e (.ext 0 (.r p11)))⟩, ⟨(some p16), none, (.e (.ext 1 (.r p11)))⟩, ⟨(some p8), none, (.e (.mv (.r p15)))⟩, ⟨(some p9), none, (.e (.mv (.r p16)))⟩]) (.seq (.seq (.reg [⟨(some p17), none, (.e (.mv (.r p9)))⟩, ⟨(some p18), none, (.e (.bin .neq (.r p17) (.c (.int .i64 (.ofNat 0)))))⟩]) (.cond (.r p18) (.seq (.reg [⟨(some p19), none, (.e (.mv (.r p9)))⟩, ⟨(some p6), none, (.e (.mv (.c (.int .i64 (.ofNat 0)))))⟩, ⟨(some p7), none, (.e (.mv (.r p19)))⟩]) .ret) .skip)) (.seq (.reg [⟨(some p20), none, (.e (.mv (.r p8)))⟩, ⟨(some p21), none, (.e (.mv (.r p2)))⟩, ⟨(some p22), none, (.c (.f 106 [(.r p20), (.r p21)]))⟩, ⟨(some p10), none, (.e (.mv (.r p22)))⟩]) (.seq (.seq (.reg [⟨(some p23), none, (.e (.mv (.r p10)))⟩, ⟨(some p24), none, (.e (.bin .lss (.r p23) (.c (.int .i64 (.ofNat 0)))))⟩]) (.cond (.r p24) (.seq (.reg [⟨(some p6), none, (.e (.mv (.c (.int .i64 (.ofNat 0)))))⟩, ⟨(some p7), none, (.e (.mv (.c (.int .i64 (.ofNat 7)))))⟩]) .ret) .skip)) (.seq (.reg [⟨(some p25), none, (.e (.mv (.r p10)))⟩, ⟨(some p6), none, (.e (.mv (.r p25)))⟩, ⟨(some p7), none, (.e (.mv (.c (.int .i64 (.ofNat 0)))))⟩]) .ret))))))
theorem I65_0 (E : Env) : Is E C65_0 (retK3 R65) (fun σ h => J65_0 E (σ p0) (σ p1) (σ p2) h) :=
  fun σ h => by kernel_rfl
def D65 : DF := ⟨3, 26, C65_0, R65⟩
noncomputable def S65 (E : Env) : Fun := fun args h => aS args fun r0 args => aS args fun r1 args => aS args fun r2 args => a0 args (J65_0 E r0 r1 r2 h)
theorem S65_eq (E : Env) (args : List DV) (h : H) : runFn E D65 args h = S65 E args h :=
  Is.fn3 (d := D65) (I65_0 E) rfl (fun r0 r1 r2 h => J65_0 E r0 r1 r2 h) (fun r0 r1 r2 h => by kernel_rfl) args h
/- slices.Contains[[]int,int] -/
def R66 : List RV := [(.r p4)]
noncomputable def J66_0 (E : Env) (r0 r1 : DV) (h : H) : Ans :=
  wK (callK E 106 [r0, r1] h) fun x1 h2 =>
  vK (v_geq x1 (.int .i64 (.ofNat 0))) fun x3 =>
  some (x3, h2)
def C66_0 : DC := (.seq (.reg [⟨(some p4), none, (.e (.mv (.c (.bool false))))⟩]) (.seq (.reg [⟨(some p5), none, (.e (.mv (.r p0)))⟩, ⟨(some p6), none, (.e (.mv (.r p1)))⟩, ⟨(some p7), none, (.c (.f 106 [(.r p5), (.r p6)]))⟩, ⟨(some p8), none, (.e (.bin .geq (.r p7) (.c (.int .i64 (.ofNat 0)))))⟩, ⟨(some p4), none, (.e (.mv (.r p8)))⟩]) .ret))
theorem I66_0 (E : Env) : Is E C66_0 (retK3 R66) (fun σ h => J66_0 E (σ p0) (σ p1) h) :=
  fun σ h => by kernel_rfl
def D66 : DF := ⟨2, 9, C66_0, R66⟩
noncomputable def S66 (E : Env) : Fun := fun args h => aS args fun r0 args => aS args fun r1 args => a0 args (J66_0 E r0 r1 h)
theorem S66_eq (E : Env) (args : List DV) (h : H) : runFn E D66 args h = S66 E args h :=
  Is.fn2 (d := D66) (I66_0 E) rfl (fun r0 r1 h => J66_0 E r0 r1 h) (fun r0 r1 h => by kernel_rfl) args h
/- (*hurdle/smap.Map).List -/
def R67 : List RV := [(.r p4)]
noncomputable def J67_0 (E : Env) (r0 r1 : DV) (h : H) : Ans :=
  n_box r1 h fun x1 h2 =>
  wK (callK E 107 [r0, (.fn (.func 108) [] [x1])] h2) fun x3 h4 =>
  some (x3, h4)
def C67_0 : DC := (.seq (.reg [⟨(some p3), none, (.e (.box (.r p1)))⟩, ⟨(some p4), none, (.e (.mv (.c .nils)))⟩]) (.seq (.reg [⟨(some p5), none, (.e (.mv (.r p0)))⟩, ⟨(some p6), none, (.e (.mkF (.func 108) [] [(.r p3)]))⟩, ⟨(some p7), none, (.c (.f 107 [(.r p5), (.r p6)]))⟩, ⟨(some p4), none, (.e (.mv (.r p7)))⟩]) .ret))
theorem I67_0 (E : Env) : Is E C67_0 (retK3 R67) (fun σ h => J67_0 E (σ p0) (σ p1) h) :=
  fun σ h => by kernel_rfl
def D67 : DF := ⟨2, 8, C67_0, R67⟩
noncomputable def S67 (E : Env) : Fun := fun args h => aS args fun r0 args => aS args fun r1 args => a0 args (J67_0 E r0 r1 h)
theorem S67_eq (E : Env) (args : List DV) (h : H) : runFn E D67 args h = S67 E args h :=
  Is.fn2 (d := D67) (I67_0 E) rfl (fun r0 r1 h => J67_0 E r0 r1 h) (fun r0 r1 h => by kernel_rfl) args h
/- hurdle/codec.NewWriter -/
def R68 : List RV := [(.r p2)]
noncomputable def J68_0 (E : Env) (r0 : DV) (h : H) : Ans :=
  vK (v_mx r0 (.int .i64 (.ofNat 0))) fun x1 =>
  vK (v_mn x1 (.int .i64 (.ofNat 65536))) fun x2 =>
  vK (v_bld [(.int .i64 (.ofNat 0)), .nils, (.int .i64 (.ofNat 0))] [(0, 1, x2)]) fun x3 =>
  n_box x3 h fun x4 h5 =>
  some (x4, h5)
def C68_0 : DC := (.seq (.reg [⟨(some p2), none, (.e (.mv (.c .nilp)))⟩]) (.seq (.reg [⟨(some p3), none, (.e (.mv (.r p0)))⟩, ⟨(some p4), none, (.e (.mx (.r p3) (.c (.int .i64 (.ofNat 0)))))⟩, ⟨(some p5), none, (.e (.mn (.r p4) (.c (.int .i64 (.ofNat 65536)))))⟩, ⟨(some p6), none, (.e (.bld [(.int .i64 (.ofNat 0)), .nils, (.int .i64 (.ofNat 0))] [(0, 1, (.r p5))]))⟩, ⟨(some p7), none, (.e (.box (.r p6)))⟩, ⟨(some p2), none, (.e (.mv (.r p7)))⟩]) .ret))
theorem I68_0 (E : Env) : Is E C68_0 (retK3 R68) (fun σ h => J68_0 E (σ p0) h) :=
  fun σ h => by kernel_rfl
def D68 : DF := ⟨1, 8, C68_0, R68⟩
noncomputable def S68 (E : Env) : Fun := fun args h => aS args fun r0 args => a0 args (J68_0 E r0 h)
theorem S68_eq (E : Env) (args : List DV) (h : H) : runFn E D68 args h = S68 E args h :=
  Is.fn1 (d := D68) (I68_0 E) rfl (fun r0 h => J68_0 E r0 h) (fun r0 h => by kernel_rfl) args h
/- hurdle/manager.ints -/
def R69 : List RV := [(.r p2)]
noncomputable def J69_0 (E : Env) (r0 : DV) (h : H) : Ans :=
  vK (v_nilchk r0) fun x1 =>
  vK (v_fa 0 x1) fun x2 =>
  vK (v_nilchk r0) fun x3 =>
  vK (v_fa 1 x3) fun x4 =>
  vK (v_nilchk r0) fun x5 =>
  vK (v_fa 2 x5) fun x6 =>
  vK (v_nilchk r0) fun x7 =>
  vK (v_fa 3 x7) fun x8 =>
  vK (v_nilchk r0) fun x9 =>
  vK (v_fa 4 x9) fun x10 =>
  vK (v_nilchk r0) fun x11 =>
  vK (v_fa 5 x11) fun x12 =>
  vK (v_nilchk r0) fun x13 =>
  vK (v_fa 6 x13) fun x14 =>
  vK (v_nilchk r0) fun x15 =>
  vK (v_fa 7 x15) fun x16 =>
  n_bsl 8 1 [.nilp] [(0, 1, x2), (1, 1, x4), (2, 1, x6), (3, 1, x8), (4, 1, x10), (5, 1, x12), (6, 1, x14), (7, 1, x16)] h fun x17 h18 =>
  some (x17, h18)
def C69_0 : DC := (.seq (.reg [⟨(some p2), none, (.e (.mv (.c .nils)))⟩]) (.seq (.drg [⟨0, ⟨(some p3), none, (.e (.mv (.r p0)))⟩, [], false⟩, ⟨1, ⟨(some p4), none, (.e (.nilchk (.r p3)))⟩, [], false⟩, ⟨2, ⟨(some p5), none, (.e (.fa 0 (.r p4)))⟩, [], false⟩, ⟨3, ⟨(some p6), none, (.e (.mv (.r p0)))⟩, [], false⟩, ⟨4, ⟨(some p7), none, (.e (.nilchk (.r p6)))⟩, [], false⟩, ⟨5, ⟨(some p8), none, (.e (.fa 1 (.r p7)))⟩, [], false⟩, ⟨6, ⟨(some p9), none, (.e (.mv (.r p0)))⟩, [], false⟩, ⟨7, ⟨(some p10), none, (.e (.nilchk (.r p9)))⟩, [], false⟩, ⟨8, ⟨(some p11), none, (.e (.fa 2 (.r p10)))⟩, [], false⟩, ⟨9, ⟨(some p12), none, (.e (.mv (.r p0)))⟩, [], false⟩, ⟨10, ⟨(some p13), none, (.e (.nilchk (.r p12)))⟩, [], false⟩, ⟨11, ⟨(some p14), none, (.e (.fa 3 (.r p13)))⟩, [], false⟩, ⟨12, ⟨(some p15), none, (.e (.mv (.r p0)))⟩, [], false⟩, ⟨13, ⟨(some p16), none, (.e (.nilchk (.r p15)))⟩, [], false⟩, ⟨14, ⟨(some p17), none, (.e (.fa 4 (.r p16)))⟩, [], false⟩, ⟨15, ⟨(some p18), none, (.e (.mv (.r p0)))⟩, [], false⟩, ⟨16, ⟨(some p19), none, (.e (.nilchk (.r p18)))⟩, [], false⟩, ⟨17, ⟨(some p20), none, (.e (.fa 5 (.r p19)))⟩, [], false⟩, ⟨18, ⟨(some p21), none, (.e (.mv (.r p0)))⟩, [], false⟩, ⟨19, ⟨(some p22), none, (.e (.nilchk (.r p21)))⟩, [], false⟩, ⟨20, ⟨(some p23), none, (.e (.fa 6 (.r p22)))⟩, [], false⟩, ⟨21, ⟨(some p24), none, (.e (.mv (.r p0)))⟩, [], false⟩, ⟨22, ⟨(some p25), none, (.e (.nilchk (.r p24)))⟩, [], false⟩, ⟨23, ⟨(some p26), none, (.e (.fa 7 (.r p25)))⟩, [], false⟩, ⟨24, ⟨(some p27), none, (.e (.bsl 8 1 [.nilp] [(0, 1, (.r p5)), (1, 1, (.r p8)), (2, 1, (.r p11)), (3, 1, (.r p14)), (4, 1, (.r p17)), (5, 1, (.r p20)), (6, 1, (.r p23)), (7, 1, (.r p26))]))⟩, [], false⟩, ⟨25, ⟨(some p2), none, (.e (.mv (.r p27)))⟩, [], false⟩]) .ret))
theorem I69_0 (E : Env) : Is E C69_0 (retK3 R69) (fun σ h => J69_0 E (σ p0) h) :=
  fun σ h => by kernel_rfl
def D69 : DF := ⟨1, 28, C69_0, R69⟩
noncomputable def S69 (E : Env) : Fun := fun args h => aS args fun r0 args => a0 args (J69_0 E r0 h)
theorem S69_eq (E : Env) (args : List DV) (h : H) : runFn E D69 args h = S69 E args h :=
  Is.fn1 (d := D69) (I69_0 E) rfl (fun r0 h => J69_0 E r0 h) (fun r0 h => by kernel_rfl) args h
/- (*hurdle/codec.Writer).Int -/
def R70 : List RV := []
noncomputable def J70_0 (E : Env) (r0 r1 : DV) (h : H) : Ans :=
  n_box r1 h fun x1 h2 =>
  wK (callK E 109 [r0, (.fn (.func 110) [] [x1])] h2) fun x3 h4 =>
  some ((.tup []), h4)
def C70_0 : DC := (.seq (.reg [⟨(some p3), none, (.e (.box (.r p1)))⟩]) (.reg [⟨(some p4), none, (.e (.mv (.r p0)))⟩, ⟨(some p5), none, (.e (.mkF (.func 110) [] [(.r p3)]))⟩, ⟨(some p6), none, (.c (.f 109 [(.r p4), (.r p5)]))⟩]))
theorem I70_0 (E : Env) : Is E C70_0 (retK3 R70) (fun σ h => J70_0 E (σ p0) (σ p1) h) :=
  fun σ h => by kernel_rfl
def D70 : DF := ⟨2, 7, C70_0, R70⟩
noncomputable def S70 (E : Env) : Fun := fun args h => aS args fun r0 args => aS args fun r1 args => a0 args (J70_0 E r0 r1 h)
theorem S70_eq (E : Env) (args : List DV) (h : H) : runFn E D70 args h = S70 E args h :=
  Is.fn2 (d := D70) (I70_0 E) rfl (fun r0 r1 h => J70_0 E r0 r1 h) (fun r0 r1 h => by kernel_rfl) args h
/- (*hurdle/codec.Writer).Done -/
def R71 : List RV := [(.r p2), (.r p3)]
noncomputable def J71_0 (E : Env) (r0 : DV) (h : H) : Ans :=
  vK (v_eqv .ptr false h.get r0 .nilp) fun x1 =>
  bK x1
  (some ((.tup [(.str []), (.int .i64 (.ofNat 1))]), h))
  (vK (v_nilchk r0) fun x2 =>
  vK (v_fa 2 x2) fun x3 =>
  vK (v_ld h.get x3) fun x4 =>
  vK (v_neq x4 (.int .i64 (.ofNat 0))) fun x5 =>
  bK x5
  (vK (v_nilchk r0) fun x6 =>
  vK (v_fa 2 x6) fun x7 =>
  vK (v_ld h.get x7) fun x8 =>
  some ((.tup [(.str []), x8]), h))
  (vK (v_nilchk r0) fun x9 =>
  vK (v_fa 1 x9) fun x10 =>
  vK (v_ld h.get x10) fun x11 =>
  vK (v_b2s h.get x11) fun x12 =>
  some ((.tup [x12, (.int .i64 (.ofNat 0))]), h)))
def C71_0 : DC := (.seq (.reg [⟨(some p2), none, (.e (.mv (.c (.str []))))⟩, ⟨(some p3), none, (.e (.mv (.c (.int .i64 (.ofNat 0)))))⟩]) (.seq (.block 0 (.seq (.reg [⟨(some p5), none, (.e (.mv (.r p0)))⟩, ⟨(some p6), none, (.e (.eqv .ptr false (.r p5) (.c .nilp)))⟩, ⟨(some p4), none, (.e (.mv (.r p6)))⟩]) (.cond (.r p4) (.seq (.reg [⟨(some p2), none, (.e (.mv (.c (.str []))))⟩, ⟨(some p3), none, (.e (.mv (.c (.int .i64 (.ofNat 1)))))⟩]) .ret) (.seq (.reg [⟨(some p8), none, (.e (.mv (.r p0)))⟩, ⟨(some p9), none, (.e (.nilchk (.r p8)))⟩, ⟨(some p10), none, (.e (.fa 2 (.r p9)))⟩, ⟨(some p11), none, (.e (.ld (.r p10)))⟩, ⟨(some p12), none, (.e (.bin .neq (.r p11) (.c (.int .i64 (.ofNat 0)))))⟩, ⟨(some p7), none, (.e (.mv (.r p12)))⟩]) (.cond (.r p7) (.seq (.drg [⟨0, ⟨(some p13), none, (.e (.mv (.r p0)))⟩, [], false⟩, ⟨1, ⟨(some p14), none, (.e (.nilchk (.r p13)))⟩, [], false⟩, ⟨2, ⟨(some p15), none, (.e (.fa 2 (.r p14)))⟩, [], false⟩, ⟨3, ⟨(some p16), none, (.e (.ld (.r p15)))⟩, [], false⟩, ⟨4, ⟨(some p2), none, (.e (.mv (.c (.str []))))⟩, [], false⟩, ⟨5, ⟨(some p3), none, (.e (.mv (.r p16)))⟩, [], false⟩]) .ret) .skip))))) (.seq (.reg [⟨(some p17), none, (.e (.mv (.r p0)))⟩, ⟨(some p18), none, (.e (.nilchk (.r p17)))⟩, ⟨(some p19), none, (.e (.fa 1 (.r p18)))⟩, ⟨(some p20), none, (.e (.ld (.r p19)))⟩, ⟨(some p21), none, (.e (.b2s (.r p20)))⟩, ⟨(some p2), none, (.e (.mv (.r p21)))⟩, ⟨(some p3), none, (.e (.mv (.c (.int .i64 (.ofNat 0)))))⟩]) .ret)))
theorem I71_0 (E : Env) : Is E C71_0 (retK3 R71) (fun σ h => J71_0 E (σ p0) h) :=
  fun σ h => by kernel_rfl
def D71 : DF := ⟨1, 22, C71_0, R71⟩
noncomputable def S71 (E : Env) : Fun := fun args h => aS args fun r0 args => a0 args (J71_0 E r0 h)
theorem S71_eq (E : Env) (args : List DV) (h : H) : runFn E D71 args h = S71 E args h :=
  Is.fn1 (d := D71) (I71_0 E) rfl (fun r0 h => J71_0 E r0 h) (fun r0 h => by kernel_rfl) args h
/- hurdle/codec.NewReader -/
def R72 : List RV := [(.r p2)]
noncomputable def J72_0 (E : Env) (r0 : DV) (h : H) : Ans :=
  vK (v_bld [(.str []), (.bool false)] [(0, 1, r0)]) fun x1 =>
  n_box x1 h fun x2 h3 =>
  some (x2, h3)
def C72_0 : DC := (.seq (.reg [⟨(some p2), none, (.e (.mv (.c .nilp)))⟩]) (.seq (.reg [⟨(some p3), none, (.e (.mv (.r p0)))⟩, ⟨(some p4), none, (.e (.bld [(.str []), (.bool false)] [(0, 1, (.r p3))]))⟩, ⟨(some p5), none, (.e (.box (.r p4)))⟩, ⟨(some p2), none, (.e (.mv (.r p5)))⟩]) .ret))
theorem I72_0 (E : Env) : Is E C72_0 (retK3 R72) (fun σ h => J72_0 E (σ p0) h) :=
  fun σ h => by kernel_rfl
def D72 : DF := ⟨1, 6, C72_0, R72⟩
noncomputable def S72 (E : Env) : Fun := fun args h => aS args fun r0 args => a0 args (J72_0 E r0 h)
theorem S72_eq (E : Env) (args : List DV) (h : H) : runFn E D72 args h = S72 E args h :=
  Is.fn1 (d := D72) (I72_0 E) rfl (fun r0 h => J72_0 E r0 h) (fun r0 h => by kernel_rfl) args h
/- (*hurdle/codec.Reader).Byte -/
def R73 : List RV := [(.r p2)]
noncomputable def J73_0 (E : Env) (r0 : DV) (h : H) : Ans :=
  wK (callK E 112 [r0, (.int .i64 (.ofNat 1))] h) fun x1 h2 =>
  vK (v_ext 0 x1) fun x3 =>
  vK (v_ext 1 x1) fun x4 =>
  bK x4
  (vK (v_ixS x3 (.int .i64 (.ofNat 0))) fun x5 =>
  vK (v_conv .i64 x5) fun x6 =>
  some (x6, h2))
  (some ((.int .i64 (.ofNat 0)), h2))
def C73_0 : DC := (.seq (.reg [⟨(some p2), none, (.e (.mv (.c (.int .i64 (.ofNat 0)))))⟩]) (.seq (.seq (.reg [⟨(some p6), none, (.e (.mv (.r p0)))⟩, ⟨(some p7), none, (.c (.f 112 [(.r p6), (.c (.int .i64 (.ofNat 1)))]))⟩, ⟨(some p5), none, (.e (.mv (.r p7)))⟩, ⟨(some p8), none, (.e (.ext 0 (.r p5)))⟩, ⟨(some p9), none, (.e (.ext 1 (.r p5)))⟩, ⟨(some p3), none, (.e (.mv (.r p8)))⟩, ⟨(some p4), none, (.e (.mv (.r p9)))⟩]) (.seq (.reg [⟨(some p10), none, (.e (.mv (.r p4)))⟩]) (.cond (.r p10) (.seq (.reg [⟨(some p11), none, (.e (.mv (.r p3)))⟩, ⟨(some p12), none, (.e (.ixS (.r p11) (.c (.int .i64 (.ofNat 0)))))⟩, ⟨(some p13), none, (.e (.conv .i64 (.r p12)))⟩, ⟨(some p2), none, (.e (.mv (.r p13)))⟩]) .ret) .skip))) (.seq (.reg [⟨(some p2), none, (.e (.mv (.c (.int .i64 (.ofNat 0)))))⟩]) .ret)))
theorem I73_0 (E : Env) : Is E C73_0 (retK3 R73) (fun σ h => J73_0 E (σ p0) h) :=
  fun σ h => by kernel_rfl
def D73 : DF := ⟨1, 14, C73_0, R73⟩
noncomputable def S73 (E : Env) : Fun := fun args h => aS args fun r0 args => a0 args (J73_0 E r0 h)
theorem S73_eq (E : Env) (args : List DV) (h : H) : runFn E D73 args h = S73 E args h :=
  Is.fn1 (d := D73) (I73_0 E) rfl (fun r0 h => J73_0 E r0 h) (fun r0 h => by kernel_rfl) args h
/- (*hurdle/codec.Reader).Ints -/
def R74 : List RV := [(.r p2)]
noncomputable def J74_0 (E : Env) (r0 : DV) (h : H) : Ans :=
  wK (callK E 114 [r0, (.fn (.func 113) [r0] [])] h) fun x1 h2 =>
  some (x1, h2)
def C74_0 : DC := (.seq (.reg [⟨(some p2), none, (.e (.mv (.c .nils)))⟩]) (.seq (.reg [⟨(some p4), none, (.e (.mv (.r p0)))⟩, ⟨(some p5), none, (.e (.mkF (.func 113) [(.r p4)] []))⟩, ⟨(some p3), none, (.e (.mv (.r p5)))⟩]) (.seq (.reg [⟨(some p6), none, (.e (.mv (.r p0)))⟩, ⟨(some p7), none, (.e (.mv (.r p3)))⟩, ⟨(some p8), none, (.c (.f 114 [(.r p6), (.r p7)]))⟩, ⟨(some p2), none, (.e (.mv (.r p8)))⟩]) .ret)))
theorem I74_0 (E : Env) : Is E C74_0 (retK3 R74) (fun σ h => J74_0 E (σ p0) h) :=
  fun σ h => by kernel_rfl
def D74 : DF := ⟨1, 9, C74_0, R74⟩
noncomputable def S74 (E : Env) : Fun := fun args h => aS args fun r0 args => a0 args (J74_0 E r0 h)
theorem S74_eq (E : Env) (args : List DV) (h : H) : runFn E D74 args h = S74 E args h :=
  Is.fn1 (d := D74) (I74_0 E) rfl (fun r0 h => J74_0 E r0 h) (fun r0 h => by kernel_rfl) args h
noncomputable def fs0 : List FD := [⟨4, D4, S4⟩, ⟨6, D6, S6⟩, ⟨8, D8, S8⟩, ⟨9, D9, S9⟩, ⟨11, D11, S11⟩, ⟨12, D12, S12⟩, ⟨13, D13, S13⟩, ⟨14, D14, S14⟩, ⟨15, D15, S15⟩, ⟨16, D16, S16⟩, ⟨17, D17, S17⟩, ⟨18, D18, S18⟩, ⟨19, D19, S19⟩, ⟨20, D20, S20⟩, ⟨23, D23, S23⟩, ⟨24, D24, S24⟩, ⟨25, D25, S25⟩, ⟨27, D27, S27⟩, ⟨28, D28, S28⟩, ⟨30, D30, S30⟩, ⟨31, D31, S31⟩, ⟨32, D32, S32⟩, ⟨33, D33, S33⟩, ⟨36, D36, S36⟩, ⟨37, D37, S37⟩, ⟨38, D38, S38⟩, ⟨39, D39, S39⟩, ⟨40, D40, S40⟩, ⟨41, D41, S41⟩, ⟨42, D42, S42⟩, ⟨43, D43, S43⟩, ⟨44, D44, S44⟩, ⟨45, D45, S45⟩, ⟨47, D47, S47⟩, ⟨48, D48, S48⟩, ⟨49, D49, S49⟩, ⟨54, D54, S54⟩, ⟨55, D55, S55⟩, ⟨56, D56, S56⟩, ⟨57, D57, S57⟩, ⟨58, D58, S58⟩, ⟨59, D59, S59⟩, ⟨60, D60, S60⟩, ⟨61, D61, S61⟩, ⟨62, D62, S62⟩, ⟨63, D63, S63⟩, ⟨64, D64, S64⟩, ⟨65, D65, S65⟩, ⟨66, D66, S66⟩, ⟨67, D67, S67⟩, ⟨68, D68, S68⟩, ⟨69, D69, S69⟩, ⟨70, D70, S70⟩, ⟨71, D71, S71⟩, ⟨72, D72, S72⟩, ⟨73, D73, S73⟩, ⟨74, D74, S74⟩]
theorem fs0_eq : AllEq fs0 := ⟨S4_eq, ⟨S6_eq, ⟨S8_eq, ⟨S9_eq, ⟨S11_eq, ⟨S12_eq, ⟨S13_eq, ⟨S14_eq, ⟨S15_eq, ⟨S16_eq, ⟨S17_eq, ⟨S18_eq, ⟨S19_eq, ⟨S20_eq, ⟨S23_eq, ⟨S24_eq, ⟨S25_eq, ⟨S27_eq, ⟨S28_eq, ⟨S30_eq, ⟨S31_eq, ⟨S32_eq, ⟨S33_eq, ⟨S36_eq, ⟨S37_eq, ⟨S38_eq, ⟨S39_eq, ⟨S40_eq, ⟨S41_eq, ⟨S42_eq, ⟨S43_eq, ⟨S44_eq, ⟨S45_eq, ⟨S47_eq, ⟨S48_eq, ⟨S49_eq, ⟨S54_eq, ⟨S55_eq, ⟨S56_eq, ⟨S57_eq, ⟨S58_eq, ⟨S59_eq, ⟨S60_eq, ⟨S61_eq, ⟨S62_eq, ⟨S63_eq, ⟨S64_eq, ⟨S65_eq, ⟨S66_eq, ⟨S67_eq, ⟨S68_eq, ⟨S69_eq, ⟨S70_eq, ⟨S71_eq, ⟨S72_eq, ⟨S73_eq, ⟨S74_eq, trivial⟩⟩⟩⟩⟩⟩⟩⟩⟩⟩⟩⟩⟩⟩⟩⟩⟩⟩⟩⟩⟩⟩⟩⟩⟩⟩⟩⟩⟩⟩⟩⟩⟩⟩⟩⟩⟩⟩⟩⟩⟩⟩⟩⟩⟩⟩⟩⟩⟩⟩⟩⟩⟩⟩⟩⟩⟩
end Go.Proofs.YtjofbahcdfjklaaGreat

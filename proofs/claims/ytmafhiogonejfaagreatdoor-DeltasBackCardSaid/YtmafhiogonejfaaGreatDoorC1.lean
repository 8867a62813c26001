/- More of the program's functions. No condition. -/
import Derived.Test.YtmafhiogonejfaaGreatDoorC0
set_option linter.unusedVariables false
namespace Go.Proofs.YtmafhiogonejfaaGreatDoor
open Go.DI
/- hurdle/deltas.does$2 -/
def R114 : List RV := [(.r p2)]
noncomputable def J114_0 (E : Env) (r0 r1 : DV) (h : H) : Ans :=
  vK (v_ld h.get r0) fun x1 =>
  vK (v_fa 3 r1) fun x2 =>
  vK (v_ld h.get x2) fun x3 =>
  vK (v_fa 2 r1) fun x4 =>
  vK (v_ld h.get x4) fun x5 =>
  wK (callK E 47 [x1, x3, x5] h) fun x6 h7 =>
  some (x6, h7)
def C114_0 : DC := (.seq (.reg [⟨(some p2), none, (.e (.mv (.c (.int .i64 (.ofNat 0)))))⟩]) (.seq (.reg [⟨(some p3), none, (.e (.ld (.r p0)))⟩, ⟨(some p4), none, (.e (.fa 3 (.r p1)))⟩, ⟨(some p5), none, (.e (.ld (.r p4)))⟩, ⟨(some p6), none, (.e (.fa 2 (.r p1)))⟩, ⟨(some p7), none, (.e (.ld (.r p6)))⟩, ⟨(some p8), none, (.c (.f 47 [(.r p3), (.r p5), (.r p7)]))⟩, ⟨(some p2), none, (.e (.mv (.r p8)))⟩]) .ret))
theorem I114_0 (E : Env) : Is E C114_0 (retK3 R114) (fun σ h => J114_0 E (σ p0) (σ p1) h) :=
  fun σ h => by kernel_rfl
def D114 : DF := ⟨2, 9, C114_0, R114⟩
noncomputable def S114 (E : Env) : Fun := fun args h => aS args fun r0 args => aS args fun r1 args => a0 args (J114_0 E r0 r1 h)
theorem S114_eq (E : Env) (args : List DV) (h : H) : runFn E D114 args h = S114 E args h :=
  Is.fn2 (d := D114) (I114_0 E) rfl (fun r0 r1 h => J114_0 E r0 r1 h) (fun r0 r1 h => by kernel_rfl) args h
/- hurdle/deltas.does$3 -/
def R115 : List RV := [(.r p2), (.r p3)]
noncomputable def J115_0 (E : Env) (r0 r1 : DV) (h : H) : Ans :=
  vK (v_ld h.get r0) fun x1 =>
  vK (v_fa 3 r1) fun x2 =>
  vK (v_ld h.get x2) fun x3 =>
  vK (v_fa 1 r1) fun x4 =>
  vK (v_ld h.get x4) fun x5 =>
  vK (v_fa 2 r1) fun x6 =>
  vK (v_ld h.get x6) fun x7 =>
  wK (callK E 33 [x1, x3, x5, x7] h) fun x8 h9 =>
  vK (v_ext 0 x8) fun x10 =>
  vK (v_ext 1 x8) fun x11 =>
  some ((.tup [x11, x10]), h9)
def C115_0 : DC := (.seq (.reg [⟨(some p2), none, (.e (.mv (.c (.int .i64 (.ofNat 0)))))⟩, ⟨(some p3), none, (.e (.mv (.c (.str []))))⟩]) (.seq (.reg [⟨(some p7), none, (.e (.ld (.r p0)))⟩, ⟨(some p8), none, (.e (.fa 3 (.r p1)))⟩, ⟨(some p9), none, (.e (.ld (.r p8)))⟩, ⟨(some p10), none, (.e (.fa 1 (.r p1)))⟩, ⟨(some p11), none, (.e (.ld (.r p10)))⟩, ⟨(some p12), none, (.e (.fa 2 (.r p1)))⟩, ⟨(some p13), none, (.e (.ld (.r p12)))⟩, ⟨(some p14), none, (.c (.f 33 [(.r p7), (.r p9), (.r p11), (.r p13)]))⟩, ⟨(some p6), none, (.e (.mv (.r p14)))⟩, ⟨(some p15), none, (.e (.ext 0 (.r p6)))⟩, ⟨(some p16), none, (.e (.ext 1 (.r p6)))⟩, ⟨(some p4), none, (.e (.mv (.r p15)))⟩, ⟨(some p5), none, (.e (.mv (.r p16)))⟩]) (.seq (.reg [⟨(some p17), none, (.e (.mv (.r p5)))⟩, ⟨(some p18), none, (.e (.mv (.r p4)))⟩, ⟨(some p2), none, (.e (.mv (.r p17)))⟩, ⟨(some p3), none, (.e (.mv (.r p18)))⟩]) .ret)))
theorem I115_0 (E : Env) : Is E C115_0 (retK3 R115) (fun σ h => J115_0 E (σ p0) (σ p1) h) :=
  fun σ h => by kernel_rfl
def D115 : DF := ⟨2, 19, C115_0, R115⟩
noncomputable def S115 (E : Env) : Fun := fun args h => aS args fun r0 args => aS args fun r1 args => a0 args (J115_0 E r0 r1 h)
theorem S115_eq (E : Env) (args : List DV) (h : H) : runFn E D115 args h = S115 E args h :=
  Is.fn2 (d := D115) (I115_0 E) rfl (fun r0 r1 h => J115_0 E r0 r1 h) (fun r0 r1 h => by kernel_rfl) args h
/- hurdle/deltas.does$4 -/
def R116 : List RV := [(.r p2), (.r p3)]
noncomputable def J116_0 (E : Env) (r0 r1 : DV) (h : H) : Ans :=
  vK (v_ld h.get r0) fun x1 =>
  vK (v_fa 3 r1) fun x2 =>
  vK (v_ld h.get x2) fun x3 =>
  wK (callK E 117 [x1, x3] h) fun x4 h5 =>
  vK (v_ext 0 x4) fun x6 =>
  vK (v_ext 1 x4) fun x7 =>
  some ((.tup [x6, x7]), h5)
def C116_0 : DC := (.seq (.reg [⟨(some p2), none, (.e (.mv (.c (.int .i64 (.ofNat 0)))))⟩, ⟨(some p3), none, (.e (.mv (.c (.str []))))⟩]) (.seq (.reg [⟨(some p4), none, (.e (.ld (.r p0)))⟩, ⟨(some p5), none, (.e (.fa 3 (.r p1)))⟩, ⟨(some p6), none, (.e (.ld (.r p5)))⟩, ⟨(some p7), none, (.c (.f 117 [(.r p4), (.r p6)]))⟩, ⟨(some p8), none, (.e (.ext 0 (.r p7)))⟩, ⟨(some p9), none, (.e (.ext 1 (.r p7)))⟩, ⟨(some p2), none, (.e (.mv (.r p8)))⟩, ⟨(some p3), none, (.e (.mv (.r p9)))⟩]) .ret))
theorem I116_0 (E : Env) : Is E C116_0 (retK3 R116) (fun σ h => J116_0 E (σ p0) (σ p1) h) :=
  fun σ h => by kernel_rfl
def D116 : DF := ⟨2, 10, C116_0, R116⟩
noncomputable def S116 (E : Env) : Fun := fun args h => aS args fun r0 args => aS args fun r1 args => a0 args (J116_0 E r0 r1 h)
theorem S116_eq (E : Env) (args : List DV) (h : H) : runFn E D116 args h = S116 E args h :=
  Is.fn2 (d := D116) (I116_0 E) rfl (fun r0 r1 h => J116_0 E r0 r1 h) (fun r0 r1 h => by kernel_rfl) args h
/- hurdle/deltas.stat -/
def R117 : List RV := [(.r p4), (.r p5)]
noncomputable def J117_1 (E : Env) (r8 : DV) (h : H) : Ans :=
  wK (callK E 52 [r8] h) fun x1 h2 =>
  vK (v_ext 0 x1) fun x3 =>
  vK (v_ext 1 x1) fun x4 =>
  some ((.tup [(.int .i64 (.ofNat 0)), x3]), h2)
def C117_1 : DC := (.seq (.reg [⟨(some p44), none, (.e (.mv (.r p8)))⟩, ⟨(some p45), none, (.c (.f 52 [(.r p44)]))⟩, ⟨(some p43), none, (.e (.mv (.r p45)))⟩, ⟨(some p46), none, (.e (.ext 0 (.r p43)))⟩, ⟨(some p47), none, (.e (.ext 1 (.r p43)))⟩, ⟨(some p11), none, (.e (.mv (.r p46)))⟩, ⟨(some p12), none, (.e (.mv (.r p47)))⟩]) (.seq (.reg [⟨(some p48), none, (.e (.mv (.r p11)))⟩, ⟨(some p4), none, (.e (.mv (.c (.int .i64 (.ofNat 0)))))⟩, ⟨(some p5), none, (.e (.mv (.r p48)))⟩]) .ret))
noncomputable def B117_2 (E : Env) (r8 r33 r34 : DV) (i2 : DV → H → Ans) (r35 : DV) (h : H) : Ans :=
  vK (v_lss r35 r34) fun x1 =>
  bK x1
  (vK (v_iaS 1 r33 r35) fun x2 =>
  vK (v_ld h.get x2) fun x3 =>
  wK (callK E 50 [r8, x3] h) fun x4 h5 =>
  vK (v_add r35 (.int .i64 (.ofNat 1))) fun x6 =>
  i2 x6 h5)
  (J117_1 E r8 h)
noncomputable def L117_2 (E : Env) (r8 r33 r34 : DV) (n : Nat) : DV → H → Ans := Nat.rec (motive := fun _ => DV → H → Ans) (fun _ _ => none) (fun _ i => B117_2 E r8 r33 r34 i) n
def C117_2 : DC := (.loop (.seq (.reg [⟨(some p36), none, (.e (.bin .lss (.r p35) (.r p34)))⟩]) (.seq (.cond (.r p36) .skip (.exit 0)) (.seq (.block 1 (.seq (.reg [⟨(some p37), none, (.e (.iaS 1 (.r p33) (.r p35)))⟩, ⟨(some p38), none, (.e (.ld (.r p37)))⟩, ⟨(some p10), none, (.e (.mv (.r p38)))⟩]) (.reg [⟨(some p39), none, (.e (.mv (.r p8)))⟩, ⟨(some p40), none, (.e (.mv (.r p10)))⟩, ⟨(some p41), none, (.c (.f 50 [(.r p39), (.r p40)]))⟩]))) (.reg [⟨(some p42), none, (.e (.bin .add (.r p35) (.c (.int .i64 (.ofNat 1)))))⟩, ⟨(some p35), none, (.e (.mv (.r p42)))⟩])))))
noncomputable def J117_0 (E : Env) (r0 r1 : DV) (h : H) : Ans :=
  wK (callK E 34 [r0, r1] h) fun x1 h2 =>
  vK (v_ext 0 x1) fun x3 =>
  vK (v_ext 1 x1) fun x4 =>
  n_alc 5 5 (.list [(.int .i64 (.ofNat 0)), (.int .i64 (.ofNat 0)), (.int .i64 (.ofNat 0)), (.int .i64 (.ofNat 0)), (.int .i64 (.ofNat 0))]) h2 fun x5 h6 =>
  wK (dStF 5 x5 x3 h6) fun x7 h8 =>
  vK (v_neq x4 (.int .i64 (.ofNat 0))) fun x9 =>
  bK x9
  (some ((.tup [x4, (.str [])]), h8))
  (wK (callK E 48 [(.int .i64 (.ofNat 65536))] h8) fun x10 h11 =>
  vK (v_fa 0 x5) fun x12 =>
  vK (v_ld h11.get x12) fun x13 =>
  vK (v_fa 1 x5) fun x14 =>
  vK (v_ld h11.get x14) fun x15 =>
  vK (v_fa 2 x5) fun x16 =>
  vK (v_ld h11.get x16) fun x17 =>
  vK (v_fa 3 x5) fun x18 =>
  vK (v_ld h11.get x18) fun x19 =>
  vK (v_fa 4 x5) fun x20 =>
  vK (v_ld h11.get x20) fun x21 =>
  n_bsl 5 1 [(.int .i64 (.ofNat 0))] [(0, 1, x13), (1, 1, x15), (2, 1, x17), (3, 1, x19), (4, 1, x21)] h11 fun x22 h23 =>
  vK (v_lenL x22) fun x24 =>
  L117_2 E x10 x22 x24 FUEL (.int .i64 (.ofNat 0)) h23)
def C117_0 : DC := (.seq (.reg [⟨(some p4), none, (.e (.mv (.c (.int .i64 (.ofNat 0)))))⟩, ⟨(some p5), none, (.e (.mv (.c (.str []))))⟩]) (.seq (.reg [⟨(some p14), none, (.e (.mv (.r p0)))⟩, ⟨(some p15), none, (.e (.mv (.r p1)))⟩, ⟨(some p16), none, (.c (.f 34 [(.r p14), (.r p15)]))⟩, ⟨(some p13), none, (.e (.mv (.r p16)))⟩, ⟨(some p17), none, (.e (.ext 0 (.r p13)))⟩, ⟨(some p18), none, (.e (.ext 1 (.r p13)))⟩, ⟨(some p6), none, (.e (.alc 5 5 (.list [(.int .i64 (.ofNat 0)), (.int .i64 (.ofNat 0)), (.int .i64 (.ofNat 0)), (.int .i64 (.ofNat 0)), (.int .i64 (.ofNat 0))])))⟩, ⟨none, none, (.w (.st 5 (.r p6) (.r p17)))⟩, ⟨(some p7), none, (.e (.mv (.r p18)))⟩]) (.seq (.seq (.reg [⟨(some p19), none, (.e (.mv (.r p7)))⟩, ⟨(some p20), none, (.e (.bin .neq (.r p19) (.c (.int .i64 (.ofNat 0)))))⟩]) (.cond (.r p20) (.seq (.reg [⟨(some p21), none, (.e (.mv (.r p7)))⟩, ⟨(some p4), none, (.e (.mv (.r p21)))⟩, ⟨(some p5), none, (.e (.mv (.c (.str []))))⟩]) .ret) .skip)) (.seq (.reg [⟨(some p22), none, (.c (.f 48 [(.c (.int .i64 (.ofNat 65536)))]))⟩, ⟨(some p8), none, (.e (.mv (.r p22)))⟩]) (.seq (.seq (.reg [⟨(some p23), none, (.e (.fa 0 (.r p6)))⟩, ⟨(some p24), none, (.e (.ld (.r p23)))⟩, ⟨(some p25), none, (.e (.fa 1 (.r p6)))⟩, ⟨(some p26), none, (.e (.ld (.r p25)))⟩, ⟨(some p27), none, (.e (.fa 2 (.r p6)))⟩, ⟨(some p28), none, (.e (.ld (.r p27)))⟩, ⟨(some p29), none, (.e (.fa 3 (.r p6)))⟩, ⟨(some p30), none, (.e (.ld (.r p29)))⟩, ⟨(some p31), none, (.e (.fa 4 (.r p6)))⟩, ⟨(some p32), none, (.e (.ld (.r p31)))⟩, ⟨(some p33), none, (.e (.bsl 5 1 [(.int .i64 (.ofNat 0))] [(0, 1, (.r p24)), (1, 1, (.r p26)), (2, 1, (.r p28)), (3, 1, (.r p30)), (4, 1, (.r p32))]))⟩, ⟨(some p34), none, (.e (.lenL (.r p33)))⟩, ⟨(some p35), none, (.e (.mv (.c (.int .i64 (.ofNat 0)))))⟩]) (.block 0 C117_2)) C117_1)))))
theorem I117_1 (E : Env) : Is E C117_1 (retK3 R117) (fun σ h => J117_1 E (σ p8) h) :=
  fun σ h => by kernel_rfl
noncomputable abbrev K117_3 (E : Env) : KT2 (DV × H) := (thenK3 (fun σ h => J117_1 E (σ p8) h) (retK3 R117))
theorem I117_2 (E : Env) : Is E C117_2 (blockK3 0 (K117_3 E)) (fun σ h => L117_2 E (σ p8) (σ p33) (σ p34) FUEL (σ p35) h) :=
  Is.loop (fun n2 σ h => L117_2 E (σ p8) (σ p33) (σ p34) n2 (σ p35) h) (by kernel_rfl) fun n2 => Is.as (Is.leaf _) fun σ h => by kernel_rfl
theorem I117_0 (E : Env) : Is E C117_0 (retK3 R117) (fun σ h => J117_0 E (σ p0) (σ p1) h) :=
  Is.as (Is.seq (Is.seq (Is.seq (Is.seq (Is.seq (I117_1 E) (Is.seq (Is.block (I117_2 E)) (Is.leaf _))) (Is.leaf _)) (Is.leaf _)) (Is.leaf _)) (Is.leaf _)) fun σ h => by kernel_rfl
def D117 : DF := ⟨2, 49, C117_0, R117⟩
noncomputable def S117 (E : Env) : Fun := fun args h => aS args fun r0 args => aS args fun r1 args => a0 args (J117_0 E r0 r1 h)
theorem S117_eq (E : Env) (args : List DV) (h : H) : runFn E D117 args h = S117 E args h :=
  Is.fn2 (d := D117) (I117_0 E) rfl (fun r0 r1 h => J117_0 E r0 r1 h) (fun r0 r1 h => by kernel_rfl) args h
/- hurdle/deltas.does$5 -/
def R118 : List RV := [(.r p2), (.r p3)]
noncomputable def J118_0 (E : Env) (r0 r1 : DV) (h : H) : Ans :=
  vK (v_ld h.get r0) fun x1 =>
  vK (v_fa 3 r1) fun x2 =>
  vK (v_ld h.get x2) fun x3 =>
  wK (callK E 119 [x1, x3] h) fun x4 h5 =>
  vK (v_ext 0 x4) fun x6 =>
  vK (v_ext 1 x4) fun x7 =>
  some ((.tup [x6, x7]), h5)
def C118_0 : DC := (.seq (.reg [⟨(some p2), none, (.e (.mv (.c (.int .i64 (.ofNat 0)))))⟩, ⟨(some p3), none, (.e (.mv (.c (.str []))))⟩]) (.seq (.reg [⟨(some p4), none, (.e (.ld (.r p0)))⟩, ⟨(some p5), none, (.e (.fa 3 (.r p1)))⟩, ⟨(some p6), none, (.e (.ld (.r p5)))⟩, ⟨(some p7), none, (.c (.f 119 [(.r p4), (.r p6)]))⟩, ⟨(some p8), none, (.e (.ext 0 (.r p7)))⟩, ⟨(some p9), none, (.e (.ext 1 (.r p7)))⟩, ⟨(some p2), none, (.e (.mv (.r p8)))⟩, ⟨(some p3), none, (.e (.mv (.r p9)))⟩]) .ret))
theorem I118_0 (E : Env) : Is E C118_0 (retK3 R118) (fun σ h => J118_0 E (σ p0) (σ p1) h) :=
  fun σ h => by kernel_rfl
def D118 : DF := ⟨2, 10, C118_0, R118⟩
noncomputable def S118 (E : Env) : Fun := fun args h => aS args fun r0 args => aS args fun r1 args => a0 args (J118_0 E r0 r1 h)
theorem S118_eq (E : Env) (args : List DV) (h : H) : runFn E D118 args h = S118 E args h :=
  Is.fn2 (d := D118) (I118_0 E) rfl (fun r0 r1 h => J118_0 E r0 r1 h) (fun r0 r1 h => by kernel_rfl) args h
/- hurdle/deltas.list -/
def R119 : List RV := [(.r p4), (.r p5)]
noncomputable def J119_0 (E : Env) (r0 r1 : DV) (h : H) : Ans :=
  wK (callK E 35 [r0, r1] h) fun x1 h2 =>
  vK (v_ext 0 x1) fun x3 =>
  vK (v_ext 1 x1) fun x4 =>
  vK (v_neq x4 (.int .i64 (.ofNat 0))) fun x5 =>
  bK x5
  (some ((.tup [x4, (.str [])]), h2))
  (wK (callK E 48 [(.int .i64 (.ofNat 65536))] h2) fun x6 h7 =>
  wK (callK E 149 [x6, x3] h7) fun x8 h9 =>
  wK (callK E 52 [x6] h9) fun x10 h11 =>
  vK (v_ext 0 x10) fun x12 =>
  vK (v_ext 1 x10) fun x13 =>
  some ((.tup [(.int .i64 (.ofNat 0)), x12]), h11))
def C119_0 : DC := (.seq (.reg [⟨(some p4), none, (.e (.mv (.c (.int .i64 (.ofNat 0)))))⟩, ⟨(some p5), none, (.e (.mv (.c (.str []))))⟩]) (.seq (.reg [⟨(some p12), none, (.e (.mv (.r p0)))⟩, ⟨(some p13), none, (.e (.mv (.r p1)))⟩, ⟨(some p14), none, (.c (.f 35 [(.r p12), (.r p13)]))⟩, ⟨(some p11), none, (.e (.mv (.r p14)))⟩, ⟨(some p15), none, (.e (.ext 0 (.r p11)))⟩, ⟨(some p16), none, (.e (.ext 1 (.r p11)))⟩, ⟨(some p6), none, (.e (.mv (.r p15)))⟩, ⟨(some p7), none, (.e (.mv (.r p16)))⟩]) (.seq (.seq (.reg [⟨(some p17), none, (.e (.mv (.r p7)))⟩, ⟨(some p18), none, (.e (.bin .neq (.r p17) (.c (.int .i64 (.ofNat 0)))))⟩]) (.cond (.r p18) (.seq (.reg [⟨(some p19), none, (.e (.mv (.r p7)))⟩, ⟨(some p4), none, (.e (.mv (.r p19)))⟩, ⟨(some p5), none, (.e (.mv (.c (.str []))))⟩]) .ret) .skip)) (.seq (.reg [⟨(some p20), none, (.c (.f 48 [(.c (.int .i64 (.ofNat 65536)))]))⟩, ⟨(some p8), none, (.e (.mv (.r p20)))⟩]) (.seq (.reg [⟨(some p21), none, (.e (.mv (.r p8)))⟩, ⟨(some p22), none, (.e (.mv (.r p6)))⟩, ⟨(some p23), none, (.c (.f 149 [(.r p21), (.r p22)]))⟩]) (.seq (.reg [⟨(some p25), none, (.e (.mv (.r p8)))⟩, ⟨(some p26), none, (.c (.f 52 [(.r p25)]))⟩, ⟨(some p24), none, (.e (.mv (.r p26)))⟩, ⟨(some p27), none, (.e (.ext 0 (.r p24)))⟩, ⟨(some p28), none, (.e (.ext 1 (.r p24)))⟩, ⟨(some p9), none, (.e (.mv (.r p27)))⟩, ⟨(some p10), none, (.e (.mv (.r p28)))⟩]) (.seq (.reg [⟨(some p29), none, (.e (.mv (.r p9)))⟩, ⟨(some p4), none, (.e (.mv (.c (.int .i64 (.ofNat 0)))))⟩, ⟨(some p5), none, (.e (.mv (.r p29)))⟩]) .ret)))))))
theorem I119_0 (E : Env) : Is E C119_0 (retK3 R119) (fun σ h => J119_0 E (σ p0) (σ p1) h) :=
  fun σ h => by kernel_rfl
def D119 : DF := ⟨2, 30, C119_0, R119⟩
noncomputable def S119 (E : Env) : Fun := fun args h => aS args fun r0 args => aS args fun r1 args => a0 args (J119_0 E r0 r1 h)
theorem S119_eq (E : Env) (args : List DV) (h : H) : runFn E D119 args h = S119 E args h :=
  Is.fn2 (d := D119) (I119_0 E) rfl (fun r0 r1 h => J119_0 E r0 r1 h) (fun r0 r1 h => by kernel_rfl) args h
/- hurdle/paths.Split -/
def R137 : List RV := [(.r p2), (.r p3)]
noncomputable def J137_1 (E : Env) (r4 : DV) (h : H) : Ans :=
  some ((.tup [r4, (.int .i64 (.ofNat 0))]), h)
def C137_1 : DC := (.seq (.reg [⟨(some p47), none, (.e (.mv (.r p4)))⟩, ⟨(some p2), none, (.e (.mv (.r p47)))⟩, ⟨(some p3), none, (.e (.mv (.c (.int .i64 (.ofNat 0)))))⟩]) .ret)
noncomputable def J137_3 (E : Env) (i2 : DV → DV → H → Ans) (r4 r23 : DV) (h : H) : Ans :=
  vK (v_add r23 (.int .i64 (.ofNat 1))) fun x1 =>
  i2 r4 x1 h
def C137_3 : DC := (.reg [⟨(some p46), none, (.e (.bin .add (.r p23) (.c (.int .i64 (.ofNat 1)))))⟩, ⟨(some p23), none, (.e (.mv (.r p46)))⟩])
noncomputable def J137_4 (E : Env) (i2 : DV → DV → H → Ans) (r4 r6 r23 : DV) (h : H) : Ans :=
  wK (callK E 146 [r6] h) fun x1 h2 =>
  vK (v_not x1) fun x3 =>
  bK x3
  (some ((.tup [.nils, (.int .i64 (.ofNat 15))]), h2))
  (n_bsl 1 1 [(.str [])] [(0, 1, r6)] h2 fun x4 h5 =>
  wK (dAppendF 1 16 r4 x4 h5) fun x6 h7 =>
  J137_3 E i2 x6 r23 h7)
def C137_4 : DC := (.seq (.seq (.reg [⟨(some p39), none, (.e (.mv (.r p6)))⟩, ⟨(some p40), none, (.c (.f 146 [(.r p39)]))⟩, ⟨(some p41), none, (.e (.not (.r p40)))⟩]) (.cond (.r p41) (.seq (.reg [⟨(some p2), none, (.e (.mv (.c .nils)))⟩, ⟨(some p3), none, (.e (.mv (.c (.int .i64 (.ofNat 15)))))⟩]) .ret) .skip)) (.reg [⟨(some p42), none, (.e (.mv (.r p4)))⟩, ⟨(some p43), none, (.e (.mv (.r p6)))⟩, ⟨(some p44), none, (.e (.bsl 1 1 [(.str [])] [(0, 1, (.r p43))]))⟩, ⟨(some p45), none, (.w (.app 1 16 (.r p42) (.r p44)))⟩, ⟨(some p4), none, (.e (.mv (.r p45)))⟩]))
noncomputable def J137_5 (E : Env) (i2 : DV → DV → H → Ans) (r4 r6 r23 r27 r28 : DV) (h : H) : Ans :=
  bK r28
  (J137_3 E i2 r4 r23 h)
  (vK (v_eql r27 (.str [46, 46])) fun x1 =>
  bK x1
  (vK (v_lenL r4) fun x2 =>
  vK (v_sub x2 (.int .i64 (.ofNat 1))) fun x3 =>
  vK (v_mx x3 (.int .i64 (.ofNat 0))) fun x4 =>
  vK (v_slL 1 r4 none (some x4)) fun x5 =>
  J137_3 E i2 x5 r23 h)
  (J137_4 E i2 r4 r6 r23 h))
def C137_5 : DC := (.cond (.r p28) (.exit 1) (.seq (.reg [⟨(some p32), none, (.e (.bin .eql (.r p27) (.c (.str [46, 46]))))⟩, ⟨(some p31), none, (.e (.mv (.r p32)))⟩]) (.cond (.r p31) (.seq (.reg [⟨(some p33), none, (.e (.mv (.r p4)))⟩, ⟨(some p34), none, (.e (.mv (.r p4)))⟩, ⟨(some p35), none, (.e (.lenL (.r p34)))⟩, ⟨(some p36), none, (.e (.bin .sub (.r p35) (.c (.int .i64 (.ofNat 1)))))⟩, ⟨(some p37), none, (.e (.mx (.r p36) (.c (.int .i64 (.ofNat 0)))))⟩, ⟨(some p38), none, (.e (.slL 1 (.r p33) none (some (.r p37))))⟩, ⟨(some p4), none, (.e (.mv (.r p38)))⟩]) (.exit 1)) .skip)))
noncomputable def B137_2 (E : Env) (r21 r22 : DV) (i2 : DV → DV → H → Ans) (r4 r23 : DV) (h : H) : Ans :=
  vK (v_lss r23 r22) fun x1 =>
  bK x1
  (vK (v_iaS 1 r21 r23) fun x2 =>
  vK (v_ld h.get x2) fun x3 =>
  vK (v_eql x3 (.str [])) fun x4 =>
  bK x4
  (J137_5 E i2 r4 x3 r23 x3 x4 h)
  (vK (v_eql x3 (.str [46])) fun x5 =>
  J137_5 E i2 r4 x3 r23 x3 x5 h))
  (J137_1 E r4 h)
noncomputable def L137_2 (E : Env) (r21 r22 : DV) (n : Nat) : DV → DV → H → Ans := Nat.rec (motive := fun _ => DV → DV → H → Ans) (fun _ _ _ => none) (fun _ i => B137_2 E r21 r22 i) n
def C137_2 : DC := (.loop (.seq (.reg [⟨(some p24), none, (.e (.bin .lss (.r p23) (.r p22)))⟩]) (.seq (.cond (.r p24) .skip (.exit 0)) (.seq (.block 1 (.seq (.reg [⟨(some p25), none, (.e (.iaS 1 (.r p21) (.r p23)))⟩, ⟨(some p26), none, (.e (.ld (.r p25)))⟩, ⟨(some p6), none, (.e (.mv (.r p26)))⟩]) (.seq (.seq (.reg [⟨(some p27), none, (.e (.mv (.r p6)))⟩]) (.block 2 (.seq (.seq (.reg [⟨(some p29), none, (.e (.bin .eql (.r p27) (.c (.str []))))⟩, ⟨(some p28), none, (.e (.mv (.r p29)))⟩]) (.cond (.r p28) .skip (.reg [⟨(some p30), none, (.e (.bin .eql (.r p27) (.c (.str [46]))))⟩, ⟨(some p28), none, (.e (.mv (.r p30)))⟩]))) C137_5))) C137_4))) C137_3))))
noncomputable def J137_0 (E : Env) (r0 : DV) (h : H) : Ans :=
  vK (v_eql r0 (.str [])) fun x1 =>
  gdK x1 false (fun kk => kk r0 h) h fun x2 h3 =>
  gdK x1 false (fun kk => vK (v_ixS x2 (.int .i64 (.ofNat 0))) fun v => kk v h3) h3 fun x4 h5 =>
  gdK x1 false (fun kk => vK (v_neq x4 (.int .u8 (.ofNat 47))) fun v => kk v h5) h5 fun x6 h7 =>
  vK (v_pick x1 (.bool true) x6) fun x8 =>
  gdK x8 false (fun kk => kk r0 h7) h7 fun x9 h10 =>
  gdK x8 false (fun kk => vK (v_lenS x9) fun v => kk v h10) h10 fun x11 h12 =>
  gdK x8 false (fun kk => vK (v_gtr x11 (.int .i64 (.ofNat 255))) fun v => kk v h12) h12 fun x13 h14 =>
  vK (v_pick x8 (.bool true) x13) fun x15 =>
  bK x15
  (some ((.tup [.nils, (.int .i64 (.ofNat 15))]), h14))
  (vK (v_slS r0 (some (.int .i64 (.ofNat 1))) none) fun x16 =>
  wK (callK E 161 [x16, (.str [47])] h14) fun x17 h18 =>
  vK (v_lenL x17) fun x19 =>
  L137_2 E x17 x19 FUEL .nils (.int .i64 (.ofNat 0)) h18)
def C137_0 : DC := (.seq (.reg [⟨(some p2), none, (.e (.mv (.c .nils)))⟩, ⟨(some p3), none, (.e (.mv (.c (.int .i64 (.ofNat 0)))))⟩]) (.scope (.seq (.seq (.reg [⟨(some p7), none, (.e (.mv (.r p0)))⟩, ⟨(some p8), none, (.e (.bin .eql (.r p7) (.c (.str []))))⟩, ⟨(some p9), none, (.e (.mv (.r p8)))⟩, ⟨(some p10), (some (p9, false)), (.e (.mv (.r p0)))⟩, ⟨(some p11), (some (p9, false)), (.e (.ixS (.r p10) (.c (.int .i64 (.ofNat 0)))))⟩, ⟨(some p12), (some (p9, false)), (.e (.bin .neq (.r p11) (.c (.int .u8 (.ofNat 47)))))⟩, ⟨(some p13), none, (.e (.pick (.r p9) (.c (.bool true)) (.r p12)))⟩, ⟨(some p14), none, (.e (.mv (.r p13)))⟩, ⟨(some p15), (some (p14, false)), (.e (.mv (.r p0)))⟩, ⟨(some p16), (some (p14, false)), (.e (.lenS (.r p15)))⟩, ⟨(some p17), (some (p14, false)), (.e (.bin .gtr (.r p16) (.c (.int .i64 (.ofNat 255)))))⟩, ⟨(some p18), none, (.e (.pick (.r p14) (.c (.bool true)) (.r p17)))⟩]) (.cond (.r p18) (.seq (.reg [⟨(some p2), none, (.e (.mv (.c .nils)))⟩, ⟨(some p3), none, (.e (.mv (.c (.int .i64 (.ofNat 15)))))⟩]) .ret) .skip)) (.seq (.reg [⟨(some p4), none, (.e (.mv (.c .nils)))⟩]) (.seq .skip (.seq (.seq (.reg [⟨(some p19), none, (.e (.mv (.r p0)))⟩, ⟨(some p20), none, (.e (.slS (.r p19) (some (.c (.int .i64 (.ofNat 1)))) none))⟩, ⟨(some p21), none, (.c (.f 161 [(.r p20), (.c (.str [47]))]))⟩, ⟨(some p22), none, (.e (.lenL (.r p21)))⟩, ⟨(some p23), none, (.e (.mv (.c (.int .i64 (.ofNat 0)))))⟩]) (.block 0 C137_2)) C137_1))))))
theorem I137_1 (E : Env) : Is E C137_1 (scopeK3 (retK3 R137)) (fun σ h => J137_1 E (σ p4) h) :=
  fun σ h => by kernel_rfl
noncomputable abbrev K137_6 (E : Env) : KT2 (DV × H) := (thenK3 (fun σ h => J137_1 E (σ p4) h) (scopeK3 (retK3 R137)))
noncomputable abbrev K137_7 (E : Env) (n2 : Nat) : KT2 (DV × H) := (thenK3 (fun σ h => (L137_2 E (σ p21) (σ p22) n2) (σ p4) (σ p23) h) (blockK3 0 (K137_6 E)))
theorem I137_3 (E : Env) (n2 : Nat) : Is E C137_3 (K137_7 E n2) (fun σ h => J137_3 E (L137_2 E (σ p21) (σ p22) n2) (σ p4) (σ p23) h) :=
  fun σ h => by kernel_rfl
noncomputable abbrev K137_8 (E : Env) (n2 : Nat) : KT2 (DV × H) := (thenK3 (fun σ h => J137_3 E (L137_2 E (σ p21) (σ p22) n2) (σ p4) (σ p23) h) (K137_7 E n2))
theorem I137_4 (E : Env) (n2 : Nat) : Is E C137_4 (blockK3 1 (K137_8 E n2)) (fun σ h => J137_4 E (L137_2 E (σ p21) (σ p22) n2) (σ p4) (σ p6) (σ p23) h) :=
  fun σ h => by kernel_rfl
noncomputable abbrev K137_9 (E : Env) (n2 : Nat) : KT2 (DV × H) := (thenK3 (fun σ h => J137_4 E (L137_2 E (σ p21) (σ p22) n2) (σ p4) (σ p6) (σ p23) h) (blockK3 1 (K137_8 E n2)))
theorem I137_5 (E : Env) (n2 : Nat) : Is E C137_5 (blockK3 2 (K137_9 E n2)) (fun σ h => J137_5 E (L137_2 E (σ p21) (σ p22) n2) (σ p4) (σ p6) (σ p23) (σ p27) (σ p28) h) :=
  fun σ h => by kernel_rfl
theorem I137_2 (E : Env) : Is E C137_2 (blockK3 0 (K137_6 E)) (fun σ h => L137_2 E (σ p21) (σ p22) FUEL (σ p4) (σ p23) h) :=
  Is.loop (fun n2 σ h => L137_2 E (σ p21) (σ p22) n2 (σ p4) (σ p23) h) (by kernel_rfl) fun n2 => Is.as (Is.seq (Is.seq (Is.seq (I137_3 E n2) (Is.block (Is.seq (Is.seq (I137_4 E n2) (Is.seq (Is.block (Is.seq (I137_5 E n2) (Is.leaf _))) (Is.leaf _))) (Is.leaf _)))) (Is.leaf _)) (Is.leaf _)) fun σ h => by kernel_rfl
theorem I137_0 (E : Env) : Is E C137_0 (retK3 R137) (fun σ h => J137_0 E (σ p0) h) :=
  Is.as (Is.seq (Is.scope (Is.seq (Is.seq (Is.seq (Is.seq (I137_1 E) (Is.seq (Is.block (I137_2 E)) (Is.leaf _))) (Is.leaf _)) (Is.leaf _)) (Is.leaf _))) (Is.leaf _)) fun σ h => by kernel_rfl
def D137 : DF := ⟨1, 48, C137_0, R137⟩
noncomputable def S137 (E : Env) : Fun := fun args h => aS args fun r0 args => a0 args (J137_0 E r0 h)
theorem S137_eq (E : Env) (args : List DV) (h : H) : runFn E D137 args h = S137 E args h :=
  Is.fn1 (d := D137) (I137_0 E) rfl (fun r0 h => J137_0 E r0 h) (fun r0 h => by kernel_rfl) args h
/- (*hurdle/tree.Tree).walk -/
def R138 : List RV := [(.r p4), (.r p5)]
noncomputable def J138_1 (E : Env) (r6 : DV) (h : H) : Ans :=
  some ((.tup [r6, (.int .i64 (.ofNat 0))]), h)
def C138_1 : DC := (.seq (.reg [⟨(some p34), none, (.e (.mv (.r p6)))⟩, ⟨(some p4), none, (.e (.mv (.r p34)))⟩, ⟨(some p5), none, (.e (.mv (.c (.int .i64 (.ofNat 0)))))⟩]) .ret)
noncomputable def B138_2 (E : Env) (r0 r12 r13 : DV) (i2 : DV → DV → H → Ans) (r6 r14 : DV) (h : H) : Ans :=
  vK (v_lss r14 r13) fun x1 =>
  bK x1
  (vK (v_iaS 1 r12 r14) fun x2 =>
  vK (v_ld h.get x2) fun x3 =>
  wK (callK E 87 [r0, r6] h) fun x4 h5 =>
  vK (v_eqv .ptr false h5.get x4 .nilp) fun x6 =>
  bK x6
  (some ((.tup [(.int .i64 (.ofNat 0)), (.int .i64 (.ofNat 13))]), h5))
  (wK (callK E 145 [x4, x3] h5) fun x7 h8 =>
  vK (v_ext 0 x7) fun x9 =>
  vK (v_ext 1 x7) fun x10 =>
  vK (v_neq x10 (.int .i64 (.ofNat 0))) fun x11 =>
  bK x11
  (some ((.tup [(.int .i64 (.ofNat 0)), x10]), h8))
  (vK (v_add r14 (.int .i64 (.ofNat 1))) fun x12 =>
  i2 x9 x12 h8)))
  (J138_1 E r6 h)
noncomputable def L138_2 (E : Env) (r0 r12 r13 : DV) (n : Nat) : DV → DV → H → Ans := Nat.rec (motive := fun _ => DV → DV → H → Ans) (fun _ _ _ => none) (fun _ i => B138_2 E r0 r12 r13 i) n
def C138_2 : DC := (.loop (.seq (.reg [⟨(some p15), none, (.e (.bin .lss (.r p14) (.r p13)))⟩]) (.seq (.cond (.r p15) .skip (.exit 0)) (.seq (.block 1 (.seq (.reg [⟨(some p16), none, (.e (.iaS 1 (.r p12) (.r p14)))⟩, ⟨(some p17), none, (.e (.ld (.r p16)))⟩, ⟨(some p8), none, (.e (.mv (.r p17)))⟩]) (.seq (.reg [⟨(some p18), none, (.e (.mv (.r p0)))⟩, ⟨(some p19), none, (.e (.mv (.r p6)))⟩, ⟨(some p20), none, (.c (.f 87 [(.r p18), (.r p19)]))⟩, ⟨(some p9), none, (.e (.mv (.r p20)))⟩]) (.seq (.seq (.reg [⟨(some p21), none, (.e (.mv (.r p9)))⟩, ⟨(some p22), none, (.e (.eqv .ptr false (.r p21) (.c .nilp)))⟩]) (.cond (.r p22) (.seq (.reg [⟨(some p4), none, (.e (.mv (.c (.int .i64 (.ofNat 0)))))⟩, ⟨(some p5), none, (.e (.mv (.c (.int .i64 (.ofNat 13)))))⟩]) .ret) .skip)) (.seq (.reg [⟨(some p24), none, (.e (.mv (.r p9)))⟩, ⟨(some p25), none, (.e (.mv (.r p8)))⟩, ⟨(some p26), none, (.c (.f 145 [(.r p24), (.r p25)]))⟩, ⟨(some p23), none, (.e (.mv (.r p26)))⟩, ⟨(some p27), none, (.e (.ext 0 (.r p23)))⟩, ⟨(some p28), none, (.e (.ext 1 (.r p23)))⟩, ⟨(some p10), none, (.e (.mv (.r p27)))⟩, ⟨(some p11), none, (.e (.mv (.r p28)))⟩]) (.seq (.seq (.reg [⟨(some p29), none, (.e (.mv (.r p11)))⟩, ⟨(some p30), none, (.e (.bin .neq (.r p29) (.c (.int .i64 (.ofNat 0)))))⟩]) (.cond (.r p30) (.seq (.reg [⟨(some p31), none, (.e (.mv (.r p11)))⟩, ⟨(some p4), none, (.e (.mv (.c (.int .i64 (.ofNat 0)))))⟩, ⟨(some p5), none, (.e (.mv (.r p31)))⟩]) .ret) .skip)) (.reg [⟨(some p32), none, (.e (.mv (.r p10)))⟩, ⟨(some p6), none, (.e (.mv (.r p32)))⟩]))))))) (.reg [⟨(some p33), none, (.e (.bin .add (.r p14) (.c (.int .i64 (.ofNat 1)))))⟩, ⟨(some p14), none, (.e (.mv (.r p33)))⟩])))))
noncomputable def J138_0 (E : Env) (r0 r1 : DV) (h : H) : Ans :=
  vK (v_lenL r1) fun x1 =>
  L138_2 E r0 r1 x1 FUEL (.int .i64 (.ofNat 1)) (.int .i64 (.ofNat 0)) h
def C138_0 : DC := (.seq (.reg [⟨(some p4), none, (.e (.mv (.c (.int .i64 (.ofNat 0)))))⟩, ⟨(some p5), none, (.e (.mv (.c (.int .i64 (.ofNat 0)))))⟩]) (.seq (.reg [⟨(some p6), none, (.e (.mv (.c (.int .i64 (.ofNat 1)))))⟩]) (.seq (.seq (.reg [⟨(some p12), none, (.e (.mv (.r p1)))⟩, ⟨(some p13), none, (.e (.lenL (.r p12)))⟩, ⟨(some p14), none, (.e (.mv (.c (.int .i64 (.ofNat 0)))))⟩]) (.block 0 C138_2)) C138_1)))
theorem I138_1 (E : Env) : Is E C138_1 (retK3 R138) (fun σ h => J138_1 E (σ p6) h) :=
  fun σ h => by kernel_rfl
noncomputable abbrev K138_3 (E : Env) : KT2 (DV × H) := (thenK3 (fun σ h => J138_1 E (σ p6) h) (retK3 R138))
theorem I138_2 (E : Env) : Is E C138_2 (blockK3 0 (K138_3 E)) (fun σ h => L138_2 E (σ p0) (σ p12) (σ p13) FUEL (σ p6) (σ p14) h) :=
  Is.loop (fun n2 σ h => L138_2 E (σ p0) (σ p12) (σ p13) n2 (σ p6) (σ p14) h) (by kernel_rfl) fun n2 => Is.as (Is.leaf _) fun σ h => by kernel_rfl
theorem I138_0 (E : Env) : Is E C138_0 (retK3 R138) (fun σ h => J138_0 E (σ p0) (σ p1) h) :=
  Is.as (Is.seq (Is.seq (Is.seq (I138_1 E) (Is.seq (Is.block (I138_2 E)) (Is.leaf _))) (Is.leaf _)) (Is.leaf _)) fun σ h => by kernel_rfl
def D138 : DF := ⟨2, 35, C138_0, R138⟩
noncomputable def S138 (E : Env) : Fun := fun args h => aS args fun r0 args => aS args fun r1 args => a0 args (J138_0 E r0 r1 h)
theorem S138_eq (E : Env) (args : List DV) (h : H) : runFn E D138 args h = S138 E args h :=
  Is.fn2 (d := D138) (I138_0 E) rfl (fun r0 r1 h => J138_0 E r0 r1 h) (fun r0 r1 h => by kernel_rfl) args h
/- hurdle/bytes.Put -/
def R140 : List RV := [(.r p6), (.r p7)]
noncomputable def J140_0 (E : Env) (r0 r1 r2 : DV) (h : H) : Ans :=
  vK (v_lss r1 (.int .i64 (.ofNat 0))) fun x1 =>
  bK x1
  (some ((.tup [(.str []), (.int .i64 (.ofNat 1))]), h))
  (vK (v_lenS r0) fun x2 =>
  vK (v_gtr x2 (.int .i64 (.ofNat 65536))) fun x3 =>
  gdK x3 false (fun kk => kk r2 h) h fun x4 h5 =>
  gdK x3 false (fun kk => vK (v_lenS x4) fun v => kk v h5) h5 fun x6 h7 =>
  gdK x3 false (fun kk => vK (v_gtr x6 (.int .i64 (.ofNat 65536))) fun v => kk v h7) h7 fun x8 h9 =>
  vK (v_pick x3 (.bool true) x8) fun x10 =>
  gdK x10 false (fun kk => kk r1 h9) h9 fun x11 h12 =>
  gdK x10 false (fun kk => kk r2 h12) h12 fun x13 h14 =>
  gdK x10 false (fun kk => vK (v_lenS x13) fun v => kk v h14) h14 fun x15 h16 =>
  gdK x10 false (fun kk => vK (v_sub (.int .i64 (.ofNat 65536)) x15) fun v => kk v h16) h16 fun x17 h18 =>
  gdK x10 false (fun kk => vK (v_gtr x11 x17) fun v => kk v h18) h18 fun x19 h20 =>
  vK (v_pick x10 (.bool true) x19) fun x21 =>
  bK x21
  (some ((.tup [(.str []), (.int .i64 (.ofNat 2))]), h20))
  (vK (v_lenS r0) fun x22 =>
  vK (v_lenS r2) fun x23 =>
  vK (v_add r1 x23) fun x24 =>
  vK (v_mx x22 x24) fun x25 =>
  n_mks 1 1 (.int .u8 (.ofNat 0)) x25 x25 h20 fun x26 h27 =>
  wK (dCopyF 1 x26 r0 h27) fun x28 h29 =>
  vK (v_slL 1 x26 (some r1) none) fun x30 =>
  wK (dCopyF 1 x30 r2 h29) fun x31 h32 =>
  vK (v_b2s h32.get x26) fun x33 =>
  some ((.tup [x33, (.int .i64 (.ofNat 0))]), h32)))
def C140_0 : DC := (.seq (.reg [⟨(some p6), none, (.e (.mv (.c (.str []))))⟩, ⟨(some p7), none, (.e (.mv (.c (.int .i64 (.ofNat 0)))))⟩]) (.seq (.block 0 (.seq (.reg [⟨(some p10), none, (.e (.mv (.r p1)))⟩, ⟨(some p11), none, (.e (.bin .lss (.r p10) (.c (.int .i64 (.ofNat 0)))))⟩, ⟨(some p9), none, (.e (.mv (.r p11)))⟩]) (.cond (.r p9) (.seq (.reg [⟨(some p6), none, (.e (.mv (.c (.str []))))⟩, ⟨(some p7), none, (.e (.mv (.c (.int .i64 (.ofNat 1)))))⟩]) .ret) (.seq (.reg [⟨(some p13), none, (.e (.mv (.r p0)))⟩, ⟨(some p14), none, (.e (.lenS (.r p13)))⟩, ⟨(some p15), none, (.e (.bin .gtr (.r p14) (.c (.int .i64 (.ofNat 65536)))))⟩, ⟨(some p16), none, (.e (.mv (.r p15)))⟩, ⟨(some p17), (some (p16, false)), (.e (.mv (.r p2)))⟩, ⟨(some p18), (some (p16, false)), (.e (.lenS (.r p17)))⟩, ⟨(some p19), (some (p16, false)), (.e (.bin .gtr (.r p18) (.c (.int .i64 (.ofNat 65536)))))⟩, ⟨(some p20), none, (.e (.pick (.r p16) (.c (.bool true)) (.r p19)))⟩, ⟨(some p21), none, (.e (.mv (.r p20)))⟩, ⟨(some p22), (some (p21, false)), (.e (.mv (.r p1)))⟩, ⟨(some p23), (some (p21, false)), (.e (.mv (.r p2)))⟩, ⟨(some p24), (some (p21, false)), (.e (.lenS (.r p23)))⟩, ⟨(some p25), (some (p21, false)), (.e (.bin .sub (.c (.int .i64 (.ofNat 65536))) (.r p24)))⟩, ⟨(some p26), (some (p21, false)), (.e (.bin .gtr (.r p22) (.r p25)))⟩, ⟨(some p27), none, (.e (.pick (.r p21) (.c (.bool true)) (.r p26)))⟩, ⟨(some p12), none, (.e (.mv (.r p27)))⟩]) (.cond (.r p12) (.seq (.reg [⟨(some p6), none, (.e (.mv (.c (.str []))))⟩, ⟨(some p7), none, (.e (.mv (.c (.int .i64 (.ofNat 2)))))⟩]) .ret) .skip))))) (.seq (.reg [⟨(some p28), none, (.e (.mv (.r p0)))⟩, ⟨(some p29), none, (.e (.lenS (.r p28)))⟩, ⟨(some p30), none, (.e (.mv (.r p1)))⟩, ⟨(some p31), none, (.e (.mv (.r p2)))⟩, ⟨(some p32), none, (.e (.lenS (.r p31)))⟩, ⟨(some p33), none, (.e (.bin .add (.r p30) (.r p32)))⟩, ⟨(some p34), none, (.e (.mx (.r p29) (.r p33)))⟩, ⟨(some p35), none, (.e (.mks 1 1 (.int .u8 (.ofNat 0)) (.r p34) (.r p34)))⟩, ⟨(some p8), none, (.e (.mv (.r p35)))⟩]) (.seq (.reg [⟨(some p36), none, (.e (.mv (.r p8)))⟩, ⟨(some p37), none, (.e (.mv (.r p0)))⟩, ⟨(some p38), none, (.w (.cpy 1 (.r p36) (.r p37)))⟩]) (.seq (.reg [⟨(some p39), none, (.e (.mv (.r p8)))⟩, ⟨(some p40), none, (.e (.mv (.r p1)))⟩, ⟨(some p41), none, (.e (.slL 1 (.r p39) (some (.r p40)) none))⟩, ⟨(some p42), none, (.e (.mv (.r p2)))⟩, ⟨(some p43), none, (.w (.cpy 1 (.r p41) (.r p42)))⟩]) (.seq (.reg [⟨(some p44), none, (.e (.mv (.r p8)))⟩, ⟨(some p45), none, (.e (.b2s (.r p44)))⟩, ⟨(some p6), none, (.e (.mv (.r p45)))⟩, ⟨(some p7), none, (.e (.mv (.c (.int .i64 (.ofNat 0)))))⟩]) .ret))))))
theorem I140_0 (E : Env) : Is E C140_0 (retK3 R140) (fun σ h => J140_0 E (σ p0) (σ p1) (σ p2) h) :=
  fun σ h => by kernel_rfl
def D140 : DF := ⟨3, 46, C140_0, R140⟩
noncomputable def S140 (E : Env) : Fun := fun args h => aS args fun r0 args => aS args fun r1 args => aS args fun r2 args => a0 args (J140_0 E r0 r1 r2 h)
theorem S140_eq (E : Env) (args : List DV) (h : H) : runFn E D140 args h = S140 E args h :=
  Is.fn3 (d := D140) (I140_0 E) rfl (fun r0 r1 r2 h => J140_0 E r0 r1 r2 h) (fun r0 r1 r2 h => by kernel_rfl) args h
/- (*hurdle/tree.Tree).free -/
def R141 : List RV := [(.r p2)]
noncomputable def J141_1 (E : Env) (h : H) : Ans :=
  some ((.int .i64 (.ofNat 0)), h)
def C141_1 : DC := (.seq (.reg [⟨(some p2), none, (.e (.mv (.c (.int .i64 (.ofNat 0)))))⟩]) .ret)
noncomputable def B141_2 (E : Env) (r0 : DV) (i2 : DV → H → Ans) (r3 : DV) (h : H) : Ans :=
  vK (v_lss r3 (.int .i64 (.ofNat 256))) fun x1 =>
  bK x1
  (vK (v_nilchk r0) fun x2 =>
  vK (v_fa 0 x2) fun x3 =>
  vK (v_iaA 256 2 x3 r3) fun x4 =>
  vK (v_fa 1 x4) fun x5 =>
  vK (v_ld h.get x5) fun x6 =>
  vK (v_eqv .nilI false h.get x6 .nili) fun x7 =>
  bK x7
  (some (r3, h))
  (vK (v_add r3 (.int .i64 (.ofNat 1))) fun x8 =>
  i2 x8 h))
  (J141_1 E h)
noncomputable def L141_2 (E : Env) (r0 : DV) (n : Nat) : DV → H → Ans := Nat.rec (motive := fun _ => DV → H → Ans) (fun _ _ => none) (fun _ i => B141_2 E r0 i) n
def C141_2 : DC := (.loop (.seq (.seq (.reg [⟨(some p4), none, (.e (.mv (.r p3)))⟩, ⟨(some p5), none, (.e (.bin .lss (.r p4) (.c (.int .i64 (.ofNat 256)))))⟩]) (.cond (.r p5) .skip (.exit 0))) (.seq (.block 1 (.seq (.reg [⟨(some p8), none, (.e (.mv (.r p0)))⟩, ⟨(some p9), none, (.e (.mv (.r p3)))⟩, ⟨(some p10), none, (.e (.nilchk (.r p8)))⟩, ⟨(some p11), none, (.e (.fa 0 (.r p10)))⟩, ⟨(some p12), none, (.e (.iaA 256 2 (.r p11) (.r p9)))⟩, ⟨(some p13), none, (.e (.fa 1 (.r p12)))⟩, ⟨(some p14), none, (.e (.ld (.r p13)))⟩, ⟨(some p15), none, (.e (.eqv .nilI false (.r p14) (.c .nili)))⟩]) (.cond (.r p15) (.seq (.reg [⟨(some p16), none, (.e (.mv (.r p3)))⟩, ⟨(some p2), none, (.e (.mv (.r p16)))⟩]) .ret) .skip))) (.reg [⟨(some p6), none, (.e (.mv (.r p3)))⟩, ⟨(some p7), none, (.e (.bin .add (.r p6) (.c (.int .i64 (.ofNat 1)))))⟩, ⟨(some p3), none, (.e (.mv (.r p7)))⟩]))))
noncomputable def J141_0 (E : Env) (r0 : DV) (h : H) : Ans :=
  L141_2 E r0 FUEL (.int .i64 (.ofNat 2)) h
def C141_0 : DC := (.seq (.reg [⟨(some p2), none, (.e (.mv (.c (.int .i64 (.ofNat 0)))))⟩]) (.seq (.seq (.reg [⟨(some p3), none, (.e (.mv (.c (.int .i64 (.ofNat 2)))))⟩]) (.block 0 C141_2)) C141_1))
theorem I141_1 (E : Env) : Is E C141_1 (retK3 R141) (fun σ h => J141_1 E h) :=
  fun σ h => by kernel_rfl
noncomputable abbrev K141_3 (E : Env) : KT2 (DV × H) := (blockK3 0 (thenK3 (fun σ h => J141_1 E h) (retK3 R141)))
theorem I141_2 (E : Env) : Is E C141_2 (K141_3 E) (fun σ h => L141_2 E (σ p0) FUEL (σ p3) h) :=
  Is.loop (fun n2 σ h => L141_2 E (σ p0) n2 (σ p3) h) (by kernel_rfl) fun n2 => Is.as (Is.leaf _) fun σ h => by kernel_rfl
theorem I141_0 (E : Env) : Is E C141_0 (retK3 R141) (fun σ h => J141_0 E (σ p0) h) :=
  Is.as (Is.seq (Is.seq (I141_1 E) (Is.seq (Is.block (I141_2 E)) (Is.leaf _))) (Is.leaf _)) fun σ h => by kernel_rfl
def D141 : DF := ⟨1, 17, C141_0, R141⟩
noncomputable def S141 (E : Env) : Fun := fun args h => aS args fun r0 args => a0 args (J141_0 E r0 h)
theorem S141_eq (E : Env) (args : List DV) (h : H) : runFn E D141 args h = S141 E args h :=
  Is.fn1 (d := D141) (I141_0 E) rfl (fun r0 h => J141_0 E r0 h) (fun r0 h => by kernel_rfl) args h
/- (*hurdle/dirs.Dir).find -/
def R142 : List RV := [(.r p4), (.r p5)]
noncomputable def J142_0 (E : Env) (r0 r1 : DV) (h : H) : Ans :=
  vK (v_eqv .ptr false h.get r0 .nilp) fun x1 =>
  bK x1
  (some ((.tup [(.int .i64 (.ofNat 0)), (.bool false)]), h))
  (vK (v_nilchk r0) fun x2 =>
  vK (v_fa 0 x2) fun x3 =>
  vK (v_ld h.get x3) fun x4 =>
  wK (callK E 162 [x4, r1, (.fn (.func 163) [] [])] h) fun x5 h6 =>
  vK (v_ext 0 x5) fun x7 =>
  vK (v_ext 1 x5) fun x8 =>
  some ((.tup [x7, x8]), h6))
def C142_0 : DC := (.seq (.reg [⟨(some p4), none, (.e (.mv (.c (.int .i64 (.ofNat 0)))))⟩, ⟨(some p5), none, (.e (.mv (.c (.bool false))))⟩]) (.seq (.seq (.reg [⟨(some p6), none, (.e (.mv (.r p0)))⟩, ⟨(some p7), none, (.e (.eqv .ptr false (.r p6) (.c .nilp)))⟩]) (.cond (.r p7) (.seq (.reg [⟨(some p4), none, (.e (.mv (.c (.int .i64 (.ofNat 0)))))⟩, ⟨(some p5), none, (.e (.mv (.c (.bool false))))⟩]) .ret) .skip)) (.seq (.reg [⟨(some p8), none, (.e (.mv (.r p0)))⟩, ⟨(some p9), none, (.e (.nilchk (.r p8)))⟩, ⟨(some p10), none, (.e (.fa 0 (.r p9)))⟩, ⟨(some p11), none, (.e (.ld (.r p10)))⟩, ⟨(some p12), none, (.e (.mv (.r p1)))⟩, ⟨(some p13), none, (.c (.f 162 [(.r p11), (.r p12), (.c (.fn (.func 163) [] []))]))⟩, ⟨(some p14), none, (.e (.ext 0 (.r p13)))⟩, ⟨(some p15), none, (.e (.ext 1 (.r p13)))⟩, ⟨(some p4), none, (.e (.mv (.r p14)))⟩, ⟨(some p5), none, (.e (.mv (.r p15)))⟩]) .ret)))
theorem I142_0 (E : Env) : Is E C142_0 (retK3 R142) (fun σ h => J142_0 E (σ p0) (σ p1) h) :=
  fun σ h => by kernel_rfl
def D142 : DF := ⟨2, 16, C142_0, R142⟩
noncomputable def S142 (E : Env) : Fun := fun args h => aS args fun r0 args => aS args fun r1 args => a0 args (J142_0 E r0 r1 h)
theorem S142_eq (E : Env) (args : List DV) (h : H) : runFn E D142 args h = S142 E args h :=
  Is.fn2 (d := D142) (I142_0 E) rfl (fun r0 r1 h => J142_0 E r0 r1 h) (fun r0 r1 h => by kernel_rfl) args h
/- slices.Delete[[]hurdle/dirs.entry,hurdle/dirs.entry] -/
def R143 : List RV := [(.r p6)]
noncomputable def J143_0 (E : Env) (r0 r1 r2 : DV) (h : H) : Ans :=
  vK (v_lenL r0) fun x1 =>
  vK (v_slM 2 r0 (some r1) r2 x1) fun x2 =>
  vK (v_eql r1 r2) fun x3 =>
  bK x3
  (some (r0, h))
  (vK (v_lenL r0) fun x4 =>
  vK (v_slL 2 r0 none (some r1)) fun x5 =>
  vK (v_slL 2 r0 (some r2) none) fun x6 =>
  wK (dAppendF 2 24 x5 x6 h) fun x7 h8 =>
  vK (v_lenL x7) fun x9 =>
  vK (v_slL 2 x7 (some x9) (some x4)) fun x10 =>
  wK (dClear [(.str []), (.int .i64 (.ofNat 0))] x10 h8) fun x11 h12 =>
  some (x7, h12))
def C143_0 : DC := (.seq (.reg [⟨(some p6), none, (.e (.mv (.c .nils)))⟩]) (.seq (.reg [⟨(some p8), none, (.e (.mv (.r p0)))⟩, ⟨(some p9), none, (.e (.mv (.r p1)))⟩, ⟨(some p10), none, (.e (.mv (.r p2)))⟩, ⟨(some p11), none, (.e (.mv (.r p0)))⟩, ⟨(some p12), none, (.e (.lenL (.r p11)))⟩, ⟨(some p13), none, (.e (.slM 2 (.r p8) (some (.r p9)) (.r p10) (.r p12)))⟩]) (.seq (.seq (.reg [⟨(some p14), none, (.e (.mv (.r p1)))⟩, ⟨(some p15), none, (.e (.mv (.r p2)))⟩, ⟨(some p16), none, (.e (.bin .eql (.r p14) (.r p15)))⟩]) (.cond (.r p16) (.seq (.reg [⟨(some p17), none, (.e (.mv (.r p0)))⟩, ⟨(some p6), none, (.e (.mv (.r p17)))⟩]) .ret) .skip)) (.seq (.reg [⟨(some p18), none, (.e (.mv (.r p0)))⟩, ⟨(some p19), none, (.e (.lenL (.r p18)))⟩, ⟨(some p7), none, (.e (.mv (.r p19)))⟩]) (.seq (.drg [⟨0, ⟨(some p20), none, (.e (.mv (.r p0)))⟩, [], false⟩, ⟨1, ⟨(some p21), none, (.e (.mv (.r p1)))⟩, [], false⟩, ⟨2, ⟨(some p22), none, (.e (.slL 2 (.r p20) none (some (.r p21))))⟩, [], false⟩, ⟨3, ⟨(some p23), none, (.e (.mv (.r p0)))⟩, [], false⟩, ⟨4, ⟨(some p24), none, (.e (.mv (.r p2)))⟩, [], false⟩, ⟨5, ⟨(some p25), none, (.e (.slL 2 (.r p23) (some (.r p24)) none))⟩, [], false⟩, ⟨6, ⟨(some p26), none, (.w (.app 2 24 (.r p22) (.r p25)))⟩, [], false⟩, ⟨7, ⟨(some p0), none, (.e (.mv (.r p26)))⟩, [], true⟩]) (.seq (.reg [⟨(some p27), none, (.e (.mv (.r p0)))⟩, ⟨(some p28), none, (.e (.mv (.r p0)))⟩, ⟨(some p29), none, (.e (.lenL (.r p28)))⟩, ⟨(some p30), none, (.e (.mv (.r p7)))⟩, ⟨(some p31), none, (.e (.slL 2 (.r p27) (some (.r p29)) (some (.r p30))))⟩, ⟨none, none, (.w (.clr [(.str []), (.int .i64 (.ofNat 0))] (.r p31)))⟩]) (.seq (.reg [⟨(some p32), none, (.e (.mv (.r p0)))⟩, ⟨(some p6), none, (.e (.mv (.r p32)))⟩]) .ret)))))))
theorem I143_0 (E : Env) : Is E C143_0 (retK3 R143) (fun σ h => J143_0 E (σ p0) (σ p1) (σ p2) h) :=
  fun σ h => by kernel_rfl
def D143 : DF := ⟨3, 33, C143_0, R143⟩
noncomputable def S143 (E : Env) : Fun := fun args h => aS args fun r0 args => aS args fun r1 args => aS args fun r2 args => a0 args (J143_0 E r0 r1 r2 h)
theorem S143_eq (E : Env) (args : List DV) (h : H) : runFn E D143 args h = S143 E args h :=
  Is.fn3 (d := D143) (I143_0 E) rfl (fun r0 r1 r2 h => J143_0 E r0 r1 r2 h) (fun r0 r1 r2 h => by kernel_rfl) args h
/- slices.Equal[[]string,string] -/
def R144 : List RV := [(.r p4)]
noncomputable def J144_1 (E : Env) (h : H) : Ans :=
  some ((.bool true), h)
def C144_1 : DC := (.seq (.reg [⟨(some p4), none, (.e (.mv (.c (.bool true))))⟩]) .ret)
noncomputable def B144_2 (E : Env) (r0 r1 r12 : DV) (i2 : DV → H → Ans) (r13 : DV) (h : H) : Ans :=
  vK (v_lss r13 r12) fun x1 =>
  bK x1
  (vK (v_iaS 1 r0 r13) fun x2 =>
  vK (v_ld h.get x2) fun x3 =>
  vK (v_iaS 1 r1 r13) fun x4 =>
  vK (v_ld h.get x4) fun x5 =>
  vK (v_neq x3 x5) fun x6 =>
  bK x6
  (some ((.bool false), h))
  (vK (v_add r13 (.int .i64 (.ofNat 1))) fun x7 =>
  i2 x7 h))
  (J144_1 E h)
noncomputable def L144_2 (E : Env) (r0 r1 r12 : DV) (n : Nat) : DV → H → Ans := Nat.rec (motive := fun _ => DV → H → Ans) (fun _ _ => none) (fun _ i => B144_2 E r0 r1 r12 i) n
def C144_2 : DC := (.loop (.seq (.reg [⟨(some p14), none, (.e (.bin .lss (.r p13) (.r p12)))⟩]) (.seq (.cond (.r p14) .skip (.exit 0)) (.seq (.block 1 (.seq (.reg [⟨(some p15), none, (.e (.mv (.r p13)))⟩, ⟨(some p5), none, (.e (.mv (.r p15)))⟩]) (.seq (.drg [⟨0, ⟨(some p16), none, (.e (.mv (.r p0)))⟩, [], false⟩, ⟨1, ⟨(some p17), none, (.e (.mv (.r p5)))⟩, [], false⟩, ⟨2, ⟨(some p18), none, (.e (.iaS 1 (.r p16) (.r p17)))⟩, [], false⟩, ⟨3, ⟨(some p19), none, (.e (.ld (.r p18)))⟩, [], false⟩, ⟨4, ⟨(some p20), none, (.e (.mv (.r p1)))⟩, [], false⟩, ⟨5, ⟨(some p21), none, (.e (.mv (.r p5)))⟩, [], false⟩, ⟨6, ⟨(some p22), none, (.e (.iaS 1 (.r p20) (.r p21)))⟩, [], false⟩, ⟨7, ⟨(some p23), none, (.e (.ld (.r p22)))⟩, [], false⟩, ⟨8, ⟨(some p24), none, (.e (.bin .neq (.r p19) (.r p23)))⟩, [], false⟩]) (.cond (.r p24) (.seq (.reg [⟨(some p4), none, (.e (.mv (.c (.bool false))))⟩]) .ret) .skip)))) (.reg [⟨(some p25), none, (.e (.bin .add (.r p13) (.c (.int .i64 (.ofNat 1)))))⟩, ⟨(some p13), none, (.e (.mv (.r p25)))⟩])))))
noncomputable def J144_0 (E : Env) (r0 r1 : DV) (h : H) : Ans :=
  vK (v_lenL r0) fun x1 =>
  vK (v_lenL r1) fun x2 =>
  vK (v_neq x1 x2) fun x3 =>
  bK x3
  (some ((.bool false), h))
  (vK (v_lenL r0) fun x4 =>
  L144_2 E r0 r1 x4 FUEL (.int .i64 (.ofNat 0)) h)
def C144_0 : DC := (.seq (.reg [⟨(some p4), none, (.e (.mv (.c (.bool false))))⟩]) (.seq (.seq (.reg [⟨(some p6), none, (.e (.mv (.r p0)))⟩, ⟨(some p7), none, (.e (.lenL (.r p6)))⟩, ⟨(some p8), none, (.e (.mv (.r p1)))⟩, ⟨(some p9), none, (.e (.lenL (.r p8)))⟩, ⟨(some p10), none, (.e (.bin .neq (.r p7) (.r p9)))⟩]) (.cond (.r p10) (.seq (.reg [⟨(some p4), none, (.e (.mv (.c (.bool false))))⟩]) .ret) .skip)) (.seq (.seq (.reg [⟨(some p11), none, (.e (.mv (.r p0)))⟩, ⟨(some p12), none, (.e (.lenL (.r p11)))⟩, ⟨(some p13), none, (.e (.mv (.c (.int .i64 (.ofNat 0)))))⟩]) (.block 0 C144_2)) C144_1)))
theorem I144_1 (E : Env) : Is E C144_1 (retK3 R144) (fun σ h => J144_1 E h) :=
  fun σ h => by kernel_rfl
noncomputable abbrev K144_3 (E : Env) : KT2 (DV × H) := (blockK3 0 (thenK3 (fun σ h => J144_1 E h) (retK3 R144)))
theorem I144_2 (E : Env) : Is E C144_2 (K144_3 E) (fun σ h => L144_2 E (σ p0) (σ p1) (σ p12) FUEL (σ p13) h) :=
  Is.loop (fun n2 σ h => L144_2 E (σ p0) (σ p1) (σ p12) n2 (σ p13) h) (by kernel_rfl) fun n2 => Is.as (Is.leaf _) fun σ h => by kernel_rfl
theorem I144_0 (E : Env) : Is E C144_0 (retK3 R144) (fun σ h => J144_0 E (σ p0) (σ p1) h) :=
  Is.as (Is.seq (Is.seq (Is.seq (I144_1 E) (Is.seq (Is.block (I144_2 E)) (Is.leaf _))) (Is.leaf _)) (Is.leaf _)) fun σ h => by kernel_rfl
def D144 : DF := ⟨2, 26, C144_0, R144⟩
noncomputable def S144 (E : Env) : Fun := fun args h => aS args fun r0 args => aS args fun r1 args => a0 args (J144_0 E r0 r1 h)
theorem S144_eq (E : Env) (args : List DV) (h : H) : runFn E D144 args h = S144 E args h :=
  Is.fn2 (d := D144) (I144_0 E) rfl (fun r0 r1 h => J144_0 E r0 r1 h) (fun r0 r1 h => by kernel_rfl) args h
/- (*hurdle/dirs.Dir).Look -/
def R145 : List RV := [(.r p4), (.r p5)]
noncomputable def J145_0 (E : Env) (r0 r1 : DV) (h : H) : Ans :=
  wK (callK E 142 [r0, r1] h) fun x1 h2 =>
  vK (v_ext 0 x1) fun x3 =>
  vK (v_ext 1 x1) fun x4 =>
  vK (v_not x4) fun x5 =>
  bK x5
  (some ((.tup [(.int .i64 (.ofNat 0)), (.int .i64 (.ofNat 7))]), h2))
  (vK (v_nilchk r0) fun x6 =>
  vK (v_fa 0 x6) fun x7 =>
  vK (v_ld h2.get x7) fun x8 =>
  vK (v_iaS 2 x8 x3) fun x9 =>
  vK (v_fa 1 x9) fun x10 =>
  vK (v_ld h2.get x10) fun x11 =>
  some ((.tup [x11, (.int .i64 (.ofNat 0))]), h2))
def C145_0 : DC := (.seq (.reg [⟨(some p4), none, (.e (.mv (.c (.int .i64 (.ofNat 0)))))⟩, ⟨(some p5), none, (.e (.mv (.c (.int .i64 (.ofNat 0)))))⟩]) (.seq (.reg [⟨(some p9), none, (.e (.mv (.r p0)))⟩, ⟨(some p10), none, (.e (.mv (.r p1)))⟩, ⟨(some p11), none, (.c (.f 142 [(.r p9), (.r p10)]))⟩, ⟨(some p8), none, (.e (.mv (.r p11)))⟩, ⟨(some p12), none, (.e (.ext 0 (.r p8)))⟩, ⟨(some p13), none, (.e (.ext 1 (.r p8)))⟩, ⟨(some p6), none, (.e (.mv (.r p12)))⟩, ⟨(some p7), none, (.e (.mv (.r p13)))⟩]) (.seq (.seq (.reg [⟨(some p14), none, (.e (.mv (.r p7)))⟩, ⟨(some p15), none, (.e (.not (.r p14)))⟩]) (.cond (.r p15) (.seq (.reg [⟨(some p4), none, (.e (.mv (.c (.int .i64 (.ofNat 0)))))⟩, ⟨(some p5), none, (.e (.mv (.c (.int .i64 (.ofNat 7)))))⟩]) .ret) .skip)) (.seq (.reg [⟨(some p16), none, (.e (.mv (.r p0)))⟩, ⟨(some p17), none, (.e (.nilchk (.r p16)))⟩, ⟨(some p18), none, (.e (.fa 0 (.r p17)))⟩, ⟨(some p19), none, (.e (.ld (.r p18)))⟩, ⟨(some p20), none, (.e (.mv (.r p6)))⟩, ⟨(some p21), none, (.e (.iaS 2 (.r p19) (.r p20)))⟩, ⟨(some p22), none, (.e (.fa 1 (.r p21)))⟩, ⟨(some p23), none, (.e (.ld (.r p22)))⟩, ⟨(some p4), none, (.e (.mv (.r p23)))⟩, ⟨(some p5), none, (.e (.mv (.c (.int .i64 (.ofNat 0)))))⟩]) .ret))))
theorem I145_0 (E : Env) : Is E C145_0 (retK3 R145) (fun σ h => J145_0 E (σ p0) (σ p1) h) :=
  fun σ h => by kernel_rfl
def D145 : DF := ⟨2, 24, C145_0, R145⟩
noncomputable def S145 (E : Env) : Fun := fun args h => aS args fun r0 args => aS args fun r1 args => a0 args (J145_0 E r0 r1 h)
theorem S145_eq (E : Env) (args : List DV) (h : H) : runFn E D145 args h = S145 E args h :=
  Is.fn2 (d := D145) (I145_0 E) rfl (fun r0 r1 h => J145_0 E r0 r1 h) (fun r0 r1 h => by kernel_rfl) args h
/- hurdle/dirs.Name -/
def R146 : List RV := [(.r p2)]
noncomputable def J146_0 (E : Env) (r0 : DV) (h : H) : Ans :=
  vK (v_neq r0 (.str [])) fun x1 =>
  gdK x1 true (fun kk => kk r0 h) h fun x2 h3 =>
  gdK x1 true (fun kk => vK (v_lenS x2) fun v => kk v h3) h3 fun x4 h5 =>
  gdK x1 true (fun kk => vK (v_leq x4 (.int .i64 (.ofNat 28))) fun v => kk v h5) h5 fun x6 h7 =>
  vK (v_pick x1 x6 (.bool false)) fun x8 =>
  gdK x8 true (fun kk => kk r0 h7) h7 fun x9 h10 =>
  gdK x8 true (fun kk => vK (v_neq x9 (.str [46])) fun v => kk v h10) h10 fun x11 h12 =>
  vK (v_pick x8 x11 (.bool false)) fun x13 =>
  gdK x13 true (fun kk => kk r0 h12) h12 fun x14 h15 =>
  gdK x13 true (fun kk => vK (v_neq x14 (.str [46, 46])) fun v => kk v h15) h15 fun x16 h17 =>
  vK (v_pick x13 x16 (.bool false)) fun x18 =>
  gdK x18 true (fun kk => kk r0 h17) h17 fun x19 h20 =>
  gdK x18 true (fun kk => wK (callK E 164 [x19, (.int .u8 (.ofNat 47))] h20) kk) h20 fun x21 h22 =>
  gdK x18 true (fun kk => vK (v_lss x21 (.int .i64 (.ofNat 0))) fun v => kk v h22) h22 fun x23 h24 =>
  vK (v_pick x18 x23 (.bool false)) fun x25 =>
  gdK x25 true (fun kk => kk r0 h24) h24 fun x26 h27 =>
  gdK x25 true (fun kk => wK (callK E 164 [x26, (.int .u8 (.ofNat 0))] h27) kk) h27 fun x28 h29 =>
  gdK x25 true (fun kk => vK (v_lss x28 (.int .i64 (.ofNat 0))) fun v => kk v h29) h29 fun x30 h31 =>
  vK (v_pick x25 x30 (.bool false)) fun x32 =>
  some (x32, h31)
def C146_0 : DC := (.seq (.reg [⟨(some p2), none, (.e (.mv (.c (.bool false))))⟩]) (.seq (.reg [⟨(some p3), none, (.e (.mv (.r p0)))⟩, ⟨(some p4), none, (.e (.bin .neq (.r p3) (.c (.str []))))⟩, ⟨(some p5), none, (.e (.mv (.r p4)))⟩, ⟨(some p6), (some (p5, true)), (.e (.mv (.r p0)))⟩, ⟨(some p7), (some (p5, true)), (.e (.lenS (.r p6)))⟩, ⟨(some p8), (some (p5, true)), (.e (.bin .leq (.r p7) (.c (.int .i64 (.ofNat 28)))))⟩, ⟨(some p9), none, (.e (.pick (.r p5) (.r p8) (.c (.bool false))))⟩, ⟨(some p10), none, (.e (.mv (.r p9)))⟩, ⟨(some p11), (some (p10, true)), (.e (.mv (.r p0)))⟩, ⟨(some p12), (some (p10, true)), (.e (.bin .neq (.r p11) (.c (.str [46]))))⟩, ⟨(some p13), none, (.e (.pick (.r p10) (.r p12) (.c (.bool false))))⟩, ⟨(some p14), none, (.e (.mv (.r p13)))⟩, ⟨(some p15), (some (p14, true)), (.e (.mv (.r p0)))⟩, ⟨(some p16), (some (p14, true)), (.e (.bin .neq (.r p15) (.c (.str [46, 46]))))⟩, ⟨(some p17), none, (.e (.pick (.r p14) (.r p16) (.c (.bool false))))⟩, ⟨(some p18), none, (.e (.mv (.r p17)))⟩, ⟨(some p19), (some (p18, true)), (.e (.mv (.r p0)))⟩, ⟨(some p20), (some (p18, true)), (.c (.f 164 [(.r p19), (.c (.int .u8 (.ofNat 47)))]))⟩, ⟨(some p21), (some (p18, true)), (.e (.bin .lss (.r p20) (.c (.int .i64 (.ofNat 0)))))⟩, ⟨(some p22), none, (.e (.pick (.r p18) (.r p21) (.c (.bool false))))⟩, ⟨(some p23), none, (.e (.mv (.r p22)))⟩, ⟨(some p24), (some (p23, true)), (.e (.mv (.r p0)))⟩, ⟨(some p25), (some (p23, true)), (.c (.f 164 [(.r p24), (.c (.int .u8 (.ofNat 0)))]))⟩, ⟨(some p26), (some (p23, true)), (.e (.bin .lss (.r p25) (.c (.int .i64 (.ofNat 0)))))⟩, ⟨(some p27), none, (.e (.pick (.r p23) (.r p26) (.c (.bool false))))⟩, ⟨(some p2), none, (.e (.mv (.r p27)))⟩]) .ret))
theorem I146_0 (E : Env) : Is E C146_0 (retK3 R146) (fun σ h => J146_0 E (σ p0) h) :=
  fun σ h => by kernel_rfl
def D146 : DF := ⟨1, 28, C146_0, R146⟩
noncomputable def S146 (E : Env) : Fun := fun args h => aS args fun r0 args => a0 args (J146_0 E r0 h)
theorem S146_eq (E : Env) (args : List DV) (h : H) : runFn E D146 args h = S146 E args h :=
  Is.fn1 (d := D146) (I146_0 E) rfl (fun r0 h => J146_0 E r0 h) (fun r0 h => by kernel_rfl) args h
/- slices.Insert[[]hurdle/dirs.entry,hurdle/dirs.entry] -/
def R147 : List RV := [(.r p6)]
noncomputable def J147_0 (E : Env) (r0 r1 r2 : DV) (h : H) : Ans :=
  vK (v_slL 2 r0 (some r1) none) fun x1 =>
  vK (v_lenL r2) fun x2 =>
  vK (v_eql x2 (.int .i64 (.ofNat 0))) fun x3 =>
  bK x3
  (some (r0, h))
  (vK (v_lenL r0) fun x4 =>
  vK (v_eql r1 x4) fun x5 =>
  bK x5
  (wK (dAppendF 2 24 r0 r2 h) fun x6 h7 =>
  some (x6, h7))
  (vK (v_add x4 x2) fun x8 =>
  none))
def C147_0 : DC := (.seq (.reg [⟨(some p6), none, (.e (.mv (.c .nils)))⟩]) (.seq (.reg [⟨(some p10), none, (.e (.mv (.r p0)))⟩, ⟨(some p11), none, (.e (.mv (.r p1)))⟩, ⟨(some p12), none, (.e (.slL 2 (.r p10) (some (.r p11)) none))⟩]) (.seq (.reg [⟨(some p13), none, (.e (.mv (.r p2)))⟩, ⟨(some p14), none, (.e (.lenL (.r p13)))⟩, ⟨(some p7), none, (.e (.mv (.r p14)))⟩]) (.seq (.seq (.reg [⟨(some p15), none, (.e (.mv (.r p7)))⟩, ⟨(some p16), none, (.e (.bin .eql (.r p15) (.c (.int .i64 (.ofNat 0)))))⟩]) (.cond (.r p16) (.seq (.reg [⟨(some p17), none, (.e (.mv (.r p0)))⟩, ⟨(some p6), none, (.e (.mv (.r p17)))⟩]) .ret) .skip)) (.seq (.reg [⟨(some p18), none, (.e (.mv (.r p0)))⟩, ⟨(some p19), none, (.e (.lenL (.r p18)))⟩, ⟨(some p8), none, (.e (.mv (.r p19)))⟩]) (.seq (.seq (.reg [⟨(some p20), none, (.e (.mv (.r p1)))⟩, ⟨(some p21), none, (.e (.mv (.r p8)))⟩, ⟨(some p22), none, (.e (.bin .eql (.r p20) (.r p21)))⟩]) (.cond (.r p22) (.seq (.reg [⟨(some p23), none, (.e (.mv (.r p0)))⟩, ⟨(some p24), none, (.e (.mv (.r p2)))⟩, ⟨(some p25), none, (.w (.app 2 24 (.r p23) (.r p24)))⟩, ⟨(some p6), none, (.e (.mv (.r p25)))⟩]) .ret) .skip)) (.seq (.seq (.reg [⟨(some p26), none, (.e (.mv (.r p8)))⟩, ⟨(some p27), none, (.e (.mv (.r p7)))⟩, ⟨(some p28), none, (.e (.bin .add (.r p26) (.r p27)))⟩, ⟨(some p29), none, (.e (.mv (.r p0)))⟩, ⟨(some p30), none, (.e .bad)⟩, ⟨(some p31), none, (.e (.bin .gtr (.r p28) (.r p30)))⟩]) (.cond (.r p31) (.seq (.reg [⟨(some p32), none, (.e (.mv (.r p0)))⟩, ⟨(some p33), none, (.e (.mv (.r p1)))⟩, ⟨(some p34), none, (.e (.slL 2 (.r p32) none (some (.r p33))))⟩, ⟨(some p35), none, (.e (.mv (.r p8)))⟩, ⟨(some p36), none, (.e (.mv (.r p7)))⟩, ⟨(some p37), none, (.e (.bin .add (.r p35) (.r p36)))⟩, ⟨(some p38), none, (.e (.mv (.r p1)))⟩, ⟨(some p39), none, (.e (.bin .sub (.r p37) (.r p38)))⟩, ⟨(some p40), none, (.e .bad)⟩, ⟨(some p9), none, (.e (.mv (.r p40)))⟩]) (.seq (.reg [⟨(some p41), none, (.e (.mv (.r p9)))⟩, ⟨(some p42), none, (.e (.mv (.r p1)))⟩, ⟨(some p43), none, (.e (.slL 2 (.r p41) (some (.r p42)) none))⟩, ⟨(some p44), none, (.e (.mv (.r p2)))⟩, ⟨(some p45), none, (.w (.cpy 2 (.r p43) (.r p44)))⟩]) (.seq (.drg [⟨0, ⟨(some p46), none, (.e (.mv (.r p9)))⟩, [], false⟩, ⟨1, ⟨(some p47), none, (.e (.mv (.r p1)))⟩, [], false⟩, ⟨2, ⟨(some p48), none, (.e (.mv (.r p7)))⟩, [], false⟩, ⟨3, ⟨(some p49), none, (.e (.bin .add (.r p47) (.r p48)))⟩, [], false⟩, ⟨4, ⟨(some p50), none, (.e (.slL 2 (.r p46) (some (.r p49)) none))⟩, [], false⟩, ⟨5, ⟨(some p51), none, (.e (.mv (.r p0)))⟩, [], false⟩, ⟨6, ⟨(some p52), none, (.e (.mv (.r p1)))⟩, [], false⟩, ⟨7, ⟨(some p53), none, (.e (.slL 2 (.r p51) (some (.r p52)) none))⟩, [], false⟩, ⟨8, ⟨(some p54), none, (.w (.cpy 2 (.r p50) (.r p53)))⟩, [], false⟩]) (.seq (.reg [⟨(some p55), none, (.e (.mv (.r p9)))⟩, ⟨(some p6), none, (.e (.mv (.r p55)))⟩]) .ret)))) .skip)) (.seq (.reg [⟨(some p56), none, (.e (.mv (.r p0)))⟩, ⟨(some p57), none, (.e (.mv (.r p8)))⟩, ⟨(some p58), none, (.e (.mv (.r p7)))⟩, ⟨(some p59), none, (.e (.bin .add (.r p57) (.r p58)))⟩, ⟨(some p60), none, (.e (.slL 2 (.r p56) none (some (.r p59))))⟩, ⟨(some p0), none, (.e (.mv (.r p60)))⟩]) (.seq (.seq (.reg [⟨(some p61), none, (.e (.mv (.r p2)))⟩, ⟨(some p62), none, (.e (.mv (.r p0)))⟩, ⟨(some p63), none, (.e (.mv (.r p1)))⟩, ⟨(some p64), none, (.e (.mv (.r p7)))⟩, ⟨(some p65), none, (.e (.bin .add (.r p63) (.r p64)))⟩, ⟨(some p66), none, (.e (.slL 2 (.r p62) (some (.r p65)) none))⟩, ⟨(some p67), none, (.c (.f 165 [(.r p61), (.r p66)]))⟩, ⟨(some p68), none, (.e (.not (.r p67)))⟩]) (.cond (.r p68) (.seq (.drg [⟨0, ⟨(some p69), none, (.e (.mv (.r p0)))⟩, [], false⟩, ⟨1, ⟨(some p70), none, (.e (.mv (.r p1)))⟩, [], false⟩, ⟨2, ⟨(some p71), none, (.e (.mv (.r p7)))⟩, [], false⟩, ⟨3, ⟨(some p72), none, (.e (.bin .add (.r p70) (.r p71)))⟩, [], false⟩, ⟨4, ⟨(some p73), none, (.e (.slL 2 (.r p69) (some (.r p72)) none))⟩, [], false⟩, ⟨5, ⟨(some p74), none, (.e (.mv (.r p0)))⟩, [], false⟩, ⟨6, ⟨(some p75), none, (.e (.mv (.r p1)))⟩, [], false⟩, ⟨7, ⟨(some p76), none, (.e (.slL 2 (.r p74) (some (.r p75)) none))⟩, [], false⟩, ⟨8, ⟨(some p77), none, (.w (.cpy 2 (.r p73) (.r p76)))⟩, [], false⟩]) (.seq (.reg [⟨(some p78), none, (.e (.mv (.r p0)))⟩, ⟨(some p79), none, (.e (.mv (.r p1)))⟩, ⟨(some p80), none, (.e (.slL 2 (.r p78) (some (.r p79)) none))⟩, ⟨(some p81), none, (.e (.mv (.r p2)))⟩, ⟨(some p82), none, (.w (.cpy 2 (.r p80) (.r p81)))⟩]) (.seq (.reg [⟨(some p83), none, (.e (.mv (.r p0)))⟩, ⟨(some p6), none, (.e (.mv (.r p83)))⟩]) .ret))) .skip)) (.seq (.reg [⟨(some p84), none, (.e (.mv (.r p0)))⟩, ⟨(some p85), none, (.e (.mv (.r p8)))⟩, ⟨(some p86), none, (.e (.slL 2 (.r p84) (some (.r p85)) none))⟩, ⟨(some p87), none, (.e (.mv (.r p2)))⟩, ⟨(some p88), none, (.w (.cpy 2 (.r p86) (.r p87)))⟩]) (.seq (.reg [⟨(some p89), none, (.e (.mv (.r p0)))⟩, ⟨(some p90), none, (.e (.mv (.r p1)))⟩, ⟨(some p91), none, (.e (.slL 2 (.r p89) (some (.r p90)) none))⟩, ⟨(some p92), none, (.e (.mv (.r p7)))⟩, ⟨(some p93), none, (.c (.f 166 [(.r p91), (.r p92)]))⟩]) (.seq (.reg [⟨(some p94), none, (.e (.mv (.r p0)))⟩, ⟨(some p6), none, (.e (.mv (.r p94)))⟩]) .ret))))))))))))
theorem I147_0 (E : Env) : Is E C147_0 (retK3 R147) (fun σ h => J147_0 E (σ p0) (σ p1) (σ p2) h) :=
  fun σ h => by kernel_rfl
def D147 : DF := ⟨3, 95, C147_0, R147⟩
noncomputable def S147 (E : Env) : Fun := fun args h => aS args fun r0 args => aS args fun r1 args => aS args fun r2 args => a0 args (J147_0 E r0 r1 r2 h)
theorem S147_eq (E : Env) (args : List DV) (h : H) : runFn E D147 args h = S147 E args h :=
  Is.fn3 (d := D147) (I147_0 E) rfl (fun r0 r1 r2 h => J147_0 E r0 r1 r2 h) (fun r0 r1 r2 h => by kernel_rfl) args h
/- hurdle/bytes.zeros -/
def R148 : List RV := [(.r p2)]
noncomputable def J148_0 (E : Env) (r0 : DV) (h : H) : Ans :=
  wK (callK E 167 [(.str [0]), r0] h) fun x1 h2 =>
  some (x1, h2)
def C148_0 : DC := (.seq (.reg [⟨(some p2), none, (.e (.mv (.c (.str []))))⟩]) (.seq (.reg [⟨(some p3), none, (.e (.mv (.r p0)))⟩, ⟨(some p4), none, (.c (.f 167 [(.c (.str [0])), (.r p3)]))⟩, ⟨(some p2), none, (.e (.mv (.r p4)))⟩]) .ret))
theorem I148_0 (E : Env) : Is E C148_0 (retK3 R148) (fun σ h => J148_0 E (σ p0) h) :=
  fun σ h => by kernel_rfl
def D148 : DF := ⟨1, 5, C148_0, R148⟩
noncomputable def S148 (E : Env) : Fun := fun args h => aS args fun r0 args => a0 args (J148_0 E r0 h)
theorem S148_eq (E : Env) (args : List DV) (h : H) : runFn E D148 args h = S148 E args h :=
  Is.fn1 (d := D148) (I148_0 E) rfl (fun r0 h => J148_0 E r0 h) (fun r0 h => by kernel_rfl) args h
/- (*hurdle/codec.Writer).Texts -/
def R149 : List RV := []
noncomputable def J149_0 (E : Env) (r0 r1 : DV) (h : H) : Ans :=
  n_box r1 h fun x1 h2 =>
  wK (callK E 103 [r0, (.fn (.func 168) [] [x1])] h2) fun x3 h4 =>
  some ((.tup []), h4)
def C149_0 : DC := (.seq (.reg [⟨(some p3), none, (.e (.box (.r p1)))⟩]) (.reg [⟨(some p4), none, (.e (.mv (.r p0)))⟩, ⟨(some p5), none, (.e (.mkF (.func 168) [] [(.r p3)]))⟩, ⟨(some p6), none, (.c (.f 103 [(.r p4), (.r p5)]))⟩]))
theorem I149_0 (E : Env) : Is E C149_0 (retK3 R149) (fun σ h => J149_0 E (σ p0) (σ p1) h) :=
  fun σ h => by kernel_rfl
def D149 : DF := ⟨2, 7, C149_0, R149⟩
noncomputable def S149 (E : Env) : Fun := fun args h => aS args fun r0 args => aS args fun r1 args => a0 args (J149_0 E r0 r1 h)
theorem S149_eq (E : Env) (args : List DV) (h : H) : runFn E D149 args h = S149 E args h :=
  Is.fn2 (d := D149) (I149_0 E) rfl (fun r0 r1 h => J149_0 E r0 r1 h) (fun r0 r1 h => by kernel_rfl) args h
/- strings.Split -/
def R161 : List RV := [(.r p4)]
noncomputable def J161_0 (E : Env) (r0 r1 : DV) (h : H) : Ans :=
  wK (callK E 172 [r0, r1, (.int .i64 (.ofNat 0)), (.int .i64 (.negSucc 0))] h) fun x1 h2 =>
  some (x1, h2)
def C161_0 : DC := (.seq (.reg [⟨(some p4), none, (.e (.mv (.c .nils)))⟩]) (.seq (.reg [⟨(some p5), none, (.e (.mv (.r p0)))⟩, ⟨(some p6), none, (.e (.mv (.r p1)))⟩, ⟨(some p7), none, (.c (.f 172 [(.r p5), (.r p6), (.c (.int .i64 (.ofNat 0))), (.c (.int .i64 (.negSucc 0)))]))⟩, ⟨(some p4), none, (.e (.mv (.r p7)))⟩]) .ret))
theorem I161_0 (E : Env) : Is E C161_0 (retK3 R161) (fun σ h => J161_0 E (σ p0) (σ p1) h) :=
  fun σ h => by kernel_rfl
def D161 : DF := ⟨2, 8, C161_0, R161⟩
noncomputable def S161 (E : Env) : Fun := fun args h => aS args fun r0 args => aS args fun r1 args => a0 args (J161_0 E r0 r1 h)
theorem S161_eq (E : Env) (args : List DV) (h : H) : runFn E D161 args h = S161 E args h :=
  Is.fn2 (d := D161) (I161_0 E) rfl (fun r0 r1 h => J161_0 E r0 r1 h) (fun r0 r1 h => by kernel_rfl) args h
/- hurdle/dirs.search[hurdle/dirs.entry,string] -/
def R162 : List RV := [(.r p6), (.r p7)]
noncomputable def J162_1 (E : Env) (r0 r1 r2 r8 : DV) (h : H) : Ans :=
  vK (v_lenL r0) fun x1 =>
  vK (v_lss r8 x1) fun x2 =>
  gdK x2 true (fun kk => kk r2 h) h fun x3 h4 =>
  gdK x2 true (fun kk => kk r0 h4) h4 fun x5 h6 =>
  gdK x2 true (fun kk => kk r8 h6) h6 fun x7 h8 =>
  gdK x2 true (fun kk => vK (v_iaS 2 x5 x7) fun v => kk v h8) h8 fun x9 h10 =>
  gdK x2 true (fun kk => vK (v_ldN 2 h10.get x9) fun v => kk v h10) h10 fun x11 h12 =>
  gdK x2 true (fun kk => wK (c_val E x3 [x11] h12) kk) h12 fun x13 h14 =>
  gdK x2 true (fun kk => kk r1 h14) h14 fun x15 h16 =>
  gdK x2 true (fun kk => vK (v_eql x13 x15) fun v => kk v h16) h16 fun x17 h18 =>
  vK (v_pick x2 x17 (.bool false)) fun x19 =>
  some ((.tup [r8, x19]), h18)
def C162_1 : DC := (.seq (.reg [⟨(some p31), none, (.e (.mv (.r p8)))⟩, ⟨(some p32), none, (.e (.mv (.r p8)))⟩, ⟨(some p33), none, (.e (.mv (.r p0)))⟩, ⟨(some p34), none, (.e (.lenL (.r p33)))⟩, ⟨(some p35), none, (.e (.bin .lss (.r p32) (.r p34)))⟩, ⟨(some p36), none, (.e (.mv (.r p35)))⟩, ⟨(some p37), (some (p36, true)), (.e (.mv (.r p2)))⟩, ⟨(some p38), (some (p36, true)), (.e (.mv (.r p0)))⟩, ⟨(some p39), (some (p36, true)), (.e (.mv (.r p8)))⟩, ⟨(some p40), (some (p36, true)), (.e (.iaS 2 (.r p38) (.r p39)))⟩, ⟨(some p41), (some (p36, true)), (.e (.ldN 2 (.r p40)))⟩, ⟨(some p42), (some (p36, true)), (.c (.v (.r p37) [(.r p41)]))⟩, ⟨(some p43), (some (p36, true)), (.e (.mv (.r p1)))⟩, ⟨(some p44), (some (p36, true)), (.e (.bin .eql (.r p42) (.r p43)))⟩, ⟨(some p45), none, (.e (.pick (.r p36) (.r p44) (.c (.bool false))))⟩, ⟨(some p6), none, (.e (.mv (.r p31)))⟩, ⟨(some p7), none, (.e (.mv (.r p45)))⟩]) .ret)
noncomputable def B162_2 (E : Env) (r0 r1 r2 : DV) (i2 : DV → DV → H → Ans) (r8 r9 : DV) (h : H) : Ans :=
  vK (v_lss r8 r9) fun x1 =>
  bK x1
  (vK (v_add r8 r9) fun x2 =>
  vK (v_quo x2 (.int .i64 (.ofNat 2))) fun x3 =>
  vK (v_iaS 2 r0 x3) fun x4 =>
  vK (v_ldN 2 h.get x4) fun x5 =>
  wK (c_val E r2 [x5] h) fun x6 h7 =>
  vK (v_lss x6 r1) fun x8 =>
  bK x8
  (vK (v_add x3 (.int .i64 (.ofNat 1))) fun x9 =>
  i2 x9 r9 h7)
  (i2 r8 x3 h7))
  (J162_1 E r0 r1 r2 r8 h)
noncomputable def L162_2 (E : Env) (r0 r1 r2 : DV) (n : Nat) : DV → DV → H → Ans := Nat.rec (motive := fun _ => DV → DV → H → Ans) (fun _ _ _ => none) (fun _ i => B162_2 E r0 r1 r2 i) n
def C162_2 : DC := (.loop (.seq (.seq (.reg [⟨(some p13), none, (.e (.mv (.r p8)))⟩, ⟨(some p14), none, (.e (.mv (.r p9)))⟩, ⟨(some p15), none, (.e (.bin .lss (.r p13) (.r p14)))⟩]) (.cond (.r p15) .skip (.exit 0))) (.block 1 (.seq (.reg [⟨(some p16), none, (.e (.mv (.r p8)))⟩, ⟨(some p17), none, (.e (.mv (.r p9)))⟩, ⟨(some p18), none, (.e (.bin .add (.r p16) (.r p17)))⟩, ⟨(some p19), none, (.e (.bin .quo (.r p18) (.c (.int .i64 (.ofNat 2)))))⟩, ⟨(some p10), none, (.e (.mv (.r p19)))⟩]) (.seq (.reg [⟨(some p20), none, (.e (.mv (.r p2)))⟩, ⟨(some p21), none, (.e (.mv (.r p0)))⟩, ⟨(some p22), none, (.e (.mv (.r p10)))⟩, ⟨(some p23), none, (.e (.iaS 2 (.r p21) (.r p22)))⟩, ⟨(some p24), none, (.e (.ldN 2 (.r p23)))⟩, ⟨(some p25), none, (.c (.v (.r p20) [(.r p24)]))⟩, ⟨(some p26), none, (.e (.mv (.r p1)))⟩, ⟨(some p27), none, (.e (.bin .lss (.r p25) (.r p26)))⟩]) (.cond (.r p27) (.reg [⟨(some p28), none, (.e (.mv (.r p10)))⟩, ⟨(some p29), none, (.e (.bin .add (.r p28) (.c (.int .i64 (.ofNat 1)))))⟩, ⟨(some p8), none, (.e (.mv (.r p29)))⟩]) (.reg [⟨(some p30), none, (.e (.mv (.r p10)))⟩, ⟨(some p9), none, (.e (.mv (.r p30)))⟩])))))))
noncomputable def J162_0 (E : Env) (r0 r1 r2 : DV) (h : H) : Ans :=
  vK (v_lenL r0) fun x1 =>
  L162_2 E r0 r1 r2 FUEL (.int .i64 (.ofNat 0)) x1 h
def C162_0 : DC := (.seq (.reg [⟨(some p6), none, (.e (.mv (.c (.int .i64 (.ofNat 0)))))⟩, ⟨(some p7), none, (.e (.mv (.c (.bool false))))⟩]) (.seq (.reg [⟨(some p11), none, (.e (.mv (.r p0)))⟩, ⟨(some p12), none, (.e (.lenL (.r p11)))⟩, ⟨(some p8), none, (.e (.mv (.c (.int .i64 (.ofNat 0)))))⟩, ⟨(some p9), none, (.e (.mv (.r p12)))⟩]) (.seq (.block 0 C162_2) C162_1)))
theorem I162_1 (E : Env) : Is E C162_1 (retK3 R162) (fun σ h => J162_1 E (σ p0) (σ p1) (σ p2) (σ p8) h) :=
  fun σ h => by kernel_rfl
noncomputable abbrev K162_3 (E : Env) : KT2 (DV × H) := (thenK3 (fun σ h => J162_1 E (σ p0) (σ p1) (σ p2) (σ p8) h) (retK3 R162))
theorem I162_2 (E : Env) : Is E C162_2 (blockK3 0 (K162_3 E)) (fun σ h => L162_2 E (σ p0) (σ p1) (σ p2) FUEL (σ p8) (σ p9) h) :=
  Is.loop (fun n2 σ h => L162_2 E (σ p0) (σ p1) (σ p2) n2 (σ p8) (σ p9) h) (by kernel_rfl) fun n2 => Is.as (Is.leaf _) fun σ h => by kernel_rfl
theorem I162_0 (E : Env) : Is E C162_0 (retK3 R162) (fun σ h => J162_0 E (σ p0) (σ p1) (σ p2) h) :=
  Is.as (Is.seq (Is.seq (Is.seq (I162_1 E) (Is.block (I162_2 E))) (Is.leaf _)) (Is.leaf _)) fun σ h => by kernel_rfl
def D162 : DF := ⟨3, 46, C162_0, R162⟩
noncomputable def S162 (E : Env) : Fun := fun args h => aS args fun r0 args => aS args fun r1 args => aS args fun r2 args => a0 args (J162_0 E r0 r1 r2 h)
theorem S162_eq (E : Env) (args : List DV) (h : H) : runFn E D162 args h = S162 E args h :=
  Is.fn3 (d := D162) (I162_0 E) rfl (fun r0 r1 r2 h => J162_0 E r0 r1 r2 h) (fun r0 r1 r2 h => by kernel_rfl) args h
/- (*hurdle/dirs.Dir).find$1 -/
def R163 : List RV := [(.r p2)]
noncomputable def J163_0 (E : Env) (r0 : DV) (h : H) : Ans :=
  n_box r0 h fun x1 h2 =>
  vK (v_fa 0 x1) fun x3 =>
  vK (v_ld h2.get x3) fun x4 =>
  some (x4, h2)
def C163_0 : DC := (.seq (.reg [⟨(some p1), none, (.e (.box (.r p0)))⟩, ⟨(some p2), none, (.e (.mv (.c (.str []))))⟩]) (.seq (.reg [⟨(some p3), none, (.e (.fa 0 (.r p1)))⟩, ⟨(some p4), none, (.e (.ld (.r p3)))⟩, ⟨(some p2), none, (.e (.mv (.r p4)))⟩]) .ret))
theorem I163_0 (E : Env) : Is E C163_0 (retK3 R163) (fun σ h => J163_0 E (σ p0) h) :=
  fun σ h => by kernel_rfl
def D163 : DF := ⟨1, 5, C163_0, R163⟩
noncomputable def S163 (E : Env) : Fun := fun args h => aS args fun r0 args => a0 args (J163_0 E r0 h)
theorem S163_eq (E : Env) (args : List DV) (h : H) : runFn E D163 args h = S163 E args h :=
  Is.fn1 (d := D163) (I163_0 E) rfl (fun r0 h => J163_0 E r0 h) (fun r0 h => by kernel_rfl) args h
/- strings.IndexByte -/
def R164 : List RV := [(.r p4)]
noncomputable def J164_0 (E : Env) (r0 r1 : DV) (h : H) : Ans :=
  wK (callK E 173 [r0, r1] h) fun x1 h2 =>
  some (x1, h2)
def C164_0 : DC := (.seq (.reg [⟨(some p4), none, (.e (.mv (.c (.int .i64 (.ofNat 0)))))⟩]) (.seq (.reg [⟨(some p5), none, (.e (.mv (.r p0)))⟩, ⟨(some p6), none, (.e (.mv (.r p1)))⟩, ⟨(some p7), none, (.c (.f 173 [(.r p5), (.r p6)]))⟩, ⟨(some p4), none, (.e (.mv (.r p7)))⟩]) .ret))
theorem I164_0 (E : Env) : Is E C164_0 (retK3 R164) (fun σ h => J164_0 E (σ p0) (σ p1) h) :=
  fun σ h => by kernel_rfl
def D164 : DF := ⟨2, 8, C164_0, R164⟩
noncomputable def S164 (E : Env) : Fun := fun args h => aS args fun r0 args => aS args fun r1 args => a0 args (J164_0 E r0 r1 h)
theorem S164_eq (E : Env) (args : List DV) (h : H) : runFn E D164 args h = S164 E args h :=
  Is.fn2 (d := D164) (I164_0 E) rfl (fun r0 r1 h => J164_0 E r0 r1 h) (fun r0 r1 h => by kernel_rfl) args h
/- slices.rotateRight[hurdle/dirs.entry] -/
def R166 : List RV := []
noncomputable def J166_0 (E : Env) (r0 r1 : DV) (h : H) : Ans :=
  vK (v_lenL r0) fun x1 =>
  vK (v_sub x1 r1) fun x2 =>
  wK (callK E 174 [r0, x2] h) fun x3 h4 =>
  some ((.tup []), h4)
def C166_0 : DC := (.reg [⟨(some p4), none, (.e (.mv (.r p0)))⟩, ⟨(some p5), none, (.e (.mv (.r p0)))⟩, ⟨(some p6), none, (.e (.lenL (.r p5)))⟩, ⟨(some p7), none, (.e (.mv (.r p1)))⟩, ⟨(some p8), none, (.e (.bin .sub (.r p6) (.r p7)))⟩, ⟨(some p9), none, (.c (.f 174 [(.r p4), (.r p8)]))⟩])
theorem I166_0 (E : Env) : Is E C166_0 (retK3 R166) (fun σ h => J166_0 E (σ p0) (σ p1) h) :=
  fun σ h => by kernel_rfl
def D166 : DF := ⟨2, 10, C166_0, R166⟩
noncomputable def S166 (E : Env) : Fun := fun args h => aS args fun r0 args => aS args fun r1 args => a0 args (J166_0 E r0 r1 h)
theorem S166_eq (E : Env) (args : List DV) (h : H) : runFn E D166 args h = S166 E args h :=
  Is.fn2 (d := D166) (I166_0 E) rfl (fun r0 r1 h => J166_0 E r0 r1 h) (fun r0 r1 h => by kernel_rfl) args h
/- (*hurdle/codec.Writer).Texts$1 -/
def R168 : List RV := [(.r p3)]
noncomputable def J168_1 (E : Env) (r0 : DV) (h : H) : Ans :=
  some (r0, h)
def C168_1 : DC := (.seq (.reg [⟨(some p20), none, (.e (.mv (.r p0)))⟩, ⟨(some p3), none, (.e (.mv (.r p20)))⟩]) .ret)
noncomputable def B168_2 (E : Env) (r10 r11 : DV) (i2 : DV → DV → H → Ans) (r0 r12 : DV) (h : H) : Ans :=
  vK (v_lss r12 r11) fun x1 =>
  bK x1
  (vK (v_iaS 1 r10 r12) fun x2 =>
  vK (v_ld h.get x2) fun x3 =>
  wK (callK E 108 [r0, x3] h) fun x4 h5 =>
  vK (v_add r12 (.int .i64 (.ofNat 1))) fun x6 =>
  i2 x4 x6 h5)
  (J168_1 E r0 h)
noncomputable def L168_2 (E : Env) (r10 r11 : DV) (n : Nat) : DV → DV → H → Ans := Nat.rec (motive := fun _ => DV → DV → H → Ans) (fun _ _ _ => none) (fun _ i => B168_2 E r10 r11 i) n
def C168_2 : DC := (.loop (.seq (.reg [⟨(some p13), none, (.e (.bin .lss (.r p12) (.r p11)))⟩]) (.seq (.cond (.r p13) .skip (.exit 0)) (.seq (.block 1 (.seq (.reg [⟨(some p14), none, (.e (.iaS 1 (.r p10) (.r p12)))⟩, ⟨(some p15), none, (.e (.ld (.r p14)))⟩, ⟨(some p5), none, (.e (.mv (.r p15)))⟩]) (.reg [⟨(some p16), none, (.e (.mv (.r p0)))⟩, ⟨(some p17), none, (.e (.mv (.r p5)))⟩, ⟨(some p18), none, (.c (.f 108 [(.r p16), (.r p17)]))⟩, ⟨(some p0), none, (.e (.mv (.r p18)))⟩]))) (.reg [⟨(some p19), none, (.e (.bin .add (.r p12) (.c (.int .i64 (.ofNat 1)))))⟩, ⟨(some p12), none, (.e (.mv (.r p19)))⟩])))))
noncomputable def J168_0 (E : Env) (r0 r1 : DV) (h : H) : Ans :=
  vK (v_ld h.get r1) fun x1 =>
  vK (v_lenL x1) fun x2 =>
  wK (callK E 106 [r0, x2] h) fun x3 h4 =>
  vK (v_ld h4.get r1) fun x5 =>
  vK (v_lenL x5) fun x6 =>
  L168_2 E x5 x6 FUEL x3 (.int .i64 (.ofNat 0)) h4
def C168_0 : DC := (.seq (.reg [⟨(some p3), none, (.e (.mv (.c .nils)))⟩]) (.seq (.reg [⟨(some p6), none, (.e (.mv (.r p0)))⟩, ⟨(some p7), none, (.e (.ld (.r p1)))⟩, ⟨(some p8), none, (.e (.lenL (.r p7)))⟩, ⟨(some p9), none, (.c (.f 106 [(.r p6), (.r p8)]))⟩, ⟨(some p0), none, (.e (.mv (.r p9)))⟩]) (.seq (.seq (.reg [⟨(some p10), none, (.e (.ld (.r p1)))⟩, ⟨(some p11), none, (.e (.lenL (.r p10)))⟩, ⟨(some p12), none, (.e (.mv (.c (.int .i64 (.ofNat 0)))))⟩]) (.block 0 C168_2)) C168_1)))
theorem I168_1 (E : Env) : Is E C168_1 (retK3 R168) (fun σ h => J168_1 E (σ p0) h) :=
  fun σ h => by kernel_rfl
noncomputable abbrev K168_3 (E : Env) : KT2 (DV × H) := (thenK3 (fun σ h => J168_1 E (σ p0) h) (retK3 R168))
theorem I168_2 (E : Env) : Is E C168_2 (blockK3 0 (K168_3 E)) (fun σ h => L168_2 E (σ p10) (σ p11) FUEL (σ p0) (σ p12) h) :=
  Is.loop (fun n2 σ h => L168_2 E (σ p10) (σ p11) n2 (σ p0) (σ p12) h) (by kernel_rfl) fun n2 => Is.as (Is.leaf _) fun σ h => by kernel_rfl
theorem I168_0 (E : Env) : Is E C168_0 (retK3 R168) (fun σ h => J168_0 E (σ p0) (σ p1) h) :=
  Is.as (Is.seq (Is.seq (Is.seq (I168_1 E) (Is.seq (Is.block (I168_2 E)) (Is.leaf _))) (Is.leaf _)) (Is.leaf _)) fun σ h => by kernel_rfl
def D168 : DF := ⟨2, 21, C168_0, R168⟩
noncomputable def S168 (E : Env) : Fun := fun args h => aS args fun r0 args => aS args fun r1 args => a0 args (J168_0 E r0 r1 h)
theorem S168_eq (E : Env) (args : List DV) (h : H) : runFn E D168 args h = S168 E args h :=
  Is.fn2 (d := D168) (I168_0 E) rfl (fun r0 r1 h => J168_0 E r0 r1 h) (fun r0 r1 h => by kernel_rfl) args h
/- strings.genSplit -/
def R172 : List RV := [(.r p8)]
noncomputable def J172_2 (E : Env) (r0 r9 r10 : DV) (h : H) : Ans :=
  vK (v_iaS 1 r9 r10) fun x1 =>
  wK (dStF 1 x1 r0 h) fun x2 h3 =>
  vK (v_add r10 (.int .i64 (.ofNat 1))) fun x4 =>
  vK (v_slL 1 r9 none (some x4)) fun x5 =>
  some (x5, h3)
def C172_2 : DC := (.seq (.reg [⟨(some p58), none, (.e (.mv (.r p9)))⟩, ⟨(some p59), none, (.e (.mv (.r p10)))⟩, ⟨(some p60), none, (.e (.mv (.r p0)))⟩, ⟨(some p61), none, (.e (.iaS 1 (.r p58) (.r p59)))⟩, ⟨none, none, (.w (.st 1 (.r p61) (.r p60)))⟩]) (.seq (.reg [⟨(some p62), none, (.e (.mv (.r p9)))⟩, ⟨(some p63), none, (.e (.mv (.r p10)))⟩, ⟨(some p64), none, (.e (.bin .add (.r p63) (.c (.int .i64 (.ofNat 1)))))⟩, ⟨(some p65), none, (.e (.slL 1 (.r p62) none (some (.r p64))))⟩, ⟨(some p8), none, (.e (.mv (.r p65)))⟩]) .ret))
noncomputable def B172_3 (E : Env) (r1 r2 r3 r9 : DV) (i3 : DV → DV → H → Ans) (r0 r10 : DV) (h : H) : Ans :=
  vK (v_lss r10 r3) fun x1 =>
  bK x1
  (wK (callK E 183 [r0, r1] h) fun x2 h3 =>
  vK (v_lss x2 (.int .i64 (.ofNat 0))) fun x4 =>
  bK x4
  (J172_2 E r0 r9 r10 h3)
  (vK (v_add x2 r2) fun x5 =>
  vK (v_slS r0 none (some x5)) fun x6 =>
  vK (v_iaS 1 r9 r10) fun x7 =>
  wK (dStF 1 x7 x6 h3) fun x8 h9 =>
  vK (v_lenS r1) fun x10 =>
  vK (v_add x2 x10) fun x11 =>
  vK (v_slS r0 (some x11) none) fun x12 =>
  vK (v_add r10 (.int .i64 (.ofNat 1))) fun x13 =>
  i3 x12 x13 h9))
  (J172_2 E r0 r9 r10 h)
noncomputable def L172_3 (E : Env) (r1 r2 r3 r9 : DV) (n : Nat) : DV → DV → H → Ans := Nat.rec (motive := fun _ => DV → DV → H → Ans) (fun _ _ _ => none) (fun _ i => B172_3 E r1 r2 r3 r9 i) n
def C172_3 : DC := (.loop (.seq (.seq (.reg [⟨(some p34), none, (.e (.mv (.r p10)))⟩, ⟨(some p35), none, (.e (.mv (.r p3)))⟩, ⟨(some p36), none, (.e (.bin .lss (.r p34) (.r p35)))⟩]) (.cond (.r p36) .skip (.exit 0))) (.block 1 (.seq (.reg [⟨(some p37), none, (.e (.mv (.r p0)))⟩, ⟨(some p38), none, (.e (.mv (.r p1)))⟩, ⟨(some p39), none, (.c (.f 183 [(.r p37), (.r p38)]))⟩, ⟨(some p11), none, (.e (.mv (.r p39)))⟩]) (.seq (.seq (.reg [⟨(some p40), none, (.e (.mv (.r p11)))⟩, ⟨(some p41), none, (.e (.bin .lss (.r p40) (.c (.int .i64 (.ofNat 0)))))⟩]) (.cond (.r p41) (.exit 0) .skip)) (.seq (.reg [⟨(some p42), none, (.e (.mv (.r p9)))⟩, ⟨(some p43), none, (.e (.mv (.r p10)))⟩, ⟨(some p44), none, (.e (.mv (.r p0)))⟩, ⟨(some p45), none, (.e (.mv (.r p11)))⟩, ⟨(some p46), none, (.e (.mv (.r p2)))⟩, ⟨(some p47), none, (.e (.bin .add (.r p45) (.r p46)))⟩, ⟨(some p48), none, (.e (.slS (.r p44) none (some (.r p47))))⟩, ⟨(some p49), none, (.e (.iaS 1 (.r p42) (.r p43)))⟩, ⟨none, none, (.w (.st 1 (.r p49) (.r p48)))⟩]) (.seq (.reg [⟨(some p50), none, (.e (.mv (.r p0)))⟩, ⟨(some p51), none, (.e (.mv (.r p11)))⟩, ⟨(some p52), none, (.e (.mv (.r p1)))⟩, ⟨(some p53), none, (.e (.lenS (.r p52)))⟩, ⟨(some p54), none, (.e (.bin .add (.r p51) (.r p53)))⟩, ⟨(some p55), none, (.e (.slS (.r p50) (some (.r p54)) none))⟩, ⟨(some p0), none, (.e (.mv (.r p55)))⟩]) (.reg [⟨(some p56), none, (.e (.mv (.r p10)))⟩, ⟨(some p57), none, (.e (.bin .add (.r p56) (.c (.int .i64 (.ofNat 1)))))⟩, ⟨(some p10), none, (.e (.mv (.r p57)))⟩]))))))))
noncomputable def J172_1 (E : Env) (r0 r1 r2 r3 : DV) (h : H) : Ans :=
  vK (v_lenS r0) fun x1 =>
  vK (v_add x1 (.int .i64 (.ofNat 1))) fun x2 =>
  vK (v_mn r3 x2) fun x3 =>
  n_mks 1 16 (.str []) x3 x3 h fun x4 h5 =>
  vK (v_sub x3 (.int .i64 (.ofNat 1))) fun x6 =>
  L172_3 E r1 r2 x6 x4 FUEL r0 (.int .i64 (.ofNat 0)) h5
def C172_1 : DC := (.seq (.reg [⟨(some p25), none, (.e (.mv (.r p3)))⟩, ⟨(some p26), none, (.e (.mv (.r p0)))⟩, ⟨(some p27), none, (.e (.lenS (.r p26)))⟩, ⟨(some p28), none, (.e (.bin .add (.r p27) (.c (.int .i64 (.ofNat 1)))))⟩, ⟨(some p29), none, (.e (.mn (.r p25) (.r p28)))⟩, ⟨(some p3), none, (.e (.mv (.r p29)))⟩]) (.seq (.reg [⟨(some p30), none, (.e (.mv (.r p3)))⟩, ⟨(some p31), none, (.e (.mks 1 16 (.str []) (.r p30) (.r p30)))⟩, ⟨(some p9), none, (.e (.mv (.r p31)))⟩]) (.seq (.reg [⟨(some p32), none, (.e (.mv (.r p3)))⟩, ⟨(some p33), none, (.e (.bin .sub (.r p32) (.c (.int .i64 (.ofNat 1)))))⟩, ⟨(some p3), none, (.e (.mv (.r p33)))⟩]) (.seq (.reg [⟨(some p10), none, (.e (.mv (.c (.int .i64 (.ofNat 0)))))⟩]) (.seq (.block 0 C172_3) C172_2)))))
noncomputable def J172_0 (E : Env) (r0 r1 r2 r3 : DV) (h : H) : Ans :=
  vK (v_eql r3 (.int .i64 (.ofNat 0))) fun x1 =>
  bK x1
  (some (.nils, h))
  (vK (v_eql r1 (.str [])) fun x2 =>
  bK x2
  (wK (callK E 181 [r0, r3] h) fun x3 h4 =>
  some (x3, h4))
  (vK (v_lss r3 (.int .i64 (.ofNat 0))) fun x5 =>
  bK x5
  (wK (callK E 182 [r0, r1] h) fun x6 h7 =>
  vK (v_add x6 (.int .i64 (.ofNat 1))) fun x8 =>
  J172_1 E r0 r1 r2 x8 h7)
  (J172_1 E r0 r1 r2 r3 h)))
def C172_0 : DC := (.seq (.reg [⟨(some p8), none, (.e (.mv (.c .nils)))⟩]) (.seq (.seq (.reg [⟨(some p12), none, (.e (.mv (.r p3)))⟩, ⟨(some p13), none, (.e (.bin .eql (.r p12) (.c (.int .i64 (.ofNat 0)))))⟩]) (.cond (.r p13) (.seq (.reg [⟨(some p8), none, (.e (.mv (.c .nils)))⟩]) .ret) .skip)) (.seq (.seq (.reg [⟨(some p14), none, (.e (.mv (.r p1)))⟩, ⟨(some p15), none, (.e (.bin .eql (.r p14) (.c (.str []))))⟩]) (.cond (.r p15) (.seq (.reg [⟨(some p16), none, (.e (.mv (.r p0)))⟩, ⟨(some p17), none, (.e (.mv (.r p3)))⟩, ⟨(some p18), none, (.c (.f 181 [(.r p16), (.r p17)]))⟩, ⟨(some p8), none, (.e (.mv (.r p18)))⟩]) .ret) .skip)) (.seq (.seq (.reg [⟨(some p19), none, (.e (.mv (.r p3)))⟩, ⟨(some p20), none, (.e (.bin .lss (.r p19) (.c (.int .i64 (.ofNat 0)))))⟩]) (.cond (.r p20) (.reg [⟨(some p21), none, (.e (.mv (.r p0)))⟩, ⟨(some p22), none, (.e (.mv (.r p1)))⟩, ⟨(some p23), none, (.c (.f 182 [(.r p21), (.r p22)]))⟩, ⟨(some p24), none, (.e (.bin .add (.r p23) (.c (.int .i64 (.ofNat 1)))))⟩, ⟨(some p3), none, (.e (.mv (.r p24)))⟩]) .skip)) C172_1))))
theorem I172_2 (E : Env) : Is E C172_2 (retK3 R172) (fun σ h => J172_2 E (σ p0) (σ p9) (σ p10) h) :=
  fun σ h => by kernel_rfl
noncomputable abbrev K172_4 (E : Env) : KT2 (DV × H) := (thenK3 (fun σ h => J172_2 E (σ p0) (σ p9) (σ p10) h) (retK3 R172))
theorem I172_3 (E : Env) : Is E C172_3 (blockK3 0 (K172_4 E)) (fun σ h => L172_3 E (σ p1) (σ p2) (σ p3) (σ p9) FUEL (σ p0) (σ p10) h) :=
  Is.loop (fun n3 σ h => L172_3 E (σ p1) (σ p2) (σ p3) (σ p9) n3 (σ p0) (σ p10) h) (by kernel_rfl) fun n3 => Is.as (Is.leaf _) fun σ h => by kernel_rfl
theorem I172_1 (E : Env) : Is E C172_1 (retK3 R172) (fun σ h => J172_1 E (σ p0) (σ p1) (σ p2) (σ p3) h) :=
  Is.as (Is.seq (Is.seq (Is.seq (Is.seq (Is.seq (I172_2 E) (Is.block (I172_3 E))) (Is.leaf _)) (Is.leaf _)) (Is.leaf _)) (Is.leaf _)) fun σ h => by kernel_rfl
theorem I172_0 (E : Env) : Is E C172_0 (retK3 R172) (fun σ h => J172_0 E (σ p0) (σ p1) (σ p2) (σ p3) h) :=
  Is.as (Is.seq (Is.seq (Is.seq (Is.seq (I172_1 E) (Is.leaf _)) (Is.leaf _)) (Is.leaf _)) (Is.leaf _)) fun σ h => by kernel_rfl
def D172 : DF := ⟨4, 66, C172_0, R172⟩
noncomputable def S172 (E : Env) : Fun := fun args h => aS args fun r0 args => aS args fun r1 args => aS args fun r2 args => aS args fun r3 args => a0 args (J172_0 E r0 r1 r2 r3 h)
theorem S172_eq (E : Env) (args : List DV) (h : H) : runFn E D172 args h = S172 E args h :=
  Is.fn4 (d := D172) (I172_0 E) rfl (fun r0 r1 r2 r3 h => J172_0 E r0 r1 r2 r3 h) (fun r0 r1 r2 r3 h => by kernel_rfl) args h
/- internal/stringslite.IndexByte -/
def R173 : List RV := [(.r p4)]
noncomputable def J173_0 (E : Env) (r0 r1 : DV) (h : H) : Ans :=
  vK (v_idxB r0 r1) fun x1 =>
  some (x1, h)
def C173_0 : DC := (.seq (.reg [⟨(some p4), none, (.e (.mv (.c (.int .i64 (.ofNat 0)))))⟩]) (.seq (.reg [⟨(some p5), none, (.e (.mv (.r p0)))⟩, ⟨(some p6), none, (.e (.mv (.r p1)))⟩, ⟨(some p7), none, (.e (.prm .idx (.r p5) (.r p6)))⟩, ⟨(some p4), none, (.e (.mv (.r p7)))⟩]) .ret))
theorem I173_0 (E : Env) : Is E C173_0 (retK3 R173) (fun σ h => J173_0 E (σ p0) (σ p1) h) :=
  fun σ h => by kernel_rfl
def D173 : DF := ⟨2, 8, C173_0, R173⟩
noncomputable def S173 (E : Env) : Fun := fun args h => aS args fun r0 args => aS args fun r1 args => a0 args (J173_0 E r0 r1 h)
theorem S173_eq (E : Env) (args : List DV) (h : H) : runFn E D173 args h = S173 E args h :=
  Is.fn2 (d := D173) (I173_0 E) rfl (fun r0 r1 h => J173_0 E r0 r1 h) (fun r0 r1 h => by kernel_rfl) args h
/- slices.rotateLeft[hurdle/dirs.entry] -/
def R174 : List RV := []
noncomputable def J174_0 (E : Env) (r0 r1 : DV) (h : H) : Ans :=
  vK (v_slL 2 r0 none (some r1)) fun x1 =>
  wK (callK E 185 [x1] h) fun x2 h3 =>
  vK (v_slL 2 r0 (some r1) none) fun x4 =>
  wK (callK E 185 [x4] h3) fun x5 h6 =>
  wK (callK E 185 [r0] h6) fun x7 h8 =>
  some ((.tup []), h8)
def C174_0 : DC := (.seq (.reg [⟨(some p4), none, (.e (.mv (.r p0)))⟩, ⟨(some p5), none, (.e (.mv (.r p1)))⟩, ⟨(some p6), none, (.e (.slL 2 (.r p4) none (some (.r p5))))⟩, ⟨(some p7), none, (.c (.f 185 [(.r p6)]))⟩]) (.seq (.reg [⟨(some p8), none, (.e (.mv (.r p0)))⟩, ⟨(some p9), none, (.e (.mv (.r p1)))⟩, ⟨(some p10), none, (.e (.slL 2 (.r p8) (some (.r p9)) none))⟩, ⟨(some p11), none, (.c (.f 185 [(.r p10)]))⟩]) (.reg [⟨(some p12), none, (.e (.mv (.r p0)))⟩, ⟨(some p13), none, (.c (.f 185 [(.r p12)]))⟩])))
theorem I174_0 (E : Env) : Is E C174_0 (retK3 R174) (fun σ h => J174_0 E (σ p0) (σ p1) h) :=
  fun σ h => by kernel_rfl
def D174 : DF := ⟨2, 14, C174_0, R174⟩
noncomputable def S174 (E : Env) : Fun := fun args h => aS args fun r0 args => aS args fun r1 args => a0 args (J174_0 E r0 r1 h)
theorem S174_eq (E : Env) (args : List DV) (h : H) : runFn E D174 args h = S174 E args h :=
  Is.fn2 (d := D174) (I174_0 E) rfl (fun r0 r1 h => J174_0 E r0 r1 h) (fun r0 r1 h => by kernel_rfl) args h
/- strings.explode -/
def R181 : List RV := [(.r p4)]
noncomputable def J181_4 (E : Env) (r6 : DV) (h : H) : Ans :=
  some (r6, h)
def C181_4 : DC := (.seq (.reg [⟨(some p49), none, (.e (.mv (.r p6)))⟩, ⟨(some p4), none, (.e (.mv (.r p49)))⟩]) .ret)
noncomputable def J181_2 (E : Env) (r0 r1 r6 : DV) (h : H) : Ans :=
  vK (v_gtr r1 (.int .i64 (.ofNat 0))) fun x1 =>
  bK x1
  (vK (v_sub r1 (.int .i64 (.ofNat 1))) fun x2 =>
  vK (v_iaS 1 r6 x2) fun x3 =>
  wK (dStF 1 x3 r0 h) fun x4 h5 =>
  J181_4 E r6 h5)
  (J181_4 E r6 h)
def C181_2 : DC := (.seq (.seq (.reg [⟨(some p42), none, (.e (.mv (.r p1)))⟩, ⟨(some p43), none, (.e (.bin .gtr (.r p42) (.c (.int .i64 (.ofNat 0)))))⟩]) (.cond (.r p43) (.reg [⟨(some p44), none, (.e (.mv (.r p6)))⟩, ⟨(some p45), none, (.e (.mv (.r p1)))⟩, ⟨(some p46), none, (.e (.bin .sub (.r p45) (.c (.int .i64 (.ofNat 1)))))⟩, ⟨(some p47), none, (.e (.mv (.r p0)))⟩, ⟨(some p48), none, (.e (.iaS 1 (.r p44) (.r p46)))⟩, ⟨none, none, (.w (.st 1 (.r p48) (.r p47)))⟩]) .skip)) C181_4)
noncomputable def B181_3 (E : Env) (r1 r6 : DV) (i3 : DV → DV → H → Ans) (r0 r7 : DV) (h : H) : Ans :=
  vK (v_sub r1 (.int .i64 (.ofNat 1))) fun x1 =>
  vK (v_lss r7 x1) fun x2 =>
  bK x2
  (wK (callK E 192 [r0] h) fun x3 h4 =>
  vK (v_ext 0 x3) fun x5 =>
  vK (v_ext 1 x3) fun x6 =>
  vK (v_slS r0 none (some x6)) fun x7 =>
  vK (v_iaS 1 r6 r7) fun x8 =>
  wK (dStF 1 x8 x7 h4) fun x9 h10 =>
  vK (v_slS r0 (some x6) none) fun x11 =>
  vK (v_add r7 (.int .i64 (.ofNat 1))) fun x12 =>
  i3 x11 x12 h10)
  (J181_2 E r0 r1 r6 h)
noncomputable def L181_3 (E : Env) (r1 r6 : DV) (n : Nat) : DV → DV → H → Ans := Nat.rec (motive := fun _ => DV → DV → H → Ans) (fun _ _ _ => none) (fun _ i => B181_3 E r1 r6 i) n
def C181_3 : DC := (.loop (.seq (.seq (.reg [⟨(some p22), none, (.e (.mv (.r p7)))⟩, ⟨(some p23), none, (.e (.mv (.r p1)))⟩, ⟨(some p24), none, (.e (.bin .sub (.r p23) (.c (.int .i64 (.ofNat 1)))))⟩, ⟨(some p25), none, (.e (.bin .lss (.r p22) (.r p24)))⟩]) (.cond (.r p25) .skip (.exit 0))) (.seq (.block 1 (.seq (.reg [⟨(some p29), none, (.e (.mv (.r p0)))⟩, ⟨(some p30), none, (.c (.f 192 [(.r p29)]))⟩, ⟨(some p28), none, (.e (.mv (.r p30)))⟩, ⟨(some p31), none, (.e (.ext 0 (.r p28)))⟩, ⟨(some p32), none, (.e (.ext 1 (.r p28)))⟩, ⟨(some p8), none, (.e (.mv (.r p31)))⟩, ⟨(some p9), none, (.e (.mv (.r p32)))⟩]) (.seq (.reg [⟨(some p33), none, (.e (.mv (.r p6)))⟩, ⟨(some p34), none, (.e (.mv (.r p7)))⟩, ⟨(some p35), none, (.e (.mv (.r p0)))⟩, ⟨(some p36), none, (.e (.mv (.r p9)))⟩, ⟨(some p37), none, (.e (.slS (.r p35) none (some (.r p36))))⟩, ⟨(some p38), none, (.e (.iaS 1 (.r p33) (.r p34)))⟩, ⟨none, none, (.w (.st 1 (.r p38) (.r p37)))⟩]) (.reg [⟨(some p39), none, (.e (.mv (.r p0)))⟩, ⟨(some p40), none, (.e (.mv (.r p9)))⟩, ⟨(some p41), none, (.e (.slS (.r p39) (some (.r p40)) none))⟩, ⟨(some p0), none, (.e (.mv (.r p41)))⟩])))) (.reg [⟨(some p26), none, (.e (.mv (.r p7)))⟩, ⟨(some p27), none, (.e (.bin .add (.r p26) (.c (.int .i64 (.ofNat 1)))))⟩, ⟨(some p7), none, (.e (.mv (.r p27)))⟩]))))
noncomputable def J181_1 (E : Env) (r0 r1 : DV) (h : H) : Ans :=
  n_mks 1 16 (.str []) r1 r1 h fun x1 h2 =>
  L181_3 E r1 x1 FUEL r0 (.int .i64 (.ofNat 0)) h2
def C181_1 : DC := (.seq (.reg [⟨(some p20), none, (.e (.mv (.r p1)))⟩, ⟨(some p21), none, (.e (.mks 1 16 (.str []) (.r p20) (.r p20)))⟩, ⟨(some p6), none, (.e (.mv (.r p21)))⟩]) (.seq (.seq (.reg [⟨(some p7), none, (.e (.mv (.c (.int .i64 (.ofNat 0)))))⟩]) (.block 0 C181_3)) C181_2))
noncomputable def J181_0 (E : Env) (r0 r1 : DV) (h : H) : Ans :=
  wK (callK E 191 [r0] h) fun x1 h2 =>
  vK (v_lss r1 (.int .i64 (.ofNat 0))) fun x3 =>
  gdK x3 false (fun kk => kk r1 h2) h2 fun x4 h5 =>
  gdK x3 false (fun kk => kk x1 h5) h5 fun x6 h7 =>
  gdK x3 false (fun kk => vK (v_gtr x4 x6) fun v => kk v h7) h7 fun x8 h9 =>
  vK (v_pick x3 (.bool true) x8) fun x10 =>
  bK x10
  (J181_1 E r0 x1 h9)
  (J181_1 E r0 r1 h9)
def C181_0 : DC := (.seq (.reg [⟨(some p4), none, (.e (.mv (.c .nils)))⟩]) (.seq (.reg [⟨(some p10), none, (.e (.mv (.r p0)))⟩, ⟨(some p11), none, (.c (.f 191 [(.r p10)]))⟩, ⟨(some p5), none, (.e (.mv (.r p11)))⟩]) (.seq (.seq (.reg [⟨(some p12), none, (.e (.mv (.r p1)))⟩, ⟨(some p13), none, (.e (.bin .lss (.r p12) (.c (.int .i64 (.ofNat 0)))))⟩, ⟨(some p14), none, (.e (.mv (.r p13)))⟩, ⟨(some p15), (some (p14, false)), (.e (.mv (.r p1)))⟩, ⟨(some p16), (some (p14, false)), (.e (.mv (.r p5)))⟩, ⟨(some p17), (some (p14, false)), (.e (.bin .gtr (.r p15) (.r p16)))⟩, ⟨(some p18), none, (.e (.pick (.r p14) (.c (.bool true)) (.r p17)))⟩]) (.cond (.r p18) (.reg [⟨(some p19), none, (.e (.mv (.r p5)))⟩, ⟨(some p1), none, (.e (.mv (.r p19)))⟩]) .skip)) C181_1)))
theorem I181_4 (E : Env) : Is E C181_4 (retK3 R181) (fun σ h => J181_4 E (σ p6) h) :=
  fun σ h => by kernel_rfl
theorem I181_2 (E : Env) : Is E C181_2 (retK3 R181) (fun σ h => J181_2 E (σ p0) (σ p1) (σ p6) h) :=
  Is.as (Is.seq (I181_4 E) (Is.leaf _)) fun σ h => by kernel_rfl
noncomputable abbrev K181_5 (E : Env) : KT2 (DV × H) := (thenK3 (fun σ h => J181_2 E (σ p0) (σ p1) (σ p6) h) (retK3 R181))
theorem I181_3 (E : Env) : Is E C181_3 (blockK3 0 (K181_5 E)) (fun σ h => L181_3 E (σ p1) (σ p6) FUEL (σ p0) (σ p7) h) :=
  Is.loop (fun n3 σ h => L181_3 E (σ p1) (σ p6) n3 (σ p0) (σ p7) h) (by kernel_rfl) fun n3 => Is.as (Is.leaf _) fun σ h => by kernel_rfl
theorem I181_1 (E : Env) : Is E C181_1 (retK3 R181) (fun σ h => J181_1 E (σ p0) (σ p1) h) :=
  Is.as (Is.seq (Is.seq (I181_2 E) (Is.seq (Is.block (I181_3 E)) (Is.leaf _))) (Is.leaf _)) fun σ h => by kernel_rfl
theorem I181_0 (E : Env) : Is E C181_0 (retK3 R181) (fun σ h => J181_0 E (σ p0) (σ p1) h) :=
  Is.as (Is.seq (Is.seq (Is.seq (I181_1 E) (Is.leaf _)) (Is.leaf _)) (Is.leaf _)) fun σ h => by kernel_rfl
def D181 : DF := ⟨2, 50, C181_0, R181⟩
noncomputable def S181 (E : Env) : Fun := fun args h => aS args fun r0 args => aS args fun r1 args => a0 args (J181_0 E r0 r1 h)
theorem S181_eq (E : Env) (args : List DV) (h : H) : runFn E D181 args h = S181 E args h :=
  Is.fn2 (d := D181) (I181_0 E) rfl (fun r0 r1 h => J181_0 E r0 r1 h) (fun r0 r1 h => by kernel_rfl) args h
/- strings.Count -/
def R182 : List RV := [(.r p4)]
noncomputable def B182_1 (E : Env) (r1 : DV) (i1 : DV → DV → H → Ans) (r0 r5 : DV) (h : H) : Ans :=
  wK (callK E 183 [r0, r1] h) fun x1 h2 =>
  vK (v_eql x1 (.int .i64 (.negSucc 0))) fun x3 =>
  bK x3
  (some (r5, h2))
  (vK (v_add r5 (.int .i64 (.ofNat 1))) fun x4 =>
  vK (v_lenS r1) fun x5 =>
  vK (v_add x1 x5) fun x6 =>
  vK (v_slS r0 (some x6) none) fun x7 =>
  i1 x7 x4 h2)
noncomputable def L182_1 (E : Env) (r1 : DV) (n : Nat) : DV → DV → H → Ans := Nat.rec (motive := fun _ => DV → DV → H → Ans) (fun _ _ _ => none) (fun _ i => B182_1 E r1 i) n
def C182_1 : DC := (.loop (.block 1 (.seq (.reg [⟨(some p20), none, (.e (.mv (.r p0)))⟩, ⟨(some p21), none, (.e (.mv (.r p1)))⟩, ⟨(some p22), none, (.c (.f 183 [(.r p20), (.r p21)]))⟩, ⟨(some p6), none, (.e (.mv (.r p22)))⟩]) (.seq (.seq (.reg [⟨(some p23), none, (.e (.mv (.r p6)))⟩, ⟨(some p24), none, (.e (.bin .eql (.r p23) (.c (.int .i64 (.negSucc 0)))))⟩]) (.cond (.r p24) (.seq (.reg [⟨(some p25), none, (.e (.mv (.r p5)))⟩, ⟨(some p4), none, (.e (.mv (.r p25)))⟩]) .ret) .skip)) (.seq (.reg [⟨(some p26), none, (.e (.mv (.r p5)))⟩, ⟨(some p27), none, (.e (.bin .add (.r p26) (.c (.int .i64 (.ofNat 1)))))⟩, ⟨(some p5), none, (.e (.mv (.r p27)))⟩]) (.reg [⟨(some p28), none, (.e (.mv (.r p0)))⟩, ⟨(some p29), none, (.e (.mv (.r p6)))⟩, ⟨(some p30), none, (.e (.mv (.r p1)))⟩, ⟨(some p31), none, (.e (.lenS (.r p30)))⟩, ⟨(some p32), none, (.e (.bin .add (.r p29) (.r p31)))⟩, ⟨(some p33), none, (.e (.slS (.r p28) (some (.r p32)) none))⟩, ⟨(some p0), none, (.e (.mv (.r p33)))⟩]))))))
noncomputable def J182_0 (E : Env) (r0 r1 : DV) (h : H) : Ans :=
  vK (v_lenS r1) fun x1 =>
  vK (v_eql x1 (.int .i64 (.ofNat 0))) fun x2 =>
  bK x2
  (wK (callK E 191 [r0] h) fun x3 h4 =>
  vK (v_add x3 (.int .i64 (.ofNat 1))) fun x5 =>
  some (x5, h4))
  (vK (v_lenS r1) fun x6 =>
  vK (v_eql x6 (.int .i64 (.ofNat 1))) fun x7 =>
  bK x7
  (vK (v_ixS r1 (.int .i64 (.ofNat 0))) fun x8 =>
  vK (v_cntB r0 x8) fun x9 =>
  some (x9, h))
  (L182_1 E r1 FUEL r0 (.int .i64 (.ofNat 0)) h))
def C182_0 : DC := (.seq (.reg [⟨(some p4), none, (.e (.mv (.c (.int .i64 (.ofNat 0)))))⟩]) (.seq (.seq (.reg [⟨(some p7), none, (.e (.mv (.r p1)))⟩, ⟨(some p8), none, (.e (.lenS (.r p7)))⟩, ⟨(some p9), none, (.e (.bin .eql (.r p8) (.c (.int .i64 (.ofNat 0)))))⟩]) (.cond (.r p9) (.seq (.reg [⟨(some p10), none, (.e (.mv (.r p0)))⟩, ⟨(some p11), none, (.c (.f 191 [(.r p10)]))⟩, ⟨(some p12), none, (.e (.bin .add (.r p11) (.c (.int .i64 (.ofNat 1)))))⟩, ⟨(some p4), none, (.e (.mv (.r p12)))⟩]) .ret) .skip)) (.seq (.seq (.reg [⟨(some p13), none, (.e (.mv (.r p1)))⟩, ⟨(some p14), none, (.e (.lenS (.r p13)))⟩, ⟨(some p15), none, (.e (.bin .eql (.r p14) (.c (.int .i64 (.ofNat 1)))))⟩]) (.cond (.r p15) (.seq (.reg [⟨(some p16), none, (.e (.mv (.r p0)))⟩, ⟨(some p17), none, (.e (.mv (.r p1)))⟩, ⟨(some p18), none, (.e (.ixS (.r p17) (.c (.int .i64 (.ofNat 0)))))⟩, ⟨(some p19), none, (.e (.prm .cnt (.r p16) (.r p18)))⟩, ⟨(some p4), none, (.e (.mv (.r p19)))⟩]) .ret) .skip)) (.seq (.reg [⟨(some p5), none, (.e (.mv (.c (.int .i64 (.ofNat 0)))))⟩]) (.block 0 C182_1)))))
theorem I182_1 (E : Env) : Is E C182_1 (blockK3 0 (retK3 R182)) (fun σ h => L182_1 E (σ p1) FUEL (σ p0) (σ p5) h) :=
  Is.loop (fun n1 σ h => L182_1 E (σ p1) n1 (σ p0) (σ p5) h) (by kernel_rfl) fun n1 => Is.as (Is.leaf _) fun σ h => by kernel_rfl
theorem I182_0 (E : Env) : Is E C182_0 (retK3 R182) (fun σ h => J182_0 E (σ p0) (σ p1) h) :=
  Is.as (Is.seq (Is.seq (Is.seq (Is.seq (Is.block (I182_1 E)) (Is.leaf _)) (Is.leaf _)) (Is.leaf _)) (Is.leaf _)) fun σ h => by kernel_rfl
def D182 : DF := ⟨2, 34, C182_0, R182⟩
noncomputable def S182 (E : Env) : Fun := fun args h => aS args fun r0 args => aS args fun r1 args => a0 args (J182_0 E r0 r1 h)
theorem S182_eq (E : Env) (args : List DV) (h : H) : runFn E D182 args h = S182 E args h :=
  Is.fn2 (d := D182) (I182_0 E) rfl (fun r0 r1 h => J182_0 E r0 r1 h) (fun r0 r1 h => by kernel_rfl) args h
/- strings.Index -/
def R183 : List RV := [(.r p4)]
noncomputable def J183_0 (E : Env) (r0 r1 : DV) (h : H) : Ans :=
  wK (callK E 194 [r0, r1] h) fun x1 h2 =>
  some (x1, h2)
def C183_0 : DC := (.seq (.reg [⟨(some p4), none, (.e (.mv (.c (.int .i64 (.ofNat 0)))))⟩]) (.seq (.reg [⟨(some p5), none, (.e (.mv (.r p0)))⟩, ⟨(some p6), none, (.e (.mv (.r p1)))⟩, ⟨(some p7), none, (.c (.f 194 [(.r p5), (.r p6)]))⟩, ⟨(some p4), none, (.e (.mv (.r p7)))⟩]) .ret))
theorem I183_0 (E : Env) : Is E C183_0 (retK3 R183) (fun σ h => J183_0 E (σ p0) (σ p1) h) :=
  fun σ h => by kernel_rfl
def D183 : DF := ⟨2, 8, C183_0, R183⟩
noncomputable def S183 (E : Env) : Fun := fun args h => aS args fun r0 args => aS args fun r1 args => a0 args (J183_0 E r0 r1 h)
theorem S183_eq (E : Env) (args : List DV) (h : H) : runFn E D183 args h = S183 E args h :=
  Is.fn2 (d := D183) (I183_0 E) rfl (fun r0 r1 h => J183_0 E r0 r1 h) (fun r0 r1 h => by kernel_rfl) args h
/- slices.Reverse[[]hurdle/dirs.entry,hurdle/dirs.entry] -/
def R185 : List RV := []
noncomputable def B185_1 (E : Env) (r0 : DV) (i1 : DV → DV → H → Ans) (r2 r3 : DV) (h : H) : Ans :=
  vK (v_lss r2 r3) fun x1 =>
  bK x1
  (vK (v_iaS 2 r0 r3) fun x2 =>
  vK (v_ldN 2 h.get x2) fun x3 =>
  vK (v_iaS 2 r0 r2) fun x4 =>
  vK (v_ldN 2 h.get x4) fun x5 =>
  vK (v_iaS 2 r0 r2) fun x6 =>
  wK (dStF 2 x6 x3 h) fun x7 h8 =>
  vK (v_iaS 2 r0 r3) fun x9 =>
  wK (dStF 2 x9 x5 h8) fun x10 h11 =>
  vK (v_add r2 (.int .i64 (.ofNat 1))) fun x12 =>
  vK (v_sub r3 (.int .i64 (.ofNat 1))) fun x13 =>
  i1 x12 x13 h11)
  (some ((.tup []), h))
noncomputable def L185_1 (E : Env) (r0 : DV) (n : Nat) : DV → DV → H → Ans := Nat.rec (motive := fun _ => DV → DV → H → Ans) (fun _ _ _ => none) (fun _ i => B185_1 E r0 i) n
def C185_1 : DC := (.loop (.seq (.seq (.reg [⟨(some p7), none, (.e (.mv (.r p2)))⟩, ⟨(some p8), none, (.e (.mv (.r p3)))⟩, ⟨(some p9), none, (.e (.bin .lss (.r p7) (.r p8)))⟩]) (.cond (.r p9) .skip (.exit 0))) (.seq (.block 1 (.drg [⟨0, ⟨(some p14), none, (.e (.mv (.r p0)))⟩, [], false⟩, ⟨1, ⟨(some p15), none, (.e (.mv (.r p2)))⟩, [], false⟩, ⟨2, ⟨(some p16), none, (.e (.mv (.r p0)))⟩, [], false⟩, ⟨3, ⟨(some p17), none, (.e (.mv (.r p3)))⟩, [], false⟩, ⟨4, ⟨(some p18), none, (.e (.mv (.r p0)))⟩, [], false⟩, ⟨5, ⟨(some p19), none, (.e (.mv (.r p3)))⟩, [], false⟩, ⟨6, ⟨(some p20), none, (.e (.iaS 2 (.r p18) (.r p19)))⟩, [], false⟩, ⟨7, ⟨(some p21), none, (.e (.ldN 2 (.r p20)))⟩, [], false⟩, ⟨8, ⟨(some p22), none, (.e (.mv (.r p0)))⟩, [], false⟩, ⟨9, ⟨(some p23), none, (.e (.mv (.r p2)))⟩, [], false⟩, ⟨10, ⟨(some p24), none, (.e (.iaS 2 (.r p22) (.r p23)))⟩, [], false⟩, ⟨11, ⟨(some p25), none, (.e (.ldN 2 (.r p24)))⟩, [], false⟩, ⟨12, ⟨(some p26), none, (.e (.iaS 2 (.r p14) (.r p15)))⟩, [], false⟩, ⟨13, ⟨none, none, (.w (.st 2 (.r p26) (.r p21)))⟩, [], false⟩, ⟨14, ⟨(some p27), none, (.e (.iaS 2 (.r p16) (.r p17)))⟩, [], false⟩, ⟨15, ⟨none, none, (.w (.st 2 (.r p27) (.r p25)))⟩, [], false⟩])) (.reg [⟨(some p10), none, (.e (.mv (.r p2)))⟩, ⟨(some p11), none, (.e (.bin .add (.r p10) (.c (.int .i64 (.ofNat 1)))))⟩, ⟨(some p12), none, (.e (.mv (.r p3)))⟩, ⟨(some p13), none, (.e (.bin .sub (.r p12) (.c (.int .i64 (.ofNat 1)))))⟩, ⟨(some p2), none, (.e (.mv (.r p11)))⟩, ⟨(some p3), none, (.e (.mv (.r p13)))⟩]))))
noncomputable def J185_0 (E : Env) (r0 : DV) (h : H) : Ans :=
  vK (v_lenL r0) fun x1 =>
  vK (v_sub x1 (.int .i64 (.ofNat 1))) fun x2 =>
  L185_1 E r0 FUEL (.int .i64 (.ofNat 0)) x2 h
def C185_0 : DC := (.seq (.reg [⟨(some p4), none, (.e (.mv (.r p0)))⟩, ⟨(some p5), none, (.e (.lenL (.r p4)))⟩, ⟨(some p6), none, (.e (.bin .sub (.r p5) (.c (.int .i64 (.ofNat 1)))))⟩, ⟨(some p2), none, (.e (.mv (.c (.int .i64 (.ofNat 0)))))⟩, ⟨(some p3), none, (.e (.mv (.r p6)))⟩]) (.block 0 C185_1))
theorem I185_1 (E : Env) : Is E C185_1 (blockK3 0 (retK3 R185)) (fun σ h => L185_1 E (σ p0) FUEL (σ p2) (σ p3) h) :=
  Is.loop (fun n1 σ h => L185_1 E (σ p0) n1 (σ p2) (σ p3) h) (by kernel_rfl) fun n1 => Is.as (Is.leaf _) fun σ h => by kernel_rfl
theorem I185_0 (E : Env) : Is E C185_0 (retK3 R185) (fun σ h => J185_0 E (σ p0) h) :=
  Is.as (Is.seq (Is.block (I185_1 E)) (Is.leaf _)) fun σ h => by kernel_rfl
def D185 : DF := ⟨1, 28, C185_0, R185⟩
noncomputable def S185 (E : Env) : Fun := fun args h => aS args fun r0 args => a0 args (J185_0 E r0 h)
theorem S185_eq (E : Env) (args : List DV) (h : H) : runFn E D185 args h = S185 E args h :=
  Is.fn1 (d := D185) (I185_0 E) rfl (fun r0 h => J185_0 E r0 h) (fun r0 h => by kernel_rfl) args h
/- unicode/utf8.RuneCountInString -/
def R191 : List RV := [(.r p2)]
noncomputable def J191_1 (E : Env) (r2 : DV) (h : H) : Ans :=
  some (r2, h)
def C191_1 : DC := (.seq (.reg [⟨(some p9), none, (.e (.mv (.r p2)))⟩, ⟨(some p2), none, (.e (.mv (.r p9)))⟩]) .ret)
noncomputable def B191_2 (E : Env) (i2 : H → Ans) (h : H) : Ans :=
  none
noncomputable def L191_2 (E : Env) (n : Nat) : H → Ans := Nat.rec (motive := fun _ => H → Ans) (fun _ => none) (fun _ i => B191_2 E i) n
def C191_2 : DC := (.loop (.seq (.reg [⟨(some p5), none, (.e .bad)⟩, ⟨(some p6), none, (.e (.ext 0 (.r p5)))⟩]) (.seq (.cond (.r p6) .skip (.exit 0)) (.block 1 (.reg [⟨(some p7), none, (.e (.mv (.r p2)))⟩, ⟨(some p8), none, (.e (.bin .add (.r p7) (.c (.int .i64 (.ofNat 1)))))⟩, ⟨(some p2), none, (.e (.mv (.r p8)))⟩])))))
noncomputable def J191_0 (E : Env) (h : H) : Ans :=
  none
def C191_0 : DC := (.seq (.reg [⟨(some p2), none, (.e (.mv (.c (.int .i64 (.ofNat 0)))))⟩]) (.seq (.seq (.reg [⟨(some p3), none, (.e (.mv (.r p0)))⟩, ⟨(some p4), none, (.e .bad)⟩]) (.block 0 C191_2)) C191_1))
theorem I191_1 (E : Env) : Is E C191_1 (retK3 R191) (fun σ h => J191_1 E (σ p2) h) :=
  fun σ h => by kernel_rfl
noncomputable abbrev K191_3 (E : Env) : KT2 (DV × H) := (thenK3 (fun σ h => J191_1 E (σ p2) h) (retK3 R191))
theorem I191_2 (E : Env) : Is E C191_2 (blockK3 0 (K191_3 E)) (fun σ h => L191_2 E FUEL h) :=
  Is.loop (fun n2 σ h => L191_2 E n2 h) (by kernel_rfl) fun n2 => Is.as (Is.leaf _) fun σ h => by kernel_rfl
theorem I191_0 (E : Env) : Is E C191_0 (retK3 R191) (fun σ h => J191_0 E h) :=
  Is.as (Is.seq (Is.seq (I191_1 E) (Is.seq (Is.block (I191_2 E)) (Is.leaf _))) (Is.leaf _)) fun σ h => by kernel_rfl
def D191 : DF := ⟨1, 10, C191_0, R191⟩
noncomputable def S191 (E : Env) : Fun := fun args h => aS args fun r0 args => a0 args (J191_0 E h)
theorem S191_eq (E : Env) (args : List DV) (h : H) : runFn E D191 args h = S191 E args h :=
  Is.fn1 (d := D191) (I191_0 E) rfl (fun r0 h => J191_0 E h) (fun r0 h => by kernel_rfl) args h
/- unicode/utf8.DecodeRuneInString -/
def R192 : List RV := [(.r p2), (.r p3)]
noncomputable def J192_0 (E : Env) (r0 : DV) (h : H) : Ans :=
  vK (v_neq r0 (.str [])) fun x1 =>
  gdK x1 true (fun kk => kk r0 h) h fun x2 h3 =>
  gdK x1 true (fun kk => vK (v_ixS x2 (.int .i64 (.ofNat 0))) fun v => kk v h3) h3 fun x4 h5 =>
  gdK x1 true (fun kk => vK (v_lss x4 (.int .u8 (.ofNat 128))) fun v => kk v h5) h5 fun x6 h7 =>
  vK (v_pick x1 x6 (.bool false)) fun x8 =>
  bK x8
  (vK (v_ixS r0 (.int .i64 (.ofNat 0))) fun x9 =>
  vK (v_conv .i32 x9) fun x10 =>
  some ((.tup [x10, (.int .i64 (.ofNat 1))]), h7))
  (wK (callK E 197 [r0] h7) fun x11 h12 =>
  vK (v_ext 0 x11) fun x13 =>
  vK (v_ext 1 x11) fun x14 =>
  some ((.tup [x13, x14]), h12))
def C192_0 : DC := (.seq (.reg [⟨(some p2), none, (.e (.mv (.c (.int .i32 (.ofNat 0)))))⟩, ⟨(some p3), none, (.e (.mv (.c (.int .i64 (.ofNat 0)))))⟩]) (.seq (.seq (.reg [⟨(some p4), none, (.e (.mv (.r p0)))⟩, ⟨(some p5), none, (.e (.bin .neq (.r p4) (.c (.str []))))⟩, ⟨(some p6), none, (.e (.mv (.r p5)))⟩, ⟨(some p7), (some (p6, true)), (.e (.mv (.r p0)))⟩, ⟨(some p8), (some (p6, true)), (.e (.ixS (.r p7) (.c (.int .i64 (.ofNat 0)))))⟩, ⟨(some p9), (some (p6, true)), (.e (.bin .lss (.r p8) (.c (.int .u8 (.ofNat 128)))))⟩, ⟨(some p10), none, (.e (.pick (.r p6) (.r p9) (.c (.bool false))))⟩]) (.cond (.r p10) (.seq (.reg [⟨(some p11), none, (.e (.mv (.r p0)))⟩, ⟨(some p12), none, (.e (.ixS (.r p11) (.c (.int .i64 (.ofNat 0)))))⟩, ⟨(some p13), none, (.e (.conv .i32 (.r p12)))⟩, ⟨(some p2), none, (.e (.mv (.r p13)))⟩, ⟨(some p3), none, (.e (.mv (.c (.int .i64 (.ofNat 1)))))⟩]) .ret) (.reg [⟨(some p15), none, (.e (.mv (.r p0)))⟩, ⟨(some p16), none, (.c (.f 197 [(.r p15)]))⟩, ⟨(some p14), none, (.e (.mv (.r p16)))⟩, ⟨(some p17), none, (.e (.ext 0 (.r p14)))⟩, ⟨(some p18), none, (.e (.ext 1 (.r p14)))⟩, ⟨(some p2), none, (.e (.mv (.r p17)))⟩, ⟨(some p3), none, (.e (.mv (.r p18)))⟩]))) .ret))
theorem I192_0 (E : Env) : Is E C192_0 (retK3 R192) (fun σ h => J192_0 E (σ p0) h) :=
  fun σ h => by kernel_rfl
def D192 : DF := ⟨1, 19, C192_0, R192⟩
noncomputable def S192 (E : Env) : Fun := fun args h => aS args fun r0 args => a0 args (J192_0 E r0 h)
theorem S192_eq (E : Env) (args : List DV) (h : H) : runFn E D192 args h = S192 E args h :=
  Is.fn1 (d := D192) (I192_0 E) rfl (fun r0 h => J192_0 E r0 h) (fun r0 h => by kernel_rfl) args h
/- internal/stringslite.Index -/
def R194 : List RV := [(.r p4)]
noncomputable def J194_1 (E : Env) (h : H) : Ans :=
  some ((.int .i64 (.negSucc 0)), h)
def C194_1 : DC := (.seq (.reg [⟨(some p4), none, (.e (.mv (.c (.int .i64 (.negSucc 0)))))⟩]) .ret)
noncomputable def J194_3 (E : Env) (r0 r1 r5 r7 r8 r10 : DV) (h : H) : Ans :=
  vK (v_add r8 (.int .i64 (.ofNat 1))) fun x1 =>
  vK (v_ixS r0 x1) fun x2 =>
  vK (v_eql x2 r7) fun x3 =>
  gdK x3 true (fun kk => kk r0 h) h fun x4 h5 =>
  gdK x3 true (fun kk => kk r8 h5) h5 fun x6 h7 =>
  gdK x3 true (fun kk => kk r8 h7) h7 fun x8 h9 =>
  gdK x3 true (fun kk => kk r5 h9) h9 fun x10 h11 =>
  gdK x3 true (fun kk => vK (v_add x8 x10) fun v => kk v h11) h11 fun x12 h13 =>
  gdK x3 true (fun kk => vK (v_slS x4 (some x6) (some x12)) fun v => kk v h13) h13 fun x14 h15 =>
  gdK x3 true (fun kk => kk r1 h15) h15 fun x16 h17 =>
  gdK x3 true (fun kk => vK (v_eql x14 x16) fun v => kk v h17) h17 fun x18 h19 =>
  vK (v_pick x3 x18 (.bool false)) fun x20 =>
  bK x20
  (some (r8, h19))
  (vK (v_add r8 (.int .i64 (.ofNat 1))) fun x21 =>
  vK (v_add r10 (.int .i64 (.ofNat 1))) fun x22 =>
  none)
def C194_3 : DC := (.seq (.seq (.reg [⟨(some p78), none, (.e (.mv (.r p0)))⟩, ⟨(some p79), none, (.e (.mv (.r p8)))⟩, ⟨(some p80), none, (.e (.bin .add (.r p79) (.c (.int .i64 (.ofNat 1)))))⟩, ⟨(some p81), none, (.e (.ixS (.r p78) (.r p80)))⟩, ⟨(some p82), none, (.e (.mv (.r p7)))⟩, ⟨(some p83), none, (.e (.bin .eql (.r p81) (.r p82)))⟩, ⟨(some p84), none, (.e (.mv (.r p83)))⟩, ⟨(some p85), (some (p84, true)), (.e (.mv (.r p0)))⟩, ⟨(some p86), (some (p84, true)), (.e (.mv (.r p8)))⟩, ⟨(some p87), (some (p84, true)), (.e (.mv (.r p8)))⟩, ⟨(some p88), (some (p84, true)), (.e (.mv (.r p5)))⟩, ⟨(some p89), (some (p84, true)), (.e (.bin .add (.r p87) (.r p88)))⟩, ⟨(some p90), (some (p84, true)), (.e (.slS (.r p85) (some (.r p86)) (some (.r p89))))⟩, ⟨(some p91), (some (p84, true)), (.e (.mv (.r p1)))⟩, ⟨(some p92), (some (p84, true)), (.e (.bin .eql (.r p90) (.r p91)))⟩, ⟨(some p93), none, (.e (.pick (.r p84) (.r p92) (.c (.bool false))))⟩]) (.cond (.r p93) (.seq (.reg [⟨(some p94), none, (.e (.mv (.r p8)))⟩, ⟨(some p4), none, (.e (.mv (.r p94)))⟩]) .ret) .skip)) (.seq (.reg [⟨(some p95), none, (.e (.mv (.r p8)))⟩, ⟨(some p96), none, (.e (.bin .add (.r p95) (.c (.int .i64 (.ofNat 1)))))⟩, ⟨(some p8), none, (.e (.mv (.r p96)))⟩]) (.seq (.reg [⟨(some p97), none, (.e (.mv (.r p10)))⟩, ⟨(some p98), none, (.e (.bin .add (.r p97) (.c (.int .i64 (.ofNat 1)))))⟩, ⟨(some p10), none, (.e (.mv (.r p98)))⟩]) (.seq (.reg [⟨(some p99), none, (.e (.mv (.r p5)))⟩, ⟨(some p100), none, (.e .bad)⟩, ⟨(some p101), none, (.e (.bin .leq (.r p99) (.r p100)))⟩, ⟨(some p102), none, (.e (.mv (.r p101)))⟩, ⟨(some p103), (some (p102, true)), (.e (.mv (.r p10)))⟩, ⟨(some p104), (some (p102, true)), (.e (.mv (.r p8)))⟩, ⟨(some p105), (some (p102, true)), (.c (.f 199 [(.r p104)]))⟩, ⟨(some p106), (some (p102, true)), (.e (.bin .gtr (.r p103) (.r p105)))⟩, ⟨(some p107), none, (.e (.pick (.r p102) (.r p106) (.c (.bool false))))⟩]) (.cond (.r p107) (.seq (.reg [⟨(some p108), none, (.e (.mv (.r p0)))⟩, ⟨(some p109), none, (.e (.mv (.r p8)))⟩, ⟨(some p110), none, (.e (.slS (.r p108) (some (.r p109)) none))⟩, ⟨(some p111), none, (.e (.mv (.r p1)))⟩, ⟨(some p112), none, (.c (.f 198 [(.r p110), (.r p111)]))⟩, ⟨(some p12), none, (.e (.mv (.r p112)))⟩]) (.seq (.seq (.reg [⟨(some p113), none, (.e (.mv (.r p12)))⟩, ⟨(some p114), none, (.e (.bin .geq (.r p113) (.c (.int .i64 (.ofNat 0)))))⟩]) (.cond (.r p114) (.seq (.reg [⟨(some p115), none, (.e (.mv (.r p12)))⟩, ⟨(some p116), none, (.e (.mv (.r p8)))⟩, ⟨(some p117), none, (.e (.bin .add (.r p115) (.r p116)))⟩, ⟨(some p4), none, (.e (.mv (.r p117)))⟩]) .ret) .skip)) (.seq (.reg [⟨(some p4), none, (.e (.mv (.c (.int .i64 (.negSucc 0)))))⟩]) .ret))) (.seq (.reg [⟨(some p118), none, (.e (.mv (.r p5)))⟩, ⟨(some p119), none, (.e .bad)⟩, ⟨(some p120), none, (.e (.bin .gtr (.r p118) (.r p119)))⟩, ⟨(some p121), none, (.e (.mv (.r p120)))⟩, ⟨(some p122), (some (p121, true)), (.e (.mv (.r p10)))⟩, ⟨(some p123), (some (p121, true)), (.e (.mv (.r p8)))⟩, ⟨(some p124), (some (p121, true)), (.e (.bin .shr (.r p123) (.c (.int .u64 (.ofNat 4)))))⟩, ⟨(some p125), (some (p121, true)), (.e (.bin .add (.c (.int .i64 (.ofNat 4))) (.r p124)))⟩, ⟨(some p126), (some (p121, true)), (.e (.bin .geq (.r p122) (.r p125)))⟩, ⟨(some p127), none, (.e (.pick (.r p121) (.r p126) (.c (.bool false))))⟩, ⟨(some p128), none, (.e (.mv (.r p127)))⟩, ⟨(some p129), (some (p128, true)), (.e (.mv (.r p8)))⟩, ⟨(some p130), (some (p128, true)), (.e (.mv (.r p9)))⟩, ⟨(some p131), (some (p128, true)), (.e (.bin .lss (.r p129) (.r p130)))⟩, ⟨(some p132), none, (.e (.pick (.r p128) (.r p131) (.c (.bool false))))⟩]) (.cond (.r p132) (.seq (.reg [⟨(some p133), none, (.e (.mv (.r p0)))⟩, ⟨(some p134), none, (.e (.mv (.r p8)))⟩, ⟨(some p135), none, (.e (.slS (.r p133) (some (.r p134)) none))⟩, ⟨(some p136), none, (.e (.mv (.r p1)))⟩, ⟨(some p137), none, (.c (.f 200 [(.r p135), (.r p136)]))⟩, ⟨(some p13), none, (.e (.mv (.r p137)))⟩]) (.seq (.seq (.reg [⟨(some p138), none, (.e (.mv (.r p13)))⟩, ⟨(some p139), none, (.e (.bin .lss (.r p138) (.c (.int .i64 (.ofNat 0)))))⟩]) (.cond (.r p139) (.seq (.reg [⟨(some p4), none, (.e (.mv (.c (.int .i64 (.negSucc 0)))))⟩]) .ret) .skip)) (.seq (.reg [⟨(some p140), none, (.e (.mv (.r p8)))⟩, ⟨(some p141), none, (.e (.mv (.r p13)))⟩, ⟨(some p142), none, (.e (.bin .add (.r p140) (.r p141)))⟩, ⟨(some p4), none, (.e (.mv (.r p142)))⟩]) .ret))) .skip)))))))
noncomputable def B194_2 (E : Env) (r0 r1 r5 r6 r7 r9 : DV) (i2 : DV → DV → H → Ans) (r8 r10 : DV) (h : H) : Ans :=
  vK (v_lss r8 r9) fun x1 =>
  bK x1
  (vK (v_ixS r0 r8) fun x2 =>
  vK (v_neq x2 r6) fun x3 =>
  bK x3
  (vK (v_add r8 (.int .i64 (.ofNat 1))) fun x4 =>
  vK (v_slS r0 (some x4) (some r9)) fun x5 =>
  wK (callK E 173 [x5, r6] h) fun x6 h7 =>
  vK (v_lss x6 (.int .i64 (.ofNat 0))) fun x8 =>
  bK x8
  (some ((.int .i64 (.negSucc 0)), h7))
  (vK (v_add x6 (.int .i64 (.ofNat 1))) fun x9 =>
  vK (v_add r8 x9) fun x10 =>
  J194_3 E r0 r1 r5 r7 x10 r10 h7))
  (J194_3 E r0 r1 r5 r7 r8 r10 h))
  (J194_1 E h)
noncomputable def L194_2 (E : Env) (r0 r1 r5 r6 r7 r9 : DV) (n : Nat) : DV → DV → H → Ans := Nat.rec (motive := fun _ => DV → DV → H → Ans) (fun _ _ _ => none) (fun _ i => B194_2 E r0 r1 r5 r6 r7 r9 i) n
def C194_2 : DC := (.loop (.seq (.seq (.reg [⟨(some p57), none, (.e (.mv (.r p8)))⟩, ⟨(some p58), none, (.e (.mv (.r p9)))⟩, ⟨(some p59), none, (.e (.bin .lss (.r p57) (.r p58)))⟩]) (.cond (.r p59) .skip (.exit 1))) (.block 2 (.seq (.seq (.reg [⟨(some p60), none, (.e (.mv (.r p0)))⟩, ⟨(some p61), none, (.e (.mv (.r p8)))⟩, ⟨(some p62), none, (.e (.ixS (.r p60) (.r p61)))⟩, ⟨(some p63), none, (.e (.mv (.r p6)))⟩, ⟨(some p64), none, (.e (.bin .neq (.r p62) (.r p63)))⟩]) (.cond (.r p64) (.seq (.reg [⟨(some p65), none, (.e (.mv (.r p0)))⟩, ⟨(some p66), none, (.e (.mv (.r p8)))⟩, ⟨(some p67), none, (.e (.bin .add (.r p66) (.c (.int .i64 (.ofNat 1)))))⟩, ⟨(some p68), none, (.e (.mv (.r p9)))⟩, ⟨(some p69), none, (.e (.slS (.r p65) (some (.r p67)) (some (.r p68))))⟩, ⟨(some p70), none, (.e (.mv (.r p6)))⟩, ⟨(some p71), none, (.c (.f 173 [(.r p69), (.r p70)]))⟩, ⟨(some p11), none, (.e (.mv (.r p71)))⟩]) (.seq (.seq (.reg [⟨(some p72), none, (.e (.mv (.r p11)))⟩, ⟨(some p73), none, (.e (.bin .lss (.r p72) (.c (.int .i64 (.ofNat 0)))))⟩]) (.cond (.r p73) (.seq (.reg [⟨(some p4), none, (.e (.mv (.c (.int .i64 (.negSucc 0)))))⟩]) .ret) .skip)) (.reg [⟨(some p74), none, (.e (.mv (.r p8)))⟩, ⟨(some p75), none, (.e (.mv (.r p11)))⟩, ⟨(some p76), none, (.e (.bin .add (.r p75) (.c (.int .i64 (.ofNat 1)))))⟩, ⟨(some p77), none, (.e (.bin .add (.r p74) (.r p76)))⟩, ⟨(some p8), none, (.e (.mv (.r p77)))⟩]))) .skip)) C194_3))))
noncomputable def J194_0 (E : Env) (r0 r1 : DV) (h : H) : Ans :=
  vK (v_lenS r1) fun x1 =>
  vK (v_eql x1 (.int .i64 (.ofNat 0))) fun x2 =>
  gdK x2 false (fun kk => kk r1 h) h fun x3 h4 =>
  gdK x2 false (fun kk => kk r0 h4) h4 fun x5 h6 =>
  gdK x2 false (fun kk => vK (v_eql x3 x5) fun v => kk v h6) h6 fun x7 h8 =>
  vK (v_pick x2 (.bool true) x7) fun x9 =>
  bK x9
  (some ((.int .i64 (.ofNat 0)), h8))
  (vK (v_eql x1 (.int .i64 (.ofNat 1))) fun x10 =>
  bK x10
  (vK (v_ixS r1 (.int .i64 (.ofNat 0))) fun x11 =>
  wK (callK E 173 [r0, x11] h8) fun x12 h13 =>
  some (x12, h13))
  (vK (v_lenS r0) fun x14 =>
  vK (v_geq x1 x14) fun x15 =>
  bK x15
  (some ((.int .i64 (.negSucc 0)), h8))
  (none)))
def C194_0 : DC := (.seq (.reg [⟨(some p4), none, (.e (.mv (.c (.int .i64 (.ofNat 0)))))⟩]) (.seq (.reg [⟨(some p14), none, (.e (.mv (.r p1)))⟩, ⟨(some p15), none, (.e (.lenS (.r p14)))⟩, ⟨(some p5), none, (.e (.mv (.r p15)))⟩]) (.seq (.block 0 (.seq (.reg [⟨(some p17), none, (.e (.mv (.r p5)))⟩, ⟨(some p18), none, (.e (.bin .eql (.r p17) (.c (.int .i64 (.ofNat 0)))))⟩, ⟨(some p19), none, (.e (.mv (.r p18)))⟩, ⟨(some p20), (some (p19, false)), (.e (.mv (.r p1)))⟩, ⟨(some p21), (some (p19, false)), (.e (.mv (.r p0)))⟩, ⟨(some p22), (some (p19, false)), (.e (.bin .eql (.r p20) (.r p21)))⟩, ⟨(some p23), none, (.e (.pick (.r p19) (.c (.bool true)) (.r p22)))⟩, ⟨(some p16), none, (.e (.mv (.r p23)))⟩]) (.cond (.r p16) (.seq (.reg [⟨(some p4), none, (.e (.mv (.c (.int .i64 (.ofNat 0)))))⟩]) .ret) (.seq (.reg [⟨(some p25), none, (.e (.mv (.r p5)))⟩, ⟨(some p26), none, (.e (.bin .eql (.r p25) (.c (.int .i64 (.ofNat 1)))))⟩, ⟨(some p24), none, (.e (.mv (.r p26)))⟩]) (.cond (.r p24) (.seq (.reg [⟨(some p27), none, (.e (.mv (.r p0)))⟩, ⟨(some p28), none, (.e (.mv (.r p1)))⟩, ⟨(some p29), none, (.e (.ixS (.r p28) (.c (.int .i64 (.ofNat 0)))))⟩, ⟨(some p30), none, (.c (.f 173 [(.r p27), (.r p29)]))⟩, ⟨(some p4), none, (.e (.mv (.r p30)))⟩]) .ret) (.seq (.reg [⟨(some p32), none, (.e (.mv (.r p5)))⟩, ⟨(some p33), none, (.e (.mv (.r p0)))⟩, ⟨(some p34), none, (.e (.lenS (.r p33)))⟩, ⟨(some p35), none, (.e (.bin .geq (.r p32) (.r p34)))⟩, ⟨(some p31), none, (.e (.mv (.r p35)))⟩]) (.cond (.r p31) (.seq (.reg [⟨(some p4), none, (.e (.mv (.c (.int .i64 (.negSucc 0)))))⟩]) .ret) (.seq (.reg [⟨(some p37), none, (.e (.mv (.r p5)))⟩, ⟨(some p38), none, (.e .bad)⟩, ⟨(some p39), none, (.e (.bin .leq (.r p37) (.r p38)))⟩, ⟨(some p40), none, (.e (.mv (.r p39)))⟩, ⟨(some p41), (some (p40, true)), (.e (.mv (.r p0)))⟩, ⟨(some p42), (some (p40, true)), (.e (.lenS (.r p41)))⟩, ⟨(some p43), (some (p40, true)), (.e (.bin .leq (.r p42) (.c (.int .i64 (.ofNat 64)))))⟩, ⟨(some p44), none, (.e (.pick (.r p40) (.r p43) (.c (.bool false))))⟩, ⟨(some p36), none, (.e (.mv (.r p44)))⟩]) (.cond (.r p36) (.seq (.reg [⟨(some p45), none, (.e (.mv (.r p0)))⟩, ⟨(some p46), none, (.e (.mv (.r p1)))⟩, ⟨(some p47), none, (.c (.f 198 [(.r p45), (.r p46)]))⟩, ⟨(some p4), none, (.e (.mv (.r p47)))⟩]) .ret) .skip))))))))) (.seq (.reg [⟨(some p48), none, (.e (.mv (.r p1)))⟩, ⟨(some p49), none, (.e (.ixS (.r p48) (.c (.int .i64 (.ofNat 0)))))⟩, ⟨(some p6), none, (.e (.mv (.r p49)))⟩]) (.seq (.reg [⟨(some p50), none, (.e (.mv (.r p1)))⟩, ⟨(some p51), none, (.e (.ixS (.r p50) (.c (.int .i64 (.ofNat 1)))))⟩, ⟨(some p7), none, (.e (.mv (.r p51)))⟩]) (.seq (.reg [⟨(some p8), none, (.e (.mv (.c (.int .i64 (.ofNat 0)))))⟩]) (.seq (.reg [⟨(some p52), none, (.e (.mv (.r p0)))⟩, ⟨(some p53), none, (.e (.lenS (.r p52)))⟩, ⟨(some p54), none, (.e (.mv (.r p5)))⟩, ⟨(some p55), none, (.e (.bin .sub (.r p53) (.r p54)))⟩, ⟨(some p56), none, (.e (.bin .add (.r p55) (.c (.int .i64 (.ofNat 1)))))⟩, ⟨(some p9), none, (.e (.mv (.r p56)))⟩]) (.seq (.reg [⟨(some p10), none, (.e (.mv (.c (.int .i64 (.ofNat 0)))))⟩]) (.seq (.block 1 C194_2) C194_1)))))))))
theorem I194_1 (E : Env) : Is E C194_1 (retK3 R194) (fun σ h => J194_1 E h) :=
  fun σ h => by kernel_rfl
noncomputable abbrev K194_4 (E : Env) : KT2 (DV × H) := (blockK3 1 (thenK3 (fun σ h => J194_1 E h) (retK3 R194)))
noncomputable abbrev K194_5 (E : Env) (n2 : Nat) : KT2 (DV × H) := (thenK3 (fun σ h => (L194_2 E (σ p0) (σ p1) (σ p5) (σ p6) (σ p7) (σ p9) n2) (σ p8) (σ p10) h) (K194_4 E))
theorem I194_3 (E : Env) (n2 : Nat) : Is E C194_3 (blockK3 2 (K194_5 E n2)) (fun σ h => J194_3 E (σ p0) (σ p1) (σ p5) (σ p7) (σ p8) (σ p10) h) :=
  fun σ h => by kernel_rfl
theorem I194_2 (E : Env) : Is E C194_2 (K194_4 E) (fun σ h => L194_2 E (σ p0) (σ p1) (σ p5) (σ p6) (σ p7) (σ p9) FUEL (σ p8) (σ p10) h) :=
  Is.loop (fun n2 σ h => L194_2 E (σ p0) (σ p1) (σ p5) (σ p6) (σ p7) (σ p9) n2 (σ p8) (σ p10) h) (by kernel_rfl) fun n2 => Is.as (Is.seq (Is.block (Is.seq (I194_3 E n2) (Is.leaf _))) (Is.leaf _)) fun σ h => by kernel_rfl
theorem I194_0 (E : Env) : Is E C194_0 (retK3 R194) (fun σ h => J194_0 E (σ p0) (σ p1) h) :=
  Is.as (Is.seq (Is.seq (Is.seq (Is.seq (Is.seq (Is.seq (Is.seq (Is.seq (Is.seq (I194_1 E) (Is.block (I194_2 E))) (Is.leaf _)) (Is.leaf _)) (Is.leaf _)) (Is.leaf _)) (Is.leaf _)) (Is.leaf _)) (Is.leaf _)) (Is.leaf _)) fun σ h => by kernel_rfl
def D194 : DF := ⟨2, 143, C194_0, R194⟩
noncomputable def S194 (E : Env) : Fun := fun args h => aS args fun r0 args => aS args fun r1 args => a0 args (J194_0 E r0 r1 h)
theorem S194_eq (E : Env) (args : List DV) (h : H) : runFn E D194 args h = S194 E args h :=
  Is.fn2 (d := D194) (I194_0 E) rfl (fun r0 r1 h => J194_0 E r0 r1 h) (fun r0 r1 h => by kernel_rfl) args h
/- unicode/utf8.decodeRuneInStringSlow -/
def R197 : List RV := [(.r p2), (.r p3)]
noncomputable def J197_0 (E : Env) (r0 : DV) (h : H) : Ans :=
  vK (v_lenS r0) fun x1 =>
  vK (v_lss x1 (.int .i64 (.ofNat 1))) fun x2 =>
  bK x2
  (some ((.tup [(.int .i32 (.ofNat 65533)), (.int .i64 (.ofNat 0))]), h))
  (vK (v_ixS r0 (.int .i64 (.ofNat 0))) fun x3 =>
  none)
def C197_0 : DC := (.seq (.reg [⟨(some p2), none, (.e (.mv (.c (.int .i32 (.ofNat 0)))))⟩, ⟨(some p3), none, (.e (.mv (.c (.int .i64 (.ofNat 0)))))⟩]) (.seq (.reg [⟨(some p13), none, (.e (.mv (.r p0)))⟩, ⟨(some p14), none, (.e (.lenS (.r p13)))⟩, ⟨(some p4), none, (.e (.mv (.r p14)))⟩]) (.seq (.seq (.reg [⟨(some p15), none, (.e (.mv (.r p4)))⟩, ⟨(some p16), none, (.e (.bin .lss (.r p15) (.c (.int .i64 (.ofNat 1)))))⟩]) (.cond (.r p16) (.seq (.reg [⟨(some p2), none, (.e (.mv (.c (.int .i32 (.ofNat 65533)))))⟩, ⟨(some p3), none, (.e (.mv (.c (.int .i64 (.ofNat 0)))))⟩]) .ret) .skip)) (.seq (.reg [⟨(some p17), none, (.e (.mv (.r p0)))⟩, ⟨(some p18), none, (.e (.ixS (.r p17) (.c (.int .i64 (.ofNat 0)))))⟩, ⟨(some p5), none, (.e (.mv (.r p18)))⟩]) (.seq (.reg [⟨(some p19), none, (.e (.mv (.r p5)))⟩, ⟨(some p20), none, (.e .bad)⟩, ⟨(some p21), none, (.e (.ld (.r p20)))⟩, ⟨(some p6), none, (.e (.mv (.r p21)))⟩]) (.seq (.seq (.reg [⟨(some p22), none, (.e (.mv (.r p6)))⟩, ⟨(some p23), none, (.e (.bin .geq (.r p22) (.c (.int .u8 (.ofNat 240)))))⟩]) (.cond (.r p23) (.seq (.reg [⟨(some p24), none, (.e (.mv (.r p6)))⟩, ⟨(some p25), none, (.e (.conv .i32 (.r p24)))⟩, ⟨(some p26), none, (.e (.bin .shl (.r p25) (.c (.int .u64 (.ofNat 31)))))⟩, ⟨(some p27), none, (.e (.bin .shr (.r p26) (.c (.int .u64 (.ofNat 31)))))⟩, ⟨(some p7), none, (.e (.mv (.r p27)))⟩]) (.seq (.reg [⟨(some p28), none, (.e (.mv (.r p0)))⟩, ⟨(some p29), none, (.e (.ixS (.r p28) (.c (.int .i64 (.ofNat 0)))))⟩, ⟨(some p30), none, (.e (.conv .i32 (.r p29)))⟩, ⟨(some p31), none, (.e (.mv (.r p7)))⟩, ⟨(some p32), none, (.e (.bin .andNot (.r p30) (.r p31)))⟩, ⟨(some p33), none, (.e (.mv (.r p7)))⟩, ⟨(some p34), none, (.e (.bin .and (.c (.int .i32 (.ofNat 65533))) (.r p33)))⟩, ⟨(some p35), none, (.e (.bin .or (.r p32) (.r p34)))⟩, ⟨(some p2), none, (.e (.mv (.r p35)))⟩, ⟨(some p3), none, (.e (.mv (.c (.int .i64 (.ofNat 1)))))⟩]) .ret)) .skip)) (.seq (.reg [⟨(some p36), none, (.e (.mv (.r p6)))⟩, ⟨(some p37), none, (.e (.bin .and (.r p36) (.c (.int .u8 (.ofNat 7)))))⟩, ⟨(some p38), none, (.e (.conv .i64 (.r p37)))⟩, ⟨(some p8), none, (.e (.mv (.r p38)))⟩]) (.seq (.reg [⟨(some p39), none, (.e (.mv (.r p6)))⟩, ⟨(some p40), none, (.e (.bin .shr (.r p39) (.c (.int .u64 (.ofNat 4)))))⟩, ⟨(some p41), none, (.e .bad)⟩, ⟨(some p42), none, (.e (.ldN 2 (.r p41)))⟩, ⟨(some p9), none, (.e (.alc 2 2 (.list [(.int .u8 (.ofNat 0)), (.int .u8 (.ofNat 0))])))⟩, ⟨none, none, (.w (.st 2 (.r p9) (.r p42)))⟩]) (.seq (.seq (.reg [⟨(some p43), none, (.e (.mv (.r p4)))⟩, ⟨(some p44), none, (.e (.mv (.r p8)))⟩, ⟨(some p45), none, (.e (.bin .lss (.r p43) (.r p44)))⟩]) (.cond (.r p45) (.seq (.reg [⟨(some p2), none, (.e (.mv (.c (.int .i32 (.ofNat 65533)))))⟩, ⟨(some p3), none, (.e (.mv (.c (.int .i64 (.ofNat 1)))))⟩]) .ret) .skip)) (.seq (.reg [⟨(some p46), none, (.e (.mv (.r p0)))⟩, ⟨(some p47), none, (.e (.ixS (.r p46) (.c (.int .i64 (.ofNat 1)))))⟩, ⟨(some p10), none, (.e (.mv (.r p47)))⟩]) (.seq (.seq (.reg [⟨(some p48), none, (.e (.mv (.r p10)))⟩, ⟨(some p49), none, (.e (.fa 0 (.r p9)))⟩, ⟨(some p50), none, (.e (.ld (.r p49)))⟩, ⟨(some p51), none, (.e (.bin .lss (.r p48) (.r p50)))⟩, ⟨(some p52), none, (.e (.mv (.r p51)))⟩, ⟨(some p53), (some (p52, false)), (.e (.fa 1 (.r p9)))⟩, ⟨(some p54), (some (p52, false)), (.e (.ld (.r p53)))⟩, ⟨(some p55), (some (p52, false)), (.e (.mv (.r p10)))⟩, ⟨(some p56), (some (p52, false)), (.e (.bin .lss (.r p54) (.r p55)))⟩, ⟨(some p57), none, (.e (.pick (.r p52) (.c (.bool true)) (.r p56)))⟩]) (.cond (.r p57) (.seq (.reg [⟨(some p2), none, (.e (.mv (.c (.int .i32 (.ofNat 65533)))))⟩, ⟨(some p3), none, (.e (.mv (.c (.int .i64 (.ofNat 1)))))⟩]) .ret) .skip)) (.seq (.seq (.reg [⟨(some p58), none, (.e (.mv (.r p8)))⟩, ⟨(some p59), none, (.e (.bin .leq (.r p58) (.c (.int .i64 (.ofNat 2)))))⟩]) (.cond (.r p59) (.seq (.reg [⟨(some p60), none, (.e (.mv (.r p5)))⟩, ⟨(some p61), none, (.e (.bin .and (.r p60) (.c (.int .u8 (.ofNat 31)))))⟩, ⟨(some p62), none, (.e (.conv .i32 (.r p61)))⟩, ⟨(some p63), none, (.e (.bin .shl (.r p62) (.c (.int .u64 (.ofNat 6)))))⟩, ⟨(some p64), none, (.e (.mv (.r p10)))⟩, ⟨(some p65), none, (.e (.bin .and (.r p64) (.c (.int .u8 (.ofNat 63)))))⟩, ⟨(some p66), none, (.e (.conv .i32 (.r p65)))⟩, ⟨(some p67), none, (.e (.bin .or (.r p63) (.r p66)))⟩, ⟨(some p2), none, (.e (.mv (.r p67)))⟩, ⟨(some p3), none, (.e (.mv (.c (.int .i64 (.ofNat 2)))))⟩]) .ret) .skip)) (.seq (.reg [⟨(some p68), none, (.e (.mv (.r p0)))⟩, ⟨(some p69), none, (.e (.ixS (.r p68) (.c (.int .i64 (.ofNat 2)))))⟩, ⟨(some p11), none, (.e (.mv (.r p69)))⟩]) (.seq (.seq (.reg [⟨(some p70), none, (.e (.mv (.r p11)))⟩, ⟨(some p71), none, (.e (.bin .lss (.r p70) (.c (.int .u8 (.ofNat 128)))))⟩, ⟨(some p72), none, (.e (.mv (.r p71)))⟩, ⟨(some p73), (some (p72, false)), (.e (.mv (.r p11)))⟩, ⟨(some p74), (some (p72, false)), (.e (.bin .lss (.c (.int .u8 (.ofNat 191))) (.r p73)))⟩, ⟨(some p75), none, (.e (.pick (.r p72) (.c (.bool true)) (.r p74)))⟩]) (.cond (.r p75) (.seq (.reg [⟨(some p2), none, (.e (.mv (.c (.int .i32 (.ofNat 65533)))))⟩, ⟨(some p3), none, (.e (.mv (.c (.int .i64 (.ofNat 1)))))⟩]) .ret) .skip)) (.seq (.seq (.reg [⟨(some p76), none, (.e (.mv (.r p8)))⟩, ⟨(some p77), none, (.e (.bin .leq (.r p76) (.c (.int .i64 (.ofNat 3)))))⟩]) (.cond (.r p77) (.seq (.reg [⟨(some p78), none, (.e (.mv (.r p5)))⟩, ⟨(some p79), none, (.e (.bin .and (.r p78) (.c (.int .u8 (.ofNat 15)))))⟩, ⟨(some p80), none, (.e (.conv .i32 (.r p79)))⟩, ⟨(some p81), none, (.e (.bin .shl (.r p80) (.c (.int .u64 (.ofNat 12)))))⟩, ⟨(some p82), none, (.e (.mv (.r p10)))⟩, ⟨(some p83), none, (.e (.bin .and (.r p82) (.c (.int .u8 (.ofNat 63)))))⟩, ⟨(some p84), none, (.e (.conv .i32 (.r p83)))⟩, ⟨(some p85), none, (.e (.bin .shl (.r p84) (.c (.int .u64 (.ofNat 6)))))⟩, ⟨(some p86), none, (.e (.bin .or (.r p81) (.r p85)))⟩, ⟨(some p87), none, (.e (.mv (.r p11)))⟩, ⟨(some p88), none, (.e (.bin .and (.r p87) (.c (.int .u8 (.ofNat 63)))))⟩, ⟨(some p89), none, (.e (.conv .i32 (.r p88)))⟩, ⟨(some p90), none, (.e (.bin .or (.r p86) (.r p89)))⟩, ⟨(some p2), none, (.e (.mv (.r p90)))⟩, ⟨(some p3), none, (.e (.mv (.c (.int .i64 (.ofNat 3)))))⟩]) .ret) .skip)) (.seq (.reg [⟨(some p91), none, (.e (.mv (.r p0)))⟩, ⟨(some p92), none, (.e (.ixS (.r p91) (.c (.int .i64 (.ofNat 3)))))⟩, ⟨(some p12), none, (.e (.mv (.r p92)))⟩]) (.seq (.seq (.reg [⟨(some p93), none, (.e (.mv (.r p12)))⟩, ⟨(some p94), none, (.e (.bin .lss (.r p93) (.c (.int .u8 (.ofNat 128)))))⟩, ⟨(some p95), none, (.e (.mv (.r p94)))⟩, ⟨(some p96), (some (p95, false)), (.e (.mv (.r p12)))⟩, ⟨(some p97), (some (p95, false)), (.e (.bin .lss (.c (.int .u8 (.ofNat 191))) (.r p96)))⟩, ⟨(some p98), none, (.e (.pick (.r p95) (.c (.bool true)) (.r p97)))⟩]) (.cond (.r p98) (.seq (.reg [⟨(some p2), none, (.e (.mv (.c (.int .i32 (.ofNat 65533)))))⟩, ⟨(some p3), none, (.e (.mv (.c (.int .i64 (.ofNat 1)))))⟩]) .ret) .skip)) (.seq (.reg [⟨(some p99), none, (.e (.mv (.r p5)))⟩, ⟨(some p100), none, (.e (.bin .and (.r p99) (.c (.int .u8 (.ofNat 7)))))⟩, ⟨(some p101), none, (.e (.conv .i32 (.r p100)))⟩, ⟨(some p102), none, (.e (.bin .shl (.r p101) (.c (.int .u64 (.ofNat 18)))))⟩, ⟨(some p103), none, (.e (.mv (.r p10)))⟩, ⟨(some p104), none, (.e (.bin .and (.r p103) (.c (.int .u8 (.ofNat 63)))))⟩, ⟨(some p105), none, (.e (.conv .i32 (.r p104)))⟩, ⟨(some p106), none, (.e (.bin .shl (.r p105) (.c (.int .u64 (.ofNat 12)))))⟩, ⟨(some p107), none, (.e (.bin .or (.r p102) (.r p106)))⟩, ⟨(some p108), none, (.e (.mv (.r p11)))⟩, ⟨(some p109), none, (.e (.bin .and (.r p108) (.c (.int .u8 (.ofNat 63)))))⟩, ⟨(some p110), none, (.e (.conv .i32 (.r p109)))⟩, ⟨(some p111), none, (.e (.bin .shl (.r p110) (.c (.int .u64 (.ofNat 6)))))⟩, ⟨(some p112), none, (.e (.bin .or (.r p107) (.r p111)))⟩, ⟨(some p113), none, (.e (.mv (.r p12)))⟩, ⟨(some p114), none, (.e (.bin .and (.r p113) (.c (.int .u8 (.ofNat 63)))))⟩, ⟨(some p115), none, (.e (.conv .i32 (.r p114)))⟩, ⟨(some p116), none, (.e (.bin .or (.r p112) (.r p115)))⟩, ⟨(some p2), none, (.e (.mv (.r p116)))⟩, ⟨(some p3), none, (.e (.mv (.c (.int .i64 (.ofNat 4)))))⟩]) .ret))))))))))))))))))
theorem I197_0 (E : Env) : Is E C197_0 (retK3 R197) (fun σ h => J197_0 E (σ p0) h) :=
  fun σ h => by kernel_rfl
def D197 : DF := ⟨1, 117, C197_0, R197⟩
noncomputable def S197 (E : Env) : Fun := fun args h => aS args fun r0 args => a0 args (J197_0 E r0 h)
theorem S197_eq (E : Env) (args : List DV) (h : H) : runFn E D197 args h = S197 E args h :=
  Is.fn1 (d := D197) (I197_0 E) rfl (fun r0 h => J197_0 E r0 h) (fun r0 h => by kernel_rfl) args h
/- internal/bytealg.Cutover -/
def R199 : List RV := [(.r p2)]
noncomputable def J199_0 (E : Env) (r0 : DV) (h : H) : Ans :=
  vK (v_add r0 (.int .i64 (.ofNat 16))) fun x1 =>
  vK (v_quo x1 (.int .i64 (.ofNat 8))) fun x2 =>
  some (x2, h)
def C199_0 : DC := (.seq (.reg [⟨(some p2), none, (.e (.mv (.c (.int .i64 (.ofNat 0)))))⟩]) (.seq (.reg [⟨(some p3), none, (.e (.mv (.r p0)))⟩, ⟨(some p4), none, (.e (.bin .add (.r p3) (.c (.int .i64 (.ofNat 16)))))⟩, ⟨(some p5), none, (.e (.bin .quo (.r p4) (.c (.int .i64 (.ofNat 8)))))⟩, ⟨(some p2), none, (.e (.mv (.r p5)))⟩]) .ret))
theorem I199_0 (E : Env) : Is E C199_0 (retK3 R199) (fun σ h => J199_0 E (σ p0) h) :=
  fun σ h => by kernel_rfl
def D199 : DF := ⟨1, 6, C199_0, R199⟩
noncomputable def S199 (E : Env) : Fun := fun args h => aS args fun r0 args => a0 args (J199_0 E r0 h)
theorem S199_eq (E : Env) (args : List DV) (h : H) : runFn E D199 args h = S199 E args h :=
  Is.fn1 (d := D199) (I199_0 E) rfl (fun r0 h => J199_0 E r0 h) (fun r0 h => by kernel_rfl) args h
/- internal/bytealg.IndexRabinKarp[string] -/
def R200 : List RV := [(.r p4)]
noncomputable def J200_3 (E : Env) (h : H) : Ans :=
  some ((.int .i64 (.negSucc 0)), h)
def C200_3 : DC := (.seq (.reg [⟨(some p4), none, (.e (.mv (.c (.int .i64 (.negSucc 0)))))⟩]) .ret)
noncomputable def B200_4 (E : Env) (r0 r1 r5 r6 r7 : DV) (i4 : DV → DV → H → Ans) (r8 r10 : DV) (h : H) : Ans :=
  vK (v_lenS r0) fun x1 =>
  vK (v_lss r10 x1) fun x2 =>
  bK x2
  (vK (v_mul r8 (.int .u32 (.ofNat 16777619))) fun x3 =>
  vK (v_ixS r0 r10) fun x4 =>
  vK (v_conv .u32 x4) fun x5 =>
  vK (v_add x3 x5) fun x6 =>
  vK (v_sub r10 r7) fun x7 =>
  vK (v_ixS r0 x7) fun x8 =>
  vK (v_conv .u32 x8) fun x9 =>
  vK (v_mul r6 x9) fun x10 =>
  vK (v_sub x6 x10) fun x11 =>
  vK (v_add r10 (.int .i64 (.ofNat 1))) fun x12 =>
  vK (v_eql x11 r5) fun x13 =>
  gdK x13 true (fun kk => kk r0 h) h fun x14 h15 =>
  gdK x13 true (fun kk => kk x12 h15) h15 fun x16 h17 =>
  gdK x13 true (fun kk => kk r7 h17) h17 fun x18 h19 =>
  gdK x13 true (fun kk => vK (v_sub x16 x18) fun v => kk v h19) h19 fun x20 h21 =>
  gdK x13 true (fun kk => kk x12 h21) h21 fun x22 h23 =>
  gdK x13 true (fun kk => vK (v_slS x14 (some x20) (some x22)) fun v => kk v h23) h23 fun x24 h25 =>
  gdK x13 true (fun kk => kk r1 h25) h25 fun x26 h27 =>
  gdK x13 true (fun kk => vK (v_eql x24 x26) fun v => kk v h27) h27 fun x28 h29 =>
  vK (v_pick x13 x28 (.bool false)) fun x30 =>
  bK x30
  (vK (v_sub x12 r7) fun x31 =>
  some (x31, h29))
  (i4 x11 x12 h29))
  (J200_3 E h)
noncomputable def L200_4 (E : Env) (r0 r1 r5 r6 r7 : DV) (n : Nat) : DV → DV → H → Ans := Nat.rec (motive := fun _ => DV → DV → H → Ans) (fun _ _ _ => none) (fun _ i => B200_4 E r0 r1 r5 r6 r7 i) n
def C200_4 : DC := (.loop (.seq (.seq (.reg [⟨(some p41), none, (.e (.mv (.r p10)))⟩, ⟨(some p42), none, (.e (.mv (.r p0)))⟩, ⟨(some p43), none, (.e (.lenS (.r p42)))⟩, ⟨(some p44), none, (.e (.bin .lss (.r p41) (.r p43)))⟩]) (.cond (.r p44) .skip (.exit 2))) (.block 3 (.seq (.reg [⟨(some p45), none, (.e (.mv (.r p8)))⟩, ⟨(some p46), none, (.e (.bin .mul (.r p45) (.c (.int .u32 (.ofNat 16777619)))))⟩, ⟨(some p8), none, (.e (.mv (.r p46)))⟩]) (.seq (.reg [⟨(some p47), none, (.e (.mv (.r p8)))⟩, ⟨(some p48), none, (.e (.mv (.r p0)))⟩, ⟨(some p49), none, (.e (.mv (.r p10)))⟩, ⟨(some p50), none, (.e (.ixS (.r p48) (.r p49)))⟩, ⟨(some p51), none, (.e (.conv .u32 (.r p50)))⟩, ⟨(some p52), none, (.e (.bin .add (.r p47) (.r p51)))⟩, ⟨(some p8), none, (.e (.mv (.r p52)))⟩]) (.seq (.reg [⟨(some p53), none, (.e (.mv (.r p8)))⟩, ⟨(some p54), none, (.e (.mv (.r p6)))⟩, ⟨(some p55), none, (.e (.mv (.r p0)))⟩, ⟨(some p56), none, (.e (.mv (.r p10)))⟩, ⟨(some p57), none, (.e (.mv (.r p7)))⟩, ⟨(some p58), none, (.e (.bin .sub (.r p56) (.r p57)))⟩, ⟨(some p59), none, (.e (.ixS (.r p55) (.r p58)))⟩, ⟨(some p60), none, (.e (.conv .u32 (.r p59)))⟩, ⟨(some p61), none, (.e (.bin .mul (.r p54) (.r p60)))⟩, ⟨(some p62), none, (.e (.bin .sub (.r p53) (.r p61)))⟩, ⟨(some p8), none, (.e (.mv (.r p62)))⟩]) (.seq (.reg [⟨(some p63), none, (.e (.mv (.r p10)))⟩, ⟨(some p64), none, (.e (.bin .add (.r p63) (.c (.int .i64 (.ofNat 1)))))⟩, ⟨(some p10), none, (.e (.mv (.r p64)))⟩]) (.seq (.reg [⟨(some p65), none, (.e (.mv (.r p8)))⟩, ⟨(some p66), none, (.e (.mv (.r p5)))⟩, ⟨(some p67), none, (.e (.bin .eql (.r p65) (.r p66)))⟩, ⟨(some p68), none, (.e (.mv (.r p67)))⟩, ⟨(some p69), (some (p68, true)), (.e (.mv (.r p0)))⟩, ⟨(some p70), (some (p68, true)), (.e (.mv (.r p10)))⟩, ⟨(some p71), (some (p68, true)), (.e (.mv (.r p7)))⟩, ⟨(some p72), (some (p68, true)), (.e (.bin .sub (.r p70) (.r p71)))⟩, ⟨(some p73), (some (p68, true)), (.e (.mv (.r p10)))⟩, ⟨(some p74), (some (p68, true)), (.e (.slS (.r p69) (some (.r p72)) (some (.r p73))))⟩, ⟨(some p75), (some (p68, true)), (.e (.mv (.r p1)))⟩, ⟨(some p76), (some (p68, true)), (.e (.bin .eql (.r p74) (.r p75)))⟩, ⟨(some p77), none, (.e (.pick (.r p68) (.r p76) (.c (.bool false))))⟩]) (.cond (.r p77) (.seq (.reg [⟨(some p78), none, (.e (.mv (.r p10)))⟩, ⟨(some p79), none, (.e (.mv (.r p7)))⟩, ⟨(some p80), none, (.e (.bin .sub (.r p78) (.r p79)))⟩, ⟨(some p4), none, (.e (.mv (.r p80)))⟩]) .ret) .skip)))))))))
noncomputable def J200_1 (E : Env) (r0 r1 r5 r6 r7 r8 : DV) (h : H) : Ans :=
  vK (v_eql r8 r5) fun x1 =>
  gdK x1 true (fun kk => kk r0 h) h fun x2 h3 =>
  gdK x1 true (fun kk => kk r7 h3) h3 fun x4 h5 =>
  gdK x1 true (fun kk => vK (v_slS x2 none (some x4)) fun v => kk v h5) h5 fun x6 h7 =>
  gdK x1 true (fun kk => kk r1 h7) h7 fun x8 h9 =>
  gdK x1 true (fun kk => vK (v_eql x6 x8) fun v => kk v h9) h9 fun x10 h11 =>
  vK (v_pick x1 x10 (.bool false)) fun x12 =>
  bK x12
  (some ((.int .i64 (.ofNat 0)), h11))
  (L200_4 E r0 r1 r5 r6 r7 FUEL r8 r7 h11)
def C200_1 : DC := (.seq (.seq (.reg [⟨(some p30), none, (.e (.mv (.r p8)))⟩, ⟨(some p31), none, (.e (.mv (.r p5)))⟩, ⟨(some p32), none, (.e (.bin .eql (.r p30) (.r p31)))⟩, ⟨(some p33), none, (.e (.mv (.r p32)))⟩, ⟨(some p34), (some (p33, true)), (.e (.mv (.r p0)))⟩, ⟨(some p35), (some (p33, true)), (.e (.mv (.r p7)))⟩, ⟨(some p36), (some (p33, true)), (.e (.slS (.r p34) none (some (.r p35))))⟩, ⟨(some p37), (some (p33, true)), (.e (.mv (.r p1)))⟩, ⟨(some p38), (some (p33, true)), (.e (.bin .eql (.r p36) (.r p37)))⟩, ⟨(some p39), none, (.e (.pick (.r p33) (.r p38) (.c (.bool false))))⟩]) (.cond (.r p39) (.seq (.reg [⟨(some p4), none, (.e (.mv (.c (.int .i64 (.ofNat 0)))))⟩]) .ret) .skip)) (.seq (.seq (.reg [⟨(some p40), none, (.e (.mv (.r p7)))⟩, ⟨(some p10), none, (.e (.mv (.r p40)))⟩]) (.block 2 C200_4)) C200_3))
noncomputable def B200_2 (E : Env) (r0 r1 r5 r6 r7 : DV) (i2 : DV → DV → H → Ans) (r8 r9 : DV) (h : H) : Ans :=
  vK (v_lss r9 r7) fun x1 =>
  bK x1
  (vK (v_mul r8 (.int .u32 (.ofNat 16777619))) fun x2 =>
  vK (v_ixS r0 r9) fun x3 =>
  vK (v_conv .u32 x3) fun x4 =>
  vK (v_add x2 x4) fun x5 =>
  vK (v_add r9 (.int .i64 (.ofNat 1))) fun x6 =>
  i2 x5 x6 h)
  (J200_1 E r0 r1 r5 r6 r7 r8 h)
noncomputable def L200_2 (E : Env) (r0 r1 r5 r6 r7 : DV) (n : Nat) : DV → DV → H → Ans := Nat.rec (motive := fun _ => DV → DV → H → Ans) (fun _ _ _ => none) (fun _ i => B200_2 E r0 r1 r5 r6 r7 i) n
def C200_2 : DC := (.loop (.seq (.seq (.reg [⟨(some p18), none, (.e (.mv (.r p9)))⟩, ⟨(some p19), none, (.e (.mv (.r p7)))⟩, ⟨(some p20), none, (.e (.bin .lss (.r p18) (.r p19)))⟩]) (.cond (.r p20) .skip (.exit 0))) (.seq (.block 1 (.reg [⟨(some p23), none, (.e (.mv (.r p8)))⟩, ⟨(some p24), none, (.e (.bin .mul (.r p23) (.c (.int .u32 (.ofNat 16777619)))))⟩, ⟨(some p25), none, (.e (.mv (.r p0)))⟩, ⟨(some p26), none, (.e (.mv (.r p9)))⟩, ⟨(some p27), none, (.e (.ixS (.r p25) (.r p26)))⟩, ⟨(some p28), none, (.e (.conv .u32 (.r p27)))⟩, ⟨(some p29), none, (.e (.bin .add (.r p24) (.r p28)))⟩, ⟨(some p8), none, (.e (.mv (.r p29)))⟩])) (.reg [⟨(some p21), none, (.e (.mv (.r p9)))⟩, ⟨(some p22), none, (.e (.bin .add (.r p21) (.c (.int .i64 (.ofNat 1)))))⟩, ⟨(some p9), none, (.e (.mv (.r p22)))⟩]))))
noncomputable def J200_0 (E : Env) (r0 r1 : DV) (h : H) : Ans :=
  wK (callK E 201 [r1] h) fun x1 h2 =>
  vK (v_ext 0 x1) fun x3 =>
  vK (v_ext 1 x1) fun x4 =>
  vK (v_lenS r1) fun x5 =>
  L200_2 E r0 r1 x3 x4 x5 FUEL (.int .u32 (.ofNat 0)) (.int .i64 (.ofNat 0)) h2
def C200_0 : DC := (.seq (.reg [⟨(some p4), none, (.e (.mv (.c (.int .i64 (.ofNat 0)))))⟩]) (.seq (.reg [⟨(some p12), none, (.e (.mv (.r p1)))⟩, ⟨(some p13), none, (.c (.f 201 [(.r p12)]))⟩, ⟨(some p11), none, (.e (.mv (.r p13)))⟩, ⟨(some p14), none, (.e (.ext 0 (.r p11)))⟩, ⟨(some p15), none, (.e (.ext 1 (.r p11)))⟩, ⟨(some p5), none, (.e (.mv (.r p14)))⟩, ⟨(some p6), none, (.e (.mv (.r p15)))⟩]) (.seq (.reg [⟨(some p16), none, (.e (.mv (.r p1)))⟩, ⟨(some p17), none, (.e (.lenS (.r p16)))⟩, ⟨(some p7), none, (.e (.mv (.r p17)))⟩]) (.seq (.reg [⟨(some p8), none, (.e (.mv (.c (.int .u32 (.ofNat 0)))))⟩]) (.seq (.seq (.reg [⟨(some p9), none, (.e (.mv (.c (.int .i64 (.ofNat 0)))))⟩]) (.block 0 C200_2)) C200_1)))))
theorem I200_3 (E : Env) : Is E C200_3 (retK3 R200) (fun σ h => J200_3 E h) :=
  fun σ h => by kernel_rfl
noncomputable abbrev K200_5 (E : Env) : KT2 (DV × H) := (blockK3 2 (thenK3 (fun σ h => J200_3 E h) (retK3 R200)))
theorem I200_4 (E : Env) : Is E C200_4 (K200_5 E) (fun σ h => L200_4 E (σ p0) (σ p1) (σ p5) (σ p6) (σ p7) FUEL (σ p8) (σ p10) h) :=
  Is.loop (fun n4 σ h => L200_4 E (σ p0) (σ p1) (σ p5) (σ p6) (σ p7) n4 (σ p8) (σ p10) h) (by kernel_rfl) fun n4 => Is.as (Is.leaf _) fun σ h => by kernel_rfl
theorem I200_1 (E : Env) : Is E C200_1 (retK3 R200) (fun σ h => J200_1 E (σ p0) (σ p1) (σ p5) (σ p6) (σ p7) (σ p8) h) :=
  Is.as (Is.seq (Is.seq (I200_3 E) (Is.seq (Is.block (I200_4 E)) (Is.leaf _))) (Is.leaf _)) fun σ h => by kernel_rfl
noncomputable abbrev K200_6 (E : Env) : KT2 (DV × H) := (thenK3 (fun σ h => J200_1 E (σ p0) (σ p1) (σ p5) (σ p6) (σ p7) (σ p8) h) (retK3 R200))
theorem I200_2 (E : Env) : Is E C200_2 (blockK3 0 (K200_6 E)) (fun σ h => L200_2 E (σ p0) (σ p1) (σ p5) (σ p6) (σ p7) FUEL (σ p8) (σ p9) h) :=
  Is.loop (fun n2 σ h => L200_2 E (σ p0) (σ p1) (σ p5) (σ p6) (σ p7) n2 (σ p8) (σ p9) h) (by kernel_rfl) fun n2 => Is.as (Is.leaf _) fun σ h => by kernel_rfl
theorem I200_0 (E : Env) : Is E C200_0 (retK3 R200) (fun σ h => J200_0 E (σ p0) (σ p1) h) :=
  Is.as (Is.seq (Is.seq (Is.seq (Is.seq (Is.seq (I200_1 E) (Is.seq (Is.block (I200_2 E)) (Is.leaf _))) (Is.leaf _)) (Is.leaf _)) (Is.leaf _)) (Is.leaf _)) fun σ h => by kernel_rfl
def D200 : DF := ⟨2, 81, C200_0, R200⟩
noncomputable def S200 (E : Env) : Fun := fun args h => aS args fun r0 args => aS args fun r1 args => a0 args (J200_0 E r0 r1 h)
theorem S200_eq (E : Env) (args : List DV) (h : H) : runFn E D200 args h = S200 E args h :=
  Is.fn2 (d := D200) (I200_0 E) rfl (fun r0 r1 h => J200_0 E r0 r1 h) (fun r0 r1 h => by kernel_rfl) args h
/- internal/bytealg.hashStr[string] -/
def R201 : List RV := [(.r p2), (.r p3)]
noncomputable def J201_3 (E : Env) (r4 r6 : DV) (h : H) : Ans :=
  some ((.tup [r4, r6]), h)
def C201_3 : DC := (.seq (.reg [⟨(some p37), none, (.e (.mv (.r p4)))⟩, ⟨(some p38), none, (.e (.mv (.r p6)))⟩, ⟨(some p2), none, (.e (.mv (.r p37)))⟩, ⟨(some p3), none, (.e (.mv (.r p38)))⟩]) .ret)
noncomputable def J201_5 (E : Env) (i4 : DV → DV → DV → H → Ans) (r6 r7 r8 : DV) (h : H) : Ans :=
  vK (v_shr r8 (.int .u64 (.ofNat 1))) fun x1 =>
  i4 r6 r7 x1 h
def C201_5 : DC := (.reg [⟨(some p26), none, (.e (.mv (.r p8)))⟩, ⟨(some p27), none, (.e (.bin .shr (.r p26) (.c (.int .u64 (.ofNat 1)))))⟩, ⟨(some p8), none, (.e (.mv (.r p27)))⟩])
noncomputable def J201_6 (E : Env) (i4 : DV → DV → DV → H → Ans) (r6 r7 r8 : DV) (h : H) : Ans :=
  vK (v_mul r7 r7) fun x1 =>
  J201_5 E i4 r6 x1 r8 h
def C201_6 : DC := (.reg [⟨(some p34), none, (.e (.mv (.r p7)))⟩, ⟨(some p35), none, (.e (.mv (.r p7)))⟩, ⟨(some p36), none, (.e (.bin .mul (.r p34) (.r p35)))⟩, ⟨(some p7), none, (.e (.mv (.r p36)))⟩])
noncomputable def B201_4 (E : Env) (r4 : DV) (i4 : DV → DV → DV → H → Ans) (r6 r7 r8 : DV) (h : H) : Ans :=
  vK (v_gtr r8 (.int .i64 (.ofNat 0))) fun x1 =>
  bK x1
  (vK (v_and r8 (.int .i64 (.ofNat 1))) fun x2 =>
  vK (v_neq x2 (.int .i64 (.ofNat 0))) fun x3 =>
  bK x3
  (vK (v_mul r6 r7) fun x4 =>
  J201_6 E i4 x4 r7 r8 h)
  (J201_6 E i4 r6 r7 r8 h))
  (J201_3 E r4 r6 h)
noncomputable def L201_4 (E : Env) (r4 : DV) (n : Nat) : DV → DV → DV → H → Ans := Nat.rec (motive := fun _ => DV → DV → DV → H → Ans) (fun _ _ _ _ => none) (fun _ i => B201_4 E r4 i) n
def C201_4 : DC := (.loop (.seq (.seq (.reg [⟨(some p24), none, (.e (.mv (.r p8)))⟩, ⟨(some p25), none, (.e (.bin .gtr (.r p24) (.c (.int .i64 (.ofNat 0)))))⟩]) (.cond (.r p25) .skip (.exit 2))) (.seq (.block 3 (.seq (.seq (.reg [⟨(some p28), none, (.e (.mv (.r p8)))⟩, ⟨(some p29), none, (.e (.bin .and (.r p28) (.c (.int .i64 (.ofNat 1)))))⟩, ⟨(some p30), none, (.e (.bin .neq (.r p29) (.c (.int .i64 (.ofNat 0)))))⟩]) (.cond (.r p30) (.reg [⟨(some p31), none, (.e (.mv (.r p6)))⟩, ⟨(some p32), none, (.e (.mv (.r p7)))⟩, ⟨(some p33), none, (.e (.bin .mul (.r p31) (.r p32)))⟩, ⟨(some p6), none, (.e (.mv (.r p33)))⟩]) .skip)) C201_6)) C201_5)))
noncomputable def J201_1 (E : Env) (r0 r4 : DV) (h : H) : Ans :=
  vK (v_lenS r0) fun x1 =>
  L201_4 E r4 FUEL (.int .u32 (.ofNat 1)) (.int .u32 (.ofNat 16777619)) x1 h
def C201_1 : DC := (.seq (.reg [⟨(some p6), none, (.e (.mv (.c (.int .u32 (.ofNat 1)))))⟩, ⟨(some p7), none, (.e (.mv (.c (.int .u32 (.ofNat 16777619)))))⟩]) (.seq (.seq (.reg [⟨(some p22), none, (.e (.mv (.r p0)))⟩, ⟨(some p23), none, (.e (.lenS (.r p22)))⟩, ⟨(some p8), none, (.e (.mv (.r p23)))⟩]) (.block 2 C201_4)) C201_3))
noncomputable def B201_2 (E : Env) (r0 : DV) (i2 : DV → DV → H → Ans) (r4 r5 : DV) (h : H) : Ans :=
  vK (v_lenS r0) fun x1 =>
  vK (v_lss r5 x1) fun x2 =>
  bK x2
  (vK (v_mul r4 (.int .u32 (.ofNat 16777619))) fun x3 =>
  vK (v_ixS r0 r5) fun x4 =>
  vK (v_conv .u32 x4) fun x5 =>
  vK (v_add x3 x5) fun x6 =>
  vK (v_add r5 (.int .i64 (.ofNat 1))) fun x7 =>
  i2 x6 x7 h)
  (J201_1 E r0 r4 h)
noncomputable def L201_2 (E : Env) (r0 : DV) (n : Nat) : DV → DV → H → Ans := Nat.rec (motive := fun _ => DV → DV → H → Ans) (fun _ _ _ => none) (fun _ i => B201_2 E r0 i) n
def C201_2 : DC := (.loop (.seq (.seq (.reg [⟨(some p9), none, (.e (.mv (.r p5)))⟩, ⟨(some p10), none, (.e (.mv (.r p0)))⟩, ⟨(some p11), none, (.e (.lenS (.r p10)))⟩, ⟨(some p12), none, (.e (.bin .lss (.r p9) (.r p11)))⟩]) (.cond (.r p12) .skip (.exit 0))) (.seq (.block 1 (.reg [⟨(some p15), none, (.e (.mv (.r p4)))⟩, ⟨(some p16), none, (.e (.bin .mul (.r p15) (.c (.int .u32 (.ofNat 16777619)))))⟩, ⟨(some p17), none, (.e (.mv (.r p0)))⟩, ⟨(some p18), none, (.e (.mv (.r p5)))⟩, ⟨(some p19), none, (.e (.ixS (.r p17) (.r p18)))⟩, ⟨(some p20), none, (.e (.conv .u32 (.r p19)))⟩, ⟨(some p21), none, (.e (.bin .add (.r p16) (.r p20)))⟩, ⟨(some p4), none, (.e (.mv (.r p21)))⟩])) (.reg [⟨(some p13), none, (.e (.mv (.r p5)))⟩, ⟨(some p14), none, (.e (.bin .add (.r p13) (.c (.int .i64 (.ofNat 1)))))⟩, ⟨(some p5), none, (.e (.mv (.r p14)))⟩]))))
noncomputable def J201_0 (E : Env) (r0 : DV) (h : H) : Ans :=
  L201_2 E r0 FUEL (.int .u32 (.ofNat 0)) (.int .i64 (.ofNat 0)) h
def C201_0 : DC := (.seq (.reg [⟨(some p2), none, (.e (.mv (.c (.int .u32 (.ofNat 0)))))⟩, ⟨(some p3), none, (.e (.mv (.c (.int .u32 (.ofNat 0)))))⟩]) (.seq (.reg [⟨(some p4), none, (.e (.mv (.c (.int .u32 (.ofNat 0)))))⟩]) (.seq (.seq (.reg [⟨(some p5), none, (.e (.mv (.c (.int .i64 (.ofNat 0)))))⟩]) (.block 0 C201_2)) C201_1)))
theorem I201_3 (E : Env) : Is E C201_3 (retK3 R201) (fun σ h => J201_3 E (σ p4) (σ p6) h) :=
  fun σ h => by kernel_rfl
noncomputable abbrev K201_7 (E : Env) : KT2 (DV × H) := (thenK3 (fun σ h => J201_3 E (σ p4) (σ p6) h) (retK3 R201))
noncomputable abbrev K201_8 (E : Env) (n4 : Nat) : KT2 (DV × H) := (thenK3 (fun σ h => (L201_4 E (σ p4) n4) (σ p6) (σ p7) (σ p8) h) (blockK3 2 (K201_7 E)))
theorem I201_5 (E : Env) (n4 : Nat) : Is E C201_5 (K201_8 E n4) (fun σ h => J201_5 E (L201_4 E (σ p4) n4) (σ p6) (σ p7) (σ p8) h) :=
  fun σ h => by kernel_rfl
noncomputable abbrev K201_9 (E : Env) (n4 : Nat) : KT2 (DV × H) := (thenK3 (fun σ h => J201_5 E (L201_4 E (σ p4) n4) (σ p6) (σ p7) (σ p8) h) (K201_8 E n4))
theorem I201_6 (E : Env) (n4 : Nat) : Is E C201_6 (blockK3 3 (K201_9 E n4)) (fun σ h => J201_6 E (L201_4 E (σ p4) n4) (σ p6) (σ p7) (σ p8) h) :=
  fun σ h => by kernel_rfl
theorem I201_4 (E : Env) : Is E C201_4 (blockK3 2 (K201_7 E)) (fun σ h => L201_4 E (σ p4) FUEL (σ p6) (σ p7) (σ p8) h) :=
  Is.loop (fun n4 σ h => L201_4 E (σ p4) n4 (σ p6) (σ p7) (σ p8) h) (by kernel_rfl) fun n4 => Is.as (Is.seq (Is.seq (I201_5 E n4) (Is.block (Is.seq (I201_6 E n4) (Is.leaf _)))) (Is.leaf _)) fun σ h => by kernel_rfl
theorem I201_1 (E : Env) : Is E C201_1 (retK3 R201) (fun σ h => J201_1 E (σ p0) (σ p4) h) :=
  Is.as (Is.seq (Is.seq (I201_3 E) (Is.seq (Is.block (I201_4 E)) (Is.leaf _))) (Is.leaf _)) fun σ h => by kernel_rfl
noncomputable abbrev K201_10 (E : Env) : KT2 (DV × H) := (thenK3 (fun σ h => J201_1 E (σ p0) (σ p4) h) (retK3 R201))
theorem I201_2 (E : Env) : Is E C201_2 (blockK3 0 (K201_10 E)) (fun σ h => L201_2 E (σ p0) FUEL (σ p4) (σ p5) h) :=
  Is.loop (fun n2 σ h => L201_2 E (σ p0) n2 (σ p4) (σ p5) h) (by kernel_rfl) fun n2 => Is.as (Is.leaf _) fun σ h => by kernel_rfl
theorem I201_0 (E : Env) : Is E C201_0 (retK3 R201) (fun σ h => J201_0 E (σ p0) h) :=
  Is.as (Is.seq (Is.seq (Is.seq (I201_1 E) (Is.seq (Is.block (I201_2 E)) (Is.leaf _))) (Is.leaf _)) (Is.leaf _)) fun σ h => by kernel_rfl
def D201 : DF := ⟨1, 39, C201_0, R201⟩
noncomputable def S201 (E : Env) : Fun := fun args h => aS args fun r0 args => a0 args (J201_0 E r0 h)
theorem S201_eq (E : Env) (args : List DV) (h : H) : runFn E D201 args h = S201 E args h :=
  Is.fn1 (d := D201) (I201_0 E) rfl (fun r0 h => J201_0 E r0 h) (fun r0 h => by kernel_rfl) args h
/- (hurdle/tree.folder).kind -/
def R217 : List RV := [(.r p2)]
noncomputable def J217_0 (E : Env) (r0 : DV) (h : H) : Ans :=
  n_box r0 h fun x1 h2 =>
  some ((.int .i64 (.ofNat 2)), h2)
def C217_0 : DC := (.seq (.reg [⟨(some p1), none, (.e (.box (.r p0)))⟩, ⟨(some p2), none, (.e (.mv (.c (.int .i64 (.ofNat 0)))))⟩]) (.seq (.reg [⟨(some p2), none, (.e (.mv (.c (.int .i64 (.ofNat 2)))))⟩]) .ret))
theorem I217_0 (E : Env) : Is E C217_0 (retK3 R217) (fun σ h => J217_0 E (σ p0) h) :=
  fun σ h => by kernel_rfl
def D217 : DF := ⟨1, 3, C217_0, R217⟩
noncomputable def S217 (E : Env) : Fun := fun args h => aS args fun r0 args => a0 args (J217_0 E r0 h)
theorem S217_eq (E : Env) (args : List DV) (h : H) : runFn E D217 args h = S217 E args h :=
  Is.fn1 (d := D217) (I217_0 E) rfl (fun r0 h => J217_0 E r0 h) (fun r0 h => by kernel_rfl) args h
/- (hurdle/tree.folder).size -/
def R218 : List RV := [(.r p2)]
noncomputable def J218_0 (E : Env) (r0 : DV) (h : H) : Ans :=
  n_box r0 h fun x1 h2 =>
  vK (v_fa 0 x1) fun x3 =>
  vK (v_ld h2.get x3) fun x4 =>
  wK (callK E 97 [x4] h2) fun x5 h6 =>
  some (x5, h6)
def C218_0 : DC := (.seq (.reg [⟨(some p1), none, (.e (.box (.r p0)))⟩, ⟨(some p2), none, (.e (.mv (.c (.int .i64 (.ofNat 0)))))⟩]) (.seq (.reg [⟨(some p3), none, (.e (.fa 0 (.r p1)))⟩, ⟨(some p4), none, (.e (.ld (.r p3)))⟩, ⟨(some p5), none, (.c (.f 97 [(.r p4)]))⟩, ⟨(some p2), none, (.e (.mv (.r p5)))⟩]) .ret))
theorem I218_0 (E : Env) : Is E C218_0 (retK3 R218) (fun σ h => J218_0 E (σ p0) h) :=
  fun σ h => by kernel_rfl
def D218 : DF := ⟨1, 6, C218_0, R218⟩
noncomputable def S218 (E : Env) : Fun := fun args h => aS args fun r0 args => a0 args (J218_0 E r0 h)
theorem S218_eq (E : Env) (args : List DV) (h : H) : runFn E D218 args h = S218 E args h :=
  Is.fn1 (d := D218) (I218_0 E) rfl (fun r0 h => J218_0 E r0 h) (fun r0 h => by kernel_rfl) args h
/- (*hurdle/tree.file).kind -/
def R221 : List RV := [(.r p2)]
noncomputable def J221_0 (E : Env) (h : H) : Ans :=
  some ((.int .i64 (.ofNat 1)), h)
def C221_0 : DC := (.seq (.reg [⟨(some p2), none, (.e (.mv (.c (.int .i64 (.ofNat 0)))))⟩]) (.seq (.reg [⟨(some p2), none, (.e (.mv (.c (.int .i64 (.ofNat 1)))))⟩]) .ret))
theorem I221_0 (E : Env) : Is E C221_0 (retK3 R221) (fun σ h => J221_0 E h) :=
  fun σ h => by kernel_rfl
def D221 : DF := ⟨1, 3, C221_0, R221⟩
noncomputable def S221 (E : Env) : Fun := fun args h => aS args fun r0 args => a0 args (J221_0 E h)
theorem S221_eq (E : Env) (args : List DV) (h : H) : runFn E D221 args h = S221 E args h :=
  Is.fn1 (d := D221) (I221_0 E) rfl (fun r0 h => J221_0 E h) (fun r0 h => by kernel_rfl) args h
/- (*hurdle/tree.file).size -/
def R222 : List RV := [(.r p2)]
noncomputable def J222_0 (E : Env) (r0 : DV) (h : H) : Ans :=
  vK (v_nilchk r0) fun x1 =>
  vK (v_fa 0 x1) fun x2 =>
  vK (v_ld h.get x2) fun x3 =>
  vK (v_lenS x3) fun x4 =>
  some (x4, h)
def C222_0 : DC := (.seq (.reg [⟨(some p2), none, (.e (.mv (.c (.int .i64 (.ofNat 0)))))⟩]) (.seq (.reg [⟨(some p3), none, (.e (.mv (.r p0)))⟩, ⟨(some p4), none, (.e (.nilchk (.r p3)))⟩, ⟨(some p5), none, (.e (.fa 0 (.r p4)))⟩, ⟨(some p6), none, (.e (.ld (.r p5)))⟩, ⟨(some p7), none, (.e (.lenS (.r p6)))⟩, ⟨(some p2), none, (.e (.mv (.r p7)))⟩]) .ret))
theorem I222_0 (E : Env) : Is E C222_0 (retK3 R222) (fun σ h => J222_0 E (σ p0) h) :=
  fun σ h => by kernel_rfl
def D222 : DF := ⟨1, 8, C222_0, R222⟩
noncomputable def S222 (E : Env) : Fun := fun args h => aS args fun r0 args => a0 args (J222_0 E r0 h)
theorem S222_eq (E : Env) (args : List DV) (h : H) : runFn E D222 args h = S222 E args h :=
  Is.fn1 (d := D222) (I222_0 E) rfl (fun r0 h => J222_0 E r0 h) (fun r0 h => by kernel_rfl) args h
noncomputable def fs1 : List FD := [⟨114, D114, S114⟩, ⟨115, D115, S115⟩, ⟨116, D116, S116⟩, ⟨117, D117, S117⟩, ⟨118, D118, S118⟩, ⟨119, D119, S119⟩, ⟨137, D137, S137⟩, ⟨138, D138, S138⟩, ⟨140, D140, S140⟩, ⟨141, D141, S141⟩, ⟨142, D142, S142⟩, ⟨143, D143, S143⟩, ⟨144, D144, S144⟩, ⟨145, D145, S145⟩, ⟨146, D146, S146⟩, ⟨147, D147, S147⟩, ⟨148, D148, S148⟩, ⟨149, D149, S149⟩, ⟨161, D161, S161⟩, ⟨162, D162, S162⟩, ⟨163, D163, S163⟩, ⟨164, D164, S164⟩, ⟨166, D166, S166⟩, ⟨168, D168, S168⟩, ⟨172, D172, S172⟩, ⟨173, D173, S173⟩, ⟨174, D174, S174⟩, ⟨181, D181, S181⟩, ⟨182, D182, S182⟩, ⟨183, D183, S183⟩, ⟨185, D185, S185⟩, ⟨191, D191, S191⟩, ⟨192, D192, S192⟩, ⟨194, D194, S194⟩, ⟨197, D197, S197⟩, ⟨199, D199, S199⟩, ⟨200, D200, S200⟩, ⟨201, D201, S201⟩, ⟨217, D217, S217⟩, ⟨218, D218, S218⟩, ⟨221, D221, S221⟩, ⟨222, D222, S222⟩]
theorem fs1_eq : AllEq fs1 := ⟨S114_eq, ⟨S115_eq, ⟨S116_eq, ⟨S117_eq, ⟨S118_eq, ⟨S119_eq, ⟨S137_eq, ⟨S138_eq, ⟨S140_eq, ⟨S141_eq, ⟨S142_eq, ⟨S143_eq, ⟨S144_eq, ⟨S145_eq, ⟨S146_eq, ⟨S147_eq, ⟨S148_eq, ⟨S149_eq, ⟨S161_eq, ⟨S162_eq, ⟨S163_eq, ⟨S164_eq, ⟨S166_eq, ⟨S168_eq, ⟨S172_eq, ⟨S173_eq, ⟨S174_eq, ⟨S181_eq, ⟨S182_eq, ⟨S183_eq, ⟨S185_eq, ⟨S191_eq, ⟨S192_eq, ⟨S194_eq, ⟨S197_eq, ⟨S199_eq, ⟨S200_eq, ⟨S201_eq, ⟨S217_eq, ⟨S218_eq, ⟨S221_eq, ⟨S222_eq, trivial⟩⟩⟩⟩⟩⟩⟩⟩⟩⟩⟩⟩⟩⟩⟩⟩⟩⟩⟩⟩⟩⟩⟩⟩⟩⟩⟩⟩⟩⟩⟩⟩⟩⟩⟩⟩⟩⟩⟩⟩⟩⟩
end Go.Proofs.YtmafhiogonejfaaGreatDoor

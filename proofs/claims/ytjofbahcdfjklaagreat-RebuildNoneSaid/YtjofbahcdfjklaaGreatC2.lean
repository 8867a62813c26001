/- More of the program's functions. No condition. -/
import Derived.Test.YtjofbahcdfjklaaGreatC1
set_option linter.unusedVariables false
namespace Go.Proofs.YtjofbahcdfjklaaGreat
open Go.DI
/- hurdle/layout.turned -/
def R148 : List RV := [(.r p6)]
noncomputable def J148_0 (E : Env) (r0 r1 r2 : DV) (h : H) : Ans :=
  vK (v_add r2 r1) fun x1 =>
  vK (v_lenL r0) fun x2 =>
  vK (v_rem x1 x2) fun x3 =>
  some (x3, h)
def C148_0 : DC := (.seq (.reg [⟨(some p6), none, (.e (.mv (.c (.int .i64 (.ofNat 0)))))⟩]) (.seq (.reg [⟨(some p7), none, (.e (.mv (.r p2)))⟩, ⟨(some p8), none, (.e (.mv (.r p1)))⟩, ⟨(some p9), none, (.e (.bin .add (.r p7) (.r p8)))⟩, ⟨(some p10), none, (.e (.mv (.r p0)))⟩, ⟨(some p11), none, (.e (.lenL (.r p10)))⟩, ⟨(some p12), none, (.e (.bin .rem (.r p9) (.r p11)))⟩, ⟨(some p6), none, (.e (.mv (.r p12)))⟩]) .ret))
theorem I148_0 (E : Env) : Is E C148_0 (retK3 R148) (fun σ h => J148_0 E (σ p0) (σ p1) (σ p2) h) :=
  fun σ h => by kernel_rfl
def D148 : DF := ⟨3, 13, C148_0, R148⟩
noncomputable def S148 (E : Env) : Fun := fun args h => aS args fun r0 args => aS args fun r1 args => aS args fun r2 args => a0 args (J148_0 E r0 r1 r2 h)
theorem S148_eq (E : Env) (args : List DV) (h : H) : runFn E D148 args h = S148 E args h :=
  Is.fn3 (d := D148) (I148_0 E) rfl (fun r0 r1 r2 h => J148_0 E r0 r1 r2 h) (fun r0 r1 r2 h => by kernel_rfl) args h
/- hurdle/codec.groups -/
def R150 : List RV := [(.r p2), (.r p3)]
noncomputable def J150_1 (E : Env) (h : H) : Ans :=
  some ((.tup [(.int .u64 (.ofNat 0)), (.int .i64 (.ofNat 0))]), h)
def C150_1 : DC := (.seq (.reg [⟨(some p2), none, (.e (.mv (.c (.int .u64 (.ofNat 0)))))⟩, ⟨(some p3), none, (.e (.mv (.c (.int .i64 (.ofNat 0)))))⟩]) .ret)
noncomputable def B150_2 (E : Env) (r0 r9 : DV) (i2 : DV → DV → H → Ans) (r4 r10 : DV) (h : H) : Ans :=
  vK (v_lss r10 r9) fun x1 =>
  bK x1
  (vK (v_ixS r0 r10) fun x2 =>
  vK (v_conv .u64 x2) fun x3 =>
  vK (v_and x3 (.int .u64 (.ofNat 127))) fun x4 =>
  vK (v_mul (.int .i64 (.ofNat 7)) r10) fun x5 =>
  vK (v_shl x4 x5) fun x6 =>
  vK (v_or r4 x6) fun x7 =>
  vK (v_geq x3 (.int .u64 (.ofNat 128))) fun x8 =>
  bK x8
  (vK (v_add r10 (.int .i64 (.ofNat 1))) fun x9 =>
  i2 x7 x9 h)
  (vK (v_gtr r10 (.int .i64 (.ofNat 0))) fun x10 =>
  gdK x10 true (fun kk => kk x3 h) h fun x11 h12 =>
  gdK x10 true (fun kk => vK (v_eql x11 (.int .u64 (.ofNat 0))) fun v => kk v h12) h12 fun x13 h14 =>
  vK (v_pick x10 x13 (.bool false)) fun x15 =>
  gdK x15 false (fun kk => kk r10 h14) h14 fun x16 h17 =>
  gdK x15 false (fun kk => vK (v_eql x16 (.int .i64 (.ofNat 9))) fun v => kk v h17) h17 fun x18 h19 =>
  gdK x15 false (fun kk => kk x18 h19) h19 fun x20 h21 =>
  gdK x20 true (fun kk => kk x3 h21) h21 fun x22 h23 =>
  gdK x20 true (fun kk => vK (v_gtr x22 (.int .u64 (.ofNat 1))) fun v => kk v h23) h23 fun x24 h25 =>
  gdK x15 false (fun kk => vK (v_pick x20 x24 (.bool false)) fun v => kk v h25) h25 fun x26 h27 =>
  vK (v_pick x15 (.bool true) x26) fun x28 =>
  bK x28
  (some ((.tup [(.int .u64 (.ofNat 0)), (.int .i64 (.ofNat 0))]), h27))
  (vK (v_add r10 (.int .i64 (.ofNat 1))) fun x29 =>
  some ((.tup [x7, x29]), h27))))
  (J150_1 E h)
noncomputable def L150_2 (E : Env) (r0 r9 : DV) (n : Nat) : DV → DV → H → Ans := Nat.rec (motive := fun _ => DV → DV → H → Ans) (fun _ _ _ => none) (fun _ i => B150_2 E r0 r9 i) n
def C150_2 : DC := (.loop (.seq (.reg [⟨(some p11), none, (.e (.bin .lss (.r p10) (.r p9)))⟩]) (.seq (.cond (.r p11) .skip (.exit 0)) (.seq (.block 1 (.seq (.reg [⟨(some p12), none, (.e (.mv (.r p10)))⟩, ⟨(some p5), none, (.e (.mv (.r p12)))⟩]) (.seq (.reg [⟨(some p13), none, (.e (.mv (.r p0)))⟩, ⟨(some p14), none, (.e (.mv (.r p5)))⟩, ⟨(some p15), none, (.e (.ixS (.r p13) (.r p14)))⟩, ⟨(some p16), none, (.e (.conv .u64 (.r p15)))⟩, ⟨(some p6), none, (.e (.mv (.r p16)))⟩]) (.seq (.reg [⟨(some p17), none, (.e (.mv (.r p4)))⟩, ⟨(some p18), none, (.e (.mv (.r p6)))⟩, ⟨(some p19), none, (.e (.bin .and (.r p18) (.c (.int .u64 (.ofNat 127)))))⟩, ⟨(some p20), none, (.e (.mv (.r p5)))⟩, ⟨(some p21), none, (.e (.bin .mul (.c (.int .i64 (.ofNat 7))) (.r p20)))⟩, ⟨(some p22), none, (.e (.bin .shl (.r p19) (.r p21)))⟩, ⟨(some p23), none, (.e (.bin .or (.r p17) (.r p22)))⟩, ⟨(some p4), none, (.e (.mv (.r p23)))⟩]) (.seq (.seq (.reg [⟨(some p24), none, (.e (.mv (.r p6)))⟩, ⟨(some p25), none, (.e (.bin .geq (.r p24) (.c (.int .u64 (.ofNat 128)))))⟩]) (.cond (.r p25) (.exit 1) .skip)) (.seq (.seq (.reg [⟨(some p26), none, (.e (.mv (.r p5)))⟩, ⟨(some p27), none, (.e (.bin .gtr (.r p26) (.c (.int .i64 (.ofNat 0)))))⟩, ⟨(some p28), none, (.e (.mv (.r p27)))⟩, ⟨(some p29), (some (p28, true)), (.e (.mv (.r p6)))⟩, ⟨(some p30), (some (p28, true)), (.e (.bin .eql (.r p29) (.c (.int .u64 (.ofNat 0)))))⟩, ⟨(some p31), none, (.e (.pick (.r p28) (.r p30) (.c (.bool false))))⟩, ⟨(some p32), none, (.e (.mv (.r p31)))⟩, ⟨(some p33), (some (p32, false)), (.e (.mv (.r p5)))⟩, ⟨(some p34), (some (p32, false)), (.e (.bin .eql (.r p33) (.c (.int .i64 (.ofNat 9)))))⟩, ⟨(some p35), (some (p32, false)), (.e (.mv (.r p34)))⟩, ⟨(some p36), (some (p35, true)), (.e (.mv (.r p6)))⟩, ⟨(some p37), (some (p35, true)), (.e (.bin .gtr (.r p36) (.c (.int .u64 (.ofNat 1)))))⟩, ⟨(some p38), (some (p32, false)), (.e (.pick (.r p35) (.r p37) (.c (.bool false))))⟩, ⟨(some p39), none, (.e (.pick (.r p32) (.c (.bool true)) (.r p38)))⟩]) (.cond (.r p39) (.seq (.reg [⟨(some p2), none, (.e (.mv (.c (.int .u64 (.ofNat 0)))))⟩, ⟨(some p3), none, (.e (.mv (.c (.int .i64 (.ofNat 0)))))⟩]) .ret) .skip)) (.seq (.reg [⟨(some p40), none, (.e (.mv (.r p4)))⟩, ⟨(some p41), none, (.e (.mv (.r p5)))⟩, ⟨(some p42), none, (.e (.bin .add (.r p41) (.c (.int .i64 (.ofNat 1)))))⟩, ⟨(some p2), none, (.e (.mv (.r p40)))⟩, ⟨(some p3), none, (.e (.mv (.r p42)))⟩]) .ret))))))) (.reg [⟨(some p43), none, (.e (.bin .add (.r p10) (.c (.int .i64 (.ofNat 1)))))⟩, ⟨(some p10), none, (.e (.mv (.r p43)))⟩])))))
noncomputable def J150_0 (E : Env) (r0 : DV) (h : H) : Ans :=
  vK (v_lenS r0) fun x1 =>
  vK (v_mn x1 (.int .i64 (.ofNat 10))) fun x2 =>
  L150_2 E r0 x2 FUEL (.int .u64 (.ofNat 0)) (.int .i64 (.ofNat 0)) h
def C150_0 : DC := (.seq (.reg [⟨(some p2), none, (.e (.mv (.c (.int .u64 (.ofNat 0)))))⟩, ⟨(some p3), none, (.e (.mv (.c (.int .i64 (.ofNat 0)))))⟩]) (.seq (.reg [⟨(some p4), none, (.e (.mv (.c (.int .u64 (.ofNat 0)))))⟩]) (.seq (.seq (.reg [⟨(some p7), none, (.e (.mv (.r p0)))⟩, ⟨(some p8), none, (.e (.lenS (.r p7)))⟩, ⟨(some p9), none, (.e (.mn (.r p8) (.c (.int .i64 (.ofNat 10)))))⟩, ⟨(some p10), none, (.e (.mv (.c (.int .i64 (.ofNat 0)))))⟩]) (.block 0 C150_2)) C150_1)))
theorem I150_1 (E : Env) : Is E C150_1 (retK3 R150) (fun σ h => J150_1 E h) :=
  fun σ h => by kernel_rfl
noncomputable abbrev K150_3 (E : Env) : KT2 (DV × H) := (blockK3 0 (thenK3 (fun σ h => J150_1 E h) (retK3 R150)))
theorem I150_2 (E : Env) : Is E C150_2 (K150_3 E) (fun σ h => L150_2 E (σ p0) (σ p9) FUEL (σ p4) (σ p10) h) :=
  Is.loop (fun n2 σ h => L150_2 E (σ p0) (σ p9) n2 (σ p4) (σ p10) h) (by kernel_rfl) fun n2 => Is.as (Is.leaf _) fun σ h => by kernel_rfl
theorem I150_0 (E : Env) : Is E C150_0 (retK3 R150) (fun σ h => J150_0 E (σ p0) h) :=
  Is.as (Is.seq (Is.seq (Is.seq (I150_1 E) (Is.seq (Is.block (I150_2 E)) (Is.leaf _))) (Is.leaf _)) (Is.leaf _)) fun σ h => by kernel_rfl
def D150 : DF := ⟨1, 44, C150_0, R150⟩
noncomputable def S150 (E : Env) : Fun := fun args h => aS args fun r0 args => a0 args (J150_0 E r0 h)
theorem S150_eq (E : Env) (args : List DV) (h : H) : runFn E D150 args h = S150 E args h :=
  Is.fn1 (d := D150) (I150_0 E) rfl (fun r0 h => J150_0 E r0 h) (fun r0 h => by kernel_rfl) args h
/- (*hurdle/codec.Writer).Byte$1 -/
def R151 : List RV := [(.r p3)]
noncomputable def J151_0 (E : Env) (r0 r1 : DV) (h : H) : Ans :=
  vK (v_ld h.get r1) fun x1 =>
  vK (v_conv .u8 x1) fun x2 =>
  n_bsl 1 1 [(.int .u8 (.ofNat 0))] [(0, 1, x2)] h fun x3 h4 =>
  wK (dAppendF 1 1 r0 x3 h4) fun x5 h6 =>
  some (x5, h6)
def C151_0 : DC := (.seq (.reg [⟨(some p3), none, (.e (.mv (.c .nils)))⟩]) (.seq (.reg [⟨(some p4), none, (.e (.mv (.r p0)))⟩, ⟨(some p5), none, (.e (.ld (.r p1)))⟩, ⟨(some p6), none, (.e (.conv .u8 (.r p5)))⟩, ⟨(some p7), none, (.e (.bsl 1 1 [(.int .u8 (.ofNat 0))] [(0, 1, (.r p6))]))⟩, ⟨(some p8), none, (.w (.app 1 1 (.r p4) (.r p7)))⟩, ⟨(some p3), none, (.e (.mv (.r p8)))⟩]) .ret))
theorem I151_0 (E : Env) : Is E C151_0 (retK3 R151) (fun σ h => J151_0 E (σ p0) (σ p1) h) :=
  fun σ h => by kernel_rfl
def D151 : DF := ⟨2, 9, C151_0, R151⟩
noncomputable def S151 (E : Env) : Fun := fun args h => aS args fun r0 args => aS args fun r1 args => a0 args (J151_0 E r0 r1 h)
theorem S151_eq (E : Env) (args : List DV) (h : H) : runFn E D151 args h = S151 E args h :=
  Is.fn2 (d := D151) (I151_0 E) rfl (fun r0 r1 h => J151_0 E r0 r1 h) (fun r0 r1 h => by kernel_rfl) args h
/- (*hurdle/codec.Writer).Ints$1 -/
def R152 : List RV := [(.r p3)]
noncomputable def J152_1 (E : Env) (r0 : DV) (h : H) : Ans :=
  some (r0, h)
def C152_1 : DC := (.seq (.reg [⟨(some p20), none, (.e (.mv (.r p0)))⟩, ⟨(some p3), none, (.e (.mv (.r p20)))⟩]) .ret)
noncomputable def B152_2 (E : Env) (r10 r11 : DV) (i2 : DV → DV → H → Ans) (r0 r12 : DV) (h : H) : Ans :=
  vK (v_lss r12 r11) fun x1 =>
  bK x1
  (vK (v_iaS 1 r10 r12) fun x2 =>
  vK (v_ld h.get x2) fun x3 =>
  wK (callK E 111 [r0, x3] h) fun x4 h5 =>
  vK (v_add r12 (.int .i64 (.ofNat 1))) fun x6 =>
  i2 x4 x6 h5)
  (J152_1 E r0 h)
noncomputable def L152_2 (E : Env) (r10 r11 : DV) (n : Nat) : DV → DV → H → Ans := Nat.rec (motive := fun _ => DV → DV → H → Ans) (fun _ _ _ => none) (fun _ i => B152_2 E r10 r11 i) n
def C152_2 : DC := (.loop (.seq (.reg [⟨(some p13), none, (.e (.bin .lss (.r p12) (.r p11)))⟩]) (.seq (.cond (.r p13) .skip (.exit 0)) (.seq (.block 1 (.seq (.reg [⟨(some p14), none, (.e (.iaS 1 (.r p10) (.r p12)))⟩, ⟨(some p15), none, (.e (.ld (.r p14)))⟩, ⟨(some p5), none, (.e (.mv (.r p15)))⟩]) (.reg [⟨(some p16), none, (.e (.mv (.r p0)))⟩, ⟨(some p17), none, (.e (.mv (.r p5)))⟩, ⟨(some p18), none, (.c (.f 111 [(.r p16), (.r p17)]))⟩, ⟨(some p0), none, (.e (.mv (.r p18)))⟩]))) (.reg [⟨(some p19), none, (.e (.bin .add (.r p12) (.c (.int .i64 (.ofNat 1)))))⟩, ⟨(some p12), none, (.e (.mv (.r p19)))⟩])))))
noncomputable def J152_0 (E : Env) (r0 r1 : DV) (h : H) : Ans :=
  vK (v_ld h.get r1) fun x1 =>
  vK (v_lenL x1) fun x2 =>
  wK (callK E 111 [r0, x2] h) fun x3 h4 =>
  vK (v_ld h4.get r1) fun x5 =>
  vK (v_lenL x5) fun x6 =>
  L152_2 E x5 x6 FUEL x3 (.int .i64 (.ofNat 0)) h4
def C152_0 : DC := (.seq (.reg [⟨(some p3), none, (.e (.mv (.c .nils)))⟩]) (.seq (.reg [⟨(some p6), none, (.e (.mv (.r p0)))⟩, ⟨(some p7), none, (.e (.ld (.r p1)))⟩, ⟨(some p8), none, (.e (.lenL (.r p7)))⟩, ⟨(some p9), none, (.c (.f 111 [(.r p6), (.r p8)]))⟩, ⟨(some p0), none, (.e (.mv (.r p9)))⟩]) (.seq (.seq (.reg [⟨(some p10), none, (.e (.ld (.r p1)))⟩, ⟨(some p11), none, (.e (.lenL (.r p10)))⟩, ⟨(some p12), none, (.e (.mv (.c (.int .i64 (.ofNat 0)))))⟩]) (.block 0 C152_2)) C152_1)))
theorem I152_1 (E : Env) : Is E C152_1 (retK3 R152) (fun σ h => J152_1 E (σ p0) h) :=
  fun σ h => by kernel_rfl
noncomputable abbrev K152_3 (E : Env) : KT2 (DV × H) := (thenK3 (fun σ h => J152_1 E (σ p0) h) (retK3 R152))
theorem I152_2 (E : Env) : Is E C152_2 (blockK3 0 (K152_3 E)) (fun σ h => L152_2 E (σ p10) (σ p11) FUEL (σ p0) (σ p12) h) :=
  Is.loop (fun n2 σ h => L152_2 E (σ p10) (σ p11) n2 (σ p0) (σ p12) h) (by kernel_rfl) fun n2 => Is.as (Is.leaf _) fun σ h => by kernel_rfl
theorem I152_0 (E : Env) : Is E C152_0 (retK3 R152) (fun σ h => J152_0 E (σ p0) (σ p1) h) :=
  Is.as (Is.seq (Is.seq (Is.seq (I152_1 E) (Is.seq (Is.block (I152_2 E)) (Is.leaf _))) (Is.leaf _)) (Is.leaf _)) fun σ h => by kernel_rfl
def D152 : DF := ⟨2, 21, C152_0, R152⟩
noncomputable def S152 (E : Env) : Fun := fun args h => aS args fun r0 args => aS args fun r1 args => a0 args (J152_0 E r0 r1 h)
theorem S152_eq (E : Env) (args : List DV) (h : H) : runFn E D152 args h = S152 E args h :=
  Is.fn2 (d := D152) (I152_0 E) rfl (fun r0 r1 h => J152_0 E r0 r1 h) (fun r0 r1 h => by kernel_rfl) args h
/- slices.BinarySearchFunc[[]hurdle/replies.entry,hurdle/replies.entry,int] -/
def R153 : List RV := [(.r p6), (.r p7)]
noncomputable def J153_1 (E : Env) (r0 r1 r2 r8 r9 : DV) (h : H) : Ans :=
  vK (v_lss r9 r8) fun x1 =>
  gdK x1 true (fun kk => kk r2 h) h fun x2 h3 =>
  gdK x1 true (fun kk => kk r0 h3) h3 fun x4 h5 =>
  gdK x1 true (fun kk => kk r9 h5) h5 fun x6 h7 =>
  gdK x1 true (fun kk => vK (v_iaS 3 x4 x6) fun v => kk v h7) h7 fun x8 h9 =>
  gdK x1 true (fun kk => vK (v_ldN 3 h9.get x8) fun v => kk v h9) h9 fun x10 h11 =>
  gdK x1 true (fun kk => kk r1 h11) h11 fun x12 h13 =>
  gdK x1 true (fun kk => wK (c_val E x2 [x10, x12] h13) kk) h13 fun x14 h15 =>
  gdK x1 true (fun kk => vK (v_eql x14 (.int .i64 (.ofNat 0))) fun v => kk v h15) h15 fun x16 h17 =>
  vK (v_pick x1 x16 (.bool false)) fun x18 =>
  some ((.tup [r9, x18]), h17)
def C153_1 : DC := (.seq (.reg [⟨(some p35), none, (.e (.mv (.r p9)))⟩, ⟨(some p36), none, (.e (.mv (.r p9)))⟩, ⟨(some p37), none, (.e (.mv (.r p8)))⟩, ⟨(some p38), none, (.e (.bin .lss (.r p36) (.r p37)))⟩, ⟨(some p39), none, (.e (.mv (.r p38)))⟩, ⟨(some p40), (some (p39, true)), (.e (.mv (.r p2)))⟩, ⟨(some p41), (some (p39, true)), (.e (.mv (.r p0)))⟩, ⟨(some p42), (some (p39, true)), (.e (.mv (.r p9)))⟩, ⟨(some p43), (some (p39, true)), (.e (.iaS 3 (.r p41) (.r p42)))⟩, ⟨(some p44), (some (p39, true)), (.e (.ldN 3 (.r p43)))⟩, ⟨(some p45), (some (p39, true)), (.e (.mv (.r p1)))⟩, ⟨(some p46), (some (p39, true)), (.c (.v (.r p40) [(.r p44), (.r p45)]))⟩, ⟨(some p47), (some (p39, true)), (.e (.bin .eql (.r p46) (.c (.int .i64 (.ofNat 0)))))⟩, ⟨(some p48), none, (.e (.pick (.r p39) (.r p47) (.c (.bool false))))⟩, ⟨(some p6), none, (.e (.mv (.r p35)))⟩, ⟨(some p7), none, (.e (.mv (.r p48)))⟩]) .ret)
noncomputable def B153_2 (E : Env) (r0 r1 r2 r8 : DV) (i2 : DV → DV → H → Ans) (r9 r10 : DV) (h : H) : Ans :=
  vK (v_lss r9 r10) fun x1 =>
  bK x1
  (vK (v_add r9 r10) fun x2 =>
  vK (v_conv .u64 x2) fun x3 =>
  vK (v_shr x3 (.int .u64 (.ofNat 1))) fun x4 =>
  vK (v_conv .i64 x4) fun x5 =>
  vK (v_iaS 3 r0 x5) fun x6 =>
  vK (v_ldN 3 h.get x6) fun x7 =>
  wK (c_val E r2 [x7, r1] h) fun x8 h9 =>
  vK (v_lss x8 (.int .i64 (.ofNat 0))) fun x10 =>
  bK x10
  (vK (v_add x5 (.int .i64 (.ofNat 1))) fun x11 =>
  i2 x11 r10 h9)
  (i2 r9 x5 h9))
  (J153_1 E r0 r1 r2 r8 r9 h)
noncomputable def L153_2 (E : Env) (r0 r1 r2 r8 : DV) (n : Nat) : DV → DV → H → Ans := Nat.rec (motive := fun _ => DV → DV → H → Ans) (fun _ _ _ => none) (fun _ i => B153_2 E r0 r1 r2 r8 i) n
def C153_2 : DC := (.loop (.seq (.seq (.reg [⟨(some p15), none, (.e (.mv (.r p9)))⟩, ⟨(some p16), none, (.e (.mv (.r p10)))⟩, ⟨(some p17), none, (.e (.bin .lss (.r p15) (.r p16)))⟩]) (.cond (.r p17) .skip (.exit 0))) (.block 1 (.seq (.reg [⟨(some p18), none, (.e (.mv (.r p9)))⟩, ⟨(some p19), none, (.e (.mv (.r p10)))⟩, ⟨(some p20), none, (.e (.bin .add (.r p18) (.r p19)))⟩, ⟨(some p21), none, (.e (.conv .u64 (.r p20)))⟩, ⟨(some p22), none, (.e (.bin .shr (.r p21) (.c (.int .u64 (.ofNat 1)))))⟩, ⟨(some p23), none, (.e (.conv .i64 (.r p22)))⟩, ⟨(some p11), none, (.e (.mv (.r p23)))⟩]) (.seq (.reg [⟨(some p24), none, (.e (.mv (.r p2)))⟩, ⟨(some p25), none, (.e (.mv (.r p0)))⟩, ⟨(some p26), none, (.e (.mv (.r p11)))⟩, ⟨(some p27), none, (.e (.iaS 3 (.r p25) (.r p26)))⟩, ⟨(some p28), none, (.e (.ldN 3 (.r p27)))⟩, ⟨(some p29), none, (.e (.mv (.r p1)))⟩, ⟨(some p30), none, (.c (.v (.r p24) [(.r p28), (.r p29)]))⟩, ⟨(some p31), none, (.e (.bin .lss (.r p30) (.c (.int .i64 (.ofNat 0)))))⟩]) (.cond (.r p31) (.reg [⟨(some p32), none, (.e (.mv (.r p11)))⟩, ⟨(some p33), none, (.e (.bin .add (.r p32) (.c (.int .i64 (.ofNat 1)))))⟩, ⟨(some p9), none, (.e (.mv (.r p33)))⟩]) (.reg [⟨(some p34), none, (.e (.mv (.r p11)))⟩, ⟨(some p10), none, (.e (.mv (.r p34)))⟩])))))))
noncomputable def J153_0 (E : Env) (r0 r1 r2 : DV) (h : H) : Ans :=
  vK (v_lenL r0) fun x1 =>
  L153_2 E r0 r1 r2 x1 FUEL (.int .i64 (.ofNat 0)) x1 h
def C153_0 : DC := (.seq (.reg [⟨(some p6), none, (.e (.mv (.c (.int .i64 (.ofNat 0)))))⟩, ⟨(some p7), none, (.e (.mv (.c (.bool false))))⟩]) (.seq (.reg [⟨(some p12), none, (.e (.mv (.r p0)))⟩, ⟨(some p13), none, (.e (.lenL (.r p12)))⟩, ⟨(some p8), none, (.e (.mv (.r p13)))⟩]) (.seq (.reg [⟨(some p14), none, (.e (.mv (.r p8)))⟩, ⟨(some p9), none, (.e (.mv (.c (.int .i64 (.ofNat 0)))))⟩, ⟨(some p10), none, (.e (.mv (.r p14)))⟩]) (.seq (.block 0 C153_2) C153_1))))
theorem I153_1 (E : Env) : Is E C153_1 (retK3 R153) (fun σ h => J153_1 E (σ p0) (σ p1) (σ p2) (σ p8) (σ p9) h) :=
  fun σ h => by kernel_rfl
noncomputable abbrev K153_3 (E : Env) : KT2 (DV × H) := (thenK3 (fun σ h => J153_1 E (σ p0) (σ p1) (σ p2) (σ p8) (σ p9) h) (retK3 R153))
theorem I153_2 (E : Env) : Is E C153_2 (blockK3 0 (K153_3 E)) (fun σ h => L153_2 E (σ p0) (σ p1) (σ p2) (σ p8) FUEL (σ p9) (σ p10) h) :=
  Is.loop (fun n2 σ h => L153_2 E (σ p0) (σ p1) (σ p2) (σ p8) n2 (σ p9) (σ p10) h) (by kernel_rfl) fun n2 => Is.as (Is.leaf _) fun σ h => by kernel_rfl
theorem I153_0 (E : Env) : Is E C153_0 (retK3 R153) (fun σ h => J153_0 E (σ p0) (σ p1) (σ p2) h) :=
  Is.as (Is.seq (Is.seq (Is.seq (Is.seq (I153_1 E) (Is.block (I153_2 E))) (Is.leaf _)) (Is.leaf _)) (Is.leaf _)) fun σ h => by kernel_rfl
def D153 : DF := ⟨3, 49, C153_0, R153⟩
noncomputable def S153 (E : Env) : Fun := fun args h => aS args fun r0 args => aS args fun r1 args => aS args fun r2 args => a0 args (J153_0 E r0 r1 r2 h)
theorem S153_eq (E : Env) (args : List DV) (h : H) : runFn E D153 args h = S153 E args h :=
  Is.fn3 (d := D153) (I153_0 E) rfl (fun r0 r1 r2 h => J153_0 E r0 r1 r2 h) (fun r0 r1 r2 h => by kernel_rfl) args h
/- (*hurdle/replies.Replies).find$1 -/
def R154 : List RV := [(.r p4)]
noncomputable def J154_0 (E : Env) (r0 r1 : DV) (h : H) : Ans :=
  n_box r0 h fun x1 h2 =>
  vK (v_fa 0 x1) fun x3 =>
  vK (v_ld h2.get x3) fun x4 =>
  vK (v_sub x4 r1) fun x5 =>
  some (x5, h2)
def C154_0 : DC := (.seq (.reg [⟨(some p2), none, (.e (.box (.r p0)))⟩, ⟨(some p4), none, (.e (.mv (.c (.int .i64 (.ofNat 0)))))⟩]) (.seq (.reg [⟨(some p5), none, (.e (.fa 0 (.r p2)))⟩, ⟨(some p6), none, (.e (.ld (.r p5)))⟩, ⟨(some p7), none, (.e (.mv (.r p1)))⟩, ⟨(some p8), none, (.e (.bin .sub (.r p6) (.r p7)))⟩, ⟨(some p4), none, (.e (.mv (.r p8)))⟩]) .ret))
theorem I154_0 (E : Env) : Is E C154_0 (retK3 R154) (fun σ h => J154_0 E (σ p0) (σ p1) h) :=
  fun σ h => by kernel_rfl
def D154 : DF := ⟨2, 9, C154_0, R154⟩
noncomputable def S154 (E : Env) : Fun := fun args h => aS args fun r0 args => aS args fun r1 args => a0 args (J154_0 E r0 r1 h)
theorem S154_eq (E : Env) (args : List DV) (h : H) : runFn E D154 args h = S154 E args h :=
  Is.fn2 (d := D154) (I154_0 E) rfl (fun r0 r1 h => J154_0 E r0 r1 h) (fun r0 r1 h => by kernel_rfl) args h
/- slices.rotateRight[hurdle/replies.entry] -/
def R156 : List RV := []
noncomputable def J156_0 (E : Env) (r0 r1 : DV) (h : H) : Ans :=
  vK (v_lenL r0) fun x1 =>
  vK (v_sub x1 r1) fun x2 =>
  wK (callK E 189 [r0, x2] h) fun x3 h4 =>
  some ((.tup []), h4)
def C156_0 : DC := (.reg [⟨(some p4), none, (.e (.mv (.r p0)))⟩, ⟨(some p5), none, (.e (.mv (.r p0)))⟩, ⟨(some p6), none, (.e (.lenL (.r p5)))⟩, ⟨(some p7), none, (.e (.mv (.r p1)))⟩, ⟨(some p8), none, (.e (.bin .sub (.r p6) (.r p7)))⟩, ⟨(some p9), none, (.c (.f 189 [(.r p4), (.r p8)]))⟩])
theorem I156_0 (E : Env) : Is E C156_0 (retK3 R156) (fun σ h => J156_0 E (σ p0) (σ p1) h) :=
  fun σ h => by kernel_rfl
def D156 : DF := ⟨2, 10, C156_0, R156⟩
noncomputable def S156 (E : Env) : Fun := fun args h => aS args fun r0 args => aS args fun r1 args => a0 args (J156_0 E r0 r1 h)
theorem S156_eq (E : Env) (args : List DV) (h : H) : runFn E D156 args h = S156 E args h :=
  Is.fn2 (d := D156) (I156_0 E) rfl (fun r0 r1 h => J156_0 E r0 r1 h) (fun r0 r1 h => by kernel_rfl) args h
/- (*hurdle/smap.Map).Begin -/
def R157 : List RV := [(.r p10), (.r p11)]
noncomputable def J157_0 (E : Env) (r0 r1 r2 r3 r4 : DV) (h : H) : Ans :=
  wK (callK E 143 [r4] h) fun x1 h2 =>
  vK (v_bld [(.int .i64 (.ofNat 0)), (.int .i64 (.ofNat 0)), (.int .i64 (.ofNat 0)), (.int .i64 (.ofNat 0)), (.int .i64 (.ofNat 0)), .nils] [(1, 1, (.int .i64 (.ofNat 1))), (2, 1, r1), (3, 1, r2), (4, 1, r3), (5, 1, x1)]) fun x3 =>
  n_alc 6 6 (.list [(.int .i64 (.ofNat 0)), (.int .i64 (.ofNat 0)), (.int .i64 (.ofNat 0)), (.int .i64 (.ofNat 0)), (.int .i64 (.ofNat 0)), .nils]) h2 fun x4 h5 =>
  wK (dStF 6 x4 x3 h5) fun x6 h7 =>
  vK (v_eqv .ptr false h7.get r0 .nilp) fun x8 =>
  gdK x8 false (fun kk => vK (v_ldN 6 h7.get x4) fun v => kk v h7) h7 fun x9 h10 =>
  gdK x8 false (fun kk => wK (callK E 190 [x9] h10) kk) h10 fun x11 h12 =>
  gdK x8 false (fun kk => vK (v_not x11) fun v => kk v h12) h12 fun x13 h14 =>
  vK (v_pick x8 (.bool true) x13) fun x15 =>
  bK x15
  (some ((.tup [(.int .i64 (.ofNat 0)), (.int .i64 (.ofNat 1))]), h14))
  (vK (v_nilchk r0) fun x16 =>
  vK (v_fa 1 x16) fun x17 =>
  vK (v_ld h14.get x17) fun x18 =>
  vK (v_geq x18 (.int .i64 (.ofNat 256))) fun x19 =>
  gdK x19 false (fun kk => kk r0 h14) h14 fun x20 h21 =>
  gdK x19 false (fun kk => vK (v_nilchk x20) fun v => kk v h21) h21 fun x22 h23 =>
  gdK x19 false (fun kk => vK (v_fa 0 x22) fun v => kk v h23) h23 fun x24 h25 =>
  gdK x19 false (fun kk => vK (v_ld h25.get x24) fun v => kk v h25) h25 fun x26 h27 =>
  gdK x19 false (fun kk => vK (v_lenL x26) fun v => kk v h27) h27 fun x28 h29 =>
  gdK x19 false (fun kk => vK (v_geq x28 (.int .i64 (.ofNat 4096))) fun v => kk v h29) h29 fun x30 h31 =>
  vK (v_pick x19 (.bool true) x30) fun x32 =>
  bK x32
  (some ((.tup [(.int .i64 (.ofNat 0)), (.int .i64 (.ofNat 5))]), h31))
  (vK (v_nilchk r0) fun x33 =>
  vK (v_fa 0 x33) fun x34 =>
  vK (v_ld h31.get x34) fun x35 =>
  vK (v_lenL x35) fun x36 =>
  vK (v_fa 0 x4) fun x37 =>
  wK (dStF 1 x37 x36 h31) fun x38 h39 =>
  vK (v_nilchk r0) fun x40 =>
  vK (v_fa 0 x40) fun x41 =>
  vK (v_ld h39.get x41) fun x42 =>
  vK (v_ldN 6 h39.get x4) fun x43 =>
  n_bsl 1 6 [(.int .i64 (.ofNat 0)), (.int .i64 (.ofNat 0)), (.int .i64 (.ofNat 0)), (.int .i64 (.ofNat 0)), (.int .i64 (.ofNat 0)), .nils] [(0, 6, x43)] h39 fun x44 h45 =>
  wK (dAppendF 6 64 x42 x44 h45) fun x46 h47 =>
  vK (v_nilchk r0) fun x48 =>
  vK (v_fa 0 x48) fun x49 =>
  wK (dStF 1 x49 x46 h47) fun x50 h51 =>
  vK (v_nilchk r0) fun x52 =>
  vK (v_fa 1 x52) fun x53 =>
  vK (v_ld h51.get x53) fun x54 =>
  vK (v_add x54 (.int .i64 (.ofNat 1))) fun x55 =>
  vK (v_nilchk r0) fun x56 =>
  vK (v_fa 1 x56) fun x57 =>
  wK (dStF 1 x57 x55 h51) fun x58 h59 =>
  vK (v_fa 0 x4) fun x60 =>
  vK (v_ld h59.get x60) fun x61 =>
  some ((.tup [x61, (.int .i64 (.ofNat 0))]), h59)))
def C157_0 : DC := (.seq (.reg [⟨(some p10), none, (.e (.mv (.c (.int .i64 (.ofNat 0)))))⟩, ⟨(some p11), none, (.e (.mv (.c (.int .i64 (.ofNat 0)))))⟩]) (.seq (.reg [⟨(some p13), none, (.e (.mv (.r p1)))⟩, ⟨(some p14), none, (.e (.mv (.r p2)))⟩, ⟨(some p15), none, (.e (.mv (.r p3)))⟩, ⟨(some p16), none, (.e (.mv (.r p4)))⟩, ⟨(some p17), none, (.c (.f 143 [(.r p16)]))⟩, ⟨(some p18), none, (.e (.bld [(.int .i64 (.ofNat 0)), (.int .i64 (.ofNat 0)), (.int .i64 (.ofNat 0)), (.int .i64 (.ofNat 0)), (.int .i64 (.ofNat 0)), .nils] [(1, 1, (.c (.int .i64 (.ofNat 1)))), (2, 1, (.r p13)), (3, 1, (.r p14)), (4, 1, (.r p15)), (5, 1, (.r p17))]))⟩, ⟨(some p12), none, (.e (.alc 6 6 (.list [(.int .i64 (.ofNat 0)), (.int .i64 (.ofNat 0)), (.int .i64 (.ofNat 0)), (.int .i64 (.ofNat 0)), (.int .i64 (.ofNat 0)), .nils])))⟩, ⟨none, none, (.w (.st 6 (.r p12) (.r p18)))⟩]) (.seq (.block 0 (.seq (.reg [⟨(some p20), none, (.e (.mv (.r p0)))⟩, ⟨(some p21), none, (.e (.eqv .ptr false (.r p20) (.c .nilp)))⟩, ⟨(some p22), none, (.e (.mv (.r p21)))⟩, ⟨(some p23), (some (p22, false)), (.e (.ldN 6 (.r p12)))⟩, ⟨(some p24), (some (p22, false)), (.c (.f 190 [(.r p23)]))⟩, ⟨(some p25), (some (p22, false)), (.e (.not (.r p24)))⟩, ⟨(some p26), none, (.e (.pick (.r p22) (.c (.bool true)) (.r p25)))⟩, ⟨(some p19), none, (.e (.mv (.r p26)))⟩]) (.cond (.r p19) (.seq (.reg [⟨(some p10), none, (.e (.mv (.c (.int .i64 (.ofNat 0)))))⟩, ⟨(some p11), none, (.e (.mv (.c (.int .i64 (.ofNat 1)))))⟩]) .ret) (.seq (.reg [⟨(some p28), none, (.e (.mv (.r p0)))⟩, ⟨(some p29), none, (.e (.nilchk (.r p28)))⟩, ⟨(some p30), none, (.e (.fa 1 (.r p29)))⟩, ⟨(some p31), none, (.e (.ld (.r p30)))⟩, ⟨(some p32), none, (.e (.bin .geq (.r p31) (.c (.int .i64 (.ofNat 256)))))⟩, ⟨(some p33), none, (.e (.mv (.r p32)))⟩, ⟨(some p34), (some (p33, false)), (.e (.mv (.r p0)))⟩, ⟨(some p35), (some (p33, false)), (.e (.nilchk (.r p34)))⟩, ⟨(some p36), (some (p33, false)), (.e (.fa 0 (.r p35)))⟩, ⟨(some p37), (some (p33, false)), (.e (.ld (.r p36)))⟩, ⟨(some p38), (some (p33, false)), (.e (.lenL (.r p37)))⟩, ⟨(some p39), (some (p33, false)), (.e (.bin .geq (.r p38) (.c (.int .i64 (.ofNat 4096)))))⟩, ⟨(some p40), none, (.e (.pick (.r p33) (.c (.bool true)) (.r p39)))⟩, ⟨(some p27), none, (.e (.mv (.r p40)))⟩]) (.cond (.r p27) (.seq (.reg [⟨(some p10), none, (.e (.mv (.c (.int .i64 (.ofNat 0)))))⟩, ⟨(some p11), none, (.e (.mv (.c (.int .i64 (.ofNat 5)))))⟩]) .ret) .skip))))) (.seq (.reg [⟨(some p41), none, (.e (.mv (.r p0)))⟩, ⟨(some p42), none, (.e (.nilchk (.r p41)))⟩, ⟨(some p43), none, (.e (.fa 0 (.r p42)))⟩, ⟨(some p44), none, (.e (.ld (.r p43)))⟩, ⟨(some p45), none, (.e (.lenL (.r p44)))⟩, ⟨(some p46), none, (.e (.fa 0 (.r p12)))⟩, ⟨none, none, (.w (.st 1 (.r p46) (.r p45)))⟩]) (.seq (.drg [⟨0, ⟨(some p47), none, (.e (.mv (.r p0)))⟩, [], false⟩, ⟨1, ⟨(some p48), none, (.e (.mv (.r p0)))⟩, [], false⟩, ⟨2, ⟨(some p49), none, (.e (.nilchk (.r p48)))⟩, [], false⟩, ⟨3, ⟨(some p50), none, (.e (.fa 0 (.r p49)))⟩, [], false⟩, ⟨4, ⟨(some p51), none, (.e (.ld (.r p50)))⟩, [], false⟩, ⟨5, ⟨(some p52), none, (.e (.ldN 6 (.r p12)))⟩, [], false⟩, ⟨6, ⟨(some p53), none, (.e (.bsl 1 6 [(.int .i64 (.ofNat 0)), (.int .i64 (.ofNat 0)), (.int .i64 (.ofNat 0)), (.int .i64 (.ofNat 0)), (.int .i64 (.ofNat 0)), .nils] [(0, 6, (.r p52))]))⟩, [], false⟩, ⟨7, ⟨(some p54), none, (.w (.app 6 64 (.r p51) (.r p53)))⟩, [], false⟩, ⟨8, ⟨(some p55), none, (.e (.nilchk (.r p47)))⟩, [], false⟩, ⟨9, ⟨(some p56), none, (.e (.fa 0 (.r p55)))⟩, [], false⟩, ⟨10, ⟨none, none, (.w (.st 1 (.r p56) (.r p54)))⟩, [], false⟩]) (.seq (.reg [⟨(some p57), none, (.e (.mv (.r p0)))⟩, ⟨(some p58), none, (.e (.nilchk (.r p57)))⟩, ⟨(some p59), none, (.e (.fa 1 (.r p58)))⟩, ⟨(some p60), none, (.e (.ld (.r p59)))⟩, ⟨(some p61), none, (.e (.bin .add (.r p60) (.c (.int .i64 (.ofNat 1)))))⟩, ⟨(some p62), none, (.e (.nilchk (.r p57)))⟩, ⟨(some p63), none, (.e (.fa 1 (.r p62)))⟩, ⟨none, none, (.w (.st 1 (.r p63) (.r p61)))⟩]) (.seq (.reg [⟨(some p64), none, (.e (.fa 0 (.r p12)))⟩, ⟨(some p65), none, (.e (.ld (.r p64)))⟩, ⟨(some p10), none, (.e (.mv (.r p65)))⟩, ⟨(some p11), none, (.e (.mv (.c (.int .i64 (.ofNat 0)))))⟩]) .ret)))))))
theorem I157_0 (E : Env) : Is E C157_0 (retK3 R157) (fun σ h => J157_0 E (σ p0) (σ p1) (σ p2) (σ p3) (σ p4) h) :=
  fun σ h => by kernel_rfl
def D157 : DF := ⟨5, 66, C157_0, R157⟩
noncomputable def S157 (E : Env) : Fun := fun args h => aS args fun r0 args => aS args fun r1 args => aS args fun r2 args => aS args fun r3 args => aS args fun r4 args => a0 args (J157_0 E r0 r1 r2 r3 r4 h)
theorem S157_eq (E : Env) (args : List DV) (h : H) : runFn E D157 args h = S157 E args h :=
  Is.fn5 (d := D157) (I157_0 E) rfl (fun r0 r1 r2 r3 r4 h => J157_0 E r0 r1 r2 r3 r4 h) (fun r0 r1 r2 r3 r4 h => by kernel_rfl) args h
/- (*hurdle/members.Members).Servers -/
def R158 : List RV := [(.r p2)]
noncomputable def J158_0 (E : Env) (r0 : DV) (h : H) : Ans :=
  vK (v_eqv .ptr false h.get r0 .nilp) fun x1 =>
  bK x1
  (some (.nils, h))
  (vK (v_nilchk r0) fun x2 =>
  vK (v_fa 0 x2) fun x3 =>
  vK (v_ld h.get x3) fun x4 =>
  wK (callK E 146 [x4] h) fun x5 h6 =>
  some (x5, h6))
def C158_0 : DC := (.seq (.reg [⟨(some p2), none, (.e (.mv (.c .nils)))⟩]) (.seq (.seq (.reg [⟨(some p3), none, (.e (.mv (.r p0)))⟩, ⟨(some p4), none, (.e (.eqv .ptr false (.r p3) (.c .nilp)))⟩]) (.cond (.r p4) (.seq (.reg [⟨(some p2), none, (.e (.mv (.c .nils)))⟩]) .ret) .skip)) (.seq (.reg [⟨(some p5), none, (.e (.mv (.r p0)))⟩, ⟨(some p6), none, (.e (.nilchk (.r p5)))⟩, ⟨(some p7), none, (.e (.fa 0 (.r p6)))⟩, ⟨(some p8), none, (.e (.ld (.r p7)))⟩, ⟨(some p9), none, (.c (.f 146 [(.r p8)]))⟩, ⟨(some p2), none, (.e (.mv (.r p9)))⟩]) .ret)))
theorem I158_0 (E : Env) : Is E C158_0 (retK3 R158) (fun σ h => J158_0 E (σ p0) h) :=
  fun σ h => by kernel_rfl
def D158 : DF := ⟨1, 10, C158_0, R158⟩
noncomputable def S158 (E : Env) : Fun := fun args h => aS args fun r0 args => a0 args (J158_0 E r0 h)
theorem S158_eq (E : Env) (args : List DV) (h : H) : runFn E D158 args h = S158 E args h :=
  Is.fn1 (d := D158) (I158_0 E) rfl (fun r0 h => J158_0 E r0 h) (fun r0 h => by kernel_rfl) args h
/- (*hurdle/smap.Map).Commit -/
def R159 : List RV := [(.r p6)]
noncomputable def J159_0 (E : Env) (r0 r1 r2 : DV) (h : H) : Ans :=
  vK (v_eqv .ptr false h.get r0 .nilp) fun x1 =>
  bK x1
  (some ((.int .i64 (.ofNat 1)), h))
  (wK (callK E 142 [r0, r1] h) fun x2 h3 =>
  vK (v_eqv .ptr false h3.get x2 .nilp) fun x4 =>
  bK x4
  (some ((.int .i64 (.ofNat 7)), h3))
  (vK (v_nilchk x2) fun x5 =>
  vK (v_fa 1 x5) fun x6 =>
  vK (v_ld h3.get x6) fun x7 =>
  vK (v_neq x7 (.int .i64 (.ofNat 1))) fun x8 =>
  gdK x8 false (fun kk => kk x2 h3) h3 fun x9 h10 =>
  gdK x8 false (fun kk => vK (v_nilchk x9) fun v => kk v h10) h10 fun x11 h12 =>
  gdK x8 false (fun kk => vK (v_fa 2 x11) fun v => kk v h12) h12 fun x13 h14 =>
  gdK x8 false (fun kk => vK (v_ld h14.get x13) fun v => kk v h14) h14 fun x15 h16 =>
  gdK x8 false (fun kk => kk r2 h16) h16 fun x17 h18 =>
  gdK x8 false (fun kk => vK (v_neq x15 x17) fun v => kk v h18) h18 fun x19 h20 =>
  vK (v_pick x8 (.bool true) x19) fun x21 =>
  bK x21
  (some ((.int .i64 (.ofNat 16)), h20))
  (vK (v_nilchk x2) fun x22 =>
  vK (v_fa 1 x22) fun x23 =>
  wK (dStF 1 x23 (.int .i64 (.ofNat 2)) h20) fun x24 h25 =>
  some ((.int .i64 (.ofNat 0)), h25))))
def C159_0 : DC := (.seq (.reg [⟨(some p6), none, (.e (.mv (.c (.int .i64 (.ofNat 0)))))⟩]) (.seq (.seq (.reg [⟨(some p8), none, (.e (.mv (.r p0)))⟩, ⟨(some p9), none, (.e (.eqv .ptr false (.r p8) (.c .nilp)))⟩]) (.cond (.r p9) (.seq (.reg [⟨(some p6), none, (.e (.mv (.c (.int .i64 (.ofNat 1)))))⟩]) .ret) .skip)) (.seq (.reg [⟨(some p10), none, (.e (.mv (.r p0)))⟩, ⟨(some p11), none, (.e (.mv (.r p1)))⟩, ⟨(some p12), none, (.c (.f 142 [(.r p10), (.r p11)]))⟩, ⟨(some p7), none, (.e (.mv (.r p12)))⟩]) (.seq (.block 0 (.seq (.reg [⟨(some p14), none, (.e (.mv (.r p7)))⟩, ⟨(some p15), none, (.e (.eqv .ptr false (.r p14) (.c .nilp)))⟩, ⟨(some p13), none, (.e (.mv (.r p15)))⟩]) (.cond (.r p13) (.seq (.reg [⟨(some p6), none, (.e (.mv (.c (.int .i64 (.ofNat 7)))))⟩]) .ret) (.seq (.reg [⟨(some p17), none, (.e (.mv (.r p7)))⟩, ⟨(some p18), none, (.e (.nilchk (.r p17)))⟩, ⟨(some p19), none, (.e (.fa 1 (.r p18)))⟩, ⟨(some p20), none, (.e (.ld (.r p19)))⟩, ⟨(some p21), none, (.e (.bin .neq (.r p20) (.c (.int .i64 (.ofNat 1)))))⟩, ⟨(some p22), none, (.e (.mv (.r p21)))⟩, ⟨(some p23), (some (p22, false)), (.e (.mv (.r p7)))⟩, ⟨(some p24), (some (p22, false)), (.e (.nilchk (.r p23)))⟩, ⟨(some p25), (some (p22, false)), (.e (.fa 2 (.r p24)))⟩, ⟨(some p26), (some (p22, false)), (.e (.ld (.r p25)))⟩, ⟨(some p27), (some (p22, false)), (.e (.mv (.r p2)))⟩, ⟨(some p28), (some (p22, false)), (.e (.bin .neq (.r p26) (.r p27)))⟩, ⟨(some p29), none, (.e (.pick (.r p22) (.c (.bool true)) (.r p28)))⟩, ⟨(some p16), none, (.e (.mv (.r p29)))⟩]) (.cond (.r p16) (.seq (.reg [⟨(some p6), none, (.e (.mv (.c (.int .i64 (.ofNat 16)))))⟩]) .ret) .skip))))) (.seq (.reg [⟨(some p30), none, (.e (.mv (.r p7)))⟩, ⟨(some p31), none, (.e (.nilchk (.r p30)))⟩, ⟨(some p32), none, (.e (.fa 1 (.r p31)))⟩, ⟨none, none, (.w (.st 1 (.r p32) (.c (.int .i64 (.ofNat 2)))))⟩]) (.seq (.reg [⟨(some p6), none, (.e (.mv (.c (.int .i64 (.ofNat 0)))))⟩]) .ret))))))
theorem I159_0 (E : Env) : Is E C159_0 (retK3 R159) (fun σ h => J159_0 E (σ p0) (σ p1) (σ p2) h) :=
  fun σ h => by kernel_rfl
def D159 : DF := ⟨3, 33, C159_0, R159⟩
noncomputable def S159 (E : Env) : Fun := fun args h => aS args fun r0 args => aS args fun r1 args => aS args fun r2 args => a0 args (J159_0 E r0 r1 r2 h)
theorem S159_eq (E : Env) (args : List DV) (h : H) : runFn E D159 args h = S159 E args h :=
  Is.fn3 (d := D159) (I159_0 E) rfl (fun r0 r1 r2 h => J159_0 E r0 r1 r2 h) (fun r0 r1 r2 h => by kernel_rfl) args h
/- (*hurdle/usage.Usage).Add -/
def R160 : List RV := [(.r p10)]
noncomputable def J160_0 (E : Env) (r0 r1 r2 r3 r4 : DV) (h : H) : Ans :=
  vK (v_bld [(.int .i64 (.ofNat 0)), (.int .i64 (.ofNat 0)), (.int .i64 (.ofNat 0)), (.int .i64 (.ofNat 0))] [(0, 1, r1), (1, 1, r2), (2, 1, r3), (3, 1, r4)]) fun x1 =>
  wK (callK E 192 [r0, x1] h) fun x2 h3 =>
  wK (callK E 191 [x2] h3) fun x4 h5 =>
  some (x4, h5)
def C160_0 : DC := (.seq (.reg [⟨(some p10), none, (.e (.mv (.c (.int .i64 (.ofNat 0)))))⟩]) (.seq (.reg [⟨(some p11), none, (.e (.mv (.r p0)))⟩, ⟨(some p12), none, (.e (.mv (.r p1)))⟩, ⟨(some p13), none, (.e (.mv (.r p2)))⟩, ⟨(some p14), none, (.e (.mv (.r p3)))⟩, ⟨(some p15), none, (.e (.mv (.r p4)))⟩, ⟨(some p16), none, (.e (.bld [(.int .i64 (.ofNat 0)), (.int .i64 (.ofNat 0)), (.int .i64 (.ofNat 0)), (.int .i64 (.ofNat 0))] [(0, 1, (.r p12)), (1, 1, (.r p13)), (2, 1, (.r p14)), (3, 1, (.r p15))]))⟩, ⟨(some p17), none, (.c (.f 192 [(.r p11), (.r p16)]))⟩, ⟨(some p18), none, (.c (.f 191 [(.r p17)]))⟩, ⟨(some p10), none, (.e (.mv (.r p18)))⟩]) .ret))
theorem I160_0 (E : Env) : Is E C160_0 (retK3 R160) (fun σ h => J160_0 E (σ p0) (σ p1) (σ p2) (σ p3) (σ p4) h) :=
  fun σ h => by kernel_rfl
def D160 : DF := ⟨5, 19, C160_0, R160⟩
noncomputable def S160 (E : Env) : Fun := fun args h => aS args fun r0 args => aS args fun r1 args => aS args fun r2 args => aS args fun r3 args => aS args fun r4 args => a0 args (J160_0 E r0 r1 r2 r3 r4 h)
theorem S160_eq (E : Env) (args : List DV) (h : H) : runFn E D160 args h = S160 E args h :=
  Is.fn5 (d := D160) (I160_0 E) rfl (fun r0 r1 r2 r3 r4 h => J160_0 E r0 r1 r2 r3 r4 h) (fun r0 r1 r2 r3 r4 h => by kernel_rfl) args h
/- (*hurdle/members.Members).Fail -/
def R166 : List RV := [(.r p6)]
noncomputable def J166_0 (E : Env) (r0 r1 r2 : DV) (h : H) : Ans :=
  vK (v_eqv .ptr false h.get r0 .nilp) fun x1 =>
  bK x1
  (some ((.int .i64 (.ofNat 1)), h))
  (vK (v_nilchk r0) fun x2 =>
  vK (v_fa 0 x2) fun x3 =>
  vK (v_ld h.get x3) fun x4 =>
  wK (callK E 106 [x4, r1] h) fun x5 h6 =>
  vK (v_lss x5 (.int .i64 (.ofNat 0))) fun x7 =>
  bK x7
  (some ((.int .i64 (.ofNat 7)), h6))
  (vK (v_nilchk r0) fun x8 =>
  vK (v_fa 3 x8) fun x9 =>
  vK (v_ld h6.get x9) fun x10 =>
  vK (v_neq x10 (.int .i64 (.negSucc 0))) fun x11 =>
  bK x11
  (some ((.int .i64 (.ofNat 9)), h6))
  (vK (v_nilchk r0) fun x12 =>
  vK (v_fa 2 x12) fun x13 =>
  vK (v_ld h6.get x13) fun x14 =>
  vK (v_neq r2 x14) fun x15 =>
  bK x15
  (some ((.int .i64 (.ofNat 10)), h6))
  (vK (v_nilchk r0) fun x16 =>
  vK (v_fa 3 x16) fun x17 =>
  wK (dStF 1 x17 x5 h6) fun x18 h19 =>
  vK (v_nilchk r0) fun x20 =>
  vK (v_fa 5 x20) fun x21 =>
  wK (dStF 1 x21 r1 h19) fun x22 h23 =>
  vK (v_nilchk r0) fun x24 =>
  vK (v_fa 4 x24) fun x25 =>
  wK (dStF 1 x25 (.bool false) h23) fun x26 h27 =>
  vK (v_nilchk r0) fun x28 =>
  vK (v_fa 2 x28) fun x29 =>
  vK (v_ld h27.get x29) fun x30 =>
  vK (v_add x30 (.int .i64 (.ofNat 1))) fun x31 =>
  vK (v_nilchk r0) fun x32 =>
  vK (v_fa 2 x32) fun x33 =>
  wK (dStF 1 x33 x31 h27) fun x34 h35 =>
  some ((.int .i64 (.ofNat 0)), h35)))))
def C166_0 : DC := (.seq (.reg [⟨(some p6), none, (.e (.mv (.c (.int .i64 (.ofNat 0)))))⟩]) (.seq (.seq (.reg [⟨(some p8), none, (.e (.mv (.r p0)))⟩, ⟨(some p9), none, (.e (.eqv .ptr false (.r p8) (.c .nilp)))⟩]) (.cond (.r p9) (.seq (.reg [⟨(some p6), none, (.e (.mv (.c (.int .i64 (.ofNat 1)))))⟩]) .ret) .skip)) (.seq (.reg [⟨(some p10), none, (.e (.mv (.r p0)))⟩, ⟨(some p11), none, (.e (.nilchk (.r p10)))⟩, ⟨(some p12), none, (.e (.fa 0 (.r p11)))⟩, ⟨(some p13), none, (.e (.ld (.r p12)))⟩, ⟨(some p14), none, (.e (.mv (.r p1)))⟩, ⟨(some p15), none, (.c (.f 106 [(.r p13), (.r p14)]))⟩, ⟨(some p7), none, (.e (.mv (.r p15)))⟩]) (.seq (.block 0 (.seq (.reg [⟨(some p17), none, (.e (.mv (.r p7)))⟩, ⟨(some p18), none, (.e (.bin .lss (.r p17) (.c (.int .i64 (.ofNat 0)))))⟩, ⟨(some p16), none, (.e (.mv (.r p18)))⟩]) (.cond (.r p16) (.seq (.reg [⟨(some p6), none, (.e (.mv (.c (.int .i64 (.ofNat 7)))))⟩]) .ret) (.seq (.reg [⟨(some p20), none, (.e (.mv (.r p0)))⟩, ⟨(some p21), none, (.e (.nilchk (.r p20)))⟩, ⟨(some p22), none, (.e (.fa 3 (.r p21)))⟩, ⟨(some p23), none, (.e (.ld (.r p22)))⟩, ⟨(some p24), none, (.e (.bin .neq (.r p23) (.c (.int .i64 (.negSucc 0)))))⟩, ⟨(some p19), none, (.e (.mv (.r p24)))⟩]) (.cond (.r p19) (.seq (.reg [⟨(some p6), none, (.e (.mv (.c (.int .i64 (.ofNat 9)))))⟩]) .ret) (.seq (.reg [⟨(some p26), none, (.e (.mv (.r p2)))⟩, ⟨(some p27), none, (.e (.mv (.r p0)))⟩, ⟨(some p28), none, (.e (.nilchk (.r p27)))⟩, ⟨(some p29), none, (.e (.fa 2 (.r p28)))⟩, ⟨(some p30), none, (.e (.ld (.r p29)))⟩, ⟨(some p31), none, (.e (.bin .neq (.r p26) (.r p30)))⟩, ⟨(some p25), none, (.e (.mv (.r p31)))⟩]) (.cond (.r p25) (.seq (.reg [⟨(some p6), none, (.e (.mv (.c (.int .i64 (.ofNat 10)))))⟩]) .ret) .skip))))))) (.seq (.reg [⟨(some p32), none, (.e (.mv (.r p0)))⟩, ⟨(some p33), none, (.e (.mv (.r p0)))⟩, ⟨(some p34), none, (.e (.mv (.r p0)))⟩, ⟨(some p35), none, (.e (.mv (.r p7)))⟩, ⟨(some p36), none, (.e (.mv (.r p1)))⟩, ⟨(some p37), none, (.e (.nilchk (.r p32)))⟩, ⟨(some p38), none, (.e (.fa 3 (.r p37)))⟩, ⟨none, none, (.w (.st 1 (.r p38) (.r p35)))⟩, ⟨(some p39), none, (.e (.nilchk (.r p33)))⟩, ⟨(some p40), none, (.e (.fa 5 (.r p39)))⟩, ⟨none, none, (.w (.st 1 (.r p40) (.r p36)))⟩, ⟨(some p41), none, (.e (.nilchk (.r p34)))⟩, ⟨(some p42), none, (.e (.fa 4 (.r p41)))⟩, ⟨none, none, (.w (.st 1 (.r p42) (.c (.bool false))))⟩]) (.seq (.reg [⟨(some p43), none, (.e (.mv (.r p0)))⟩, ⟨(some p44), none, (.e (.nilchk (.r p43)))⟩, ⟨(some p45), none, (.e (.fa 2 (.r p44)))⟩, ⟨(some p46), none, (.e (.ld (.r p45)))⟩, ⟨(some p47), none, (.e (.bin .add (.r p46) (.c (.int .i64 (.ofNat 1)))))⟩, ⟨(some p48), none, (.e (.nilchk (.r p43)))⟩, ⟨(some p49), none, (.e (.fa 2 (.r p48)))⟩, ⟨none, none, (.w (.st 1 (.r p49) (.r p47)))⟩]) (.seq (.reg [⟨(some p6), none, (.e (.mv (.c (.int .i64 (.ofNat 0)))))⟩]) .ret)))))))
theorem I166_0 (E : Env) : Is E C166_0 (retK3 R166) (fun σ h => J166_0 E (σ p0) (σ p1) (σ p2) h) :=
  fun σ h => by kernel_rfl
def D166 : DF := ⟨3, 50, C166_0, R166⟩
noncomputable def S166 (E : Env) : Fun := fun args h => aS args fun r0 args => aS args fun r1 args => aS args fun r2 args => a0 args (J166_0 E r0 r1 r2 h)
theorem S166_eq (E : Env) (args : List DV) (h : H) : runFn E D166 args h = S166 E args h :=
  Is.fn3 (d := D166) (I166_0 E) rfl (fun r0 r1 r2 h => J166_0 E r0 r1 r2 h) (fun r0 r1 r2 h => by kernel_rfl) args h
/- (*hurdle/members.Members).Swap -/
def R167 : List RV := [(.r p4), (.r p5)]
noncomputable def J167_0 (E : Env) (r0 r1 : DV) (h : H) : Ans :=
  vK (v_eqv .ptr false h.get r0 .nilp) fun x1 =>
  bK x1
  (some ((.tup [(.int .i64 (.ofNat 0)), (.int .i64 (.ofNat 1))]), h))
  (vK (v_nilchk r0) fun x2 =>
  vK (v_fa 1 x2) fun x3 =>
  vK (v_ld h.get x3) fun x4 =>
  vK (v_lenL x4) fun x5 =>
  vK (v_eql x5 (.int .i64 (.ofNat 0))) fun x6 =>
  bK x6
  (some ((.tup [(.int .i64 (.ofNat 0)), (.int .i64 (.ofNat 7))]), h))
  (vK (v_nilchk r0) fun x7 =>
  vK (v_fa 2 x7) fun x8 =>
  vK (v_ld h.get x8) fun x9 =>
  vK (v_neq r1 x9) fun x10 =>
  bK x10
  (some ((.tup [(.int .i64 (.ofNat 0)), (.int .i64 (.ofNat 10))]), h))
  (vK (v_nilchk r0) fun x11 =>
  vK (v_fa 3 x11) fun x12 =>
  vK (v_ld h.get x12) fun x13 =>
  vK (v_eql x13 (.int .i64 (.negSucc 0))) fun x14 =>
  gdK x14 false (fun kk => kk r0 h) h fun x15 h16 =>
  gdK x14 false (fun kk => vK (v_nilchk x15) fun v => kk v h16) h16 fun x17 h18 =>
  gdK x14 false (fun kk => vK (v_fa 4 x17) fun v => kk v h18) h18 fun x19 h20 =>
  gdK x14 false (fun kk => vK (v_ld h20.get x19) fun v => kk v h20) h20 fun x21 h22 =>
  vK (v_pick x14 (.bool true) x21) fun x23 =>
  bK x23
  (some ((.tup [(.int .i64 (.ofNat 0)), (.int .i64 (.ofNat 16))]), h22))
  (vK (v_nilchk r0) fun x24 =>
  vK (v_fa 1 x24) fun x25 =>
  vK (v_ld h22.get x25) fun x26 =>
  vK (v_iaS 1 x26 (.int .i64 (.ofNat 0))) fun x27 =>
  vK (v_ld h22.get x27) fun x28 =>
  vK (v_nilchk r0) fun x29 =>
  vK (v_fa 1 x29) fun x30 =>
  vK (v_ld h22.get x30) fun x31 =>
  vK (v_slL 1 x31 (some (.int .i64 (.ofNat 1))) none) fun x32 =>
  vK (v_nilchk r0) fun x33 =>
  vK (v_fa 1 x33) fun x34 =>
  wK (dStF 1 x34 x32 h22) fun x35 h36 =>
  vK (v_nilchk r0) fun x37 =>
  vK (v_fa 0 x37) fun x38 =>
  vK (v_ld h36.get x38) fun x39 =>
  vK (v_nilchk r0) fun x40 =>
  vK (v_fa 3 x40) fun x41 =>
  vK (v_ld h36.get x41) fun x42 =>
  vK (v_iaS 1 x39 x42) fun x43 =>
  wK (dStF 1 x43 x28 h36) fun x44 h45 =>
  vK (v_nilchk r0) fun x46 =>
  vK (v_fa 4 x46) fun x47 =>
  wK (dStF 1 x47 (.bool true) h45) fun x48 h49 =>
  vK (v_nilchk r0) fun x50 =>
  vK (v_fa 2 x50) fun x51 =>
  vK (v_ld h49.get x51) fun x52 =>
  vK (v_add x52 (.int .i64 (.ofNat 1))) fun x53 =>
  vK (v_nilchk r0) fun x54 =>
  vK (v_fa 2 x54) fun x55 =>
  wK (dStF 1 x55 x53 h49) fun x56 h57 =>
  some ((.tup [x28, (.int .i64 (.ofNat 0))]), h57)))))
def C167_0 : DC := (.seq (.reg [⟨(some p4), none, (.e (.mv (.c (.int .i64 (.ofNat 0)))))⟩, ⟨(some p5), none, (.e (.mv (.c (.int .i64 (.ofNat 0)))))⟩]) (.seq (.block 0 (.seq (.reg [⟨(some p8), none, (.e (.mv (.r p0)))⟩, ⟨(some p9), none, (.e (.eqv .ptr false (.r p8) (.c .nilp)))⟩, ⟨(some p7), none, (.e (.mv (.r p9)))⟩]) (.cond (.r p7) (.seq (.reg [⟨(some p4), none, (.e (.mv (.c (.int .i64 (.ofNat 0)))))⟩, ⟨(some p5), none, (.e (.mv (.c (.int .i64 (.ofNat 1)))))⟩]) .ret) (.seq (.reg [⟨(some p11), none, (.e (.mv (.r p0)))⟩, ⟨(some p12), none, (.e (.nilchk (.r p11)))⟩, ⟨(some p13), none, (.e (.fa 1 (.r p12)))⟩, ⟨(some p14), none, (.e (.ld (.r p13)))⟩, ⟨(some p15), none, (.e (.lenL (.r p14)))⟩, ⟨(some p16), none, (.e (.bin .eql (.r p15) (.c (.int .i64 (.ofNat 0)))))⟩, ⟨(some p10), none, (.e (.mv (.r p16)))⟩]) (.cond (.r p10) (.seq (.reg [⟨(some p4), none, (.e (.mv (.c (.int .i64 (.ofNat 0)))))⟩, ⟨(some p5), none, (.e (.mv (.c (.int .i64 (.ofNat 7)))))⟩]) .ret) (.seq (.reg [⟨(some p18), none, (.e (.mv (.r p1)))⟩, ⟨(some p19), none, (.e (.mv (.r p0)))⟩, ⟨(some p20), none, (.e (.nilchk (.r p19)))⟩, ⟨(some p21), none, (.e (.fa 2 (.r p20)))⟩, ⟨(some p22), none, (.e (.ld (.r p21)))⟩, ⟨(some p23), none, (.e (.bin .neq (.r p18) (.r p22)))⟩, ⟨(some p17), none, (.e (.mv (.r p23)))⟩]) (.cond (.r p17) (.seq (.reg [⟨(some p4), none, (.e (.mv (.c (.int .i64 (.ofNat 0)))))⟩, ⟨(some p5), none, (.e (.mv (.c (.int .i64 (.ofNat 10)))))⟩]) .ret) (.seq (.reg [⟨(some p25), none, (.e (.mv (.r p0)))⟩, ⟨(some p26), none, (.e (.nilchk (.r p25)))⟩, ⟨(some p27), none, (.e (.fa 3 (.r p26)))⟩, ⟨(some p28), none, (.e (.ld (.r p27)))⟩, ⟨(some p29), none, (.e (.bin .eql (.r p28) (.c (.int .i64 (.negSucc 0)))))⟩, ⟨(some p30), none, (.e (.mv (.r p29)))⟩, ⟨(some p31), (some (p30, false)), (.e (.mv (.r p0)))⟩, ⟨(some p32), (some (p30, false)), (.e (.nilchk (.r p31)))⟩, ⟨(some p33), (some (p30, false)), (.e (.fa 4 (.r p32)))⟩, ⟨(some p34), (some (p30, false)), (.e (.ld (.r p33)))⟩, ⟨(some p35), none, (.e (.pick (.r p30) (.c (.bool true)) (.r p34)))⟩, ⟨(some p24), none, (.e (.mv (.r p35)))⟩]) (.cond (.r p24) (.seq (.reg [⟨(some p4), none, (.e (.mv (.c (.int .i64 (.ofNat 0)))))⟩, ⟨(some p5), none, (.e (.mv (.c (.int .i64 (.ofNat 16)))))⟩]) .ret) .skip))))))))) (.seq (.reg [⟨(some p36), none, (.e (.mv (.r p0)))⟩, ⟨(some p37), none, (.e (.nilchk (.r p36)))⟩, ⟨(some p38), none, (.e (.fa 1 (.r p37)))⟩, ⟨(some p39), none, (.e (.ld (.r p38)))⟩, ⟨(some p40), none, (.e (.iaS 1 (.r p39) (.c (.int .i64 (.ofNat 0)))))⟩, ⟨(some p41), none, (.e (.ld (.r p40)))⟩, ⟨(some p6), none, (.e (.mv (.r p41)))⟩]) (.seq (.reg [⟨(some p42), none, (.e (.mv (.r p0)))⟩, ⟨(some p43), none, (.e (.mv (.r p0)))⟩, ⟨(some p44), none, (.e (.nilchk (.r p43)))⟩, ⟨(some p45), none, (.e (.fa 1 (.r p44)))⟩, ⟨(some p46), none, (.e (.ld (.r p45)))⟩, ⟨(some p47), none, (.e (.slL 1 (.r p46) (some (.c (.int .i64 (.ofNat 1)))) none))⟩, ⟨(some p48), none, (.e (.nilchk (.r p42)))⟩, ⟨(some p49), none, (.e (.fa 1 (.r p48)))⟩, ⟨none, none, (.w (.st 1 (.r p49) (.r p47)))⟩]) (.seq (.drg [⟨0, ⟨(some p50), none, (.e (.mv (.r p0)))⟩, [], false⟩, ⟨1, ⟨(some p51), none, (.e (.nilchk (.r p50)))⟩, [], false⟩, ⟨2, ⟨(some p52), none, (.e (.fa 0 (.r p51)))⟩, [], false⟩, ⟨3, ⟨(some p53), none, (.e (.ld (.r p52)))⟩, [], false⟩, ⟨4, ⟨(some p54), none, (.e (.mv (.r p0)))⟩, [], false⟩, ⟨5, ⟨(some p55), none, (.e (.nilchk (.r p54)))⟩, [], false⟩, ⟨6, ⟨(some p56), none, (.e (.fa 3 (.r p55)))⟩, [], false⟩, ⟨7, ⟨(some p57), none, (.e (.ld (.r p56)))⟩, [], false⟩, ⟨8, ⟨(some p58), none, (.e (.mv (.r p0)))⟩, [], false⟩, ⟨9, ⟨(some p59), none, (.e (.mv (.r p6)))⟩, [], false⟩, ⟨10, ⟨(some p60), none, (.e (.iaS 1 (.r p53) (.r p57)))⟩, [], false⟩, ⟨11, ⟨none, none, (.w (.st 1 (.r p60) (.r p59)))⟩, [], false⟩, ⟨12, ⟨(some p61), none, (.e (.nilchk (.r p58)))⟩, [], false⟩, ⟨13, ⟨(some p62), none, (.e (.fa 4 (.r p61)))⟩, [], false⟩, ⟨14, ⟨none, none, (.w (.st 1 (.r p62) (.c (.bool true))))⟩, [], false⟩]) (.seq (.reg [⟨(some p63), none, (.e (.mv (.r p0)))⟩, ⟨(some p64), none, (.e (.nilchk (.r p63)))⟩, ⟨(some p65), none, (.e (.fa 2 (.r p64)))⟩, ⟨(some p66), none, (.e (.ld (.r p65)))⟩, ⟨(some p67), none, (.e (.bin .add (.r p66) (.c (.int .i64 (.ofNat 1)))))⟩, ⟨(some p68), none, (.e (.nilchk (.r p63)))⟩, ⟨(some p69), none, (.e (.fa 2 (.r p68)))⟩, ⟨none, none, (.w (.st 1 (.r p69) (.r p67)))⟩]) (.seq (.reg [⟨(some p70), none, (.e (.mv (.r p6)))⟩, ⟨(some p4), none, (.e (.mv (.r p70)))⟩, ⟨(some p5), none, (.e (.mv (.c (.int .i64 (.ofNat 0)))))⟩]) .ret)))))))
theorem I167_0 (E : Env) : Is E C167_0 (retK3 R167) (fun σ h => J167_0 E (σ p0) (σ p1) h) :=
  fun σ h => by kernel_rfl
def D167 : DF := ⟨2, 71, C167_0, R167⟩
noncomputable def S167 (E : Env) : Fun := fun args h => aS args fun r0 args => aS args fun r1 args => a0 args (J167_0 E r0 r1 h)
theorem S167_eq (E : Env) (args : List DV) (h : H) : runFn E D167 args h = S167 E args h :=
  Is.fn2 (d := D167) (I167_0 E) rfl (fun r0 r1 h => J167_0 E r0 r1 h) (fun r0 r1 h => by kernel_rfl) args h
/- (*hurdle/smap.Map).On -/
def R168 : List RV := [(.r p4)]
noncomputable def J168_0 (E : Env) (r0 r1 : DV) (h : H) : Ans :=
  n_box r1 h fun x1 h2 =>
  wK (callK E 107 [r0, (.fn (.func 198) [] [x1])] h2) fun x3 h4 =>
  some (x3, h4)
def C168_0 : DC := (.seq (.reg [⟨(some p3), none, (.e (.box (.r p1)))⟩, ⟨(some p4), none, (.e (.mv (.c .nils)))⟩]) (.seq (.reg [⟨(some p5), none, (.e (.mv (.r p0)))⟩, ⟨(some p6), none, (.e (.mkF (.func 198) [] [(.r p3)]))⟩, ⟨(some p7), none, (.c (.f 107 [(.r p5), (.r p6)]))⟩, ⟨(some p4), none, (.e (.mv (.r p7)))⟩]) .ret))
theorem I168_0 (E : Env) : Is E C168_0 (retK3 R168) (fun σ h => J168_0 E (σ p0) (σ p1) h) :=
  fun σ h => by kernel_rfl
def D168 : DF := ⟨2, 8, C168_0, R168⟩
noncomputable def S168 (E : Env) : Fun := fun args h => aS args fun r0 args => aS args fun r1 args => a0 args (J168_0 E r0 r1 h)
theorem S168_eq (E : Env) (args : List DV) (h : H) : runFn E D168 args h = S168 E args h :=
  Is.fn2 (d := D168) (I168_0 E) rfl (fun r0 r1 h => J168_0 E r0 r1 h) (fun r0 r1 h => by kernel_rfl) args h
/- (*hurdle/smap.Map).Move -/
def R169 : List RV := [(.r p8)]
noncomputable def J169_1 (E : Env) (r0 r2 r3 r9 r10 : DV) (h : H) : Ans :=
  vK (v_eqv .ptr false h.get r0 .nilp) fun x1 =>
  gdK x1 false (fun kk => kk r2 h) h fun x2 h3 =>
  gdK x1 false (fun kk => vK (v_lss x2 (.int .i64 (.ofNat 0))) fun v => kk v h3) h3 fun x4 h5 =>
  vK (v_pick x1 (.bool true) x4) fun x6 =>
  gdK x6 false (fun kk => kk r2 h5) h5 fun x7 h8 =>
  gdK x6 false (fun kk => kk r10 h8) h8 fun x9 h10 =>
  gdK x6 false (fun kk => vK (v_geq x7 x9) fun v => kk v h10) h10 fun x11 h12 =>
  vK (v_pick x6 (.bool true) x11) fun x13 =>
  gdK x13 false (fun kk => kk r3 h12) h12 fun x14 h15 =>
  gdK x13 false (fun kk => vK (v_lss x14 (.int .i64 (.ofNat 0))) fun v => kk v h15) h15 fun x16 h17 =>
  vK (v_pick x13 (.bool true) x16) fun x18 =>
  gdK x18 false (fun kk => kk r3 h17) h17 fun x19 h20 =>
  gdK x18 false (fun kk => vK (v_geq x19 (.int .i64 (.ofNat 64))) fun v => kk v h20) h20 fun x21 h22 =>
  vK (v_pick x18 (.bool true) x21) fun x23 =>
  bK x23
  (some ((.int .i64 (.ofNat 1)), h22))
  (vK (v_eqv .ptr false h22.get r9 .nilp) fun x24 =>
  bK x24
  (some ((.int .i64 (.ofNat 7)), h22))
  (vK (v_nilchk r9) fun x25 =>
  vK (v_fa 5 x25) fun x26 =>
  vK (v_ld h22.get x26) fun x27 =>
  wK (callK E 106 [x27, r3] h22) fun x28 h29 =>
  vK (v_geq x28 (.int .i64 (.ofNat 0))) fun x30 =>
  gdK x30 true (fun kk => kk x28 h29) h29 fun x31 h32 =>
  gdK x30 true (fun kk => kk r2 h32) h32 fun x33 h34 =>
  gdK x30 true (fun kk => vK (v_neq x31 x33) fun v => kk v h34) h34 fun x35 h36 =>
  vK (v_pick x30 x35 (.bool false)) fun x37 =>
  bK x37
  (some ((.int .i64 (.ofNat 6)), h36))
  (vK (v_nilchk r9) fun x38 =>
  vK (v_fa 1 x38) fun x39 =>
  vK (v_ld h36.get x39) fun x40 =>
  vK (v_eql x40 (.int .i64 (.ofNat 3))) fun x41 =>
  bK x41
  (some ((.int .i64 (.ofNat 16)), h36))
  (vK (v_nilchk r9) fun x42 =>
  vK (v_fa 5 x42) fun x43 =>
  vK (v_ld h36.get x43) fun x44 =>
  vK (v_iaS 1 x44 r2) fun x45 =>
  wK (dStF 1 x45 r3 h36) fun x46 h47 =>
  some ((.int .i64 (.ofNat 0)), h47)))))
def C169_1 : DC := (.seq (.seq (.reg [⟨(some p22), none, (.e (.mv (.r p0)))⟩, ⟨(some p23), none, (.e (.eqv .ptr false (.r p22) (.c .nilp)))⟩, ⟨(some p24), none, (.e (.mv (.r p23)))⟩, ⟨(some p25), (some (p24, false)), (.e (.mv (.r p2)))⟩, ⟨(some p26), (some (p24, false)), (.e (.bin .lss (.r p25) (.c (.int .i64 (.ofNat 0)))))⟩, ⟨(some p27), none, (.e (.pick (.r p24) (.c (.bool true)) (.r p26)))⟩, ⟨(some p28), none, (.e (.mv (.r p27)))⟩, ⟨(some p29), (some (p28, false)), (.e (.mv (.r p2)))⟩, ⟨(some p30), (some (p28, false)), (.e (.mv (.r p10)))⟩, ⟨(some p31), (some (p28, false)), (.e (.bin .geq (.r p29) (.r p30)))⟩, ⟨(some p32), none, (.e (.pick (.r p28) (.c (.bool true)) (.r p31)))⟩, ⟨(some p33), none, (.e (.mv (.r p32)))⟩, ⟨(some p34), (some (p33, false)), (.e (.mv (.r p3)))⟩, ⟨(some p35), (some (p33, false)), (.e (.bin .lss (.r p34) (.c (.int .i64 (.ofNat 0)))))⟩, ⟨(some p36), none, (.e (.pick (.r p33) (.c (.bool true)) (.r p35)))⟩, ⟨(some p37), none, (.e (.mv (.r p36)))⟩, ⟨(some p38), (some (p37, false)), (.e (.mv (.r p3)))⟩, ⟨(some p39), (some (p37, false)), (.e (.bin .geq (.r p38) (.c (.int .i64 (.ofNat 64)))))⟩, ⟨(some p40), none, (.e (.pick (.r p37) (.c (.bool true)) (.r p39)))⟩]) (.cond (.r p40) (.seq (.reg [⟨(some p8), none, (.e (.mv (.c (.int .i64 (.ofNat 1)))))⟩]) .ret) .skip)) (.seq (.seq (.reg [⟨(some p41), none, (.e (.mv (.r p9)))⟩, ⟨(some p42), none, (.e (.eqv .ptr false (.r p41) (.c .nilp)))⟩]) (.cond (.r p42) (.seq (.reg [⟨(some p8), none, (.e (.mv (.c (.int .i64 (.ofNat 7)))))⟩]) .ret) .skip)) (.seq (.seq (.reg [⟨(some p43), none, (.e (.mv (.r p9)))⟩, ⟨(some p44), none, (.e (.nilchk (.r p43)))⟩, ⟨(some p45), none, (.e (.fa 5 (.r p44)))⟩, ⟨(some p46), none, (.e (.ld (.r p45)))⟩, ⟨(some p47), none, (.e (.mv (.r p3)))⟩, ⟨(some p48), none, (.c (.f 106 [(.r p46), (.r p47)]))⟩, ⟨(some p11), none, (.e (.mv (.r p48)))⟩]) (.seq (.reg [⟨(some p49), none, (.e (.mv (.r p11)))⟩, ⟨(some p50), none, (.e (.bin .geq (.r p49) (.c (.int .i64 (.ofNat 0)))))⟩, ⟨(some p51), none, (.e (.mv (.r p50)))⟩, ⟨(some p52), (some (p51, true)), (.e (.mv (.r p11)))⟩, ⟨(some p53), (some (p51, true)), (.e (.mv (.r p2)))⟩, ⟨(some p54), (some (p51, true)), (.e (.bin .neq (.r p52) (.r p53)))⟩, ⟨(some p55), none, (.e (.pick (.r p51) (.r p54) (.c (.bool false))))⟩]) (.cond (.r p55) (.seq (.reg [⟨(some p8), none, (.e (.mv (.c (.int .i64 (.ofNat 6)))))⟩]) .ret) .skip))) (.seq (.seq (.reg [⟨(some p56), none, (.e (.mv (.r p9)))⟩, ⟨(some p57), none, (.e (.nilchk (.r p56)))⟩, ⟨(some p58), none, (.e (.fa 1 (.r p57)))⟩, ⟨(some p59), none, (.e (.ld (.r p58)))⟩, ⟨(some p60), none, (.e (.bin .eql (.r p59) (.c (.int .i64 (.ofNat 3)))))⟩]) (.cond (.r p60) (.seq (.reg [⟨(some p8), none, (.e (.mv (.c (.int .i64 (.ofNat 16)))))⟩]) .ret) .skip)) (.seq (.reg [⟨(some p61), none, (.e (.mv (.r p9)))⟩, ⟨(some p62), none, (.e (.nilchk (.r p61)))⟩, ⟨(some p63), none, (.e (.fa 5 (.r p62)))⟩, ⟨(some p64), none, (.e (.ld (.r p63)))⟩, ⟨(some p65), none, (.e (.mv (.r p2)))⟩, ⟨(some p66), none, (.e (.mv (.r p3)))⟩, ⟨(some p67), none, (.e (.iaS 1 (.r p64) (.r p65)))⟩, ⟨none, none, (.w (.st 1 (.r p67) (.r p66)))⟩]) (.seq (.reg [⟨(some p8), none, (.e (.mv (.c (.int .i64 (.ofNat 0)))))⟩]) .ret))))))
noncomputable def J169_0 (E : Env) (r0 r1 r2 r3 : DV) (h : H) : Ans :=
  wK (callK E 142 [r0, r1] h) fun x1 h2 =>
  vK (v_eqv .ptr true h2.get x1 .nilp) fun x3 =>
  bK x3
  (vK (v_nilchk x1) fun x4 =>
  vK (v_fa 5 x4) fun x5 =>
  vK (v_ld h2.get x5) fun x6 =>
  vK (v_lenL x6) fun x7 =>
  J169_1 E r0 r2 r3 x1 x7 h2)
  (J169_1 E r0 r2 r3 x1 (.int .i64 (.ofNat 8)) h2)
def C169_0 : DC := (.seq (.reg [⟨(some p8), none, (.e (.mv (.c (.int .i64 (.ofNat 0)))))⟩]) (.seq (.reg [⟨(some p12), none, (.e (.mv (.r p0)))⟩, ⟨(some p13), none, (.e (.mv (.r p1)))⟩, ⟨(some p14), none, (.c (.f 142 [(.r p12), (.r p13)]))⟩, ⟨(some p9), none, (.e (.mv (.r p14)))⟩, ⟨(some p10), none, (.e (.mv (.c (.int .i64 (.ofNat 8)))))⟩]) (.seq (.seq (.reg [⟨(some p15), none, (.e (.mv (.r p9)))⟩, ⟨(some p16), none, (.e (.eqv .ptr true (.r p15) (.c .nilp)))⟩]) (.cond (.r p16) (.reg [⟨(some p17), none, (.e (.mv (.r p9)))⟩, ⟨(some p18), none, (.e (.nilchk (.r p17)))⟩, ⟨(some p19), none, (.e (.fa 5 (.r p18)))⟩, ⟨(some p20), none, (.e (.ld (.r p19)))⟩, ⟨(some p21), none, (.e (.lenL (.r p20)))⟩, ⟨(some p10), none, (.e (.mv (.r p21)))⟩]) .skip)) C169_1)))
theorem I169_1 (E : Env) : Is E C169_1 (retK3 R169) (fun σ h => J169_1 E (σ p0) (σ p2) (σ p3) (σ p9) (σ p10) h) :=
  fun σ h => by kernel_rfl
theorem I169_0 (E : Env) : Is E C169_0 (retK3 R169) (fun σ h => J169_0 E (σ p0) (σ p1) (σ p2) (σ p3) h) :=
  Is.as (Is.seq (Is.seq (Is.seq (I169_1 E) (Is.leaf _)) (Is.leaf _)) (Is.leaf _)) fun σ h => by kernel_rfl
def D169 : DF := ⟨4, 68, C169_0, R169⟩
noncomputable def S169 (E : Env) : Fun := fun args h => aS args fun r0 args => aS args fun r1 args => aS args fun r2 args => aS args fun r3 args => a0 args (J169_0 E r0 r1 r2 r3 h)
theorem S169_eq (E : Env) (args : List DV) (h : H) : runFn E D169 args h = S169 E args h :=
  Is.fn4 (d := D169) (I169_0 E) rfl (fun r0 r1 r2 r3 h => J169_0 E r0 r1 r2 r3 h) (fun r0 r1 r2 r3 h => by kernel_rfl) args h
/- (*hurdle/members.Members).Done -/
def R170 : List RV := [(.r p4)]
noncomputable def J170_0 (E : Env) (r0 r1 : DV) (h : H) : Ans :=
  vK (v_eqv .ptr false h.get r0 .nilp) fun x1 =>
  bK x1
  (some ((.int .i64 (.ofNat 1)), h))
  (vK (v_nilchk r0) fun x2 =>
  vK (v_fa 2 x2) fun x3 =>
  vK (v_ld h.get x3) fun x4 =>
  vK (v_neq r1 x4) fun x5 =>
  bK x5
  (some ((.int .i64 (.ofNat 10)), h))
  (vK (v_nilchk r0) fun x6 =>
  vK (v_fa 4 x6) fun x7 =>
  vK (v_ld h.get x7) fun x8 =>
  vK (v_not x8) fun x9 =>
  bK x9
  (some ((.int .i64 (.ofNat 16)), h))
  (vK (v_nilchk r0) fun x10 =>
  vK (v_fa 3 x10) fun x11 =>
  wK (dStF 1 x11 (.int .i64 (.negSucc 0)) h) fun x12 h13 =>
  vK (v_nilchk r0) fun x14 =>
  vK (v_fa 5 x14) fun x15 =>
  wK (dStF 1 x15 (.int .i64 (.negSucc 0)) h13) fun x16 h17 =>
  vK (v_nilchk r0) fun x18 =>
  vK (v_fa 4 x18) fun x19 =>
  wK (dStF 1 x19 (.bool false) h17) fun x20 h21 =>
  vK (v_nilchk r0) fun x22 =>
  vK (v_fa 2 x22) fun x23 =>
  vK (v_ld h21.get x23) fun x24 =>
  vK (v_add x24 (.int .i64 (.ofNat 1))) fun x25 =>
  vK (v_nilchk r0) fun x26 =>
  vK (v_fa 2 x26) fun x27 =>
  wK (dStF 1 x27 x25 h21) fun x28 h29 =>
  some ((.int .i64 (.ofNat 0)), h29))))
def C170_0 : DC := (.seq (.reg [⟨(some p4), none, (.e (.mv (.c (.int .i64 (.ofNat 0)))))⟩]) (.seq (.block 0 (.seq (.reg [⟨(some p6), none, (.e (.mv (.r p0)))⟩, ⟨(some p7), none, (.e (.eqv .ptr false (.r p6) (.c .nilp)))⟩, ⟨(some p5), none, (.e (.mv (.r p7)))⟩]) (.cond (.r p5) (.seq (.reg [⟨(some p4), none, (.e (.mv (.c (.int .i64 (.ofNat 1)))))⟩]) .ret) (.seq (.reg [⟨(some p9), none, (.e (.mv (.r p1)))⟩, ⟨(some p10), none, (.e (.mv (.r p0)))⟩, ⟨(some p11), none, (.e (.nilchk (.r p10)))⟩, ⟨(some p12), none, (.e (.fa 2 (.r p11)))⟩, ⟨(some p13), none, (.e (.ld (.r p12)))⟩, ⟨(some p14), none, (.e (.bin .neq (.r p9) (.r p13)))⟩, ⟨(some p8), none, (.e (.mv (.r p14)))⟩]) (.cond (.r p8) (.seq (.reg [⟨(some p4), none, (.e (.mv (.c (.int .i64 (.ofNat 10)))))⟩]) .ret) (.seq (.reg [⟨(some p16), none, (.e (.mv (.r p0)))⟩, ⟨(some p17), none, (.e (.nilchk (.r p16)))⟩, ⟨(some p18), none, (.e (.fa 4 (.r p17)))⟩, ⟨(some p19), none, (.e (.ld (.r p18)))⟩, ⟨(some p20), none, (.e (.not (.r p19)))⟩, ⟨(some p15), none, (.e (.mv (.r p20)))⟩]) (.cond (.r p15) (.seq (.reg [⟨(some p4), none, (.e (.mv (.c (.int .i64 (.ofNat 16)))))⟩]) .ret) .skip))))))) (.seq (.reg [⟨(some p21), none, (.e (.mv (.r p0)))⟩, ⟨(some p22), none, (.e (.mv (.r p0)))⟩, ⟨(some p23), none, (.e (.mv (.r p0)))⟩, ⟨(some p24), none, (.e (.nilchk (.r p21)))⟩, ⟨(some p25), none, (.e (.fa 3 (.r p24)))⟩, ⟨none, none, (.w (.st 1 (.r p25) (.c (.int .i64 (.negSucc 0)))))⟩, ⟨(some p26), none, (.e (.nilchk (.r p22)))⟩, ⟨(some p27), none, (.e (.fa 5 (.r p26)))⟩, ⟨none, none, (.w (.st 1 (.r p27) (.c (.int .i64 (.negSucc 0)))))⟩, ⟨(some p28), none, (.e (.nilchk (.r p23)))⟩, ⟨(some p29), none, (.e (.fa 4 (.r p28)))⟩, ⟨none, none, (.w (.st 1 (.r p29) (.c (.bool false))))⟩]) (.seq (.reg [⟨(some p30), none, (.e (.mv (.r p0)))⟩, ⟨(some p31), none, (.e (.nilchk (.r p30)))⟩, ⟨(some p32), none, (.e (.fa 2 (.r p31)))⟩, ⟨(some p33), none, (.e (.ld (.r p32)))⟩, ⟨(some p34), none, (.e (.bin .add (.r p33) (.c (.int .i64 (.ofNat 1)))))⟩, ⟨(some p35), none, (.e (.nilchk (.r p30)))⟩, ⟨(some p36), none, (.e (.fa 2 (.r p35)))⟩, ⟨none, none, (.w (.st 1 (.r p36) (.r p34)))⟩]) (.seq (.reg [⟨(some p4), none, (.e (.mv (.c (.int .i64 (.ofNat 0)))))⟩]) .ret)))))
theorem I170_0 (E : Env) : Is E C170_0 (retK3 R170) (fun σ h => J170_0 E (σ p0) (σ p1) h) :=
  fun σ h => by kernel_rfl
def D170 : DF := ⟨2, 37, C170_0, R170⟩
noncomputable def S170 (E : Env) : Fun := fun args h => aS args fun r0 args => aS args fun r1 args => a0 args (J170_0 E r0 r1 h)
theorem S170_eq (E : Env) (args : List DV) (h : H) : runFn E D170 args h = S170 E args h :=
  Is.fn2 (d := D170) (I170_0 E) rfl (fun r0 r1 h => J170_0 E r0 r1 h) (fun r0 r1 h => by kernel_rfl) args h
/- slices.IndexFunc[[]hurdle/frags.entry,hurdle/frags.entry] -/
def R174 : List RV := [(.r p4)]
noncomputable def J174_1 (E : Env) (h : H) : Ans :=
  some ((.int .i64 (.negSucc 0)), h)
def C174_1 : DC := (.seq (.reg [⟨(some p4), none, (.e (.mv (.c (.int .i64 (.negSucc 0)))))⟩]) .ret)
noncomputable def B174_2 (E : Env) (r0 r1 r7 : DV) (i2 : DV → H → Ans) (r8 : DV) (h : H) : Ans :=
  vK (v_lss r8 r7) fun x1 =>
  bK x1
  (vK (v_iaS 4 r0 r8) fun x2 =>
  vK (v_ldN 4 h.get x2) fun x3 =>
  wK (c_val E r1 [x3] h) fun x4 h5 =>
  bK x4
  (some (r8, h5))
  (vK (v_add r8 (.int .i64 (.ofNat 1))) fun x6 =>
  i2 x6 h5))
  (J174_1 E h)
noncomputable def L174_2 (E : Env) (r0 r1 r7 : DV) (n : Nat) : DV → H → Ans := Nat.rec (motive := fun _ => DV → H → Ans) (fun _ _ => none) (fun _ i => B174_2 E r0 r1 r7 i) n
def C174_2 : DC := (.loop (.seq (.reg [⟨(some p9), none, (.e (.bin .lss (.r p8) (.r p7)))⟩]) (.seq (.cond (.r p9) .skip (.exit 0)) (.seq (.block 1 (.seq (.reg [⟨(some p10), none, (.e (.mv (.r p8)))⟩, ⟨(some p5), none, (.e (.mv (.r p10)))⟩]) (.seq (.reg [⟨(some p11), none, (.e (.mv (.r p1)))⟩, ⟨(some p12), none, (.e (.mv (.r p0)))⟩, ⟨(some p13), none, (.e (.mv (.r p5)))⟩, ⟨(some p14), none, (.e (.iaS 4 (.r p12) (.r p13)))⟩, ⟨(some p15), none, (.e (.ldN 4 (.r p14)))⟩, ⟨(some p16), none, (.c (.v (.r p11) [(.r p15)]))⟩]) (.cond (.r p16) (.seq (.reg [⟨(some p17), none, (.e (.mv (.r p5)))⟩, ⟨(some p4), none, (.e (.mv (.r p17)))⟩]) .ret) .skip)))) (.reg [⟨(some p18), none, (.e (.bin .add (.r p8) (.c (.int .i64 (.ofNat 1)))))⟩, ⟨(some p8), none, (.e (.mv (.r p18)))⟩])))))
noncomputable def J174_0 (E : Env) (r0 r1 : DV) (h : H) : Ans :=
  vK (v_lenL r0) fun x1 =>
  L174_2 E r0 r1 x1 FUEL (.int .i64 (.ofNat 0)) h
def C174_0 : DC := (.seq (.reg [⟨(some p4), none, (.e (.mv (.c (.int .i64 (.ofNat 0)))))⟩]) (.seq (.seq (.reg [⟨(some p6), none, (.e (.mv (.r p0)))⟩, ⟨(some p7), none, (.e (.lenL (.r p6)))⟩, ⟨(some p8), none, (.e (.mv (.c (.int .i64 (.ofNat 0)))))⟩]) (.block 0 C174_2)) C174_1))
theorem I174_1 (E : Env) : Is E C174_1 (retK3 R174) (fun σ h => J174_1 E h) :=
  fun σ h => by kernel_rfl
noncomputable abbrev K174_3 (E : Env) : KT2 (DV × H) := (blockK3 0 (thenK3 (fun σ h => J174_1 E h) (retK3 R174)))
theorem I174_2 (E : Env) : Is E C174_2 (K174_3 E) (fun σ h => L174_2 E (σ p0) (σ p1) (σ p7) FUEL (σ p8) h) :=
  Is.loop (fun n2 σ h => L174_2 E (σ p0) (σ p1) (σ p7) n2 (σ p8) h) (by kernel_rfl) fun n2 => Is.as (Is.leaf _) fun σ h => by kernel_rfl
theorem I174_0 (E : Env) : Is E C174_0 (retK3 R174) (fun σ h => J174_0 E (σ p0) (σ p1) h) :=
  Is.as (Is.seq (Is.seq (I174_1 E) (Is.seq (Is.block (I174_2 E)) (Is.leaf _))) (Is.leaf _)) fun σ h => by kernel_rfl
def D174 : DF := ⟨2, 19, C174_0, R174⟩
noncomputable def S174 (E : Env) : Fun := fun args h => aS args fun r0 args => aS args fun r1 args => a0 args (J174_0 E r0 r1 h)
theorem S174_eq (E : Env) (args : List DV) (h : H) : runFn E D174 args h = S174 E args h :=
  Is.fn2 (d := D174) (I174_0 E) rfl (fun r0 r1 h => J174_0 E r0 r1 h) (fun r0 r1 h => by kernel_rfl) args h
/- (*hurdle/frags.Frags).find$1 -/
def R175 : List RV := [(.r p3)]
noncomputable def J175_0 (E : Env) (r0 r1 : DV) (h : H) : Ans :=
  n_box r0 h fun x1 h2 =>
  vK (v_fa 0 x1) fun x3 =>
  vK (v_ld h2.get x3) fun x4 =>
  gdK x4 true (fun kk => vK (v_fa 1 x1) fun v => kk v h2) h2 fun x5 h6 =>
  gdK x4 true (fun kk => vK (v_ldN 2 h6.get x5) fun v => kk v h6) h6 fun x7 h8 =>
  gdK x4 true (fun kk => vK (v_ldN 2 h8.get r1) fun v => kk v h8) h8 fun x9 h10 =>
  gdK x4 true (fun kk => vK (v_eqs false (.leaf .int 0 (.leaf .int 1 .nil)) h10.get x7 x9) fun v => kk v h10) h10 fun x11 h12 =>
  vK (v_pick x4 x11 (.bool false)) fun x13 =>
  some (x13, h12)
def C175_0 : DC := (.seq (.reg [⟨(some p2), none, (.e (.box (.r p0)))⟩, ⟨(some p3), none, (.e (.mv (.c (.bool false))))⟩]) (.seq (.reg [⟨(some p4), none, (.e (.fa 0 (.r p2)))⟩, ⟨(some p5), none, (.e (.ld (.r p4)))⟩, ⟨(some p6), none, (.e (.mv (.r p5)))⟩, ⟨(some p7), (some (p6, true)), (.e (.fa 1 (.r p2)))⟩, ⟨(some p8), (some (p6, true)), (.e (.ldN 2 (.r p7)))⟩, ⟨(some p9), (some (p6, true)), (.e (.ldN 2 (.r p1)))⟩, ⟨(some p10), (some (p6, true)), (.e (.eqs false (.leaf .int 0 (.leaf .int 1 .nil)) (.r p8) (.r p9)))⟩, ⟨(some p11), none, (.e (.pick (.r p6) (.r p10) (.c (.bool false))))⟩, ⟨(some p3), none, (.e (.mv (.r p11)))⟩]) .ret))
theorem I175_0 (E : Env) : Is E C175_0 (retK3 R175) (fun σ h => J175_0 E (σ p0) (σ p1) h) :=
  fun σ h => by kernel_rfl
def D175 : DF := ⟨2, 12, C175_0, R175⟩
noncomputable def S175 (E : Env) : Fun := fun args h => aS args fun r0 args => aS args fun r1 args => a0 args (J175_0 E r0 r1 h)
theorem S175_eq (E : Env) (args : List DV) (h : H) : runFn E D175 args h = S175 E args h :=
  Is.fn2 (d := D175) (I175_0 E) rfl (fun r0 r1 h => J175_0 E r0 r1 h) (fun r0 r1 h => by kernel_rfl) args h
/- (*hurdle/sector.Device).check -/
def R176 : List RV := [(.r p8)]
noncomputable def J176_0 (E : Env) (r0 r1 r2 r3 : DV) (h : H) : Ans :=
  vK (v_eqv .ptr false h.get r0 .nilp) fun x1 =>
  gdK x1 false (fun kk => kk r1 h) h fun x2 h3 =>
  gdK x1 false (fun kk => vK (v_lss x2 (.int .i64 (.ofNat 0))) fun v => kk v h3) h3 fun x4 h5 =>
  vK (v_pick x1 (.bool true) x4) fun x6 =>
  gdK x6 false (fun kk => kk r2 h5) h5 fun x7 h8 =>
  gdK x6 false (fun kk => vK (v_lss x7 (.int .i64 (.ofNat 1))) fun v => kk v h8) h8 fun x9 h10 =>
  vK (v_pick x6 (.bool true) x9) fun x11 =>
  gdK x11 false (fun kk => kk r3 h10) h10 fun x12 h13 =>
  gdK x11 false (fun kk => vK (v_not x12) fun v => kk v h13) h13 fun x14 h15 =>
  vK (v_pick x11 (.bool true) x14) fun x16 =>
  bK x16
  (some ((.int .i64 (.ofNat 1)), h15))
  (vK (v_nilchk r0) fun x17 =>
  vK (v_fa 0 x17) fun x18 =>
  vK (v_ld h15.get x18) fun x19 =>
  vK (v_lenL x19) fun x20 =>
  vK (v_gtr r1 x20) fun x21 =>
  gdK x21 false (fun kk => kk r2 h15) h15 fun x22 h23 =>
  gdK x21 false (fun kk => kk r0 h23) h23 fun x24 h25 =>
  gdK x21 false (fun kk => vK (v_nilchk x24) fun v => kk v h25) h25 fun x26 h27 =>
  gdK x21 false (fun kk => vK (v_fa 0 x26) fun v => kk v h27) h27 fun x28 h29 =>
  gdK x21 false (fun kk => vK (v_ld h29.get x28) fun v => kk v h29) h29 fun x30 h31 =>
  gdK x21 false (fun kk => vK (v_lenL x30) fun v => kk v h31) h31 fun x32 h33 =>
  gdK x21 false (fun kk => kk r1 h33) h33 fun x34 h35 =>
  gdK x21 false (fun kk => vK (v_sub x32 x34) fun v => kk v h35) h35 fun x36 h37 =>
  gdK x21 false (fun kk => vK (v_gtr x22 x36) fun v => kk v h37) h37 fun x38 h39 =>
  vK (v_pick x21 (.bool true) x38) fun x40 =>
  bK x40
  (some ((.int .i64 (.ofNat 5)), h39))
  (vK (v_nilchk r0) fun x41 =>
  vK (v_fa 2 x41) fun x42 =>
  vK (v_ld h39.get x42) fun x43 =>
  bK x43
  (some ((.int .i64 (.ofNat 8)), h39))
  (some ((.int .i64 (.ofNat 0)), h39))))
def C176_0 : DC := (.seq (.reg [⟨(some p8), none, (.e (.mv (.c (.int .i64 (.ofNat 0)))))⟩]) (.seq (.block 0 (.seq (.reg [⟨(some p10), none, (.e (.mv (.r p0)))⟩, ⟨(some p11), none, (.e (.eqv .ptr false (.r p10) (.c .nilp)))⟩, ⟨(some p12), none, (.e (.mv (.r p11)))⟩, ⟨(some p13), (some (p12, false)), (.e (.mv (.r p1)))⟩, ⟨(some p14), (some (p12, false)), (.e (.bin .lss (.r p13) (.c (.int .i64 (.ofNat 0)))))⟩, ⟨(some p15), none, (.e (.pick (.r p12) (.c (.bool true)) (.r p14)))⟩, ⟨(some p16), none, (.e (.mv (.r p15)))⟩, ⟨(some p17), (some (p16, false)), (.e (.mv (.r p2)))⟩, ⟨(some p18), (some (p16, false)), (.e (.bin .lss (.r p17) (.c (.int .i64 (.ofNat 1)))))⟩, ⟨(some p19), none, (.e (.pick (.r p16) (.c (.bool true)) (.r p18)))⟩, ⟨(some p20), none, (.e (.mv (.r p19)))⟩, ⟨(some p21), (some (p20, false)), (.e (.mv (.r p3)))⟩, ⟨(some p22), (some (p20, false)), (.e (.not (.r p21)))⟩, ⟨(some p23), none, (.e (.pick (.r p20) (.c (.bool true)) (.r p22)))⟩, ⟨(some p9), none, (.e (.mv (.r p23)))⟩]) (.cond (.r p9) (.seq (.reg [⟨(some p8), none, (.e (.mv (.c (.int .i64 (.ofNat 1)))))⟩]) .ret) (.seq (.reg [⟨(some p25), none, (.e (.mv (.r p1)))⟩, ⟨(some p26), none, (.e (.mv (.r p0)))⟩, ⟨(some p27), none, (.e (.nilchk (.r p26)))⟩, ⟨(some p28), none, (.e (.fa 0 (.r p27)))⟩, ⟨(some p29), none, (.e (.ld (.r p28)))⟩, ⟨(some p30), none, (.e (.lenL (.r p29)))⟩, ⟨(some p31), none, (.e (.bin .gtr (.r p25) (.r p30)))⟩, ⟨(some p32), none, (.e (.mv (.r p31)))⟩, ⟨(some p33), (some (p32, false)), (.e (.mv (.r p2)))⟩, ⟨(some p34), (some (p32, false)), (.e (.mv (.r p0)))⟩, ⟨(some p35), (some (p32, false)), (.e (.nilchk (.r p34)))⟩, ⟨(some p36), (some (p32, false)), (.e (.fa 0 (.r p35)))⟩, ⟨(some p37), (some (p32, false)), (.e (.ld (.r p36)))⟩, ⟨(some p38), (some (p32, false)), (.e (.lenL (.r p37)))⟩, ⟨(some p39), (some (p32, false)), (.e (.mv (.r p1)))⟩, ⟨(some p40), (some (p32, false)), (.e (.bin .sub (.r p38) (.r p39)))⟩, ⟨(some p41), (some (p32, false)), (.e (.bin .gtr (.r p33) (.r p40)))⟩, ⟨(some p42), none, (.e (.pick (.r p32) (.c (.bool true)) (.r p41)))⟩, ⟨(some p24), none, (.e (.mv (.r p42)))⟩]) (.cond (.r p24) (.seq (.reg [⟨(some p8), none, (.e (.mv (.c (.int .i64 (.ofNat 5)))))⟩]) .ret) (.seq (.reg [⟨(some p44), none, (.e (.mv (.r p0)))⟩, ⟨(some p45), none, (.e (.nilchk (.r p44)))⟩, ⟨(some p46), none, (.e (.fa 2 (.r p45)))⟩, ⟨(some p47), none, (.e (.ld (.r p46)))⟩, ⟨(some p43), none, (.e (.mv (.r p47)))⟩]) (.cond (.r p43) (.seq (.reg [⟨(some p8), none, (.e (.mv (.c (.int .i64 (.ofNat 8)))))⟩]) .ret) .skip))))))) (.seq (.reg [⟨(some p8), none, (.e (.mv (.c (.int .i64 (.ofNat 0)))))⟩]) .ret)))
theorem I176_0 (E : Env) : Is E C176_0 (retK3 R176) (fun σ h => J176_0 E (σ p0) (σ p1) (σ p2) (σ p3) h) :=
  fun σ h => by kernel_rfl
def D176 : DF := ⟨4, 48, C176_0, R176⟩
noncomputable def S176 (E : Env) : Fun := fun args h => aS args fun r0 args => aS args fun r1 args => aS args fun r2 args => aS args fun r3 args => a0 args (J176_0 E r0 r1 r2 r3 h)
theorem S176_eq (E : Env) (args : List DV) (h : H) : runFn E D176 args h = S176 E args h :=
  Is.fn4 (d := D176) (I176_0 E) rfl (fun r0 r1 r2 r3 h => J176_0 E r0 r1 r2 r3 h) (fun r0 r1 r2 r3 h => by kernel_rfl) args h
/- (*hurdle/frags.Frags).free$1 -/
def R177 : List RV := [(.r p2)]
noncomputable def J177_0 (E : Env) (r0 : DV) (h : H) : Ans :=
  n_box r0 h fun x1 h2 =>
  vK (v_fa 0 x1) fun x3 =>
  vK (v_ld h2.get x3) fun x4 =>
  vK (v_not x4) fun x5 =>
  some (x5, h2)
def C177_0 : DC := (.seq (.reg [⟨(some p1), none, (.e (.box (.r p0)))⟩, ⟨(some p2), none, (.e (.mv (.c (.bool false))))⟩]) (.seq (.reg [⟨(some p3), none, (.e (.fa 0 (.r p1)))⟩, ⟨(some p4), none, (.e (.ld (.r p3)))⟩, ⟨(some p5), none, (.e (.not (.r p4)))⟩, ⟨(some p2), none, (.e (.mv (.r p5)))⟩]) .ret))
theorem I177_0 (E : Env) : Is E C177_0 (retK3 R177) (fun σ h => J177_0 E (σ p0) h) :=
  fun σ h => by kernel_rfl
def D177 : DF := ⟨1, 6, C177_0, R177⟩
noncomputable def S177 (E : Env) : Fun := fun args h => aS args fun r0 args => a0 args (J177_0 E r0 h)
theorem S177_eq (E : Env) (args : List DV) (h : H) : runFn E D177 args h = S177 E args h :=
  Is.fn1 (d := D177) (I177_0 E) rfl (fun r0 h => J177_0 E r0 h) (fun r0 h => by kernel_rfl) args h
/- (*hurdle/frags.Frags).write$1 -/
def R178 : List RV := [(.r p3)]
noncomputable def J178_0 (E : Env) (r0 r1 r2 : DV) (h : H) : Ans :=
  vK (v_ld h.get r0) fun x1 =>
  vK (v_nilchk x1) fun x2 =>
  vK (v_fa 0 x2) fun x3 =>
  vK (v_ld h.get x3) fun x4 =>
  vK (v_ld h.get r1) fun x5 =>
  vK (v_ld h.get r2) fun x6 =>
  wK (callK E 179 [x4, x5, x6] h) fun x7 h8 =>
  some (x7, h8)
def C178_0 : DC := (.seq (.reg [⟨(some p3), none, (.e (.mv (.c (.int .i64 (.ofNat 0)))))⟩]) (.seq (.drg [⟨0, ⟨(some p4), none, (.e (.ld (.r p0)))⟩, [], false⟩, ⟨1, ⟨(some p5), none, (.e (.nilchk (.r p4)))⟩, [], false⟩, ⟨2, ⟨(some p6), none, (.e (.fa 0 (.r p5)))⟩, [], false⟩, ⟨3, ⟨(some p7), none, (.e (.ld (.r p6)))⟩, [], false⟩, ⟨4, ⟨(some p8), none, (.e (.ld (.r p1)))⟩, [], false⟩, ⟨5, ⟨(some p9), none, (.e (.ld (.r p2)))⟩, [], false⟩, ⟨6, ⟨(some p10), none, (.c (.f 179 [(.r p7), (.r p8), (.r p9)]))⟩, [], false⟩, ⟨7, ⟨(some p3), none, (.e (.mv (.r p10)))⟩, [], false⟩]) .ret))
theorem I178_0 (E : Env) : Is E C178_0 (retK3 R178) (fun σ h => J178_0 E (σ p0) (σ p1) (σ p2) h) :=
  fun σ h => by kernel_rfl
def D178 : DF := ⟨3, 11, C178_0, R178⟩
noncomputable def S178 (E : Env) : Fun := fun args h => aS args fun r0 args => aS args fun r1 args => aS args fun r2 args => a0 args (J178_0 E r0 r1 r2 h)
theorem S178_eq (E : Env) (args : List DV) (h : H) : runFn E D178 args h = S178 E args h :=
  Is.fn3 (d := D178) (I178_0 E) rfl (fun r0 r1 r2 h => J178_0 E r0 r1 r2 h) (fun r0 r1 r2 h => by kernel_rfl) args h
/- (*hurdle/sector.Device).Write -/
def R179 : List RV := [(.r p6)]
noncomputable def J179_1 (E : Env) (h : H) : Ans :=
  some ((.int .i64 (.ofNat 0)), h)
def C179_1 : DC := (.seq (.reg [⟨(some p6), none, (.e (.mv (.c (.int .i64 (.ofNat 0)))))⟩]) .ret)
noncomputable def J179_3 (E : Env) (i2 : DV → H → Ans) (r28 : DV) (h : H) : Ans :=
  vK (v_add r28 (.int .i64 (.ofNat 1))) fun x1 =>
  i2 x1 h
def C179_3 : DC := (.reg [⟨(some p70), none, (.e (.bin .add (.r p28) (.c (.int .i64 (.ofNat 1)))))⟩, ⟨(some p28), none, (.e (.mv (.r p70)))⟩])
noncomputable def J179_4 (E : Env) (i2 : DV → H → Ans) (r0 r2 r9 r10 r28 : DV) (h : H) : Ans :=
  vK (v_nilchk r0) fun x1 =>
  vK (v_fa 0 x1) fun x2 =>
  vK (v_ld h.get x2) fun x3 =>
  vK (v_mul r9 (.int .i64 (.ofNat 64))) fun x4 =>
  vK (v_add r9 (.int .i64 (.ofNat 1))) fun x5 =>
  vK (v_mul x5 (.int .i64 (.ofNat 64))) fun x6 =>
  vK (v_slS r2 (some x4) (some x6)) fun x7 =>
  vK (v_iaS 1 x3 r10) fun x8 =>
  wK (dStF 1 x8 x7 h) fun x9 h10 =>
  J179_3 E i2 r28 h10
def C179_4 : DC := (.drg [⟨0, ⟨(some p57), none, (.e (.mv (.r p0)))⟩, [], false⟩, ⟨1, ⟨(some p58), none, (.e (.nilchk (.r p57)))⟩, [], false⟩, ⟨2, ⟨(some p59), none, (.e (.fa 0 (.r p58)))⟩, [], false⟩, ⟨3, ⟨(some p60), none, (.e (.ld (.r p59)))⟩, [], false⟩, ⟨4, ⟨(some p61), none, (.e (.mv (.r p10)))⟩, [], false⟩, ⟨5, ⟨(some p62), none, (.e (.mv (.r p2)))⟩, [], false⟩, ⟨6, ⟨(some p63), none, (.e (.mv (.r p9)))⟩, [], false⟩, ⟨7, ⟨(some p64), none, (.e (.bin .mul (.r p63) (.c (.int .i64 (.ofNat 64)))))⟩, [], false⟩, ⟨8, ⟨(some p65), none, (.e (.mv (.r p9)))⟩, [], false⟩, ⟨9, ⟨(some p66), none, (.e (.bin .add (.r p65) (.c (.int .i64 (.ofNat 1)))))⟩, [], false⟩, ⟨10, ⟨(some p67), none, (.e (.bin .mul (.r p66) (.c (.int .i64 (.ofNat 64)))))⟩, [], false⟩, ⟨11, ⟨(some p68), none, (.e (.slS (.r p62) (some (.r p64)) (some (.r p67))))⟩, [], false⟩, ⟨12, ⟨(some p69), none, (.e (.iaS 1 (.r p60) (.r p61)))⟩, [], false⟩, ⟨13, ⟨none, none, (.w (.st 1 (.r p69) (.r p68)))⟩, [], false⟩])
noncomputable def B179_2 (E : Env) (r0 r1 r2 r27 : DV) (i2 : DV → H → Ans) (r28 : DV) (h : H) : Ans :=
  vK (v_lss r28 r27) fun x1 =>
  bK x1
  (vK (v_add r1 r28) fun x2 =>
  vK (v_nilchk r0) fun x3 =>
  vK (v_fa 1 x3) fun x4 =>
  vK (v_ld h.get x4) fun x5 =>
  vK (v_lkp .int (.str []) true h.get x5 x2) fun x6 =>
  vK (v_ext 0 x6) fun x7 =>
  vK (v_ext 1 x6) fun x8 =>
  vK (v_not x8) fun x9 =>
  bK x9
  (vK (v_nilchk r0) fun x10 =>
  vK (v_fa 1 x10) fun x11 =>
  vK (v_ld h.get x11) fun x12 =>
  vK (v_nilchk r0) fun x13 =>
  vK (v_fa 0 x13) fun x14 =>
  vK (v_ld h.get x14) fun x15 =>
  vK (v_iaS 1 x15 x2) fun x16 =>
  vK (v_ld h.get x16) fun x17 =>
  wK (dMup .int x12 x2 x17 h) fun x18 h19 =>
  J179_4 E i2 r0 r2 r28 x2 r28 h19)
  (J179_4 E i2 r0 r2 r28 x2 r28 h))
  (J179_1 E h)
noncomputable def L179_2 (E : Env) (r0 r1 r2 r27 : DV) (n : Nat) : DV → H → Ans := Nat.rec (motive := fun _ => DV → H → Ans) (fun _ _ => none) (fun _ i => B179_2 E r0 r1 r2 r27 i) n
def C179_2 : DC := (.loop (.seq (.reg [⟨(some p29), none, (.e (.bin .lss (.r p28) (.r p27)))⟩]) (.seq (.cond (.r p29) .skip (.exit 0)) (.seq (.block 1 (.seq (.reg [⟨(some p30), none, (.e (.mv (.r p28)))⟩, ⟨(some p9), none, (.e (.mv (.r p30)))⟩]) (.seq (.reg [⟨(some p31), none, (.e (.mv (.r p1)))⟩, ⟨(some p32), none, (.e (.mv (.r p9)))⟩, ⟨(some p33), none, (.e (.bin .add (.r p31) (.r p32)))⟩, ⟨(some p10), none, (.e (.mv (.r p33)))⟩]) (.seq (.seq (.reg [⟨(some p35), none, (.e (.mv (.r p0)))⟩, ⟨(some p36), none, (.e (.nilchk (.r p35)))⟩, ⟨(some p37), none, (.e (.fa 1 (.r p36)))⟩, ⟨(some p38), none, (.e (.ld (.r p37)))⟩, ⟨(some p39), none, (.e (.mv (.r p10)))⟩, ⟨(some p40), none, (.e (.lkp .int (.str []) true (.r p38) (.r p39)))⟩, ⟨(some p34), none, (.e (.mv (.r p40)))⟩, ⟨(some p41), none, (.e (.ext 0 (.r p34)))⟩, ⟨(some p42), none, (.e (.ext 1 (.r p34)))⟩, ⟨(some p11), none, (.e (.mv (.r p41)))⟩, ⟨(some p12), none, (.e (.mv (.r p42)))⟩]) (.seq (.reg [⟨(some p43), none, (.e (.mv (.r p12)))⟩, ⟨(some p44), none, (.e (.not (.r p43)))⟩]) (.cond (.r p44) (.drg [⟨0, ⟨(some p45), none, (.e (.mv (.r p0)))⟩, [], false⟩, ⟨1, ⟨(some p46), none, (.e (.nilchk (.r p45)))⟩, [], false⟩, ⟨2, ⟨(some p47), none, (.e (.fa 1 (.r p46)))⟩, [], false⟩, ⟨3, ⟨(some p48), none, (.e (.ld (.r p47)))⟩, [], false⟩, ⟨4, ⟨(some p49), none, (.e (.mv (.r p10)))⟩, [], false⟩, ⟨5, ⟨(some p50), none, (.e (.mv (.r p0)))⟩, [], false⟩, ⟨6, ⟨(some p51), none, (.e (.nilchk (.r p50)))⟩, [], false⟩, ⟨7, ⟨(some p52), none, (.e (.fa 0 (.r p51)))⟩, [], false⟩, ⟨8, ⟨(some p53), none, (.e (.ld (.r p52)))⟩, [], false⟩, ⟨9, ⟨(some p54), none, (.e (.mv (.r p10)))⟩, [], false⟩, ⟨10, ⟨(some p55), none, (.e (.iaS 1 (.r p53) (.r p54)))⟩, [], false⟩, ⟨11, ⟨(some p56), none, (.e (.ld (.r p55)))⟩, [], false⟩, ⟨12, ⟨none, none, (.w (.mup .int (.r p48) (.r p49) (.r p56)))⟩, [], false⟩]) .skip))) C179_4)))) C179_3))))
noncomputable def J179_0 (E : Env) (r0 r1 r2 : DV) (h : H) : Ans :=
  vK (v_lenS r2) fun x1 =>
  vK (v_quo x1 (.int .i64 (.ofNat 64))) fun x2 =>
  vK (v_lenS r2) fun x3 =>
  vK (v_rem x3 (.int .i64 (.ofNat 64))) fun x4 =>
  vK (v_eql x4 (.int .i64 (.ofNat 0))) fun x5 =>
  wK (callK E 176 [r0, r1, x2, x5] h) fun x6 h7 =>
  vK (v_neq x6 (.int .i64 (.ofNat 0))) fun x8 =>
  bK x8
  (some (x6, h7))
  (L179_2 E r0 r1 r2 x2 FUEL (.int .i64 (.ofNat 0)) h7)
def C179_0 : DC := (.seq (.reg [⟨(some p6), none, (.e (.mv (.c (.int .i64 (.ofNat 0)))))⟩]) (.seq (.reg [⟨(some p13), none, (.e (.mv (.r p2)))⟩, ⟨(some p14), none, (.e (.lenS (.r p13)))⟩, ⟨(some p15), none, (.e (.bin .quo (.r p14) (.c (.int .i64 (.ofNat 64)))))⟩, ⟨(some p7), none, (.e (.mv (.r p15)))⟩]) (.seq (.seq (.reg [⟨(some p16), none, (.e (.mv (.r p0)))⟩, ⟨(some p17), none, (.e (.mv (.r p1)))⟩, ⟨(some p18), none, (.e (.mv (.r p7)))⟩, ⟨(some p19), none, (.e (.mv (.r p2)))⟩, ⟨(some p20), none, (.e (.lenS (.r p19)))⟩, ⟨(some p21), none, (.e (.bin .rem (.r p20) (.c (.int .i64 (.ofNat 64)))))⟩, ⟨(some p22), none, (.e (.bin .eql (.r p21) (.c (.int .i64 (.ofNat 0)))))⟩, ⟨(some p23), none, (.c (.f 176 [(.r p16), (.r p17), (.r p18), (.r p22)]))⟩, ⟨(some p8), none, (.e (.mv (.r p23)))⟩]) (.seq (.reg [⟨(some p24), none, (.e (.mv (.r p8)))⟩, ⟨(some p25), none, (.e (.bin .neq (.r p24) (.c (.int .i64 (.ofNat 0)))))⟩]) (.cond (.r p25) (.seq (.reg [⟨(some p26), none, (.e (.mv (.r p8)))⟩, ⟨(some p6), none, (.e (.mv (.r p26)))⟩]) .ret) .skip))) (.seq (.seq (.reg [⟨(some p27), none, (.e (.mv (.r p7)))⟩, ⟨(some p28), none, (.e (.mv (.c (.int .i64 (.ofNat 0)))))⟩]) (.block 0 C179_2)) C179_1))))
theorem I179_1 (E : Env) : Is E C179_1 (retK3 R179) (fun σ h => J179_1 E h) :=
  fun σ h => by kernel_rfl
noncomputable abbrev K179_5 (E : Env) : KT2 (DV × H) := (blockK3 0 (thenK3 (fun σ h => J179_1 E h) (retK3 R179)))
noncomputable abbrev K179_6 (E : Env) (n2 : Nat) : KT2 (DV × H) := (thenK3 (fun σ h => (L179_2 E (σ p0) (σ p1) (σ p2) (σ p27) n2) (σ p28) h) (K179_5 E))
theorem I179_3 (E : Env) (n2 : Nat) : Is E C179_3 (K179_6 E n2) (fun σ h => J179_3 E (L179_2 E (σ p0) (σ p1) (σ p2) (σ p27) n2) (σ p28) h) :=
  fun σ h => by kernel_rfl
noncomputable abbrev K179_7 (E : Env) (n2 : Nat) : KT2 (DV × H) := (thenK3 (fun σ h => J179_3 E (L179_2 E (σ p0) (σ p1) (σ p2) (σ p27) n2) (σ p28) h) (K179_6 E n2))
theorem I179_4 (E : Env) (n2 : Nat) : Is E C179_4 (blockK3 1 (K179_7 E n2)) (fun σ h => J179_4 E (L179_2 E (σ p0) (σ p1) (σ p2) (σ p27) n2) (σ p0) (σ p2) (σ p9) (σ p10) (σ p28) h) :=
  fun σ h => by kernel_rfl
theorem I179_2 (E : Env) : Is E C179_2 (K179_5 E) (fun σ h => L179_2 E (σ p0) (σ p1) (σ p2) (σ p27) FUEL (σ p28) h) :=
  Is.loop (fun n2 σ h => L179_2 E (σ p0) (σ p1) (σ p2) (σ p27) n2 (σ p28) h) (by kernel_rfl) fun n2 => Is.as (Is.seq (Is.seq (Is.seq (I179_3 E n2) (Is.block (Is.seq (Is.seq (Is.seq (I179_4 E n2) (Is.leaf _)) (Is.leaf _)) (Is.leaf _)))) (Is.leaf _)) (Is.leaf _)) fun σ h => by kernel_rfl
theorem I179_0 (E : Env) : Is E C179_0 (retK3 R179) (fun σ h => J179_0 E (σ p0) (σ p1) (σ p2) h) :=
  Is.as (Is.seq (Is.seq (Is.seq (Is.seq (I179_1 E) (Is.seq (Is.block (I179_2 E)) (Is.leaf _))) (Is.leaf _)) (Is.leaf _)) (Is.leaf _)) fun σ h => by kernel_rfl
def D179 : DF := ⟨3, 71, C179_0, R179⟩
noncomputable def S179 (E : Env) : Fun := fun args h => aS args fun r0 args => aS args fun r1 args => aS args fun r2 args => a0 args (J179_0 E r0 r1 r2 h)
theorem S179_eq (E : Env) (args : List DV) (h : H) : runFn E D179 args h = S179 E args h :=
  Is.fn3 (d := D179) (I179_0 E) rfl (fun r0 r1 r2 h => J179_0 E r0 r1 r2 h) (fun r0 r1 r2 h => by kernel_rfl) args h
/- (*hurdle/sector.Device).Flush -/
def R180 : List RV := []
noncomputable def J180_0 (E : Env) (r0 : DV) (h : H) : Ans :=
  vK (v_eqv .ptr true h.get r0 .nilp) fun x1 =>
  bK x1
  (vK (v_nilchk r0) fun x2 =>
  vK (v_fa 1 x2) fun x3 =>
  vK (v_ld h.get x3) fun x4 =>
  wK (dClearM x4 h) fun x5 h6 =>
  some ((.tup []), h6))
  (some ((.tup []), h))
def C180_0 : DC := (.seq (.reg [⟨(some p2), none, (.e (.mv (.r p0)))⟩, ⟨(some p3), none, (.e (.eqv .ptr true (.r p2) (.c .nilp)))⟩]) (.cond (.r p3) (.reg [⟨(some p4), none, (.e (.mv (.r p0)))⟩, ⟨(some p5), none, (.e (.nilchk (.r p4)))⟩, ⟨(some p6), none, (.e (.fa 1 (.r p5)))⟩, ⟨(some p7), none, (.e (.ld (.r p6)))⟩, ⟨none, none, (.w (.clm (.r p7)))⟩]) .skip))
theorem I180_0 (E : Env) : Is E C180_0 (retK3 R180) (fun σ h => J180_0 E (σ p0) h) :=
  fun σ h => by kernel_rfl
def D180 : DF := ⟨1, 8, C180_0, R180⟩
noncomputable def S180 (E : Env) : Fun := fun args h => aS args fun r0 args => a0 args (J180_0 E r0 h)
theorem S180_eq (E : Env) (args : List DV) (h : H) : runFn E D180 args h = S180 E args h :=
  Is.fn1 (d := D180) (I180_0 E) rfl (fun r0 h => J180_0 E r0 h) (fun r0 h => by kernel_rfl) args h
/- hurdle/frags.four -/
def R181 : List RV := [(.r p2)]
noncomputable def J181_0 (E : Env) (r0 : DV) (h : H) : Ans :=
  vK (v_conv .u8 r0) fun x1 =>
  vK (v_shr r0 (.int .u64 (.ofNat 8))) fun x2 =>
  vK (v_conv .u8 x2) fun x3 =>
  vK (v_shr r0 (.int .u64 (.ofNat 16))) fun x4 =>
  vK (v_conv .u8 x4) fun x5 =>
  vK (v_shr r0 (.int .u64 (.ofNat 24))) fun x6 =>
  vK (v_conv .u8 x6) fun x7 =>
  n_bsl 4 1 [(.int .u8 (.ofNat 0))] [(0, 1, x1), (1, 1, x3), (2, 1, x5), (3, 1, x7)] h fun x8 h9 =>
  vK (v_b2s h9.get x8) fun x10 =>
  some (x10, h9)
def C181_0 : DC := (.seq (.reg [⟨(some p2), none, (.e (.mv (.c (.str []))))⟩]) (.seq (.reg [⟨(some p3), none, (.e (.mv (.r p0)))⟩, ⟨(some p4), none, (.e (.conv .u8 (.r p3)))⟩, ⟨(some p5), none, (.e (.mv (.r p0)))⟩, ⟨(some p6), none, (.e (.bin .shr (.r p5) (.c (.int .u64 (.ofNat 8)))))⟩, ⟨(some p7), none, (.e (.conv .u8 (.r p6)))⟩, ⟨(some p8), none, (.e (.mv (.r p0)))⟩, ⟨(some p9), none, (.e (.bin .shr (.r p8) (.c (.int .u64 (.ofNat 16)))))⟩, ⟨(some p10), none, (.e (.conv .u8 (.r p9)))⟩, ⟨(some p11), none, (.e (.mv (.r p0)))⟩, ⟨(some p12), none, (.e (.bin .shr (.r p11) (.c (.int .u64 (.ofNat 24)))))⟩, ⟨(some p13), none, (.e (.conv .u8 (.r p12)))⟩, ⟨(some p14), none, (.e (.bsl 4 1 [(.int .u8 (.ofNat 0))] [(0, 1, (.r p4)), (1, 1, (.r p7)), (2, 1, (.r p10)), (3, 1, (.r p13))]))⟩, ⟨(some p15), none, (.e (.b2s (.r p14)))⟩, ⟨(some p2), none, (.e (.mv (.r p15)))⟩]) .ret))
theorem I181_0 (E : Env) : Is E C181_0 (retK3 R181) (fun σ h => J181_0 E (σ p0) h) :=
  fun σ h => by kernel_rfl
def D181 : DF := ⟨1, 16, C181_0, R181⟩
noncomputable def S181 (E : Env) : Fun := fun args h => aS args fun r0 args => a0 args (J181_0 E r0 h)
theorem S181_eq (E : Env) (args : List DV) (h : H) : runFn E D181 args h = S181 E args h :=
  Is.fn1 (d := D181) (I181_0 E) rfl (fun r0 h => J181_0 E r0 h) (fun r0 h => by kernel_rfl) args h
/- hurdle/sums.Sum -/
def R182 : List RV := [(.r p2)]
noncomputable def J182_0 (E : Env) (r0 : DV) (h : H) : Ans :=
  wK (callK E 205 [(.int .u32 (.ofNat 0)), r0] h) fun x1 h2 =>
  some (x1, h2)
def C182_0 : DC := (.seq (.reg [⟨(some p2), none, (.e (.mv (.c (.int .u32 (.ofNat 0)))))⟩]) (.seq (.reg [⟨(some p3), none, (.e (.mv (.r p0)))⟩, ⟨(some p4), none, (.c (.f 205 [(.c (.int .u32 (.ofNat 0))), (.r p3)]))⟩, ⟨(some p2), none, (.e (.mv (.r p4)))⟩]) .ret))
theorem I182_0 (E : Env) : Is E C182_0 (retK3 R182) (fun σ h => J182_0 E (σ p0) h) :=
  fun σ h => by kernel_rfl
def D182 : DF := ⟨1, 5, C182_0, R182⟩
noncomputable def S182 (E : Env) : Fun := fun args h => aS args fun r0 args => a0 args (J182_0 E r0 h)
theorem S182_eq (E : Env) (args : List DV) (h : H) : runFn E D182 args h = S182 E args h :=
  Is.fn1 (d := D182) (I182_0 E) rfl (fun r0 h => J182_0 E r0 h) (fun r0 h => by kernel_rfl) args h
/- hurdle/sums.Seal -/
def R183 : List RV := [(.r p2)]
noncomputable def J183_0 (E : Env) (r0 : DV) (h : H) : Ans :=
  wK (callK E 182 [r0] h) fun x1 h2 =>
  wK (callK E 206 [x1] h2) fun x3 h4 =>
  vK (v_add r0 x3) fun x5 =>
  some (x5, h4)
def C183_0 : DC := (.seq (.reg [⟨(some p2), none, (.e (.mv (.c (.str []))))⟩]) (.seq (.reg [⟨(some p3), none, (.e (.mv (.r p0)))⟩, ⟨(some p4), none, (.e (.mv (.r p0)))⟩, ⟨(some p5), none, (.c (.f 182 [(.r p4)]))⟩, ⟨(some p6), none, (.c (.f 206 [(.r p5)]))⟩, ⟨(some p7), none, (.e (.bin .add (.r p3) (.r p6)))⟩, ⟨(some p2), none, (.e (.mv (.r p7)))⟩]) .ret))
theorem I183_0 (E : Env) : Is E C183_0 (retK3 R183) (fun σ h => J183_0 E (σ p0) h) :=
  fun σ h => by kernel_rfl
def D183 : DF := ⟨1, 8, C183_0, R183⟩
noncomputable def S183 (E : Env) : Fun := fun args h => aS args fun r0 args => a0 args (J183_0 E r0 h)
theorem S183_eq (E : Env) (args : List DV) (h : H) : runFn E D183 args h = S183 E args h :=
  Is.fn1 (d := D183) (I183_0 E) rfl (fun r0 h => J183_0 E r0 h) (fun r0 h => by kernel_rfl) args h
/- hurdle/frags.number -/
def R187 : List RV := [(.r p2)]
noncomputable def J187_0 (E : Env) (r0 : DV) (h : H) : Ans :=
  vK (v_ixS r0 (.int .i64 (.ofNat 0))) fun x1 =>
  vK (v_conv .i64 x1) fun x2 =>
  vK (v_ixS r0 (.int .i64 (.ofNat 1))) fun x3 =>
  vK (v_conv .i64 x3) fun x4 =>
  vK (v_shl x4 (.int .u64 (.ofNat 8))) fun x5 =>
  vK (v_or x2 x5) fun x6 =>
  vK (v_ixS r0 (.int .i64 (.ofNat 2))) fun x7 =>
  vK (v_conv .i64 x7) fun x8 =>
  vK (v_shl x8 (.int .u64 (.ofNat 16))) fun x9 =>
  vK (v_or x6 x9) fun x10 =>
  vK (v_ixS r0 (.int .i64 (.ofNat 3))) fun x11 =>
  vK (v_conv .i64 x11) fun x12 =>
  vK (v_shl x12 (.int .u64 (.ofNat 24))) fun x13 =>
  vK (v_or x10 x13) fun x14 =>
  some (x14, h)
def C187_0 : DC := (.seq (.reg [⟨(some p2), none, (.e (.mv (.c (.int .i64 (.ofNat 0)))))⟩]) (.seq (.drg [⟨0, ⟨(some p3), none, (.e (.mv (.r p0)))⟩, [], false⟩, ⟨1, ⟨(some p4), none, (.e (.ixS (.r p3) (.c (.int .i64 (.ofNat 0)))))⟩, [], false⟩, ⟨2, ⟨(some p5), none, (.e (.conv .i64 (.r p4)))⟩, [], false⟩, ⟨3, ⟨(some p6), none, (.e (.mv (.r p0)))⟩, [], false⟩, ⟨4, ⟨(some p7), none, (.e (.ixS (.r p6) (.c (.int .i64 (.ofNat 1)))))⟩, [], false⟩, ⟨5, ⟨(some p8), none, (.e (.conv .i64 (.r p7)))⟩, [], false⟩, ⟨6, ⟨(some p9), none, (.e (.bin .shl (.r p8) (.c (.int .u64 (.ofNat 8)))))⟩, [], false⟩, ⟨7, ⟨(some p10), none, (.e (.bin .or (.r p5) (.r p9)))⟩, [], false⟩, ⟨8, ⟨(some p11), none, (.e (.mv (.r p0)))⟩, [], false⟩, ⟨9, ⟨(some p12), none, (.e (.ixS (.r p11) (.c (.int .i64 (.ofNat 2)))))⟩, [], false⟩, ⟨10, ⟨(some p13), none, (.e (.conv .i64 (.r p12)))⟩, [], false⟩, ⟨11, ⟨(some p14), none, (.e (.bin .shl (.r p13) (.c (.int .u64 (.ofNat 16)))))⟩, [], false⟩, ⟨12, ⟨(some p15), none, (.e (.bin .or (.r p10) (.r p14)))⟩, [], false⟩, ⟨13, ⟨(some p16), none, (.e (.mv (.r p0)))⟩, [], false⟩, ⟨14, ⟨(some p17), none, (.e (.ixS (.r p16) (.c (.int .i64 (.ofNat 3)))))⟩, [], false⟩, ⟨15, ⟨(some p18), none, (.e (.conv .i64 (.r p17)))⟩, [], false⟩, ⟨16, ⟨(some p19), none, (.e (.bin .shl (.r p18) (.c (.int .u64 (.ofNat 24)))))⟩, [], false⟩, ⟨17, ⟨(some p20), none, (.e (.bin .or (.r p15) (.r p19)))⟩, [], false⟩, ⟨18, ⟨(some p2), none, (.e (.mv (.r p20)))⟩, [], false⟩]) .ret))
theorem I187_0 (E : Env) : Is E C187_0 (retK3 R187) (fun σ h => J187_0 E (σ p0) h) :=
  fun σ h => by kernel_rfl
def D187 : DF := ⟨1, 21, C187_0, R187⟩
noncomputable def S187 (E : Env) : Fun := fun args h => aS args fun r0 args => a0 args (J187_0 E r0 h)
theorem S187_eq (E : Env) (args : List DV) (h : H) : runFn E D187 args h = S187 E args h :=
  Is.fn1 (d := D187) (I187_0 E) rfl (fun r0 h => J187_0 E r0 h) (fun r0 h => by kernel_rfl) args h
/- hurdle/members.apart -/
def R188 : List RV := [(.r p2)]
noncomputable def J188_1 (E : Env) (h : H) : Ans :=
  some ((.bool true), h)
def C188_1 : DC := (.seq (.reg [⟨(some p2), none, (.e (.mv (.c (.bool true))))⟩]) .ret)
noncomputable def J188_3 (E : Env) (i2 : DV → H → Ans) (r10 : DV) (h : H) : Ans :=
  vK (v_add r10 (.int .i64 (.ofNat 1))) fun x1 =>
  i2 x1 h
def C188_3 : DC := (.reg [⟨(some p34), none, (.e (.bin .add (.r p10) (.c (.int .i64 (.ofNat 1)))))⟩, ⟨(some p10), none, (.e (.mv (.r p34)))⟩])
noncomputable def B188_4 (E : Env) (i2 : DV → H → Ans) (r3 r10 r14 r15 : DV) (i4 : DV → H → Ans) (r16 : DV) (h : H) : Ans :=
  vK (v_lss r16 r15) fun x1 =>
  bK x1
  (vK (v_iaS 1 r14 r16) fun x2 =>
  vK (v_ld h.get x2) fun x3 =>
  vK (v_lss x3 (.int .i64 (.ofNat 0))) fun x4 =>
  gdK x4 false (fun kk => kk x3 h) h fun x5 h6 =>
  gdK x4 false (fun kk => vK (v_geq x5 (.int .i64 (.ofNat 64))) fun v => kk v h6) h6 fun x7 h8 =>
  vK (v_pick x4 (.bool true) x7) fun x9 =>
  gdK x9 false (fun kk => kk x3 h8) h8 fun x10 h11 =>
  gdK x9 false (fun kk => vK (v_iaA 64 1 r3 x10) fun v => kk v h11) h11 fun x12 h13 =>
  gdK x9 false (fun kk => vK (v_ld h13.get x12) fun v => kk v h13) h13 fun x14 h15 =>
  vK (v_pick x9 (.bool true) x14) fun x16 =>
  bK x16
  (some ((.bool false), h15))
  (vK (v_iaA 64 1 r3 x3) fun x17 =>
  wK (dStF 1 x17 (.bool true) h15) fun x18 h19 =>
  vK (v_add r16 (.int .i64 (.ofNat 1))) fun x20 =>
  i4 x20 h19))
  (J188_3 E i2 r10 h)
noncomputable def L188_4 (E : Env) (i2 : DV → H → Ans) (r3 r10 r14 r15 : DV) (n : Nat) : DV → H → Ans := Nat.rec (motive := fun _ => DV → H → Ans) (fun _ _ => none) (fun _ i => B188_4 E i2 r3 r10 r14 r15 i) n
def C188_4 : DC := (.loop (.seq (.reg [⟨(some p17), none, (.e (.bin .lss (.r p16) (.r p15)))⟩]) (.seq (.cond (.r p17) .skip (.exit 2)) (.seq (.block 3 (.seq (.reg [⟨(some p18), none, (.e (.iaS 1 (.r p14) (.r p16)))⟩, ⟨(some p19), none, (.e (.ld (.r p18)))⟩, ⟨(some p7), none, (.e (.mv (.r p19)))⟩]) (.seq (.seq (.reg [⟨(some p20), none, (.e (.mv (.r p7)))⟩, ⟨(some p21), none, (.e (.bin .lss (.r p20) (.c (.int .i64 (.ofNat 0)))))⟩, ⟨(some p22), none, (.e (.mv (.r p21)))⟩, ⟨(some p23), (some (p22, false)), (.e (.mv (.r p7)))⟩, ⟨(some p24), (some (p22, false)), (.e (.bin .geq (.r p23) (.c (.int .i64 (.ofNat 64)))))⟩, ⟨(some p25), none, (.e (.pick (.r p22) (.c (.bool true)) (.r p24)))⟩, ⟨(some p26), none, (.e (.mv (.r p25)))⟩, ⟨(some p27), (some (p26, false)), (.e (.mv (.r p7)))⟩, ⟨(some p28), (some (p26, false)), (.e (.iaA 64 1 (.r p3) (.r p27)))⟩, ⟨(some p29), (some (p26, false)), (.e (.ld (.r p28)))⟩, ⟨(some p30), none, (.e (.pick (.r p26) (.c (.bool true)) (.r p29)))⟩]) (.cond (.r p30) (.seq (.reg [⟨(some p2), none, (.e (.mv (.c (.bool false))))⟩]) .ret) .skip)) (.reg [⟨(some p31), none, (.e (.mv (.r p7)))⟩, ⟨(some p32), none, (.e (.iaA 64 1 (.r p3) (.r p31)))⟩, ⟨none, none, (.w (.st 1 (.r p32) (.c (.bool true))))⟩])))) (.reg [⟨(some p33), none, (.e (.bin .add (.r p16) (.c (.int .i64 (.ofNat 1)))))⟩, ⟨(some p16), none, (.e (.mv (.r p33)))⟩])))))
noncomputable def B188_2 (E : Env) (r3 r8 r9 : DV) (i2 : DV → H → Ans) (r10 : DV) (h : H) : Ans :=
  vK (v_lss r10 r9) fun x1 =>
  bK x1
  (vK (v_iaS 1 r8 r10) fun x2 =>
  vK (v_ld h.get x2) fun x3 =>
  vK (v_lenL x3) fun x4 =>
  L188_4 E i2 r3 r10 x3 x4 FUEL (.int .i64 (.ofNat 0)) h)
  (J188_1 E h)
noncomputable def L188_2 (E : Env) (r3 r8 r9 : DV) (n : Nat) : DV → H → Ans := Nat.rec (motive := fun _ => DV → H → Ans) (fun _ _ => none) (fun _ i => B188_2 E r3 r8 r9 i) n
def C188_2 : DC := (.loop (.seq (.reg [⟨(some p11), none, (.e (.bin .lss (.r p10) (.r p9)))⟩]) (.seq (.cond (.r p11) .skip (.exit 0)) (.seq (.block 1 (.seq (.reg [⟨(some p12), none, (.e (.iaS 1 (.r p8) (.r p10)))⟩, ⟨(some p13), none, (.e (.ld (.r p12)))⟩, ⟨(some p5), none, (.e (.mv (.r p13)))⟩]) (.seq (.reg [⟨(some p14), none, (.e (.mv (.r p5)))⟩, ⟨(some p15), none, (.e (.lenL (.r p14)))⟩, ⟨(some p16), none, (.e (.mv (.c (.int .i64 (.ofNat 0)))))⟩]) (.block 2 C188_4)))) C188_3))))
noncomputable def J188_0 (E : Env) (r0 : DV) (h : H) : Ans :=
  n_alc 64 64 (.full 64 (.bool false)) h fun x1 h2 =>
  vK (v_lenL r0) fun x3 =>
  L188_2 E x1 r0 x3 FUEL (.int .i64 (.ofNat 0)) h2
def C188_0 : DC := (.seq (.reg [⟨(some p2), none, (.e (.mv (.c (.bool false))))⟩]) (.seq (.reg [⟨(some p3), none, (.e (.alc 64 64 (.full 64 (.bool false))))⟩]) (.seq (.seq (.reg [⟨(some p8), none, (.e (.mv (.r p0)))⟩, ⟨(some p9), none, (.e (.lenL (.r p8)))⟩, ⟨(some p10), none, (.e (.mv (.c (.int .i64 (.ofNat 0)))))⟩]) (.block 0 C188_2)) C188_1)))
theorem I188_1 (E : Env) : Is E C188_1 (retK3 R188) (fun σ h => J188_1 E h) :=
  fun σ h => by kernel_rfl
noncomputable abbrev K188_5 (E : Env) : KT2 (DV × H) := (blockK3 0 (thenK3 (fun σ h => J188_1 E h) (retK3 R188)))
noncomputable abbrev K188_6 (E : Env) (n2 : Nat) : KT2 (DV × H) := (thenK3 (fun σ h => (L188_2 E (σ p3) (σ p8) (σ p9) n2) (σ p10) h) (K188_5 E))
theorem I188_3 (E : Env) (n2 : Nat) : Is E C188_3 (K188_6 E n2) (fun σ h => J188_3 E (L188_2 E (σ p3) (σ p8) (σ p9) n2) (σ p10) h) :=
  fun σ h => by kernel_rfl
noncomputable abbrev K188_7 (E : Env) (n2 : Nat) : KT2 (DV × H) := (thenK3 (fun σ h => J188_3 E (L188_2 E (σ p3) (σ p8) (σ p9) n2) (σ p10) h) (K188_6 E n2))
theorem I188_4 (E : Env) (n2 : Nat) : Is E C188_4 (blockK3 2 (blockK3 1 (K188_7 E n2))) (fun σ h => L188_4 E (L188_2 E (σ p3) (σ p8) (σ p9) n2) (σ p3) (σ p10) (σ p14) (σ p15) FUEL (σ p16) h) :=
  Is.loop (fun n4 σ h => L188_4 E (L188_2 E (σ p3) (σ p8) (σ p9) n2) (σ p3) (σ p10) (σ p14) (σ p15) n4 (σ p16) h) (by kernel_rfl) fun n4 => Is.as (Is.leaf _) fun σ h => by kernel_rfl
theorem I188_2 (E : Env) : Is E C188_2 (K188_5 E) (fun σ h => L188_2 E (σ p3) (σ p8) (σ p9) FUEL (σ p10) h) :=
  Is.loop (fun n2 σ h => L188_2 E (σ p3) (σ p8) (σ p9) n2 (σ p10) h) (by kernel_rfl) fun n2 => Is.as (Is.seq (Is.seq (Is.seq (I188_3 E n2) (Is.block (Is.seq (Is.seq (Is.block (I188_4 E n2)) (Is.leaf _)) (Is.leaf _)))) (Is.leaf _)) (Is.leaf _)) fun σ h => by kernel_rfl
theorem I188_0 (E : Env) : Is E C188_0 (retK3 R188) (fun σ h => J188_0 E (σ p0) h) :=
  Is.as (Is.seq (Is.seq (Is.seq (I188_1 E) (Is.seq (Is.block (I188_2 E)) (Is.leaf _))) (Is.leaf _)) (Is.leaf _)) fun σ h => by kernel_rfl
def D188 : DF := ⟨1, 35, C188_0, R188⟩
noncomputable def S188 (E : Env) : Fun := fun args h => aS args fun r0 args => a0 args (J188_0 E r0 h)
theorem S188_eq (E : Env) (args : List DV) (h : H) : runFn E D188 args h = S188 E args h :=
  Is.fn1 (d := D188) (I188_0 E) rfl (fun r0 h => J188_0 E r0 h) (fun r0 h => by kernel_rfl) args h
/- slices.rotateLeft[hurdle/replies.entry] -/
def R189 : List RV := []
noncomputable def J189_0 (E : Env) (r0 r1 : DV) (h : H) : Ans :=
  vK (v_slL 3 r0 none (some r1)) fun x1 =>
  wK (callK E 217 [x1] h) fun x2 h3 =>
  vK (v_slL 3 r0 (some r1) none) fun x4 =>
  wK (callK E 217 [x4] h3) fun x5 h6 =>
  wK (callK E 217 [r0] h6) fun x7 h8 =>
  some ((.tup []), h8)
def C189_0 : DC := (.seq (.reg [⟨(some p4), none, (.e (.mv (.r p0)))⟩, ⟨(some p5), none, (.e (.mv (.r p1)))⟩, ⟨(some p6), none, (.e (.slL 3 (.r p4) none (some (.r p5))))⟩, ⟨(some p7), none, (.c (.f 217 [(.r p6)]))⟩]) (.seq (.reg [⟨(some p8), none, (.e (.mv (.r p0)))⟩, ⟨(some p9), none, (.e (.mv (.r p1)))⟩, ⟨(some p10), none, (.e (.slL 3 (.r p8) (some (.r p9)) none))⟩, ⟨(some p11), none, (.c (.f 217 [(.r p10)]))⟩]) (.reg [⟨(some p12), none, (.e (.mv (.r p0)))⟩, ⟨(some p13), none, (.c (.f 217 [(.r p12)]))⟩])))
theorem I189_0 (E : Env) : Is E C189_0 (retK3 R189) (fun σ h => J189_0 E (σ p0) (σ p1) h) :=
  fun σ h => by kernel_rfl
def D189 : DF := ⟨2, 14, C189_0, R189⟩
noncomputable def S189 (E : Env) : Fun := fun args h => aS args fun r0 args => aS args fun r1 args => a0 args (J189_0 E r0 r1 h)
theorem S189_eq (E : Env) (args : List DV) (h : H) : runFn E D189 args h = S189 E args h :=
  Is.fn2 (d := D189) (I189_0 E) rfl (fun r0 r1 h => J189_0 E r0 r1 h) (fun r0 r1 h => by kernel_rfl) args h
/- hurdle/smap.may -/
def R190 : List RV := [(.r p2)]
noncomputable def J190_0 (E : Env) (r0 : DV) (h : H) : Ans :=
  n_box r0 h fun x1 h2 =>
  vK (v_fa 2 x1) fun x3 =>
  vK (v_ld h2.get x3) fun x4 =>
  vK (v_geq x4 (.int .i64 (.ofNat 0))) fun x5 =>
  gdK x5 true (fun kk => vK (v_fa 2 x1) fun v => kk v h2) h2 fun x6 h7 =>
  gdK x5 true (fun kk => vK (v_ld h7.get x6) fun v => kk v h7) h7 fun x8 h9 =>
  gdK x5 true (fun kk => vK (v_lss x8 (.int .i64 (.ofNat 16))) fun v => kk v h9) h9 fun x10 h11 =>
  vK (v_pick x5 x10 (.bool false)) fun x12 =>
  gdK x12 true (fun kk => vK (v_fa 3 x1) fun v => kk v h11) h11 fun x13 h14 =>
  gdK x12 true (fun kk => vK (v_ld h14.get x13) fun v => kk v h14) h14 fun x15 h16 =>
  gdK x12 true (fun kk => vK (v_geq x15 (.int .i64 (.ofNat 1))) fun v => kk v h16) h16 fun x17 h18 =>
  vK (v_pick x12 x17 (.bool false)) fun x19 =>
  gdK x19 true (fun kk => vK (v_fa 4 x1) fun v => kk v h18) h18 fun x20 h21 =>
  gdK x19 true (fun kk => vK (v_ld h21.get x20) fun v => kk v h21) h21 fun x22 h23 =>
  gdK x19 true (fun kk => vK (v_geq x22 (.int .i64 (.ofNat 0))) fun v => kk v h23) h23 fun x24 h25 =>
  vK (v_pick x19 x24 (.bool false)) fun x26 =>
  gdK x26 true (fun kk => vK (v_fa 4 x1) fun v => kk v h25) h25 fun x27 h28 =>
  gdK x26 true (fun kk => vK (v_ld h28.get x27) fun v => kk v h28) h28 fun x29 h30 =>
  gdK x26 true (fun kk => vK (v_leq x29 (.int .i64 (.ofNat 65536))) fun v => kk v h30) h30 fun x31 h32 =>
  vK (v_pick x26 x31 (.bool false)) fun x33 =>
  gdK x33 true (fun kk => vK (v_fa 5 x1) fun v => kk v h32) h32 fun x34 h35 =>
  gdK x33 true (fun kk => vK (v_ld h35.get x34) fun v => kk v h35) h35 fun x36 h37 =>
  gdK x33 true (fun kk => wK (callK E 218 [x36] h37) kk) h37 fun x38 h39 =>
  vK (v_pick x33 x38 (.bool false)) fun x40 =>
  some (x40, h39)
def C190_0 : DC := (.seq (.reg [⟨(some p1), none, (.e (.box (.r p0)))⟩, ⟨(some p2), none, (.e (.mv (.c (.bool false))))⟩]) (.seq (.reg [⟨(some p3), none, (.e (.fa 2 (.r p1)))⟩, ⟨(some p4), none, (.e (.ld (.r p3)))⟩, ⟨(some p5), none, (.e (.bin .geq (.r p4) (.c (.int .i64 (.ofNat 0)))))⟩, ⟨(some p6), none, (.e (.mv (.r p5)))⟩, ⟨(some p7), (some (p6, true)), (.e (.fa 2 (.r p1)))⟩, ⟨(some p8), (some (p6, true)), (.e (.ld (.r p7)))⟩, ⟨(some p9), (some (p6, true)), (.e (.bin .lss (.r p8) (.c (.int .i64 (.ofNat 16)))))⟩, ⟨(some p10), none, (.e (.pick (.r p6) (.r p9) (.c (.bool false))))⟩, ⟨(some p11), none, (.e (.mv (.r p10)))⟩, ⟨(some p12), (some (p11, true)), (.e (.fa 3 (.r p1)))⟩, ⟨(some p13), (some (p11, true)), (.e (.ld (.r p12)))⟩, ⟨(some p14), (some (p11, true)), (.e (.bin .geq (.r p13) (.c (.int .i64 (.ofNat 1)))))⟩, ⟨(some p15), none, (.e (.pick (.r p11) (.r p14) (.c (.bool false))))⟩, ⟨(some p16), none, (.e (.mv (.r p15)))⟩, ⟨(some p17), (some (p16, true)), (.e (.fa 4 (.r p1)))⟩, ⟨(some p18), (some (p16, true)), (.e (.ld (.r p17)))⟩, ⟨(some p19), (some (p16, true)), (.e (.bin .geq (.r p18) (.c (.int .i64 (.ofNat 0)))))⟩, ⟨(some p20), none, (.e (.pick (.r p16) (.r p19) (.c (.bool false))))⟩, ⟨(some p21), none, (.e (.mv (.r p20)))⟩, ⟨(some p22), (some (p21, true)), (.e (.fa 4 (.r p1)))⟩, ⟨(some p23), (some (p21, true)), (.e (.ld (.r p22)))⟩, ⟨(some p24), (some (p21, true)), (.e (.bin .leq (.r p23) (.c (.int .i64 (.ofNat 65536)))))⟩, ⟨(some p25), none, (.e (.pick (.r p21) (.r p24) (.c (.bool false))))⟩, ⟨(some p26), none, (.e (.mv (.r p25)))⟩, ⟨(some p27), (some (p26, true)), (.e (.fa 5 (.r p1)))⟩, ⟨(some p28), (some (p26, true)), (.e (.ld (.r p27)))⟩, ⟨(some p29), (some (p26, true)), (.c (.f 218 [(.r p28)]))⟩, ⟨(some p30), none, (.e (.pick (.r p26) (.r p29) (.c (.bool false))))⟩, ⟨(some p2), none, (.e (.mv (.r p30)))⟩]) .ret))
theorem I190_0 (E : Env) : Is E C190_0 (retK3 R190) (fun σ h => J190_0 E (σ p0) h) :=
  fun σ h => by kernel_rfl
def D190 : DF := ⟨1, 31, C190_0, R190⟩
noncomputable def S190 (E : Env) : Fun := fun args h => aS args fun r0 args => a0 args (J190_0 E r0 h)
theorem S190_eq (E : Env) (args : List DV) (h : H) : runFn E D190 args h = S190 E args h :=
  Is.fn1 (d := D190) (I190_0 E) rfl (fun r0 h => J190_0 E r0 h) (fun r0 h => by kernel_rfl) args h
/- hurdle/usage.errno -/
def R191 : List RV := [(.r p2)]
noncomputable def J191_0 (E : Env) (r0 : DV) (h : H) : Ans :=
  vK (v_bld [(.int .i64 (.ofNat 0))] []) fun x1 =>
  wK (callK E 219 [r0, (.ifc 297 x1)] h) fun x2 h3 =>
  vK (v_not x2) fun x4 =>
  bK x4
  (some ((.int .i64 (.ofNat 0)), h3))
  (vK (v_tas 297 (.agg [(.int .i64 (.ofNat 0))]) true r0) fun x5 =>
  vK (v_ext 0 x5) fun x6 =>
  vK (v_ext 1 x5) fun x7 =>
  n_alc 1 1 (.list [(.int .i64 (.ofNat 0))]) h3 fun x8 h9 =>
  wK (dStF 1 x8 x6 h9) fun x10 h11 =>
  vK (v_fa 0 x8) fun x12 =>
  vK (v_ld h11.get x12) fun x13 =>
  some (x13, h11))
def C191_0 : DC := (.seq (.reg [⟨(some p2), none, (.e (.mv (.c (.int .i64 (.ofNat 0)))))⟩]) (.seq (.seq (.reg [⟨(some p5), none, (.e (.mv (.r p0)))⟩, ⟨(some p6), none, (.e (.bld [(.int .i64 (.ofNat 0))] []))⟩, ⟨(some p7), none, (.e (.mkI 297 (.r p6)))⟩, ⟨(some p8), none, (.c (.f 219 [(.r p5), (.r p7)]))⟩, ⟨(some p9), none, (.e (.not (.r p8)))⟩]) (.cond (.r p9) (.seq (.reg [⟨(some p2), none, (.e (.mv (.c (.int .i64 (.ofNat 0)))))⟩]) .ret) .skip)) (.seq (.reg [⟨(some p11), none, (.e (.mv (.r p0)))⟩, ⟨(some p12), none, (.e (.tas 297 (.agg [(.int .i64 (.ofNat 0))]) true (.r p11)))⟩, ⟨(some p10), none, (.e (.mv (.r p12)))⟩, ⟨(some p13), none, (.e (.ext 0 (.r p10)))⟩, ⟨(some p14), none, (.e (.ext 1 (.r p10)))⟩, ⟨(some p3), none, (.e (.alc 1 1 (.list [(.int .i64 (.ofNat 0))])))⟩, ⟨none, none, (.w (.st 1 (.r p3) (.r p13)))⟩, ⟨(some p4), none, (.e (.mv (.r p14)))⟩]) (.seq (.reg [⟨(some p15), none, (.e (.fa 0 (.r p3)))⟩, ⟨(some p16), none, (.e (.ld (.r p15)))⟩, ⟨(some p2), none, (.e (.mv (.r p16)))⟩]) .ret))))
theorem I191_0 (E : Env) : Is E C191_0 (retK3 R191) (fun σ h => J191_0 E (σ p0) h) :=
  fun σ h => by kernel_rfl
def D191 : DF := ⟨1, 17, C191_0, R191⟩
noncomputable def S191 (E : Env) : Fun := fun args h => aS args fun r0 args => a0 args (J191_0 E r0 h)
theorem S191_eq (E : Env) (args : List DV) (h : H) : runFn E D191 args h = S191 E args h :=
  Is.fn1 (d := D191) (I191_0 E) rfl (fun r0 h => J191_0 E r0 h) (fun r0 h => by kernel_rfl) args h
/- (*hurdle/usage.Usage).add -/
def R192 : List RV := [(.r p4)]
noncomputable def J192_0 (E : Env) (r0 r1 : DV) (h : H) : Ans :=
  n_box r1 h fun x1 h2 =>
  vK (v_eqv .ptr false h2.get r0 .nilp) fun x3 =>
  gdK x3 false (fun kk => vK (v_fa 0 x1) fun v => kk v h2) h2 fun x4 h5 =>
  gdK x3 false (fun kk => vK (v_ld h5.get x4) fun v => kk v h5) h5 fun x6 h7 =>
  gdK x3 false (fun kk => vK (v_lss x6 (.int .i64 (.ofNat 0))) fun v => kk v h7) h7 fun x8 h9 =>
  vK (v_pick x3 (.bool true) x8) fun x10 =>
  gdK x10 false (fun kk => vK (v_fa 0 x1) fun v => kk v h9) h9 fun x11 h12 =>
  gdK x10 false (fun kk => vK (v_ld h12.get x11) fun v => kk v h12) h12 fun x13 h14 =>
  gdK x10 false (fun kk => vK (v_geq x13 (.int .i64 (.ofNat 4096))) fun v => kk v h14) h14 fun x15 h16 =>
  vK (v_pick x10 (.bool true) x15) fun x17 =>
  gdK x17 false (fun kk => vK (v_ldN 4 h16.get x1) fun v => kk v h16) h16 fun x18 h19 =>
  gdK x17 false (fun kk => wK (callK E 220 [x18] h19) kk) h19 fun x20 h21 =>
  gdK x17 false (fun kk => vK (v_not x20) fun v => kk v h21) h21 fun x22 h23 =>
  vK (v_pick x17 (.bool true) x22) fun x24 =>
  bK x24
  (vK (v_bld [(.int .i64 (.ofNat 0))] [(0, 1, (.int .i64 (.ofNat 1)))]) fun x25 =>
  some ((.ifc 297 x25), h23))
  (vK (v_fa 0 x1) fun x26 =>
  vK (v_ld h23.get x26) fun x27 =>
  wK (callK E 193 [r0, x27] h23) fun x28 h29 =>
  vK (v_ext 0 x28) fun x30 =>
  vK (v_ext 1 x28) fun x31 =>
  bK x31
  (vK (v_bld [(.int .i64 (.ofNat 0))] [(0, 1, (.int .i64 (.ofNat 6)))]) fun x32 =>
  some ((.ifc 297 x32), h29))
  (vK (v_nilchk r0) fun x33 =>
  vK (v_fa 0 x33) fun x34 =>
  vK (v_ld h29.get x34) fun x35 =>
  vK (v_ldN 4 h29.get x1) fun x36 =>
  n_bsl 1 4 [(.int .i64 (.ofNat 0)), (.int .i64 (.ofNat 0)), (.int .i64 (.ofNat 0)), (.int .i64 (.ofNat 0))] [(0, 4, x36)] h29 fun x37 h38 =>
  wK (callK E 221 [x35, x30, x37] h38) fun x39 h40 =>
  vK (v_nilchk r0) fun x41 =>
  vK (v_fa 0 x41) fun x42 =>
  wK (dStF 1 x42 x39 h40) fun x43 h44 =>
  some (.nili, h44)))
def C192_0 : DC := (.seq (.reg [⟨(some p3), none, (.e (.box (.r p1)))⟩, ⟨(some p4), none, (.e (.mv (.c .nili)))⟩]) (.seq (.seq (.reg [⟨(some p7), none, (.e (.mv (.r p0)))⟩, ⟨(some p8), none, (.e (.eqv .ptr false (.r p7) (.c .nilp)))⟩, ⟨(some p9), none, (.e (.mv (.r p8)))⟩, ⟨(some p10), (some (p9, false)), (.e (.fa 0 (.r p3)))⟩, ⟨(some p11), (some (p9, false)), (.e (.ld (.r p10)))⟩, ⟨(some p12), (some (p9, false)), (.e (.bin .lss (.r p11) (.c (.int .i64 (.ofNat 0)))))⟩, ⟨(some p13), none, (.e (.pick (.r p9) (.c (.bool true)) (.r p12)))⟩, ⟨(some p14), none, (.e (.mv (.r p13)))⟩, ⟨(some p15), (some (p14, false)), (.e (.fa 0 (.r p3)))⟩, ⟨(some p16), (some (p14, false)), (.e (.ld (.r p15)))⟩, ⟨(some p17), (some (p14, false)), (.e (.bin .geq (.r p16) (.c (.int .i64 (.ofNat 4096)))))⟩, ⟨(some p18), none, (.e (.pick (.r p14) (.c (.bool true)) (.r p17)))⟩, ⟨(some p19), none, (.e (.mv (.r p18)))⟩, ⟨(some p20), (some (p19, false)), (.e (.ldN 4 (.r p3)))⟩, ⟨(some p21), (some (p19, false)), (.c (.f 220 [(.r p20)]))⟩, ⟨(some p22), (some (p19, false)), (.e (.not (.r p21)))⟩, ⟨(some p23), none, (.e (.pick (.r p19) (.c (.bool true)) (.r p22)))⟩]) (.cond (.r p23) (.seq (.reg [⟨(some p24), none, (.e (.bld [(.int .i64 (.ofNat 0))] [(0, 1, (.c (.int .i64 (.ofNat 1))))]))⟩, ⟨(some p25), none, (.e (.mkI 297 (.r p24)))⟩, ⟨(some p4), none, (.e (.mv (.r p25)))⟩]) .ret) .skip)) (.seq (.reg [⟨(some p27), none, (.e (.mv (.r p0)))⟩, ⟨(some p28), none, (.e (.fa 0 (.r p3)))⟩, ⟨(some p29), none, (.e (.ld (.r p28)))⟩, ⟨(some p30), none, (.c (.f 193 [(.r p27), (.r p29)]))⟩, ⟨(some p26), none, (.e (.mv (.r p30)))⟩, ⟨(some p31), none, (.e (.ext 0 (.r p26)))⟩, ⟨(some p32), none, (.e (.ext 1 (.r p26)))⟩, ⟨(some p5), none, (.e (.mv (.r p31)))⟩, ⟨(some p6), none, (.e (.mv (.r p32)))⟩]) (.seq (.seq (.reg [⟨(some p33), none, (.e (.mv (.r p6)))⟩]) (.cond (.r p33) (.seq (.reg [⟨(some p34), none, (.e (.bld [(.int .i64 (.ofNat 0))] [(0, 1, (.c (.int .i64 (.ofNat 6))))]))⟩, ⟨(some p35), none, (.e (.mkI 297 (.r p34)))⟩, ⟨(some p4), none, (.e (.mv (.r p35)))⟩]) .ret) .skip)) (.seq (.drg [⟨0, ⟨(some p36), none, (.e (.mv (.r p0)))⟩, [], false⟩, ⟨1, ⟨(some p37), none, (.e (.mv (.r p0)))⟩, [], false⟩, ⟨2, ⟨(some p38), none, (.e (.nilchk (.r p37)))⟩, [], false⟩, ⟨3, ⟨(some p39), none, (.e (.fa 0 (.r p38)))⟩, [], false⟩, ⟨4, ⟨(some p40), none, (.e (.ld (.r p39)))⟩, [], false⟩, ⟨5, ⟨(some p41), none, (.e (.mv (.r p5)))⟩, [], false⟩, ⟨6, ⟨(some p42), none, (.e (.ldN 4 (.r p3)))⟩, [], false⟩, ⟨7, ⟨(some p43), none, (.e (.bsl 1 4 [(.int .i64 (.ofNat 0)), (.int .i64 (.ofNat 0)), (.int .i64 (.ofNat 0)), (.int .i64 (.ofNat 0))] [(0, 4, (.r p42))]))⟩, [], false⟩, ⟨8, ⟨(some p44), none, (.c (.f 221 [(.r p40), (.r p41), (.r p43)]))⟩, [], false⟩, ⟨9, ⟨(some p45), none, (.e (.nilchk (.r p36)))⟩, [], false⟩, ⟨10, ⟨(some p46), none, (.e (.fa 0 (.r p45)))⟩, [], false⟩, ⟨11, ⟨none, none, (.w (.st 1 (.r p46) (.r p44)))⟩, [], false⟩]) (.seq (.reg [⟨(some p4), none, (.e (.mv (.c .nili)))⟩]) .ret))))))
theorem I192_0 (E : Env) : Is E C192_0 (retK3 R192) (fun σ h => J192_0 E (σ p0) (σ p1) h) :=
  fun σ h => by kernel_rfl
def D192 : DF := ⟨2, 47, C192_0, R192⟩
noncomputable def S192 (E : Env) : Fun := fun args h => aS args fun r0 args => aS args fun r1 args => a0 args (J192_0 E r0 r1 h)
theorem S192_eq (E : Env) (args : List DV) (h : H) : runFn E D192 args h = S192 E args h :=
  Is.fn2 (d := D192) (I192_0 E) rfl (fun r0 r1 h => J192_0 E r0 r1 h) (fun r0 r1 h => by kernel_rfl) args h
/- (*hurdle/usage.Usage).find -/
def R193 : List RV := [(.r p4), (.r p5)]
noncomputable def J193_0 (E : Env) (r0 r1 : DV) (h : H) : Ans :=
  vK (v_nilchk r0) fun x1 =>
  vK (v_fa 0 x1) fun x2 =>
  vK (v_ld h.get x2) fun x3 =>
  wK (callK E 222 [x3, r1, (.fn (.func 223) [] [])] h) fun x4 h5 =>
  vK (v_ext 0 x4) fun x6 =>
  vK (v_ext 1 x4) fun x7 =>
  some ((.tup [x6, x7]), h5)
def C193_0 : DC := (.seq (.reg [⟨(some p4), none, (.e (.mv (.c (.int .i64 (.ofNat 0)))))⟩, ⟨(some p5), none, (.e (.mv (.c (.bool false))))⟩]) (.seq (.reg [⟨(some p6), none, (.e (.mv (.r p0)))⟩, ⟨(some p7), none, (.e (.nilchk (.r p6)))⟩, ⟨(some p8), none, (.e (.fa 0 (.r p7)))⟩, ⟨(some p9), none, (.e (.ld (.r p8)))⟩, ⟨(some p10), none, (.e (.mv (.r p1)))⟩, ⟨(some p11), none, (.c (.f 222 [(.r p9), (.r p10), (.c (.fn (.func 223) [] []))]))⟩, ⟨(some p12), none, (.e (.ext 0 (.r p11)))⟩, ⟨(some p13), none, (.e (.ext 1 (.r p11)))⟩, ⟨(some p4), none, (.e (.mv (.r p12)))⟩, ⟨(some p5), none, (.e (.mv (.r p13)))⟩]) .ret))
theorem I193_0 (E : Env) : Is E C193_0 (retK3 R193) (fun σ h => J193_0 E (σ p0) (σ p1) h) :=
  fun σ h => by kernel_rfl
def D193 : DF := ⟨2, 14, C193_0, R193⟩
noncomputable def S193 (E : Env) : Fun := fun args h => aS args fun r0 args => aS args fun r1 args => a0 args (J193_0 E r0 r1 h)
theorem S193_eq (E : Env) (args : List DV) (h : H) : runFn E D193 args h = S193 E args h :=
  Is.fn2 (d := D193) (I193_0 E) rfl (fun r0 r1 h => J193_0 E r0 r1 h) (fun r0 r1 h => by kernel_rfl) args h
/- (*hurdle/smap.Map).On$1 -/
def R198 : List RV := [(.r p3)]
noncomputable def J198_0 (E : Env) (r0 r1 : DV) (h : H) : Ans :=
  n_box r0 h fun x1 h2 =>
  vK (v_fa 1 x1) fun x3 =>
  vK (v_ld h2.get x3) fun x4 =>
  vK (v_neq x4 (.int .i64 (.ofNat 3))) fun x5 =>
  gdK x5 true (fun kk => vK (v_fa 5 x1) fun v => kk v h2) h2 fun x6 h7 =>
  gdK x5 true (fun kk => vK (v_ld h7.get x6) fun v => kk v h7) h7 fun x8 h9 =>
  gdK x5 true (fun kk => vK (v_ld h9.get r1) fun v => kk v h9) h9 fun x10 h11 =>
  gdK x5 true (fun kk => wK (callK E 66 [x8, x10] h11) kk) h11 fun x12 h13 =>
  vK (v_pick x5 x12 (.bool false)) fun x14 =>
  some (x14, h13)
def C198_0 : DC := (.seq (.reg [⟨(some p2), none, (.e (.box (.r p0)))⟩, ⟨(some p3), none, (.e (.mv (.c (.bool false))))⟩]) (.seq (.reg [⟨(some p4), none, (.e (.fa 1 (.r p2)))⟩, ⟨(some p5), none, (.e (.ld (.r p4)))⟩, ⟨(some p6), none, (.e (.bin .neq (.r p5) (.c (.int .i64 (.ofNat 3)))))⟩, ⟨(some p7), none, (.e (.mv (.r p6)))⟩, ⟨(some p8), (some (p7, true)), (.e (.fa 5 (.r p2)))⟩, ⟨(some p9), (some (p7, true)), (.e (.ld (.r p8)))⟩, ⟨(some p10), (some (p7, true)), (.e (.ld (.r p1)))⟩, ⟨(some p11), (some (p7, true)), (.c (.f 66 [(.r p9), (.r p10)]))⟩, ⟨(some p12), none, (.e (.pick (.r p7) (.r p11) (.c (.bool false))))⟩, ⟨(some p3), none, (.e (.mv (.r p12)))⟩]) .ret))
theorem I198_0 (E : Env) : Is E C198_0 (retK3 R198) (fun σ h => J198_0 E (σ p0) (σ p1) h) :=
  fun σ h => by kernel_rfl
def D198 : DF := ⟨2, 13, C198_0, R198⟩
noncomputable def S198 (E : Env) : Fun := fun args h => aS args fun r0 args => aS args fun r1 args => a0 args (J198_0 E r0 r1 h)
theorem S198_eq (E : Env) (args : List DV) (h : H) : runFn E D198 args h = S198 E args h :=
  Is.fn2 (d := D198) (I198_0 E) rfl (fun r0 r1 h => J198_0 E r0 r1 h) (fun r0 r1 h => by kernel_rfl) args h
/- hurdle/sums.More -/
def R205 : List RV := [(.r p4)]
noncomputable def J205_1 (E : Env) (r5 : DV) (h : H) : Ans :=
  vK (v_xor (.int .u32 (.ofNat 4294967295)) r5) fun x1 =>
  some (x1, h)
def C205_1 : DC := (.seq (.reg [⟨(some p22), none, (.e (.mv (.r p5)))⟩, ⟨(some p23), none, (.e (.bin .xor (.c (.int .u32 (.ofNat 4294967295))) (.r p22)))⟩, ⟨(some p4), none, (.e (.mv (.r p23)))⟩]) .ret)
noncomputable def B205_2 (E : Env) (r1 r10 : DV) (i2 : DV → DV → H → Ans) (r5 r11 : DV) (h : H) : Ans :=
  vK (v_lss r11 r10) fun x1 =>
  bK x1
  (vK (v_ixS r1 r11) fun x2 =>
  vK (v_conv .u32 x2) fun x3 =>
  vK (v_xor r5 x3) fun x4 =>
  wK (callK E 229 [x4] h) fun x5 h6 =>
  vK (v_add r11 (.int .i64 (.ofNat 1))) fun x7 =>
  i2 x5 x7 h6)
  (J205_1 E r5 h)
noncomputable def L205_2 (E : Env) (r1 r10 : DV) (n : Nat) : DV → DV → H → Ans := Nat.rec (motive := fun _ => DV → DV → H → Ans) (fun _ _ _ => none) (fun _ i => B205_2 E r1 r10 i) n
def C205_2 : DC := (.loop (.seq (.reg [⟨(some p12), none, (.e (.bin .lss (.r p11) (.r p10)))⟩]) (.seq (.cond (.r p12) .skip (.exit 0)) (.seq (.block 1 (.seq (.reg [⟨(some p13), none, (.e (.mv (.r p11)))⟩, ⟨(some p6), none, (.e (.mv (.r p13)))⟩]) (.reg [⟨(some p14), none, (.e (.mv (.r p5)))⟩, ⟨(some p15), none, (.e (.mv (.r p1)))⟩, ⟨(some p16), none, (.e (.mv (.r p6)))⟩, ⟨(some p17), none, (.e (.ixS (.r p15) (.r p16)))⟩, ⟨(some p18), none, (.e (.conv .u32 (.r p17)))⟩, ⟨(some p19), none, (.e (.bin .xor (.r p14) (.r p18)))⟩, ⟨(some p20), none, (.c (.f 229 [(.r p19)]))⟩, ⟨(some p5), none, (.e (.mv (.r p20)))⟩]))) (.reg [⟨(some p21), none, (.e (.bin .add (.r p11) (.c (.int .i64 (.ofNat 1)))))⟩, ⟨(some p11), none, (.e (.mv (.r p21)))⟩])))))
noncomputable def J205_0 (E : Env) (r0 r1 : DV) (h : H) : Ans :=
  vK (v_xor (.int .u32 (.ofNat 4294967295)) r0) fun x1 =>
  vK (v_lenS r1) fun x2 =>
  L205_2 E r1 x2 FUEL x1 (.int .i64 (.ofNat 0)) h
def C205_0 : DC := (.seq (.reg [⟨(some p4), none, (.e (.mv (.c (.int .u32 (.ofNat 0)))))⟩]) (.seq (.reg [⟨(some p7), none, (.e (.mv (.r p0)))⟩, ⟨(some p8), none, (.e (.bin .xor (.c (.int .u32 (.ofNat 4294967295))) (.r p7)))⟩, ⟨(some p5), none, (.e (.mv (.r p8)))⟩]) (.seq (.seq (.reg [⟨(some p9), none, (.e (.mv (.r p1)))⟩, ⟨(some p10), none, (.e (.lenS (.r p9)))⟩, ⟨(some p11), none, (.e (.mv (.c (.int .i64 (.ofNat 0)))))⟩]) (.block 0 C205_2)) C205_1)))
theorem I205_1 (E : Env) : Is E C205_1 (retK3 R205) (fun σ h => J205_1 E (σ p5) h) :=
  fun σ h => by kernel_rfl
noncomputable abbrev K205_3 (E : Env) : KT2 (DV × H) := (thenK3 (fun σ h => J205_1 E (σ p5) h) (retK3 R205))
theorem I205_2 (E : Env) : Is E C205_2 (blockK3 0 (K205_3 E)) (fun σ h => L205_2 E (σ p1) (σ p10) FUEL (σ p5) (σ p11) h) :=
  Is.loop (fun n2 σ h => L205_2 E (σ p1) (σ p10) n2 (σ p5) (σ p11) h) (by kernel_rfl) fun n2 => Is.as (Is.leaf _) fun σ h => by kernel_rfl
theorem I205_0 (E : Env) : Is E C205_0 (retK3 R205) (fun σ h => J205_0 E (σ p0) (σ p1) h) :=
  Is.as (Is.seq (Is.seq (Is.seq (I205_1 E) (Is.seq (Is.block (I205_2 E)) (Is.leaf _))) (Is.leaf _)) (Is.leaf _)) fun σ h => by kernel_rfl
def D205 : DF := ⟨2, 24, C205_0, R205⟩
noncomputable def S205 (E : Env) : Fun := fun args h => aS args fun r0 args => aS args fun r1 args => a0 args (J205_0 E r0 r1 h)
theorem S205_eq (E : Env) (args : List DV) (h : H) : runFn E D205 args h = S205 E args h :=
  Is.fn2 (d := D205) (I205_0 E) rfl (fun r0 r1 h => J205_0 E r0 r1 h) (fun r0 r1 h => by kernel_rfl) args h
/- hurdle/sums.four -/
def R206 : List RV := [(.r p2)]
noncomputable def J206_0 (E : Env) (r0 : DV) (h : H) : Ans :=
  vK (v_conv .u8 r0) fun x1 =>
  vK (v_shr r0 (.int .u64 (.ofNat 8))) fun x2 =>
  vK (v_conv .u8 x2) fun x3 =>
  vK (v_shr r0 (.int .u64 (.ofNat 16))) fun x4 =>
  vK (v_conv .u8 x4) fun x5 =>
  vK (v_shr r0 (.int .u64 (.ofNat 24))) fun x6 =>
  vK (v_conv .u8 x6) fun x7 =>
  n_bsl 4 1 [(.int .u8 (.ofNat 0))] [(0, 1, x1), (1, 1, x3), (2, 1, x5), (3, 1, x7)] h fun x8 h9 =>
  vK (v_b2s h9.get x8) fun x10 =>
  some (x10, h9)
def C206_0 : DC := (.seq (.reg [⟨(some p2), none, (.e (.mv (.c (.str []))))⟩]) (.seq (.reg [⟨(some p3), none, (.e (.mv (.r p0)))⟩, ⟨(some p4), none, (.e (.conv .u8 (.r p3)))⟩, ⟨(some p5), none, (.e (.mv (.r p0)))⟩, ⟨(some p6), none, (.e (.bin .shr (.r p5) (.c (.int .u64 (.ofNat 8)))))⟩, ⟨(some p7), none, (.e (.conv .u8 (.r p6)))⟩, ⟨(some p8), none, (.e (.mv (.r p0)))⟩, ⟨(some p9), none, (.e (.bin .shr (.r p8) (.c (.int .u64 (.ofNat 16)))))⟩, ⟨(some p10), none, (.e (.conv .u8 (.r p9)))⟩, ⟨(some p11), none, (.e (.mv (.r p0)))⟩, ⟨(some p12), none, (.e (.bin .shr (.r p11) (.c (.int .u64 (.ofNat 24)))))⟩, ⟨(some p13), none, (.e (.conv .u8 (.r p12)))⟩, ⟨(some p14), none, (.e (.bsl 4 1 [(.int .u8 (.ofNat 0))] [(0, 1, (.r p4)), (1, 1, (.r p7)), (2, 1, (.r p10)), (3, 1, (.r p13))]))⟩, ⟨(some p15), none, (.e (.b2s (.r p14)))⟩, ⟨(some p2), none, (.e (.mv (.r p15)))⟩]) .ret))
theorem I206_0 (E : Env) : Is E C206_0 (retK3 R206) (fun σ h => J206_0 E (σ p0) h) :=
  fun σ h => by kernel_rfl
def D206 : DF := ⟨1, 16, C206_0, R206⟩
noncomputable def S206 (E : Env) : Fun := fun args h => aS args fun r0 args => a0 args (J206_0 E r0 h)
theorem S206_eq (E : Env) (args : List DV) (h : H) : runFn E D206 args h = S206 E args h :=
  Is.fn1 (d := D206) (I206_0 E) rfl (fun r0 h => J206_0 E r0 h) (fun r0 h => by kernel_rfl) args h
/- slices.Reverse[[]hurdle/replies.entry,hurdle/replies.entry] -/
def R217 : List RV := []
noncomputable def B217_1 (E : Env) (r0 : DV) (i1 : DV → DV → H → Ans) (r2 r3 : DV) (h : H) : Ans :=
  vK (v_lss r2 r3) fun x1 =>
  bK x1
  (vK (v_iaS 3 r0 r3) fun x2 =>
  vK (v_ldN 3 h.get x2) fun x3 =>
  vK (v_iaS 3 r0 r2) fun x4 =>
  vK (v_ldN 3 h.get x4) fun x5 =>
  vK (v_iaS 3 r0 r2) fun x6 =>
  wK (dStF 3 x6 x3 h) fun x7 h8 =>
  vK (v_iaS 3 r0 r3) fun x9 =>
  wK (dStF 3 x9 x5 h8) fun x10 h11 =>
  vK (v_add r2 (.int .i64 (.ofNat 1))) fun x12 =>
  vK (v_sub r3 (.int .i64 (.ofNat 1))) fun x13 =>
  i1 x12 x13 h11)
  (some ((.tup []), h))
noncomputable def L217_1 (E : Env) (r0 : DV) (n : Nat) : DV → DV → H → Ans := Nat.rec (motive := fun _ => DV → DV → H → Ans) (fun _ _ _ => none) (fun _ i => B217_1 E r0 i) n
def C217_1 : DC := (.loop (.seq (.seq (.reg [⟨(some p7), none, (.e (.mv (.r p2)))⟩, ⟨(some p8), none, (.e (.mv (.r p3)))⟩, ⟨(some p9), none, (.e (.bin .lss (.r p7) (.r p8)))⟩]) (.cond (.r p9) .skip (.exit 0))) (.seq (.block 1 (.drg [⟨0, ⟨(some p14), none, (.e (.mv (.r p0)))⟩, [], false⟩, ⟨1, ⟨(some p15), none, (.e (.mv (.r p2)))⟩, [], false⟩, ⟨2, ⟨(some p16), none, (.e (.mv (.r p0)))⟩, [], false⟩, ⟨3, ⟨(some p17), none, (.e (.mv (.r p3)))⟩, [], false⟩, ⟨4, ⟨(some p18), none, (.e (.mv (.r p0)))⟩, [], false⟩, ⟨5, ⟨(some p19), none, (.e (.mv (.r p3)))⟩, [], false⟩, ⟨6, ⟨(some p20), none, (.e (.iaS 3 (.r p18) (.r p19)))⟩, [], false⟩, ⟨7, ⟨(some p21), none, (.e (.ldN 3 (.r p20)))⟩, [], false⟩, ⟨8, ⟨(some p22), none, (.e (.mv (.r p0)))⟩, [], false⟩, ⟨9, ⟨(some p23), none, (.e (.mv (.r p2)))⟩, [], false⟩, ⟨10, ⟨(some p24), none, (.e (.iaS 3 (.r p22) (.r p23)))⟩, [], false⟩, ⟨11, ⟨(some p25), none, (.e (.ldN 3 (.r p24)))⟩, [], false⟩, ⟨12, ⟨(some p26), none, (.e (.iaS 3 (.r p14) (.r p15)))⟩, [], false⟩, ⟨13, ⟨none, none, (.w (.st 3 (.r p26) (.r p21)))⟩, [], false⟩, ⟨14, ⟨(some p27), none, (.e (.iaS 3 (.r p16) (.r p17)))⟩, [], false⟩, ⟨15, ⟨none, none, (.w (.st 3 (.r p27) (.r p25)))⟩, [], false⟩])) (.reg [⟨(some p10), none, (.e (.mv (.r p2)))⟩, ⟨(some p11), none, (.e (.bin .add (.r p10) (.c (.int .i64 (.ofNat 1)))))⟩, ⟨(some p12), none, (.e (.mv (.r p3)))⟩, ⟨(some p13), none, (.e (.bin .sub (.r p12) (.c (.int .i64 (.ofNat 1)))))⟩, ⟨(some p2), none, (.e (.mv (.r p11)))⟩, ⟨(some p3), none, (.e (.mv (.r p13)))⟩]))))
noncomputable def J217_0 (E : Env) (r0 : DV) (h : H) : Ans :=
  vK (v_lenL r0) fun x1 =>
  vK (v_sub x1 (.int .i64 (.ofNat 1))) fun x2 =>
  L217_1 E r0 FUEL (.int .i64 (.ofNat 0)) x2 h
def C217_0 : DC := (.seq (.reg [⟨(some p4), none, (.e (.mv (.r p0)))⟩, ⟨(some p5), none, (.e (.lenL (.r p4)))⟩, ⟨(some p6), none, (.e (.bin .sub (.r p5) (.c (.int .i64 (.ofNat 1)))))⟩, ⟨(some p2), none, (.e (.mv (.c (.int .i64 (.ofNat 0)))))⟩, ⟨(some p3), none, (.e (.mv (.r p6)))⟩]) (.block 0 C217_1))
theorem I217_1 (E : Env) : Is E C217_1 (blockK3 0 (retK3 R217)) (fun σ h => L217_1 E (σ p0) FUEL (σ p2) (σ p3) h) :=
  Is.loop (fun n1 σ h => L217_1 E (σ p0) n1 (σ p2) (σ p3) h) (by kernel_rfl) fun n1 => Is.as (Is.leaf _) fun σ h => by kernel_rfl
theorem I217_0 (E : Env) : Is E C217_0 (retK3 R217) (fun σ h => J217_0 E (σ p0) h) :=
  Is.as (Is.seq (Is.block (I217_1 E)) (Is.leaf _)) fun σ h => by kernel_rfl
def D217 : DF := ⟨1, 28, C217_0, R217⟩
noncomputable def S217 (E : Env) : Fun := fun args h => aS args fun r0 args => a0 args (J217_0 E r0 h)
theorem S217_eq (E : Env) (args : List DV) (h : H) : runFn E D217 args h = S217 E args h :=
  Is.fn1 (d := D217) (I217_0 E) rfl (fun r0 h => J217_0 E r0 h) (fun r0 h => by kernel_rfl) args h
/- hurdle/smap.group -/
def R218 : List RV := [(.r p2)]
noncomputable def J218_1 (E : Env) (h : H) : Ans :=
  some ((.bool true), h)
def C218_1 : DC := (.seq (.reg [⟨(some p2), none, (.e (.mv (.c (.bool true))))⟩]) .ret)
noncomputable def B218_2 (E : Env) (r0 r13 r14 : DV) (i2 : DV → H → Ans) (r15 : DV) (h : H) : Ans :=
  vK (v_lss r15 r14) fun x1 =>
  bK x1
  (vK (v_iaS 1 r13 r15) fun x2 =>
  vK (v_ld h.get x2) fun x3 =>
  vK (v_lss x3 (.int .i64 (.ofNat 0))) fun x4 =>
  gdK x4 false (fun kk => kk x3 h) h fun x5 h6 =>
  gdK x4 false (fun kk => vK (v_geq x5 (.int .i64 (.ofNat 64))) fun v => kk v h6) h6 fun x7 h8 =>
  vK (v_pick x4 (.bool true) x7) fun x9 =>
  gdK x9 false (fun kk => kk r0 h8) h8 fun x10 h11 =>
  gdK x9 false (fun kk => kk r15 h11) h11 fun x12 h13 =>
  gdK x9 false (fun kk => vK (v_slL 1 x10 none (some x12)) fun v => kk v h13) h13 fun x14 h15 =>
  gdK x9 false (fun kk => kk x3 h15) h15 fun x16 h17 =>
  gdK x9 false (fun kk => wK (callK E 66 [x14, x16] h17) kk) h17 fun x18 h19 =>
  vK (v_pick x9 (.bool true) x18) fun x20 =>
  bK x20
  (some ((.bool false), h19))
  (vK (v_add r15 (.int .i64 (.ofNat 1))) fun x21 =>
  i2 x21 h19))
  (J218_1 E h)
noncomputable def L218_2 (E : Env) (r0 r13 r14 : DV) (n : Nat) : DV → H → Ans := Nat.rec (motive := fun _ => DV → H → Ans) (fun _ _ => none) (fun _ i => B218_2 E r0 r13 r14 i) n
def C218_2 : DC := (.loop (.seq (.reg [⟨(some p16), none, (.e (.bin .lss (.r p15) (.r p14)))⟩]) (.seq (.cond (.r p16) .skip (.exit 0)) (.seq (.block 1 (.seq (.reg [⟨(some p17), none, (.e (.mv (.r p15)))⟩, ⟨(some p18), none, (.e (.iaS 1 (.r p13) (.r p15)))⟩, ⟨(some p19), none, (.e (.ld (.r p18)))⟩, ⟨(some p3), none, (.e (.mv (.r p17)))⟩, ⟨(some p4), none, (.e (.mv (.r p19)))⟩]) (.seq (.reg [⟨(some p20), none, (.e (.mv (.r p4)))⟩, ⟨(some p21), none, (.e (.bin .lss (.r p20) (.c (.int .i64 (.ofNat 0)))))⟩, ⟨(some p22), none, (.e (.mv (.r p21)))⟩, ⟨(some p23), (some (p22, false)), (.e (.mv (.r p4)))⟩, ⟨(some p24), (some (p22, false)), (.e (.bin .geq (.r p23) (.c (.int .i64 (.ofNat 64)))))⟩, ⟨(some p25), none, (.e (.pick (.r p22) (.c (.bool true)) (.r p24)))⟩, ⟨(some p26), none, (.e (.mv (.r p25)))⟩, ⟨(some p27), (some (p26, false)), (.e (.mv (.r p0)))⟩, ⟨(some p28), (some (p26, false)), (.e (.mv (.r p3)))⟩, ⟨(some p29), (some (p26, false)), (.e (.slL 1 (.r p27) none (some (.r p28))))⟩, ⟨(some p30), (some (p26, false)), (.e (.mv (.r p4)))⟩, ⟨(some p31), (some (p26, false)), (.c (.f 66 [(.r p29), (.r p30)]))⟩, ⟨(some p32), none, (.e (.pick (.r p26) (.c (.bool true)) (.r p31)))⟩]) (.cond (.r p32) (.seq (.reg [⟨(some p2), none, (.e (.mv (.c (.bool false))))⟩]) .ret) .skip)))) (.reg [⟨(some p33), none, (.e (.bin .add (.r p15) (.c (.int .i64 (.ofNat 1)))))⟩, ⟨(some p15), none, (.e (.mv (.r p33)))⟩])))))
noncomputable def J218_0 (E : Env) (r0 : DV) (h : H) : Ans :=
  vK (v_lenL r0) fun x1 =>
  vK (v_lss x1 (.int .i64 (.ofNat 2))) fun x2 =>
  gdK x2 false (fun kk => kk r0 h) h fun x3 h4 =>
  gdK x2 false (fun kk => vK (v_lenL x3) fun v => kk v h4) h4 fun x5 h6 =>
  gdK x2 false (fun kk => vK (v_gtr x5 (.int .i64 (.ofNat 8))) fun v => kk v h6) h6 fun x7 h8 =>
  vK (v_pick x2 (.bool true) x7) fun x9 =>
  bK x9
  (some ((.bool false), h8))
  (vK (v_lenL r0) fun x10 =>
  L218_2 E r0 r0 x10 FUEL (.int .i64 (.ofNat 0)) h8)
def C218_0 : DC := (.seq (.reg [⟨(some p2), none, (.e (.mv (.c (.bool false))))⟩]) (.seq (.seq (.reg [⟨(some p5), none, (.e (.mv (.r p0)))⟩, ⟨(some p6), none, (.e (.lenL (.r p5)))⟩, ⟨(some p7), none, (.e (.bin .lss (.r p6) (.c (.int .i64 (.ofNat 2)))))⟩, ⟨(some p8), none, (.e (.mv (.r p7)))⟩, ⟨(some p9), (some (p8, false)), (.e (.mv (.r p0)))⟩, ⟨(some p10), (some (p8, false)), (.e (.lenL (.r p9)))⟩, ⟨(some p11), (some (p8, false)), (.e (.bin .gtr (.r p10) (.c (.int .i64 (.ofNat 8)))))⟩, ⟨(some p12), none, (.e (.pick (.r p8) (.c (.bool true)) (.r p11)))⟩]) (.cond (.r p12) (.seq (.reg [⟨(some p2), none, (.e (.mv (.c (.bool false))))⟩]) .ret) .skip)) (.seq (.seq (.reg [⟨(some p13), none, (.e (.mv (.r p0)))⟩, ⟨(some p14), none, (.e (.lenL (.r p13)))⟩, ⟨(some p15), none, (.e (.mv (.c (.int .i64 (.ofNat 0)))))⟩]) (.block 0 C218_2)) C218_1)))
theorem I218_1 (E : Env) : Is E C218_1 (retK3 R218) (fun σ h => J218_1 E h) :=
  fun σ h => by kernel_rfl
noncomputable abbrev K218_3 (E : Env) : KT2 (DV × H) := (blockK3 0 (thenK3 (fun σ h => J218_1 E h) (retK3 R218)))
theorem I218_2 (E : Env) : Is E C218_2 (K218_3 E) (fun σ h => L218_2 E (σ p0) (σ p13) (σ p14) FUEL (σ p15) h) :=
  Is.loop (fun n2 σ h => L218_2 E (σ p0) (σ p13) (σ p14) n2 (σ p15) h) (by kernel_rfl) fun n2 => Is.as (Is.leaf _) fun σ h => by kernel_rfl
theorem I218_0 (E : Env) : Is E C218_0 (retK3 R218) (fun σ h => J218_0 E (σ p0) h) :=
  Is.as (Is.seq (Is.seq (Is.seq (I218_1 E) (Is.seq (Is.block (I218_2 E)) (Is.leaf _))) (Is.leaf _)) (Is.leaf _)) fun σ h => by kernel_rfl
def D218 : DF := ⟨1, 34, C218_0, R218⟩
noncomputable def S218 (E : Env) : Fun := fun args h => aS args fun r0 args => a0 args (J218_0 E r0 h)
theorem S218_eq (E : Env) (args : List DV) (h : H) : runFn E D218 args h = S218 E args h :=
  Is.fn1 (d := D218) (I218_0 E) rfl (fun r0 h => J218_0 E r0 h) (fun r0 h => by kernel_rfl) args h
/- errors.Is -/
def R219 : List RV := [(.r p4)]
noncomputable def J219_0 (E : Env) (r0 r1 : DV) (h : H) : Ans :=
  vK (v_eqv .nilI false h.get r0 .nili) fun x1 =>
  gdK x1 false (fun kk => kk r1 h) h fun x2 h3 =>
  gdK x1 false (fun kk => vK (v_eqv .nilI false h3.get x2 .nili) fun v => kk v h3) h3 fun x4 h5 =>
  vK (v_pick x1 (.bool true) x4) fun x6 =>
  bK x6
  (vK (v_eqv .nilD false h5.get r0 r1) fun x7 =>
  some (x7, h5))
  (wK (callK E 235 [r1] h5) fun x8 h9 =>
  wK (c_mth E [] x8 [] h9) fun x10 h11 =>
  wK (callK E 236 [r0, r1, x10] h11) fun x12 h13 =>
  some (x12, h13))
def C219_0 : DC := (.seq (.reg [⟨(some p4), none, (.e (.mv (.c (.bool false))))⟩]) (.seq (.seq (.reg [⟨(some p6), none, (.e (.mv (.r p0)))⟩, ⟨(some p7), none, (.e (.eqv .nilI false (.r p6) (.c .nili)))⟩, ⟨(some p8), none, (.e (.mv (.r p7)))⟩, ⟨(some p9), (some (p8, false)), (.e (.mv (.r p1)))⟩, ⟨(some p10), (some (p8, false)), (.e (.eqv .nilI false (.r p9) (.c .nili)))⟩, ⟨(some p11), none, (.e (.pick (.r p8) (.c (.bool true)) (.r p10)))⟩]) (.cond (.r p11) (.seq (.reg [⟨(some p12), none, (.e (.mv (.r p0)))⟩, ⟨(some p13), none, (.e (.mv (.r p1)))⟩, ⟨(some p14), none, (.e (.eqv .nilD false (.r p12) (.r p13)))⟩, ⟨(some p4), none, (.e (.mv (.r p14)))⟩]) .ret) .skip)) (.seq (.reg [⟨(some p15), none, (.e (.mv (.r p1)))⟩, ⟨(some p16), none, (.c (.f 235 [(.r p15)]))⟩, ⟨(some p17), none, (.c (.m [] (.r p16) []))⟩, ⟨(some p5), none, (.e (.mv (.r p17)))⟩]) (.seq (.reg [⟨(some p18), none, (.e (.mv (.r p0)))⟩, ⟨(some p19), none, (.e (.mv (.r p1)))⟩, ⟨(some p20), none, (.e (.mv (.r p5)))⟩, ⟨(some p21), none, (.c (.f 236 [(.r p18), (.r p19), (.r p20)]))⟩, ⟨(some p4), none, (.e (.mv (.r p21)))⟩]) .ret))))
theorem I219_0 (E : Env) : Is E C219_0 (retK3 R219) (fun σ h => J219_0 E (σ p0) (σ p1) h) :=
  fun σ h => by kernel_rfl
def D219 : DF := ⟨2, 22, C219_0, R219⟩
noncomputable def S219 (E : Env) : Fun := fun args h => aS args fun r0 args => aS args fun r1 args => a0 args (J219_0 E r0 r1 h)
theorem S219_eq (E : Env) (args : List DV) (h : H) : runFn E D219 args h = S219 E args h :=
  Is.fn2 (d := D219) (I219_0 E) rfl (fun r0 r1 h => J219_0 E r0 r1 h) (fun r0 r1 h => by kernel_rfl) args h
/- hurdle/usage.may -/
def R220 : List RV := [(.r p2)]
noncomputable def J220_0 (E : Env) (r0 : DV) (h : H) : Ans :=
  n_box r0 h fun x1 h2 =>
  vK (v_fa 1 x1) fun x3 =>
  vK (v_ld h2.get x3) fun x4 =>
  vK (v_geq x4 (.int .i64 (.ofNat 1))) fun x5 =>
  gdK x5 true (fun kk => vK (v_fa 1 x1) fun v => kk v h2) h2 fun x6 h7 =>
  gdK x5 true (fun kk => vK (v_ld h7.get x6) fun v => kk v h7) h7 fun x8 h9 =>
  gdK x5 true (fun kk => vK (v_leq x8 (.int .i64 (.ofNat 65536))) fun v => kk v h9) h9 fun x10 h11 =>
  vK (v_pick x5 x10 (.bool false)) fun x12 =>
  gdK x12 true (fun kk => vK (v_fa 2 x1) fun v => kk v h11) h11 fun x13 h14 =>
  gdK x12 true (fun kk => vK (v_ld h14.get x13) fun v => kk v h14) h14 fun x15 h16 =>
  gdK x12 true (fun kk => vK (v_geq x15 (.int .i64 (.ofNat 0))) fun v => kk v h16) h16 fun x17 h18 =>
  vK (v_pick x12 x17 (.bool false)) fun x19 =>
  gdK x19 true (fun kk => vK (v_fa 2 x1) fun v => kk v h18) h18 fun x20 h21 =>
  gdK x19 true (fun kk => vK (v_ld h21.get x20) fun v => kk v h21) h21 fun x22 h23 =>
  gdK x19 true (fun kk => vK (v_fa 1 x1) fun v => kk v h23) h23 fun x24 h25 =>
  gdK x19 true (fun kk => vK (v_ld h25.get x24) fun v => kk v h25) h25 fun x26 h27 =>
  gdK x19 true (fun kk => vK (v_leq x22 x26) fun v => kk v h27) h27 fun x28 h29 =>
  vK (v_pick x19 x28 (.bool false)) fun x30 =>
  gdK x30 true (fun kk => vK (v_fa 3 x1) fun v => kk v h29) h29 fun x31 h32 =>
  gdK x30 true (fun kk => vK (v_ld h32.get x31) fun v => kk v h32) h32 fun x33 h34 =>
  gdK x30 true (fun kk => vK (v_geq x33 (.int .i64 (.ofNat 0))) fun v => kk v h34) h34 fun x35 h36 =>
  vK (v_pick x30 x35 (.bool false)) fun x37 =>
  gdK x37 true (fun kk => vK (v_fa 3 x1) fun v => kk v h36) h36 fun x38 h39 =>
  gdK x37 true (fun kk => vK (v_ld h39.get x38) fun v => kk v h39) h39 fun x40 h41 =>
  gdK x37 true (fun kk => vK (v_leq x40 (.int .i64 (.ofNat 1099511627776))) fun v => kk v h41) h41 fun x42 h43 =>
  vK (v_pick x37 x42 (.bool false)) fun x44 =>
  some (x44, h43)
def C220_0 : DC := (.seq (.reg [⟨(some p1), none, (.e (.box (.r p0)))⟩, ⟨(some p2), none, (.e (.mv (.c (.bool false))))⟩]) (.seq (.reg [⟨(some p3), none, (.e (.fa 1 (.r p1)))⟩, ⟨(some p4), none, (.e (.ld (.r p3)))⟩, ⟨(some p5), none, (.e (.bin .geq (.r p4) (.c (.int .i64 (.ofNat 1)))))⟩, ⟨(some p6), none, (.e (.mv (.r p5)))⟩, ⟨(some p7), (some (p6, true)), (.e (.fa 1 (.r p1)))⟩, ⟨(some p8), (some (p6, true)), (.e (.ld (.r p7)))⟩, ⟨(some p9), (some (p6, true)), (.e (.bin .leq (.r p8) (.c (.int .i64 (.ofNat 65536)))))⟩, ⟨(some p10), none, (.e (.pick (.r p6) (.r p9) (.c (.bool false))))⟩, ⟨(some p11), none, (.e (.mv (.r p10)))⟩, ⟨(some p12), (some (p11, true)), (.e (.fa 2 (.r p1)))⟩, ⟨(some p13), (some (p11, true)), (.e (.ld (.r p12)))⟩, ⟨(some p14), (some (p11, true)), (.e (.bin .geq (.r p13) (.c (.int .i64 (.ofNat 0)))))⟩, ⟨(some p15), none, (.e (.pick (.r p11) (.r p14) (.c (.bool false))))⟩, ⟨(some p16), none, (.e (.mv (.r p15)))⟩, ⟨(some p17), (some (p16, true)), (.e (.fa 2 (.r p1)))⟩, ⟨(some p18), (some (p16, true)), (.e (.ld (.r p17)))⟩, ⟨(some p19), (some (p16, true)), (.e (.fa 1 (.r p1)))⟩, ⟨(some p20), (some (p16, true)), (.e (.ld (.r p19)))⟩, ⟨(some p21), (some (p16, true)), (.e (.bin .leq (.r p18) (.r p20)))⟩, ⟨(some p22), none, (.e (.pick (.r p16) (.r p21) (.c (.bool false))))⟩, ⟨(some p23), none, (.e (.mv (.r p22)))⟩, ⟨(some p24), (some (p23, true)), (.e (.fa 3 (.r p1)))⟩, ⟨(some p25), (some (p23, true)), (.e (.ld (.r p24)))⟩, ⟨(some p26), (some (p23, true)), (.e (.bin .geq (.r p25) (.c (.int .i64 (.ofNat 0)))))⟩, ⟨(some p27), none, (.e (.pick (.r p23) (.r p26) (.c (.bool false))))⟩, ⟨(some p28), none, (.e (.mv (.r p27)))⟩, ⟨(some p29), (some (p28, true)), (.e (.fa 3 (.r p1)))⟩, ⟨(some p30), (some (p28, true)), (.e (.ld (.r p29)))⟩, ⟨(some p31), (some (p28, true)), (.e (.bin .leq (.r p30) (.c (.int .i64 (.ofNat 1099511627776)))))⟩, ⟨(some p32), none, (.e (.pick (.r p28) (.r p31) (.c (.bool false))))⟩, ⟨(some p2), none, (.e (.mv (.r p32)))⟩]) .ret))
theorem I220_0 (E : Env) : Is E C220_0 (retK3 R220) (fun σ h => J220_0 E (σ p0) h) :=
  fun σ h => by kernel_rfl
def D220 : DF := ⟨1, 33, C220_0, R220⟩
noncomputable def S220 (E : Env) : Fun := fun args h => aS args fun r0 args => a0 args (J220_0 E r0 h)
theorem S220_eq (E : Env) (args : List DV) (h : H) : runFn E D220 args h = S220 E args h :=
  Is.fn1 (d := D220) (I220_0 E) rfl (fun r0 h => J220_0 E r0 h) (fun r0 h => by kernel_rfl) args h
/- slices.Insert[[]hurdle/api.Use,hurdle/api.Use] -/
def R221 : List RV := [(.r p6)]
noncomputable def J221_0 (E : Env) (r0 r1 r2 : DV) (h : H) : Ans :=
  vK (v_slL 4 r0 (some r1) none) fun x1 =>
  vK (v_lenL r2) fun x2 =>
  vK (v_eql x2 (.int .i64 (.ofNat 0))) fun x3 =>
  bK x3
  (some (r0, h))
  (vK (v_lenL r0) fun x4 =>
  vK (v_eql r1 x4) fun x5 =>
  bK x5
  (wK (dAppendF 4 32 r0 r2 h) fun x6 h7 =>
  some (x6, h7))
  (vK (v_add x4 x2) fun x8 =>
  none))
def C221_0 : DC := (.seq (.reg [⟨(some p6), none, (.e (.mv (.c .nils)))⟩]) (.seq (.reg [⟨(some p10), none, (.e (.mv (.r p0)))⟩, ⟨(some p11), none, (.e (.mv (.r p1)))⟩, ⟨(some p12), none, (.e (.slL 4 (.r p10) (some (.r p11)) none))⟩]) (.seq (.reg [⟨(some p13), none, (.e (.mv (.r p2)))⟩, ⟨(some p14), none, (.e (.lenL (.r p13)))⟩, ⟨(some p7), none, (.e (.mv (.r p14)))⟩]) (.seq (.seq (.reg [⟨(some p15), none, (.e (.mv (.r p7)))⟩, ⟨(some p16), none, (.e (.bin .eql (.r p15) (.c (.int .i64 (.ofNat 0)))))⟩]) (.cond (.r p16) (.seq (.reg [⟨(some p17), none, (.e (.mv (.r p0)))⟩, ⟨(some p6), none, (.e (.mv (.r p17)))⟩]) .ret) .skip)) (.seq (.reg [⟨(some p18), none, (.e (.mv (.r p0)))⟩, ⟨(some p19), none, (.e (.lenL (.r p18)))⟩, ⟨(some p8), none, (.e (.mv (.r p19)))⟩]) (.seq (.seq (.reg [⟨(some p20), none, (.e (.mv (.r p1)))⟩, ⟨(some p21), none, (.e (.mv (.r p8)))⟩, ⟨(some p22), none, (.e (.bin .eql (.r p20) (.r p21)))⟩]) (.cond (.r p22) (.seq (.reg [⟨(some p23), none, (.e (.mv (.r p0)))⟩, ⟨(some p24), none, (.e (.mv (.r p2)))⟩, ⟨(some p25), none, (.w (.app 4 32 (.r p23) (.r p24)))⟩, ⟨(some p6), none, (.e (.mv (.r p25)))⟩]) .ret) .skip)) (.seq (.seq (.reg [⟨(some p26), none, (.e (.mv (.r p8)))⟩, ⟨(some p27), none, (.e (.mv (.r p7)))⟩, ⟨(some p28), none, (.e (.bin .add (.r p26) (.r p27)))⟩, ⟨(some p29), none, (.e (.mv (.r p0)))⟩, ⟨(some p30), none, (.e .bad)⟩, ⟨(some p31), none, (.e (.bin .gtr (.r p28) (.r p30)))⟩]) (.cond (.r p31) (.seq (.reg [⟨(some p32), none, (.e (.mv (.r p0)))⟩, ⟨(some p33), none, (.e (.mv (.r p1)))⟩, ⟨(some p34), none, (.e (.slL 4 (.r p32) none (some (.r p33))))⟩, ⟨(some p35), none, (.e (.mv (.r p8)))⟩, ⟨(some p36), none, (.e (.mv (.r p7)))⟩, ⟨(some p37), none, (.e (.bin .add (.r p35) (.r p36)))⟩, ⟨(some p38), none, (.e (.mv (.r p1)))⟩, ⟨(some p39), none, (.e (.bin .sub (.r p37) (.r p38)))⟩, ⟨(some p40), none, (.e .bad)⟩, ⟨(some p9), none, (.e (.mv (.r p40)))⟩]) (.seq (.reg [⟨(some p41), none, (.e (.mv (.r p9)))⟩, ⟨(some p42), none, (.e (.mv (.r p1)))⟩, ⟨(some p43), none, (.e (.slL 4 (.r p41) (some (.r p42)) none))⟩, ⟨(some p44), none, (.e (.mv (.r p2)))⟩, ⟨(some p45), none, (.w (.cpy 4 (.r p43) (.r p44)))⟩]) (.seq (.drg [⟨0, ⟨(some p46), none, (.e (.mv (.r p9)))⟩, [], false⟩, ⟨1, ⟨(some p47), none, (.e (.mv (.r p1)))⟩, [], false⟩, ⟨2, ⟨(some p48), none, (.e (.mv (.r p7)))⟩, [], false⟩, ⟨3, ⟨(some p49), none, (.e (.bin .add (.r p47) (.r p48)))⟩, [], false⟩, ⟨4, ⟨(some p50), none, (.e (.slL 4 (.r p46) (some (.r p49)) none))⟩, [], false⟩, ⟨5, ⟨(some p51), none, (.e (.mv (.r p0)))⟩, [], false⟩, ⟨6, ⟨(some p52), none, (.e (.mv (.r p1)))⟩, [], false⟩, ⟨7, ⟨(some p53), none, (.e (.slL 4 (.r p51) (some (.r p52)) none))⟩, [], false⟩, ⟨8, ⟨(some p54), none, (.w (.cpy 4 (.r p50) (.r p53)))⟩, [], false⟩]) (.seq (.reg [⟨(some p55), none, (.e (.mv (.r p9)))⟩, ⟨(some p6), none, (.e (.mv (.r p55)))⟩]) .ret)))) .skip)) (.seq (.reg [⟨(some p56), none, (.e (.mv (.r p0)))⟩, ⟨(some p57), none, (.e (.mv (.r p8)))⟩, ⟨(some p58), none, (.e (.mv (.r p7)))⟩, ⟨(some p59), none, (.e (.bin .add (.r p57) (.r p58)))⟩, ⟨(some p60), none, (.e (.slL 4 (.r p56) none (some (.r p59))))⟩, ⟨(some p0), none, (.e (.mv (.r p60)))⟩]) (.seq (.seq (.reg [⟨(some p61), none, (.e (.mv (.r p2)))⟩, ⟨(some p62), none, (.e (.mv (.r p0)))⟩, ⟨(some p63), none, (.e (.mv (.r p1)))⟩, ⟨(some p64), none, (.e (.mv (.r p7)))⟩, ⟨(some p65), none, (.e (.bin .add (.r p63) (.r p64)))⟩, ⟨(some p66), none, (.e (.slL 4 (.r p62) (some (.r p65)) none))⟩, ⟨(some p67), none, (.c (.f 237 [(.r p61), (.r p66)]))⟩, ⟨(some p68), none, (.e (.not (.r p67)))⟩]) (.cond (.r p68) (.seq (.drg [⟨0, ⟨(some p69), none, (.e (.mv (.r p0)))⟩, [], false⟩, ⟨1, ⟨(some p70), none, (.e (.mv (.r p1)))⟩, [], false⟩, ⟨2, ⟨(some p71), none, (.e (.mv (.r p7)))⟩, [], false⟩, ⟨3, ⟨(some p72), none, (.e (.bin .add (.r p70) (.r p71)))⟩, [], false⟩, ⟨4, ⟨(some p73), none, (.e (.slL 4 (.r p69) (some (.r p72)) none))⟩, [], false⟩, ⟨5, ⟨(some p74), none, (.e (.mv (.r p0)))⟩, [], false⟩, ⟨6, ⟨(some p75), none, (.e (.mv (.r p1)))⟩, [], false⟩, ⟨7, ⟨(some p76), none, (.e (.slL 4 (.r p74) (some (.r p75)) none))⟩, [], false⟩, ⟨8, ⟨(some p77), none, (.w (.cpy 4 (.r p73) (.r p76)))⟩, [], false⟩]) (.seq (.reg [⟨(some p78), none, (.e (.mv (.r p0)))⟩, ⟨(some p79), none, (.e (.mv (.r p1)))⟩, ⟨(some p80), none, (.e (.slL 4 (.r p78) (some (.r p79)) none))⟩, ⟨(some p81), none, (.e (.mv (.r p2)))⟩, ⟨(some p82), none, (.w (.cpy 4 (.r p80) (.r p81)))⟩]) (.seq (.reg [⟨(some p83), none, (.e (.mv (.r p0)))⟩, ⟨(some p6), none, (.e (.mv (.r p83)))⟩]) .ret))) .skip)) (.seq (.reg [⟨(some p84), none, (.e (.mv (.r p0)))⟩, ⟨(some p85), none, (.e (.mv (.r p8)))⟩, ⟨(some p86), none, (.e (.slL 4 (.r p84) (some (.r p85)) none))⟩, ⟨(some p87), none, (.e (.mv (.r p2)))⟩, ⟨(some p88), none, (.w (.cpy 4 (.r p86) (.r p87)))⟩]) (.seq (.reg [⟨(some p89), none, (.e (.mv (.r p0)))⟩, ⟨(some p90), none, (.e (.mv (.r p1)))⟩, ⟨(some p91), none, (.e (.slL 4 (.r p89) (some (.r p90)) none))⟩, ⟨(some p92), none, (.e (.mv (.r p7)))⟩, ⟨(some p93), none, (.c (.f 238 [(.r p91), (.r p92)]))⟩]) (.seq (.reg [⟨(some p94), none, (.e (.mv (.r p0)))⟩, ⟨(some p6), none, (.e (.mv (.r p94)))⟩]) .ret))))))))))))
theorem I221_0 (E : Env) : Is E C221_0 (retK3 R221) (fun σ h => J221_0 E (σ p0) (σ p1) (σ p2) h) :=
  fun σ h => by kernel_rfl
def D221 : DF := ⟨3, 95, C221_0, R221⟩
noncomputable def S221 (E : Env) : Fun := fun args h => aS args fun r0 args => aS args fun r1 args => aS args fun r2 args => a0 args (J221_0 E r0 r1 r2 h)
theorem S221_eq (E : Env) (args : List DV) (h : H) : runFn E D221 args h = S221 E args h :=
  Is.fn3 (d := D221) (I221_0 E) rfl (fun r0 r1 r2 h => J221_0 E r0 r1 r2 h) (fun r0 r1 r2 h => by kernel_rfl) args h
/- slices.BinarySearchFunc[[]hurdle/api.Use,hurdle/api.Use,int] -/
def R222 : List RV := [(.r p6), (.r p7)]
noncomputable def J222_1 (E : Env) (r0 r1 r2 r8 r9 : DV) (h : H) : Ans :=
  vK (v_lss r9 r8) fun x1 =>
  gdK x1 true (fun kk => kk r2 h) h fun x2 h3 =>
  gdK x1 true (fun kk => kk r0 h3) h3 fun x4 h5 =>
  gdK x1 true (fun kk => kk r9 h5) h5 fun x6 h7 =>
  gdK x1 true (fun kk => vK (v_iaS 4 x4 x6) fun v => kk v h7) h7 fun x8 h9 =>
  gdK x1 true (fun kk => vK (v_ldN 4 h9.get x8) fun v => kk v h9) h9 fun x10 h11 =>
  gdK x1 true (fun kk => kk r1 h11) h11 fun x12 h13 =>
  gdK x1 true (fun kk => wK (c_val E x2 [x10, x12] h13) kk) h13 fun x14 h15 =>
  gdK x1 true (fun kk => vK (v_eql x14 (.int .i64 (.ofNat 0))) fun v => kk v h15) h15 fun x16 h17 =>
  vK (v_pick x1 x16 (.bool false)) fun x18 =>
  some ((.tup [r9, x18]), h17)
def C222_1 : DC := (.seq (.reg [⟨(some p35), none, (.e (.mv (.r p9)))⟩, ⟨(some p36), none, (.e (.mv (.r p9)))⟩, ⟨(some p37), none, (.e (.mv (.r p8)))⟩, ⟨(some p38), none, (.e (.bin .lss (.r p36) (.r p37)))⟩, ⟨(some p39), none, (.e (.mv (.r p38)))⟩, ⟨(some p40), (some (p39, true)), (.e (.mv (.r p2)))⟩, ⟨(some p41), (some (p39, true)), (.e (.mv (.r p0)))⟩, ⟨(some p42), (some (p39, true)), (.e (.mv (.r p9)))⟩, ⟨(some p43), (some (p39, true)), (.e (.iaS 4 (.r p41) (.r p42)))⟩, ⟨(some p44), (some (p39, true)), (.e (.ldN 4 (.r p43)))⟩, ⟨(some p45), (some (p39, true)), (.e (.mv (.r p1)))⟩, ⟨(some p46), (some (p39, true)), (.c (.v (.r p40) [(.r p44), (.r p45)]))⟩, ⟨(some p47), (some (p39, true)), (.e (.bin .eql (.r p46) (.c (.int .i64 (.ofNat 0)))))⟩, ⟨(some p48), none, (.e (.pick (.r p39) (.r p47) (.c (.bool false))))⟩, ⟨(some p6), none, (.e (.mv (.r p35)))⟩, ⟨(some p7), none, (.e (.mv (.r p48)))⟩]) .ret)
noncomputable def B222_2 (E : Env) (r0 r1 r2 r8 : DV) (i2 : DV → DV → H → Ans) (r9 r10 : DV) (h : H) : Ans :=
  vK (v_lss r9 r10) fun x1 =>
  bK x1
  (vK (v_add r9 r10) fun x2 =>
  vK (v_conv .u64 x2) fun x3 =>
  vK (v_shr x3 (.int .u64 (.ofNat 1))) fun x4 =>
  vK (v_conv .i64 x4) fun x5 =>
  vK (v_iaS 4 r0 x5) fun x6 =>
  vK (v_ldN 4 h.get x6) fun x7 =>
  wK (c_val E r2 [x7, r1] h) fun x8 h9 =>
  vK (v_lss x8 (.int .i64 (.ofNat 0))) fun x10 =>
  bK x10
  (vK (v_add x5 (.int .i64 (.ofNat 1))) fun x11 =>
  i2 x11 r10 h9)
  (i2 r9 x5 h9))
  (J222_1 E r0 r1 r2 r8 r9 h)
noncomputable def L222_2 (E : Env) (r0 r1 r2 r8 : DV) (n : Nat) : DV → DV → H → Ans := Nat.rec (motive := fun _ => DV → DV → H → Ans) (fun _ _ _ => none) (fun _ i => B222_2 E r0 r1 r2 r8 i) n
def C222_2 : DC := (.loop (.seq (.seq (.reg [⟨(some p15), none, (.e (.mv (.r p9)))⟩, ⟨(some p16), none, (.e (.mv (.r p10)))⟩, ⟨(some p17), none, (.e (.bin .lss (.r p15) (.r p16)))⟩]) (.cond (.r p17) .skip (.exit 0))) (.block 1 (.seq (.reg [⟨(some p18), none, (.e (.mv (.r p9)))⟩, ⟨(some p19), none, (.e (.mv (.r p10)))⟩, ⟨(some p20), none, (.e (.bin .add (.r p18) (.r p19)))⟩, ⟨(some p21), none, (.e (.conv .u64 (.r p20)))⟩, ⟨(some p22), none, (.e (.bin .shr (.r p21) (.c (.int .u64 (.ofNat 1)))))⟩, ⟨(some p23), none, (.e (.conv .i64 (.r p22)))⟩, ⟨(some p11), none, (.e (.mv (.r p23)))⟩]) (.seq (.reg [⟨(some p24), none, (.e (.mv (.r p2)))⟩, ⟨(some p25), none, (.e (.mv (.r p0)))⟩, ⟨(some p26), none, (.e (.mv (.r p11)))⟩, ⟨(some p27), none, (.e (.iaS 4 (.r p25) (.r p26)))⟩, ⟨(some p28), none, (.e (.ldN 4 (.r p27)))⟩, ⟨(some p29), none, (.e (.mv (.r p1)))⟩, ⟨(some p30), none, (.c (.v (.r p24) [(.r p28), (.r p29)]))⟩, ⟨(some p31), none, (.e (.bin .lss (.r p30) (.c (.int .i64 (.ofNat 0)))))⟩]) (.cond (.r p31) (.reg [⟨(some p32), none, (.e (.mv (.r p11)))⟩, ⟨(some p33), none, (.e (.bin .add (.r p32) (.c (.int .i64 (.ofNat 1)))))⟩, ⟨(some p9), none, (.e (.mv (.r p33)))⟩]) (.reg [⟨(some p34), none, (.e (.mv (.r p11)))⟩, ⟨(some p10), none, (.e (.mv (.r p34)))⟩])))))))
noncomputable def J222_0 (E : Env) (r0 r1 r2 : DV) (h : H) : Ans :=
  vK (v_lenL r0) fun x1 =>
  L222_2 E r0 r1 r2 x1 FUEL (.int .i64 (.ofNat 0)) x1 h
def C222_0 : DC := (.seq (.reg [⟨(some p6), none, (.e (.mv (.c (.int .i64 (.ofNat 0)))))⟩, ⟨(some p7), none, (.e (.mv (.c (.bool false))))⟩]) (.seq (.reg [⟨(some p12), none, (.e (.mv (.r p0)))⟩, ⟨(some p13), none, (.e (.lenL (.r p12)))⟩, ⟨(some p8), none, (.e (.mv (.r p13)))⟩]) (.seq (.reg [⟨(some p14), none, (.e (.mv (.r p8)))⟩, ⟨(some p9), none, (.e (.mv (.c (.int .i64 (.ofNat 0)))))⟩, ⟨(some p10), none, (.e (.mv (.r p14)))⟩]) (.seq (.block 0 C222_2) C222_1))))
theorem I222_1 (E : Env) : Is E C222_1 (retK3 R222) (fun σ h => J222_1 E (σ p0) (σ p1) (σ p2) (σ p8) (σ p9) h) :=
  fun σ h => by kernel_rfl
noncomputable abbrev K222_3 (E : Env) : KT2 (DV × H) := (thenK3 (fun σ h => J222_1 E (σ p0) (σ p1) (σ p2) (σ p8) (σ p9) h) (retK3 R222))
theorem I222_2 (E : Env) : Is E C222_2 (blockK3 0 (K222_3 E)) (fun σ h => L222_2 E (σ p0) (σ p1) (σ p2) (σ p8) FUEL (σ p9) (σ p10) h) :=
  Is.loop (fun n2 σ h => L222_2 E (σ p0) (σ p1) (σ p2) (σ p8) n2 (σ p9) (σ p10) h) (by kernel_rfl) fun n2 => Is.as (Is.leaf _) fun σ h => by kernel_rfl
theorem I222_0 (E : Env) : Is E C222_0 (retK3 R222) (fun σ h => J222_0 E (σ p0) (σ p1) (σ p2) h) :=
  Is.as (Is.seq (Is.seq (Is.seq (Is.seq (I222_1 E) (Is.block (I222_2 E))) (Is.leaf _)) (Is.leaf _)) (Is.leaf _)) fun σ h => by kernel_rfl
def D222 : DF := ⟨3, 49, C222_0, R222⟩
noncomputable def S222 (E : Env) : Fun := fun args h => aS args fun r0 args => aS args fun r1 args => aS args fun r2 args => a0 args (J222_0 E r0 r1 r2 h)
theorem S222_eq (E : Env) (args : List DV) (h : H) : runFn E D222 args h = S222 E args h :=
  Is.fn3 (d := D222) (I222_0 E) rfl (fun r0 r1 r2 h => J222_0 E r0 r1 r2 h) (fun r0 r1 r2 h => by kernel_rfl) args h
/- (*hurdle/usage.Usage).find$1 -/
def R223 : List RV := [(.r p4)]
noncomputable def J223_0 (E : Env) (r0 r1 : DV) (h : H) : Ans :=
  n_box r0 h fun x1 h2 =>
  vK (v_fa 0 x1) fun x3 =>
  vK (v_ld h2.get x3) fun x4 =>
  vK (v_lss x4 r1) fun x5 =>
  bK x5
  (some ((.int .i64 (.negSucc 0)), h2))
  (vK (v_fa 0 x1) fun x6 =>
  vK (v_ld h2.get x6) fun x7 =>
  vK (v_gtr x7 r1) fun x8 =>
  bK x8
  (some ((.int .i64 (.ofNat 1)), h2))
  (some ((.int .i64 (.ofNat 0)), h2)))
def C223_0 : DC := (.seq (.reg [⟨(some p2), none, (.e (.box (.r p0)))⟩, ⟨(some p4), none, (.e (.mv (.c (.int .i64 (.ofNat 0)))))⟩]) (.seq (.block 0 (.seq (.reg [⟨(some p6), none, (.e (.fa 0 (.r p2)))⟩, ⟨(some p7), none, (.e (.ld (.r p6)))⟩, ⟨(some p8), none, (.e (.mv (.r p1)))⟩, ⟨(some p9), none, (.e (.bin .lss (.r p7) (.r p8)))⟩, ⟨(some p5), none, (.e (.mv (.r p9)))⟩]) (.cond (.r p5) (.seq (.reg [⟨(some p4), none, (.e (.mv (.c (.int .i64 (.negSucc 0)))))⟩]) .ret) (.seq (.reg [⟨(some p11), none, (.e (.fa 0 (.r p2)))⟩, ⟨(some p12), none, (.e (.ld (.r p11)))⟩, ⟨(some p13), none, (.e (.mv (.r p1)))⟩, ⟨(some p14), none, (.e (.bin .gtr (.r p12) (.r p13)))⟩, ⟨(some p10), none, (.e (.mv (.r p14)))⟩]) (.cond (.r p10) (.seq (.reg [⟨(some p4), none, (.e (.mv (.c (.int .i64 (.ofNat 1)))))⟩]) .ret) .skip))))) (.seq (.reg [⟨(some p4), none, (.e (.mv (.c (.int .i64 (.ofNat 0)))))⟩]) .ret)))
theorem I223_0 (E : Env) : Is E C223_0 (retK3 R223) (fun σ h => J223_0 E (σ p0) (σ p1) h) :=
  fun σ h => by kernel_rfl
def D223 : DF := ⟨2, 15, C223_0, R223⟩
noncomputable def S223 (E : Env) : Fun := fun args h => aS args fun r0 args => aS args fun r1 args => a0 args (J223_0 E r0 r1 h)
theorem S223_eq (E : Env) (args : List DV) (h : H) : runFn E D223 args h = S223 E args h :=
  Is.fn2 (d := D223) (I223_0 E) rfl (fun r0 r1 h => J223_0 E r0 r1 h) (fun r0 r1 h => by kernel_rfl) args h
/- hurdle/sums.eight -/
def R229 : List RV := [(.r p2)]
noncomputable def B229_1 (E : Env) (i1 : DV → DV → H → Ans) (r0 r3 : DV) (h : H) : Ans :=
  vK (v_shr r0 (.int .u64 (.ofNat 1))) fun x1 =>
  vK (v_and r0 (.int .u32 (.ofNat 1))) fun x2 =>
  vK (v_neg x2) fun x3 =>
  vK (v_and (.int .u32 (.ofNat 3988292384)) x3) fun x4 =>
  vK (v_xor x1 x4) fun x5 =>
  vK (v_sub r3 (.int .i64 (.ofNat 1))) fun x6 =>
  vK (v_gtr x6 (.int .i64 (.ofNat 0))) fun x7 =>
  bK x7
  (i1 x5 x6 h)
  (some (x5, h))
noncomputable def L229_1 (E : Env) (n : Nat) : DV → DV → H → Ans := Nat.rec (motive := fun _ => DV → DV → H → Ans) (fun _ _ _ => none) (fun _ i => B229_1 E i) n
noncomputable def J229_1 (E : Env) (r0 : DV) (h : H) : Ans :=
  vK (v_shr r0 (.int .u64 (.ofNat 1))) fun x1 =>
  vK (v_and r0 (.int .u32 (.ofNat 1))) fun x2 =>
  vK (v_neg x2) fun x3 =>
  vK (v_and (.int .u32 (.ofNat 3988292384)) x3) fun x4 =>
  vK (v_xor x1 x4) fun x5 =>
  vK (v_sub (.int .i64 (.ofNat 8)) (.int .i64 (.ofNat 1))) fun x6 =>
  vK (v_gtr x6 (.int .i64 (.ofNat 0))) fun x7 =>
  bK x7
  (L229_1 E FUEL x5 x6 h)
  (some (x5, h))
def C229_1 : DC := (.jump 4294967296 (.seq (.reg [⟨(some p3), none, (.e (.mv (.c (.int .i64 (.ofNat 8)))))⟩]) (.seq .skip (.seq (.reg [⟨(some p4), none, (.e (.mv (.r p0)))⟩, ⟨(some p5), none, (.e (.bin .shr (.r p4) (.c (.int .u64 (.ofNat 1)))))⟩, ⟨(some p6), none, (.e (.mv (.r p0)))⟩, ⟨(some p7), none, (.e (.bin .and (.r p6) (.c (.int .u32 (.ofNat 1)))))⟩, ⟨(some p8), none, (.e (.neg (.r p7)))⟩, ⟨(some p9), none, (.e (.bin .and (.c (.int .u32 (.ofNat 3988292384))) (.r p8)))⟩, ⟨(some p10), none, (.e (.bin .xor (.r p5) (.r p9)))⟩, ⟨(some p0), none, (.e (.mv (.r p10)))⟩]) (.seq (.seq (.reg [⟨(some p11), none, (.e (.mv (.r p3)))⟩, ⟨(some p12), none, (.e (.bin .sub (.r p11) (.c (.int .i64 (.ofNat 1)))))⟩, ⟨(some p3), none, (.e (.mv (.r p12)))⟩]) (.seq (.reg [⟨(some p13), none, (.e (.mv (.r p3)))⟩, ⟨(some p14), none, (.e (.bin .gtr (.r p13) (.c (.int .i64 (.ofNat 0)))))⟩]) (.cond (.r p14) (.exit 4294967296) .skip))) (.seq (.reg [⟨(some p15), none, (.e (.mv (.r p0)))⟩, ⟨(some p2), none, (.e (.mv (.r p15)))⟩]) .ret))))) (.seq .skip (.seq (.reg [⟨(some p4), none, (.e (.mv (.r p0)))⟩, ⟨(some p5), none, (.e (.bin .shr (.r p4) (.c (.int .u64 (.ofNat 1)))))⟩, ⟨(some p6), none, (.e (.mv (.r p0)))⟩, ⟨(some p7), none, (.e (.bin .and (.r p6) (.c (.int .u32 (.ofNat 1)))))⟩, ⟨(some p8), none, (.e (.neg (.r p7)))⟩, ⟨(some p9), none, (.e (.bin .and (.c (.int .u32 (.ofNat 3988292384))) (.r p8)))⟩, ⟨(some p10), none, (.e (.bin .xor (.r p5) (.r p9)))⟩, ⟨(some p0), none, (.e (.mv (.r p10)))⟩]) (.seq (.seq (.reg [⟨(some p11), none, (.e (.mv (.r p3)))⟩, ⟨(some p12), none, (.e (.bin .sub (.r p11) (.c (.int .i64 (.ofNat 1)))))⟩, ⟨(some p3), none, (.e (.mv (.r p12)))⟩]) (.seq (.reg [⟨(some p13), none, (.e (.mv (.r p3)))⟩, ⟨(some p14), none, (.e (.bin .gtr (.r p13) (.c (.int .i64 (.ofNat 0)))))⟩]) (.cond (.r p14) (.exit 4294967296) .skip))) (.seq (.reg [⟨(some p15), none, (.e (.mv (.r p0)))⟩, ⟨(some p2), none, (.e (.mv (.r p15)))⟩]) .ret)))))
noncomputable def J229_0 (E : Env) (r0 : DV) (h : H) : Ans :=
  J229_1 E r0 h
def C229_0 : DC := (.seq (.reg [⟨(some p2), none, (.e (.mv (.c (.int .u32 (.ofNat 0)))))⟩]) C229_1)
theorem I229_1 (E : Env) : Is E C229_1 (retK3 R229) (fun σ h => J229_1 E (σ p0) h) :=
  Is.as (Is.jump (fun n1 σ h => L229_1 E n1 (σ p0) (σ p3) h) (by kernel_rfl) (fun n1 => Is.as (Is.leaf _) fun σ h => by kernel_rfl) (Is.leaf _)) fun σ h => by kernel_rfl
theorem I229_0 (E : Env) : Is E C229_0 (retK3 R229) (fun σ h => J229_0 E (σ p0) h) :=
  Is.as (Is.seq (I229_1 E) (Is.leaf _)) fun σ h => by kernel_rfl
def D229 : DF := ⟨1, 16, C229_0, R229⟩
noncomputable def S229 (E : Env) : Fun := fun args h => aS args fun r0 args => a0 args (J229_0 E r0 h)
theorem S229_eq (E : Env) (args : List DV) (h : H) : runFn E D229 args h = S229 E args h :=
  Is.fn1 (d := D229) (I229_0 E) rfl (fun r0 h => J229_0 E r0 h) (fun r0 h => by kernel_rfl) args h
/- errors.is -/
def R236 : List RV := [(.r p6)]
noncomputable def J236_2 (E : Env) (h : H) : Ans :=
  some ((.bool false), h)
def C236_2 : DC := (.seq (.reg [⟨(some p6), none, (.e (.mv (.c (.bool false))))⟩]) .ret)
noncomputable def B236_3 (E : Env) (r1 r2 r43 r44 : DV) (i3 : DV → H → Ans) (r45 : DV) (h : H) : Ans :=
  vK (v_lss r45 r44) fun x1 =>
  bK x1
  (vK (v_iaS 1 r43 r45) fun x2 =>
  vK (v_ld h.get x2) fun x3 =>
  wK (callK E 236 [x3, r1, r2] h) fun x4 h5 =>
  bK x4
  (some ((.bool true), h5))
  (vK (v_add r45 (.int .i64 (.ofNat 1))) fun x6 =>
  i3 x6 h5))
  (J236_2 E h)
noncomputable def L236_3 (E : Env) (r1 r2 r43 r44 : DV) (n : Nat) : DV → H → Ans := Nat.rec (motive := fun _ => DV → H → Ans) (fun _ _ => none) (fun _ i => B236_3 E r1 r2 r43 r44 i) n
def C236_3 : DC := (.loop (.seq (.reg [⟨(some p46), none, (.e (.bin .lss (.r p45) (.r p44)))⟩]) (.seq (.cond (.r p46) .skip (.exit 3)) (.seq (.block 4 (.seq (.reg [⟨(some p47), none, (.e (.iaS 1 (.r p43) (.r p45)))⟩, ⟨(some p48), none, (.e (.ld (.r p47)))⟩, ⟨(some p12), none, (.e (.mv (.r p48)))⟩]) (.seq (.reg [⟨(some p49), none, (.e (.mv (.r p12)))⟩, ⟨(some p50), none, (.e (.mv (.r p1)))⟩, ⟨(some p51), none, (.e (.mv (.r p2)))⟩, ⟨(some p52), none, (.c (.f 236 [(.r p49), (.r p50), (.r p51)]))⟩]) (.cond (.r p52) (.seq (.reg [⟨(some p6), none, (.e (.mv (.c (.bool true))))⟩]) .ret) .skip)))) (.reg [⟨(some p53), none, (.e (.bin .add (.r p45) (.c (.int .i64 (.ofNat 1)))))⟩, ⟨(some p45), none, (.e (.mv (.r p53)))⟩])))))
noncomputable def B236_1 (E : Env) (r1 r2 : DV) (i1 : DV → H → Ans) (r0 : DV) (h : H) : Ans :=
  gdK r2 true (fun kk => kk r0 h) h fun x1 h2 =>
  gdK r2 true (fun kk => kk r1 h2) h2 fun x3 h4 =>
  gdK r2 true (fun kk => vK (v_eqv .nilD false h4.get x1 x3) fun v => kk v h4) h4 fun x5 h6 =>
  vK (v_pick r2 x5 (.bool false)) fun x7 =>
  bK x7
  (some ((.bool true), h6))
  (none)
noncomputable def L236_1 (E : Env) (r1 r2 : DV) (n : Nat) : DV → H → Ans := Nat.rec (motive := fun _ => DV → H → Ans) (fun _ _ => none) (fun _ i => B236_1 E r1 r2 i) n
def C236_1 : DC := (.loop (.block 1 (.seq (.seq (.reg [⟨(some p14), none, (.e (.mv (.r p2)))⟩, ⟨(some p15), none, (.e (.mv (.r p14)))⟩, ⟨(some p16), (some (p15, true)), (.e (.mv (.r p0)))⟩, ⟨(some p17), (some (p15, true)), (.e (.mv (.r p1)))⟩, ⟨(some p18), (some (p15, true)), (.e (.eqv .nilD false (.r p16) (.r p17)))⟩, ⟨(some p19), none, (.e (.pick (.r p15) (.r p18) (.c (.bool false))))⟩]) (.cond (.r p19) (.seq (.reg [⟨(some p6), none, (.e (.mv (.c (.bool true))))⟩]) .ret) .skip)) (.seq (.seq (.reg [⟨(some p21), none, (.e (.mv (.r p0)))⟩, ⟨(some p22), none, (.e .bad)⟩, ⟨(some p20), none, (.e (.mv (.r p22)))⟩, ⟨(some p23), none, (.e (.ext 0 (.r p20)))⟩, ⟨(some p24), none, (.e (.ext 1 (.r p20)))⟩, ⟨(some p7), none, (.e (.mv (.r p23)))⟩, ⟨(some p8), none, (.e (.mv (.r p24)))⟩]) (.seq (.reg [⟨(some p25), none, (.e (.mv (.r p8)))⟩, ⟨(some p26), none, (.e (.mv (.r p25)))⟩, ⟨(some p27), (some (p26, true)), (.e (.mv (.r p7)))⟩, ⟨(some p28), (some (p26, true)), (.e (.mv (.r p1)))⟩, ⟨(some p29), (some (p26, true)), (.c (.m [(297, 268)] (.r p27) [(.r p28)]))⟩, ⟨(some p30), none, (.e (.pick (.r p26) (.r p29) (.c (.bool false))))⟩]) (.cond (.r p30) (.seq (.reg [⟨(some p6), none, (.e (.mv (.c (.bool true))))⟩]) .ret) .skip))) (.seq (.reg [⟨(some p31), none, (.e (.mv (.r p0)))⟩]) (.block 2 (.seq (.reg [⟨(some p32), none, (.e .bad)⟩, ⟨(some p33), none, (.e (.ext 1 (.r p32)))⟩, ⟨(some p34), none, (.e (.ext 0 (.r p32)))⟩]) (.cond (.r p33) (.seq (.reg [⟨(some p9), none, (.e (.mv (.r p34)))⟩]) (.seq (.reg [⟨(some p35), none, (.e (.mv (.r p9)))⟩, ⟨(some p36), none, (.c (.m [] (.r p35) []))⟩, ⟨(some p0), none, (.e (.mv (.r p36)))⟩]) (.seq (.reg [⟨(some p37), none, (.e (.mv (.r p0)))⟩, ⟨(some p38), none, (.e (.eqv .nilI false (.r p37) (.c .nili)))⟩]) (.cond (.r p38) (.seq (.reg [⟨(some p6), none, (.e (.mv (.c (.bool false))))⟩]) .ret) .skip)))) (.seq (.reg [⟨(some p39), none, (.e .bad)⟩, ⟨(some p40), none, (.e (.ext 1 (.r p39)))⟩, ⟨(some p41), none, (.e (.ext 0 (.r p39)))⟩]) (.cond (.r p40) (.seq (.reg [⟨(some p10), none, (.e (.mv (.r p41)))⟩]) (.seq (.seq (.reg [⟨(some p42), none, (.e (.mv (.r p10)))⟩, ⟨(some p43), none, (.c (.m [] (.r p42) []))⟩, ⟨(some p44), none, (.e (.lenL (.r p43)))⟩, ⟨(some p45), none, (.e (.mv (.c (.int .i64 (.ofNat 0)))))⟩]) (.block 3 C236_3)) C236_2)) (.seq (.reg [⟨(some p13), none, (.e (.mv (.r p31)))⟩]) (.seq (.reg [⟨(some p6), none, (.e (.mv (.c (.bool false))))⟩]) .ret))))))))))))
noncomputable def J236_0 (E : Env) (r0 r1 r2 : DV) (h : H) : Ans :=
  L236_1 E r1 r2 FUEL r0 h
def C236_0 : DC := (.seq (.reg [⟨(some p6), none, (.e (.mv (.c (.bool false))))⟩]) (.block 0 C236_1))
noncomputable abbrev K236_4 (E : Env) (n1 : Nat) : KT2 (DV × H) := (thenK3 (fun σ h => (L236_1 E (σ p1) (σ p2) n1) (σ p0) h) (blockK3 0 (retK3 R236)))
theorem I236_2 (E : Env) (n1 : Nat) : Is E C236_2 (blockK3 2 (blockK3 1 (K236_4 E n1))) (fun σ h => J236_2 E h) :=
  fun σ h => by kernel_rfl
noncomputable abbrev K236_5 (E : Env) (n1 : Nat) : KT2 (DV × H) := (thenK3 (fun σ h => J236_2 E h) (blockK3 2 (blockK3 1 (K236_4 E n1))))
theorem I236_3 (E : Env) (n1 : Nat) : Is E C236_3 (blockK3 3 (K236_5 E n1)) (fun σ h => L236_3 E (σ p1) (σ p2) (σ p43) (σ p44) FUEL (σ p45) h) :=
  Is.loop (fun n3 σ h => L236_3 E (σ p1) (σ p2) (σ p43) (σ p44) n3 (σ p45) h) (by kernel_rfl) fun n3 => Is.as (Is.leaf _) fun σ h => by kernel_rfl
theorem I236_1 (E : Env) : Is E C236_1 (blockK3 0 (retK3 R236)) (fun σ h => L236_1 E (σ p1) (σ p2) FUEL (σ p0) h) :=
  Is.loop (fun n1 σ h => L236_1 E (σ p1) (σ p2) n1 (σ p0) h) (by kernel_rfl) fun n1 => Is.as (Is.block (Is.seq (Is.seq (Is.seq (Is.block (Is.seq (Is.cond (Is.leaf _) (Is.seq (Is.cond (Is.seq (Is.seq (I236_2 E n1) (Is.seq (Is.block (I236_3 E n1)) (Is.leaf _))) (Is.leaf _)) (Is.leaf _)) (Is.leaf _))) (Is.leaf _))) (Is.leaf _)) (Is.leaf _)) (Is.leaf _))) fun σ h => by kernel_rfl
theorem I236_0 (E : Env) : Is E C236_0 (retK3 R236) (fun σ h => J236_0 E (σ p0) (σ p1) (σ p2) h) :=
  Is.as (Is.seq (Is.block (I236_1 E)) (Is.leaf _)) fun σ h => by kernel_rfl
def D236 : DF := ⟨3, 54, C236_0, R236⟩
noncomputable def S236 (E : Env) : Fun := fun args h => aS args fun r0 args => aS args fun r1 args => aS args fun r2 args => a0 args (J236_0 E r0 r1 r2 h)
theorem S236_eq (E : Env) (args : List DV) (h : H) : runFn E D236 args h = S236 E args h :=
  Is.fn3 (d := D236) (I236_0 E) rfl (fun r0 r1 r2 h => J236_0 E r0 r1 r2 h) (fun r0 r1 r2 h => by kernel_rfl) args h
/- slices.rotateRight[hurdle/api.Use] -/
def R238 : List RV := []
noncomputable def J238_0 (E : Env) (r0 r1 : DV) (h : H) : Ans :=
  vK (v_lenL r0) fun x1 =>
  vK (v_sub x1 r1) fun x2 =>
  wK (callK E 242 [r0, x2] h) fun x3 h4 =>
  some ((.tup []), h4)
def C238_0 : DC := (.reg [⟨(some p4), none, (.e (.mv (.r p0)))⟩, ⟨(some p5), none, (.e (.mv (.r p0)))⟩, ⟨(some p6), none, (.e (.lenL (.r p5)))⟩, ⟨(some p7), none, (.e (.mv (.r p1)))⟩, ⟨(some p8), none, (.e (.bin .sub (.r p6) (.r p7)))⟩, ⟨(some p9), none, (.c (.f 242 [(.r p4), (.r p8)]))⟩])
theorem I238_0 (E : Env) : Is E C238_0 (retK3 R238) (fun σ h => J238_0 E (σ p0) (σ p1) h) :=
  fun σ h => by kernel_rfl
def D238 : DF := ⟨2, 10, C238_0, R238⟩
noncomputable def S238 (E : Env) : Fun := fun args h => aS args fun r0 args => aS args fun r1 args => a0 args (J238_0 E r0 r1 h)
theorem S238_eq (E : Env) (args : List DV) (h : H) : runFn E D238 args h = S238 E args h :=
  Is.fn2 (d := D238) (I238_0 E) rfl (fun r0 r1 h => J238_0 E r0 r1 h) (fun r0 r1 h => by kernel_rfl) args h
/- slices.rotateLeft[hurdle/api.Use] -/
def R242 : List RV := []
noncomputable def J242_0 (E : Env) (r0 r1 : DV) (h : H) : Ans :=
  vK (v_slL 4 r0 none (some r1)) fun x1 =>
  wK (callK E 243 [x1] h) fun x2 h3 =>
  vK (v_slL 4 r0 (some r1) none) fun x4 =>
  wK (callK E 243 [x4] h3) fun x5 h6 =>
  wK (callK E 243 [r0] h6) fun x7 h8 =>
  some ((.tup []), h8)
def C242_0 : DC := (.seq (.reg [⟨(some p4), none, (.e (.mv (.r p0)))⟩, ⟨(some p5), none, (.e (.mv (.r p1)))⟩, ⟨(some p6), none, (.e (.slL 4 (.r p4) none (some (.r p5))))⟩, ⟨(some p7), none, (.c (.f 243 [(.r p6)]))⟩]) (.seq (.reg [⟨(some p8), none, (.e (.mv (.r p0)))⟩, ⟨(some p9), none, (.e (.mv (.r p1)))⟩, ⟨(some p10), none, (.e (.slL 4 (.r p8) (some (.r p9)) none))⟩, ⟨(some p11), none, (.c (.f 243 [(.r p10)]))⟩]) (.reg [⟨(some p12), none, (.e (.mv (.r p0)))⟩, ⟨(some p13), none, (.c (.f 243 [(.r p12)]))⟩])))
theorem I242_0 (E : Env) : Is E C242_0 (retK3 R242) (fun σ h => J242_0 E (σ p0) (σ p1) h) :=
  fun σ h => by kernel_rfl
def D242 : DF := ⟨2, 14, C242_0, R242⟩
noncomputable def S242 (E : Env) : Fun := fun args h => aS args fun r0 args => aS args fun r1 args => a0 args (J242_0 E r0 r1 h)
theorem S242_eq (E : Env) (args : List DV) (h : H) : runFn E D242 args h = S242 E args h :=
  Is.fn2 (d := D242) (I242_0 E) rfl (fun r0 r1 h => J242_0 E r0 r1 h) (fun r0 r1 h => by kernel_rfl) args h
/- slices.Reverse[[]hurdle/api.Use,hurdle/api.Use] -/
def R243 : List RV := []
noncomputable def B243_1 (E : Env) (r0 : DV) (i1 : DV → DV → H → Ans) (r2 r3 : DV) (h : H) : Ans :=
  vK (v_lss r2 r3) fun x1 =>
  bK x1
  (vK (v_iaS 4 r0 r3) fun x2 =>
  vK (v_ldN 4 h.get x2) fun x3 =>
  vK (v_iaS 4 r0 r2) fun x4 =>
  vK (v_ldN 4 h.get x4) fun x5 =>
  vK (v_iaS 4 r0 r2) fun x6 =>
  wK (dStF 4 x6 x3 h) fun x7 h8 =>
  vK (v_iaS 4 r0 r3) fun x9 =>
  wK (dStF 4 x9 x5 h8) fun x10 h11 =>
  vK (v_add r2 (.int .i64 (.ofNat 1))) fun x12 =>
  vK (v_sub r3 (.int .i64 (.ofNat 1))) fun x13 =>
  i1 x12 x13 h11)
  (some ((.tup []), h))
noncomputable def L243_1 (E : Env) (r0 : DV) (n : Nat) : DV → DV → H → Ans := Nat.rec (motive := fun _ => DV → DV → H → Ans) (fun _ _ _ => none) (fun _ i => B243_1 E r0 i) n
def C243_1 : DC := (.loop (.seq (.seq (.reg [⟨(some p7), none, (.e (.mv (.r p2)))⟩, ⟨(some p8), none, (.e (.mv (.r p3)))⟩, ⟨(some p9), none, (.e (.bin .lss (.r p7) (.r p8)))⟩]) (.cond (.r p9) .skip (.exit 0))) (.seq (.block 1 (.drg [⟨0, ⟨(some p14), none, (.e (.mv (.r p0)))⟩, [], false⟩, ⟨1, ⟨(some p15), none, (.e (.mv (.r p2)))⟩, [], false⟩, ⟨2, ⟨(some p16), none, (.e (.mv (.r p0)))⟩, [], false⟩, ⟨3, ⟨(some p17), none, (.e (.mv (.r p3)))⟩, [], false⟩, ⟨4, ⟨(some p18), none, (.e (.mv (.r p0)))⟩, [], false⟩, ⟨5, ⟨(some p19), none, (.e (.mv (.r p3)))⟩, [], false⟩, ⟨6, ⟨(some p20), none, (.e (.iaS 4 (.r p18) (.r p19)))⟩, [], false⟩, ⟨7, ⟨(some p21), none, (.e (.ldN 4 (.r p20)))⟩, [], false⟩, ⟨8, ⟨(some p22), none, (.e (.mv (.r p0)))⟩, [], false⟩, ⟨9, ⟨(some p23), none, (.e (.mv (.r p2)))⟩, [], false⟩, ⟨10, ⟨(some p24), none, (.e (.iaS 4 (.r p22) (.r p23)))⟩, [], false⟩, ⟨11, ⟨(some p25), none, (.e (.ldN 4 (.r p24)))⟩, [], false⟩, ⟨12, ⟨(some p26), none, (.e (.iaS 4 (.r p14) (.r p15)))⟩, [], false⟩, ⟨13, ⟨none, none, (.w (.st 4 (.r p26) (.r p21)))⟩, [], false⟩, ⟨14, ⟨(some p27), none, (.e (.iaS 4 (.r p16) (.r p17)))⟩, [], false⟩, ⟨15, ⟨none, none, (.w (.st 4 (.r p27) (.r p25)))⟩, [], false⟩])) (.reg [⟨(some p10), none, (.e (.mv (.r p2)))⟩, ⟨(some p11), none, (.e (.bin .add (.r p10) (.c (.int .i64 (.ofNat 1)))))⟩, ⟨(some p12), none, (.e (.mv (.r p3)))⟩, ⟨(some p13), none, (.e (.bin .sub (.r p12) (.c (.int .i64 (.ofNat 1)))))⟩, ⟨(some p2), none, (.e (.mv (.r p11)))⟩, ⟨(some p3), none, (.e (.mv (.r p13)))⟩]))))
noncomputable def J243_0 (E : Env) (r0 : DV) (h : H) : Ans :=
  vK (v_lenL r0) fun x1 =>
  vK (v_sub x1 (.int .i64 (.ofNat 1))) fun x2 =>
  L243_1 E r0 FUEL (.int .i64 (.ofNat 0)) x2 h
def C243_0 : DC := (.seq (.reg [⟨(some p4), none, (.e (.mv (.r p0)))⟩, ⟨(some p5), none, (.e (.lenL (.r p4)))⟩, ⟨(some p6), none, (.e (.bin .sub (.r p5) (.c (.int .i64 (.ofNat 1)))))⟩, ⟨(some p2), none, (.e (.mv (.c (.int .i64 (.ofNat 0)))))⟩, ⟨(some p3), none, (.e (.mv (.r p6)))⟩]) (.block 0 C243_1))
theorem I243_1 (E : Env) : Is E C243_1 (blockK3 0 (retK3 R243)) (fun σ h => L243_1 E (σ p0) FUEL (σ p2) (σ p3) h) :=
  Is.loop (fun n1 σ h => L243_1 E (σ p0) n1 (σ p2) (σ p3) h) (by kernel_rfl) fun n1 => Is.as (Is.leaf _) fun σ h => by kernel_rfl
theorem I243_0 (E : Env) : Is E C243_0 (retK3 R243) (fun σ h => J243_0 E (σ p0) h) :=
  Is.as (Is.seq (Is.block (I243_1 E)) (Is.leaf _)) fun σ h => by kernel_rfl
def D243 : DF := ⟨1, 28, C243_0, R243⟩
noncomputable def S243 (E : Env) : Fun := fun args h => aS args fun r0 args => a0 args (J243_0 E r0 h)
theorem S243_eq (E : Env) (args : List DV) (h : H) : runFn E D243 args h = S243 E args h :=
  Is.fn1 (d := D243) (I243_0 E) rfl (fun r0 h => J243_0 E r0 h) (fun r0 h => by kernel_rfl) args h
noncomputable def fs2 : List FD := [⟨148, D148, S148⟩, ⟨150, D150, S150⟩, ⟨151, D151, S151⟩, ⟨152, D152, S152⟩, ⟨153, D153, S153⟩, ⟨154, D154, S154⟩, ⟨156, D156, S156⟩, ⟨157, D157, S157⟩, ⟨158, D158, S158⟩, ⟨159, D159, S159⟩, ⟨160, D160, S160⟩, ⟨166, D166, S166⟩, ⟨167, D167, S167⟩, ⟨168, D168, S168⟩, ⟨169, D169, S169⟩, ⟨170, D170, S170⟩, ⟨174, D174, S174⟩, ⟨175, D175, S175⟩, ⟨176, D176, S176⟩, ⟨177, D177, S177⟩, ⟨178, D178, S178⟩, ⟨179, D179, S179⟩, ⟨180, D180, S180⟩, ⟨181, D181, S181⟩, ⟨182, D182, S182⟩, ⟨183, D183, S183⟩, ⟨187, D187, S187⟩, ⟨188, D188, S188⟩, ⟨189, D189, S189⟩, ⟨190, D190, S190⟩, ⟨191, D191, S191⟩, ⟨192, D192, S192⟩, ⟨193, D193, S193⟩, ⟨198, D198, S198⟩, ⟨205, D205, S205⟩, ⟨206, D206, S206⟩, ⟨217, D217, S217⟩, ⟨218, D218, S218⟩, ⟨219, D219, S219⟩, ⟨220, D220, S220⟩, ⟨221, D221, S221⟩, ⟨222, D222, S222⟩, ⟨223, D223, S223⟩, ⟨229, D229, S229⟩, ⟨236, D236, S236⟩, ⟨238, D238, S238⟩, ⟨242, D242, S242⟩, ⟨243, D243, S243⟩]
theorem fs2_eq : AllEq fs2 := ⟨S148_eq, ⟨S150_eq, ⟨S151_eq, ⟨S152_eq, ⟨S153_eq, ⟨S154_eq, ⟨S156_eq, ⟨S157_eq, ⟨S158_eq, ⟨S159_eq, ⟨S160_eq, ⟨S166_eq, ⟨S167_eq, ⟨S168_eq, ⟨S169_eq, ⟨S170_eq, ⟨S174_eq, ⟨S175_eq, ⟨S176_eq, ⟨S177_eq, ⟨S178_eq, ⟨S179_eq, ⟨S180_eq, ⟨S181_eq, ⟨S182_eq, ⟨S183_eq, ⟨S187_eq, ⟨S188_eq, ⟨S189_eq, ⟨S190_eq, ⟨S191_eq, ⟨S192_eq, ⟨S193_eq, ⟨S198_eq, ⟨S205_eq, ⟨S206_eq, ⟨S217_eq, ⟨S218_eq, ⟨S219_eq, ⟨S220_eq, ⟨S221_eq, ⟨S222_eq, ⟨S223_eq, ⟨S229_eq, ⟨S236_eq, ⟨S238_eq, ⟨S242_eq, ⟨S243_eq, trivial⟩⟩⟩⟩⟩⟩⟩⟩⟩⟩⟩⟩⟩⟩⟩⟩⟩⟩⟩⟩⟩⟩⟩⟩⟩⟩⟩⟩⟩⟩⟩⟩⟩⟩⟩⟩⟩⟩⟩⟩⟩⟩⟩⟩⟩⟩⟩⟩
end Go.Proofs.YtjofbahcdfjklaaGreat

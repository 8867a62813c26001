/- More of the program's functions. No condition. -/
import Derived.Test.YtjofbahcdfjklaaGreatC1
set_option linter.unusedVariables false
namespace Go.Proofs.YtjofbahcdfjklaaGreat
open Go.DI
/- (*hurdle/sector.Device).Write -/
def R179 : List RV := [(.r p6)]
noncomputable def J179_1 (E : Env) (h : H) : Ans :=
  some ((.int .i64 (.ofNat 0)), h)
def C179_1 : DC := (.seq (.reg [⟨(some p6), none, (.e (.mv (.c (.int .i64 (.ofNat 0)))))⟩]) .ret)
noncomputable def J179_3 (E : Env) (i2 : DV → H → Ans) (r28 : DV) (h : H) : Ans :=
  vK (v_add r28 (.int .i64 (.ofNat 1))) fun x1 =>
  i2 x1 h
def C179_3 : DC := (.reg [⟨(some p70), none, (.e (.bin .add (.r p28) (.c (.int .i64 (.ofNat 1)))))⟩, ⟨(some p28), none, (.e (.mv (.r p70)))⟩])
noncomputable def J179_4 (E : Env) (i2 : DV → H → Ans) (r0 r2 r9 r10 r28 : DV) (h : H) : Ans :=
  vK (v_nilchk r0) fun x1 =>
  vK (v_fa 0 x1) fun x2 =>
  vK (v_ld h.get x2) fun x3 =>
  vK (v_mul r9 (.int .i64 (.ofNat 64))) fun x4 =>
  vK (v_add r9 (.int .i64 (.ofNat 1))) fun x5 =>
  vK (v_mul x5 (.int .i64 (.ofNat 64))) fun x6 =>
  vK (v_slS r2 (some x4) (some x6)) fun x7 =>
  vK (v_iaS 1 x3 r10) fun x8 =>
  wK (dStF 1 x8 x7 h) fun x9 h10 =>
  J179_3 E i2 r28 h10
def C179_4 : DC := (.drg [⟨0, ⟨(some p57), none, (.e (.mv (.r p0)))⟩, [], false⟩, ⟨1, ⟨(some p58), none, (.e (.nilchk (.r p57)))⟩, [], false⟩, ⟨2, ⟨(some p59), none, (.e (.fa 0 (.r p58)))⟩, [], false⟩, ⟨3, ⟨(some p60), none, (.e (.ld (.r p59)))⟩, [], false⟩, ⟨4, ⟨(some p61), none, (.e (.mv (.r p10)))⟩, [], false⟩, ⟨5, ⟨(some p62), none, (.e (.mv (.r p2)))⟩, [], false⟩, ⟨6, ⟨(some p63), none, (.e (.mv (.r p9)))⟩, [], false⟩, ⟨7, ⟨(some p64), none, (.e (.bin .mul (.r p63) (.c (.int .i64 (.ofNat 64)))))⟩, [], false⟩, ⟨8, ⟨(some p65), none, (.e (.mv (.r p9)))⟩, [], false⟩, ⟨9, ⟨(some p66), none, (.e (.bin .add (.r p65) (.c (.int .i64 (.ofNat 1)))))⟩, [], false⟩, ⟨10, ⟨(some p67), none, (.e (.bin .mul (.r p66) (.c (.int .i64 (.ofNat 64)))))⟩, [], false⟩, ⟨11, ⟨(some p68), none, (.e (.slS (.r p62) (some (.r p64)) (some (.r p67))))⟩, [], false⟩, ⟨12, ⟨(some p69), none, (.e (.iaS 1 (.r p60) (.r p61)))⟩, [], false⟩, ⟨13, ⟨none, none, (.w (.st 1 (.r p69) (.r p68)))⟩, [], false⟩])
noncomputable def B179_2 (E : Env) (r0 r1 r2 r27 : DV) (i2 : DV → H → Ans) (r28 : DV) (h : H) : Ans :=
  vK (v_lss r28 r27) fun x1 =>
  bK x1
  (vK (v_add r1 r28) fun x2 =>
  vK (v_nilchk r0) fun x3 =>
  vK (v_fa 1 x3) fun x4 =>
  vK (v_ld h.get x4) fun x5 =>
  vK (v_lkp .int (.str []) true h.get x5 x2) fun x6 =>
  vK (v_ext 0 x6) fun x7 =>
  vK (v_ext 1 x6) fun x8 =>
  vK (v_not x8) fun x9 =>
  bK x9
  (vK (v_nilchk r0) fun x10 =>
  vK (v_fa 1 x10) fun x11 =>
  vK (v_ld h.get x11) fun x12 =>
  vK (v_nilchk r0) fun x13 =>
  vK (v_fa 0 x13) fun x14 =>
  vK (v_ld h.get x14) fun x15 =>
  vK (v_iaS 1 x15 x2) fun x16 =>
  vK (v_ld h.get x16) fun x17 =>
  wK (dMup .int x12 x2 x17 h) fun x18 h19 =>
  J179_4 E i2 r0 r2 r28 x2 r28 h19)
  (J179_4 E i2 r0 r2 r28 x2 r28 h))
  (J179_1 E h)
noncomputable def L179_2 (E : Env) (r0 r1 r2 r27 : DV) (n : Nat) : DV → H → Ans := Nat.rec (motive := fun _ => DV → H → Ans) (fun _ _ => none) (fun _ i => B179_2 E r0 r1 r2 r27 i) n
def C179_2 : DC := (.loop (.seq (.reg [⟨(some p29), none, (.e (.bin .lss (.r p28) (.r p27)))⟩]) (.seq (.cond (.r p29) .skip (.exit 0)) (.seq (.block 1 (.seq (.reg [⟨(some p30), none, (.e (.mv (.r p28)))⟩, ⟨(some p9), none, (.e (.mv (.r p30)))⟩]) (.seq (.reg [⟨(some p31), none, (.e (.mv (.r p1)))⟩, ⟨(some p32), none, (.e (.mv (.r p9)))⟩, ⟨(some p33), none, (.e (.bin .add (.r p31) (.r p32)))⟩, ⟨(some p10), none, (.e (.mv (.r p33)))⟩]) (.seq (.seq (.reg [⟨(some p35), none, (.e (.mv (.r p0)))⟩, ⟨(some p36), none, (.e (.nilchk (.r p35)))⟩, ⟨(some p37), none, (.e (.fa 1 (.r p36)))⟩, ⟨(some p38), none, (.e (.ld (.r p37)))⟩, ⟨(some p39), none, (.e (.mv (.r p10)))⟩, ⟨(some p40), none, (.e (.lkp .int (.str []) true (.r p38) (.r p39)))⟩, ⟨(some p34), none, (.e (.mv (.r p40)))⟩, ⟨(some p41), none, (.e (.ext 0 (.r p34)))⟩, ⟨(some p42), none, (.e (.ext 1 (.r p34)))⟩, ⟨(some p11), none, (.e (.mv (.r p41)))⟩, ⟨(some p12), none, (.e (.mv (.r p42)))⟩]) (.seq (.reg [⟨(some p43), none, (.e (.mv (.r p12)))⟩, ⟨(some p44), none, (.e (.not (.r p43)))⟩]) (.cond (.r p44) (.drg [⟨0, ⟨(some p45), none, (.e (.mv (.r p0)))⟩, [], false⟩, ⟨1, ⟨(some p46), none, (.e (.nilchk (.r p45)))⟩, [], false⟩, ⟨2, ⟨(some p47), none, (.e (.fa 1 (.r p46)))⟩, [], false⟩, ⟨3, ⟨(some p48), none, (.e (.ld (.r p47)))⟩, [], false⟩, ⟨4, ⟨(some p49), none, (.e (.mv (.r p10)))⟩, [], false⟩, ⟨5, ⟨(some p50), none, (.e (.mv (.r p0)))⟩, [], false⟩, ⟨6, ⟨(some p51), none, (.e (.nilchk (.r p50)))⟩, [], false⟩, ⟨7, ⟨(some p52), none, (.e (.fa 0 (.r p51)))⟩, [], false⟩, ⟨8, ⟨(some p53), none, (.e (.ld (.r p52)))⟩, [], false⟩, ⟨9, ⟨(some p54), none, (.e (.mv (.r p10)))⟩, [], false⟩, ⟨10, ⟨(some p55), none, (.e (.iaS 1 (.r p53) (.r p54)))⟩, [], false⟩, ⟨11, ⟨(some p56), none, (.e (.ld (.r p55)))⟩, [], false⟩, ⟨12, ⟨none, none, (.w (.mup .int (.r p48) (.r p49) (.r p56)))⟩, [], false⟩]) .skip))) C179_4)))) C179_3))))
noncomputable def J179_0 (E : Env) (r0 r1 r2 : DV) (h : H) : Ans :=
  vK (v_lenS r2) fun x1 =>
  vK (v_quo x1 (.int .i64 (.ofNat 64))) fun x2 =>
  vK (v_lenS r2) fun x3 =>
  vK (v_rem x3 (.int .i64 (.ofNat 64))) fun x4 =>
  vK (v_eql x4 (.int .i64 (.ofNat 0))) fun x5 =>
  wK (callK E 176 [r0, r1, x2, x5] h) fun x6 h7 =>
  vK (v_neq x6 (.int .i64 (.ofNat 0))) fun x8 =>
  bK x8
  (some (x6, h7))
  (L179_2 E r0 r1 r2 x2 FUEL (.int .i64 (.ofNat 0)) h7)
def C179_0 : DC := (.seq (.reg [⟨(some p6), none, (.e (.mv (.c (.int .i64 (.ofNat 0)))))⟩]) (.seq (.reg [⟨(some p13), none, (.e (.mv (.r p2)))⟩, ⟨(some p14), none, (.e (.lenS (.r p13)))⟩, ⟨(some p15), none, (.e (.bin .quo (.r p14) (.c (.int .i64 (.ofNat 64)))))⟩, ⟨(some p7), none, (.e (.mv (.r p15)))⟩]) (.seq (.seq (.reg [⟨(some p16), none, (.e (.mv (.r p0)))⟩, ⟨(some p17), none, (.e (.mv (.r p1)))⟩, ⟨(some p18), none, (.e (.mv (.r p7)))⟩, ⟨(some p19), none, (.e (.mv (.r p2)))⟩, ⟨(some p20), none, (.e (.lenS (.r p19)))⟩, ⟨(some p21), none, (.e (.bin .rem (.r p20) (.c (.int .i64 (.ofNat 64)))))⟩, ⟨(some p22), none, (.e (.bin .eql (.r p21) (.c (.int .i64 (.ofNat 0)))))⟩, ⟨(some p23), none, (.c (.f 176 [(.r p16), (.r p17), (.r p18), (.r p22)]))⟩, ⟨(some p8), none, (.e (.mv (.r p23)))⟩]) (.seq (.reg [⟨(some p24), none, (.e (.mv (.r p8)))⟩, ⟨(some p25), none, (.e (.bin .neq (.r p24) (.c (.int .i64 (.ofNat 0)))))⟩]) (.cond (.r p25) (.seq (.reg [⟨(some p26), none, (.e (.mv (.r p8)))⟩, ⟨(some p6), none, (.e (.mv (.r p26)))⟩]) .ret) .skip))) (.seq (.seq (.reg [⟨(some p27), none, (.e (.mv (.r p7)))⟩, ⟨(some p28), none, (.e (.mv (.c (.int .i64 (.ofNat 0)))))⟩]) (.block 0 C179_2)) C179_1))))
theorem I179_1 (E : Env) : Is E C179_1 (retK3 R179) (fun σ h => J179_1 E h) :=
  fun σ h => by kernel_rfl
noncomputable abbrev K179_5 (E : Env) : KT2 (DV × H) := (blockK3 0 (thenK3 (fun σ h => J179_1 E h) (retK3 R179)))
noncomputable abbrev K179_6 (E : Env) (n2 : Nat) : KT2 (DV × H) := (thenK3 (fun σ h => (L179_2 E (σ p0) (σ p1) (σ p2) (σ p27) n2) (σ p28) h) (K179_5 E))
theorem I179_3 (E : Env) (n2 : Nat) : Is E C179_3 (K179_6 E n2) (fun σ h => J179_3 E (L179_2 E (σ p0) (σ p1) (σ p2) (σ p27) n2) (σ p28) h) :=
  fun σ h => by kernel_rfl
noncomputable abbrev K179_7 (E : Env) (n2 : Nat) : KT2 (DV × H) := (thenK3 (fun σ h => J179_3 E (L179_2 E (σ p0) (σ p1) (σ p2) (σ p27) n2) (σ p28) h) (K179_6 E n2))
theorem I179_4 (E : Env) (n2 : Nat) : Is E C179_4 (blockK3 1 (K179_7 E n2)) (fun σ h => J179_4 E (L179_2 E (σ p0) (σ p1) (σ p2) (σ p27) n2) (σ p0) (σ p2) (σ p9) (σ p10) (σ p28) h) :=
  fun σ h => by kernel_rfl
theorem I179_2 (E : Env) : Is E C179_2 (K179_5 E) (fun σ h => L179_2 E (σ p0) (σ p1) (σ p2) (σ p27) FUEL (σ p28) h) :=
  Is.loop (fun n2 σ h => L179_2 E (σ p0) (σ p1) (σ p2) (σ p27) n2 (σ p28) h) (by kernel_rfl) fun n2 => Is.as (Is.seq (Is.seq (Is.seq (I179_3 E n2) (Is.block (Is.seq (Is.seq (Is.seq (I179_4 E n2) (Is.leaf _)) (Is.leaf _)) (Is.leaf _)))) (Is.leaf _)) (Is.leaf _)) fun σ h => by kernel_rfl
theorem I179_0 (E : Env) : Is E C179_0 (retK3 R179) (fun σ h => J179_0 E (σ p0) (σ p1) (σ p2) h) :=
  Is.as (Is.seq (Is.seq (Is.seq (Is.seq (I179_1 E) (Is.seq (Is.block (I179_2 E)) (Is.leaf _))) (Is.leaf _)) (Is.leaf _)) (Is.leaf _)) fun σ h => by kernel_rfl
def D179 : DF := ⟨3, 71, C179_0, R179⟩
noncomputable def S179 (E : Env) : Fun := fun args h => aS args fun r0 args => aS args fun r1 args => aS args fun r2 args => a0 args (J179_0 E r0 r1 r2 h)
theorem S179_eq (E : Env) (args : List DV) (h : H) : runFn E D179 args h = S179 E args h :=
  Is.fn3 (d := D179) (I179_0 E) rfl (fun r0 r1 r2 h => J179_0 E r0 r1 r2 h) (fun r0 r1 r2 h => by kernel_rfl) args h
/- (*hurdle/sector.Device).Flush -/
def R180 : List RV := []
noncomputable def J180_0 (E : Env) (r0 : DV) (h : H) : Ans :=
  vK (v_eqv .ptr true h.get r0 .nilp) fun x1 =>
  bK x1
  (vK (v_nilchk r0) fun x2 =>
  vK (v_fa 1 x2) fun x3 =>
  vK (v_ld h.get x3) fun x4 =>
  wK (dClearM x4 h) fun x5 h6 =>
  some ((.tup []), h6))
  (some ((.tup []), h))
def C180_0 : DC := (.seq (.reg [⟨(some p2), none, (.e (.mv (.r p0)))⟩, ⟨(some p3), none, (.e (.eqv .ptr true (.r p2) (.c .nilp)))⟩]) (.cond (.r p3) (.reg [⟨(some p4), none, (.e (.mv (.r p0)))⟩, ⟨(some p5), none, (.e (.nilchk (.r p4)))⟩, ⟨(some p6), none, (.e (.fa 1 (.r p5)))⟩, ⟨(some p7), none, (.e (.ld (.r p6)))⟩, ⟨none, none, (.w (.clm (.r p7)))⟩]) .skip))
theorem I180_0 (E : Env) : Is E C180_0 (retK3 R180) (fun σ h => J180_0 E (σ p0) h) :=
  fun σ h => by kernel_rfl
def D180 : DF := ⟨1, 8, C180_0, R180⟩
noncomputable def S180 (E : Env) : Fun := fun args h => aS args fun r0 args => a0 args (J180_0 E r0 h)
theorem S180_eq (E : Env) (args : List DV) (h : H) : runFn E D180 args h = S180 E args h :=
  Is.fn1 (d := D180) (I180_0 E) rfl (fun r0 h => J180_0 E r0 h) (fun r0 h => by kernel_rfl) args h
/- hurdle/frags.four -/
def R181 : List RV := [(.r p2)]
noncomputable def J181_0 (E : Env) (r0 : DV) (h : H) : Ans :=
  vK (v_conv .u8 r0) fun x1 =>
  vK (v_shr r0 (.int .u64 (.ofNat 8))) fun x2 =>
  vK (v_conv .u8 x2) fun x3 =>
  vK (v_shr r0 (.int .u64 (.ofNat 16))) fun x4 =>
  vK (v_conv .u8 x4) fun x5 =>
  vK (v_shr r0 (.int .u64 (.ofNat 24))) fun x6 =>
  vK (v_conv .u8 x6) fun x7 =>
  n_bsl 4 1 [(.int .u8 (.ofNat 0))] [(0, 1, x1), (1, 1, x3), (2, 1, x5), (3, 1, x7)] h fun x8 h9 =>
  vK (v_b2s h9.get x8) fun x10 =>
  some (x10, h9)
def C181_0 : DC := (.seq (.reg [⟨(some p2), none, (.e (.mv (.c (.str []))))⟩]) (.seq (.reg [⟨(some p3), none, (.e (.mv (.r p0)))⟩, ⟨(some p4), none, (.e (.conv .u8 (.r p3)))⟩, ⟨(some p5), none, (.e (.mv (.r p0)))⟩, ⟨(some p6), none, (.e (.bin .shr (.r p5) (.c (.int .u64 (.ofNat 8)))))⟩, ⟨(some p7), none, (.e (.conv .u8 (.r p6)))⟩, ⟨(some p8), none, (.e (.mv (.r p0)))⟩, ⟨(some p9), none, (.e (.bin .shr (.r p8) (.c (.int .u64 (.ofNat 16)))))⟩, ⟨(some p10), none, (.e (.conv .u8 (.r p9)))⟩, ⟨(some p11), none, (.e (.mv (.r p0)))⟩, ⟨(some p12), none, (.e (.bin .shr (.r p11) (.c (.int .u64 (.ofNat 24)))))⟩, ⟨(some p13), none, (.e (.conv .u8 (.r p12)))⟩, ⟨(some p14), none, (.e (.bsl 4 1 [(.int .u8 (.ofNat 0))] [(0, 1, (.r p4)), (1, 1, (.r p7)), (2, 1, (.r p10)), (3, 1, (.r p13))]))⟩, ⟨(some p15), none, (.e (.b2s (.r p14)))⟩, ⟨(some p2), none, (.e (.mv (.r p15)))⟩]) .ret))
theorem I181_0 (E : Env) : Is E C181_0 (retK3 R181) (fun σ h => J181_0 E (σ p0) h) :=
  fun σ h => by kernel_rfl
def D181 : DF := ⟨1, 16, C181_0, R181⟩
noncomputable def S181 (E : Env) : Fun := fun args h => aS args fun r0 args => a0 args (J181_0 E r0 h)
theorem S181_eq (E : Env) (args : List DV) (h : H) : runFn E D181 args h = S181 E args h :=
  Is.fn1 (d := D181) (I181_0 E) rfl (fun r0 h => J181_0 E r0 h) (fun r0 h => by kernel_rfl) args h
/- hurdle/sums.Sum -/
def R182 : List RV := [(.r p2)]
noncomputable def J182_0 (E : Env) (r0 : DV) (h : H) : Ans :=
  wK (callK E 205 [(.int .u32 (.ofNat 0)), r0] h) fun x1 h2 =>
  some (x1, h2)
def C182_0 : DC := (.seq (.reg [⟨(some p2), none, (.e (.mv (.c (.int .u32 (.ofNat 0)))))⟩]) (.seq (.reg [⟨(some p3), none, (.e (.mv (.r p0)))⟩, ⟨(some p4), none, (.c (.f 205 [(.c (.int .u32 (.ofNat 0))), (.r p3)]))⟩, ⟨(some p2), none, (.e (.mv (.r p4)))⟩]) .ret))
theorem I182_0 (E : Env) : Is E C182_0 (retK3 R182) (fun σ h => J182_0 E (σ p0) h) :=
  fun σ h => by kernel_rfl
def D182 : DF := ⟨1, 5, C182_0, R182⟩
noncomputable def S182 (E : Env) : Fun := fun args h => aS args fun r0 args => a0 args (J182_0 E r0 h)
theorem S182_eq (E : Env) (args : List DV) (h : H) : runFn E D182 args h = S182 E args h :=
  Is.fn1 (d := D182) (I182_0 E) rfl (fun r0 h => J182_0 E r0 h) (fun r0 h => by kernel_rfl) args h
/- hurdle/sums.Seal -/
def R183 : List RV := [(.r p2)]
noncomputable def J183_0 (E : Env) (r0 : DV) (h : H) : Ans :=
  wK (callK E 182 [r0] h) fun x1 h2 =>
  wK (callK E 206 [x1] h2) fun x3 h4 =>
  vK (v_add r0 x3) fun x5 =>
  some (x5, h4)
def C183_0 : DC := (.seq (.reg [⟨(some p2), none, (.e (.mv (.c (.str []))))⟩]) (.seq (.reg [⟨(some p3), none, (.e (.mv (.r p0)))⟩, ⟨(some p4), none, (.e (.mv (.r p0)))⟩, ⟨(some p5), none, (.c (.f 182 [(.r p4)]))⟩, ⟨(some p6), none, (.c (.f 206 [(.r p5)]))⟩, ⟨(some p7), none, (.e (.bin .add (.r p3) (.r p6)))⟩, ⟨(some p2), none, (.e (.mv (.r p7)))⟩]) .ret))
theorem I183_0 (E : Env) : Is E C183_0 (retK3 R183) (fun σ h => J183_0 E (σ p0) h) :=
  fun σ h => by kernel_rfl
def D183 : DF := ⟨1, 8, C183_0, R183⟩
noncomputable def S183 (E : Env) : Fun := fun args h => aS args fun r0 args => a0 args (J183_0 E r0 h)
theorem S183_eq (E : Env) (args : List DV) (h : H) : runFn E D183 args h = S183 E args h :=
  Is.fn1 (d := D183) (I183_0 E) rfl (fun r0 h => J183_0 E r0 h) (fun r0 h => by kernel_rfl) args h
/- slices.pdqsortCmpFunc[hurdle/api.Place] -/
def R184 : List RV := []
noncomputable def J184_4 (E : Env) (i1 : DV → DV → DV → DV → DV → H → Ans) (r0 r1 r2 r3 r4 r10 r11 r12 r13 : DV) (h : H) : Ans :=
  vK (v_gtr r1 (.int .i64 (.ofNat 0))) fun x1 =>
  gdK x1 true (fun kk => kk r4 h) h fun x2 h3 =>
  gdK x1 true (fun kk => kk r0 h3) h3 fun x4 h5 =>
  gdK x1 true (fun kk => kk r1 h5) h5 fun x6 h7 =>
  gdK x1 true (fun kk => vK (v_sub x6 (.int .i64 (.ofNat 1))) fun v => kk v h7) h7 fun x8 h9 =>
  gdK x1 true (fun kk => vK (v_iaS 2 x4 x8) fun v => kk v h9) h9 fun x10 h11 =>
  gdK x1 true (fun kk => vK (v_ldN 2 h11.get x10) fun v => kk v h11) h11 fun x12 h13 =>
  gdK x1 true (fun kk => kk r0 h13) h13 fun x14 h15 =>
  gdK x1 true (fun kk => kk r13 h15) h15 fun x16 h17 =>
  gdK x1 true (fun kk => vK (v_iaS 2 x14 x16) fun v => kk v h17) h17 fun x18 h19 =>
  gdK x1 true (fun kk => vK (v_ldN 2 h19.get x18) fun v => kk v h19) h19 fun x20 h21 =>
  gdK x1 true (fun kk => wK (c_val E x2 [x12, x20] h21) kk) h21 fun x22 h23 =>
  gdK x1 true (fun kk => vK (v_lss x22 (.int .i64 (.ofNat 0))) fun v => kk v h23) h23 fun x24 h25 =>
  gdK x1 true (fun kk => vK (v_not x24) fun v => kk v h25) h25 fun x26 h27 =>
  vK (v_pick x1 x26 (.bool false)) fun x28 =>
  bK x28
  (wK (callK E 213 [r0, r1, r2, r13, r4] h27) fun x29 h30 =>
  i1 x29 r2 r3 r10 r11 h30)
  (wK (callK E 214 [r0, r1, r2, r13, r4] h27) fun x31 h32 =>
  vK (v_ext 0 x31) fun x33 =>
  vK (v_ext 1 x31) fun x34 =>
  vK (v_sub x33 r1) fun x35 =>
  vK (v_sub r2 x33) fun x36 =>
  vK (v_quo r12 (.int .i64 (.ofNat 8))) fun x37 =>
  vK (v_lss x35 x36) fun x38 =>
  bK x38
  (vK (v_geq x35 x37) fun x39 =>
  wK (callK E 184 [r0, r1, x33, r3, r4] h32) fun x40 h41 =>
  vK (v_add x33 (.int .i64 (.ofNat 1))) fun x42 =>
  i1 x42 r2 r3 x39 x34 h41)
  (vK (v_geq x36 x37) fun x43 =>
  vK (v_add x33 (.int .i64 (.ofNat 1))) fun x44 =>
  wK (callK E 184 [r0, x44, r2, r3, r4] h32) fun x45 h46 =>
  i1 r1 x33 r3 x43 x34 h46))
def C184_4 : DC := (.seq (.seq (.drg [⟨0, ⟨(some p81), none, (.e (.mv (.r p1)))⟩, [], false⟩, ⟨1, ⟨(some p82), none, (.e (.bin .gtr (.r p81) (.c (.int .i64 (.ofNat 0)))))⟩, [], false⟩, ⟨2, ⟨(some p83), none, (.e (.mv (.r p82)))⟩, [], false⟩, ⟨3, ⟨(some p84), (some (p83, true)), (.e (.mv (.r p4)))⟩, [], false⟩, ⟨4, ⟨(some p85), (some (p83, true)), (.e (.mv (.r p0)))⟩, [], false⟩, ⟨5, ⟨(some p86), (some (p83, true)), (.e (.mv (.r p1)))⟩, [], false⟩, ⟨6, ⟨(some p87), (some (p83, true)), (.e (.bin .sub (.r p86) (.c (.int .i64 (.ofNat 1)))))⟩, [], false⟩, ⟨7, ⟨(some p88), (some (p83, true)), (.e (.iaS 2 (.r p85) (.r p87)))⟩, [], false⟩, ⟨8, ⟨(some p89), (some (p83, true)), (.e (.ldN 2 (.r p88)))⟩, [], false⟩, ⟨9, ⟨(some p90), (some (p83, true)), (.e (.mv (.r p0)))⟩, [], false⟩, ⟨10, ⟨(some p91), (some (p83, true)), (.e (.mv (.r p13)))⟩, [], false⟩, ⟨11, ⟨(some p92), (some (p83, true)), (.e (.iaS 2 (.r p90) (.r p91)))⟩, [], false⟩, ⟨12, ⟨(some p93), (some (p83, true)), (.e (.ldN 2 (.r p92)))⟩, [], false⟩, ⟨13, ⟨(some p94), (some (p83, true)), (.c (.v (.r p84) [(.r p89), (.r p93)]))⟩, [], false⟩, ⟨14, ⟨(some p95), (some (p83, true)), (.e (.bin .lss (.r p94) (.c (.int .i64 (.ofNat 0)))))⟩, [], false⟩, ⟨15, ⟨(some p96), (some (p83, true)), (.e (.not (.r p95)))⟩, [], false⟩, ⟨16, ⟨(some p97), none, (.e (.pick (.r p83) (.r p96) (.c (.bool false))))⟩, [], false⟩]) (.cond (.r p97) (.seq (.reg [⟨(some p98), none, (.e (.mv (.r p0)))⟩, ⟨(some p99), none, (.e (.mv (.r p1)))⟩, ⟨(some p100), none, (.e (.mv (.r p2)))⟩, ⟨(some p101), none, (.e (.mv (.r p13)))⟩, ⟨(some p102), none, (.e (.mv (.r p4)))⟩, ⟨(some p103), none, (.c (.f 213 [(.r p98), (.r p99), (.r p100), (.r p101), (.r p102)]))⟩, ⟨(some p15), none, (.e (.mv (.r p103)))⟩]) (.seq (.reg [⟨(some p104), none, (.e (.mv (.r p15)))⟩, ⟨(some p1), none, (.e (.mv (.r p104)))⟩]) (.exit 1))) .skip)) (.seq (.reg [⟨(some p106), none, (.e (.mv (.r p0)))⟩, ⟨(some p107), none, (.e (.mv (.r p1)))⟩, ⟨(some p108), none, (.e (.mv (.r p2)))⟩, ⟨(some p109), none, (.e (.mv (.r p13)))⟩, ⟨(some p110), none, (.e (.mv (.r p4)))⟩, ⟨(some p111), none, (.c (.f 214 [(.r p106), (.r p107), (.r p108), (.r p109), (.r p110)]))⟩, ⟨(some p105), none, (.e (.mv (.r p111)))⟩, ⟨(some p112), none, (.e (.ext 0 (.r p105)))⟩, ⟨(some p113), none, (.e (.ext 1 (.r p105)))⟩, ⟨(some p16), none, (.e (.mv (.r p112)))⟩, ⟨(some p17), none, (.e (.mv (.r p113)))⟩]) (.seq (.reg [⟨(some p114), none, (.e (.mv (.r p17)))⟩, ⟨(some p11), none, (.e (.mv (.r p114)))⟩]) (.seq (.reg [⟨(some p115), none, (.e (.mv (.r p16)))⟩, ⟨(some p116), none, (.e (.mv (.r p1)))⟩, ⟨(some p117), none, (.e (.bin .sub (.r p115) (.r p116)))⟩, ⟨(some p118), none, (.e (.mv (.r p2)))⟩, ⟨(some p119), none, (.e (.mv (.r p16)))⟩, ⟨(some p120), none, (.e (.bin .sub (.r p118) (.r p119)))⟩, ⟨(some p18), none, (.e (.mv (.r p117)))⟩, ⟨(some p19), none, (.e (.mv (.r p120)))⟩]) (.seq (.reg [⟨(some p121), none, (.e (.mv (.r p12)))⟩, ⟨(some p122), none, (.e (.bin .quo (.r p121) (.c (.int .i64 (.ofNat 8)))))⟩, ⟨(some p20), none, (.e (.mv (.r p122)))⟩]) (.seq (.reg [⟨(some p123), none, (.e (.mv (.r p18)))⟩, ⟨(some p124), none, (.e (.mv (.r p19)))⟩, ⟨(some p125), none, (.e (.bin .lss (.r p123) (.r p124)))⟩]) (.cond (.r p125) (.seq (.reg [⟨(some p126), none, (.e (.mv (.r p18)))⟩, ⟨(some p127), none, (.e (.mv (.r p20)))⟩, ⟨(some p128), none, (.e (.bin .geq (.r p126) (.r p127)))⟩, ⟨(some p10), none, (.e (.mv (.r p128)))⟩]) (.seq (.reg [⟨(some p129), none, (.e (.mv (.r p0)))⟩, ⟨(some p130), none, (.e (.mv (.r p1)))⟩, ⟨(some p131), none, (.e (.mv (.r p16)))⟩, ⟨(some p132), none, (.e (.mv (.r p3)))⟩, ⟨(some p133), none, (.e (.mv (.r p4)))⟩, ⟨(some p134), none, (.c (.f 184 [(.r p129), (.r p130), (.r p131), (.r p132), (.r p133)]))⟩]) (.reg [⟨(some p135), none, (.e (.mv (.r p16)))⟩, ⟨(some p136), none, (.e (.bin .add (.r p135) (.c (.int .i64 (.ofNat 1)))))⟩, ⟨(some p1), none, (.e (.mv (.r p136)))⟩]))) (.seq (.reg [⟨(some p137), none, (.e (.mv (.r p19)))⟩, ⟨(some p138), none, (.e (.mv (.r p20)))⟩, ⟨(some p139), none, (.e (.bin .geq (.r p137) (.r p138)))⟩, ⟨(some p10), none, (.e (.mv (.r p139)))⟩]) (.seq (.reg [⟨(some p140), none, (.e (.mv (.r p0)))⟩, ⟨(some p141), none, (.e (.mv (.r p16)))⟩, ⟨(some p142), none, (.e (.bin .add (.r p141) (.c (.int .i64 (.ofNat 1)))))⟩, ⟨(some p143), none, (.e (.mv (.r p2)))⟩, ⟨(some p144), none, (.e (.mv (.r p3)))⟩, ⟨(some p145), none, (.e (.mv (.r p4)))⟩, ⟨(some p146), none, (.c (.f 184 [(.r p140), (.r p142), (.r p143), (.r p144), (.r p145)]))⟩]) (.reg [⟨(some p147), none, (.e (.mv (.r p16)))⟩, ⟨(some p2), none, (.e (.mv (.r p147)))⟩]))))))))))
noncomputable def J184_3 (E : Env) (i1 : DV → DV → DV → DV → DV → H → Ans) (r0 r1 r2 r3 r4 r10 r11 r12 r13 r14 : DV) (h : H) : Ans :=
  gdK r10 true (fun kk => kk r11 h) h fun x1 h2 =>
  vK (v_pick r10 x1 (.bool false)) fun x3 =>
  gdK x3 true (fun kk => kk r14 h2) h2 fun x4 h5 =>
  gdK x3 true (fun kk => vK (v_eql x4 (.int .i64 (.ofNat 1))) fun v => kk v h5) h5 fun x6 h7 =>
  vK (v_pick x3 x6 (.bool false)) fun x8 =>
  bK x8
  (wK (callK E 212 [r0, r1, r2, r4] h7) fun x9 h10 =>
  bK x9
  (some ((.tup []), h10))
  (J184_4 E i1 r0 r1 r2 r3 r4 r10 r11 r12 r13 h10))
  (J184_4 E i1 r0 r1 r2 r3 r4 r10 r11 r12 r13 h7)
def C184_3 : DC := (.seq (.seq (.reg [⟨(some p68), none, (.e (.mv (.r p10)))⟩, ⟨(some p69), none, (.e (.mv (.r p68)))⟩, ⟨(some p70), (some (p69, true)), (.e (.mv (.r p11)))⟩, ⟨(some p71), none, (.e (.pick (.r p69) (.r p70) (.c (.bool false))))⟩, ⟨(some p72), none, (.e (.mv (.r p71)))⟩, ⟨(some p73), (some (p72, true)), (.e (.mv (.r p14)))⟩, ⟨(some p74), (some (p72, true)), (.e (.bin .eql (.r p73) (.c (.int .i64 (.ofNat 1)))))⟩, ⟨(some p75), none, (.e (.pick (.r p72) (.r p74) (.c (.bool false))))⟩]) (.cond (.r p75) (.seq (.reg [⟨(some p76), none, (.e (.mv (.r p0)))⟩, ⟨(some p77), none, (.e (.mv (.r p1)))⟩, ⟨(some p78), none, (.e (.mv (.r p2)))⟩, ⟨(some p79), none, (.e (.mv (.r p4)))⟩, ⟨(some p80), none, (.c (.f 212 [(.r p76), (.r p77), (.r p78), (.r p79)]))⟩]) (.cond (.r p80) .ret .skip)) .skip)) C184_4)
noncomputable def J184_2 (E : Env) (i1 : DV → DV → DV → DV → DV → H → Ans) (r0 r1 r2 r3 r4 r10 r11 r12 : DV) (h : H) : Ans :=
  wK (callK E 210 [r0, r1, r2, r4] h) fun x1 h2 =>
  vK (v_ext 0 x1) fun x3 =>
  vK (v_ext 1 x1) fun x4 =>
  vK (v_eql x4 (.int .i64 (.ofNat 2))) fun x5 =>
  bK x5
  (wK (callK E 211 [r0, r1, r2, r4] h2) fun x6 h7 =>
  vK (v_sub r2 (.int .i64 (.ofNat 1))) fun x8 =>
  vK (v_sub x3 r1) fun x9 =>
  vK (v_sub x8 x9) fun x10 =>
  J184_3 E i1 r0 r1 r2 r3 r4 r10 r11 r12 x10 (.int .i64 (.ofNat 1)) h7)
  (J184_3 E i1 r0 r1 r2 r3 r4 r10 r11 r12 x3 x4 h2)
def C184_2 : DC := (.seq (.reg [⟨(some p48), none, (.e (.mv (.r p0)))⟩, ⟨(some p49), none, (.e (.mv (.r p1)))⟩, ⟨(some p50), none, (.e (.mv (.r p2)))⟩, ⟨(some p51), none, (.e (.mv (.r p4)))⟩, ⟨(some p52), none, (.c (.f 210 [(.r p48), (.r p49), (.r p50), (.r p51)]))⟩, ⟨(some p47), none, (.e (.mv (.r p52)))⟩, ⟨(some p53), none, (.e (.ext 0 (.r p47)))⟩, ⟨(some p54), none, (.e (.ext 1 (.r p47)))⟩, ⟨(some p13), none, (.e (.mv (.r p53)))⟩, ⟨(some p14), none, (.e (.mv (.r p54)))⟩]) (.seq (.seq (.reg [⟨(some p55), none, (.e (.mv (.r p14)))⟩, ⟨(some p56), none, (.e (.bin .eql (.r p55) (.c (.int .i64 (.ofNat 2)))))⟩]) (.cond (.r p56) (.seq (.reg [⟨(some p57), none, (.e (.mv (.r p0)))⟩, ⟨(some p58), none, (.e (.mv (.r p1)))⟩, ⟨(some p59), none, (.e (.mv (.r p2)))⟩, ⟨(some p60), none, (.e (.mv (.r p4)))⟩, ⟨(some p61), none, (.c (.f 211 [(.r p57), (.r p58), (.r p59), (.r p60)]))⟩]) (.seq (.reg [⟨(some p62), none, (.e (.mv (.r p2)))⟩, ⟨(some p63), none, (.e (.bin .sub (.r p62) (.c (.int .i64 (.ofNat 1)))))⟩, ⟨(some p64), none, (.e (.mv (.r p13)))⟩, ⟨(some p65), none, (.e (.mv (.r p1)))⟩, ⟨(some p66), none, (.e (.bin .sub (.r p64) (.r p65)))⟩, ⟨(some p67), none, (.e (.bin .sub (.r p63) (.r p66)))⟩, ⟨(some p13), none, (.e (.mv (.r p67)))⟩]) (.reg [⟨(some p14), none, (.e (.mv (.c (.int .i64 (.ofNat 1)))))⟩]))) .skip)) C184_3))
noncomputable def B184_1 (E : Env) (r0 r4 : DV) (i1 : DV → DV → DV → DV → DV → H → Ans) (r1 r2 r3 r10 r11 : DV) (h : H) : Ans :=
  vK (v_sub r2 r1) fun x1 =>
  vK (v_leq x1 (.int .i64 (.ofNat 12))) fun x2 =>
  bK x2
  (wK (callK E 207 [r0, r1, r2, r4] h) fun x3 h4 =>
  some ((.tup []), h4))
  (vK (v_eql r3 (.int .i64 (.ofNat 0))) fun x5 =>
  bK x5
  (wK (callK E 208 [r0, r1, r2, r4] h) fun x6 h7 =>
  some ((.tup []), h7))
  (vK (v_not r10) fun x8 =>
  bK x8
  (wK (callK E 209 [r0, r1, r2, r4] h) fun x9 h10 =>
  vK (v_sub r3 (.int .i64 (.ofNat 1))) fun x11 =>
  J184_2 E i1 r0 r1 r2 x11 r4 r10 r11 x1 h10)
  (J184_2 E i1 r0 r1 r2 r3 r4 r10 r11 x1 h)))
noncomputable def L184_1 (E : Env) (r0 r4 : DV) (n : Nat) : DV → DV → DV → DV → DV → H → Ans := Nat.rec (motive := fun _ => DV → DV → DV → DV → DV → H → Ans) (fun _ _ _ _ _ _ => none) (fun _ i => B184_1 E r0 r4 i) n
def C184_1 : DC := (.loop (.block 1 (.seq (.reg [⟨(some p21), none, (.e (.mv (.r p2)))⟩, ⟨(some p22), none, (.e (.mv (.r p1)))⟩, ⟨(some p23), none, (.e (.bin .sub (.r p21) (.r p22)))⟩, ⟨(some p12), none, (.e (.mv (.r p23)))⟩]) (.seq (.seq (.reg [⟨(some p24), none, (.e (.mv (.r p12)))⟩, ⟨(some p25), none, (.e (.bin .leq (.r p24) (.c (.int .i64 (.ofNat 12)))))⟩]) (.cond (.r p25) (.seq (.reg [⟨(some p26), none, (.e (.mv (.r p0)))⟩, ⟨(some p27), none, (.e (.mv (.r p1)))⟩, ⟨(some p28), none, (.e (.mv (.r p2)))⟩, ⟨(some p29), none, (.e (.mv (.r p4)))⟩, ⟨(some p30), none, (.c (.f 207 [(.r p26), (.r p27), (.r p28), (.r p29)]))⟩]) .ret) .skip)) (.seq (.seq (.reg [⟨(some p31), none, (.e (.mv (.r p3)))⟩, ⟨(some p32), none, (.e (.bin .eql (.r p31) (.c (.int .i64 (.ofNat 0)))))⟩]) (.cond (.r p32) (.seq (.reg [⟨(some p33), none, (.e (.mv (.r p0)))⟩, ⟨(some p34), none, (.e (.mv (.r p1)))⟩, ⟨(some p35), none, (.e (.mv (.r p2)))⟩, ⟨(some p36), none, (.e (.mv (.r p4)))⟩, ⟨(some p37), none, (.c (.f 208 [(.r p33), (.r p34), (.r p35), (.r p36)]))⟩]) .ret) .skip)) (.seq (.seq (.reg [⟨(some p38), none, (.e (.mv (.r p10)))⟩, ⟨(some p39), none, (.e (.not (.r p38)))⟩]) (.cond (.r p39) (.seq (.reg [⟨(some p40), none, (.e (.mv (.r p0)))⟩, ⟨(some p41), none, (.e (.mv (.r p1)))⟩, ⟨(some p42), none, (.e (.mv (.r p2)))⟩, ⟨(some p43), none, (.e (.mv (.r p4)))⟩, ⟨(some p44), none, (.c (.f 209 [(.r p40), (.r p41), (.r p42), (.r p43)]))⟩]) (.reg [⟨(some p45), none, (.e (.mv (.r p3)))⟩, ⟨(some p46), none, (.e (.bin .sub (.r p45) (.c (.int .i64 (.ofNat 1)))))⟩, ⟨(some p3), none, (.e (.mv (.r p46)))⟩])) .skip)) C184_2))))))
noncomputable def J184_0 (E : Env) (r0 r1 r2 r3 r4 : DV) (h : H) : Ans :=
  L184_1 E r0 r4 FUEL r1 r2 r3 (.bool true) (.bool true) h
def C184_0 : DC := (.seq (.reg [⟨(some p10), none, (.e (.mv (.c (.bool true))))⟩]) (.seq (.reg [⟨(some p11), none, (.e (.mv (.c (.bool true))))⟩]) (.block 0 C184_1)))
noncomputable abbrev K184_5 (E : Env) (n1 : Nat) : KT2 (DV × H) := (thenK3 (fun σ h => (L184_1 E (σ p0) (σ p4) n1) (σ p1) (σ p2) (σ p3) (σ p10) (σ p11) h) (blockK3 0 (retK3 R184)))
theorem I184_4 (E : Env) (n1 : Nat) : Is E C184_4 (blockK3 1 (K184_5 E n1)) (fun σ h => J184_4 E (L184_1 E (σ p0) (σ p4) n1) (σ p0) (σ p1) (σ p2) (σ p3) (σ p4) (σ p10) (σ p11) (σ p12) (σ p13) h) :=
  fun σ h => by kernel_rfl
theorem I184_3 (E : Env) (n1 : Nat) : Is E C184_3 (blockK3 1 (K184_5 E n1)) (fun σ h => J184_3 E (L184_1 E (σ p0) (σ p4) n1) (σ p0) (σ p1) (σ p2) (σ p3) (σ p4) (σ p10) (σ p11) (σ p12) (σ p13) (σ p14) h) :=
  Is.as (Is.seq (I184_4 E n1) (Is.leaf _)) fun σ h => by kernel_rfl
theorem I184_2 (E : Env) (n1 : Nat) : Is E C184_2 (blockK3 1 (K184_5 E n1)) (fun σ h => J184_2 E (L184_1 E (σ p0) (σ p4) n1) (σ p0) (σ p1) (σ p2) (σ p3) (σ p4) (σ p10) (σ p11) (σ p12) h) :=
  Is.as (Is.seq (Is.seq (I184_3 E n1) (Is.leaf _)) (Is.leaf _)) fun σ h => by kernel_rfl
theorem I184_1 (E : Env) : Is E C184_1 (blockK3 0 (retK3 R184)) (fun σ h => L184_1 E (σ p0) (σ p4) FUEL (σ p1) (σ p2) (σ p3) (σ p10) (σ p11) h) :=
  Is.loop (fun n1 σ h => L184_1 E (σ p0) (σ p4) n1 (σ p1) (σ p2) (σ p3) (σ p10) (σ p11) h) (by kernel_rfl) fun n1 => Is.as (Is.block (Is.seq (Is.seq (Is.seq (Is.seq (I184_2 E n1) (Is.leaf _)) (Is.leaf _)) (Is.leaf _)) (Is.leaf _))) fun σ h => by kernel_rfl
theorem I184_0 (E : Env) : Is E C184_0 (retK3 R184) (fun σ h => J184_0 E (σ p0) (σ p1) (σ p2) (σ p3) (σ p4) h) :=
  Is.as (Is.seq (Is.seq (Is.block (I184_1 E)) (Is.leaf _)) (Is.leaf _)) fun σ h => by kernel_rfl
def D184 : DF := ⟨5, 148, C184_0, R184⟩
noncomputable def S184 (E : Env) : Fun := fun args h => aS args fun r0 args => aS args fun r1 args => aS args fun r2 args => aS args fun r3 args => aS args fun r4 args => a0 args (J184_0 E r0 r1 r2 r3 r4 h)
theorem S184_eq (E : Env) (args : List DV) (h : H) : runFn E D184 args h = S184 E args h :=
  Is.fn5 (d := D184) (I184_0 E) rfl (fun r0 r1 r2 r3 r4 h => J184_0 E r0 r1 r2 r3 r4 h) (fun r0 r1 r2 r3 r4 h => by kernel_rfl) args h
/- math/bits.Len -/
def R185 : List RV := [(.r p2)]
noncomputable def J185_0 (E : Env) (r0 : DV) (h : H) : Ans :=
  bK (.bool false)
  (vK (v_conv .u32 r0) fun x1 =>
  wK (callK E 215 [x1] h) fun x2 h3 =>
  some (x2, h3))
  (wK (callK E 216 [r0] h) fun x4 h5 =>
  some (x4, h5))
def C185_0 : DC := (.seq (.reg [⟨(some p2), none, (.e (.mv (.c (.int .i64 (.ofNat 0)))))⟩]) (.seq (.cond (.c (.bool false)) (.seq (.reg [⟨(some p3), none, (.e (.mv (.r p0)))⟩, ⟨(some p4), none, (.e (.conv .u32 (.r p3)))⟩, ⟨(some p5), none, (.c (.f 215 [(.r p4)]))⟩, ⟨(some p2), none, (.e (.mv (.r p5)))⟩]) .ret) .skip) (.seq (.reg [⟨(some p6), none, (.e (.mv (.r p0)))⟩, ⟨(some p7), none, (.c (.f 216 [(.r p6)]))⟩, ⟨(some p2), none, (.e (.mv (.r p7)))⟩]) .ret)))
theorem I185_0 (E : Env) : Is E C185_0 (retK3 R185) (fun σ h => J185_0 E (σ p0) h) :=
  fun σ h => by kernel_rfl
def D185 : DF := ⟨1, 8, C185_0, R185⟩
noncomputable def S185 (E : Env) : Fun := fun args h => aS args fun r0 args => a0 args (J185_0 E r0 h)
theorem S185_eq (E : Env) (args : List DV) (h : H) : runFn E D185 args h = S185 E args h :=
  Is.fn1 (d := D185) (I185_0 E) rfl (fun r0 h => J185_0 E r0 h) (fun r0 h => by kernel_rfl) args h
/- cmp.isNaN[int] -/
def R186 : List RV := [(.r p2)]
noncomputable def J186_0 (E : Env) (r0 : DV) (h : H) : Ans :=
  vK (v_neq r0 r0) fun x1 =>
  some (x1, h)
def C186_0 : DC := (.seq (.reg [⟨(some p2), none, (.e (.mv (.c (.bool false))))⟩]) (.seq (.reg [⟨(some p3), none, (.e (.mv (.r p0)))⟩, ⟨(some p4), none, (.e (.mv (.r p0)))⟩, ⟨(some p5), none, (.e (.bin .neq (.r p3) (.r p4)))⟩, ⟨(some p2), none, (.e (.mv (.r p5)))⟩]) .ret))
theorem I186_0 (E : Env) : Is E C186_0 (retK3 R186) (fun σ h => J186_0 E (σ p0) h) :=
  fun σ h => by kernel_rfl
def D186 : DF := ⟨1, 6, C186_0, R186⟩
noncomputable def S186 (E : Env) : Fun := fun args h => aS args fun r0 args => a0 args (J186_0 E r0 h)
theorem S186_eq (E : Env) (args : List DV) (h : H) : runFn E D186 args h = S186 E args h :=
  Is.fn1 (d := D186) (I186_0 E) rfl (fun r0 h => J186_0 E r0 h) (fun r0 h => by kernel_rfl) args h
/- hurdle/frags.number -/
def R187 : List RV := [(.r p2)]
noncomputable def J187_0 (E : Env) (r0 : DV) (h : H) : Ans :=
  vK (v_ixS r0 (.int .i64 (.ofNat 0))) fun x1 =>
  vK (v_conv .i64 x1) fun x2 =>
  vK (v_ixS r0 (.int .i64 (.ofNat 1))) fun x3 =>
  vK (v_conv .i64 x3) fun x4 =>
  vK (v_shl x4 (.int .u64 (.ofNat 8))) fun x5 =>
  vK (v_or x2 x5) fun x6 =>
  vK (v_ixS r0 (.int .i64 (.ofNat 2))) fun x7 =>
  vK (v_conv .i64 x7) fun x8 =>
  vK (v_shl x8 (.int .u64 (.ofNat 16))) fun x9 =>
  vK (v_or x6 x9) fun x10 =>
  vK (v_ixS r0 (.int .i64 (.ofNat 3))) fun x11 =>
  vK (v_conv .i64 x11) fun x12 =>
  vK (v_shl x12 (.int .u64 (.ofNat 24))) fun x13 =>
  vK (v_or x10 x13) fun x14 =>
  some (x14, h)
def C187_0 : DC := (.seq (.reg [⟨(some p2), none, (.e (.mv (.c (.int .i64 (.ofNat 0)))))⟩]) (.seq (.drg [⟨0, ⟨(some p3), none, (.e (.mv (.r p0)))⟩, [], false⟩, ⟨1, ⟨(some p4), none, (.e (.ixS (.r p3) (.c (.int .i64 (.ofNat 0)))))⟩, [], false⟩, ⟨2, ⟨(some p5), none, (.e (.conv .i64 (.r p4)))⟩, [], false⟩, ⟨3, ⟨(some p6), none, (.e (.mv (.r p0)))⟩, [], false⟩, ⟨4, ⟨(some p7), none, (.e (.ixS (.r p6) (.c (.int .i64 (.ofNat 1)))))⟩, [], false⟩, ⟨5, ⟨(some p8), none, (.e (.conv .i64 (.r p7)))⟩, [], false⟩, ⟨6, ⟨(some p9), none, (.e (.bin .shl (.r p8) (.c (.int .u64 (.ofNat 8)))))⟩, [], false⟩, ⟨7, ⟨(some p10), none, (.e (.bin .or (.r p5) (.r p9)))⟩, [], false⟩, ⟨8, ⟨(some p11), none, (.e (.mv (.r p0)))⟩, [], false⟩, ⟨9, ⟨(some p12), none, (.e (.ixS (.r p11) (.c (.int .i64 (.ofNat 2)))))⟩, [], false⟩, ⟨10, ⟨(some p13), none, (.e (.conv .i64 (.r p12)))⟩, [], false⟩, ⟨11, ⟨(some p14), none, (.e (.bin .shl (.r p13) (.c (.int .u64 (.ofNat 16)))))⟩, [], false⟩, ⟨12, ⟨(some p15), none, (.e (.bin .or (.r p10) (.r p14)))⟩, [], false⟩, ⟨13, ⟨(some p16), none, (.e (.mv (.r p0)))⟩, [], false⟩, ⟨14, ⟨(some p17), none, (.e (.ixS (.r p16) (.c (.int .i64 (.ofNat 3)))))⟩, [], false⟩, ⟨15, ⟨(some p18), none, (.e (.conv .i64 (.r p17)))⟩, [], false⟩, ⟨16, ⟨(some p19), none, (.e (.bin .shl (.r p18) (.c (.int .u64 (.ofNat 24)))))⟩, [], false⟩, ⟨17, ⟨(some p20), none, (.e (.bin .or (.r p15) (.r p19)))⟩, [], false⟩, ⟨18, ⟨(some p2), none, (.e (.mv (.r p20)))⟩, [], false⟩]) .ret))
theorem I187_0 (E : Env) : Is E C187_0 (retK3 R187) (fun σ h => J187_0 E (σ p0) h) :=
  fun σ h => by kernel_rfl
def D187 : DF := ⟨1, 21, C187_0, R187⟩
noncomputable def S187 (E : Env) : Fun := fun args h => aS args fun r0 args => a0 args (J187_0 E r0 h)
theorem S187_eq (E : Env) (args : List DV) (h : H) : runFn E D187 args h = S187 E args h :=
  Is.fn1 (d := D187) (I187_0 E) rfl (fun r0 h => J187_0 E r0 h) (fun r0 h => by kernel_rfl) args h
/- hurdle/members.apart -/
def R188 : List RV := [(.r p2)]
noncomputable def J188_1 (E : Env) (h : H) : Ans :=
  some ((.bool true), h)
def C188_1 : DC := (.seq (.reg [⟨(some p2), none, (.e (.mv (.c (.bool true))))⟩]) .ret)
noncomputable def J188_3 (E : Env) (i2 : DV → H → Ans) (r10 : DV) (h : H) : Ans :=
  vK (v_add r10 (.int .i64 (.ofNat 1))) fun x1 =>
  i2 x1 h
def C188_3 : DC := (.reg [⟨(some p34), none, (.e (.bin .add (.r p10) (.c (.int .i64 (.ofNat 1)))))⟩, ⟨(some p10), none, (.e (.mv (.r p34)))⟩])
noncomputable def B188_4 (E : Env) (i2 : DV → H → Ans) (r3 r10 r14 r15 : DV) (i4 : DV → H → Ans) (r16 : DV) (h : H) : Ans :=
  vK (v_lss r16 r15) fun x1 =>
  bK x1
  (vK (v_iaS 1 r14 r16) fun x2 =>
  vK (v_ld h.get x2) fun x3 =>
  vK (v_lss x3 (.int .i64 (.ofNat 0))) fun x4 =>
  gdK x4 false (fun kk => kk x3 h) h fun x5 h6 =>
  gdK x4 false (fun kk => vK (v_geq x5 (.int .i64 (.ofNat 64))) fun v => kk v h6) h6 fun x7 h8 =>
  vK (v_pick x4 (.bool true) x7) fun x9 =>
  gdK x9 false (fun kk => kk x3 h8) h8 fun x10 h11 =>
  gdK x9 false (fun kk => vK (v_iaA 64 1 r3 x10) fun v => kk v h11) h11 fun x12 h13 =>
  gdK x9 false (fun kk => vK (v_ld h13.get x12) fun v => kk v h13) h13 fun x14 h15 =>
  vK (v_pick x9 (.bool true) x14) fun x16 =>
  bK x16
  (some ((.bool false), h15))
  (vK (v_iaA 64 1 r3 x3) fun x17 =>
  wK (dStF 1 x17 (.bool true) h15) fun x18 h19 =>
  vK (v_add r16 (.int .i64 (.ofNat 1))) fun x20 =>
  i4 x20 h19))
  (J188_3 E i2 r10 h)
noncomputable def L188_4 (E : Env) (i2 : DV → H → Ans) (r3 r10 r14 r15 : DV) (n : Nat) : DV → H → Ans := Nat.rec (motive := fun _ => DV → H → Ans) (fun _ _ => none) (fun _ i => B188_4 E i2 r3 r10 r14 r15 i) n
def C188_4 : DC := (.loop (.seq (.reg [⟨(some p17), none, (.e (.bin .lss (.r p16) (.r p15)))⟩]) (.seq (.cond (.r p17) .skip (.exit 2)) (.seq (.block 3 (.seq (.reg [⟨(some p18), none, (.e (.iaS 1 (.r p14) (.r p16)))⟩, ⟨(some p19), none, (.e (.ld (.r p18)))⟩, ⟨(some p7), none, (.e (.mv (.r p19)))⟩]) (.seq (.seq (.reg [⟨(some p20), none, (.e (.mv (.r p7)))⟩, ⟨(some p21), none, (.e (.bin .lss (.r p20) (.c (.int .i64 (.ofNat 0)))))⟩, ⟨(some p22), none, (.e (.mv (.r p21)))⟩, ⟨(some p23), (some (p22, false)), (.e (.mv (.r p7)))⟩, ⟨(some p24), (some (p22, false)), (.e (.bin .geq (.r p23) (.c (.int .i64 (.ofNat 64)))))⟩, ⟨(some p25), none, (.e (.pick (.r p22) (.c (.bool true)) (.r p24)))⟩, ⟨(some p26), none, (.e (.mv (.r p25)))⟩, ⟨(some p27), (some (p26, false)), (.e (.mv (.r p7)))⟩, ⟨(some p28), (some (p26, false)), (.e (.iaA 64 1 (.r p3) (.r p27)))⟩, ⟨(some p29), (some (p26, false)), (.e (.ld (.r p28)))⟩, ⟨(some p30), none, (.e (.pick (.r p26) (.c (.bool true)) (.r p29)))⟩]) (.cond (.r p30) (.seq (.reg [⟨(some p2), none, (.e (.mv (.c (.bool false))))⟩]) .ret) .skip)) (.reg [⟨(some p31), none, (.e (.mv (.r p7)))⟩, ⟨(some p32), none, (.e (.iaA 64 1 (.r p3) (.r p31)))⟩, ⟨none, none, (.w (.st 1 (.r p32) (.c (.bool true))))⟩])))) (.reg [⟨(some p33), none, (.e (.bin .add (.r p16) (.c (.int .i64 (.ofNat 1)))))⟩, ⟨(some p16), none, (.e (.mv (.r p33)))⟩])))))
noncomputable def B188_2 (E : Env) (r3 r8 r9 : DV) (i2 : DV → H → Ans) (r10 : DV) (h : H) : Ans :=
  vK (v_lss r10 r9) fun x1 =>
  bK x1
  (vK (v_iaS 1 r8 r10) fun x2 =>
  vK (v_ld h.get x2) fun x3 =>
  vK (v_lenL x3) fun x4 =>
  L188_4 E i2 r3 r10 x3 x4 FUEL (.int .i64 (.ofNat 0)) h)
  (J188_1 E h)
noncomputable def L188_2 (E : Env) (r3 r8 r9 : DV) (n : Nat) : DV → H → Ans := Nat.rec (motive := fun _ => DV → H → Ans) (fun _ _ => none) (fun _ i => B188_2 E r3 r8 r9 i) n
def C188_2 : DC := (.loop (.seq (.reg [⟨(some p11), none, (.e (.bin .lss (.r p10) (.r p9)))⟩]) (.seq (.cond (.r p11) .skip (.exit 0)) (.seq (.block 1 (.seq (.reg [⟨(some p12), none, (.e (.iaS 1 (.r p8) (.r p10)))⟩, ⟨(some p13), none, (.e (.ld (.r p12)))⟩, ⟨(some p5), none, (.e (.mv (.r p13)))⟩]) (.seq (.reg [⟨(some p14), none, (.e (.mv (.r p5)))⟩, ⟨(some p15), none, (.e (.lenL (.r p14)))⟩, ⟨(some p16), none, (.e (.mv (.c (.int .i64 (.ofNat 0)))))⟩]) (.block 2 C188_4)))) C188_3))))
noncomputable def J188_0 (E : Env) (r0 : DV) (h : H) : Ans :=
  n_alc 64 64 (.full 64 (.bool false)) h fun x1 h2 =>
  vK (v_lenL r0) fun x3 =>
  L188_2 E x1 r0 x3 FUEL (.int .i64 (.ofNat 0)) h2
def C188_0 : DC := (.seq (.reg [⟨(some p2), none, (.e (.mv (.c (.bool false))))⟩]) (.seq (.reg [⟨(some p3), none, (.e (.alc 64 64 (.full 64 (.bool false))))⟩]) (.seq (.seq (.reg [⟨(some p8), none, (.e (.mv (.r p0)))⟩, ⟨(some p9), none, (.e (.lenL (.r p8)))⟩, ⟨(some p10), none, (.e (.mv (.c (.int .i64 (.ofNat 0)))))⟩]) (.block 0 C188_2)) C188_1)))
theorem I188_1 (E : Env) : Is E C188_1 (retK3 R188) (fun σ h => J188_1 E h) :=
  fun σ h => by kernel_rfl
noncomputable abbrev K188_5 (E : Env) : KT2 (DV × H) := (blockK3 0 (thenK3 (fun σ h => J188_1 E h) (retK3 R188)))
noncomputable abbrev K188_6 (E : Env) (n2 : Nat) : KT2 (DV × H) := (thenK3 (fun σ h => (L188_2 E (σ p3) (σ p8) (σ p9) n2) (σ p10) h) (K188_5 E))
theorem I188_3 (E : Env) (n2 : Nat) : Is E C188_3 (K188_6 E n2) (fun σ h => J188_3 E (L188_2 E (σ p3) (σ p8) (σ p9) n2) (σ p10) h) :=
  fun σ h => by kernel_rfl
noncomputable abbrev K188_7 (E : Env) (n2 : Nat) : KT2 (DV × H) := (thenK3 (fun σ h => J188_3 E (L188_2 E (σ p3) (σ p8) (σ p9) n2) (σ p10) h) (K188_6 E n2))
theorem I188_4 (E : Env) (n2 : Nat) : Is E C188_4 (blockK3 2 (blockK3 1 (K188_7 E n2))) (fun σ h => L188_4 E (L188_2 E (σ p3) (σ p8) (σ p9) n2) (σ p3) (σ p10) (σ p14) (σ p15) FUEL (σ p16) h) :=
  Is.loop (fun n4 σ h => L188_4 E (L188_2 E (σ p3) (σ p8) (σ p9) n2) (σ p3) (σ p10) (σ p14) (σ p15) n4 (σ p16) h) (by kernel_rfl) fun n4 => Is.as (Is.leaf _) fun σ h => by kernel_rfl
theorem I188_2 (E : Env) : Is E C188_2 (K188_5 E) (fun σ h => L188_2 E (σ p3) (σ p8) (σ p9) FUEL (σ p10) h) :=
  Is.loop (fun n2 σ h => L188_2 E (σ p3) (σ p8) (σ p9) n2 (σ p10) h) (by kernel_rfl) fun n2 => Is.as (Is.seq (Is.seq (Is.seq (I188_3 E n2) (Is.block (Is.seq (Is.seq (Is.block (I188_4 E n2)) (Is.leaf _)) (Is.leaf _)))) (Is.leaf _)) (Is.leaf _)) fun σ h => by kernel_rfl
theorem I188_0 (E : Env) : Is E C188_0 (retK3 R188) (fun σ h => J188_0 E (σ p0) h) :=
  Is.as (Is.seq (Is.seq (Is.seq (I188_1 E) (Is.seq (Is.block (I188_2 E)) (Is.leaf _))) (Is.leaf _)) (Is.leaf _)) fun σ h => by kernel_rfl
def D188 : DF := ⟨1, 35, C188_0, R188⟩
noncomputable def S188 (E : Env) : Fun := fun args h => aS args fun r0 args => a0 args (J188_0 E r0 h)
theorem S188_eq (E : Env) (args : List DV) (h : H) : runFn E D188 args h = S188 E args h :=
  Is.fn1 (d := D188) (I188_0 E) rfl (fun r0 h => J188_0 E r0 h) (fun r0 h => by kernel_rfl) args h
/- slices.rotateLeft[hurdle/replies.entry] -/
def R189 : List RV := []
noncomputable def J189_0 (E : Env) (r0 r1 : DV) (h : H) : Ans :=
  vK (v_slL 3 r0 none (some r1)) fun x1 =>
  wK (callK E 217 [x1] h) fun x2 h3 =>
  vK (v_slL 3 r0 (some r1) none) fun x4 =>
  wK (callK E 217 [x4] h3) fun x5 h6 =>
  wK (callK E 217 [r0] h6) fun x7 h8 =>
  some ((.tup []), h8)
def C189_0 : DC := (.seq (.reg [⟨(some p4), none, (.e (.mv (.r p0)))⟩, ⟨(some p5), none, (.e (.mv (.r p1)))⟩, ⟨(some p6), none, (.e (.slL 3 (.r p4) none (some (.r p5))))⟩, ⟨(some p7), none, (.c (.f 217 [(.r p6)]))⟩]) (.seq (.reg [⟨(some p8), none, (.e (.mv (.r p0)))⟩, ⟨(some p9), none, (.e (.mv (.r p1)))⟩, ⟨(some p10), none, (.e (.slL 3 (.r p8) (some (.r p9)) none))⟩, ⟨(some p11), none, (.c (.f 217 [(.r p10)]))⟩]) (.reg [⟨(some p12), none, (.e (.mv (.r p0)))⟩, ⟨(some p13), none, (.c (.f 217 [(.r p12)]))⟩])))
theorem I189_0 (E : Env) : Is E C189_0 (retK3 R189) (fun σ h => J189_0 E (σ p0) (σ p1) h) :=
  fun σ h => by kernel_rfl
def D189 : DF := ⟨2, 14, C189_0, R189⟩
noncomputable def S189 (E : Env) : Fun := fun args h => aS args fun r0 args => aS args fun r1 args => a0 args (J189_0 E r0 r1 h)
theorem S189_eq (E : Env) (args : List DV) (h : H) : runFn E D189 args h = S189 E args h :=
  Is.fn2 (d := D189) (I189_0 E) rfl (fun r0 r1 h => J189_0 E r0 r1 h) (fun r0 r1 h => by kernel_rfl) args h
/- hurdle/smap.may -/
def R190 : List RV := [(.r p2)]
noncomputable def J190_0 (E : Env) (r0 : DV) (h : H) : Ans :=
  n_box r0 h fun x1 h2 =>
  vK (v_fa 2 x1) fun x3 =>
  vK (v_ld h2.get x3) fun x4 =>
  vK (v_geq x4 (.int .i64 (.ofNat 0))) fun x5 =>
  gdK x5 true (fun kk => vK (v_fa 2 x1) fun v => kk v h2) h2 fun x6 h7 =>
  gdK x5 true (fun kk => vK (v_ld h7.get x6) fun v => kk v h7) h7 fun x8 h9 =>
  gdK x5 true (fun kk => vK (v_lss x8 (.int .i64 (.ofNat 16))) fun v => kk v h9) h9 fun x10 h11 =>
  vK (v_pick x5 x10 (.bool false)) fun x12 =>
  gdK x12 true (fun kk => vK (v_fa 3 x1) fun v => kk v h11) h11 fun x13 h14 =>
  gdK x12 true (fun kk => vK (v_ld h14.get x13) fun v => kk v h14) h14 fun x15 h16 =>
  gdK x12 true (fun kk => vK (v_geq x15 (.int .i64 (.ofNat 1))) fun v => kk v h16) h16 fun x17 h18 =>
  vK (v_pick x12 x17 (.bool false)) fun x19 =>
  gdK x19 true (fun kk => vK (v_fa 4 x1) fun v => kk v h18) h18 fun x20 h21 =>
  gdK x19 true (fun kk => vK (v_ld h21.get x20) fun v => kk v h21) h21 fun x22 h23 =>
  gdK x19 true (fun kk => vK (v_geq x22 (.int .i64 (.ofNat 0))) fun v => kk v h23) h23 fun x24 h25 =>
  vK (v_pick x19 x24 (.bool false)) fun x26 =>
  gdK x26 true (fun kk => vK (v_fa 4 x1) fun v => kk v h25) h25 fun x27 h28 =>
  gdK x26 true (fun kk => vK (v_ld h28.get x27) fun v => kk v h28) h28 fun x29 h30 =>
  gdK x26 true (fun kk => vK (v_leq x29 (.int .i64 (.ofNat 65536))) fun v => kk v h30) h30 fun x31 h32 =>
  vK (v_pick x26 x31 (.bool false)) fun x33 =>
  gdK x33 true (fun kk => vK (v_fa 5 x1) fun v => kk v h32) h32 fun x34 h35 =>
  gdK x33 true (fun kk => vK (v_ld h35.get x34) fun v => kk v h35) h35 fun x36 h37 =>
  gdK x33 true (fun kk => wK (callK E 218 [x36] h37) kk) h37 fun x38 h39 =>
  vK (v_pick x33 x38 (.bool false)) fun x40 =>
  some (x40, h39)
def C190_0 : DC := (.seq (.reg [⟨(some p1), none, (.e (.box (.r p0)))⟩, ⟨(some p2), none, (.e (.mv (.c (.bool false))))⟩]) (.seq (.reg [⟨(some p3), none, (.e (.fa 2 (.r p1)))⟩, ⟨(some p4), none, (.e (.ld (.r p3)))⟩, ⟨(some p5), none, (.e (.bin .geq (.r p4) (.c (.int .i64 (.ofNat 0)))))⟩, ⟨(some p6), none, (.e (.mv (.r p5)))⟩, ⟨(some p7), (some (p6, true)), (.e (.fa 2 (.r p1)))⟩, ⟨(some p8), (some (p6, true)), (.e (.ld (.r p7)))⟩, ⟨(some p9), (some (p6, true)), (.e (.bin .lss (.r p8) (.c (.int .i64 (.ofNat 16)))))⟩, ⟨(some p10), none, (.e (.pick (.r p6) (.r p9) (.c (.bool false))))⟩, ⟨(some p11), none, (.e (.mv (.r p10)))⟩, ⟨(some p12), (some (p11, true)), (.e (.fa 3 (.r p1)))⟩, ⟨(some p13), (some (p11, true)), (.e (.ld (.r p12)))⟩, ⟨(some p14), (some (p11, true)), (.e (.bin .geq (.r p13) (.c (.int .i64 (.ofNat 1)))))⟩, ⟨(some p15), none, (.e (.pick (.r p11) (.r p14) (.c (.bool false))))⟩, ⟨(some p16), none, (.e (.mv (.r p15)))⟩, ⟨(some p17), (some (p16, true)), (.e (.fa 4 (.r p1)))⟩, ⟨(some p18), (some (p16, true)), (.e (.ld (.r p17)))⟩, ⟨(some p19), (some (p16, true)), (.e (.bin .geq (.r p18) (.c (.int .i64 (.ofNat 0)))))⟩, ⟨(some p20), none, (.e (.pick (.r p16) (.r p19) (.c (.bool false))))⟩, ⟨(some p21), none, (.e (.mv (.r p20)))⟩, ⟨(some p22), (some (p21, true)), (.e (.fa 4 (.r p1)))⟩, ⟨(some p23), (some (p21, true)), (.e (.ld (.r p22)))⟩, ⟨(some p24), (some (p21, true)), (.e (.bin .leq (.r p23) (.c (.int .i64 (.ofNat 65536)))))⟩, ⟨(some p25), none, (.e (.pick (.r p21) (.r p24) (.c (.bool false))))⟩, ⟨(some p26), none, (.e (.mv (.r p25)))⟩, ⟨(some p27), (some (p26, true)), (.e (.fa 5 (.r p1)))⟩, ⟨(some p28), (some (p26, true)), (.e (.ld (.r p27)))⟩, ⟨(some p29), (some (p26, true)), (.c (.f 218 [(.r p28)]))⟩, ⟨(some p30), none, (.e (.pick (.r p26) (.r p29) (.c (.bool false))))⟩, ⟨(some p2), none, (.e (.mv (.r p30)))⟩]) .ret))
theorem I190_0 (E : Env) : Is E C190_0 (retK3 R190) (fun σ h => J190_0 E (σ p0) h) :=
  fun σ h => by kernel_rfl
def D190 : DF := ⟨1, 31, C190_0, R190⟩
noncomputable def S190 (E : Env) : Fun := fun args h => aS args fun r0 args => a0 args (J190_0 E r0 h)
theorem S190_eq (E : Env) (args : List DV) (h : H) : runFn E D190 args h = S190 E args h :=
  Is.fn1 (d := D190) (I190_0 E) rfl (fun r0 h => J190_0 E r0 h) (fun r0 h => by kernel_rfl) args h
/- hurdle/usage.errno -/
def R191 : List RV := [(.r p2)]
noncomputable def J191_0 (E : Env) (r0 : DV) (h : H) : Ans :=
  vK (v_bld [(.int .i64 (.ofNat 0))] []) fun x1 =>
  wK (callK E 219 [r0, (.ifc 297 x1)] h) fun x2 h3 =>
  vK (v_not x2) fun x4 =>
  bK x4
  (some ((.int .i64 (.ofNat 0)), h3))
  (vK (v_tas 297 (.agg [(.int .i64 (.ofNat 0))]) true r0) fun x5 =>
  vK (v_ext 0 x5) fun x6 =>
  vK (v_ext 1 x5) fun x7 =>
  n_alc 1 1 (.list [(.int .i64 (.ofNat 0))]) h3 fun x8 h9 =>
  wK (dStF 1 x8 x6 h9) fun x10 h11 =>
  vK (v_fa 0 x8) fun x12 =>
  vK (v_ld h11.get x12) fun x13 =>
  some (x13, h11))
def C191_0 : DC := (.seq (.reg [⟨(some p2), none, (.e (.mv (.c (.int .i64 (.ofNat 0)))))⟩]) (.seq (.seq (.reg [⟨(some p5), none, (.e (.mv (.r p0)))⟩, ⟨(some p6), none, (.e (.bld [(.int .i64 (.ofNat 0))] []))⟩, ⟨(some p7), none, (.e (.mkI 297 (.r p6)))⟩, ⟨(some p8), none, (.c (.f 219 [(.r p5), (.r p7)]))⟩, ⟨(some p9), none, (.e (.not (.r p8)))⟩]) (.cond (.r p9) (.seq (.reg [⟨(some p2), none, (.e (.mv (.c (.int .i64 (.ofNat 0)))))⟩]) .ret) .skip)) (.seq (.reg [⟨(some p11), none, (.e (.mv (.r p0)))⟩, ⟨(some p12), none, (.e (.tas 297 (.agg [(.int .i64 (.ofNat 0))]) true (.r p11)))⟩, ⟨(some p10), none, (.e (.mv (.r p12)))⟩, ⟨(some p13), none, (.e (.ext 0 (.r p10)))⟩, ⟨(some p14), none, (.e (.ext 1 (.r p10)))⟩, ⟨(some p3), none, (.e (.alc 1 1 (.list [(.int .i64 (.ofNat 0))])))⟩, ⟨none, none, (.w (.st 1 (.r p3) (.r p13)))⟩, ⟨(some p4), none, (.e (.mv (.r p14)))⟩]) (.seq (.reg [⟨(some p15), none, (.e (.fa 0 (.r p3)))⟩, ⟨(some p16), none, (.e (.ld (.r p15)))⟩, ⟨(some p2), none, (.e (.mv (.r p16)))⟩]) .ret))))
theorem I191_0 (E : Env) : Is E C191_0 (retK3 R191) (fun σ h => J191_0 E (σ p0) h) :=
  fun σ h => by kernel_rfl
def D191 : DF := ⟨1, 17, C191_0, R191⟩
noncomputable def S191 (E : Env) : Fun := fun args h => aS args fun r0 args => a0 args (J191_0 E r0 h)
theorem S191_eq (E : Env) (args : List DV) (h : H) : runFn E D191 args h = S191 E args h :=
  Is.fn1 (d := D191) (I191_0 E) rfl (fun r0 h => J191_0 E r0 h) (fun r0 h => by kernel_rfl) args h
/- (*hurdle/usage.Usage).add -/
def R192 : List RV := [(.r p4)]
noncomputable def J192_0 (E : Env) (r0 r1 : DV) (h : H) : Ans :=
  n_box r1 h fun x1 h2 =>
  vK (v_eqv .ptr false h2.get r0 .nilp) fun x3 =>
  gdK x3 false (fun kk => vK (v_fa 0 x1) fun v => kk v h2) h2 fun x4 h5 =>
  gdK x3 false (fun kk => vK (v_ld h5.get x4) fun v => kk v h5) h5 fun x6 h7 =>
  gdK x3 false (fun kk => vK (v_lss x6 (.int .i64 (.ofNat 0))) fun v => kk v h7) h7 fun x8 h9 =>
  vK (v_pick x3 (.bool true) x8) fun x10 =>
  gdK x10 false (fun kk => vK (v_fa 0 x1) fun v => kk v h9) h9 fun x11 h12 =>
  gdK x10 false (fun kk => vK (v_ld h12.get x11) fun v => kk v h12) h12 fun x13 h14 =>
  gdK x10 false (fun kk => vK (v_geq x13 (.int .i64 (.ofNat 4096))) fun v => kk v h14) h14 fun x15 h16 =>
  vK (v_pick x10 (.bool true) x15) fun x17 =>
  gdK x17 false (fun kk => vK (v_ldN 4 h16.get x1) fun v => kk v h16) h16 fun x18 h19 =>
  gdK x17 false (fun kk => wK (callK E 220 [x18] h19) kk) h19 fun x20 h21 =>
  gdK x17 false (fun kk => vK (v_not x20) fun v => kk v h21) h21 fun x22 h23 =>
  vK (v_pick x17 (.bool true) x22) fun x24 =>
  bK x24
  (vK (v_bld [(.int .i64 (.ofNat 0))] [(0, 1, (.int .i64 (.ofNat 1)))]) fun x25 =>
  some ((.ifc 297 x25), h23))
  (vK (v_fa 0 x1) fun x26 =>
  vK (v_ld h23.get x26) fun x27 =>
  wK (callK E 193 [r0, x27] h23) fun x28 h29 =>
  vK (v_ext 0 x28) fun x30 =>
  vK (v_ext 1 x28) fun x31 =>
  bK x31
  (vK (v_bld [(.int .i64 (.ofNat 0))] [(0, 1, (.int .i64 (.ofNat 6)))]) fun x32 =>
  some ((.ifc 297 x32), h29))
  (vK (v_nilchk r0) fun x33 =>
  vK (v_fa 0 x33) fun x34 =>
  vK (v_ld h29.get x34) fun x35 =>
  vK (v_ldN 4 h29.get x1) fun x36 =>
  n_bsl 1 4 [(.int .i64 (.ofNat 0)), (.int .i64 (.ofNat 0)), (.int .i64 (.ofNat 0)), (.int .i64 (.ofNat 0))] [(0, 4, x36)] h29 fun x37 h38 =>
  wK (callK E 221 [x35, x30, x37] h38) fun x39 h40 =>
  vK (v_nilchk r0) fun x41 =>
  vK (v_fa 0 x41) fun x42 =>
  wK (dStF 1 x42 x39 h40) fun x43 h44 =>
  some (.nili, h44)))
def C192_0 : DC := (.seq (.reg [⟨(some p3), none, (.e (.box (.r p1)))⟩, ⟨(some p4), none, (.e (.mv (.c .nili)))⟩]) (.seq (.seq (.reg [⟨(some p7), none, (.e (.mv (.r p0)))⟩, ⟨(some p8), none, (.e (.eqv .ptr false (.r p7) (.c .nilp)))⟩, ⟨(some p9), none, (.e (.mv (.r p8)))⟩, ⟨(some p10), (some (p9, false)), (.e (.fa 0 (.r p3)))⟩, ⟨(some p11), (some (p9, false)), (.e (.ld (.r p10)))⟩, ⟨(some p12), (some (p9, false)), (.e (.bin .lss (.r p11) (.c (.int .i64 (.ofNat 0)))))⟩, ⟨(some p13), none, (.e (.pick (.r p9) (.c (.bool true)) (.r p12)))⟩, ⟨(some p14), none, (.e (.mv (.r p13)))⟩, ⟨(some p15), (some (p14, false)), (.e (.fa 0 (.r p3)))⟩, ⟨(some p16), (some (p14, false)), (.e (.ld (.r p15)))⟩, ⟨(some p17), (some (p14, false)), (.e (.bin .geq (.r p16) (.c (.int .i64 (.ofNat 4096)))))⟩, ⟨(some p18), none, (.e (.pick (.r p14) (.c (.bool true)) (.r p17)))⟩, ⟨(some p19), none, (.e (.mv (.r p18)))⟩, ⟨(some p20), (some (p19, false)), (.e (.ldN 4 (.r p3)))⟩, ⟨(some p21), (some (p19, false)), (.c (.f 220 [(.r p20)]))⟩, ⟨(some p22), (some (p19, false)), (.e (.not (.r p21)))⟩, ⟨(some p23), none, (.e (.pick (.r p19) (.c (.bool true)) (.r p22)))⟩]) (.cond (.r p23) (.seq (.reg [⟨(some p24), none, (.e (.bld [(.int .i64 (.ofNat 0))] [(0, 1, (.c (.int .i64 (.ofNat 1))))]))⟩, ⟨(some p25), none, (.e (.mkI 297 (.r p24)))⟩, ⟨(some p4), none, (.e (.mv (.r p25)))⟩]) .ret) .skip)) (.seq (.reg [⟨(some p27), none, (.e (.mv (.r p0)))⟩, ⟨(some p28), none, (.e (.fa 0 (.r p3)))⟩, ⟨(some p29), none, (.e (.ld (.r p28)))⟩, ⟨(some p30), none, (.c (.f 193 [(.r p27), (.r p29)]))⟩, ⟨(some p26), none, (.e (.mv (.r p30)))⟩, ⟨(some p31), none, (.e (.ext 0 (.r p26)))⟩, ⟨(some p32), none, (.e (.ext 1 (.r p26)))⟩, ⟨(some p5), none, (.e (.mv (.r p31)))⟩, ⟨(some p6), none, (.e (.mv (.r p32)))⟩]) (.seq (.seq (.reg [⟨(some p33), none, (.e (.mv (.r p6)))⟩]) (.cond (.r p33) (.seq (.reg [⟨(some p34), none, (.e (.bld [(.int .i64 (.ofNat 0))] [(0, 1, (.c (.int .i64 (.ofNat 6))))]))⟩, ⟨(some p35), none, (.e (.mkI 297 (.r p34)))⟩, ⟨(some p4), none, (.e (.mv (.r p35)))⟩]) .ret) .skip)) (.seq (.drg [⟨0, ⟨(some p36), none, (.e (.mv (.r p0)))⟩, [], false⟩, ⟨1, ⟨(some p37), none, (.e (.mv (.r p0)))⟩, [], false⟩, ⟨2, ⟨(some p38), none, (.e (.nilchk (.r p37)))⟩, [], false⟩, ⟨3, ⟨(some p39), none, (.e (.fa 0 (.r p38)))⟩, [], false⟩, ⟨4, ⟨(some p40), none, (.e (.ld (.r p39)))⟩, [], false⟩, ⟨5, ⟨(some p41), none, (.e (.mv (.r p5)))⟩, [], false⟩, ⟨6, ⟨(some p42), none, (.e (.ldN 4 (.r p3)))⟩, [], false⟩, ⟨7, ⟨(some p43), none, (.e (.bsl 1 4 [(.int .i64 (.ofNat 0)), (.int .i64 (.ofNat 0)), (.int .i64 (.ofNat 0)), (.int .i64 (.ofNat 0))] [(0, 4, (.r p42))]))⟩, [], false⟩, ⟨8, ⟨(some p44), none, (.c (.f 221 [(.r p40), (.r p41), (.r p43)]))⟩, [], false⟩, ⟨9, ⟨(some p45), none, (.e (.nilchk (.r p36)))⟩, [], false⟩, ⟨10, ⟨(some p46), none, (.e (.fa 0 (.r p45)))⟩, [], false⟩, ⟨11, ⟨none, none, (.w (.st 1 (.r p46) (.r p44)))⟩, [], false⟩]) (.seq (.reg [⟨(some p4), none, (.e (.mv (.c .nili)))⟩]) .ret))))))
theorem I192_0 (E : Env) : Is E C192_0 (retK3 R192) (fun σ h => J192_0 E (σ p0) (σ p1) h) :=
  fun σ h => by kernel_rfl
def D192 : DF := ⟨2, 47, C192_0, R192⟩
noncomputable def S192 (E : Env) : Fun := fun args h => aS args fun r0 args => aS args fun r1 args => a0 args (J192_0 E r0 r1 h)
theorem S192_eq (E : Env) (args : List DV) (h : H) : runFn E D192 args h = S192 E args h :=
  Is.fn2 (d := D192) (I192_0 E) rfl (fun r0 r1 h => J192_0 E r0 r1 h) (fun r0 r1 h => by kernel_rfl) args h
/- (*hurdle/usage.Usage).find -/
def R193 : List RV := [(.r p4), (.r p5)]
noncomputable def J193_0 (E : Env) (r0 r1 : DV) (h : H) : Ans :=
  vK (v_nilchk r0) fun x1 =>
  vK (v_fa 0 x1) fun x2 =>
  vK (v_ld h.get x2) fun x3 =>
  wK (callK E 222 [x3, r1, (.fn (.func 223) [] [])] h) fun x4 h5 =>
  vK (v_ext 0 x4) fun x6 =>
  vK (v_ext 1 x4) fun x7 =>
  some ((.tup [x6, x7]), h5)
def C193_0 : DC := (.seq (.reg [⟨(some p4), none, (.e (.mv (.c (.int .i64 (.ofNat 0)))))⟩, ⟨(some p5), none, (.e (.mv (.c (.bool false))))⟩]) (.seq (.reg [⟨(some p6), none, (.e (.mv (.r p0)))⟩, ⟨(some p7), none, (.e (.nilchk (.r p6)))⟩, ⟨(some p8), none, (.e (.fa 0 (.r p7)))⟩, ⟨(some p9), none, (.e (.ld (.r p8)))⟩, ⟨(some p10), none, (.e (.mv (.r p1)))⟩, ⟨(some p11), none, (.c (.f 222 [(.r p9), (.r p10), (.c (.fn (.func 223) [] []))]))⟩, ⟨(some p12), none, (.e (.ext 0 (.r p11)))⟩, ⟨(some p13), none, (.e (.ext 1 (.r p11)))⟩, ⟨(some p4), none, (.e (.mv (.r p12)))⟩, ⟨(some p5), none, (.e (.mv (.r p13)))⟩]) .ret))
theorem I193_0 (E : Env) : Is E C193_0 (retK3 R193) (fun σ h => J193_0 E (σ p0) (σ p1) h) :=
  fun σ h => by kernel_rfl
def D193 : DF := ⟨2, 14, C193_0, R193⟩
noncomputable def S193 (E : Env) : Fun := fun args h => aS args fun r0 args => aS args fun r1 args => a0 args (J193_0 E r0 r1 h)
theorem S193_eq (E : Env) (args : List DV) (h : H) : runFn E D193 args h = S193 E args h :=
  Is.fn2 (d := D193) (I193_0 E) rfl (fun r0 r1 h => J193_0 E r0 r1 h) (fun r0 r1 h => by kernel_rfl) args h
/- slices.Delete[[]hurdle/api.Use,hurdle/api.Use] -/
def R194 : List RV := [(.r p6)]
noncomputable def J194_0 (E : Env) (r0 r1 r2 : DV) (h : H) : Ans :=
  vK (v_lenL r0) fun x1 =>
  vK (v_slM 4 r0 (some r1) r2 x1) fun x2 =>
  vK (v_eql r1 r2) fun x3 =>
  bK x3
  (some (r0, h))
  (vK (v_lenL r0) fun x4 =>
  vK (v_slL 4 r0 none (some r1)) fun x5 =>
  vK (v_slL 4 r0 (some r2) none) fun x6 =>
  wK (dAppendF 4 32 x5 x6 h) fun x7 h8 =>
  vK (v_lenL x7) fun x9 =>
  vK (v_slL 4 x7 (some x9) (some x4)) fun x10 =>
  wK (dClear [(.int .i64 (.ofNat 0)), (.int .i64 (.ofNat 0)), (.int .i64 (.ofNat 0)), (.int .i64 (.ofNat 0))] x10 h8) fun x11 h12 =>
  some (x7, h12))
def C194_0 : DC := (.seq (.reg [⟨(some p6), none, (.e (.mv (.c .nils)))⟩]) (.seq (.reg [⟨(some p8), none, (.e (.mv (.r p0)))⟩, ⟨(some p9), none, (.e (.mv (.r p1)))⟩, ⟨(some p10), none, (.e (.mv (.r p2)))⟩, ⟨(some p11), none, (.e (.mv (.r p0)))⟩, ⟨(some p12), none, (.e (.lenL (.r p11)))⟩, ⟨(some p13), none, (.e (.slM 4 (.r p8) (some (.r p9)) (.r p10) (.r p12)))⟩]) (.seq (.seq (.reg [⟨(some p14), none, (.e (.mv (.r p1)))⟩, ⟨(some p15), none, (.e (.mv (.r p2)))⟩, ⟨(some p16), none, (.e (.bin .eql (.r p14) (.r p15)))⟩]) (.cond (.r p16) (.seq (.reg [⟨(some p17), none, (.e (.mv (.r p0)))⟩, ⟨(some p6), none, (.e (.mv (.r p17)))⟩]) .ret) .skip)) (.seq (.reg [⟨(some p18), none, (.e (.mv (.r p0)))⟩, ⟨(some p19), none, (.e (.lenL (.r p18)))⟩, ⟨(some p7), none, (.e (.mv (.r p19)))⟩]) (.seq (.drg [⟨0, ⟨(some p20), none, (.e (.mv (.r p0)))⟩, [], false⟩, ⟨1, ⟨(some p21), none, (.e (.mv (.r p1)))⟩, [], false⟩, ⟨2, ⟨(some p22), none, (.e (.slL 4 (.r p20) none (some (.r p21))))⟩, [], false⟩, ⟨3, ⟨(some p23), none, (.e (.mv (.r p0)))⟩, [], false⟩, ⟨4, ⟨(some p24), none, (.e (.mv (.r p2)))⟩, [], false⟩, ⟨5, ⟨(some p25), none, (.e (.slL 4 (.r p23) (some (.r p24)) none))⟩, [], false⟩, ⟨6, ⟨(some p26), none, (.w (.app 4 32 (.r p22) (.r p25)))⟩, [], false⟩, ⟨7, ⟨(some p0), none, (.e (.mv (.r p26)))⟩, [], true⟩]) (.seq (.reg [⟨(some p27), none, (.e (.mv (.r p0)))⟩, ⟨(some p28), none, (.e (.mv (.r p0)))⟩, ⟨(some p29), none, (.e (.lenL (.r p28)))⟩, ⟨(some p30), none, (.e (.mv (.r p7)))⟩, ⟨(some p31), none, (.e (.slL 4 (.r p27) (some (.r p29)) (some (.r p30))))⟩, ⟨none, none, (.w (.clr [(.int .i64 (.ofNat 0)), (.int .i64 (.ofNat 0)), (.int .i64 (.ofNat 0)), (.int .i64 (.ofNat 0))] (.r p31)))⟩]) (.seq (.reg [⟨(some p32), none, (.e (.mv (.r p0)))⟩, ⟨(some p6), none, (.e (.mv (.r p32)))⟩]) .ret)))))))
theorem I194_0 (E : Env) : Is E C194_0 (retK3 R194) (fun σ h => J194_0 E (σ p0) (σ p1) (σ p2) h) :=
  fun σ h => by kernel_rfl
def D194 : DF := ⟨3, 33, C194_0, R194⟩
noncomputable def S194 (E : Env) : Fun := fun args h => aS args fun r0 args => aS args fun r1 args => aS args fun r2 args => a0 args (J194_0 E r0 r1 r2 h)
theorem S194_eq (E : Env) (args : List DV) (h : H) : runFn E D194 args h = S194 E args h :=
  Is.fn3 (d := D194) (I194_0 E) rfl (fun r0 r1 r2 h => J194_0 E r0 r1 r2 h) (fun r0 r1 r2 h => by kernel_rfl) args h
/- hurdle/sums.More -/
def R205 : List RV := [(.r p4)]
noncomputable def J205_1 (E : Env) (r5 : DV) (h : H) : Ans :=
  vK (v_xor (.int .u32 (.ofNat 4294967295)) r5) fun x1 =>
  some (x1, h)
def C205_1 : DC := (.seq (.reg [⟨(some p22), none, (.e (.mv (.r p5)))⟩, ⟨(some p23), none, (.e (.bin .xor (.c (.int .u32 (.ofNat 4294967295))) (.r p22)))⟩, ⟨(some p4), none, (.e (.mv (.r p23)))⟩]) .ret)
noncomputable def B205_2 (E : Env) (r1 r10 : DV) (i2 : DV → DV → H → Ans) (r5 r11 : DV) (h : H) : Ans :=
  vK (v_lss r11 r10) fun x1 =>
  bK x1
  (vK (v_ixS r1 r11) fun x2 =>
  vK (v_conv .u32 x2) fun x3 =>
  vK (v_xor r5 x3) fun x4 =>
  wK (callK E 229 [x4] h) fun x5 h6 =>
  vK (v_add r11 (.int .i64 (.ofNat 1))) fun x7 =>
  i2 x5 x7 h6)
  (J205_1 E r5 h)
noncomputable def L205_2 (E : Env) (r1 r10 : DV) (n : Nat) : DV → DV → H → Ans := Nat.rec (motive := fun _ => DV → DV → H → Ans) (fun _ _ _ => none) (fun _ i => B205_2 E r1 r10 i) n
def C205_2 : DC := (.loop (.seq (.reg [⟨(some p12), none, (.e (.bin .lss (.r p11) (.r p10)))⟩]) (.seq (.cond (.r p12) .skip (.exit 0)) (.seq (.block 1 (.seq (.reg [⟨(some p13), none, (.e (.mv (.r p11)))⟩, ⟨(some p6), none, (.e (.mv (.r p13)))⟩]) (.reg [⟨(some p14), none, (.e (.mv (.r p5)))⟩, ⟨(some p15), none, (.e (.mv (.r p1)))⟩, ⟨(some p16), none, (.e (.mv (.r p6)))⟩, ⟨(some p17), none, (.e (.ixS (.r p15) (.r p16)))⟩, ⟨(some p18), none, (.e (.conv .u32 (.r p17)))⟩, ⟨(some p19), none, (.e (.bin .xor (.r p14) (.r p18)))⟩, ⟨(some p20), none, (.c (.f 229 [(.r p19)]))⟩, ⟨(some p5), none, (.e (.mv (.r p20)))⟩]))) (.reg [⟨(some p21), none, (.e (.bin .add (.r p11) (.c (.int .i64 (.ofNat 1)))))⟩, ⟨(some p11), none, (.e (.mv (.r p21)))⟩])))))
noncomputable def J205_0 (E : Env) (r0 r1 : DV) (h : H) : Ans :=
  vK (v_xor (.int .u32 (.ofNat 4294967295)) r0) fun x1 =>
  vK (v_lenS r1) fun x2 =>
  L205_2 E r1 x2 FUEL x1 (.int .i64 (.ofNat 0)) h
def C205_0 : DC := (.seq (.reg [⟨(some p4), none, (.e (.mv (.c (.int .u32 (.ofNat 0)))))⟩]) (.seq (.reg [⟨(some p7), none, (.e (.mv (.r p0)))⟩, ⟨(some p8), none, (.e (.bin .xor (.c (.int .u32 (.ofNat 4294967295))) (.r p7)))⟩, ⟨(some p5), none, (.e (.mv (.r p8)))⟩]) (.seq (.seq (.reg [⟨(some p9), none, (.e (.mv (.r p1)))⟩, ⟨(some p10), none, (.e (.lenS (.r p9)))⟩, ⟨(some p11), none, (.e (.mv (.c (.int .i64 (.ofNat 0)))))⟩]) (.block 0 C205_2)) C205_1)))
theorem I205_1 (E : Env) : Is E C205_1 (retK3 R205) (fun σ h => J205_1 E (σ p5) h) :=
  fun σ h => by kernel_rfl
noncomputable abbrev K205_3 (E : Env) : KT2 (DV × H) := (thenK3 (fun σ h => J205_1 E (σ p5) h) (retK3 R205))
theorem I205_2 (E : Env) : Is E C205_2 (blockK3 0 (K205_3 E)) (fun σ h => L205_2 E (σ p1) (σ p10) FUEL (σ p5) (σ p11) h) :=
  Is.loop (fun n2 σ h => L205_2 E (σ p1) (σ p10) n2 (σ p5) (σ p11) h) (by kernel_rfl) fun n2 => Is.as (Is.leaf _) fun σ h => by kernel_rfl
theorem I205_0 (E : Env) : Is E C205_0 (retK3 R205) (fun σ h => J205_0 E (σ p0) (σ p1) h) :=
  Is.as (Is.seq (Is.seq (Is.seq (I205_1 E) (Is.seq (Is.block (I205_2 E)) (Is.leaf _))) (Is.leaf _)) (Is.leaf _)) fun σ h => by kernel_rfl
def D205 : DF := ⟨2, 24, C205_0, R205⟩
noncomputable def S205 (E : Env) : Fun := fun args h => aS args fun r0 args => aS args fun r1 args => a0 args (J205_0 E r0 r1 h)
theorem S205_eq (E : Env) (args : List DV) (h : H) : runFn E D205 args h = S205 E args h :=
  Is.fn2 (d := D205) (I205_0 E) rfl (fun r0 r1 h => J205_0 E r0 r1 h) (fun r0 r1 h => by kernel_rfl) args h
/- hurdle/sums.four -/
def R206 : List RV := [(.r p2)]
noncomputable def J206_0 (E : Env) (r0 : DV) (h : H) : Ans :=
  vK (v_conv .u8 r0) fun x1 =>
  vK (v_shr r0 (.int .u64 (.ofNat 8))) fun x2 =>
  vK (v_conv .u8 x2) fun x3 =>
  vK (v_shr r0 (.int .u64 (.ofNat 16))) fun x4 =>
  vK (v_conv .u8 x4) fun x5 =>
  vK (v_shr r0 (.int .u64 (.ofNat 24))) fun x6 =>
  vK (v_conv .u8 x6) fun x7 =>
  n_bsl 4 1 [(.int .u8 (.ofNat 0))] [(0, 1, x1), (1, 1, x3), (2, 1, x5), (3, 1, x7)] h fun x8 h9 =>
  vK (v_b2s h9.get x8) fun x10 =>
  some (x10, h9)
def C206_0 : DC := (.seq (.reg [⟨(some p2), none, (.e (.mv (.c (.str []))))⟩]) (.seq (.reg [⟨(some p3), none, (.e (.mv (.r p0)))⟩, ⟨(some p4), none, (.e (.conv .u8 (.r p3)))⟩, ⟨(some p5), none, (.e (.mv (.r p0)))⟩, ⟨(some p6), none, (.e (.bin .shr (.r p5) (.c (.int .u64 (.ofNat 8)))))⟩, ⟨(some p7), none, (.e (.conv .u8 (.r p6)))⟩, ⟨(some p8), none, (.e (.mv (.r p0)))⟩, ⟨(some p9), none, (.e (.bin .shr (.r p8) (.c (.int .u64 (.ofNat 16)))))⟩, ⟨(some p10), none, (.e (.conv .u8 (.r p9)))⟩, ⟨(some p11), none, (.e (.mv (.r p0)))⟩, ⟨(some p12), none, (.e (.bin .shr (.r p11) (.c (.int .u64 (.ofNat 24)))))⟩, ⟨(some p13), none, (.e (.conv .u8 (.r p12)))⟩, ⟨(some p14), none, (.e (.bsl 4 1 [(.int .u8 (.ofNat 0))] [(0, 1, (.r p4)), (1, 1, (.r p7)), (2, 1, (.r p10)), (3, 1, (.r p13))]))⟩, ⟨(some p15), none, (.e (.b2s (.r p14)))⟩, ⟨(some p2), none, (.e (.mv (.r p15)))⟩]) .ret))
theorem I206_0 (E : Env) : Is E C206_0 (retK3 R206) (fun σ h => J206_0 E (σ p0) h) :=
  fun σ h => by kernel_rfl
def D206 : DF := ⟨1, 16, C206_0, R206⟩
noncomputable def S206 (E : Env) : Fun := fun args h => aS args fun r0 args => a0 args (J206_0 E r0 h)
theorem S206_eq (E : Env) (args : List DV) (h : H) : runFn E D206 args h = S206 E args h :=
  Is.fn1 (d := D206) (I206_0 E) rfl (fun r0 h => J206_0 E r0 h) (fun r0 h => by kernel_rfl) args h
/- slices.insertionSortCmpFunc[hurdle/api.Place] -/
def R207 : List RV := []
noncomputable def J207_2 (E : Env) (i1 : DV → H → Ans) (r8 : DV) (h : H) : Ans :=
  vK (v_add r8 (.int .i64 (.ofNat 1))) fun x1 =>
  i1 x1 h
def C207_2 : DC := (.reg [⟨(some p15), none, (.e (.mv (.r p8)))⟩, ⟨(some p16), none, (.e (.bin .add (.r p15) (.c (.int .i64 (.ofNat 1)))))⟩, ⟨(some p8), none, (.e (.mv (.r p16)))⟩])
noncomputable def B207_3 (E : Env) (i1 : DV → H → Ans) (r0 r1 r3 r8 : DV) (i3 : DV → H → Ans) (r9 : DV) (h : H) : Ans :=
  vK (v_gtr r9 r1) fun x1 =>
  gdK x1 true (fun kk => kk r3 h) h fun x2 h3 =>
  gdK x1 true (fun kk => kk r0 h3) h3 fun x4 h5 =>
  gdK x1 true (fun kk => kk r9 h5) h5 fun x6 h7 =>
  gdK x1 true (fun kk => vK (v_iaS 2 x4 x6) fun v => kk v h7) h7 fun x8 h9 =>
  gdK x1 true (fun kk => vK (v_ldN 2 h9.get x8) fun v => kk v h9) h9 fun x10 h11 =>
  gdK x1 true (fun kk => kk r0 h11) h11 fun x12 h13 =>
  gdK x1 true (fun kk => kk r9 h13) h13 fun x14 h15 =>
  gdK x1 true (fun kk => vK (v_sub x14 (.int .i64 (.ofNat 1))) fun v => kk v h15) h15 fun x16 h17 =>
  gdK x1 true (fun kk => vK (v_iaS 2 x12 x16) fun v => kk v h17) h17 fun x18 h19 =>
  gdK x1 true (fun kk => vK (v_ldN 2 h19.get x18) fun v => kk v h19) h19 fun x20 h21 =>
  gdK x1 true (fun kk => wK (c_val E x2 [x10, x20] h21) kk) h21 fun x22 h23 =>
  gdK x1 true (fun kk => vK (v_lss x22 (.int .i64 (.ofNat 0))) fun v => kk v h23) h23 fun x24 h25 =>
  vK (v_pick x1 x24 (.bool false)) fun x26 =>
  bK x26
  (vK (v_sub r9 (.int .i64 (.ofNat 1))) fun x27 =>
  vK (v_sub r9 (.int .i64 (.ofNat 1))) fun x28 =>
  vK (v_iaS 2 r0 x28) fun x29 =>
  vK (v_ldN 2 h25.get x29) fun x30 =>
  vK (v_iaS 2 r0 r9) fun x31 =>
  vK (v_ldN 2 h25.get x31) fun x32 =>
  vK (v_iaS 2 r0 r9) fun x33 =>
  wK (dStF 2 x33 x30 h25) fun x34 h35 =>
  vK (v_iaS 2 r0 x27) fun x36 =>
  wK (dStF 2 x36 x32 h35) fun x37 h38 =>
  vK (v_sub r9 (.int .i64 (.ofNat 1))) fun x39 =>
  i3 x39 h38)
  (J207_2 E i1 r8 h25)
noncomputable def L207_3 (E : Env) (i1 : DV → H → Ans) (r0 r1 r3 r8 : DV) (n : Nat) : DV → H → Ans := Nat.rec (motive := fun _ => DV → H → Ans) (fun _ _ => none) (fun _ i => B207_3 E i1 r0 r1 r3 r8 i) n
def C207_3 : DC := (.loop (.seq (.seq (.drg [⟨0, ⟨(some p18), none, (.e (.mv (.r p9)))⟩, [], false⟩, ⟨1, ⟨(some p19), none, (.e (.mv (.r p1)))⟩, [], false⟩, ⟨2, ⟨(some p20), none, (.e (.bin .gtr (.r p18) (.r p19)))⟩, [], false⟩, ⟨3, ⟨(some p21), none, (.e (.mv (.r p20)))⟩, [], false⟩, ⟨4, ⟨(some p22), (some (p21, true)), (.e (.mv (.r p3)))⟩, [], false⟩, ⟨5, ⟨(some p23), (some (p21, true)), (.e (.mv (.r p0)))⟩, [], false⟩, ⟨6, ⟨(some p24), (some (p21, true)), (.e (.mv (.r p9)))⟩, [], false⟩, ⟨7, ⟨(some p25), (some (p21, true)), (.e (.iaS 2 (.r p23) (.r p24)))⟩, [], false⟩, ⟨8, ⟨(some p26), (some (p21, true)), (.e (.ldN 2 (.r p25)))⟩, [], false⟩, ⟨9, ⟨(some p27), (some (p21, true)), (.e (.mv (.r p0)))⟩, [], false⟩, ⟨10, ⟨(some p28), (some (p21, true)), (.e (.mv (.r p9)))⟩, [], false⟩, ⟨11, ⟨(some p29), (some (p21, true)), (.e (.bin .sub (.r p28) (.c (.int .i64 (.ofNat 1)))))⟩, [], false⟩, ⟨12, ⟨(some p30), (some (p21, true)), (.e (.iaS 2 (.r p27) (.r p29)))⟩, [], false⟩, ⟨13, ⟨(some p31), (some (p21, true)), (.e (.ldN 2 (.r p30)))⟩, [], false⟩, ⟨14, ⟨(some p32), (some (p21, true)), (.c (.v (.r p22) [(.r p26), (.r p31)]))⟩, [], false⟩, ⟨15, ⟨(some p33), (some (p21, true)), (.e (.bin .lss (.r p32) (.c (.int .i64 (.ofNat 0)))))⟩, [], false⟩, ⟨16, ⟨(some p34), none, (.e (.pick (.r p21) (.r p33) (.c (.bool false))))⟩, [], false⟩]) (.cond (.r p34) .skip (.exit 2))) (.seq (.block 3 (.drg [⟨0, ⟨(some p37), none, (.e (.mv (.r p0)))⟩, [], false⟩, ⟨1, ⟨(some p38), none, (.e (.mv (.r p9)))⟩, [], false⟩, ⟨2, ⟨(some p39), none, (.e (.mv (.r p0)))⟩, [], false⟩, ⟨3, ⟨(some p40), none, (.e (.mv (.r p9)))⟩, [], false⟩, ⟨4, ⟨(some p41), none, (.e (.bin .sub (.r p40) (.c (.int .i64 (.ofNat 1)))))⟩, [], false⟩, ⟨5, ⟨(some p42), none, (.e (.mv (.r p0)))⟩, [], false⟩, ⟨6, ⟨(some p43), none, (.e (.mv (.r p9)))⟩, [], false⟩, ⟨7, ⟨(some p44), none, (.e (.bin .sub (.r p43) (.c (.int .i64 (.ofNat 1)))))⟩, [], false⟩, ⟨8, ⟨(some p45), none, (.e (.iaS 2 (.r p42) (.r p44)))⟩, [], false⟩, ⟨9, ⟨(some p46), none, (.e (.ldN 2 (.r p45)))⟩, [], false⟩, ⟨10, ⟨(some p47), none, (.e (.mv (.r p0)))⟩, [], false⟩, ⟨11, ⟨(some p48), none, (.e (.mv (.r p9)))⟩, [], false⟩, ⟨12, ⟨(some p49), none, (.e (.iaS 2 (.r p47) (.r p48)))⟩, [], false⟩, ⟨13, ⟨(some p50), none, (.e (.ldN 2 (.r p49)))⟩, [], false⟩, ⟨14, ⟨(some p51), none, (.e (.iaS 2 (.r p37) (.r p38)))⟩, [], false⟩, ⟨15, ⟨none, none, (.w (.st 2 (.r p51) (.r p46)))⟩, [], false⟩, ⟨16, ⟨(some p52), none, (.e (.iaS 2 (.r p39) (.r p41)))⟩, [], false⟩, ⟨17, ⟨none, none, (.w (.st 2 (.r p52) (.r p50)))⟩, [], false⟩])) (.reg [⟨(some p35), none, (.e (.mv (.r p9)))⟩, ⟨(some p36), none, (.e (.bin .sub (.r p35) (.c (.int .i64 (.ofNat 1)))))⟩, ⟨(some p9), none, (.e (.mv (.r p36)))⟩]))))
noncomputable def B207_1 (E : Env) (r0 r1 r2 r3 : DV) (i1 : DV → H → Ans) (r8 : DV) (h : H) : Ans :=
  vK (v_lss r8 r2) fun x1 =>
  bK x1
  (L207_3 E i1 r0 r1 r3 r8 FUEL r8 h)
  (some ((.tup []), h))
noncomputable def L207_1 (E : Env) (r0 r1 r2 r3 : DV) (n : Nat) : DV → H → Ans := Nat.rec (motive := fun _ => DV → H → Ans) (fun _ _ => none) (fun _ i => B207_1 E r0 r1 r2 r3 i) n
def C207_1 : DC := (.loop (.seq (.seq (.reg [⟨(some p12), none, (.e (.mv (.r p8)))⟩, ⟨(some p13), none, (.e (.mv (.r p2)))⟩, ⟨(some p14), none, (.e (.bin .lss (.r p12) (.r p13)))⟩]) (.cond (.r p14) .skip (.exit 0))) (.seq (.block 1 (.seq (.reg [⟨(some p17), none, (.e (.mv (.r p8)))⟩, ⟨(some p9), none, (.e (.mv (.r p17)))⟩]) (.block 2 C207_3))) C207_2)))
noncomputable def J207_0 (E : Env) (r0 r1 r2 r3 : DV) (h : H) : Ans :=
  vK (v_add r1 (.int .i64 (.ofNat 1))) fun x1 =>
  L207_1 E r0 r1 r2 r3 FUEL x1 h
def C207_0 : DC := (.seq (.reg [⟨(some p10), none, (.e (.mv (.r p1)))⟩, ⟨(some p11), none, (.e (.bin .add (.r p10) (.c (.int .i64 (.ofNat 1)))))⟩, ⟨(some p8), none, (.e (.mv (.r p11)))⟩]) (.block 0 C207_1))
noncomputable abbrev K207_4 (E : Env) (n1 : Nat) : KT2 (DV × H) := (thenK3 (fun σ h => (L207_1 E (σ p0) (σ p1) (σ p2) (σ p3) n1) (σ p8) h) (blockK3 0 (retK3 R207)))
theorem I207_2 (E : Env) (n1 : Nat) : Is E C207_2 (K207_4 E n1) (fun σ h => J207_2 E (L207_1 E (σ p0) (σ p1) (σ p2) (σ p3) n1) (σ p8) h) :=
  fun σ h => by kernel_rfl
noncomputable abbrev K207_5 (E : Env) (n1 : Nat) : KT2 (DV × H) := (thenK3 (fun σ h => J207_2 E (L207_1 E (σ p0) (σ p1) (σ p2) (σ p3) n1) (σ p8) h) (K207_4 E n1))
theorem I207_3 (E : Env) (n1 : Nat) : Is E C207_3 (blockK3 2 (blockK3 1 (K207_5 E n1))) (fun σ h => L207_3 E (L207_1 E (σ p0) (σ p1) (σ p2) (σ p3) n1) (σ p0) (σ p1) (σ p3) (σ p8) FUEL (σ p9) h) :=
  Is.loop (fun n3 σ h => L207_3 E (L207_1 E (σ p0) (σ p1) (σ p2) (σ p3) n1) (σ p0) (σ p1) (σ p3) (σ p8) n3 (σ p9) h) (by kernel_rfl) fun n3 => Is.as (Is.leaf _) fun σ h => by kernel_rfl
theorem I207_1 (E : Env) : Is E C207_1 (blockK3 0 (retK3 R207)) (fun σ h => L207_1 E (σ p0) (σ p1) (σ p2) (σ p3) FUEL (σ p8) h) :=
  Is.loop (fun n1 σ h => L207_1 E (σ p0) (σ p1) (σ p2) (σ p3) n1 (σ p8) h) (by kernel_rfl) fun n1 => Is.as (Is.seq (Is.seq (I207_2 E n1) (Is.block (Is.seq (Is.block (I207_3 E n1)) (Is.leaf _)))) (Is.leaf _)) fun σ h => by kernel_rfl
theorem I207_0 (E : Env) : Is E C207_0 (retK3 R207) (fun σ h => J207_0 E (σ p0) (σ p1) (σ p2) (σ p3) h) :=
  Is.as (Is.seq (Is.block (I207_1 E)) (Is.leaf _)) fun σ h => by kernel_rfl
def D207 : DF := ⟨4, 53, C207_0, R207⟩
noncomputable def S207 (E : Env) : Fun := fun args h => aS args fun r0 args => aS args fun r1 args => aS args fun r2 args => aS args fun r3 args => a0 args (J207_0 E r0 r1 r2 r3 h)
theorem S207_eq (E : Env) (args : List DV) (h : H) : runFn E D207 args h = S207 E args h :=
  Is.fn4 (d := D207) (I207_0 E) rfl (fun r0 r1 r2 r3 h => J207_0 E r0 r1 r2 r3 h) (fun r0 r1 r2 r3 h => by kernel_rfl) args h
/- slices.heapSortCmpFunc[hurdle/api.Place] -/
def R208 : List RV := []
noncomputable def B208_3 (E : Env) (r0 r3 r8 r9 : DV) (i3 : DV → H → Ans) (r12 : DV) (h : H) : Ans :=
  vK (v_geq r12 (.int .i64 (.ofNat 0))) fun x1 =>
  bK x1
  (vK (v_add r8 r12) fun x2 =>
  vK (v_add r8 r12) fun x3 =>
  vK (v_iaS 2 r0 x3) fun x4 =>
  vK (v_ldN 2 h.get x4) fun x5 =>
  vK (v_iaS 2 r0 r8) fun x6 =>
  vK (v_ldN 2 h.get x6) fun x7 =>
  vK (v_iaS 2 r0 r8) fun x8 =>
  wK (dStF 2 x8 x5 h) fun x9 h10 =>
  vK (v_iaS 2 r0 x2) fun x11 =>
  wK (dStF 2 x11 x7 h10) fun x12 h13 =>
  wK (callK E 230 [r0, r9, r12, r8, r3] h13) fun x14 h15 =>
  vK (v_sub r12 (.int .i64 (.ofNat 1))) fun x16 =>
  i3 x16 h15)
  (some ((.tup []), h))
noncomputable def L208_3 (E : Env) (r0 r3 r8 r9 : DV) (n : Nat) : DV → H → Ans := Nat.rec (motive := fun _ => DV → H → Ans) (fun _ _ => none) (fun _ i => B208_3 E r0 r3 r8 r9 i) n
def C208_3 : DC := (.loop (.seq (.seq (.reg [⟨(some p32), none, (.e (.mv (.r p12)))⟩, ⟨(some p33), none, (.e (.bin .geq (.r p32) (.c (.int .i64 (.ofNat 0)))))⟩]) (.cond (.r p33) .skip (.exit 2))) (.seq (.block 3 (.seq (.drg [⟨0, ⟨(some p36), none, (.e (.mv (.r p0)))⟩, [], false⟩, ⟨1, ⟨(some p37), none, (.e (.mv (.r p8)))⟩, [], false⟩, ⟨2, ⟨(some p38), none, (.e (.mv (.r p0)))⟩, [], false⟩, ⟨3, ⟨(some p39), none, (.e (.mv (.r p8)))⟩, [], false⟩, ⟨4, ⟨(some p40), none, (.e (.mv (.r p12)))⟩, [], false⟩, ⟨5, ⟨(some p41), none, (.e (.bin .add (.r p39) (.r p40)))⟩, [], false⟩, ⟨6, ⟨(some p42), none, (.e (.mv (.r p0)))⟩, [], false⟩, ⟨7, ⟨(some p43), none, (.e (.mv (.r p8)))⟩, [], false⟩, ⟨8, ⟨(some p44), none, (.e (.mv (.r p12)))⟩, [], false⟩, ⟨9, ⟨(some p45), none, (.e (.bin .add (.r p43) (.r p44)))⟩, [], false⟩, ⟨10, ⟨(some p46), none, (.e (.iaS 2 (.r p42) (.r p45)))⟩, [], false⟩, ⟨11, ⟨(some p47), none, (.e (.ldN 2 (.r p46)))⟩, [], false⟩, ⟨12, ⟨(some p48), none, (.e (.mv (.r p0)))⟩, [], false⟩, ⟨13, ⟨(some p49), none, (.e (.mv (.r p8)))⟩, [], false⟩, ⟨14, ⟨(some p50), none, (.e (.iaS 2 (.r p48) (.r p49)))⟩, [], false⟩, ⟨15, ⟨(some p51), none, (.e (.ldN 2 (.r p50)))⟩, [], false⟩, ⟨16, ⟨(some p52), none, (.e (.iaS 2 (.r p36) (.r p37)))⟩, [], false⟩, ⟨17, ⟨none, none, (.w (.st 2 (.r p52) (.r p47)))⟩, [], false⟩, ⟨18, ⟨(some p53), none, (.e (.iaS 2 (.r p38) (.r p41)))⟩, [], false⟩, ⟨19, ⟨none, none, (.w (.st 2 (.r p53) (.r p51)))⟩, [], false⟩]) (.reg [⟨(some p54), none, (.e (.mv (.r p0)))⟩, ⟨(some p55), none, (.e (.mv (.r p9)))⟩, ⟨(some p56), none, (.e (.mv (.r p12)))⟩, ⟨(some p57), none, (.e (.mv (.r p8)))⟩, ⟨(some p58), none, (.e (.mv (.r p3)))⟩, ⟨(some p59), none, (.c (.f 230 [(.r p54), (.r p55), (.r p56), (.r p57), (.r p58)]))⟩]))) (.reg [⟨(some p34), none, (.e (.mv (.r p12)))⟩, ⟨(some p35), none, (.e (.bin .sub (.r p34) (.c (.int .i64 (.ofNat 1)))))⟩, ⟨(some p12), none, (.e (.mv (.r p35)))⟩]))))
noncomputable def J208_1 (E : Env) (r0 r3 r8 r9 r10 : DV) (h : H) : Ans :=
  vK (v_sub r10 (.int .i64 (.ofNat 1))) fun x1 =>
  L208_3 E r0 r3 r8 r9 FUEL x1 h
def C208_1 : DC := (.seq (.reg [⟨(some p30), none, (.e (.mv (.r p10)))⟩, ⟨(some p31), none, (.e (.bin .sub (.r p30) (.c (.int .i64 (.ofNat 1)))))⟩, ⟨(some p12), none, (.e (.mv (.r p31)))⟩]) (.block 2 C208_3))
noncomputable def B208_2 (E : Env) (r0 r3 r8 r9 r10 : DV) (i2 : DV → H → Ans) (r11 : DV) (h : H) : Ans :=
  vK (v_geq r11 (.int .i64 (.ofNat 0))) fun x1 =>
  bK x1
  (wK (callK E 230 [r0, r11, r10, r8, r3] h) fun x2 h3 =>
  vK (v_sub r11 (.int .i64 (.ofNat 1))) fun x4 =>
  i2 x4 h3)
  (J208_1 E r0 r3 r8 r9 r10 h)
noncomputable def L208_2 (E : Env) (r0 r3 r8 r9 r10 : DV) (n : Nat) : DV → H → Ans := Nat.rec (motive := fun _ => DV → H → Ans) (fun _ _ => none) (fun _ i => B208_2 E r0 r3 r8 r9 r10 i) n
def C208_2 : DC := (.loop (.seq (.seq (.reg [⟨(some p20), none, (.e (.mv (.r p11)))⟩, ⟨(some p21), none, (.e (.bin .geq (.r p20) (.c (.int .i64 (.ofNat 0)))))⟩]) (.cond (.r p21) .skip (.exit 0))) (.seq (.block 1 (.reg [⟨(some p24), none, (.e (.mv (.r p0)))⟩, ⟨(some p25), none, (.e (.mv (.r p11)))⟩, ⟨(some p26), none, (.e (.mv (.r p10)))⟩, ⟨(some p27), none, (.e (.mv (.r p8)))⟩, ⟨(some p28), none, (.e (.mv (.r p3)))⟩, ⟨(some p29), none, (.c (.f 230 [(.r p24), (.r p25), (.r p26), (.r p27), (.r p28)]))⟩])) (.reg [⟨(some p22), none, (.e (.mv (.r p11)))⟩, ⟨(some p23), none, (.e (.bin .sub (.r p22) (.c (.int .i64 (.ofNat 1)))))⟩, ⟨(some p11), none, (.e (.mv (.r p23)))⟩]))))
noncomputable def J208_0 (E : Env) (r0 r1 r2 r3 : DV) (h : H) : Ans :=
  vK (v_sub r2 r1) fun x1 =>
  vK (v_sub x1 (.int .i64 (.ofNat 1))) fun x2 =>
  vK (v_quo x2 (.int .i64 (.ofNat 2))) fun x3 =>
  L208_2 E r0 r3 r1 (.int .i64 (.ofNat 0)) x1 FUEL x3 h
def C208_0 : DC := (.seq (.reg [⟨(some p13), none, (.e (.mv (.r p1)))⟩, ⟨(some p8), none, (.e (.mv (.r p13)))⟩]) (.seq (.reg [⟨(some p9), none, (.e (.mv (.c (.int .i64 (.ofNat 0)))))⟩]) (.seq (.reg [⟨(some p14), none, (.e (.mv (.r p2)))⟩, ⟨(some p15), none, (.e (.mv (.r p1)))⟩, ⟨(some p16), none, (.e (.bin .sub (.r p14) (.r p15)))⟩, ⟨(some p10), none, (.e (.mv (.r p16)))⟩]) (.seq (.seq (.reg [⟨(some p17), none, (.e (.mv (.r p10)))⟩, ⟨(some p18), none, (.e (.bin .sub (.r p17) (.c (.int .i64 (.ofNat 1)))))⟩, ⟨(some p19), none, (.e (.bin .quo (.r p18) (.c (.int .i64 (.ofNat 2)))))⟩, ⟨(some p11), none, (.e (.mv (.r p19)))⟩]) (.block 0 C208_2)) C208_1))))
theorem I208_3 (E : Env) : Is E C208_3 (blockK3 2 (retK3 R208)) (fun σ h => L208_3 E (σ p0) (σ p3) (σ p8) (σ p9) FUEL (σ p12) h) :=
  Is.loop (fun n3 σ h => L208_3 E (σ p0) (σ p3) (σ p8) (σ p9) n3 (σ p12) h) (by kernel_rfl) fun n3 => Is.as (Is.leaf _) fun σ h => by kernel_rfl
theorem I208_1 (E : Env) : Is E C208_1 (retK3 R208) (fun σ h => J208_1 E (σ p0) (σ p3) (σ p8) (σ p9) (σ p10) h) :=
  Is.as (Is.seq (Is.block (I208_3 E)) (Is.leaf _)) fun σ h => by kernel_rfl
noncomputable abbrev K208_4 (E : Env) : KT2 (DV × H) := (thenK3 (fun σ h => J208_1 E (σ p0) (σ p3) (σ p8) (σ p9) (σ p10) h) (retK3 R208))
theorem I208_2 (E : Env) : Is E C208_2 (blockK3 0 (K208_4 E)) (fun σ h => L208_2 E (σ p0) (σ p3) (σ p8) (σ p9) (σ p10) FUEL (σ p11) h) :=
  Is.loop (fun n2 σ h => L208_2 E (σ p0) (σ p3) (σ p8) (σ p9) (σ p10) n2 (σ p11) h) (by kernel_rfl) fun n2 => Is.as (Is.leaf _) fun σ h => by kernel_rfl
theorem I208_0 (E : Env) : Is E C208_0 (retK3 R208) (fun σ h => J208_0 E (σ p0) (σ p1) (σ p2) (σ p3) h) :=
  Is.as (Is.seq (Is.seq (Is.seq (Is.seq (I208_1 E) (Is.seq (Is.block (I208_2 E)) (Is.leaf _))) (Is.leaf _)) (Is.leaf _)) (Is.leaf _)) fun σ h => by kernel_rfl
def D208 : DF := ⟨4, 60, C208_0, R208⟩
noncomputable def S208 (E : Env) : Fun := fun args h => aS args fun r0 args => aS args fun r1 args => aS args fun r2 args => aS args fun r3 args => a0 args (J208_0 E r0 r1 r2 r3 h)
theorem S208_eq (E : Env) (args : List DV) (h : H) : runFn E D208 args h = S208 E args h :=
  Is.fn4 (d := D208) (I208_0 E) rfl (fun r0 r1 r2 r3 h => J208_0 E r0 r1 r2 r3 h) (fun r0 r1 r2 r3 h => by kernel_rfl) args h
/- slices.breakPatternsCmpFunc[hurdle/api.Place] -/
def R209 : List RV := []
noncomputable def J209_2 (E : Env) (i1 : DV → H → Ans) (r11 : DV) (h : H) : Ans :=
  vK (v_add r11 (.int .i64 (.ofNat 1))) fun x1 =>
  i1 x1 h
def C209_2 : DC := (.reg [⟨(some p36), none, (.e (.mv (.r p11)))⟩, ⟨(some p37), none, (.e (.bin .add (.r p36) (.c (.int .i64 (.ofNat 1)))))⟩, ⟨(some p11), none, (.e (.mv (.r p37)))⟩])
noncomputable def J209_3 (E : Env) (i1 : DV → H → Ans) (r0 r1 r11 r12 : DV) (h : H) : Ans :=
  vK (v_add r1 r12) fun x1 =>
  vK (v_add r1 r12) fun x2 =>
  vK (v_iaS 2 r0 x2) fun x3 =>
  vK (v_ldN 2 h.get x3) fun x4 =>
  vK (v_iaS 2 r0 r11) fun x5 =>
  vK (v_ldN 2 h.get x5) fun x6 =>
  vK (v_iaS 2 r0 r11) fun x7 =>
  wK (dStF 2 x7 x4 h) fun x8 h9 =>
  vK (v_iaS 2 r0 x1) fun x10 =>
  wK (dStF 2 x10 x6 h9) fun x11 h12 =>
  J209_2 E i1 r11 h12
def C209_3 : DC := (.drg [⟨0, ⟨(some p49), none, (.e (.mv (.r p0)))⟩, [], false⟩, ⟨1, ⟨(some p50), none, (.e (.mv (.r p11)))⟩, [], false⟩, ⟨2, ⟨(some p51), none, (.e (.mv (.r p0)))⟩, [], false⟩, ⟨3, ⟨(some p52), none, (.e (.mv (.r p1)))⟩, [], false⟩, ⟨4, ⟨(some p53), none, (.e (.mv (.r p12)))⟩, [], false⟩, ⟨5, ⟨(some p54), none, (.e (.bin .add (.r p52) (.r p53)))⟩, [], false⟩, ⟨6, ⟨(some p55), none, (.e (.mv (.r p0)))⟩, [], false⟩, ⟨7, ⟨(some p56), none, (.e (.mv (.r p1)))⟩, [], false⟩, ⟨8, ⟨(some p57), none, (.e (.mv (.r p12)))⟩, [], false⟩, ⟨9, ⟨(some p58), none, (.e (.bin .add (.r p56) (.r p57)))⟩, [], false⟩, ⟨10, ⟨(some p59), none, (.e (.iaS 2 (.r p55) (.r p58)))⟩, [], false⟩, ⟨11, ⟨(some p60), none, (.e (.ldN 2 (.r p59)))⟩, [], false⟩, ⟨12, ⟨(some p61), none, (.e (.mv (.r p0)))⟩, [], false⟩, ⟨13, ⟨(some p62), none, (.e (.mv (.r p11)))⟩, [], false⟩, ⟨14, ⟨(some p63), none, (.e (.iaS 2 (.r p61) (.r p62)))⟩, [], false⟩, ⟨15, ⟨(some p64), none, (.e (.ldN 2 (.r p63)))⟩, [], false⟩, ⟨16, ⟨(some p65), none, (.e (.iaS 2 (.r p49) (.r p50)))⟩, [], false⟩, ⟨17, ⟨none, none, (.w (.st 2 (.r p65) (.r p60)))⟩, [], false⟩, ⟨18, ⟨(some p66), none, (.e (.iaS 2 (.r p51) (.r p54)))⟩, [], false⟩, ⟨19, ⟨none, none, (.w (.st 2 (.r p66) (.r p64)))⟩, [], false⟩])
noncomputable def B209_1 (E : Env) (r0 r1 r8 r9 r10 : DV) (i1 : DV → H → Ans) (r11 : DV) (h : H) : Ans :=
  vK (v_quo r8 (.int .i64 (.ofNat 4))) fun x1 =>
  vK (v_mul x1 (.int .i64 (.ofNat 2))) fun x2 =>
  vK (v_add r1 x2) fun x3 =>
  vK (v_add x3 (.int .i64 (.ofNat 1))) fun x4 =>
  vK (v_leq r11 x4) fun x5 =>
  bK x5
  (wK (callK E 232 [r9] h) fun x6 h7 =>
  vK (v_sub r10 (.int .u64 (.ofNat 1))) fun x8 =>
  vK (v_and x6 x8) fun x9 =>
  vK (v_conv .i64 x9) fun x10 =>
  vK (v_geq x10 r8) fun x11 =>
  bK x11
  (vK (v_sub x10 r8) fun x12 =>
  J209_3 E i1 r0 r1 r11 x12 h7)
  (J209_3 E i1 r0 r1 r11 x10 h7))
  (some ((.tup []), h))
noncomputable def L209_1 (E : Env) (r0 r1 r8 r9 r10 : DV) (n : Nat) : DV → H → Ans := Nat.rec (motive := fun _ => DV → H → Ans) (fun _ _ => none) (fun _ i => B209_1 E r0 r1 r8 r9 r10 i) n
def C209_1 : DC := (.loop (.seq (.seq (.reg [⟨(some p28), none, (.e (.mv (.r p11)))⟩, ⟨(some p29), none, (.e (.mv (.r p1)))⟩, ⟨(some p30), none, (.e (.mv (.r p8)))⟩, ⟨(some p31), none, (.e (.bin .quo (.r p30) (.c (.int .i64 (.ofNat 4)))))⟩, ⟨(some p32), none, (.e (.bin .mul (.r p31) (.c (.int .i64 (.ofNat 2)))))⟩, ⟨(some p33), none, (.e (.bin .add (.r p29) (.r p32)))⟩, ⟨(some p34), none, (.e (.bin .add (.r p33) (.c (.int .i64 (.ofNat 1)))))⟩, ⟨(some p35), none, (.e (.bin .leq (.r p28) (.r p34)))⟩]) (.cond (.r p35) .skip (.exit 0))) (.seq (.block 1 (.seq (.reg [⟨(some p38), none, (.c (.f 232 [(.r p9)]))⟩, ⟨(some p39), none, (.e (.mv (.r p10)))⟩, ⟨(some p40), none, (.e (.bin .sub (.r p39) (.c (.int .u64 (.ofNat 1)))))⟩, ⟨(some p41), none, (.e (.bin .and (.r p38) (.r p40)))⟩, ⟨(some p42), none, (.e (.conv .i64 (.r p41)))⟩, ⟨(some p12), none, (.e (.mv (.r p42)))⟩]) (.seq (.seq (.reg [⟨(some p43), none, (.e (.mv (.r p12)))⟩, ⟨(some p44), none, (.e (.mv (.r p8)))⟩, ⟨(some p45), none, (.e (.bin .geq (.r p43) (.r p44)))⟩]) (.cond (.r p45) (.reg [⟨(some p46), none, (.e (.mv (.r p12)))⟩, ⟨(some p47), none, (.e (.mv (.r p8)))⟩, ⟨(some p48), none, (.e (.bin .sub (.r p46) (.r p47)))⟩, ⟨(some p12), none, (.e (.mv (.r p48)))⟩]) .skip)) C209_3))) C209_2)))
noncomputable def J209_0 (E : Env) (r0 r1 r2 : DV) (h : H) : Ans :=
  vK (v_sub r2 r1) fun x1 =>
  vK (v_geq x1 (.int .i64 (.ofNat 8))) fun x2 =>
  bK x2
  (vK (v_conv .u64 x1) fun x3 =>
  n_alc 1 1 (.list [(.int .u64 (.ofNat 0))]) h fun x4 h5 =>
  wK (dStF 1 x4 x3 h5) fun x6 h7 =>
  wK (callK E 231 [x1] h7) fun x8 h9 =>
  vK (v_quo x1 (.int .i64 (.ofNat 4))) fun x10 =>
  vK (v_mul x10 (.int .i64 (.ofNat 2))) fun x11 =>
  vK (v_add r1 x11) fun x12 =>
  vK (v_sub x12 (.int .i64 (.ofNat 1))) fun x13 =>
  L209_1 E r0 r1 x1 x4 x8 FUEL x13 h9)
  (some ((.tup []), h))
def C209_0 : DC := (.seq (.reg [⟨(some p13), none, (.e (.mv (.r p2)))⟩, ⟨(some p14), none, (.e (.mv (.r p1)))⟩, ⟨(some p15), none, (.e (.bin .sub (.r p13) (.r p14)))⟩, ⟨(some p8), none, (.e (.mv (.r p15)))⟩]) (.seq (.reg [⟨(some p16), none, (.e (.mv (.r p8)))⟩, ⟨(some p17), none, (.e (.bin .geq (.r p16) (.c (.int .i64 (.ofNat 8)))))⟩]) (.cond (.r p17) (.seq (.reg [⟨(some p18), none, (.e (.mv (.r p8)))⟩, ⟨(some p19), none, (.e (.conv .u64 (.r p18)))⟩, ⟨(some p9), none, (.e (.alc 1 1 (.list [(.int .u64 (.ofNat 0))])))⟩, ⟨none, none, (.w (.st 1 (.r p9) (.r p19)))⟩]) (.seq (.reg [⟨(some p20), none, (.e (.mv (.r p8)))⟩, ⟨(some p21), none, (.c (.f 231 [(.r p20)]))⟩, ⟨(some p10), none, (.e (.mv (.r p21)))⟩]) (.seq (.reg [⟨(some p22), none, (.e (.mv (.r p1)))⟩, ⟨(some p23), none, (.e (.mv (.r p8)))⟩, ⟨(some p24), none, (.e (.bin .quo (.r p23) (.c (.int .i64 (.ofNat 4)))))⟩, ⟨(some p25), none, (.e (.bin .mul (.r p24) (.c (.int .i64 (.ofNat 2)))))⟩, ⟨(some p26), none, (.e (.bin .add (.r p22) (.r p25)))⟩, ⟨(some p27), none, (.e (.bin .sub (.r p26) (.c (.int .i64 (.ofNat 1)))))⟩, ⟨(some p11), none, (.e (.mv (.r p27)))⟩]) (.block 0 C209_1)))) .skip)))
noncomputable abbrev K209_4 (E : Env) (n1 : Nat) : KT2 (DV × H) := (thenK3 (fun σ h => (L209_1 E (σ p0) (σ p1) (σ p8) (σ p9) (σ p10) n1) (σ p11) h) (blockK3 0 (retK3 R209)))
theorem I209_2 (E : Env) (n1 : Nat) : Is E C209_2 (K209_4 E n1) (fun σ h => J209_2 E (L209_1 E (σ p0) (σ p1) (σ p8) (σ p9) (σ p10) n1) (σ p11) h) :=
  fun σ h => by kernel_rfl
noncomputable abbrev K209_5 (E : Env) (n1 : Nat) : KT2 (DV × H) := (thenK3 (fun σ h => J209_2 E (L209_1 E (σ p0) (σ p1) (σ p8) (σ p9) (σ p10) n1) (σ p11) h) (K209_4 E n1))
theorem I209_3 (E : Env) (n1 : Nat) : Is E C209_3 (blockK3 1 (K209_5 E n1)) (fun σ h => J209_3 E (L209_1 E (σ p0) (σ p1) (σ p8) (σ p9) (σ p10) n1) (σ p0) (σ p1) (σ p11) (σ p12) h) :=
  fun σ h => by kernel_rfl
theorem I209_1 (E : Env) : Is E C209_1 (blockK3 0 (retK3 R209)) (fun σ h => L209_1 E (σ p0) (σ p1) (σ p8) (σ p9) (σ p10) FUEL (σ p11) h) :=
  Is.loop (fun n1 σ h => L209_1 E (σ p0) (σ p1) (σ p8) (σ p9) (σ p10) n1 (σ p11) h) (by kernel_rfl) fun n1 => Is.as (Is.seq (Is.seq (I209_2 E n1) (Is.block (Is.seq (Is.seq (I209_3 E n1) (Is.leaf _)) (Is.leaf _)))) (Is.leaf _)) fun σ h => by kernel_rfl
theorem I209_0 (E : Env) : Is E C209_0 (retK3 R209) (fun σ h => J209_0 E (σ p0) (σ p1) (σ p2) h) :=
  Is.as (Is.seq (Is.seq (Is.cond (Is.seq (Is.seq (Is.seq (Is.block (I209_1 E)) (Is.leaf _)) (Is.leaf _)) (Is.leaf _)) (Is.leaf _)) (Is.leaf _)) (Is.leaf _)) fun σ h => by kernel_rfl
def D209 : DF := ⟨4, 67, C209_0, R209⟩
noncomputable def S209 (E : Env) : Fun := fun args h => aS args fun r0 args => aS args fun r1 args => aS args fun r2 args => aS args fun r3 args => a0 args (J209_0 E r0 r1 r2 h)
theorem S209_eq (E : Env) (args : List DV) (h : H) : runFn E D209 args h = S209 E args h :=
  Is.fn4 (d := D209) (I209_0 E) rfl (fun r0 r1 r2 r3 h => J209_0 E r0 r1 r2 h) (fun r0 r1 r2 r3 h => by kernel_rfl) args h
/- slices.choosePivotCmpFunc[hurdle/api.Place] -/
def R210 : List RV := [(.r p8), (.r p9)]
noncomputable def J210_1 (E : Env) (r11 r13 : DV) (h : H) : Ans :=
  vK (v_ld h.get r11) fun x1 =>
  vK (v_eql x1 (.int .i64 (.ofNat 0))) fun x2 =>
  bK x2
  (some ((.tup [r13, (.int .i64 (.ofNat 1))]), h))
  (vK (v_eql x1 (.int .i64 (.ofNat 12))) fun x3 =>
  bK x3
  (some ((.tup [r13, (.int .i64 (.ofNat 2))]), h))
  (some ((.tup [r13, (.int .i64 (.ofNat 0))]), h)))
def C210_1 : DC := (.seq (.reg [⟨(some p55), none, (.e (.ld (.r p11)))⟩]) (.block 0 (.seq (.reg [⟨(some p58), none, (.e (.bin .eql (.r p55) (.c (.int .i64 (.ofNat 0)))))⟩, ⟨(some p57), none, (.e (.mv (.r p58)))⟩]) (.cond (.r p57) (.seq (.reg [⟨(some p59), none, (.e (.mv (.r p13)))⟩, ⟨(some p8), none, (.e (.mv (.r p59)))⟩, ⟨(some p9), none, (.e (.mv (.c (.int .i64 (.ofNat 1)))))⟩]) .ret) (.seq (.reg [⟨(some p61), none, (.e (.bin .eql (.r p55) (.c (.int .i64 (.ofNat 12)))))⟩, ⟨(some p60), none, (.e (.mv (.r p61)))⟩]) (.cond (.r p60) (.seq (.reg [⟨(some p62), none, (.e (.mv (.r p13)))⟩, ⟨(some p8), none, (.e (.mv (.r p62)))⟩, ⟨(some p9), none, (.e (.mv (.c (.int .i64 (.ofNat 2)))))⟩]) .ret) (.seq (.reg [⟨(some p56), none, (.e (.mv (.r p13)))⟩, ⟨(some p8), none, (.e (.mv (.r p56)))⟩, ⟨(some p9), none, (.e (.mv (.c (.int .i64 (.ofNat 0)))))⟩]) .ret)))))))
noncomputable def J210_2 (E : Env) (r0 r3 r11 r12 r13 r14 : DV) (h : H) : Ans :=
  wK (callK E 234 [r0, r12, r13, r14, r11, r3] h) fun x1 h2 =>
  J210_1 E r11 x1 h2
def C210_2 : DC := (.reg [⟨(some p49), none, (.e (.mv (.r p0)))⟩, ⟨(some p50), none, (.e (.mv (.r p12)))⟩, ⟨(some p51), none, (.e (.mv (.r p13)))⟩, ⟨(some p52), none, (.e (.mv (.r p14)))⟩, ⟨(some p53), none, (.e (.mv (.r p3)))⟩, ⟨(some p54), none, (.c (.f 234 [(.r p49), (.r p50), (.r p51), (.r p52), (.r p11), (.r p53)]))⟩, ⟨(some p13), none, (.e (.mv (.r p54)))⟩])
noncomputable def J210_0 (E : Env) (r0 r1 r2 r3 : DV) (h : H) : Ans :=
  vK (v_sub r2 r1) fun x1 =>
  n_alc 1 1 (.list [(.int .i64 (.ofNat 0))]) h fun x2 h3 =>
  vK (v_quo x1 (.int .i64 (.ofNat 4))) fun x4 =>
  vK (v_mul x4 (.int .i64 (.ofNat 1))) fun x5 =>
  vK (v_add r1 x5) fun x6 =>
  vK (v_quo x1 (.int .i64 (.ofNat 4))) fun x7 =>
  vK (v_mul x7 (.int .i64 (.ofNat 2))) fun x8 =>
  vK (v_add r1 x8) fun x9 =>
  vK (v_quo x1 (.int .i64 (.ofNat 4))) fun x10 =>
  vK (v_mul x10 (.int .i64 (.ofNat 3))) fun x11 =>
  vK (v_add r1 x11) fun x12 =>
  vK (v_geq x1 (.int .i64 (.ofNat 8))) fun x13 =>
  bK x13
  (vK (v_geq x1 (.int .i64 (.ofNat 50))) fun x14 =>
  bK x14
  (wK (callK E 233 [r0, x6, x2, r3] h3) fun x15 h16 =>
  wK (callK E 233 [r0, x9, x2, r3] h16) fun x17 h18 =>
  wK (callK E 233 [r0, x12, x2, r3] h18) fun x19 h20 =>
  J210_2 E r0 r3 x2 x15 x17 x19 h20)
  (J210_2 E r0 r3 x2 x6 x9 x12 h3))
  (J210_1 E x2 x9 h3)
def C210_0 : DC := (.seq (.reg [⟨(some p8), none, (.e (.mv (.c (.int .i64 (.ofNat 0)))))⟩, ⟨(some p9), none, (.e (.mv (.c (.int .i64 (.ofNat 0)))))⟩]) (.seq (.reg [⟨(some p15), none, (.e (.mv (.r p2)))⟩, ⟨(some p16), none, (.e (.mv (.r p1)))⟩, ⟨(some p17), none, (.e (.bin .sub (.r p15) (.r p16)))⟩, ⟨(some p10), none, (.e (.mv (.r p17)))⟩]) (.seq (.reg [⟨(some p11), none, (.e (.alc 1 1 (.list [(.int .i64 (.ofNat 0))])))⟩]) (.seq (.reg [⟨(some p18), none, (.e (.mv (.r p1)))⟩, ⟨(some p19), none, (.e (.mv (.r p10)))⟩, ⟨(some p20), none, (.e (.bin .quo (.r p19) (.c (.int .i64 (.ofNat 4)))))⟩, ⟨(some p21), none, (.e (.bin .mul (.r p20) (.c (.int .i64 (.ofNat 1)))))⟩, ⟨(some p22), none, (.e (.bin .add (.r p18) (.r p21)))⟩, ⟨(some p12), none, (.e (.mv (.r p22)))⟩]) (.seq (.reg [⟨(some p23), none, (.e (.mv (.r p1)))⟩, ⟨(some p24), none, (.e (.mv (.r p10)))⟩, ⟨(some p25), none, (.e (.bin .quo (.r p24) (.c (.int .i64 (.ofNat 4)))))⟩, ⟨(some p26), none, (.e (.bin .mul (.r p25) (.c (.int .i64 (.ofNat 2)))))⟩, ⟨(some p27), none, (.e (.bin .add (.r p23) (.r p26)))⟩, ⟨(some p13), none, (.e (.mv (.r p27)))⟩]) (.seq (.reg [⟨(some p28), none, (.e (.mv (.r p1)))⟩, ⟨(some p29), none, (.e (.mv (.r p10)))⟩, ⟨(some p30), none, (.e (.bin .quo (.r p29) (.c (.int .i64 (.ofNat 4)))))⟩, ⟨(some p31), none, (.e (.bin .mul (.r p30) (.c (.int .i64 (.ofNat 3)))))⟩, ⟨(some p32), none, (.e (.bin .add (.r p28) (.r p31)))⟩, ⟨(some p14), none, (.e (.mv (.r p32)))⟩]) (.seq (.seq (.reg [⟨(some p33), none, (.e (.mv (.r p10)))⟩, ⟨(some p34), none, (.e (.bin .geq (.r p33) (.c (.int .i64 (.ofNat 8)))))⟩]) (.cond (.r p34) (.seq (.seq (.reg [⟨(some p35), none, (.e (.mv (.r p10)))⟩, ⟨(some p36), none, (.e (.bin .geq (.r p35) (.c (.int .i64 (.ofNat 50)))))⟩]) (.cond (.r p36) (.seq (.reg [⟨(some p37), none, (.e (.mv (.r p0)))⟩, ⟨(some p38), none, (.e (.mv (.r p12)))⟩, ⟨(some p39), none, (.e (.mv (.r p3)))⟩, ⟨(some p40), none, (.c (.f 233 [(.r p37), (.r p38), (.r p11), (.r p39)]))⟩, ⟨(some p12), none, (.e (.mv (.r p40)))⟩]) (.seq (.reg [⟨(some p41), none, (.e (.mv (.r p0)))⟩, ⟨(some p42), none, (.e (.mv (.r p13)))⟩, ⟨(some p43), none, (.e (.mv (.r p3)))⟩, ⟨(some p44), none, (.c (.f 233 [(.r p41), (.r p42), (.r p11), (.r p43)]))⟩, ⟨(some p13), none, (.e (.mv (.r p44)))⟩]) (.reg [⟨(some p45), none, (.e (.mv (.r p0)))⟩, ⟨(some p46), none, (.e (.mv (.r p14)))⟩, ⟨(some p47), none, (.e (.mv (.r p3)))⟩, ⟨(some p48), none, (.c (.f 233 [(.r p45), (.r p46), (.r p11), (.r p47)]))⟩, ⟨(some p14), none, (.e (.mv (.r p48)))⟩]))) .skip)) C210_2) .skip)) C210_1)))))))
theorem I210_1 (E : Env) : Is E C210_1 (retK3 R210) (fun σ h => J210_1 E (σ p11) (σ p13) h) :=
  fun σ h => by kernel_rfl
noncomputable abbrev K210_3 (E : Env) : KT2 (DV × H) := (thenK3 (fun σ h => J210_1 E (σ p11) (σ p13) h) (retK3 R210))
theorem I210_2 (E : Env) : Is E C210_2 (K210_3 E) (fun σ h => J210_2 E (σ p0) (σ p3) (σ p11) (σ p12) (σ p13) (σ p14) h) :=
  fun σ h => by kernel_rfl
theorem I210_0 (E : Env) : Is E C210_0 (retK3 R210) (fun σ h => J210_0 E (σ p0) (σ p1) (σ p2) (σ p3) h) :=
  Is.as (Is.seq (Is.seq (Is.seq (Is.seq (Is.seq (Is.seq (Is.seq (I210_1 E) (Is.seq (Is.cond (Is.seq (I210_2 E) (Is.leaf _)) (Is.leaf _)) (Is.leaf _))) (Is.leaf _)) (Is.leaf _)) (Is.leaf _)) (Is.leaf _)) (Is.leaf _)) (Is.leaf _)) fun σ h => by kernel_rfl
def D210 : DF := ⟨4, 63, C210_0, R210⟩
noncomputable def S210 (E : Env) : Fun := fun args h => aS args fun r0 args => aS args fun r1 args => aS args fun r2 args => aS args fun r3 args => a0 args (J210_0 E r0 r1 r2 r3 h)
theorem S210_eq (E : Env) (args : List DV) (h : H) : runFn E D210 args h = S210 E args h :=
  Is.fn4 (d := D210) (I210_0 E) rfl (fun r0 r1 r2 r3 h => J210_0 E r0 r1 r2 r3 h) (fun r0 r1 r2 r3 h => by kernel_rfl) args h
/- slices.reverseRangeCmpFunc[hurdle/api.Place] -/
def R211 : List RV := []
noncomputable def B211_1 (E : Env) (r0 : DV) (i1 : DV → DV → H → Ans) (r8 r9 : DV) (h : H) : Ans :=
  vK (v_lss r8 r9) fun x1 =>
  bK x1
  (vK (v_iaS 2 r0 r9) fun x2 =>
  vK (v_ldN 2 h.get x2) fun x3 =>
  vK (v_iaS 2 r0 r8) fun x4 =>
  vK (v_ldN 2 h.get x4) fun x5 =>
  vK (v_iaS 2 r0 r8) fun x6 =>
  wK (dStF 2 x6 x3 h) fun x7 h8 =>
  vK (v_iaS 2 r0 r9) fun x9 =>
  wK (dStF 2 x9 x5 h8) fun x10 h11 =>
  vK (v_add r8 (.int .i64 (.ofNat 1))) fun x12 =>
  vK (v_sub r9 (.int .i64 (.ofNat 1))) fun x13 =>
  i1 x12 x13 h11)
  (some ((.tup []), h))
noncomputable def L211_1 (E : Env) (r0 : DV) (n : Nat) : DV → DV → H → Ans := Nat.rec (motive := fun _ => DV → DV → H → Ans) (fun _ _ _ => none) (fun _ i => B211_1 E r0 i) n
def C211_1 : DC := (.loop (.seq (.seq (.reg [⟨(some p13), none, (.e (.mv (.r p8)))⟩, ⟨(some p14), none, (.e (.mv (.r p9)))⟩, ⟨(some p15), none, (.e (.bin .lss (.r p13) (.r p14)))⟩]) (.cond (.r p15) .skip (.exit 0))) (.block 1 (.seq (.drg [⟨0, ⟨(some p16), none, (.e (.mv (.r p0)))⟩, [], false⟩, ⟨1, ⟨(some p17), none, (.e (.mv (.r p8)))⟩, [], false⟩, ⟨2, ⟨(some p18), none, (.e (.mv (.r p0)))⟩, [], false⟩, ⟨3, ⟨(some p19), none, (.e (.mv (.r p9)))⟩, [], false⟩, ⟨4, ⟨(some p20), none, (.e (.mv (.r p0)))⟩, [], false⟩, ⟨5, ⟨(some p21), none, (.e (.mv (.r p9)))⟩, [], false⟩, ⟨6, ⟨(some p22), none, (.e (.iaS 2 (.r p20) (.r p21)))⟩, [], false⟩, ⟨7, ⟨(some p23), none, (.e (.ldN 2 (.r p22)))⟩, [], false⟩, ⟨8, ⟨(some p24), none, (.e (.mv (.r p0)))⟩, [], false⟩, ⟨9, ⟨(some p25), none, (.e (.mv (.r p8)))⟩, [], false⟩, ⟨10, ⟨(some p26), none, (.e (.iaS 2 (.r p24) (.r p25)))⟩, [], false⟩, ⟨11, ⟨(some p27), none, (.e (.ldN 2 (.r p26)))⟩, [], false⟩, ⟨12, ⟨(some p28), none, (.e (.iaS 2 (.r p16) (.r p17)))⟩, [], false⟩, ⟨13, ⟨none, none, (.w (.st 2 (.r p28) (.r p23)))⟩, [], false⟩, ⟨14, ⟨(some p29), none, (.e (.iaS 2 (.r p18) (.r p19)))⟩, [], false⟩, ⟨15, ⟨none, none, (.w (.st 2 (.r p29) (.r p27)))⟩, [], false⟩]) (.seq (.reg [⟨(some p30), none, (.e (.mv (.r p8)))⟩, ⟨(some p31), none, (.e (.bin .add (.r p30) (.c (.int .i64 (.ofNat 1)))))⟩, ⟨(some p8), none, (.e (.mv (.r p31)))⟩]) (.reg [⟨(some p32), none, (.e (.mv (.r p9)))⟩, ⟨(some p33), none, (.e (.bin .sub (.r p32) (.c (.int .i64 (.ofNat 1)))))⟩, ⟨(some p9), none, (.e (.mv (.r p33)))⟩]))))))
noncomputable def J211_0 (E : Env) (r0 r1 r2 : DV) (h : H) : Ans :=
  vK (v_sub r2 (.int .i64 (.ofNat 1))) fun x1 =>
  L211_1 E r0 FUEL r1 x1 h
def C211_0 : DC := (.seq (.reg [⟨(some p10), none, (.e (.mv (.r p1)))⟩, ⟨(some p8), none, (.e (.mv (.r p10)))⟩]) (.seq (.reg [⟨(some p11), none, (.e (.mv (.r p2)))⟩, ⟨(some p12), none, (.e (.bin .sub (.r p11) (.c (.int .i64 (.ofNat 1)))))⟩, ⟨(some p9), none, (.e (.mv (.r p12)))⟩]) (.block 0 C211_1)))
theorem I211_1 (E : Env) : Is E C211_1 (blockK3 0 (retK3 R211)) (fun σ h => L211_1 E (σ p0) FUEL (σ p8) (σ p9) h) :=
  Is.loop (fun n1 σ h => L211_1 E (σ p0) n1 (σ p8) (σ p9) h) (by kernel_rfl) fun n1 => Is.as (Is.leaf _) fun σ h => by kernel_rfl
theorem I211_0 (E : Env) : Is E C211_0 (retK3 R211) (fun σ h => J211_0 E (σ p0) (σ p1) (σ p2) h) :=
  Is.as (Is.seq (Is.seq (Is.block (I211_1 E)) (Is.leaf _)) (Is.leaf _)) fun σ h => by kernel_rfl
def D211 : DF := ⟨4, 34, C211_0, R211⟩
noncomputable def S211 (E : Env) : Fun := fun args h => aS args fun r0 args => aS args fun r1 args => aS args fun r2 args => aS args fun r3 args => a0 args (J211_0 E r0 r1 r2 h)
theorem S211_eq (E : Env) (args : List DV) (h : H) : runFn E D211 args h = S211 E args h :=
  Is.fn4 (d := D211) (I211_0 E) rfl (fun r0 r1 r2 r3 h => J211_0 E r0 r1 r2 h) (fun r0 r1 r2 r3 h => by kernel_rfl) args h
/- slices.partialInsertionSortCmpFunc[hurdle/api.Place] -/
def R212 : List RV := [(.r p8)]
noncomputable def J212_1 (E : Env) (h : H) : Ans :=
  some ((.bool false), h)
def C212_1 : DC := (.seq (.reg [⟨(some p8), none, (.e (.mv (.c (.bool false))))⟩]) .ret)
noncomputable def J212_3 (E : Env) (i2 : DV → DV → H → Ans) (r9 r10 : DV) (h : H) : Ans :=
  vK (v_add r10 (.int .i64 (.ofNat 1))) fun x1 =>
  i2 r9 x1 h
def C212_3 : DC := (.reg [⟨(some p17), none, (.e (.mv (.r p10)))⟩, ⟨(some p18), none, (.e (.bin .add (.r p17) (.c (.int .i64 (.ofNat 1)))))⟩, ⟨(some p10), none, (.e (.mv (.r p18)))⟩])
noncomputable def B212_8 (E : Env) (i2 : DV → DV → H → Ans) (r0 r2 r3 r9 r10 : DV) (i8 : DV → H → Ans) (r12 : DV) (h : H) : Ans :=
  vK (v_lss r12 r2) fun x1 =>
  bK x1
  (vK (v_iaS 2 r0 r12) fun x2 =>
  vK (v_ldN 2 h.get x2) fun x3 =>
  vK (v_sub r12 (.int .i64 (.ofNat 1))) fun x4 =>
  vK (v_iaS 2 r0 x4) fun x5 =>
  vK (v_ldN 2 h.get x5) fun x6 =>
  wK (c_val E r3 [x3, x6] h) fun x7 h8 =>
  vK (v_lss x7 (.int .i64 (.ofNat 0))) fun x9 =>
  vK (v_not x9) fun x10 =>
  bK x10
  (J212_3 E i2 r9 r10 h8)
  (vK (v_sub r12 (.int .i64 (.ofNat 1))) fun x11 =>
  vK (v_sub r12 (.int .i64 (.ofNat 1))) fun x12 =>
  vK (v_iaS 2 r0 x12) fun x13 =>
  vK (v_ldN 2 h8.get x13) fun x14 =>
  vK (v_iaS 2 r0 r12) fun x15 =>
  vK (v_ldN 2 h8.get x15) fun x16 =>
  vK (v_iaS 2 r0 r12) fun x17 =>
  wK (dStF 2 x17 x14 h8) fun x18 h19 =>
  vK (v_iaS 2 r0 x11) fun x20 =>
  wK (dStF 2 x20 x16 h19) fun x21 h22 =>
  vK (v_add r12 (.int .i64 (.ofNat 1))) fun x23 =>
  i8 x23 h22))
  (J212_3 E i2 r9 r10 h)
noncomputable def L212_8 (E : Env) (i2 : DV → DV → H → Ans) (r0 r2 r3 r9 r10 : DV) (n : Nat) : DV → H → Ans := Nat.rec (motive := fun _ => DV → H → Ans) (fun _ _ => none) (fun _ i => B212_8 E i2 r0 r2 r3 r9 r10 i) n
def C212_8 : DC := (.loop (.seq (.seq (.reg [⟨(some p107), none, (.e (.mv (.r p12)))⟩, ⟨(some p108), none, (.e (.mv (.r p2)))⟩, ⟨(some p109), none, (.e (.bin .lss (.r p107) (.r p108)))⟩]) (.cond (.r p109) .skip (.exit 6))) (.seq (.block 7 (.seq (.seq (.drg [⟨0, ⟨(some p112), none, (.e (.mv (.r p3)))⟩, [], false⟩, ⟨1, ⟨(some p113), none, (.e (.mv (.r p0)))⟩, [], false⟩, ⟨2, ⟨(some p114), none, (.e (.mv (.r p12)))⟩, [], false⟩, ⟨3, ⟨(some p115), none, (.e (.iaS 2 (.r p113) (.r p114)))⟩, [], false⟩, ⟨4, ⟨(some p116), none, (.e (.ldN 2 (.r p115)))⟩, [], false⟩, ⟨5, ⟨(some p117), none, (.e (.mv (.r p0)))⟩, [], false⟩, ⟨6, ⟨(some p118), none, (.e (.mv (.r p12)))⟩, [], false⟩, ⟨7, ⟨(some p119), none, (.e (.bin .sub (.r p118) (.c (.int .i64 (.ofNat 1)))))⟩, [], false⟩, ⟨8, ⟨(some p120), none, (.e (.iaS 2 (.r p117) (.r p119)))⟩, [], false⟩, ⟨9, ⟨(some p121), none, (.e (.ldN 2 (.r p120)))⟩, [], false⟩, ⟨10, ⟨(some p122), none, (.c (.v (.r p112) [(.r p116), (.r p121)]))⟩, [], false⟩, ⟨11, ⟨(some p123), none, (.e (.bin .lss (.r p122) (.c (.int .i64 (.ofNat 0)))))⟩, [], false⟩, ⟨12, ⟨(some p124), none, (.e (.not (.r p123)))⟩, [], false⟩]) (.cond (.r p124) (.exit 6) .skip)) (.drg [⟨0, ⟨(some p125), none, (.e (.mv (.r p0)))⟩, [], false⟩, ⟨1, ⟨(some p126), none, (.e (.mv (.r p12)))⟩, [], false⟩, ⟨2, ⟨(some p127), none, (.e (.mv (.r p0)))⟩, [], false⟩, ⟨3, ⟨(some p128), none, (.e (.mv (.r p12)))⟩, [], false⟩, ⟨4, ⟨(some p129), none, (.e (.bin .sub (.r p128) (.c (.int .i64 (.ofNat 1)))))⟩, [], false⟩, ⟨5, ⟨(some p130), none, (.e (.mv (.r p0)))⟩, [], false⟩, ⟨6, ⟨(some p131), none, (.e (.mv (.r p12)))⟩, [], false⟩, ⟨7, ⟨(some p132), none, (.e (.bin .sub (.r p131) (.c (.int .i64 (.ofNat 1)))))⟩, [], false⟩, ⟨8, ⟨(some p133), none, (.e (.iaS 2 (.r p130) (.r p132)))⟩, [], false⟩, ⟨9, ⟨(some p134), none, (.e (.ldN 2 (.r p133)))⟩, [], false⟩, ⟨10, ⟨(some p135), none, (.e (.mv (.r p0)))⟩, [], false⟩, ⟨11, ⟨(some p136), none, (.e (.mv (.r p12)))⟩, [], false⟩, ⟨12, ⟨(some p137), none, (.e (.iaS 2 (.r p135) (.r p136)))⟩, [], false⟩, ⟨13, ⟨(some p138), none, (.e (.ldN 2 (.r p137)))⟩, [], false⟩, ⟨14, ⟨(some p139), none, (.e (.iaS 2 (.r p125) (.r p126)))⟩, [], false⟩, ⟨15, ⟨none, none, (.w (.st 2 (.r p139) (.r p134)))⟩, [], false⟩, ⟨16, ⟨(some p140), none, (.e (.iaS 2 (.r p127) (.r p129)))⟩, [], false⟩, ⟨17, ⟨none, none, (.w (.st 2 (.r p140) (.r p138)))⟩, [], false⟩]))) (.reg [⟨(some p110), none, (.e (.mv (.r p12)))⟩, ⟨(some p111), none, (.e (.bin .add (.r p110) (.c (.int .i64 (.ofNat 1)))))⟩, ⟨(some p12), none, (.e (.mv (.r p111)))⟩]))))
noncomputable def J212_6 (E : Env) (i2 : DV → DV → H → Ans) (r0 r2 r3 r9 r10 : DV) (h : H) : Ans :=
  vK (v_sub r2 r9) fun x1 =>
  vK (v_geq x1 (.int .i64 (.ofNat 2))) fun x2 =>
  bK x2
  (vK (v_add r9 (.int .i64 (.ofNat 1))) fun x3 =>
  L212_8 E i2 r0 r2 r3 r9 r10 FUEL x3 h)
  (J212_3 E i2 r9 r10 h)
def C212_6 : DC := (.seq (.reg [⟨(some p101), none, (.e (.mv (.r p2)))⟩, ⟨(some p102), none, (.e (.mv (.r p9)))⟩, ⟨(some p103), none, (.e (.bin .sub (.r p101) (.r p102)))⟩, ⟨(some p104), none, (.e (.bin .geq (.r p103) (.c (.int .i64 (.ofNat 2)))))⟩]) (.cond (.r p104) (.seq (.reg [⟨(some p105), none, (.e (.mv (.r p9)))⟩, ⟨(some p106), none, (.e (.bin .add (.r p105) (.c (.int .i64 (.ofNat 1)))))⟩, ⟨(some p12), none, (.e (.mv (.r p106)))⟩]) (.block 6 C212_8)) .skip))
noncomputable def B212_7 (E : Env) (i2 : DV → DV → H → Ans) (r0 r2 r3 r9 r10 : DV) (i7 : DV → H → Ans) (r11 : DV) (h : H) : Ans :=
  vK (v_geq r11 (.int .i64 (.ofNat 1))) fun x1 =>
  bK x1
  (vK (v_iaS 2 r0 r11) fun x2 =>
  vK (v_ldN 2 h.get x2) fun x3 =>
  vK (v_sub r11 (.int .i64 (.ofNat 1))) fun x4 =>
  vK (v_iaS 2 r0 x4) fun x5 =>
  vK (v_ldN 2 h.get x5) fun x6 =>
  wK (c_val E r3 [x3, x6] h) fun x7 h8 =>
  vK (v_lss x7 (.int .i64 (.ofNat 0))) fun x9 =>
  vK (v_not x9) fun x10 =>
  bK x10
  (J212_6 E i2 r0 r2 r3 r9 r10 h8)
  (vK (v_sub r11 (.int .i64 (.ofNat 1))) fun x11 =>
  vK (v_sub r11 (.int .i64 (.ofNat 1))) fun x12 =>
  vK (v_iaS 2 r0 x12) fun x13 =>
  vK (v_ldN 2 h8.get x13) fun x14 =>
  vK (v_iaS 2 r0 r11) fun x15 =>
  vK (v_ldN 2 h8.get x15) fun x16 =>
  vK (v_iaS 2 r0 r11) fun x17 =>
  wK (dStF 2 x17 x14 h8) fun x18 h19 =>
  vK (v_iaS 2 r0 x11) fun x20 =>
  wK (dStF 2 x20 x16 h19) fun x21 h22 =>
  vK (v_sub r11 (.int .i64 (.ofNat 1))) fun x23 =>
  i7 x23 h22))
  (J212_6 E i2 r0 r2 r3 r9 r10 h)
noncomputable def L212_7 (E : Env) (i2 : DV → DV → H → Ans) (r0 r2 r3 r9 r10 : DV) (n : Nat) : DV → H → Ans := Nat.rec (motive := fun _ => DV → H → Ans) (fun _ _ => none) (fun _ i => B212_7 E i2 r0 r2 r3 r9 r10 i) n
def C212_7 : DC := (.loop (.seq (.seq (.reg [⟨(some p68), none, (.e (.mv (.r p11)))⟩, ⟨(some p69), none, (.e (.bin .geq (.r p68) (.c (.int .i64 (.ofNat 1)))))⟩]) (.cond (.r p69) .skip (.exit 4))) (.seq (.block 5 (.seq (.seq (.drg [⟨0, ⟨(some p72), none, (.e (.mv (.r p3)))⟩, [], false⟩, ⟨1, ⟨(some p73), none, (.e (.mv (.r p0)))⟩, [], false⟩, ⟨2, ⟨(some p74), none, (.e (.mv (.r p11)))⟩, [], false⟩, ⟨3, ⟨(some p75), none, (.e (.iaS 2 (.r p73) (.r p74)))⟩, [], false⟩, ⟨4, ⟨(some p76), none, (.e (.ldN 2 (.r p75)))⟩, [], false⟩, ⟨5, ⟨(some p77), none, (.e (.mv (.r p0)))⟩, [], false⟩, ⟨6, ⟨(some p78), none, (.e (.mv (.r p11)))⟩, [], false⟩, ⟨7, ⟨(some p79), none, (.e (.bin .sub (.r p78) (.c (.int .i64 (.ofNat 1)))))⟩, [], false⟩, ⟨8, ⟨(some p80), none, (.e (.iaS 2 (.r p77) (.r p79)))⟩, [], false⟩, ⟨9, ⟨(some p81), none, (.e (.ldN 2 (.r p80)))⟩, [], false⟩, ⟨10, ⟨(some p82), none, (.c (.v (.r p72) [(.r p76), (.r p81)]))⟩, [], false⟩, ⟨11, ⟨(some p83), none, (.e (.bin .lss (.r p82) (.c (.int .i64 (.ofNat 0)))))⟩, [], false⟩, ⟨12, ⟨(some p84), none, (.e (.not (.r p83)))⟩, [], false⟩]) (.cond (.r p84) (.exit 4) .skip)) (.drg [⟨0, ⟨(some p85), none, (.e (.mv (.r p0)))⟩, [], false⟩, ⟨1, ⟨(some p86), none, (.e (.mv (.r p11)))⟩, [], false⟩, ⟨2, ⟨(some p87), none, (.e (.mv (.r p0)))⟩, [], false⟩, ⟨3, ⟨(some p88), none, (.e (.mv (.r p11)))⟩, [], false⟩, ⟨4, ⟨(some p89), none, (.e (.bin .sub (.r p88) (.c (.int .i64 (.ofNat 1)))))⟩, [], false⟩, ⟨5, ⟨(some p90), none, (.e (.mv (.r p0)))⟩, [], false⟩, ⟨6, ⟨(some p91), none, (.e (.mv (.r p11)))⟩, [], false⟩, ⟨7, ⟨(some p92), none, (.e (.bin .sub (.r p91) (.c (.int .i64 (.ofNat 1)))))⟩, [], false⟩, ⟨8, ⟨(some p93), none, (.e (.iaS 2 (.r p90) (.r p92)))⟩, [], false⟩, ⟨9, ⟨(some p94), none, (.e (.ldN 2 (.r p93)))⟩, [], false⟩, ⟨10, ⟨(some p95), none, (.e (.mv (.r p0)))⟩, [], false⟩, ⟨11, ⟨(some p96), none, (.e (.mv (.r p11)))⟩, [], false⟩, ⟨12, ⟨(some p97), none, (.e (.iaS 2 (.r p95) (.r p96)))⟩, [], false⟩, ⟨13, ⟨(some p98), none, (.e (.ldN 2 (.r p97)))⟩, [], false⟩, ⟨14, ⟨(some p99), none, (.e (.iaS 2 (.r p85) (.r p86)))⟩, [], false⟩, ⟨15, ⟨none, none, (.w (.st 2 (.r p99) (.r p94)))⟩, [], false⟩, ⟨16, ⟨(some p100), none, (.e (.iaS 2 (.r p87) (.r p89)))⟩, [], false⟩, ⟨17, ⟨none, none, (.w (.st 2 (.r p100) (.r p98)))⟩, [], false⟩]))) (.reg [⟨(some p70), none, (.e (.mv (.r p11)))⟩, ⟨(some p71), none, (.e (.bin .sub (.r p70) (.c (.int .i64 (.ofNat 1)))))⟩, ⟨(some p11), none, (.e (.mv (.r p71)))⟩]))))
noncomputable def J212_4 (E : Env) (i2 : DV → DV → H → Ans) (r0 r1 r2 r3 r9 r10 : DV) (h : H) : Ans :=
  vK (v_eql r9 r2) fun x1 =>
  bK x1
  (some ((.bool true), h))
  (vK (v_sub r2 r1) fun x2 =>
  vK (v_lss x2 (.int .i64 (.ofNat 50))) fun x3 =>
  bK x3
  (some ((.bool false), h))
  (vK (v_sub r9 (.int .i64 (.ofNat 1))) fun x4 =>
  vK (v_sub r9 (.int .i64 (.ofNat 1))) fun x5 =>
  vK (v_iaS 2 r0 x5) fun x6 =>
  vK (v_ldN 2 h.get x6) fun x7 =>
  vK (v_iaS 2 r0 r9) fun x8 =>
  vK (v_ldN 2 h.get x8) fun x9 =>
  vK (v_iaS 2 r0 r9) fun x10 =>
  wK (dStF 2 x10 x7 h) fun x11 h12 =>
  vK (v_iaS 2 r0 x4) fun x13 =>
  wK (dStF 2 x13 x9 h12) fun x14 h15 =>
  vK (v_sub r9 r1) fun x16 =>
  vK (v_geq x16 (.int .i64 (.ofNat 2))) fun x17 =>
  bK x17
  (vK (v_sub r9 (.int .i64 (.ofNat 1))) fun x18 =>
  L212_7 E i2 r0 r2 r3 r9 r10 FUEL x18 h15)
  (J212_6 E i2 r0 r2 r3 r9 r10 h15)))
def C212_4 : DC := (.seq (.seq (.reg [⟨(some p39), none, (.e (.mv (.r p9)))⟩, ⟨(some p40), none, (.e (.mv (.r p2)))⟩, ⟨(some p41), none, (.e (.bin .eql (.r p39) (.r p40)))⟩]) (.cond (.r p41) (.seq (.reg [⟨(some p8), none, (.e (.mv (.c (.bool true))))⟩]) .ret) .skip)) (.seq (.seq (.reg [⟨(some p42), none, (.e (.mv (.r p2)))⟩, ⟨(some p43), none, (.e (.mv (.r p1)))⟩, ⟨(some p44), none, (.e (.bin .sub (.r p42) (.r p43)))⟩, ⟨(some p45), none, (.e (.bin .lss (.r p44) (.c (.int .i64 (.ofNat 50)))))⟩]) (.cond (.r p45) (.seq (.reg [⟨(some p8), none, (.e (.mv (.c (.bool false))))⟩]) .ret) .skip)) (.seq (.drg [⟨0, ⟨(some p46), none, (.e (.mv (.r p0)))⟩, [], false⟩, ⟨1, ⟨(some p47), none, (.e (.mv (.r p9)))⟩, [], false⟩, ⟨2, ⟨(some p48), none, (.e (.mv (.r p0)))⟩, [], false⟩, ⟨3, ⟨(some p49), none, (.e (.mv (.r p9)))⟩, [], false⟩, ⟨4, ⟨(some p50), none, (.e (.bin .sub (.r p49) (.c (.int .i64 (.ofNat 1)))))⟩, [], false⟩, ⟨5, ⟨(some p51), none, (.e (.mv (.r p0)))⟩, [], false⟩, ⟨6, ⟨(some p52), none, (.e (.mv (.r p9)))⟩, [], false⟩, ⟨7, ⟨(some p53), none, (.e (.bin .sub (.r p52) (.c (.int .i64 (.ofNat 1)))))⟩, [], false⟩, ⟨8, ⟨(some p54), none, (.e (.iaS 2 (.r p51) (.r p53)))⟩, [], false⟩, ⟨9, ⟨(some p55), none, (.e (.ldN 2 (.r p54)))⟩, [], false⟩, ⟨10, ⟨(some p56), none, (.e (.mv (.r p0)))⟩, [], false⟩, ⟨11, ⟨(some p57), none, (.e (.mv (.r p9)))⟩, [], false⟩, ⟨12, ⟨(some p58), none, (.e (.iaS 2 (.r p56) (.r p57)))⟩, [], false⟩, ⟨13, ⟨(some p59), none, (.e (.ldN 2 (.r p58)))⟩, [], false⟩, ⟨14, ⟨(some p60), none, (.e (.iaS 2 (.r p46) (.r p47)))⟩, [], false⟩, ⟨15, ⟨none, none, (.w (.st 2 (.r p60) (.r p55)))⟩, [], false⟩, ⟨16, ⟨(some p61), none, (.e (.iaS 2 (.r p48) (.r p50)))⟩, [], false⟩, ⟨17, ⟨none, none, (.w (.st 2 (.r p61) (.r p59)))⟩, [], false⟩]) (.seq (.seq (.reg [⟨(some p62), none, (.e (.mv (.r p9)))⟩, ⟨(some p63), none, (.e (.mv (.r p1)))⟩, ⟨(some p64), none, (.e (.bin .sub (.r p62) (.r p63)))⟩, ⟨(some p65), none, (.e (.bin .geq (.r p64) (.c (.int .i64 (.ofNat 2)))))⟩]) (.cond (.r p65) (.seq (.reg [⟨(some p66), none, (.e (.mv (.r p9)))⟩, ⟨(some p67), none, (.e (.bin .sub (.r p66) (.c (.int .i64 (.ofNat 1)))))⟩, ⟨(some p11), none, (.e (.mv (.r p67)))⟩]) (.block 4 C212_7)) .skip)) C212_6))))
noncomputable def B212_5 (E : Env) (i2 : DV → DV → H → Ans) (r0 r1 r2 r3 r10 : DV) (i5 : DV → H → Ans) (r9 : DV) (h : H) : Ans :=
  vK (v_lss r9 r2) fun x1 =>
  gdK x1 true (fun kk => kk r3 h) h fun x2 h3 =>
  gdK x1 true (fun kk => kk r0 h3) h3 fun x4 h5 =>
  gdK x1 true (fun kk => kk r9 h5) h5 fun x6 h7 =>
  gdK x1 true (fun kk => vK (v_iaS 2 x4 x6) fun v => kk v h7) h7 fun x8 h9 =>
  gdK x1 true (fun kk => vK (v_ldN 2 h9.get x8) fun v => kk v h9) h9 fun x10 h11 =>
  gdK x1 true (fun kk => kk r0 h11) h11 fun x12 h13 =>
  gdK x1 true (fun kk => kk r9 h13) h13 fun x14 h15 =>
  gdK x1 true (fun kk => vK (v_sub x14 (.int .i64 (.ofNat 1))) fun v => kk v h15) h15 fun x16 h17 =>
  gdK x1 true (fun kk => vK (v_iaS 2 x12 x16) fun v => kk v h17) h17 fun x18 h19 =>
  gdK x1 true (fun kk => vK (v_ldN 2 h19.get x18) fun v => kk v h19) h19 fun x20 h21 =>
  gdK x1 true (fun kk => wK (c_val E x2 [x10, x20] h21) kk) h21 fun x22 h23 =>
  gdK x1 true (fun kk => vK (v_lss x22 (.int .i64 (.ofNat 0))) fun v => kk v h23) h23 fun x24 h25 =>
  gdK x1 true (fun kk => vK (v_not x24) fun v => kk v h25) h25 fun x26 h27 =>
  vK (v_pick x1 x26 (.bool false)) fun x28 =>
  bK x28
  (vK (v_add r9 (.int .i64 (.ofNat 1))) fun x29 =>
  i5 x29 h27)
  (J212_4 E i2 r0 r1 r2 r3 r9 r10 h27)
noncomputable def L212_5 (E : Env) (i2 : DV → DV → H → Ans) (r0 r1 r2 r3 r10 : DV) (n : Nat) : DV → H → Ans := Nat.rec (motive := fun _ => DV → H → Ans) (fun _ _ => none) (fun _ i => B212_5 E i2 r0 r1 r2 r3 r10 i) n
def C212_5 : DC := (.loop (.seq (.seq (.drg [⟨0, ⟨(some p19), none, (.e (.mv (.r p9)))⟩, [], false⟩, ⟨1, ⟨(some p20), none, (.e (.mv (.r p2)))⟩, [], false⟩, ⟨2, ⟨(some p21), none, (.e (.bin .lss (.r p19) (.r p20)))⟩, [], false⟩, ⟨3, ⟨(some p22), none, (.e (.mv (.r p21)))⟩, [], false⟩, ⟨4, ⟨(some p23), (some (p22, true)), (.e (.mv (.r p3)))⟩, [], false⟩, ⟨5, ⟨(some p24), (some (p22, true)), (.e (.mv (.r p0)))⟩, [], false⟩, ⟨6, ⟨(some p25), (some (p22, true)), (.e (.mv (.r p9)))⟩, [], false⟩, ⟨7, ⟨(some p26), (some (p22, true)), (.e (.iaS 2 (.r p24) (.r p25)))⟩, [], false⟩, ⟨8, ⟨(some p27), (some (p22, true)), (.e (.ldN 2 (.r p26)))⟩, [], false⟩, ⟨9, ⟨(some p28), (some (p22, true)), (.e (.mv (.r p0)))⟩, [], false⟩, ⟨10, ⟨(some p29), (some (p22, true)), (.e (.mv (.r p9)))⟩, [], false⟩, ⟨11, ⟨(some p30), (some (p22, true)), (.e (.bin .sub (.r p29) (.c (.int .i64 (.ofNat 1)))))⟩, [], false⟩, ⟨12, ⟨(some p31), (some (p22, true)), (.e (.iaS 2 (.r p28) (.r p30)))⟩, [], false⟩, ⟨13, ⟨(some p32), (some (p22, true)), (.e (.ldN 2 (.r p31)))⟩, [], false⟩, ⟨14, ⟨(some p33), (some (p22, true)), (.c (.v (.r p23) [(.r p27), (.r p32)]))⟩, [], false⟩, ⟨15, ⟨(some p34), (some (p22, true)), (.e (.bin .lss (.r p33) (.c (.int .i64 (.ofNat 0)))))⟩, [], false⟩, ⟨16, ⟨(some p35), (some (p22, true)), (.e (.not (.r p34)))⟩, [], false⟩, ⟨17, ⟨(some p36), none, (.e (.pick (.r p22) (.r p35) (.c (.bool false))))⟩, [], false⟩]) (.cond (.r p36) .skip (.exit 2))) (.block 3 (.reg [⟨(some p37), none, (.e (.mv (.r p9)))⟩, ⟨(some p38), none, (.e (.bin .add (.r p37) (.c (.int .i64 (.ofNat 1)))))⟩, ⟨(some p9), none, (.e (.mv (.r p38)))⟩]))))
noncomputable def B212_2 (E : Env) (r0 r1 r2 r3 : DV) (i2 : DV → DV → H → Ans) (r9 r10 : DV) (h : H) : Ans :=
  vK (v_lss r10 (.int .i64 (.ofNat 5))) fun x1 =>
  bK x1
  (L212_5 E i2 r0 r1 r2 r3 r10 FUEL r9 h)
  (J212_1 E h)
noncomputable def L212_2 (E : Env) (r0 r1 r2 r3 : DV) (n : Nat) : DV → DV → H → Ans := Nat.rec (motive := fun _ => DV → DV → H → Ans) (fun _ _ _ => none) (fun _ i => B212_2 E r0 r1 r2 r3 i) n
def C212_2 : DC := (.loop (.seq (.seq (.reg [⟨(some p15), none, (.e (.mv (.r p10)))⟩, ⟨(some p16), none, (.e (.bin .lss (.r p15) (.c (.int .i64 (.ofNat 5)))))⟩]) (.cond (.r p16) .skip (.exit 0))) (.seq (.block 1 (.seq (.block 2 C212_5) C212_4)) C212_3)))
noncomputable def J212_0 (E : Env) (r0 r1 r2 r3 : DV) (h : H) : Ans :=
  vK (v_add r1 (.int .i64 (.ofNat 1))) fun x1 =>
  L212_2 E r0 r1 r2 r3 FUEL x1 (.int .i64 (.ofNat 0)) h
def C212_0 : DC := (.seq (.reg [⟨(some p8), none, (.e (.mv (.c (.bool false))))⟩]) (.seq (.reg [⟨(some p13), none, (.e (.mv (.r p1)))⟩, ⟨(some p14), none, (.e (.bin .add (.r p13) (.c (.int .i64 (.ofNat 1)))))⟩, ⟨(some p9), none, (.e (.mv (.r p14)))⟩]) (.seq (.seq (.reg [⟨(some p10), none, (.e (.mv (.c (.int .i64 (.ofNat 0)))))⟩]) (.block 0 C212_2)) C212_1)))
theorem I212_1 (E : Env) : Is E C212_1 (retK3 R212) (fun σ h => J212_1 E h) :=
  fun σ h => by kernel_rfl
noncomputable abbrev K212_9 (E : Env) : KT2 (DV × H) := (blockK3 0 (thenK3 (fun σ h => J212_1 E h) (retK3 R212)))
noncomputable abbrev K212_10 (E : Env) (n2 : Nat) : KT2 (DV × H) := (thenK3 (fun σ h => (L212_2 E (σ p0) (σ p1) (σ p2) (σ p3) n2) (σ p9) (σ p10) h) (K212_9 E))
theorem I212_3 (E : Env) (n2 : Nat) : Is E C212_3 (K212_10 E n2) (fun σ h => J212_3 E (L212_2 E (σ p0) (σ p1) (σ p2) (σ p3) n2) (σ p9) (σ p10) h) :=
  fun σ h => by kernel_rfl
noncomputable abbrev K212_11 (E : Env) (n2 : Nat) : KT2 (DV × H) := (thenK3 (fun σ h => J212_3 E (L212_2 E (σ p0) (σ p1) (σ p2) (σ p3) n2) (σ p9) (σ p10) h) (K212_10 E n2))
theorem I212_8 (E : Env) (n2 : Nat) : Is E C212_8 (blockK3 6 (blockK3 1 (K212_11 E n2))) (fun σ h => L212_8 E (L212_2 E (σ p0) (σ p1) (σ p2) (σ p3) n2) (σ p0) (σ p2) (σ p3) (σ p9) (σ p10) FUEL (σ p12) h) :=
  Is.loop (fun n8 σ h => L212_8 E (L212_2 E (σ p0) (σ p1) (σ p2) (σ p3) n2) (σ p0) (σ p2) (σ p3) (σ p9) (σ p10) n8 (σ p12) h) (by kernel_rfl) fun n8 => Is.as (Is.leaf _) fun σ h => by kernel_rfl
theorem I212_6 (E : Env) (n2 : Nat) : Is E C212_6 (blockK3 1 (K212_11 E n2)) (fun σ h => J212_6 E (L212_2 E (σ p0) (σ p1) (σ p2) (σ p3) n2) (σ p0) (σ p2) (σ p3) (σ p9) (σ p10) h) :=
  Is.as (Is.seq (Is.cond (Is.seq (Is.block (I212_8 E n2)) (Is.leaf _)) (Is.leaf _)) (Is.leaf _)) fun σ h => by kernel_rfl
noncomputable abbrev K212_12 (E : Env) (n2 : Nat) : KT2 (DV × H) := (thenK3 (fun σ h => J212_6 E (L212_2 E (σ p0) (σ p1) (σ p2) (σ p3) n2) (σ p0) (σ p2) (σ p3) (σ p9) (σ p10) h) (blockK3 1 (K212_11 E n2)))
theorem I212_7 (E : Env) (n2 : Nat) : Is E C212_7 (blockK3 4 (K212_12 E n2)) (fun σ h => L212_7 E (L212_2 E (σ p0) (σ p1) (σ p2) (σ p3) n2) (σ p0) (σ p2) (σ p3) (σ p9) (σ p10) FUEL (σ p11) h) :=
  Is.loop (fun n7 σ h => L212_7 E (L212_2 E (σ p0) (σ p1) (σ p2) (σ p3) n2) (σ p0) (σ p2) (σ p3) (σ p9) (σ p10) n7 (σ p11) h) (by kernel_rfl) fun n7 => Is.as (Is.leaf _) fun σ h => by kernel_rfl
theorem I212_4 (E : Env) (n2 : Nat) : Is E C212_4 (blockK3 1 (K212_11 E n2)) (fun σ h => J212_4 E (L212_2 E (σ p0) (σ p1) (σ p2) (σ p3) n2) (σ p0) (σ p1) (σ p2) (σ p3) (σ p9) (σ p10) h) :=
  Is.as (Is.seq (Is.seq (Is.seq (Is.seq (I212_6 E n2) (Is.seq (Is.cond (Is.seq (Is.block (I212_7 E n2)) (Is.leaf _)) (Is.leaf _)) (Is.leaf _))) (Is.leaf _)) (Is.leaf _)) (Is.leaf _)) fun σ h => by kernel_rfl
noncomputable abbrev K212_13 (E : Env) (n2 : Nat) : KT2 (DV × H) := (thenK3 (fun σ h => J212_4 E (L212_2 E (σ p0) (σ p1) (σ p2) (σ p3) n2) (σ p0) (σ p1) (σ p2) (σ p3) (σ p9) (σ p10) h) (blockK3 1 (K212_11 E n2)))
theorem I212_5 (E : Env) (n2 : Nat) : Is E C212_5 (blockK3 2 (K212_13 E n2)) (fun σ h => L212_5 E (L212_2 E (σ p0) (σ p1) (σ p2) (σ p3) n2) (σ p0) (σ p1) (σ p2) (σ p3) (σ p10) FUEL (σ p9) h) :=
  Is.loop (fun n5 σ h => L212_5 E (L212_2 E (σ p0) (σ p1) (σ p2) (σ p3) n2) (σ p0) (σ p1) (σ p2) (σ p3) (σ p10) n5 (σ p9) h) (by kernel_rfl) fun n5 => Is.as (Is.leaf _) fun σ h => by kernel_rfl
theorem I212_2 (E : Env) : Is E C212_2 (K212_9 E) (fun σ h => L212_2 E (σ p0) (σ p1) (σ p2) (σ p3) FUEL (σ p9) (σ p10) h) :=
  Is.loop (fun n2 σ h => L212_2 E (σ p0) (σ p1) (σ p2) (σ p3) n2 (σ p9) (σ p10) h) (by kernel_rfl) fun n2 => Is.as (Is.seq (Is.seq (I212_3 E n2) (Is.block (Is.seq (I212_4 E n2) (Is.block (I212_5 E n2))))) (Is.leaf _)) fun σ h => by kernel_rfl
theorem I212_0 (E : Env) : Is E C212_0 (retK3 R212) (fun σ h => J212_0 E (σ p0) (σ p1) (σ p2) (σ p3) h) :=
  Is.as (Is.seq (Is.seq (Is.seq (I212_1 E) (Is.seq (Is.block (I212_2 E)) (Is.leaf _))) (Is.leaf _)) (Is.leaf _)) fun σ h => by kernel_rfl
def D212 : DF := ⟨4, 141, C212_0, R212⟩
noncomputable def S212 (E : Env) : Fun := fun args h => aS args fun r0 args => aS args fun r1 args => aS args fun r2 args => aS args fun r3 args => a0 args (J212_0 E r0 r1 r2 r3 h)
theorem S212_eq (E : Env) (args : List DV) (h : H) : runFn E D212 args h = S212 E args h :=
  Is.fn4 (d := D212) (I212_0 E) rfl (fun r0 r1 r2 r3 h => J212_0 E r0 r1 r2 r3 h) (fun r0 r1 r2 r3 h => by kernel_rfl) args h
/- slices.partitionEqualCmpFunc[hurdle/api.Place] -/
def R213 : List RV := [(.r p10)]
noncomputable def J213_1 (E : Env) (r11 : DV) (h : H) : Ans :=
  some (r11, h)
def C213_1 : DC := (.seq (.reg [⟨(some p89), none, (.e (.mv (.r p11)))⟩, ⟨(some p10), none, (.e (.mv (.r p89)))⟩]) .ret)
noncomputable def J213_5 (E : Env) (i2 : DV → DV → H → Ans) (r0 r11 r12 : DV) (h : H) : Ans :=
  vK (v_gtr r11 r12) fun x1 =>
  bK x1
  (J213_1 E r11 h)
  (vK (v_iaS 2 r0 r12) fun x2 =>
  vK (v_ldN 2 h.get x2) fun x3 =>
  vK (v_iaS 2 r0 r11) fun x4 =>
  vK (v_ldN 2 h.get x4) fun x5 =>
  vK (v_iaS 2 r0 r11) fun x6 =>
  wK (dStF 2 x6 x3 h) fun x7 h8 =>
  vK (v_iaS 2 r0 r12) fun x9 =>
  wK (dStF 2 x9 x5 h8) fun x10 h11 =>
  vK (v_add r11 (.int .i64 (.ofNat 1))) fun x12 =>
  vK (v_sub r12 (.int .i64 (.ofNat 1))) fun x13 =>
  i2 x12 x13 h11)
def C213_5 : DC := (.seq (.seq (.reg [⟨(some p68), none, (.e (.mv (.r p11)))⟩, ⟨(some p69), none, (.e (.mv (.r p12)))⟩, ⟨(some p70), none, (.e (.bin .gtr (.r p68) (.r p69)))⟩]) (.cond (.r p70) (.exit 0) .skip)) (.seq (.drg [⟨0, ⟨(some p71), none, (.e (.mv (.r p0)))⟩, [], false⟩, ⟨1, ⟨(some p72), none, (.e (.mv (.r p11)))⟩, [], false⟩, ⟨2, ⟨(some p73), none, (.e (.mv (.r p0)))⟩, [], false⟩, ⟨3, ⟨(some p74), none, (.e (.mv (.r p12)))⟩, [], false⟩, ⟨4, ⟨(some p75), none, (.e (.mv (.r p0)))⟩, [], false⟩, ⟨5, ⟨(some p76), none, (.e (.mv (.r p12)))⟩, [], false⟩, ⟨6, ⟨(some p77), none, (.e (.iaS 2 (.r p75) (.r p76)))⟩, [], false⟩, ⟨7, ⟨(some p78), none, (.e (.ldN 2 (.r p77)))⟩, [], false⟩, ⟨8, ⟨(some p79), none, (.e (.mv (.r p0)))⟩, [], false⟩, ⟨9, ⟨(some p80), none, (.e (.mv (.r p11)))⟩, [], false⟩, ⟨10, ⟨(some p81), none, (.e (.iaS 2 (.r p79) (.r p80)))⟩, [], false⟩, ⟨11, ⟨(some p82), none, (.e (.ldN 2 (.r p81)))⟩, [], false⟩, ⟨12, ⟨(some p83), none, (.e (.iaS 2 (.r p71) (.r p72)))⟩, [], false⟩, ⟨13, ⟨none, none, (.w (.st 2 (.r p83) (.r p78)))⟩, [], false⟩, ⟨14, ⟨(some p84), none, (.e (.iaS 2 (.r p73) (.r p74)))⟩, [], false⟩, ⟨15, ⟨none, none, (.w (.st 2 (.r p84) (.r p82)))⟩, [], false⟩]) (.seq (.reg [⟨(some p85), none, (.e (.mv (.r p11)))⟩, ⟨(some p86), none, (.e (.bin .add (.r p85) (.c (.int .i64 (.ofNat 1)))))⟩, ⟨(some p11), none, (.e (.mv (.r p86)))⟩]) (.reg [⟨(some p87), none, (.e (.mv (.r p12)))⟩, ⟨(some p88), none, (.e (.bin .sub (.r p87) (.c (.int .i64 (.ofNat 1)))))⟩, ⟨(some p12), none, (.e (.mv (.r p88)))⟩]))))
noncomputable def B213_6 (E : Env) (i2 : DV → DV → H → Ans) (r0 r1 r4 r11 : DV) (i6 : DV → H → Ans) (r12 : DV) (h : H) : Ans :=
  vK (v_leq r11 r12) fun x1 =>
  gdK x1 true (fun kk => kk r4 h) h fun x2 h3 =>
  gdK x1 true (fun kk => kk r0 h3) h3 fun x4 h5 =>
  gdK x1 true (fun kk => kk r1 h5) h5 fun x6 h7 =>
  gdK x1 true (fun kk => vK (v_iaS 2 x4 x6) fun v => kk v h7) h7 fun x8 h9 =>
  gdK x1 true (fun kk => vK (v_ldN 2 h9.get x8) fun v => kk v h9) h9 fun x10 h11 =>
  gdK x1 true (fun kk => kk r0 h11) h11 fun x12 h13 =>
  gdK x1 true (fun kk => kk r12 h13) h13 fun x14 h15 =>
  gdK x1 true (fun kk => vK (v_iaS 2 x12 x14) fun v => kk v h15) h15 fun x16 h17 =>
  gdK x1 true (fun kk => vK (v_ldN 2 h17.get x16) fun v => kk v h17) h17 fun x18 h19 =>
  gdK x1 true (fun kk => wK (c_val E x2 [x10, x18] h19) kk) h19 fun x20 h21 =>
  gdK x1 true (fun kk => vK (v_lss x20 (.int .i64 (.ofNat 0))) fun v => kk v h21) h21 fun x22 h23 =>
  vK (v_pick x1 x22 (.bool false)) fun x24 =>
  bK x24
  (vK (v_sub r12 (.int .i64 (.ofNat 1))) fun x25 =>
  i6 x25 h23)
  (J213_5 E i2 r0 r11 r12 h23)
noncomputable def L213_6 (E : Env) (i2 : DV → DV → H → Ans) (r0 r1 r4 r11 : DV) (n : Nat) : DV → H → Ans := Nat.rec (motive := fun _ => DV → H → Ans) (fun _ _ => none) (fun _ i => B213_6 E i2 r0 r1 r4 r11 i) n
def C213_6 : DC := (.loop (.seq (.seq (.drg [⟨0, ⟨(some p50), none, (.e (.mv (.r p11)))⟩, [], false⟩, ⟨1, ⟨(some p51), none, (.e (.mv (.r p12)))⟩, [], false⟩, ⟨2, ⟨(some p52), none, (.e (.bin .leq (.r p50) (.r p51)))⟩, [], false⟩, ⟨3, ⟨(some p53), none, (.e (.mv (.r p52)))⟩, [], false⟩, ⟨4, ⟨(some p54), (some (p53, true)), (.e (.mv (.r p4)))⟩, [], false⟩, ⟨5, ⟨(some p55), (some (p53, true)), (.e (.mv (.r p0)))⟩, [], false⟩, ⟨6, ⟨(some p56), (some (p53, true)), (.e (.mv (.r p1)))⟩, [], false⟩, ⟨7, ⟨(some p57), (some (p53, true)), (.e (.iaS 2 (.r p55) (.r p56)))⟩, [], false⟩, ⟨8, ⟨(some p58), (some (p53, true)), (.e (.ldN 2 (.r p57)))⟩, [], false⟩, ⟨9, ⟨(some p59), (some (p53, true)), (.e (.mv (.r p0)))⟩, [], false⟩, ⟨10, ⟨(some p60), (some (p53, true)), (.e (.mv (.r p12)))⟩, [], false⟩, ⟨11, ⟨(some p61), (some (p53, true)), (.e (.iaS 2 (.r p59) (.r p60)))⟩, [], false⟩, ⟨12, ⟨(some p62), (some (p53, true)), (.e (.ldN 2 (.r p61)))⟩, [], false⟩, ⟨13, ⟨(some p63), (some (p53, true)), (.c (.v (.r p54) [(.r p58), (.r p62)]))⟩, [], false⟩, ⟨14, ⟨(some p64), (some (p53, true)), (.e (.bin .lss (.r p63) (.c (.int .i64 (.ofNat 0)))))⟩, [], false⟩, ⟨15, ⟨(some p65), none, (.e (.pick (.r p53) (.r p64) (.c (.bool false))))⟩, [], false⟩]) (.cond (.r p65) .skip (.exit 4))) (.block 5 (.reg [⟨(some p66), none, (.e (.mv (.r p12)))⟩, ⟨(some p67), none, (.e (.bin .sub (.r p66) (.c (.int .i64 (.ofNat 1)))))⟩, ⟨(some p12), none, (.e (.mv (.r p67)))⟩]))))
noncomputable def J213_3 (E : Env) (i2 : DV → DV → H → Ans) (r0 r1 r4 r11 r12 : DV) (h : H) : Ans :=
  L213_6 E i2 r0 r1 r4 r11 FUEL r12 h
def C213_3 : DC := (.seq (.block 4 C213_6) C213_5)
noncomputable def B213_4 (E : Env) (i2 : DV → DV → H → Ans) (r0 r1 r4 r12 : DV) (i4 : DV → H → Ans) (r11 : DV) (h : H) : Ans :=
  vK (v_leq r11 r12) fun x1 =>
  gdK x1 true (fun kk => kk r4 h) h fun x2 h3 =>
  gdK x1 true (fun kk => kk r0 h3) h3 fun x4 h5 =>
  gdK x1 true (fun kk => kk r1 h5) h5 fun x6 h7 =>
  gdK x1 true (fun kk => vK (v_iaS 2 x4 x6) fun v => kk v h7) h7 fun x8 h9 =>
  gdK x1 true (fun kk => vK (v_ldN 2 h9.get x8) fun v => kk v h9) h9 fun x10 h11 =>
  gdK x1 true (fun kk => kk r0 h11) h11 fun x12 h13 =>
  gdK x1 true (fun kk => kk r11 h13) h13 fun x14 h15 =>
  gdK x1 true (fun kk => vK (v_iaS 2 x12 x14) fun v => kk v h15) h15 fun x16 h17 =>
  gdK x1 true (fun kk => vK (v_ldN 2 h17.get x16) fun v => kk v h17) h17 fun x18 h19 =>
  gdK x1 true (fun kk => wK (c_val E x2 [x10, x18] h19) kk) h19 fun x20 h21 =>
  gdK x1 true (fun kk => vK (v_lss x20 (.int .i64 (.ofNat 0))) fun v => kk v h21) h21 fun x22 h23 =>
  gdK x1 true (fun kk => vK (v_not x22) fun v => kk v h23) h23 fun x24 h25 =>
  vK (v_pick x1 x24 (.bool false)) fun x26 =>
  bK x26
  (vK (v_add r11 (.int .i64 (.ofNat 1))) fun x27 =>
  i4 x27 h25)
  (J213_3 E i2 r0 r1 r4 r11 r12 h25)
noncomputable def L213_4 (E : Env) (i2 : DV → DV → H → Ans) (r0 r1 r4 r12 : DV) (n : Nat) : DV → H → Ans := Nat.rec (motive := fun _ => DV → H → Ans) (fun _ _ => none) (fun _ i => B213_4 E i2 r0 r1 r4 r12 i) n
def C213_4 : DC := (.loop (.seq (.seq (.drg [⟨0, ⟨(some p31), none, (.e (.mv (.r p11)))⟩, [], false⟩, ⟨1, ⟨(some p32), none, (.e (.mv (.r p12)))⟩, [], false⟩, ⟨2, ⟨(some p33), none, (.e (.bin .leq (.r p31) (.r p32)))⟩, [], false⟩, ⟨3, ⟨(some p34), none, (.e (.mv (.r p33)))⟩, [], false⟩, ⟨4, ⟨(some p35), (some (p34, true)), (.e (.mv (.r p4)))⟩, [], false⟩, ⟨5, ⟨(some p36), (some (p34, true)), (.e (.mv (.r p0)))⟩, [], false⟩, ⟨6, ⟨(some p37), (some (p34, true)), (.e (.mv (.r p1)))⟩, [], false⟩, ⟨7, ⟨(some p38), (some (p34, true)), (.e (.iaS 2 (.r p36) (.r p37)))⟩, [], false⟩, ⟨8, ⟨(some p39), (some (p34, true)), (.e (.ldN 2 (.r p38)))⟩, [], false⟩, ⟨9, ⟨(some p40), (some (p34, true)), (.e (.mv (.r p0)))⟩, [], false⟩, ⟨10, ⟨(some p41), (some (p34, true)), (.e (.mv (.r p11)))⟩, [], false⟩, ⟨11, ⟨(some p42), (some (p34, true)), (.e (.iaS 2 (.r p40) (.r p41)))⟩, [], false⟩, ⟨12, ⟨(some p43), (some (p34, true)), (.e (.ldN 2 (.r p42)))⟩, [], false⟩, ⟨13, ⟨(some p44), (some (p34, true)), (.c (.v (.r p35) [(.r p39), (.r p43)]))⟩, [], false⟩, ⟨14, ⟨(some p45), (some (p34, true)), (.e (.bin .lss (.r p44) (.c (.int .i64 (.ofNat 0)))))⟩, [], false⟩, ⟨15, ⟨(some p46), (some (p34, true)), (.e (.not (.r p45)))⟩, [], false⟩, ⟨16, ⟨(some p47), none, (.e (.pick (.r p34) (.r p46) (.c (.bool false))))⟩, [], false⟩]) (.cond (.r p47) .skip (.exit 2))) (.block 3 (.reg [⟨(some p48), none, (.e (.mv (.r p11)))⟩, ⟨(some p49), none, (.e (.bin .add (.r p48) (.c (.int .i64 (.ofNat 1)))))⟩, ⟨(some p11), none, (.e (.mv (.r p49)))⟩]))))
noncomputable def B213_2 (E : Env) (r0 r1 r4 : DV) (i2 : DV → DV → H → Ans) (r11 r12 : DV) (h : H) : Ans :=
  L213_4 E i2 r0 r1 r4 r12 FUEL r11 h
noncomputable def L213_2 (E : Env) (r0 r1 r4 : DV) (n : Nat) : DV → DV → H → Ans := Nat.rec (motive := fun _ => DV → DV → H → Ans) (fun _ _ _ => none) (fun _ i => B213_2 E r0 r1 r4 i) n
def C213_2 : DC := (.loop (.block 1 (.seq (.block 2 C213_4) C213_3)))
noncomputable def J213_0 (E : Env) (r0 r1 r2 r3 r4 : DV) (h : H) : Ans :=
  vK (v_iaS 2 r0 r3) fun x1 =>
  vK (v_ldN 2 h.get x1) fun x2 =>
  vK (v_iaS 2 r0 r1) fun x3 =>
  vK (v_ldN 2 h.get x3) fun x4 =>
  vK (v_iaS 2 r0 r1) fun x5 =>
  wK (dStF 2 x5 x2 h) fun x6 h7 =>
  vK (v_iaS 2 r0 r3) fun x8 =>
  wK (dStF 2 x8 x4 h7) fun x9 h10 =>
  vK (v_add r1 (.int .i64 (.ofNat 1))) fun x11 =>
  vK (v_sub r2 (.int .i64 (.ofNat 1))) fun x12 =>
  L213_2 E r0 r1 r4 FUEL x11 x12 h10
def C213_0 : DC := (.seq (.reg [⟨(some p10), none, (.e (.mv (.c (.int .i64 (.ofNat 0)))))⟩]) (.seq (.drg [⟨0, ⟨(some p13), none, (.e (.mv (.r p0)))⟩, [], false⟩, ⟨1, ⟨(some p14), none, (.e (.mv (.r p1)))⟩, [], false⟩, ⟨2, ⟨(some p15), none, (.e (.mv (.r p0)))⟩, [], false⟩, ⟨3, ⟨(some p16), none, (.e (.mv (.r p3)))⟩, [], false⟩, ⟨4, ⟨(some p17), none, (.e (.mv (.r p0)))⟩, [], false⟩, ⟨5, ⟨(some p18), none, (.e (.mv (.r p3)))⟩, [], false⟩, ⟨6, ⟨(some p19), none, (.e (.iaS 2 (.r p17) (.r p18)))⟩, [], false⟩, ⟨7, ⟨(some p20), none, (.e (.ldN 2 (.r p19)))⟩, [], false⟩, ⟨8, ⟨(some p21), none, (.e (.mv (.r p0)))⟩, [], false⟩, ⟨9, ⟨(some p22), none, (.e (.mv (.r p1)))⟩, [], false⟩, ⟨10, ⟨(some p23), none, (.e (.iaS 2 (.r p21) (.r p22)))⟩, [], false⟩, ⟨11, ⟨(some p24), none, (.e (.ldN 2 (.r p23)))⟩, [], false⟩, ⟨12, ⟨(some p25), none, (.e (.iaS 2 (.r p13) (.r p14)))⟩, [], false⟩, ⟨13, ⟨none, none, (.w (.st 2 (.r p25) (.r p20)))⟩, [], false⟩, ⟨14, ⟨(some p26), none, (.e (.iaS 2 (.r p15) (.r p16)))⟩, [], false⟩, ⟨15, ⟨none, none, (.w (.st 2 (.r p26) (.r p24)))⟩, [], false⟩]) (.seq (.reg [⟨(some p27), none, (.e (.mv (.r p1)))⟩, ⟨(some p28), none, (.e (.bin .add (.r p27) (.c (.int .i64 (.ofNat 1)))))⟩, ⟨(some p29), none, (.e (.mv (.r p2)))⟩, ⟨(some p30), none, (.e (.bin .sub (.r p29) (.c (.int .i64 (.ofNat 1)))))⟩, ⟨(some p11), none, (.e (.mv (.r p28)))⟩, ⟨(some p12), none, (.e (.mv (.r p30)))⟩]) (.seq (.block 0 C213_2) C213_1))))
theorem I213_1 (E : Env) : Is E C213_1 (retK3 R213) (fun σ h => J213_1 E (σ p11) h) :=
  fun σ h => by kernel_rfl
noncomputable abbrev K213_7 (E : Env) : KT2 (DV × H) := (thenK3 (fun σ h => J213_1 E (σ p11) h) (retK3 R213))
noncomputable abbrev K213_8 (E : Env) (n2 : Nat) : KT2 (DV × H) := (thenK3 (fun σ h => (L213_2 E (σ p0) (σ p1) (σ p4) n2) (σ p11) (σ p12) h) (blockK3 0 (K213_7 E)))
theorem I213_5 (E : Env) (n2 : Nat) : Is E C213_5 (blockK3 1 (K213_8 E n2)) (fun σ h => J213_5 E (L213_2 E (σ p0) (σ p1) (σ p4) n2) (σ p0) (σ p11) (σ p12) h) :=
  fun σ h => by kernel_rfl
noncomputable abbrev K213_9 (E : Env) (n2 : Nat) : KT2 (DV × H) := (thenK3 (fun σ h => J213_5 E (L213_2 E (σ p0) (σ p1) (σ p4) n2) (σ p0) (σ p11) (σ p12) h) (blockK3 1 (K213_8 E n2)))
theorem I213_6 (E : Env) (n2 : Nat) : Is E C213_6 (blockK3 4 (K213_9 E n2)) (fun σ h => L213_6 E (L213_2 E (σ p0) (σ p1) (σ p4) n2) (σ p0) (σ p1) (σ p4) (σ p11) FUEL (σ p12) h) :=
  Is.loop (fun n6 σ h => L213_6 E (L213_2 E (σ p0) (σ p1) (σ p4) n2) (σ p0) (σ p1) (σ p4) (σ p11) n6 (σ p12) h) (by kernel_rfl) fun n6 => Is.as (Is.leaf _) fun σ h => by kernel_rfl
theorem I213_3 (E : Env) (n2 : Nat) : Is E C213_3 (blockK3 1 (K213_8 E n2)) (fun σ h => J213_3 E (L213_2 E (σ p0) (σ p1) (σ p4) n2) (σ p0) (σ p1) (σ p4) (σ p11) (σ p12) h) :=
  Is.as (Is.seq (I213_5 E n2) (Is.block (I213_6 E n2))) fun σ h => by kernel_rfl
noncomputable abbrev K213_10 (E : Env) (n2 : Nat) : KT2 (DV × H) := (thenK3 (fun σ h => J213_3 E (L213_2 E (σ p0) (σ p1) (σ p4) n2) (σ p0) (σ p1) (σ p4) (σ p11) (σ p12) h) (blockK3 1 (K213_8 E n2)))
theorem I213_4 (E : Env) (n2 : Nat) : Is E C213_4 (blockK3 2 (K213_10 E n2)) (fun σ h => L213_4 E (L213_2 E (σ p0) (σ p1) (σ p4) n2) (σ p0) (σ p1) (σ p4) (σ p12) FUEL (σ p11) h) :=
  Is.loop (fun n4 σ h => L213_4 E (L213_2 E (σ p0) (σ p1) (σ p4) n2) (σ p0) (σ p1) (σ p4) (σ p12) n4 (σ p11) h) (by kernel_rfl) fun n4 => Is.as (Is.leaf _) fun σ h => by kernel_rfl
theorem I213_2 (E : Env) : Is E C213_2 (blockK3 0 (K213_7 E)) (fun σ h => L213_2 E (σ p0) (σ p1) (σ p4) FUEL (σ p11) (σ p12) h) :=
  Is.loop (fun n2 σ h => L213_2 E (σ p0) (σ p1) (σ p4) n2 (σ p11) (σ p12) h) (by kernel_rfl) fun n2 => Is.as (Is.block (Is.seq (I213_3 E n2) (Is.block (I213_4 E n2)))) fun σ h => by kernel_rfl
theorem I213_0 (E : Env) : Is E C213_0 (retK3 R213) (fun σ h => J213_0 E (σ p0) (σ p1) (σ p2) (σ p3) (σ p4) h) :=
  Is.as (Is.seq (Is.seq (Is.seq (Is.seq (I213_1 E) (Is.block (I213_2 E))) (Is.leaf _)) (Is.leaf _)) (Is.leaf _)) fun σ h => by kernel_rfl
def D213 : DF := ⟨5, 90, C213_0, R213⟩
noncomputable def S213 (E : Env) : Fun := fun args h => aS args fun r0 args => aS args fun r1 args => aS args fun r2 args => aS args fun r3 args => aS args fun r4 args => a0 args (J213_0 E r0 r1 r2 r3 r4 h)
theorem S213_eq (E : Env) (args : List DV) (h : H) : runFn E D213 args h = S213 E args h :=
  Is.fn5 (d := D213) (I213_0 E) rfl (fun r0 r1 r2 r3 r4 h => J213_0 E r0 r1 r2 r3 r4 h) (fun r0 r1 r2 r3 r4 h => by kernel_rfl) args h
/- slices.partitionCmpFunc[hurdle/api.Place] -/
def R214 : List RV := [(.r p10), (.r p11)]
noncomputable def J214_5 (E : Env) (r0 r1 r13 : DV) (h : H) : Ans :=
  vK (v_iaS 2 r0 r1) fun x1 =>
  vK (v_ldN 2 h.get x1) fun x2 =>
  vK (v_iaS 2 r0 r13) fun x3 =>
  vK (v_ldN 2 h.get x3) fun x4 =>
  vK (v_iaS 2 r0 r13) fun x5 =>
  wK (dStF 2 x5 x2 h) fun x6 h7 =>
  vK (v_iaS 2 r0 r1) fun x8 =>
  wK (dStF 2 x8 x4 h7) fun x9 h10 =>
  some ((.tup [r13, (.bool false)]), h10)
def C214_5 : DC := (.seq (.drg [⟨0, ⟨(some p163), none, (.e (.mv (.r p0)))⟩, [], false⟩, ⟨1, ⟨(some p164), none, (.e (.mv (.r p13)))⟩, [], false⟩, ⟨2, ⟨(some p165), none, (.e (.mv (.r p0)))⟩, [], false⟩, ⟨3, ⟨(some p166), none, (.e (.mv (.r p1)))⟩, [], false⟩, ⟨4, ⟨(some p167), none, (.e (.mv (.r p0)))⟩, [], false⟩, ⟨5, ⟨(some p168), none, (.e (.mv (.r p1)))⟩, [], false⟩, ⟨6, ⟨(some p169), none, (.e (.iaS 2 (.r p167) (.r p168)))⟩, [], false⟩, ⟨7, ⟨(some p170), none, (.e (.ldN 2 (.r p169)))⟩, [], false⟩, ⟨8, ⟨(some p171), none, (.e (.mv (.r p0)))⟩, [], false⟩, ⟨9, ⟨(some p172), none, (.e (.mv (.r p13)))⟩, [], false⟩, ⟨10, ⟨(some p173), none, (.e (.iaS 2 (.r p171) (.r p172)))⟩, [], false⟩, ⟨11, ⟨(some p174), none, (.e (.ldN 2 (.r p173)))⟩, [], false⟩, ⟨12, ⟨(some p175), none, (.e (.iaS 2 (.r p163) (.r p164)))⟩, [], false⟩, ⟨13, ⟨none, none, (.w (.st 2 (.r p175) (.r p170)))⟩, [], false⟩, ⟨14, ⟨(some p176), none, (.e (.iaS 2 (.r p165) (.r p166)))⟩, [], false⟩, ⟨15, ⟨none, none, (.w (.st 2 (.r p176) (.r p174)))⟩, [], false⟩]) (.seq (.reg [⟨(some p177), none, (.e (.mv (.r p13)))⟩, ⟨(some p10), none, (.e (.mv (.r p177)))⟩, ⟨(some p11), none, (.e (.mv (.c (.bool false))))⟩]) .ret))
noncomputable def J214_9 (E : Env) (i6 : DV → DV → H → Ans) (r0 r1 r12 r13 : DV) (h : H) : Ans :=
  vK (v_gtr r12 r13) fun x1 =>
  bK x1
  (J214_5 E r0 r1 r13 h)
  (vK (v_iaS 2 r0 r13) fun x2 =>
  vK (v_ldN 2 h.get x2) fun x3 =>
  vK (v_iaS 2 r0 r12) fun x4 =>
  vK (v_ldN 2 h.get x4) fun x5 =>
  vK (v_iaS 2 r0 r12) fun x6 =>
  wK (dStF 2 x6 x3 h) fun x7 h8 =>
  vK (v_iaS 2 r0 r13) fun x9 =>
  wK (dStF 2 x9 x5 h8) fun x10 h11 =>
  vK (v_add r12 (.int .i64 (.ofNat 1))) fun x12 =>
  vK (v_sub r13 (.int .i64 (.ofNat 1))) fun x13 =>
  i6 x12 x13 h11)
def C214_9 : DC := (.seq (.seq (.reg [⟨(some p142), none, (.e (.mv (.r p12)))⟩, ⟨(some p143), none, (.e (.mv (.r p13)))⟩, ⟨(some p144), none, (.e (.bin .gtr (.r p142) (.r p143)))⟩]) (.cond (.r p144) (.exit 4) .skip)) (.seq (.drg [⟨0, ⟨(some p145), none, (.e (.mv (.r p0)))⟩, [], false⟩, ⟨1, ⟨(some p146), none, (.e (.mv (.r p12)))⟩, [], false⟩, ⟨2, ⟨(some p147), none, (.e (.mv (.r p0)))⟩, [], false⟩, ⟨3, ⟨(some p148), none, (.e (.mv (.r p13)))⟩, [], false⟩, ⟨4, ⟨(some p149), none, (.e (.mv (.r p0)))⟩, [], false⟩, ⟨5, ⟨(some p150), none, (.e (.mv (.r p13)))⟩, [], false⟩, ⟨6, ⟨(some p151), none, (.e (.iaS 2 (.r p149) (.r p150)))⟩, [], false⟩, ⟨7, ⟨(some p152), none, (.e (.ldN 2 (.r p151)))⟩, [], false⟩, ⟨8, ⟨(some p153), none, (.e (.mv (.r p0)))⟩, [], false⟩, ⟨9, ⟨(some p154), none, (.e (.mv (.r p12)))⟩, [], false⟩, ⟨10, ⟨(some p155), none, (.e (.iaS 2 (.r p153) (.r p154)))⟩, [], false⟩, ⟨11, ⟨(some p156), none, (.e (.ldN 2 (.r p155)))⟩, [], false⟩, ⟨12, ⟨(some p157), none, (.e (.iaS 2 (.r p145) (.r p146)))⟩, [], false⟩, ⟨13, ⟨none, none, (.w (.st 2 (.r p157) (.r p152)))⟩, [], false⟩, ⟨14, ⟨(some p158), none, (.e (.iaS 2 (.r p147) (.r p148)))⟩, [], false⟩, ⟨15, ⟨none, none, (.w (.st 2 (.r p158) (.r p156)))⟩, [], false⟩]) (.seq (.reg [⟨(some p159), none, (.e (.mv (.r p12)))⟩, ⟨(some p160), none, (.e (.bin .add (.r p159) (.c (.int .i64 (.ofNat 1)))))⟩, ⟨(some p12), none, (.e (.mv (.r p160)))⟩]) (.reg [⟨(some p161), none, (.e (.mv (.r p13)))⟩, ⟨(some p162), none, (.e (.bin .sub (.r p161) (.c (.int .i64 (.ofNat 1)))))⟩, ⟨(some p13), none, (.e (.mv (.r p162)))⟩]))))
noncomputable def B214_10 (E : Env) (i6 : DV → DV → H → Ans) (r0 r1 r4 r12 : DV) (i10 : DV → H → Ans) (r13 : DV) (h : H) : Ans :=
  vK (v_leq r12 r13) fun x1 =>
  gdK x1 true (fun kk => kk r4 h) h fun x2 h3 =>
  gdK x1 true (fun kk => kk r0 h3) h3 fun x4 h5 =>
  gdK x1 true (fun kk => kk r13 h5) h5 fun x6 h7 =>
  gdK x1 true (fun kk => vK (v_iaS 2 x4 x6) fun v => kk v h7) h7 fun x8 h9 =>
  gdK x1 true (fun kk => vK (v_ldN 2 h9.get x8) fun v => kk v h9) h9 fun x10 h11 =>
  gdK x1 true (fun kk => kk r0 h11) h11 fun x12 h13 =>
  gdK x1 true (fun kk => kk r1 h13) h13 fun x14 h15 =>
  gdK x1 true (fun kk => vK (v_iaS 2 x12 x14) fun v => kk v h15) h15 fun x16 h17 =>
  gdK x1 true (fun kk => vK (v_ldN 2 h17.get x16) fun v => kk v h17) h17 fun x18 h19 =>
  gdK x1 true (fun kk => wK (c_val E x2 [x10, x18] h19) kk) h19 fun x20 h21 =>
  gdK x1 true (fun kk => vK (v_lss x20 (.int .i64 (.ofNat 0))) fun v => kk v h21) h21 fun x22 h23 =>
  gdK x1 true (fun kk => vK (v_not x22) fun v => kk v h23) h23 fun x24 h25 =>
  vK (v_pick x1 x24 (.bool false)) fun x26 =>
  bK x26
  (vK (v_sub r13 (.int .i64 (.ofNat 1))) fun x27 =>
  i10 x27 h25)
  (J214_9 E i6 r0 r1 r12 r13 h25)
noncomputable def L214_10 (E : Env) (i6 : DV → DV → H → Ans) (r0 r1 r4 r12 : DV) (n : Nat) : DV → H → Ans := Nat.rec (motive := fun _ => DV → H → Ans) (fun _ _ => none) (fun _ i => B214_10 E i6 r0 r1 r4 r12 i) n
def C214_10 : DC := (.loop (.seq (.seq (.drg [⟨0, ⟨(some p123), none, (.e (.mv (.r p12)))⟩, [], false⟩, ⟨1, ⟨(some p124), none, (.e (.mv (.r p13)))⟩, [], false⟩, ⟨2, ⟨(some p125), none, (.e (.bin .leq (.r p123) (.r p124)))⟩, [], false⟩, ⟨3, ⟨(some p126), none, (.e (.mv (.r p125)))⟩, [], false⟩, ⟨4, ⟨(some p127), (some (p126, true)), (.e (.mv (.r p4)))⟩, [], false⟩, ⟨5, ⟨(some p128), (some (p126, true)), (.e (.mv (.r p0)))⟩, [], false⟩, ⟨6, ⟨(some p129), (some (p126, true)), (.e (.mv (.r p13)))⟩, [], false⟩, ⟨7, ⟨(some p130), (some (p126, true)), (.e (.iaS 2 (.r p128) (.r p129)))⟩, [], false⟩, ⟨8, ⟨(some p131), (some (p126, true)), (.e (.ldN 2 (.r p130)))⟩, [], false⟩, ⟨9, ⟨(some p132), (some (p126, true)), (.e (.mv (.r p0)))⟩, [], false⟩, ⟨10, ⟨(some p133), (some (p126, true)), (.e (.mv (.r p1)))⟩, [], false⟩, ⟨11, ⟨(some p134), (some (p126, true)), (.e (.iaS 2 (.r p132) (.r p133)))⟩, [], false⟩, ⟨12, ⟨(some p135), (some (p126, true)), (.e (.ldN 2 (.r p134)))⟩, [], false⟩, ⟨13, ⟨(some p136), (some (p126, true)), (.c (.v (.r p127) [(.r p131), (.r p135)]))⟩, [], false⟩, ⟨14, ⟨(some p137), (some (p126, true)), (.e (.bin .lss (.r p136) (.c (.int .i64 (.ofNat 0)))))⟩, [], false⟩, ⟨15, ⟨(some p138), (some (p126, true)), (.e (.not (.r p137)))⟩, [], false⟩, ⟨16, ⟨(some p139), none, (.e (.pick (.r p126) (.r p138) (.c (.bool false))))⟩, [], false⟩]) (.cond (.r p139) .skip (.exit 8))) (.block 9 (.reg [⟨(some p140), none, (.e (.mv (.r p13)))⟩, ⟨(some p141), none, (.e (.bin .sub (.r p140) (.c (.int .i64 (.ofNat 1)))))⟩, ⟨(some p13), none, (.e (.mv (.r p141)))⟩]))))
noncomputable def J214_7 (E : Env) (i6 : DV → DV → H → Ans) (r0 r1 r4 r12 r13 : DV) (h : H) : Ans :=
  L214_10 E i6 r0 r1 r4 r12 FUEL r13 h
def C214_7 : DC := (.seq (.block 8 C214_10) C214_9)
noncomputable def B214_8 (E : Env) (i6 : DV → DV → H → Ans) (r0 r1 r4 r13 : DV) (i8 : DV → H → Ans) (r12 : DV) (h : H) : Ans :=
  vK (v_leq r12 r13) fun x1 =>
  gdK x1 true (fun kk => kk r4 h) h fun x2 h3 =>
  gdK x1 true (fun kk => kk r0 h3) h3 fun x4 h5 =>
  gdK x1 true (fun kk => kk r12 h5) h5 fun x6 h7 =>
  gdK x1 true (fun kk => vK (v_iaS 2 x4 x6) fun v => kk v h7) h7 fun x8 h9 =>
  gdK x1 true (fun kk => vK (v_ldN 2 h9.get x8) fun v => kk v h9) h9 fun x10 h11 =>
  gdK x1 true (fun kk => kk r0 h11) h11 fun x12 h13 =>
  gdK x1 true (fun kk => kk r1 h13) h13 fun x14 h15 =>
  gdK x1 true (fun kk => vK (v_iaS 2 x12 x14) fun v => kk v h15) h15 fun x16 h17 =>
  gdK x1 true (fun kk => vK (v_ldN 2 h17.get x16) fun v => kk v h17) h17 fun x18 h19 =>
  gdK x1 true (fun kk => wK (c_val E x2 [x10, x18] h19) kk) h19 fun x20 h21 =>
  gdK x1 true (fun kk => vK (v_lss x20 (.int .i64 (.ofNat 0))) fun v => kk v h21) h21 fun x22 h23 =>
  vK (v_pick x1 x22 (.bool false)) fun x24 =>
  bK x24
  (vK (v_add r12 (.int .i64 (.ofNat 1))) fun x25 =>
  i8 x25 h23)
  (J214_7 E i6 r0 r1 r4 r12 r13 h23)
noncomputable def L214_8 (E : Env) (i6 : DV → DV → H → Ans) (r0 r1 r4 r13 : DV) (n : Nat) : DV → H → Ans := Nat.rec (motive := fun _ => DV → H → Ans) (fun _ _ => none) (fun _ i => B214_8 E i6 r0 r1 r4 r13 i) n
def C214_8 : DC := (.loop (.seq (.seq (.drg [⟨0, ⟨(some p105), none, (.e (.mv (.r p12)))⟩, [], false⟩, ⟨1, ⟨(some p106), none, (.e (.mv (.r p13)))⟩, [], false⟩, ⟨2, ⟨(some p107), none, (.e (.bin .leq (.r p105) (.r p106)))⟩, [], false⟩, ⟨3, ⟨(some p108), none, (.e (.mv (.r p107)))⟩, [], false⟩, ⟨4, ⟨(some p109), (some (p108, true)), (.e (.mv (.r p4)))⟩, [], false⟩, ⟨5, ⟨(some p110), (some (p108, true)), (.e (.mv (.r p0)))⟩, [], false⟩, ⟨6, ⟨(some p111), (some (p108, true)), (.e (.mv (.r p12)))⟩, [], false⟩, ⟨7, ⟨(some p112), (some (p108, true)), (.e (.iaS 2 (.r p110) (.r p111)))⟩, [], false⟩, ⟨8, ⟨(some p113), (some (p108, true)), (.e (.ldN 2 (.r p112)))⟩, [], false⟩, ⟨9, ⟨(some p114), (some (p108, true)), (.e (.mv (.r p0)))⟩, [], false⟩, ⟨10, ⟨(some p115), (some (p108, true)), (.e (.mv (.r p1)))⟩, [], false⟩, ⟨11, ⟨(some p116), (some (p108, true)), (.e (.iaS 2 (.r p114) (.r p115)))⟩, [], false⟩, ⟨12, ⟨(some p117), (some (p108, true)), (.e (.ldN 2 (.r p116)))⟩, [], false⟩, ⟨13, ⟨(some p118), (some (p108, true)), (.c (.v (.r p109) [(.r p113), (.r p117)]))⟩, [], false⟩, ⟨14, ⟨(some p119), (some (p108, true)), (.e (.bin .lss (.r p118) (.c (.int .i64 (.ofNat 0)))))⟩, [], false⟩, ⟨15, ⟨(some p120), none, (.e (.pick (.r p108) (.r p119) (.c (.bool false))))⟩, [], false⟩]) (.cond (.r p120) .skip (.exit 6))) (.block 7 (.reg [⟨(some p121), none, (.e (.mv (.r p12)))⟩, ⟨(some p122), none, (.e (.bin .add (.r p121) (.c (.int .i64 (.ofNat 1)))))⟩, ⟨(some p12), none, (.e (.mv (.r p122)))⟩]))))
noncomputable def B214_6 (E : Env) (r0 r1 r4 : DV) (i6 : DV → DV → H → Ans) (r12 r13 : DV) (h : H) : Ans :=
  L214_8 E i6 r0 r1 r4 r13 FUEL r12 h
noncomputable def L214_6 (E : Env) (r0 r1 r4 : DV) (n : Nat) : DV → DV → H → Ans := Nat.rec (motive := fun _ => DV → DV → H → Ans) (fun _ _ _ => none) (fun _ i => B214_6 E r0 r1 r4 i) n
def C214_6 : DC := (.loop (.block 5 (.seq (.block 6 C214_8) C214_7)))
noncomputable def J214_3 (E : Env) (r0 r1 r4 r12 r13 : DV) (h : H) : Ans :=
  vK (v_gtr r12 r13) fun x1 =>
  bK x1
  (vK (v_iaS 2 r0 r1) fun x2 =>
  vK (v_ldN 2 h.get x2) fun x3 =>
  vK (v_iaS 2 r0 r13) fun x4 =>
  vK (v_ldN 2 h.get x4) fun x5 =>
  vK (v_iaS 2 r0 r13) fun x6 =>
  wK (dStF 2 x6 x3 h) fun x7 h8 =>
  vK (v_iaS 2 r0 r1) fun x9 =>
  wK (dStF 2 x9 x5 h8) fun x10 h11 =>
  some ((.tup [r13, (.bool true)]), h11))
  (vK (v_iaS 2 r0 r13) fun x12 =>
  vK (v_ldN 2 h.get x12) fun x13 =>
  vK (v_iaS 2 r0 r12) fun x14 =>
  vK (v_ldN 2 h.get x14) fun x15 =>
  vK (v_iaS 2 r0 r12) fun x16 =>
  wK (dStF 2 x16 x13 h) fun x17 h18 =>
  vK (v_iaS 2 r0 r13) fun x19 =>
  wK (dStF 2 x19 x15 h18) fun x20 h21 =>
  vK (v_add r12 (.int .i64 (.ofNat 1))) fun x22 =>
  vK (v_sub r13 (.int .i64 (.ofNat 1))) fun x23 =>
  L214_6 E r0 r1 r4 FUEL x22 x23 h21)
def C214_3 : DC := (.seq (.seq (.reg [⟨(some p69), none, (.e (.mv (.r p12)))⟩, ⟨(some p70), none, (.e (.mv (.r p13)))⟩, ⟨(some p71), none, (.e (.bin .gtr (.r p69) (.r p70)))⟩]) (.cond (.r p71) (.seq (.drg [⟨0, ⟨(some p72), none, (.e (.mv (.r p0)))⟩, [], false⟩, ⟨1, ⟨(some p73), none, (.e (.mv (.r p13)))⟩, [], false⟩, ⟨2, ⟨(some p74), none, (.e (.mv (.r p0)))⟩, [], false⟩, ⟨3, ⟨(some p75), none, (.e (.mv (.r p1)))⟩, [], false⟩, ⟨4, ⟨(some p76), none, (.e (.mv (.r p0)))⟩, [], false⟩, ⟨5, ⟨(some p77), none, (.e (.mv (.r p1)))⟩, [], false⟩, ⟨6, ⟨(some p78), none, (.e (.iaS 2 (.r p76) (.r p77)))⟩, [], false⟩, ⟨7, ⟨(some p79), none, (.e (.ldN 2 (.r p78)))⟩, [], false⟩, ⟨8, ⟨(some p80), none, (.e (.mv (.r p0)))⟩, [], false⟩, ⟨9, ⟨(some p81), none, (.e (.mv (.r p13)))⟩, [], false⟩, ⟨10, ⟨(some p82), none, (.e (.iaS 2 (.r p80) (.r p81)))⟩, [], false⟩, ⟨11, ⟨(some p83), none, (.e (.ldN 2 (.r p82)))⟩, [], false⟩, ⟨12, ⟨(some p84), none, (.e (.iaS 2 (.r p72) (.r p73)))⟩, [], false⟩, ⟨13, ⟨none, none, (.w (.st 2 (.r p84) (.r p79)))⟩, [], false⟩, ⟨14, ⟨(some p85), none, (.e (.iaS 2 (.r p74) (.r p75)))⟩, [], false⟩, ⟨15, ⟨none, none, (.w (.st 2 (.r p85) (.r p83)))⟩, [], false⟩]) (.seq (.reg [⟨(some p86), none, (.e (.mv (.r p13)))⟩, ⟨(some p10), none, (.e (.mv (.r p86)))⟩, ⟨(some p11), none, (.e (.mv (.c (.bool true))))⟩]) .ret)) .skip)) (.seq (.drg [⟨0, ⟨(some p87), none, (.e (.mv (.r p0)))⟩, [], false⟩, ⟨1, ⟨(some p88), none, (.e (.mv (.r p12)))⟩, [], false⟩, ⟨2, ⟨(some p89), none, (.e (.mv (.r p0)))⟩, [], false⟩, ⟨3, ⟨(some p90), none, (.e (.mv (.r p13)))⟩, [], false⟩, ⟨4, ⟨(some p91), none, (.e (.mv (.r p0)))⟩, [], false⟩, ⟨5, ⟨(some p92), none, (.e (.mv (.r p13)))⟩, [], false⟩, ⟨6, ⟨(some p93), none, (.e (.iaS 2 (.r p91) (.r p92)))⟩, [], false⟩, ⟨7, ⟨(some p94), none, (.e (.ldN 2 (.r p93)))⟩, [], false⟩, ⟨8, ⟨(some p95), none, (.e (.mv (.r p0)))⟩, [], false⟩, ⟨9, ⟨(some p96), none, (.e (.mv (.r p12)))⟩, [], false⟩, ⟨10, ⟨(some p97), none, (.e (.iaS 2 (.r p95) (.r p96)))⟩, [], false⟩, ⟨11, ⟨(some p98), none, (.e (.ldN 2 (.r p97)))⟩, [], false⟩, ⟨12, ⟨(some p99), none, (.e (.iaS 2 (.r p87) (.r p88)))⟩, [], false⟩, ⟨13, ⟨none, none, (.w (.st 2 (.r p99) (.r p94)))⟩, [], false⟩, ⟨14, ⟨(some p100), none, (.e (.iaS 2 (.r p89) (.r p90)))⟩, [], false⟩, ⟨15, ⟨none, none, (.w (.st 2 (.r p100) (.r p98)))⟩, [], false⟩]) (.seq (.reg [⟨(some p101), none, (.e (.mv (.r p12)))⟩, ⟨(some p102), none, (.e (.bin .add (.r p101) (.c (.int .i64 (.ofNat 1)))))⟩, ⟨(some p12), none, (.e (.mv (.r p102)))⟩]) (.seq (.reg [⟨(some p103), none, (.e (.mv (.r p13)))⟩, ⟨(some p104), none, (.e (.bin .sub (.r p103) (.c (.int .i64 (.ofNat 1)))))⟩, ⟨(some p13), none, (.e (.mv (.r p104)))⟩]) (.seq (.block 4 C214_6) C214_5)))))
noncomputable def B214_4 (E : Env) (r0 r1 r4 r12 : DV) (i4 : DV → H → Ans) (r13 : DV) (h : H) : Ans :=
  vK (v_leq r12 r13) fun x1 =>
  gdK x1 true (fun kk => kk r4 h) h fun x2 h3 =>
  gdK x1 true (fun kk => kk r0 h3) h3 fun x4 h5 =>
  gdK x1 true (fun kk => kk r13 h5) h5 fun x6 h7 =>
  gdK x1 true (fun kk => vK (v_iaS 2 x4 x6) fun v => kk v h7) h7 fun x8 h9 =>
  gdK x1 true (fun kk => vK (v_ldN 2 h9.get x8) fun v => kk v h9) h9 fun x10 h11 =>
  gdK x1 true (fun kk => kk r0 h11) h11 fun x12 h13 =>
  gdK x1 true (fun kk => kk r1 h13) h13 fun x14 h15 =>
  gdK x1 true (fun kk => vK (v_iaS 2 x12 x14) fun v => kk v h15) h15 fun x16 h17 =>
  gdK x1 true (fun kk => vK (v_ldN 2 h17.get x16) fun v => kk v h17) h17 fun x18 h19 =>
  gdK x1 true (fun kk => wK (c_val E x2 [x10, x18] h19) kk) h19 fun x20 h21 =>
  gdK x1 true (fun kk => vK (v_lss x20 (.int .i64 (.ofNat 0))) fun v => kk v h21) h21 fun x22 h23 =>
  gdK x1 true (fun kk => vK (v_not x22) fun v => kk v h23) h23 fun x24 h25 =>
  vK (v_pick x1 x24 (.bool false)) fun x26 =>
  bK x26
  (vK (v_sub r13 (.int .i64 (.ofNat 1))) fun x27 =>
  i4 x27 h25)
  (J214_3 E r0 r1 r4 r12 r13 h25)
noncomputable def L214_4 (E : Env) (r0 r1 r4 r12 : DV) (n : Nat) : DV → H → Ans := Nat.rec (motive := fun _ => DV → H → Ans) (fun _ _ => none) (fun _ i => B214_4 E r0 r1 r4 r12 i) n
def C214_4 : DC := (.loop (.seq (.seq (.drg [⟨0, ⟨(some p50), none, (.e (.mv (.r p12)))⟩, [], false⟩, ⟨1, ⟨(some p51), none, (.e (.mv (.r p13)))⟩, [], false⟩, ⟨2, ⟨(some p52), none, (.e (.bin .leq (.r p50) (.r p51)))⟩, [], false⟩, ⟨3, ⟨(some p53), none, (.e (.mv (.r p52)))⟩, [], false⟩, ⟨4, ⟨(some p54), (some (p53, true)), (.e (.mv (.r p4)))⟩, [], false⟩, ⟨5, ⟨(some p55), (some (p53, true)), (.e (.mv (.r p0)))⟩, [], false⟩, ⟨6, ⟨(some p56), (some (p53, true)), (.e (.mv (.r p13)))⟩, [], false⟩, ⟨7, ⟨(some p57), (some (p53, true)), (.e (.iaS 2 (.r p55) (.r p56)))⟩, [], false⟩, ⟨8, ⟨(some p58), (some (p53, true)), (.e (.ldN 2 (.r p57)))⟩, [], false⟩, ⟨9, ⟨(some p59), (some (p53, true)), (.e (.mv (.r p0)))⟩, [], false⟩, ⟨10, ⟨(some p60), (some (p53, true)), (.e (.mv (.r p1)))⟩, [], false⟩, ⟨11, ⟨(some p61), (some (p53, true)), (.e (.iaS 2 (.r p59) (.r p60)))⟩, [], false⟩, ⟨12, ⟨(some p62), (some (p53, true)), (.e (.ldN 2 (.r p61)))⟩, [], false⟩, ⟨13, ⟨(some p63), (some (p53, true)), (.c (.v (.r p54) [(.r p58), (.r p62)]))⟩, [], false⟩, ⟨14, ⟨(some p64), (some (p53, true)), (.e (.bin .lss (.r p63) (.c (.int .i64 (.ofNat 0)))))⟩, [], false⟩, ⟨15, ⟨(some p65), (some (p53, true)), (.e (.not (.r p64)))⟩, [], false⟩, ⟨16, ⟨(some p66), none, (.e (.pick (.r p53) (.r p65) (.c (.bool false))))⟩, [], false⟩]) (.cond (.r p66) .skip (.exit 2))) (.block 3 (.reg [⟨(some p67), none, (.e (.mv (.r p13)))⟩, ⟨(some p68), none, (.e (.bin .sub (.r p67) (.c (.int .i64 (.ofNat 1)))))⟩, ⟨(some p13), none, (.e (.mv (.r p68)))⟩]))))
noncomputable def J214_1 (E : Env) (r0 r1 r4 r12 r13 : DV) (h : H) : Ans :=
  L214_4 E r0 r1 r4 r12 FUEL r13 h
def C214_1 : DC := (.seq (.block 2 C214_4) C214_3)
noncomputable def B214_2 (E : Env) (r0 r1 r4 r13 : DV) (i2 : DV → H → Ans) (r12 : DV) (h : H) : Ans :=
  vK (v_leq r12 r13) fun x1 =>
  gdK x1 true (fun kk => kk r4 h) h fun x2 h3 =>
  gdK x1 true (fun kk => kk r0 h3) h3 fun x4 h5 =>
  gdK x1 true (fun kk => kk r12 h5) h5 fun x6 h7 =>
  gdK x1 true (fun kk => vK (v_iaS 2 x4 x6) fun v => kk v h7) h7 fun x8 h9 =>
  gdK x1 true (fun kk => vK (v_ldN 2 h9.get x8) fun v => kk v h9) h9 fun x10 h11 =>
  gdK x1 true (fun kk => kk r0 h11) h11 fun x12 h13 =>
  gdK x1 true (fun kk => kk r1 h13) h13 fun x14 h15 =>
  gdK x1 true (fun kk => vK (v_iaS 2 x12 x14) fun v => kk v h15) h15 fun x16 h17 =>
  gdK x1 true (fun kk => vK (v_ldN 2 h17.get x16) fun v => kk v h17) h17 fun x18 h19 =>
  gdK x1 true (fun kk => wK (c_val E x2 [x10, x18] h19) kk) h19 fun x20 h21 =>
  gdK x1 true (fun kk => vK (v_lss x20 (.int .i64 (.ofNat 0))) fun v => kk v h21) h21 fun x22 h23 =>
  vK (v_pick x1 x22 (.bool false)) fun x24 =>
  bK x24
  (vK (v_add r12 (.int .i64 (.ofNat 1))) fun x25 =>
  i2 x25 h23)
  (J214_1 E r0 r1 r4 r12 r13 h23)
noncomputable def L214_2 (E : Env) (r0 r1 r4 r13 : DV) (n : Nat) : DV → H → Ans := Nat.rec (motive := fun _ => DV → H → Ans) (fun _ _ => none) (fun _ i => B214_2 E r0 r1 r4 r13 i) n
def C214_2 : DC := (.loop (.seq (.seq (.drg [⟨0, ⟨(some p32), none, (.e (.mv (.r p12)))⟩, [], false⟩, ⟨1, ⟨(some p33), none, (.e (.mv (.r p13)))⟩, [], false⟩, ⟨2, ⟨(some p34), none, (.e (.bin .leq (.r p32) (.r p33)))⟩, [], false⟩, ⟨3, ⟨(some p35), none, (.e (.mv (.r p34)))⟩, [], false⟩, ⟨4, ⟨(some p36), (some (p35, true)), (.e (.mv (.r p4)))⟩, [], false⟩, ⟨5, ⟨(some p37), (some (p35, true)), (.e (.mv (.r p0)))⟩, [], false⟩, ⟨6, ⟨(some p38), (some (p35, true)), (.e (.mv (.r p12)))⟩, [], false⟩, ⟨7, ⟨(some p39), (some (p35, true)), (.e (.iaS 2 (.r p37) (.r p38)))⟩, [], false⟩, ⟨8, ⟨(some p40), (some (p35, true)), (.e (.ldN 2 (.r p39)))⟩, [], false⟩, ⟨9, ⟨(some p41), (some (p35, true)), (.e (.mv (.r p0)))⟩, [], false⟩, ⟨10, ⟨(some p42), (some (p35, true)), (.e (.mv (.r p1)))⟩, [], false⟩, ⟨11, ⟨(some p43), (some (p35, true)), (.e (.iaS 2 (.r p41) (.r p42)))⟩, [], false⟩, ⟨12, ⟨(some p44), (some (p35, true)), (.e (.ldN 2 (.r p43)))⟩, [], false⟩, ⟨13, ⟨(some p45), (some (p35, true)), (.c (.v (.r p36) [(.r p40), (.r p44)]))⟩, [], false⟩, ⟨14, ⟨(some p46), (some (p35, true)), (.e (.bin .lss (.r p45) (.c (.int .i64 (.ofNat 0)))))⟩, [], false⟩, ⟨15, ⟨(some p47), none, (.e (.pick (.r p35) (.r p46) (.c (.bool false))))⟩, [], false⟩]) (.cond (.r p47) .skip (.exit 0))) (.block 1 (.reg [⟨(some p48), none, (.e (.mv (.r p12)))⟩, ⟨(some p49), none, (.e (.bin .add (.r p48) (.c (.int .i64 (.ofNat 1)))))⟩, ⟨(some p12), none, (.e (.mv (.r p49)))⟩]))))
noncomputable def J214_0 (E : Env) (r0 r1 r2 r3 r4 : DV) (h : H) : Ans :=
  vK (v_iaS 2 r0 r3) fun x1 =>
  vK (v_ldN 2 h.get x1) fun x2 =>
  vK (v_iaS 2 r0 r1) fun x3 =>
  vK (v_ldN 2 h.get x3) fun x4 =>
  vK (v_iaS 2 r0 r1) fun x5 =>
  wK (dStF 2 x5 x2 h) fun x6 h7 =>
  vK (v_iaS 2 r0 r3) fun x8 =>
  wK (dStF 2 x8 x4 h7) fun x9 h10 =>
  vK (v_add r1 (.int .i64 (.ofNat 1))) fun x11 =>
  vK (v_sub r2 (.int .i64 (.ofNat 1))) fun x12 =>
  L214_2 E r0 r1 r4 x12 FUEL x11 h10
def C214_0 : DC := (.seq (.reg [⟨(some p10), none, (.e (.mv (.c (.int .i64 (.ofNat 0)))))⟩, ⟨(some p11), none, (.e (.mv (.c (.bool false))))⟩]) (.seq (.drg [⟨0, ⟨(some p14), none, (.e (.mv (.r p0)))⟩, [], false⟩, ⟨1, ⟨(some p15), none, (.e (.mv (.r p1)))⟩, [], false⟩, ⟨2, ⟨(some p16), none, (.e (.mv (.r p0)))⟩, [], false⟩, ⟨3, ⟨(some p17), none, (.e (.mv (.r p3)))⟩, [], false⟩, ⟨4, ⟨(some p18), none, (.e (.mv (.r p0)))⟩, [], false⟩, ⟨5, ⟨(some p19), none, (.e (.mv (.r p3)))⟩, [], false⟩, ⟨6, ⟨(some p20), none, (.e (.iaS 2 (.r p18) (.r p19)))⟩, [], false⟩, ⟨7, ⟨(some p21), none, (.e (.ldN 2 (.r p20)))⟩, [], false⟩, ⟨8, ⟨(some p22), none, (.e (.mv (.r p0)))⟩, [], false⟩, ⟨9, ⟨(some p23), none, (.e (.mv (.r p1)))⟩, [], false⟩, ⟨10, ⟨(some p24), none, (.e (.iaS 2 (.r p22) (.r p23)))⟩, [], false⟩, ⟨11, ⟨(some p25), none, (.e (.ldN 2 (.r p24)))⟩, [], false⟩, ⟨12, ⟨(some p26), none, (.e (.iaS 2 (.r p14) (.r p15)))⟩, [], false⟩, ⟨13, ⟨none, none, (.w (.st 2 (.r p26) (.r p21)))⟩, [], false⟩, ⟨14, ⟨(some p27), none, (.e (.iaS 2 (.r p16) (.r p17)))⟩, [], false⟩, ⟨15, ⟨none, none, (.w (.st 2 (.r p27) (.r p25)))⟩, [], false⟩]) (.seq (.reg [⟨(some p28), none, (.e (.mv (.r p1)))⟩, ⟨(some p29), none, (.e (.bin .add (.r p28) (.c (.int .i64 (.ofNat 1)))))⟩, ⟨(some p30), none, (.e (.mv (.r p2)))⟩, ⟨(some p31), none, (.e (.bin .sub (.r p30) (.c (.int .i64 (.ofNat 1)))))⟩, ⟨(some p12), none, (.e (.mv (.r p29)))⟩, ⟨(some p13), none, (.e (.mv (.r p31)))⟩]) (.seq (.block 0 C214_2) C214_1))))
theorem I214_5 (E : Env) : Is E C214_5 (retK3 R214) (fun σ h => J214_5 E (σ p0) (σ p1) (σ p13) h) :=
  fun σ h => by kernel_rfl
noncomputable abbrev K214_11 (E : Env) : KT2 (DV × H) := (thenK3 (fun σ h => J214_5 E (σ p0) (σ p1) (σ p13) h) (retK3 R214))
noncomputable abbrev K214_12 (E : Env) (n6 : Nat) : KT2 (DV × H) := (thenK3 (fun σ h => (L214_6 E (σ p0) (σ p1) (σ p4) n6) (σ p12) (σ p13) h) (blockK3 4 (K214_11 E)))
theorem I214_9 (E : Env) (n6 : Nat) : Is E C214_9 (blockK3 5 (K214_12 E n6)) (fun σ h => J214_9 E (L214_6 E (σ p0) (σ p1) (σ p4) n6) (σ p0) (σ p1) (σ p12) (σ p13) h) :=
  fun σ h => by kernel_rfl
noncomputable abbrev K214_13 (E : Env) (n6 : Nat) : KT2 (DV × H) := (thenK3 (fun σ h => J214_9 E (L214_6 E (σ p0) (σ p1) (σ p4) n6) (σ p0) (σ p1) (σ p12) (σ p13) h) (blockK3 5 (K214_12 E n6)))
theorem I214_10 (E : Env) (n6 : Nat) : Is E C214_10 (blockK3 8 (K214_13 E n6)) (fun σ h => L214_10 E (L214_6 E (σ p0) (σ p1) (σ p4) n6) (σ p0) (σ p1) (σ p4) (σ p12) FUEL (σ p13) h) :=
  Is.loop (fun n10 σ h => L214_10 E (L214_6 E (σ p0) (σ p1) (σ p4) n6) (σ p0) (σ p1) (σ p4) (σ p12) n10 (σ p13) h) (by kernel_rfl) fun n10 => Is.as (Is.leaf _) fun σ h => by kernel_rfl
theorem I214_7 (E : Env) (n6 : Nat) : Is E C214_7 (blockK3 5 (K214_12 E n6)) (fun σ h => J214_7 E (L214_6 E (σ p0) (σ p1) (σ p4) n6) (σ p0) (σ p1) (σ p4) (σ p12) (σ p13) h) :=
  Is.as (Is.seq (I214_9 E n6) (Is.block (I214_10 E n6))) fun σ h => by kernel_rfl
noncomputable abbrev K214_14 (E : Env) (n6 : Nat) : KT2 (DV × H) := (thenK3 (fun σ h => J214_7 E (L214_6 E (σ p0) (σ p1) (σ p4) n6) (σ p0) (σ p1) (σ p4) (σ p12) (σ p13) h) (blockK3 5 (K214_12 E n6)))
theorem I214_8 (E : Env) (n6 : Nat) : Is E C214_8 (blockK3 6 (K214_14 E n6)) (fun σ h => L214_8 E (L214_6 E (σ p0) (σ p1) (σ p4) n6) (σ p0) (σ p1) (σ p4) (σ p13) FUEL (σ p12) h) :=
  Is.loop (fun n8 σ h => L214_8 E (L214_6 E (σ p0) (σ p1) (σ p4) n6) (σ p0) (σ p1) (σ p4) (σ p13) n8 (σ p12) h) (by kernel_rfl) fun n8 => Is.as (Is.leaf _) fun σ h => by kernel_rfl
theorem I214_6 (E : Env) : Is E C214_6 (blockK3 4 (K214_11 E)) (fun σ h => L214_6 E (σ p0) (σ p1) (σ p4) FUEL (σ p12) (σ p13) h) :=
  Is.loop (fun n6 σ h => L214_6 E (σ p0) (σ p1) (σ p4) n6 (σ p12) (σ p13) h) (by kernel_rfl) fun n6 => Is.as (Is.block (Is.seq (I214_7 E n6) (Is.block (I214_8 E n6)))) fun σ h => by kernel_rfl
theorem I214_3 (E : Env) : Is E C214_3 (retK3 R214) (fun σ h => J214_3 E (σ p0) (σ p1) (σ p4) (σ p12) (σ p13) h) :=
  Is.as (Is.seq (Is.seq (Is.seq (Is.seq (Is.seq (I214_5 E) (Is.block (I214_6 E))) (Is.leaf _)) (Is.leaf _)) (Is.leaf _)) (Is.leaf _)) fun σ h => by kernel_rfl
noncomputable abbrev K214_15 (E : Env) : KT2 (DV × H) := (thenK3 (fun σ h => J214_3 E (σ p0) (σ p1) (σ p4) (σ p12) (σ p13) h) (retK3 R214))
theorem I214_4 (E : Env) : Is E C214_4 (blockK3 2 (K214_15 E)) (fun σ h => L214_4 E (σ p0) (σ p1) (σ p4) (σ p12) FUEL (σ p13) h) :=
  Is.loop (fun n4 σ h => L214_4 E (σ p0) (σ p1) (σ p4) (σ p12) n4 (σ p13) h) (by kernel_rfl) fun n4 => Is.as (Is.leaf _) fun σ h => by kernel_rfl
theorem I214_1 (E : Env) : Is E C214_1 (retK3 R214) (fun σ h => J214_1 E (σ p0) (σ p1) (σ p4) (σ p12) (σ p13) h) :=
  Is.as (Is.seq (I214_3 E) (Is.block (I214_4 E))) fun σ h => by kernel_rfl
noncomputable abbrev K214_16 (E : Env) : KT2 (DV × H) := (thenK3 (fun σ h => J214_1 E (σ p0) (σ p1) (σ p4) (σ p12) (σ p13) h) (retK3 R214))
theorem I214_2 (E : Env) : Is E C214_2 (blockK3 0 (K214_16 E)) (fun σ h => L214_2 E (σ p0) (σ p1) (σ p4) (σ p13) FUEL (σ p12) h) :=
  Is.loop (fun n2 σ h => L214_2 E (σ p0) (σ p1) (σ p4) (σ p13) n2 (σ p12) h) (by kernel_rfl) fun n2 => Is.as (Is.leaf _) fun σ h => by kernel_rfl
theorem I214_0 (E : Env) : Is E C214_0 (retK3 R214) (fun σ h => J214_0 E (σ p0) (σ p1) (σ p2) (σ p3) (σ p4) h) :=
  Is.as (Is.seq (Is.seq (Is.seq (Is.seq (I214_1 E) (Is.block (I214_2 E))) (Is.leaf _)) (Is.leaf _)) (Is.leaf _)) fun σ h => by kernel_rfl
def D214 : DF := ⟨5, 178, C214_0, R214⟩
noncomputable def S214 (E : Env) : Fun := fun args h => aS args fun r0 args => aS args fun r1 args => aS args fun r2 args => aS args fun r3 args => aS args fun r4 args => a0 args (J214_0 E r0 r1 r2 r3 r4 h)
theorem S214_eq (E : Env) (args : List DV) (h : H) : runFn E D214 args h = S214 E args h :=
  Is.fn5 (d := D214) (I214_0 E) rfl (fun r0 r1 r2 r3 r4 h => J214_0 E r0 r1 r2 r3 r4 h) (fun r0 r1 r2 r3 r4 h => by kernel_rfl) args h
/- math/bits.Len32 -/
def R215 : List RV := [(.r p2)]
noncomputable def J215_2 (E : Env) (r0 r2 : DV) (h : H) : Ans :=
  vK (v_conv .u8 r0) fun x1 =>
  vK (v_ixS (.str [0, 1, 2, 2, 3, 3, 3, 3, 4, 4, 4, 4, 4, 4, 4, 4, 5, 5, 5, 5, 5, 5, 5, 5, 5, 5, 5, 5, 5, 5, 5, 5, 6, 6, 6, 6, 6, 6, 6, 6, 6, 6, 6, 6, 6, 6, 6, 6, 6, 6, 6, 6, 6, 6, 6, 6, 6, 6, 6, 6, 6, 6, 6, 6, 7, 7, 7, 7, 7, 7, 7, 7, 7, 7, 7, 7, 7, 7, 7, 7, 7, 7, 7, 7, 7, 7, 7, 7, 7, 7, 7, 7, 7, 7, 7, 7, 7, 7, 7, 7, 7, 7, 7, 7, 7, 7, 7, 7, 7, 7, 7, 7, 7, 7, 7, 7, 7, 7, 7, 7, 7, 7, 7, 7, 7, 7, 7, 7, 8, 8, 8, 8, 8, 8, 8, 8, 8, 8, 8, 8, 8, 8, 8, 8, 8, 8, 8, 8, 8, 8, 8, 8, 8, 8, 8, 8, 8, 8, 8, 8, 8, 8, 8, 8, 8, 8, 8, 8, 8, 8, 8, 8, 8, 8, 8, 8, 8, 8, 8, 8, 8, 8, 8, 8, 8, 8, 8, 8, 8, 8, 8, 8, 8, 8, 8, 8, 8, 8, 8, 8, 8, 8, 8, 8, 8, 8, 8, 8, 8, 8, 8, 8, 8, 8, 8, 8, 8, 8, 8, 8, 8, 8, 8, 8, 8, 8, 8, 8, 8, 8, 8, 8, 8, 8, 8, 8, 8, 8, 8, 8, 8, 8, 8, 8, 8, 8, 8, 8, 8, 8, 8, 8, 8, 8, 8, 8]) x1) fun x2 =>
  vK (v_conv .i64 x2) fun x3 =>
  vK (v_add r2 x3) fun x4 =>
  some (x4, h)
def C215_2 : DC := (.seq (.reg [⟨(some p13), none, (.e (.mv (.r p2)))⟩, ⟨(some p14), none, (.e (.mv (.r p0)))⟩, ⟨(some p15), none, (.e (.conv .u8 (.r p14)))⟩, ⟨(some p16), none, (.e (.ixS (.c (.str [0, 1, 2, 2, 3, 3, 3, 3, 4, 4, 4, 4, 4, 4, 4, 4, 5, 5, 5, 5, 5, 5, 5, 5, 5, 5, 5, 5, 5, 5, 5, 5, 6, 6, 6, 6, 6, 6, 6, 6, 6, 6, 6, 6, 6, 6, 6, 6, 6, 6, 6, 6, 6, 6, 6, 6, 6, 6, 6, 6, 6, 6, 6, 6, 7, 7, 7, 7, 7, 7, 7, 7, 7, 7, 7, 7, 7, 7, 7, 7, 7, 7, 7, 7, 7, 7, 7, 7, 7, 7, 7, 7, 7, 7, 7, 7, 7, 7, 7, 7, 7, 7, 7, 7, 7, 7, 7, 7, 7, 7, 7, 7, 7, 7, 7, 7, 7, 7, 7, 7, 7, 7, 7, 7, 7, 7, 7, 7, 8, 8, 8, 8, 8, 8, 8, 8, 8, 8, 8, 8, 8, 8, 8, 8, 8, 8, 8, 8, 8, 8, 8, 8, 8, 8, 8, 8, 8, 8, 8, 8, 8, 8, 8, 8, 8, 8, 8, 8, 8, 8, 8, 8, 8, 8, 8, 8, 8, 8, 8, 8, 8, 8, 8, 8, 8, 8, 8, 8, 8, 8, 8, 8, 8, 8, 8, 8, 8, 8, 8, 8, 8, 8, 8, 8, 8, 8, 8, 8, 8, 8, 8, 8, 8, 8, 8, 8, 8, 8, 8, 8, 8, 8, 8, 8, 8, 8, 8, 8, 8, 8, 8, 8, 8, 8, 8, 8, 8, 8, 8, 8, 8, 8, 8, 8, 8, 8, 8, 8, 8, 8, 8, 8, 8, 8, 8, 8])) (.r p15)))⟩, ⟨(some p17), none, (.e (.conv .i64 (.r p16)))⟩, ⟨(some p18), none, (.e (.bin .add (.r p13) (.r p17)))⟩, ⟨(some p2), none, (.e (.mv (.r p18)))⟩]) .ret)
noncomputable def J215_1 (E : Env) (r0 r2 : DV) (h : H) : Ans :=
  vK (v_geq r0 (.int .u32 (.ofNat 256))) fun x1 =>
  bK x1
  (vK (v_shr r0 (.int .u64 (.ofNat 8))) fun x2 =>
  vK (v_add r2 (.int .i64 (.ofNat 8))) fun x3 =>
  J215_2 E x2 x3 h)
  (J215_2 E r0 r2 h)
def C215_1 : DC := (.seq (.seq (.reg [⟨(some p7), none, (.e (.mv (.r p0)))⟩, ⟨(some p8), none, (.e (.bin .geq (.r p7) (.c (.int .u32 (.ofNat 256)))))⟩]) (.cond (.r p8) (.seq (.reg [⟨(some p9), none, (.e (.mv (.r p0)))⟩, ⟨(some p10), none, (.e (.bin .shr (.r p9) (.c (.int .u64 (.ofNat 8)))))⟩, ⟨(some p0), none, (.e (.mv (.r p10)))⟩]) (.reg [⟨(some p11), none, (.e (.mv (.r p2)))⟩, ⟨(some p12), none, (.e (.bin .add (.r p11) (.c (.int .i64 (.ofNat 8)))))⟩, ⟨(some p2), none, (.e (.mv (.r p12)))⟩])) .skip)) C215_2)
noncomputable def J215_0 (E : Env) (r0 : DV) (h : H) : Ans :=
  vK (v_geq r0 (.int .u32 (.ofNat 65536))) fun x1 =>
  bK x1
  (vK (v_shr r0 (.int .u64 (.ofNat 16))) fun x2 =>
  J215_1 E x2 (.int .i64 (.ofNat 16)) h)
  (J215_1 E r0 (.int .i64 (.ofNat 0)) h)
def C215_0 : DC := (.seq (.reg [⟨(some p2), none, (.e (.mv (.c (.int .i64 (.ofNat 0)))))⟩]) (.seq (.seq (.reg [⟨(some p3), none, (.e (.mv (.r p0)))⟩, ⟨(some p4), none, (.e (.bin .geq (.r p3) (.c (.int .u32 (.ofNat 65536)))))⟩]) (.cond (.r p4) (.seq (.reg [⟨(some p5), none, (.e (.mv (.r p0)))⟩, ⟨(some p6), none, (.e (.bin .shr (.r p5) (.c (.int .u64 (.ofNat 16)))))⟩, ⟨(some p0), none, (.e (.mv (.r p6)))⟩]) (.reg [⟨(some p2), none, (.e (.mv (.c (.int .i64 (.ofNat 16)))))⟩])) .skip)) C215_1))
theorem I215_2 (E : Env) : Is E C215_2 (retK3 R215) (fun σ h => J215_2 E (σ p0) (σ p2) h) :=
  fun σ h => by kernel_rfl
theorem I215_1 (E : Env) : Is E C215_1 (retK3 R215) (fun σ h => J215_1 E (σ p0) (σ p2) h) :=
  Is.as (Is.seq (I215_2 E) (Is.leaf _)) fun σ h => by kernel_rfl
theorem I215_0 (E : Env) : Is E C215_0 (retK3 R215) (fun σ h => J215_0 E (σ p0) h) :=
  Is.as (Is.seq (Is.seq (I215_1 E) (Is.leaf _)) (Is.leaf _)) fun σ h => by kernel_rfl
def D215 : DF := ⟨1, 19, C215_0, R215⟩
noncomputable def S215 (E : Env) : Fun := fun args h => aS args fun r0 args => a0 args (J215_0 E r0 h)
theorem S215_eq (E : Env) (args : List DV) (h : H) : runFn E D215 args h = S215 E args h :=
  Is.fn1 (d := D215) (I215_0 E) rfl (fun r0 h => J215_0 E r0 h) (fun r0 h => by kernel_rfl) args h
/- math/bits.Len64 -/
def R216 : List RV := [(.r p2)]
noncomputable def J216_3 (E : Env) (r0 r2 : DV) (h : H) : Ans :=
  vK (v_conv .u8 r0) fun x1 =>
  vK (v_ixS (.str [0, 1, 2, 2, 3, 3, 3, 3, 4, 4, 4, 4, 4, 4, 4, 4, 5, 5, 5, 5, 5, 5, 5, 5, 5, 5, 5, 5, 5, 5, 5, 5, 6, 6, 6, 6, 6, 6, 6, 6, 6, 6, 6, 6, 6, 6, 6, 6, 6, 6, 6, 6, 6, 6, 6, 6, 6, 6, 6, 6, 6, 6, 6, 6, 7, 7, 7, 7, 7, 7, 7, 7, 7, 7, 7, 7, 7, 7, 7, 7, 7, 7, 7, 7, 7, 7, 7, 7, 7, 7, 7, 7, 7, 7, 7, 7, 7, 7, 7, 7, 7, 7, 7, 7, 7, 7, 7, 7, 7, 7, 7, 7, 7, 7, 7, 7, 7, 7, 7, 7, 7, 7, 7, 7, 7, 7, 7, 7, 8, 8, 8, 8, 8, 8, 8, 8, 8, 8, 8, 8, 8, 8, 8, 8, 8, 8, 8, 8, 8, 8, 8, 8, 8, 8, 8, 8, 8, 8, 8, 8, 8, 8, 8, 8, 8, 8, 8, 8, 8, 8, 8, 8, 8, 8, 8, 8, 8, 8, 8, 8, 8, 8, 8, 8, 8, 8, 8, 8, 8, 8, 8, 8, 8, 8, 8, 8, 8, 8, 8, 8, 8, 8, 8, 8, 8, 8, 8, 8, 8, 8, 8, 8, 8, 8, 8, 8, 8, 8, 8, 8, 8, 8, 8, 8, 8, 8, 8, 8, 8, 8, 8, 8, 8, 8, 8, 8, 8, 8, 8, 8, 8, 8, 8, 8, 8, 8, 8, 8, 8, 8, 8, 8, 8, 8, 8, 8]) x1) fun x2 =>
  vK (v_conv .i64 x2) fun x3 =>
  vK (v_add r2 x3) fun x4 =>
  some (x4, h)
def C216_3 : DC := (.seq (.reg [⟨(some p19), none, (.e (.mv (.r p2)))⟩, ⟨(some p20), none, (.e (.mv (.r p0)))⟩, ⟨(some p21), none, (.e (.conv .u8 (.r p20)))⟩, ⟨(some p22), none, (.e (.ixS (.c (.str [0, 1, 2, 2, 3, 3, 3, 3, 4, 4, 4, 4, 4, 4, 4, 4, 5, 5, 5, 5, 5, 5, 5, 5, 5, 5, 5, 5, 5, 5, 5, 5, 6, 6, 6, 6, 6, 6, 6, 6, 6, 6, 6, 6, 6, 6, 6, 6, 6, 6, 6, 6, 6, 6, 6, 6, 6, 6, 6, 6, 6, 6, 6, 6, 7, 7, 7, 7, 7, 7, 7, 7, 7, 7, 7, 7, 7, 7, 7, 7, 7, 7, 7, 7, 7, 7, 7, 7, 7, 7, 7, 7, 7, 7, 7, 7, 7, 7, 7, 7, 7, 7, 7, 7, 7, 7, 7, 7, 7, 7, 7, 7, 7, 7, 7, 7, 7, 7, 7, 7, 7, 7, 7, 7, 7, 7, 7, 7, 8, 8, 8, 8, 8, 8, 8, 8, 8, 8, 8, 8, 8, 8, 8, 8, 8, 8, 8, 8, 8, 8, 8, 8, 8, 8, 8, 8, 8, 8, 8, 8, 8, 8, 8, 8, 8, 8, 8, 8, 8, 8, 8, 8, 8, 8, 8, 8, 8, 8, 8, 8, 8, 8, 8, 8, 8, 8, 8, 8, 8, 8, 8, 8, 8, 8, 8, 8, 8, 8, 8, 8, 8, 8, 8, 8, 8, 8, 8, 8, 8, 8, 8, 8, 8, 8, 8, 8, 8, 8, 8, 8, 8, 8, 8, 8, 8, 8, 8, 8, 8, 8, 8, 8, 8, 8, 8, 8, 8, 8, 8, 8, 8, 8, 8, 8, 8, 8, 8, 8, 8, 8, 8, 8, 8, 8, 8, 8])) (.r p21)))⟩, ⟨(some p23), none, (.e (.conv .i64 (.r p22)))⟩, ⟨(some p24), none, (.e (.bin .add (.r p19) (.r p23)))⟩, ⟨(some p2), none, (.e (.mv (.r p24)))⟩]) .ret)
noncomputable def J216_2 (E : Env) (r0 r2 : DV) (h : H) : Ans :=
  vK (v_geq r0 (.int .u64 (.ofNat 256))) fun x1 =>
  bK x1
  (vK (v_shr r0 (.int .u64 (.ofNat 8))) fun x2 =>
  vK (v_add r2 (.int .i64 (.ofNat 8))) fun x3 =>
  J216_3 E x2 x3 h)
  (J216_3 E r0 r2 h)
def C216_2 : DC := (.seq (.seq (.reg [⟨(some p13), none, (.e (.mv (.r p0)))⟩, ⟨(some p14), none, (.e (.bin .geq (.r p13) (.c (.int .u64 (.ofNat 256)))))⟩]) (.cond (.r p14) (.seq (.reg [⟨(some p15), none, (.e (.mv (.r p0)))⟩, ⟨(some p16), none, (.e (.bin .shr (.r p15) (.c (.int .u64 (.ofNat 8)))))⟩, ⟨(some p0), none, (.e (.mv (.r p16)))⟩]) (.reg [⟨(some p17), none, (.e (.mv (.r p2)))⟩, ⟨(some p18), none, (.e (.bin .add (.r p17) (.c (.int .i64 (.ofNat 8)))))⟩, ⟨(some p2), none, (.e (.mv (.r p18)))⟩])) .skip)) C216_3)
noncomputable def J216_1 (E : Env) (r0 r2 : DV) (h : H) : Ans :=
  vK (v_geq r0 (.int .u64 (.ofNat 65536))) fun x1 =>
  bK x1
  (vK (v_shr r0 (.int .u64 (.ofNat 16))) fun x2 =>
  vK (v_add r2 (.int .i64 (.ofNat 16))) fun x3 =>
  J216_2 E x2 x3 h)
  (J216_2 E r0 r2 h)
def C216_1 : DC := (.seq (.seq (.reg [⟨(some p7), none, (.e (.mv (.r p0)))⟩, ⟨(some p8), none, (.e (.bin .geq (.r p7) (.c (.int .u64 (.ofNat 65536)))))⟩]) (.cond (.r p8) (.seq (.reg [⟨(some p9), none, (.e (.mv (.r p0)))⟩, ⟨(some p10), none, (.e (.bin .shr (.r p9) (.c (.int .u64 (.ofNat 16)))))⟩, ⟨(some p0), none, (.e (.mv (.r p10)))⟩]) (.reg [⟨(some p11), none, (.e (.mv (.r p2)))⟩, ⟨(some p12), none, (.e (.bin .add (.r p11) (.c (.int .i64 (.ofNat 16)))))⟩, ⟨(some p2), none, (.e (.mv (.r p12)))⟩])) .skip)) C216_2)
noncomputable def J216_0 (E : Env) (r0 : DV) (h : H) : Ans :=
  vK (v_geq r0 (.int .u64 (.ofNat 4294967296))) fun x1 =>
  bK x1
  (vK (v_shr r0 (.int .u64 (.ofNat 32))) fun x2 =>
  J216_1 E x2 (.int .i64 (.ofNat 32)) h)
  (J216_1 E r0 (.int .i64 (.ofNat 0)) h)
def C216_0 : DC := (.seq (.reg [⟨(some p2), none, (.e (.mv (.c (.int .i64 (.ofNat 0)))))⟩]) (.seq (.seq (.reg [⟨(some p3), none, (.e (.mv (.r p0)))⟩, ⟨(some p4), none, (.e (.bin .geq (.r p3) (.c (.int .u64 (.ofNat 4294967296)))))⟩]) (.cond (.r p4) (.seq (.reg [⟨(some p5), none, (.e (.mv (.r p0)))⟩, ⟨(some p6), none, (.e (.bin .shr (.r p5) (.c (.int .u64 (.ofNat 32)))))⟩, ⟨(some p0), none, (.e (.mv (.r p6)))⟩]) (.reg [⟨(some p2), none, (.e (.mv (.c (.int .i64 (.ofNat 32)))))⟩])) .skip)) C216_1))
theorem I216_3 (E : Env) : Is E C216_3 (retK3 R216) (fun σ h => J216_3 E (σ p0) (σ p2) h) :=
  fun σ h => by kernel_rfl
theorem I216_2 (E : Env) : Is E C216_2 (retK3 R216) (fun σ h => J216_2 E (σ p0) (σ p2) h) :=
  Is.as (Is.seq (I216_3 E) (Is.leaf _)) fun σ h => by kernel_rfl
theorem I216_1 (E : Env) : Is E C216_1 (retK3 R216) (fun σ h => J216_1 E (σ p0) (σ p2) h) :=
  Is.as (Is.seq (I216_2 E) (Is.leaf _)) fun σ h => by kernel_rfl
theorem I216_0 (E : Env) : Is E C216_0 (retK3 R216) (fun σ h => J216_0 E (σ p0) h) :=
  Is.as (Is.seq (Is.seq (I216_1 E) (Is.leaf _)) (Is.leaf _)) fun σ h => by kernel_rfl
def D216 : DF := ⟨1, 25, C216_0, R216⟩
noncomputable def S216 (E : Env) : Fun := fun args h => aS args fun r0 args => a0 args (J216_0 E r0 h)
theorem S216_eq (E : Env) (args : List DV) (h : H) : runFn E D216 args h = S216 E args h :=
  Is.fn1 (d := D216) (I216_0 E) rfl (fun r0 h => J216_0 E r0 h) (fun r0 h => by kernel_rfl) args h
/- slices.Reverse[[]hurdle/replies.entry,hurdle/replies.entry] -/
def R217 : List RV := []
noncomputable def B217_1 (E : Env) (r0 : DV) (i1 : DV → DV → H → Ans) (r2 r3 : DV) (h : H) : Ans :=
  vK (v_lss r2 r3) fun x1 =>
  bK x1
  (vK (v_iaS 3 r0 r3) fun x2 =>
  vK (v_ldN 3 h.get x2) fun x3 =>
  vK (v_iaS 3 r0 r2) fun x4 =>
  vK (v_ldN 3 h.get x4) fun x5 =>
  vK (v_iaS 3 r0 r2) fun x6 =>
  wK (dStF 3 x6 x3 h) fun x7 h8 =>
  vK (v_iaS 3 r0 r3) fun x9 =>
  wK (dStF 3 x9 x5 h8) fun x10 h11 =>
  vK (v_add r2 (.int .i64 (.ofNat 1))) fun x12 =>
  vK (v_sub r3 (.int .i64 (.ofNat 1))) fun x13 =>
  i1 x12 x13 h11)
  (some ((.tup []), h))
noncomputable def L217_1 (E : Env) (r0 : DV) (n : Nat) : DV → DV → H → Ans := Nat.rec (motive := fun _ => DV → DV → H → Ans) (fun _ _ _ => none) (fun _ i => B217_1 E r0 i) n
def C217_1 : DC := (.loop (.seq (.seq (.reg [⟨(some p7), none, (.e (.mv (.r p2)))⟩, ⟨(some p8), none, (.e (.mv (.r p3)))⟩, ⟨(some p9), none, (.e (.bin .lss (.r p7) (.r p8)))⟩]) (.cond (.r p9) .skip (.exit 0))) (.seq (.block 1 (.drg [⟨0, ⟨(some p14), none, (.e (.mv (.r p0)))⟩, [], false⟩, ⟨1, ⟨(some p15), none, (.e (.mv (.r p2)))⟩, [], false⟩, ⟨2, ⟨(some p16), none, (.e (.mv (.r p0)))⟩, [], false⟩, ⟨3, ⟨(some p17), none, (.e (.mv (.r p3)))⟩, [], false⟩, ⟨4, ⟨(some p18), none, (.e (.mv (.r p0)))⟩, [], false⟩, ⟨5, ⟨(some p19), none, (.e (.mv (.r p3)))⟩, [], false⟩, ⟨6, ⟨(some p20), none, (.e (.iaS 3 (.r p18) (.r p19)))⟩, [], false⟩, ⟨7, ⟨(some p21), none, (.e (.ldN 3 (.r p20)))⟩, [], false⟩, ⟨8, ⟨(some p22), none, (.e (.mv (.r p0)))⟩, [], false⟩, ⟨9, ⟨(some p23), none, (.e (.mv (.r p2)))⟩, [], false⟩, ⟨10, ⟨(some p24), none, (.e (.iaS 3 (.r p22) (.r p23)))⟩, [], false⟩, ⟨11, ⟨(some p25), none, (.e (.ldN 3 (.r p24)))⟩, [], false⟩, ⟨12, ⟨(some p26), none, (.e (.iaS 3 (.r p14) (.r p15)))⟩, [], false⟩, ⟨13, ⟨none, none, (.w (.st 3 (.r p26) (.r p21)))⟩, [], false⟩, ⟨14, ⟨(some p27), none, (.e (.iaS 3 (.r p16) (.r p17)))⟩, [], false⟩, ⟨15, ⟨none, none, (.w (.st 3 (.r p27) (.r p25)))⟩, [], false⟩])) (.reg [⟨(some p10), none, (.e (.mv (.r p2)))⟩, ⟨(some p11), none, (.e (.bin .add (.r p10) (.c (.int .i64 (.ofNat 1)))))⟩, ⟨(some p12), none, (.e (.mv (.r p3)))⟩, ⟨(some p13), none, (.e (.bin .sub (.r p12) (.c (.int .i64 (.ofNat 1)))))⟩, ⟨(some p2), none, (.e (.mv (.r p11)))⟩, ⟨(some p3), none, (.e (.mv (.r p13)))⟩]))))
noncomputable def J217_0 (E : Env) (r0 : DV) (h : H) : Ans :=
  vK (v_lenL r0) fun x1 =>
  vK (v_sub x1 (.int .i64 (.ofNat 1))) fun x2 =>
  L217_1 E r0 FUEL (.int .i64 (.ofNat 0)) x2 h
def C217_0 : DC := (.seq (.reg [⟨(some p4), none, (.e (.mv (.r p0)))⟩, ⟨(some p5), none, (.e (.lenL (.r p4)))⟩, ⟨(some p6), none, (.e (.bin .sub (.r p5) (.c (.int .i64 (.ofNat 1)))))⟩, ⟨(some p2), none, (.e (.mv (.c (.int .i64 (.ofNat 0)))))⟩, ⟨(some p3), none, (.e (.mv (.r p6)))⟩]) (.block 0 C217_1))
theorem I217_1 (E : Env) : Is E C217_1 (blockK3 0 (retK3 R217)) (fun σ h => L217_1 E (σ p0) FUEL (σ p2) (σ p3) h) :=
  Is.loop (fun n1 σ h => L217_1 E (σ p0) n1 (σ p2) (σ p3) h) (by kernel_rfl) fun n1 => Is.as (Is.leaf _) fun σ h => by kernel_rfl
theorem I217_0 (E : Env) : Is E C217_0 (retK3 R217) (fun σ h => J217_0 E (σ p0) h) :=
  Is.as (Is.seq (Is.block (I217_1 E)) (Is.leaf _)) fun σ h => by kernel_rfl
def D217 : DF := ⟨1, 28, C217_0, R217⟩
noncomputable def S217 (E : Env) : Fun := fun args h => aS args fun r0 args => a0 args (J217_0 E r0 h)
theorem S217_eq (E : Env) (args : List DV) (h : H) : runFn E D217 args h = S217 E args h :=
  Is.fn1 (d := D217) (I217_0 E) rfl (fun r0 h => J217_0 E r0 h) (fun r0 h => by kernel_rfl) args h
/- hurdle/smap.group -/
def R218 : List RV := [(.r p2)]
noncomputable def J218_1 (E : Env) (h : H) : Ans :=
  some ((.bool true), h)
def C218_1 : DC := (.seq (.reg [⟨(some p2), none, (.e (.mv (.c (.bool true))))⟩]) .ret)
noncomputable def B218_2 (E : Env) (r0 r13 r14 : DV) (i2 : DV → H → Ans) (r15 : DV) (h : H) : Ans :=
  vK (v_lss r15 r14) fun x1 =>
  bK x1
  (vK (v_iaS 1 r13 r15) fun x2 =>
  vK (v_ld h.get x2) fun x3 =>
  vK (v_lss x3 (.int .i64 (.ofNat 0))) fun x4 =>
  gdK x4 false (fun kk => kk x3 h) h fun x5 h6 =>
  gdK x4 false (fun kk => vK (v_geq x5 (.int .i64 (.ofNat 64))) fun v => kk v h6) h6 fun x7 h8 =>
  vK (v_pick x4 (.bool true) x7) fun x9 =>
  gdK x9 false (fun kk => kk r0 h8) h8 fun x10 h11 =>
  gdK x9 false (fun kk => kk r15 h11) h11 fun x12 h13 =>
  gdK x9 false (fun kk => vK (v_slL 1 x10 none (some x12)) fun v => kk v h13) h13 fun x14 h15 =>
  gdK x9 false (fun kk => kk x3 h15) h15 fun x16 h17 =>
  gdK x9 false (fun kk => wK (callK E 66 [x14, x16] h17) kk) h17 fun x18 h19 =>
  vK (v_pick x9 (.bool true) x18) fun x20 =>
  bK x20
  (some ((.bool false), h19))
  (vK (v_add r15 (.int .i64 (.ofNat 1))) fun x21 =>
  i2 x21 h19))
  (J218_1 E h)
noncomputable def L218_2 (E : Env) (r0 r13 r14 : DV) (n : Nat) : DV → H → Ans := Nat.rec (motive := fun _ => DV → H → Ans) (fun _ _ => none) (fun _ i => B218_2 E r0 r13 r14 i) n
def C218_2 : DC := (.loop (.seq (.reg [⟨(some p16), none, (.e (.bin .lss (.r p15) (.r p14)))⟩]) (.seq (.cond (.r p16) .skip (.exit 0)) (.seq (.block 1 (.seq (.reg [⟨(some p17), none, (.e (.mv (.r p15)))⟩, ⟨(some p18), none, (.e (.iaS 1 (.r p13) (.r p15)))⟩, ⟨(some p19), none, (.e (.ld (.r p18)))⟩, ⟨(some p3), none, (.e (.mv (.r p17)))⟩, ⟨(some p4), none, (.e (.mv (.r p19)))⟩]) (.seq (.reg [⟨(some p20), none, (.e (.mv (.r p4)))⟩, ⟨(some p21), none, (.e (.bin .lss (.r p20) (.c (.int .i64 (.ofNat 0)))))⟩, ⟨(some p22), none, (.e (.mv (.r p21)))⟩, ⟨(some p23), (some (p22, false)), (.e (.mv (.r p4)))⟩, ⟨(some p24), (some (p22, false)), (.e (.bin .geq (.r p23) (.c (.int .i64 (.ofNat 64)))))⟩, ⟨(some p25), none, (.e (.pick (.r p22) (.c (.bool true)) (.r p24)))⟩, ⟨(some p26), none, (.e (.mv (.r p25)))⟩, ⟨(some p27), (some (p26, false)), (.e (.mv (.r p0)))⟩, ⟨(some p28), (some (p26, false)), (.e (.mv (.r p3)))⟩, ⟨(some p29), (some (p26, false)), (.e (.slL 1 (.r p27) none (some (.r p28))))⟩, ⟨(some p30), (some (p26, false)), (.e (.mv (.r p4)))⟩, ⟨(some p31), (some (p26, false)), (.c (.f 66 [(.r p29), (.r p30)]))⟩, ⟨(some p32), none, (.e (.pick (.r p26) (.c (.bool true)) (.r p31)))⟩]) (.cond (.r p32) (.seq (.reg [⟨(some p2), none, (.e (.mv (.c (.bool false))))⟩]) .ret) .skip)))) (.reg [⟨(some p33), none, (.e (.bin .add (.r p15) (.c (.int .i64 (.ofNat 1)))))⟩, ⟨(some p15), none, (.e (.mv (.r p33)))⟩])))))
noncomputable def J218_0 (E : Env) (r0 : DV) (h : H) : Ans :=
  vK (v_lenL r0) fun x1 =>
  vK (v_lss x1 (.int .i64 (.ofNat 2))) fun x2 =>
  gdK x2 false (fun kk => kk r0 h) h fun x3 h4 =>
  gdK x2 false (fun kk => vK (v_lenL x3) fun v => kk v h4) h4 fun x5 h6 =>
  gdK x2 false (fun kk => vK (v_gtr x5 (.int .i64 (.ofNat 8))) fun v => kk v h6) h6 fun x7 h8 =>
  vK (v_pick x2 (.bool true) x7) fun x9 =>
  bK x9
  (some ((.bool false), h8))
  (vK (v_lenL r0) fun x10 =>
  L218_2 E r0 r0 x10 FUEL (.int .i64 (.ofNat 0)) h8)
def C218_0 : DC := (.seq (.reg [⟨(some p2), none, (.e (.mv (.c (.bool false))))⟩]) (.seq (.seq (.reg [⟨(some p5), none, (.e (.mv (.r p0)))⟩, ⟨(some p6), none, (.e (.lenL (.r p5)))⟩, ⟨(some p7), none, (.e (.bin .lss (.r p6) (.c (.int .i64 (.ofNat 2)))))⟩, ⟨(some p8), none, (.e (.mv (.r p7)))⟩, ⟨(some p9), (some (p8, false)), (.e (.mv (.r p0)))⟩, ⟨(some p10), (some (p8, false)), (.e (.lenL (.r p9)))⟩, ⟨(some p11), (some (p8, false)), (.e (.bin .gtr (.r p10) (.c (.int .i64 (.ofNat 8)))))⟩, ⟨(some p12), none, (.e (.pick (.r p8) (.c (.bool true)) (.r p11)))⟩]) (.cond (.r p12) (.seq (.reg [⟨(some p2), none, (.e (.mv (.c (.bool false))))⟩]) .ret) .skip)) (.seq (.seq (.reg [⟨(some p13), none, (.e (.mv (.r p0)))⟩, ⟨(some p14), none, (.e (.lenL (.r p13)))⟩, ⟨(some p15), none, (.e (.mv (.c (.int .i64 (.ofNat 0)))))⟩]) (.block 0 C218_2)) C218_1)))
theorem I218_1 (E : Env) : Is E C218_1 (retK3 R218) (fun σ h => J218_1 E h) :=
  fun σ h => by kernel_rfl
noncomputable abbrev K218_3 (E : Env) : KT2 (DV × H) := (blockK3 0 (thenK3 (fun σ h => J218_1 E h) (retK3 R218)))
theorem I218_2 (E : Env) : Is E C218_2 (K218_3 E) (fun σ h => L218_2 E (σ p0) (σ p13) (σ p14) FUEL (σ p15) h) :=
  Is.loop (fun n2 σ h => L218_2 E (σ p0) (σ p13) (σ p14) n2 (σ p15) h) (by kernel_rfl) fun n2 => Is.as (Is.leaf _) fun σ h => by kernel_rfl
theorem I218_0 (E : Env) : Is E C218_0 (retK3 R218) (fun σ h => J218_0 E (σ p0) h) :=
  Is.as (Is.seq (Is.seq (Is.seq (I218_1 E) (Is.seq (Is.block (I218_2 E)) (Is.leaf _))) (Is.leaf _)) (Is.leaf _)) fun σ h => by kernel_rfl
def D218 : DF := ⟨1, 34, C218_0, R218⟩
noncomputable def S218 (E : Env) : Fun := fun args h => aS args fun r0 args => a0 args (J218_0 E r0 h)
theorem S218_eq (E : Env) (args : List DV) (h : H) : runFn E D218 args h = S218 E args h :=
  Is.fn1 (d := D218) (I218_0 E) rfl (fun r0 h => J218_0 E r0 h) (fun r0 h => by kernel_rfl) args h
/- errors.Is -/
def R219 : List RV := [(.r p4)]
noncomputable def J219_0 (E : Env) (r0 r1 : DV) (h : H) : Ans :=
  vK (v_eqv .nilI false h.get r0 .nili) fun x1 =>
  gdK x1 false (fun kk => kk r1 h) h fun x2 h3 =>
  gdK x1 false (fun kk => vK (v_eqv .nilI false h3.get x2 .nili) fun v => kk v h3) h3 fun x4 h5 =>
  vK (v_pick x1 (.bool true) x4) fun x6 =>
  bK x6
  (vK (v_eqv .nilD false h5.get r0 r1) fun x7 =>
  some (x7, h5))
  (wK (callK E 235 [r1] h5) fun x8 h9 =>
  wK (c_mth E [] x8 [] h9) fun x10 h11 =>
  wK (callK E 236 [r0, r1, x10] h11) fun x12 h13 =>
  some (x12, h13))
def C219_0 : DC := (.seq (.reg [⟨(some p4), none, (.e (.mv (.c (.bool false))))⟩]) (.seq (.seq (.reg [⟨(some p6), none, (.e (.mv (.r p0)))⟩, ⟨(some p7), none, (.e (.eqv .nilI false (.r p6) (.c .nili)))⟩, ⟨(some p8), none, (.e (.mv (.r p7)))⟩, ⟨(some p9), (some (p8, false)), (.e (.mv (.r p1)))⟩, ⟨(some p10), (some (p8, false)), (.e (.eqv .nilI false (.r p9) (.c .nili)))⟩, ⟨(some p11), none, (.e (.pick (.r p8) (.c (.bool true)) (.r p10)))⟩]) (.cond (.r p11) (.seq (.reg [⟨(some p12), none, (.e (.mv (.r p0)))⟩, ⟨(some p13), none, (.e (.mv (.r p1)))⟩, ⟨(some p14), none, (.e (.eqv .nilD false (.r p12) (.r p13)))⟩, ⟨(some p4), none, (.e (.mv (.r p14)))⟩]) .ret) .skip)) (.seq (.reg [⟨(some p15), none, (.e (.mv (.r p1)))⟩, ⟨(some p16), none, (.c (.f 235 [(.r p15)]))⟩, ⟨(some p17), none, (.c (.m [] (.r p16) []))⟩, ⟨(some p5), none, (.e (.mv (.r p17)))⟩]) (.seq (.reg [⟨(some p18), none, (.e (.mv (.r p0)))⟩, ⟨(some p19), none, (.e (.mv (.r p1)))⟩, ⟨(some p20), none, (.e (.mv (.r p5)))⟩, ⟨(some p21), none, (.c (.f 236 [(.r p18), (.r p19), (.r p20)]))⟩, ⟨(some p4), none, (.e (.mv (.r p21)))⟩]) .ret))))
theorem I219_0 (E : Env) : Is E C219_0 (retK3 R219) (fun σ h => J219_0 E (σ p0) (σ p1) h) :=
  fun σ h => by kernel_rfl
def D219 : DF := ⟨2, 22, C219_0, R219⟩
noncomputable def S219 (E : Env) : Fun := fun args h => aS args fun r0 args => aS args fun r1 args => a0 args (J219_0 E r0 r1 h)
theorem S219_eq (E : Env) (args : List DV) (h : H) : runFn E D219 args h = S219 E args h :=
  Is.fn2 (d := D219) (I219_0 E) rfl (fun r0 r1 h => J219_0 E r0 r1 h) (fun r0 r1 h => by kernel_rfl) args h
/- hurdle/usage.may -/
def R220 : List RV := [(.r p2)]
noncomputable def J220_0 (E : Env) (r0 : DV) (h : H) : Ans :=
  n_box r0 h fun x1 h2 =>
  vK (v_fa 1 x1) fun x3 =>
  vK (v_ld h2.get x3) fun x4 =>
  vK (v_geq x4 (.int .i64 (.ofNat 1))) fun x5 =>
  gdK x5 true (fun kk => vK (v_fa 1 x1) fun v => kk v h2) h2 fun x6 h7 =>
  gdK x5 true (fun kk => vK (v_ld h7.get x6) fun v => kk v h7) h7 fun x8 h9 =>
  gdK x5 true (fun kk => vK (v_leq x8 (.int .i64 (.ofNat 65536))) fun v => kk v h9) h9 fun x10 h11 =>
  vK (v_pick x5 x10 (.bool false)) fun x12 =>
  gdK x12 true (fun kk => vK (v_fa 2 x1) fun v => kk v h11) h11 fun x13 h14 =>
  gdK x12 true (fun kk => vK (v_ld h14.get x13) fun v => kk v h14) h14 fun x15 h16 =>
  gdK x12 true (fun kk => vK (v_geq x15 (.int .i64 (.ofNat 0))) fun v => kk v h16) h16 fun x17 h18 =>
  vK (v_pick x12 x17 (.bool false)) fun x19 =>
  gdK x19 true (fun kk => vK (v_fa 2 x1) fun v => kk v h18) h18 fun x20 h21 =>
  gdK x19 true (fun kk => vK (v_ld h21.get x20) fun v => kk v h21) h21 fun x22 h23 =>
  gdK x19 true (fun kk => vK (v_fa 1 x1) fun v => kk v h23) h23 fun x24 h25 =>
  gdK x19 true (fun kk => vK (v_ld h25.get x24) fun v => kk v h25) h25 fun x26 h27 =>
  gdK x19 true (fun kk => vK (v_leq x22 x26) fun v => kk v h27) h27 fun x28 h29 =>
  vK (v_pick x19 x28 (.bool false)) fun x30 =>
  gdK x30 true (fun kk => vK (v_fa 3 x1) fun v => kk v h29) h29 fun x31 h32 =>
  gdK x30 true (fun kk => vK (v_ld h32.get x31) fun v => kk v h32) h32 fun x33 h34 =>
  gdK x30 true (fun kk => vK (v_geq x33 (.int .i64 (.ofNat 0))) fun v => kk v h34) h34 fun x35 h36 =>
  vK (v_pick x30 x35 (.bool false)) fun x37 =>
  gdK x37 true (fun kk => vK (v_fa 3 x1) fun v => kk v h36) h36 fun x38 h39 =>
  gdK x37 true (fun kk => vK (v_ld h39.get x38) fun v => kk v h39) h39 fun x40 h41 =>
  gdK x37 true (fun kk => vK (v_leq x40 (.int .i64 (.ofNat 1099511627776))) fun v => kk v h41) h41 fun x42 h43 =>
  vK (v_pick x37 x42 (.bool false)) fun x44 =>
  some (x44, h43)
def C220_0 : DC := (.seq (.reg [⟨(some p1), none, (.e (.box (.r p0)))⟩, ⟨(some p2), none, (.e (.mv (.c (.bool false))))⟩]) (.seq (.reg [⟨(some p3), none, (.e (.fa 1 (.r p1)))⟩, ⟨(some p4), none, (.e (.ld (.r p3)))⟩, ⟨(some p5), none, (.e (.bin .geq (.r p4) (.c (.int .i64 (.ofNat 1)))))⟩, ⟨(some p6), none, (.e (.mv (.r p5)))⟩, ⟨(some p7), (some (p6, true)), (.e (.fa 1 (.r p1)))⟩, ⟨(some p8), (some (p6, true)), (.e (.ld (.r p7)))⟩, ⟨(some p9), (some (p6, true)), (.e (.bin .leq (.r p8) (.c (.int .i64 (.ofNat 65536)))))⟩, ⟨(some p10), none, (.e (.pick (.r p6) (.r p9) (.c (.bool false))))⟩, ⟨(some p11), none, (.e (.mv (.r p10)))⟩, ⟨(some p12), (some (p11, true)), (.e (.fa 2 (.r p1)))⟩, ⟨(some p13), (some (p11, true)), (.e (.ld (.r p12)))⟩, ⟨(some p14), (some (p11, true)), (.e (.bin .geq (.r p13) (.c (.int .i64 (.ofNat 0)))))⟩, ⟨(some p15), none, (.e (.pick (.r p11) (.r p14) (.c (.bool false))))⟩, ⟨(some p16), none, (.e (.mv (.r p15)))⟩, ⟨(some p17), (some (p16, true)), (.e (.fa 2 (.r p1)))⟩, ⟨(some p18), (some (p16, true)), (.e (.ld (.r p17)))⟩, ⟨(some p19), (some (p16, true)), (.e (.fa 1 (.r p1)))⟩, ⟨(some p20), (some (p16, true)), (.e (.ld (.r p19)))⟩, ⟨(some p21), (some (p16, true)), (.e (.bin .leq (.r p18) (.r p20)))⟩, ⟨(some p22), none, (.e (.pick (.r p16) (.r p21) (.c (.bool false))))⟩, ⟨(some p23), none, (.e (.mv (.r p22)))⟩, ⟨(some p24), (some (p23, true)), (.e (.fa 3 (.r p1)))⟩, ⟨(some p25), (some (p23, true)), (.e (.ld (.r p24)))⟩, ⟨(some p26), (some (p23, true)), (.e (.bin .geq (.r p25) (.c (.int .i64 (.ofNat 0)))))⟩, ⟨(some p27), none, (.e (.pick (.r p23) (.r p26) (.c (.bool false))))⟩, ⟨(some p28), none, (.e (.mv (.r p27)))⟩, ⟨(some p29), (some (p28, true)), (.e (.fa 3 (.r p1)))⟩, ⟨(some p30), (some (p28, true)), (.e (.ld (.r p29)))⟩, ⟨(some p31), (some (p28, true)), (.e (.bin .leq (.r p30) (.c (.int .i64 (.ofNat 1099511627776)))))⟩, ⟨(some p32), none, (.e (.pick (.r p28) (.r p31) (.c (.bool false))))⟩, ⟨(some p2), none, (.e (.mv (.r p32)))⟩]) .ret))
theorem I220_0 (E : Env) : Is E C220_0 (retK3 R220) (fun σ h => J220_0 E (σ p0) h) :=
  fun σ h => by kernel_rfl
def D220 : DF := ⟨1, 33, C220_0, R220⟩
noncomputable def S220 (E : Env) : Fun := fun args h => aS args fun r0 args => a0 args (J220_0 E r0 h)
theorem S220_eq (E : Env) (args : List DV) (h : H) : runFn E D220 args h = S220 E args h :=
  Is.fn1 (d := D220) (I220_0 E) rfl (fun r0 h => J220_0 E r0 h) (fun r0 h => by kernel_rfl) args h
/- slices.Insert[[]hurdle/api.Use,hurdle/api.Use] -/
def R221 : List RV := [(.r p6)]
noncomputable def J221_0 (E : Env) (r0 r1 r2 : DV) (h : H) : Ans :=
  vK (v_slL 4 r0 (some r1) none) fun x1 =>
  vK (v_lenL r2) fun x2 =>
  vK (v_eql x2 (.int .i64 (.ofNat 0))) fun x3 =>
  bK x3
  (some (r0, h))
  (vK (v_lenL r0) fun x4 =>
  vK (v_eql r1 x4) fun x5 =>
  bK x5
  (wK (dAppendF 4 32 r0 r2 h) fun x6 h7 =>
  some (x6, h7))
  (vK (v_add x4 x2) fun x8 =>
  none))
def C221_0 : DC := (.seq (.reg [⟨(some p6), none, (.e (.mv (.c .nils)))⟩]) (.seq (.reg [⟨(some p10), none, (.e (.mv (.r p0)))⟩, ⟨(some p11), none, (.e (.mv (.r p1)))⟩, ⟨(some p12), none, (.e (.slL 4 (.r p10) (some (.r p11)) none))⟩]) (.seq (.reg [⟨(some p13), none, (.e (.mv (.r p2)))⟩, ⟨(some p14), none, (.e (.lenL (.r p13)))⟩, ⟨(some p7), none, (.e (.mv (.r p14)))⟩]) (.seq (.seq (.reg [⟨(some p15), none, (.e (.mv (.r p7)))⟩, ⟨(some p16), none, (.e (.bin .eql (.r p15) (.c (.int .i64 (.ofNat 0)))))⟩]) (.cond (.r p16) (.seq (.reg [⟨(some p17), none, (.e (.mv (.r p0)))⟩, ⟨(some p6), none, (.e (.mv (.r p17)))⟩]) .ret) .skip)) (.seq (.reg [⟨(some p18), none, (.e (.mv (.r p0)))⟩, ⟨(some p19), none, (.e (.lenL (.r p18)))⟩, ⟨(some p8), none, (.e (.mv (.r p19)))⟩]) (.seq (.seq (.reg [⟨(some p20), none, (.e (.mv (.r p1)))⟩, ⟨(some p21), none, (.e (.mv (.r p8)))⟩, ⟨(some p22), none, (.e (.bin .eql (.r p20) (.r p21)))⟩]) (.cond (.r p22) (.seq (.reg [⟨(some p23), none, (.e (.mv (.r p0)))⟩, ⟨(some p24), none, (.e (.mv (.r p2)))⟩, ⟨(some p25), none, (.w (.app 4 32 (.r p23) (.r p24)))⟩, ⟨(some p6), none, (.e (.mv (.r p25)))⟩]) .ret) .skip)) (.seq (.seq (.reg [⟨(some p26), none, (.e (.mv (.r p8)))⟩, ⟨(some p27), none, (.e (.mv (.r p7)))⟩, ⟨(some p28), none, (.e (.bin .add (.r p26) (.r p27)))⟩, ⟨(some p29), none, (.e (.mv (.r p0)))⟩, ⟨(some p30), none, (.e .bad)⟩, ⟨(some p31), none, (.e (.bin .gtr (.r p28) (.r p30)))⟩]) (.cond (.r p31) (.seq (.reg [⟨(some p32), none, (.e (.mv (.r p0)))⟩, ⟨(some p33), none, (.e (.mv (.r p1)))⟩, ⟨(some p34), none, (.e (.slL 4 (.r p32) none (some (.r p33))))⟩, ⟨(some p35), none, (.e (.mv (.r p8)))⟩, ⟨(some p36), none, (.e (.mv (.r p7)))⟩, ⟨(some p37), none, (.e (.bin .add (.r p35) (.r p36)))⟩, ⟨(some p38), none, (.e (.mv (.r p1)))⟩, ⟨(some p39), none, (.e (.bin .sub (.r p37) (.r p38)))⟩, ⟨(some p40), none, (.e .bad)⟩, ⟨(some p9), none, (.e (.mv (.r p40)))⟩]) (.seq (.reg [⟨(some p41), none, (.e (.mv (.r p9)))⟩, ⟨(some p42), none, (.e (.mv (.r p1)))⟩, ⟨(some p43), none, (.e (.slL 4 (.r p41) (some (.r p42)) none))⟩, ⟨(some p44), none, (.e (.mv (.r p2)))⟩, ⟨(some p45), none, (.w (.cpy 4 (.r p43) (.r p44)))⟩]) (.seq (.drg [⟨0, ⟨(some p46), none, (.e (.mv (.r p9)))⟩, [], false⟩, ⟨1, ⟨(some p47), none, (.e (.mv (.r p1)))⟩, [], false⟩, ⟨2, ⟨(some p48), none, (.e (.mv (.r p7)))⟩, [], false⟩, ⟨3, ⟨(some p49), none, (.e (.bin .add (.r p47) (.r p48)))⟩, [], false⟩, ⟨4, ⟨(some p50), none, (.e (.slL 4 (.r p46) (some (.r p49)) none))⟩, [], false⟩, ⟨5, ⟨(some p51), none, (.e (.mv (.r p0)))⟩, [], false⟩, ⟨6, ⟨(some p52), none, (.e (.mv (.r p1)))⟩, [], false⟩, ⟨7, ⟨(some p53), none, (.e (.slL 4 (.r p51) (some (.r p52)) none))⟩, [], false⟩, ⟨8, ⟨(some p54), none, (.w (.cpy 4 (.r p50) (.r p53)))⟩, [], false⟩]) (.seq (.reg [⟨(some p55), none, (.e (.mv (.r p9)))⟩, ⟨(some p6), none, (.e (.mv (.r p55)))⟩]) .ret)))) .skip)) (.seq (.reg [⟨(some p56), none, (.e (.mv (.r p0)))⟩, ⟨(some p57), none, (.e (.mv (.r p8)))⟩, ⟨(some p58), none, (.e (.mv (.r p7)))⟩, ⟨(some p59), none, (.e (.bin .add (.r p57) (.r p58)))⟩, ⟨(some p60), none, (.e (.slL 4 (.r p56) none (some (.r p59))))⟩, ⟨(some p0), none, (.e (.mv (.r p60)))⟩]) (.seq (.seq (.reg [⟨(some p61), none, (.e (.mv (.r p2)))⟩, ⟨(some p62), none, (.e (.mv (.r p0)))⟩, ⟨(some p63), none, (.e (.mv (.r p1)))⟩, ⟨(some p64), none, (.e (.mv (.r p7)))⟩, ⟨(some p65), none, (.e (.bin .add (.r p63) (.r p64)))⟩, ⟨(some p66), none, (.e (.slL 4 (.r p62) (some (.r p65)) none))⟩, ⟨(some p67), none, (.c (.f 237 [(.r p61), (.r p66)]))⟩, ⟨(some p68), none, (.e (.not (.r p67)))⟩]) (.cond (.r p68) (.seq (.drg [⟨0, ⟨(some p69), none, (.e (.mv (.r p0)))⟩, [], false⟩, ⟨1, ⟨(some p70), none, (.e (.mv (.r p1)))⟩, [], false⟩, ⟨2, ⟨(some p71), none, (.e (.mv (.r p7)))⟩, [], false⟩, ⟨3, ⟨(some p72), none, (.e (.bin .add (.r p70) (.r p71)))⟩, [], false⟩, ⟨4, ⟨(some p73), none, (.e (.slL 4 (.r p69) (some (.r p72)) none))⟩, [], false⟩, ⟨5, ⟨(some p74), none, (.e (.mv (.r p0)))⟩, [], false⟩, ⟨6, ⟨(some p75), none, (.e (.mv (.r p1)))⟩, [], false⟩, ⟨7, ⟨(some p76), none, (.e (.slL 4 (.r p74) (some (.r p75)) none))⟩, [], false⟩, ⟨8, ⟨(some p77), none, (.w (.cpy 4 (.r p73) (.r p76)))⟩, [], false⟩]) (.seq (.reg [⟨(some p78), none, (.e (.mv (.r p0)))⟩, ⟨(some p79), none, (.e (.mv (.r p1)))⟩, ⟨(some p80), none, (.e (.slL 4 (.r p78) (some (.r p79)) none))⟩, ⟨(some p81), none, (.e (.mv (.r p2)))⟩, ⟨(some p82), none, (.w (.cpy 4 (.r p80) (.r p81)))⟩]) (.seq (.reg [⟨(some p83), none, (.e (.mv (.r p0)))⟩, ⟨(some p6), none, (.e (.mv (.r p83)))⟩]) .ret))) .skip)) (.seq (.reg [⟨(some p84), none, (.e (.mv (.r p0)))⟩, ⟨(some p85), none, (.e (.mv (.r p8)))⟩, ⟨(some p86), none, (.e (.slL 4 (.r p84) (some (.r p85)) none))⟩, ⟨(some p87), none, (.e (.mv (.r p2)))⟩, ⟨(some p88), none, (.w (.cpy 4 (.r p86) (.r p87)))⟩]) (.seq (.reg [⟨(some p89), none, (.e (.mv (.r p0)))⟩, ⟨(some p90), none, (.e (.mv (.r p1)))⟩, ⟨(some p91), none, (.e (.slL 4 (.r p89) (some (.r p90)) none))⟩, ⟨(some p92), none, (.e (.mv (.r p7)))⟩, ⟨(some p93), none, (.c (.f 238 [(.r p91), (.r p92)]))⟩]) (.seq (.reg [⟨(some p94), none, (.e (.mv (.r p0)))⟩, ⟨(some p6), none, (.e (.mv (.r p94)))⟩]) .ret))))))))))))
theorem I221_0 (E : Env) : Is E C221_0 (retK3 R221) (fun σ h => J221_0 E (σ p0) (σ p1) (σ p2) h) :=
  fun σ h => by kernel_rfl
def D221 : DF := ⟨3, 95, C221_0, R221⟩
noncomputable def S221 (E : Env) : Fun := fun args h => aS args fun r0 args => aS args fun r1 args => aS args fun r2 args => a0 args (J221_0 E r0 r1 r2 h)
theorem S221_eq (E : Env) (args : List DV) (h : H) : runFn E D221 args h = S221 E args h :=
  Is.fn3 (d := D221) (I221_0 E) rfl (fun r0 r1 r2 h => J221_0 E r0 r1 r2 h) (fun r0 r1 r2 h => by kernel_rfl) args h
/- slices.BinarySearchFunc[[]hurdle/api.Use,hurdle/api.Use,int] -/
def R222 : List RV := [(.r p6), (.r p7)]
noncomputable def J222_1 (E : Env) (r0 r1 r2 r8 r9 : DV) (h : H) : Ans :=
  vK (v_lss r9 r8) fun x1 =>
  gdK x1 true (fun kk => kk r2 h) h fun x2 h3 =>
  gdK x1 true (fun kk => kk r0 h3) h3 fun x4 h5 =>
  gdK x1 true (fun kk => kk r9 h5) h5 fun x6 h7 =>
  gdK x1 true (fun kk => vK (v_iaS 4 x4 x6) fun v => kk v h7) h7 fun x8 h9 =>
  gdK x1 true (fun kk => vK (v_ldN 4 h9.get x8) fun v => kk v h9) h9 fun x10 h11 =>
  gdK x1 true (fun kk => kk r1 h11) h11 fun x12 h13 =>
  gdK x1 true (fun kk => wK (c_val E x2 [x10, x12] h13) kk) h13 fun x14 h15 =>
  gdK x1 true (fun kk => vK (v_eql x14 (.int .i64 (.ofNat 0))) fun v => kk v h15) h15 fun x16 h17 =>
  vK (v_pick x1 x16 (.bool false)) fun x18 =>
  some ((.tup [r9, x18]), h17)
def C222_1 : DC := (.seq (.reg [⟨(some p35), none, (.e (.mv (.r p9)))⟩, ⟨(some p36), none, (.e (.mv (.r p9)))⟩, ⟨(some p37), none, (.e (.mv (.r p8)))⟩, ⟨(some p38), none, (.e (.bin .lss (.r p36) (.r p37)))⟩, ⟨(some p39), none, (.e (.mv (.r p38)))⟩, ⟨(some p40), (some (p39, true)), (.e (.mv (.r p2)))⟩, ⟨(some p41), (some (p39, true)), (.e (.mv (.r p0)))⟩, ⟨(some p42), (some (p39, true)), (.e (.mv (.r p9)))⟩, ⟨(some p43), (some (p39, true)), (.e (.iaS 4 (.r p41) (.r p42)))⟩, ⟨(some p44), (some (p39, true)), (.e (.ldN 4 (.r p43)))⟩, ⟨(some p45), (some (p39, true)), (.e (.mv (.r p1)))⟩, ⟨(some p46), (some (p39, true)), (.c (.v (.r p40) [(.r p44), (.r p45)]))⟩, ⟨(some p47), (some (p39, true)), (.e (.bin .eql (.r p46) (.c (.int .i64 (.ofNat 0)))))⟩, ⟨(some p48), none, (.e (.pick (.r p39) (.r p47) (.c (.bool false))))⟩, ⟨(some p6), none, (.e (.mv (.r p35)))⟩, ⟨(some p7), none, (.e (.mv (.r p48)))⟩]) .ret)
noncomputable def B222_2 (E : Env) (r0 r1 r2 r8 : DV) (i2 : DV → DV → H → Ans) (r9 r10 : DV) (h : H) : Ans :=
  vK (v_lss r9 r10) fun x1 =>
  bK x1
  (vK (v_add r9 r10) fun x2 =>
  vK (v_conv .u64 x2) fun x3 =>
  vK (v_shr x3 (.int .u64 (.ofNat 1))) fun x4 =>
  vK (v_conv .i64 x4) fun x5 =>
  vK (v_iaS 4 r0 x5) fun x6 =>
  vK (v_ldN 4 h.get x6) fun x7 =>
  wK (c_val E r2 [x7, r1] h) fun x8 h9 =>
  vK (v_lss x8 (.int .i64 (.ofNat 0))) fun x10 =>
  bK x10
  (vK (v_add x5 (.int .i64 (.ofNat 1))) fun x11 =>
  i2 x11 r10 h9)
  (i2 r9 x5 h9))
  (J222_1 E r0 r1 r2 r8 r9 h)
noncomputable def L222_2 (E : Env) (r0 r1 r2 r8 : DV) (n : Nat) : DV → DV → H → Ans := Nat.rec (motive := fun _ => DV → DV → H → Ans) (fun _ _ _ => none) (fun _ i => B222_2 E r0 r1 r2 r8 i) n
def C222_2 : DC := (.loop (.seq (.seq (.reg [⟨(some p15), none, (.e (.mv (.r p9)))⟩, ⟨(some p16), none, (.e (.mv (.r p10)))⟩, ⟨(some p17), none, (.e (.bin .lss (.r p15) (.r p16)))⟩]) (.cond (.r p17) .skip (.exit 0))) (.block 1 (.seq (.reg [⟨(some p18), none, (.e (.mv (.r p9)))⟩, ⟨(some p19), none, (.e (.mv (.r p10)))⟩, ⟨(some p20), none, (.e (.bin .add (.r p18) (.r p19)))⟩, ⟨(some p21), none, (.e (.conv .u64 (.r p20)))⟩, ⟨(some p22), none, (.e (.bin .shr (.r p21) (.c (.int .u64 (.ofNat 1)))))⟩, ⟨(some p23), none, (.e (.conv .i64 (.r p22)))⟩, ⟨(some p11), none, (.e (.mv (.r p23)))⟩]) (.seq (.reg [⟨(some p24), none, (.e (.mv (.r p2)))⟩, ⟨(some p25), none, (.e (.mv (.r p0)))⟩, ⟨(some p26), none, (.e (.mv (.r p11)))⟩, ⟨(some p27), none, (.e (.iaS 4 (.r p25) (.r p26)))⟩, ⟨(some p28), none, (.e (.ldN 4 (.r p27)))⟩, ⟨(some p29), none, (.e (.mv (.r p1)))⟩, ⟨(some p30), none, (.c (.v (.r p24) [(.r p28), (.r p29)]))⟩, ⟨(some p31), none, (.e (.bin .lss (.r p30) (.c (.int .i64 (.ofNat 0)))))⟩]) (.cond (.r p31) (.reg [⟨(some p32), none, (.e (.mv (.r p11)))⟩, ⟨(some p33), none, (.e (.bin .add (.r p32) (.c (.int .i64 (.ofNat 1)))))⟩, ⟨(some p9), none, (.e (.mv (.r p33)))⟩]) (.reg [⟨(some p34), none, (.e (.mv (.r p11)))⟩, ⟨(some p10), none, (.e (.mv (.r p34)))⟩])))))))
noncomputable def J222_0 (E : Env) (r0 r1 r2 : DV) (h : H) : Ans :=
  vK (v_lenL r0) fun x1 =>
  L222_2 E r0 r1 r2 x1 FUEL (.int .i64 (.ofNat 0)) x1 h
def C222_0 : DC := (.seq (.reg [⟨(some p6), none, (.e (.mv (.c (.int .i64 (.ofNat 0)))))⟩, ⟨(some p7), none, (.e (.mv (.c (.bool false))))⟩]) (.seq (.reg [⟨(some p12), none, (.e (.mv (.r p0)))⟩, ⟨(some p13), none, (.e (.lenL (.r p12)))⟩, ⟨(some p8), none, (.e (.mv (.r p13)))⟩]) (.seq (.reg [⟨(some p14), none, (.e (.mv (.r p8)))⟩, ⟨(some p9), none, (.e (.mv (.c (.int .i64 (.ofNat 0)))))⟩, ⟨(some p10), none, (.e (.mv (.r p14)))⟩]) (.seq (.block 0 C222_2) C222_1))))
theorem I222_1 (E : Env) : Is E C222_1 (retK3 R222) (fun σ h => J222_1 E (σ p0) (σ p1) (σ p2) (σ p8) (σ p9) h) :=
  fun σ h => by kernel_rfl
noncomputable abbrev K222_3 (E : Env) : KT2 (DV × H) := (thenK3 (fun σ h => J222_1 E (σ p0) (σ p1) (σ p2) (σ p8) (σ p9) h) (retK3 R222))
theorem I222_2 (E : Env) : Is E C222_2 (blockK3 0 (K222_3 E)) (fun σ h => L222_2 E (σ p0) (σ p1) (σ p2) (σ p8) FUEL (σ p9) (σ p10) h) :=
  Is.loop (fun n2 σ h => L222_2 E (σ p0) (σ p1) (σ p2) (σ p8) n2 (σ p9) (σ p10) h) (by kernel_rfl) fun n2 => Is.as (Is.leaf _) fun σ h => by kernel_rfl
theorem I222_0 (E : Env) : Is E C222_0 (retK3 R222) (fun σ h => J222_0 E (σ p0) (σ p1) (σ p2) h) :=
  Is.as (Is.seq (Is.seq (Is.seq (Is.seq (I222_1 E) (Is.block (I222_2 E))) (Is.leaf _)) (Is.leaf _)) (Is.leaf _)) fun σ h => by kernel_rfl
def D222 : DF := ⟨3, 49, C222_0, R222⟩
noncomputable def S222 (E : Env) : Fun := fun args h => aS args fun r0 args => aS args fun r1 args => aS args fun r2 args => a0 args (J222_0 E r0 r1 r2 h)
theorem S222_eq (E : Env) (args : List DV) (h : H) : runFn E D222 args h = S222 E args h :=
  Is.fn3 (d := D222) (I222_0 E) rfl (fun r0 r1 r2 h => J222_0 E r0 r1 r2 h) (fun r0 r1 r2 h => by kernel_rfl) args h
/- (*hurdle/usage.Usage).find$1 -/
def R223 : List RV := [(.r p4)]
noncomputable def J223_0 (E : Env) (r0 r1 : DV) (h : H) : Ans :=
  n_box r0 h fun x1 h2 =>
  vK (v_fa 0 x1) fun x3 =>
  vK (v_ld h2.get x3) fun x4 =>
  vK (v_lss x4 r1) fun x5 =>
  bK x5
  (some ((.int .i64 (.negSucc 0)), h2))
  (vK (v_fa 0 x1) fun x6 =>
  vK (v_ld h2.get x6) fun x7 =>
  vK (v_gtr x7 r1) fun x8 =>
  bK x8
  (some ((.int .i64 (.ofNat 1)), h2))
  (some ((.int .i64 (.ofNat 0)), h2)))
def C223_0 : DC := (.seq (.reg [⟨(some p2), none, (.e (.box (.r p0)))⟩, ⟨(some p4), none, (.e (.mv (.c (.int .i64 (.ofNat 0)))))⟩]) (.seq (.block 0 (.seq (.reg [⟨(some p6), none, (.e (.fa 0 (.r p2)))⟩, ⟨(some p7), none, (.e (.ld (.r p6)))⟩, ⟨(some p8), none, (.e (.mv (.r p1)))⟩, ⟨(some p9), none, (.e (.bin .lss (.r p7) (.r p8)))⟩, ⟨(some p5), none, (.e (.mv (.r p9)))⟩]) (.cond (.r p5) (.seq (.reg [⟨(some p4), none, (.e (.mv (.c (.int .i64 (.negSucc 0)))))⟩]) .ret) (.seq (.reg [⟨(some p11), none, (.e (.fa 0 (.r p2)))⟩, ⟨(some p12), none, (.e (.ld (.r p11)))⟩, ⟨(some p13), none, (.e (.mv (.r p1)))⟩, ⟨(some p14), none, (.e (.bin .gtr (.r p12) (.r p13)))⟩, ⟨(some p10), none, (.e (.mv (.r p14)))⟩]) (.cond (.r p10) (.seq (.reg [⟨(some p4), none, (.e (.mv (.c (.int .i64 (.ofNat 1)))))⟩]) .ret) .skip))))) (.seq (.reg [⟨(some p4), none, (.e (.mv (.c (.int .i64 (.ofNat 0)))))⟩]) .ret)))
theorem I223_0 (E : Env) : Is E C223_0 (retK3 R223) (fun σ h => J223_0 E (σ p0) (σ p1) h) :=
  fun σ h => by kernel_rfl
def D223 : DF := ⟨2, 15, C223_0, R223⟩
noncomputable def S223 (E : Env) : Fun := fun args h => aS args fun r0 args => aS args fun r1 args => a0 args (J223_0 E r0 r1 h)
theorem S223_eq (E : Env) (args : List DV) (h : H) : runFn E D223 args h = S223 E args h :=
  Is.fn2 (d := D223) (I223_0 E) rfl (fun r0 r1 h => J223_0 E r0 r1 h) (fun r0 r1 h => by kernel_rfl) args h
/- hurdle/sums.eight -/
def R229 : List RV := [(.r p2)]
noncomputable def B229_1 (E : Env) (i1 : DV → DV → H → Ans) (r0 r3 : DV) (h : H) : Ans :=
  vK (v_shr r0 (.int .u64 (.ofNat 1))) fun x1 =>
  vK (v_and r0 (.int .u32 (.ofNat 1))) fun x2 =>
  vK (v_neg x2) fun x3 =>
  vK (v_and (.int .u32 (.ofNat 3988292384)) x3) fun x4 =>
  vK (v_xor x1 x4) fun x5 =>
  vK (v_sub r3 (.int .i64 (.ofNat 1))) fun x6 =>
  vK (v_gtr x6 (.int .i64 (.ofNat 0))) fun x7 =>
  bK x7
  (i1 x5 x6 h)
  (some (x5, h))
noncomputable def L229_1 (E : Env) (n : Nat) : DV → DV → H → Ans := Nat.rec (motive := fun _ => DV → DV → H → Ans) (fun _ _ _ => none) (fun _ i => B229_1 E i) n
noncomputable def J229_1 (E : Env) (r0 : DV) (h : H) : Ans :=
  vK (v_shr r0 (.int .u64 (.ofNat 1))) fun x1 =>
  vK (v_and r0 (.int .u32 (.ofNat 1))) fun x2 =>
  vK (v_neg x2) fun x3 =>
  vK (v_and (.int .u32 (.ofNat 3988292384)) x3) fun x4 =>
  vK (v_xor x1 x4) fun x5 =>
  vK (v_sub (.int .i64 (.ofNat 8)) (.int .i64 (.ofNat 1))) fun x6 =>
  vK (v_gtr x6 (.int .i64 (.ofNat 0))) fun x7 =>
  bK x7
  (L229_1 E FUEL x5 x6 h)
  (some (x5, h))
def C229_1 : DC := (.jump 4294967296 (.seq (.reg [⟨(some p3), none, (.e (.mv (.c (.int .i64 (.ofNat 8)))))⟩]) (.seq .skip (.seq (.reg [⟨(some p4), none, (.e (.mv (.r p0)))⟩, ⟨(some p5), none, (.e (.bin .shr (.r p4) (.c (.int .u64 (.ofNat 1)))))⟩, ⟨(some p6), none, (.e (.mv (.r p0)))⟩, ⟨(some p7), none, (.e (.bin .and (.r p6) (.c (.int .u32 (.ofNat 1)))))⟩, ⟨(some p8), none, (.e (.neg (.r p7)))⟩, ⟨(some p9), none, (.e (.bin .and (.c (.int .u32 (.ofNat 3988292384))) (.r p8)))⟩, ⟨(some p10), none, (.e (.bin .xor (.r p5) (.r p9)))⟩, ⟨(some p0), none, (.e (.mv (.r p10)))⟩]) (.seq (.seq (.reg [⟨(some p11), none, (.e (.mv (.r p3)))⟩, ⟨(some p12), none, (.e (.bin .sub (.r p11) (.c (.int .i64 (.ofNat 1)))))⟩, ⟨(some p3), none, (.e (.mv (.r p12)))⟩]) (.seq (.reg [⟨(some p13), none, (.e (.mv (.r p3)))⟩, ⟨(some p14), none, (.e (.bin .gtr (.r p13) (.c (.int .i64 (.ofNat 0)))))⟩]) (.cond (.r p14) (.exit 4294967296) .skip))) (.seq (.reg [⟨(some p15), none, (.e (.mv (.r p0)))⟩, ⟨(some p2), none, (.e (.mv (.r p15)))⟩]) .ret))))) (.seq .skip (.seq (.reg [⟨(some p4), none, (.e (.mv (.r p0)))⟩, ⟨(some p5), none, (.e (.bin .shr (.r p4) (.c (.int .u64 (.ofNat 1)))))⟩, ⟨(some p6), none, (.e (.mv (.r p0)))⟩, ⟨(some p7), none, (.e (.bin .and (.r p6) (.c (.int .u32 (.ofNat 1)))))⟩, ⟨(some p8), none, (.e (.neg (.r p7)))⟩, ⟨(some p9), none, (.e (.bin .and (.c (.int .u32 (.ofNat 3988292384))) (.r p8)))⟩, ⟨(some p10), none, (.e (.bin .xor (.r p5) (.r p9)))⟩, ⟨(some p0), none, (.e (.mv (.r p10)))⟩]) (.seq (.seq (.reg [⟨(some p11), none, (.e (.mv (.r p3)))⟩, ⟨(some p12), none, (.e (.bin .sub (.r p11) (.c (.int .i64 (.ofNat 1)))))⟩, ⟨(some p3), none, (.e (.mv (.r p12)))⟩]) (.seq (.reg [⟨(some p13), none, (.e (.mv (.r p3)))⟩, ⟨(some p14), none, (.e (.bin .gtr (.r p13) (.c (.int .i64 (.ofNat 0)))))⟩]) (.cond (.r p14) (.exit 4294967296) .skip))) (.seq (.reg [⟨(some p15), none, (.e (.mv (.r p0)))⟩, ⟨(some p2), none, (.e (.mv (.r p15)))⟩]) .ret)))))
noncomputable def J229_0 (E : Env) (r0 : DV) (h : H) : Ans :=
  J229_1 E r0 h
def C229_0 : DC := (.seq (.reg [⟨(some p2), none, (.e (.mv (.c (.int .u32 (.ofNat 0)))))⟩]) C229_1)
theorem I229_1 (E : Env) : Is E C229_1 (retK3 R229) (fun σ h => J229_1 E (σ p0) h) :=
  Is.as (Is.jump (fun n1 σ h => L229_1 E n1 (σ p0) (σ p3) h) (by kernel_rfl) (fun n1 => Is.as (Is.leaf _) fun σ h => by kernel_rfl) (Is.leaf _)) fun σ h => by kernel_rfl
theorem I229_0 (E : Env) : Is E C229_0 (retK3 R229) (fun σ h => J229_0 E (σ p0) h) :=
  Is.as (Is.seq (I229_1 E) (Is.leaf _)) fun σ h => by kernel_rfl
def D229 : DF := ⟨1, 16, C229_0, R229⟩
noncomputable def S229 (E : Env) : Fun := fun args h => aS args fun r0 args => a0 args (J229_0 E r0 h)
theorem S229_eq (E : Env) (args : List DV) (h : H) : runFn E D229 args h = S229 E args h :=
  Is.fn1 (d := D229) (I229_0 E) rfl (fun r0 h => J229_0 E r0 h) (fun r0 h => by kernel_rfl) args h
/- slices.siftDownCmpFunc[hurdle/api.Place] -/
def R230 : List RV := []
noncomputable def J230_2 (E : Env) (i1 : DV → H → Ans) (r0 r3 r4 r10 r11 : DV) (h : H) : Ans :=
  vK (v_add r3 r10) fun x1 =>
  vK (v_iaS 2 r0 x1) fun x2 =>
  vK (v_ldN 2 h.get x2) fun x3 =>
  vK (v_add r3 r11) fun x4 =>
  vK (v_iaS 2 r0 x4) fun x5 =>
  vK (v_ldN 2 h.get x5) fun x6 =>
  wK (c_val E r4 [x3, x6] h) fun x7 h8 =>
  vK (v_lss x7 (.int .i64 (.ofNat 0))) fun x9 =>
  vK (v_not x9) fun x10 =>
  bK x10
  (some ((.tup []), h8))
  (vK (v_add r3 r10) fun x11 =>
  vK (v_add r3 r11) fun x12 =>
  vK (v_add r3 r11) fun x13 =>
  vK (v_iaS 2 r0 x13) fun x14 =>
  vK (v_ldN 2 h8.get x14) fun x15 =>
  vK (v_add r3 r10) fun x16 =>
  vK (v_iaS 2 r0 x16) fun x17 =>
  vK (v_ldN 2 h8.get x17) fun x18 =>
  vK (v_iaS 2 r0 x11) fun x19 =>
  wK (dStF 2 x19 x15 h8) fun x20 h21 =>
  vK (v_iaS 2 r0 x12) fun x22 =>
  wK (dStF 2 x22 x18 h21) fun x23 h24 =>
  i1 r11 h24)
def C230_2 : DC := (.seq (.seq (.drg [⟨0, ⟨(some p43), none, (.e (.mv (.r p4)))⟩, [], false⟩, ⟨1, ⟨(some p44), none, (.e (.mv (.r p0)))⟩, [], false⟩, ⟨2, ⟨(some p45), none, (.e (.mv (.r p3)))⟩, [], false⟩, ⟨3, ⟨(some p46), none, (.e (.mv (.r p10)))⟩, [], false⟩, ⟨4, ⟨(some p47), none, (.e (.bin .add (.r p45) (.r p46)))⟩, [], false⟩, ⟨5, ⟨(some p48), none, (.e (.iaS 2 (.r p44) (.r p47)))⟩, [], false⟩, ⟨6, ⟨(some p49), none, (.e (.ldN 2 (.r p48)))⟩, [], false⟩, ⟨7, ⟨(some p50), none, (.e (.mv (.r p0)))⟩, [], false⟩, ⟨8, ⟨(some p51), none, (.e (.mv (.r p3)))⟩, [], false⟩, ⟨9, ⟨(some p52), none, (.e (.mv (.r p11)))⟩, [], false⟩, ⟨10, ⟨(some p53), none, (.e (.bin .add (.r p51) (.r p52)))⟩, [], false⟩, ⟨11, ⟨(some p54), none, (.e (.iaS 2 (.r p50) (.r p53)))⟩, [], false⟩, ⟨12, ⟨(some p55), none, (.e (.ldN 2 (.r p54)))⟩, [], false⟩, ⟨13, ⟨(some p56), none, (.c (.v (.r p43) [(.r p49), (.r p55)]))⟩, [], false⟩, ⟨14, ⟨(some p57), none, (.e (.bin .lss (.r p56) (.c (.int .i64 (.ofNat 0)))))⟩, [], false⟩, ⟨15, ⟨(some p58), none, (.e (.not (.r p57)))⟩, [], false⟩]) (.cond (.r p58) .ret .skip)) (.seq (.drg [⟨0, ⟨(some p59), none, (.e (.mv (.r p0)))⟩, [], false⟩, ⟨1, ⟨(some p60), none, (.e (.mv (.r p3)))⟩, [], false⟩, ⟨2, ⟨(some p61), none, (.e (.mv (.r p10)))⟩, [], false⟩, ⟨3, ⟨(some p62), none, (.e (.bin .add (.r p60) (.r p61)))⟩, [], false⟩, ⟨4, ⟨(some p63), none, (.e (.mv (.r p0)))⟩, [], false⟩, ⟨5, ⟨(some p64), none, (.e (.mv (.r p3)))⟩, [], false⟩, ⟨6, ⟨(some p65), none, (.e (.mv (.r p11)))⟩, [], false⟩, ⟨7, ⟨(some p66), none, (.e (.bin .add (.r p64) (.r p65)))⟩, [], false⟩, ⟨8, ⟨(some p67), none, (.e (.mv (.r p0)))⟩, [], false⟩, ⟨9, ⟨(some p68), none, (.e (.mv (.r p3)))⟩, [], false⟩, ⟨10, ⟨(some p69), none, (.e (.mv (.r p11)))⟩, [], false⟩, ⟨11, ⟨(some p70), none, (.e (.bin .add (.r p68) (.r p69)))⟩, [], false⟩, ⟨12, ⟨(some p71), none, (.e (.iaS 2 (.r p67) (.r p70)))⟩, [], false⟩, ⟨13, ⟨(some p72), none, (.e (.ldN 2 (.r p71)))⟩, [], false⟩, ⟨14, ⟨(some p73), none, (.e (.mv (.r p0)))⟩, [], false⟩, ⟨15, ⟨(some p74), none, (.e (.mv (.r p3)))⟩, [], false⟩, ⟨16, ⟨(some p75), none, (.e (.mv (.r p10)))⟩, [], false⟩, ⟨17, ⟨(some p76), none, (.e (.bin .add (.r p74) (.r p75)))⟩, [], false⟩, ⟨18, ⟨(some p77), none, (.e (.iaS 2 (.r p73) (.r p76)))⟩, [], false⟩, ⟨19, ⟨(some p78), none, (.e (.ldN 2 (.r p77)))⟩, [], false⟩, ⟨20, ⟨(some p79), none, (.e (.iaS 2 (.r p59) (.r p62)))⟩, [], false⟩, ⟨21, ⟨none, none, (.w (.st 2 (.r p79) (.r p72)))⟩, [], false⟩, ⟨22, ⟨(some p80), none, (.e (.iaS 2 (.r p63) (.r p66)))⟩, [], false⟩, ⟨23, ⟨none, none, (.w (.st 2 (.r p80) (.r p78)))⟩, [], false⟩]) (.reg [⟨(some p81), none, (.e (.mv (.r p11)))⟩, ⟨(some p10), none, (.e (.mv (.r p81)))⟩])))
noncomputable def B230_1 (E : Env) (r0 r2 r3 r4 : DV) (i1 : DV → H → Ans) (r10 : DV) (h : H) : Ans :=
  vK (v_mul (.int .i64 (.ofNat 2)) r10) fun x1 =>
  vK (v_add x1 (.int .i64 (.ofNat 1))) fun x2 =>
  vK (v_geq x2 r2) fun x3 =>
  bK x3
  (some ((.tup []), h))
  (vK (v_add x2 (.int .i64 (.ofNat 1))) fun x4 =>
  vK (v_lss x4 r2) fun x5 =>
  gdK x5 true (fun kk => kk r4 h) h fun x6 h7 =>
  gdK x5 true (fun kk => kk r0 h7) h7 fun x8 h9 =>
  gdK x5 true (fun kk => kk r3 h9) h9 fun x10 h11 =>
  gdK x5 true (fun kk => kk x2 h11) h11 fun x12 h13 =>
  gdK x5 true (fun kk => vK (v_add x10 x12) fun v => kk v h13) h13 fun x14 h15 =>
  gdK x5 true (fun kk => vK (v_iaS 2 x8 x14) fun v => kk v h15) h15 fun x16 h17 =>
  gdK x5 true (fun kk => vK (v_ldN 2 h17.get x16) fun v => kk v h17) h17 fun x18 h19 =>
  gdK x5 true (fun kk => kk r0 h19) h19 fun x20 h21 =>
  gdK x5 true (fun kk => kk r3 h21) h21 fun x22 h23 =>
  gdK x5 true (fun kk => kk x2 h23) h23 fun x24 h25 =>
  gdK x5 true (fun kk => vK (v_add x22 x24) fun v => kk v h25) h25 fun x26 h27 =>
  gdK x5 true (fun kk => vK (v_add x26 (.int .i64 (.ofNat 1))) fun v => kk v h27) h27 fun x28 h29 =>
  gdK x5 true (fun kk => vK (v_iaS 2 x20 x28) fun v => kk v h29) h29 fun x30 h31 =>
  gdK x5 true (fun kk => vK (v_ldN 2 h31.get x30) fun v => kk v h31) h31 fun x32 h33 =>
  gdK x5 true (fun kk => wK (c_val E x6 [x18, x32] h33) kk) h33 fun x34 h35 =>
  gdK x5 true (fun kk => vK (v_lss x34 (.int .i64 (.ofNat 0))) fun v => kk v h35) h35 fun x36 h37 =>
  vK (v_pick x5 x36 (.bool false)) fun x38 =>
  bK x38
  (vK (v_add x2 (.int .i64 (.ofNat 1))) fun x39 =>
  J230_2 E i1 r0 r3 r4 r10 x39 h37)
  (J230_2 E i1 r0 r3 r4 r10 x2 h37))
noncomputable def L230_1 (E : Env) (r0 r2 r3 r4 : DV) (n : Nat) : DV → H → Ans := Nat.rec (motive := fun _ => DV → H → Ans) (fun _ _ => none) (fun _ i => B230_1 E r0 r2 r3 r4 i) n
def C230_1 : DC := (.loop (.block 1 (.seq (.reg [⟨(some p13), none, (.e (.mv (.r p10)))⟩, ⟨(some p14), none, (.e (.bin .mul (.c (.int .i64 (.ofNat 2))) (.r p13)))⟩, ⟨(some p15), none, (.e (.bin .add (.r p14) (.c (.int .i64 (.ofNat 1)))))⟩, ⟨(some p11), none, (.e (.mv (.r p15)))⟩]) (.seq (.seq (.reg [⟨(some p16), none, (.e (.mv (.r p11)))⟩, ⟨(some p17), none, (.e (.mv (.r p2)))⟩, ⟨(some p18), none, (.e (.bin .geq (.r p16) (.r p17)))⟩]) (.cond (.r p18) (.exit 0) .skip)) (.seq (.seq (.drg [⟨0, ⟨(some p19), none, (.e (.mv (.r p11)))⟩, [], false⟩, ⟨1, ⟨(some p20), none, (.e (.bin .add (.r p19) (.c (.int .i64 (.ofNat 1)))))⟩, [], false⟩, ⟨2, ⟨(some p21), none, (.e (.mv (.r p2)))⟩, [], false⟩, ⟨3, ⟨(some p22), none, (.e (.bin .lss (.r p20) (.r p21)))⟩, [], false⟩, ⟨4, ⟨(some p23), none, (.e (.mv (.r p22)))⟩, [], false⟩, ⟨5, ⟨(some p24), (some (p23, true)), (.e (.mv (.r p4)))⟩, [], false⟩, ⟨6, ⟨(some p25), (some (p23, true)), (.e (.mv (.r p0)))⟩, [], false⟩, ⟨7, ⟨(some p26), (some (p23, true)), (.e (.mv (.r p3)))⟩, [], false⟩, ⟨8, ⟨(some p27), (some (p23, true)), (.e (.mv (.r p11)))⟩, [], false⟩, ⟨9, ⟨(some p28), (some (p23, true)), (.e (.bin .add (.r p26) (.r p27)))⟩, [], false⟩, ⟨10, ⟨(some p29), (some (p23, true)), (.e (.iaS 2 (.r p25) (.r p28)))⟩, [], false⟩, ⟨11, ⟨(some p30), (some (p23, true)), (.e (.ldN 2 (.r p29)))⟩, [], false⟩, ⟨12, ⟨(some p31), (some (p23, true)), (.e (.mv (.r p0)))⟩, [], false⟩, ⟨13, ⟨(some p32), (some (p23, true)), (.e (.mv (.r p3)))⟩, [], false⟩, ⟨14, ⟨(some p33), (some (p23, true)), (.e (.mv (.r p11)))⟩, [], false⟩, ⟨15, ⟨(some p34), (some (p23, true)), (.e (.bin .add (.r p32) (.r p33)))⟩, [], false⟩, ⟨16, ⟨(some p35), (some (p23, true)), (.e (.bin .add (.r p34) (.c (.int .i64 (.ofNat 1)))))⟩, [], false⟩, ⟨17, ⟨(some p36), (some (p23, true)), (.e (.iaS 2 (.r p31) (.r p35)))⟩, [], false⟩, ⟨18, ⟨(some p37), (some (p23, true)), (.e (.ldN 2 (.r p36)))⟩, [], false⟩, ⟨19, ⟨(some p38), (some (p23, true)), (.c (.v (.r p24) [(.r p30), (.r p37)]))⟩, [], false⟩, ⟨20, ⟨(some p39), (some (p23, true)), (.e (.bin .lss (.r p38) (.c (.int .i64 (.ofNat 0)))))⟩, [], false⟩, ⟨21, ⟨(some p40), none, (.e (.pick (.r p23) (.r p39) (.c (.bool false))))⟩, [], false⟩]) (.cond (.r p40) (.reg [⟨(some p41), none, (.e (.mv (.r p11)))⟩, ⟨(some p42), none, (.e (.bin .add (.r p41) (.c (.int .i64 (.ofNat 1)))))⟩, ⟨(some p11), none, (.e (.mv (.r p42)))⟩]) .skip)) C230_2)))))
noncomputable def J230_0 (E : Env) (r0 r1 r2 r3 r4 : DV) (h : H) : Ans :=
  L230_1 E r0 r2 r3 r4 FUEL r1 h
def C230_0 : DC := (.seq (.reg [⟨(some p12), none, (.e (.mv (.r p1)))⟩, ⟨(some p10), none, (.e (.mv (.r p12)))⟩]) (.block 0 C230_1))
noncomputable abbrev K230_3 (E : Env) (n1 : Nat) : KT2 (DV × H) := (thenK3 (fun σ h => (L230_1 E (σ p0) (σ p2) (σ p3) (σ p4) n1) (σ p10) h) (blockK3 0 (retK3 R230)))
theorem I230_2 (E : Env) (n1 : Nat) : Is E C230_2 (blockK3 1 (K230_3 E n1)) (fun σ h => J230_2 E (L230_1 E (σ p0) (σ p2) (σ p3) (σ p4) n1) (σ p0) (σ p3) (σ p4) (σ p10) (σ p11) h) :=
  fun σ h => by kernel_rfl
theorem I230_1 (E : Env) : Is E C230_1 (blockK3 0 (retK3 R230)) (fun σ h => L230_1 E (σ p0) (σ p2) (σ p3) (σ p4) FUEL (σ p10) h) :=
  Is.loop (fun n1 σ h => L230_1 E (σ p0) (σ p2) (σ p3) (σ p4) n1 (σ p10) h) (by kernel_rfl) fun n1 => Is.as (Is.block (Is.seq (Is.seq (Is.seq (I230_2 E n1) (Is.leaf _)) (Is.leaf _)) (Is.leaf _))) fun σ h => by kernel_rfl
theorem I230_0 (E : Env) : Is E C230_0 (retK3 R230) (fun σ h => J230_0 E (σ p0) (σ p1) (σ p2) (σ p3) (σ p4) h) :=
  Is.as (Is.seq (Is.block (I230_1 E)) (Is.leaf _)) fun σ h => by kernel_rfl
def D230 : DF := ⟨5, 82, C230_0, R230⟩
noncomputable def S230 (E : Env) : Fun := fun args h => aS args fun r0 args => aS args fun r1 args => aS args fun r2 args => aS args fun r3 args => aS args fun r4 args => a0 args (J230_0 E r0 r1 r2 r3 r4 h)
theorem S230_eq (E : Env) (args : List DV) (h : H) : runFn E D230 args h = S230 E args h :=
  Is.fn5 (d := D230) (I230_0 E) rfl (fun r0 r1 r2 r3 r4 h => J230_0 E r0 r1 r2 r3 r4 h) (fun r0 r1 r2 r3 r4 h => by kernel_rfl) args h
/- slices.nextPowerOfTwo -/
def R231 : List RV := [(.r p2)]
noncomputable def J231_0 (E : Env) (r0 : DV) (h : H) : Ans :=
  vK (v_conv .u64 r0) fun x1 =>
  wK (callK E 185 [x1] h) fun x2 h3 =>
  vK (v_shl (.int .u64 (.ofNat 1)) x2) fun x4 =>
  some (x4, h3)
def C231_0 : DC := (.seq (.reg [⟨(some p2), none, (.e (.mv (.c (.int .u64 (.ofNat 0)))))⟩]) (.seq (.reg [⟨(some p3), none, (.e (.mv (.r p0)))⟩, ⟨(some p4), none, (.e (.conv .u64 (.r p3)))⟩, ⟨(some p5), none, (.c (.f 185 [(.r p4)]))⟩, ⟨(some p6), none, (.e (.bin .shl (.c (.int .u64 (.ofNat 1))) (.r p5)))⟩, ⟨(some p2), none, (.e (.mv (.r p6)))⟩]) .ret))
theorem I231_0 (E : Env) : Is E C231_0 (retK3 R231) (fun σ h => J231_0 E (σ p0) h) :=
  fun σ h => by kernel_rfl
def D231 : DF := ⟨1, 7, C231_0, R231⟩
noncomputable def S231 (E : Env) : Fun := fun args h => aS args fun r0 args => a0 args (J231_0 E r0 h)
theorem S231_eq (E : Env) (args : List DV) (h : H) : runFn E D231 args h = S231 E args h :=
  Is.fn1 (d := D231) (I231_0 E) rfl (fun r0 h => J231_0 E r0 h) (fun r0 h => by kernel_rfl) args h
/- (*slices.xorshift).Next -/
def R232 : List RV := [(.r p2)]
noncomputable def J232_0 (E : Env) (r0 : DV) (h : H) : Ans :=
  vK (v_nilchk r0) fun x1 =>
  vK (v_ld h.get x1) fun x2 =>
  vK (v_nilchk r0) fun x3 =>
  vK (v_ld h.get x3) fun x4 =>
  vK (v_shl x4 (.int .u64 (.ofNat 13))) fun x5 =>
  vK (v_xor x2 x5) fun x6 =>
  vK (v_nilchk r0) fun x7 =>
  wK (dStF 1 x7 x6 h) fun x8 h9 =>
  vK (v_nilchk r0) fun x10 =>
  vK (v_ld h9.get x10) fun x11 =>
  vK (v_nilchk r0) fun x12 =>
  vK (v_ld h9.get x12) fun x13 =>
  vK (v_shr x13 (.int .u64 (.ofNat 7))) fun x14 =>
  vK (v_xor x11 x14) fun x15 =>
  vK (v_nilchk r0) fun x16 =>
  wK (dStF 1 x16 x15 h9) fun x17 h18 =>
  vK (v_nilchk r0) fun x19 =>
  vK (v_ld h18.get x19) fun x20 =>
  vK (v_nilchk r0) fun x21 =>
  vK (v_ld h18.get x21) fun x22 =>
  vK (v_shl x22 (.int .u64 (.ofNat 17))) fun x23 =>
  vK (v_xor x20 x23) fun x24 =>
  vK (v_nilchk r0) fun x25 =>
  wK (dStF 1 x25 x24 h18) fun x26 h27 =>
  vK (v_nilchk r0) fun x28 =>
  vK (v_ld h27.get x28) fun x29 =>
  some (x29, h27)
def C232_0 : DC := (.seq (.reg [⟨(some p2), none, (.e (.mv (.c (.int .u64 (.ofNat 0)))))⟩]) (.seq (.drg [⟨0, ⟨(some p3), none, (.e (.mv (.r p0)))⟩, [], false⟩, ⟨1, ⟨(some p4), none, (.e (.nilchk (.r p3)))⟩, [], false⟩, ⟨2, ⟨(some p5), none, (.e (.ld (.r p4)))⟩, [], false⟩, ⟨3, ⟨(some p6), none, (.e (.mv (.r p0)))⟩, [], false⟩, ⟨4, ⟨(some p7), none, (.e (.nilchk (.r p6)))⟩, [], false⟩, ⟨5, ⟨(some p8), none, (.e (.ld (.r p7)))⟩, [], false⟩, ⟨6, ⟨(some p9), none, (.e (.bin .shl (.r p8) (.c (.int .u64 (.ofNat 13)))))⟩, [], false⟩, ⟨7, ⟨(some p10), none, (.e (.bin .xor (.r p5) (.r p9)))⟩, [], false⟩, ⟨8, ⟨(some p11), none, (.e (.nilchk (.r p3)))⟩, [], false⟩, ⟨9, ⟨none, none, (.w (.st 1 (.r p11) (.r p10)))⟩, [], false⟩]) (.seq (.drg [⟨0, ⟨(some p12), none, (.e (.mv (.r p0)))⟩, [], false⟩, ⟨1, ⟨(some p13), none, (.e (.nilchk (.r p12)))⟩, [], false⟩, ⟨2, ⟨(some p14), none, (.e (.ld (.r p13)))⟩, [], false⟩, ⟨3, ⟨(some p15), none, (.e (.mv (.r p0)))⟩, [], false⟩, ⟨4, ⟨(some p16), none, (.e (.nilchk (.r p15)))⟩, [], false⟩, ⟨5, ⟨(some p17), none, (.e (.ld (.r p16)))⟩, [], false⟩, ⟨6, ⟨(some p18), none, (.e (.bin .shr (.r p17) (.c (.int .u64 (.ofNat 7)))))⟩, [], false⟩, ⟨7, ⟨(some p19), none, (.e (.bin .xor (.r p14) (.r p18)))⟩, [], false⟩, ⟨8, ⟨(some p20), none, (.e (.nilchk (.r p12)))⟩, [], false⟩, ⟨9, ⟨none, none, (.w (.st 1 (.r p20) (.r p19)))⟩, [], false⟩]) (.seq (.drg [⟨0, ⟨(some p21), none, (.e (.mv (.r p0)))⟩, [], false⟩, ⟨1, ⟨(some p22), none, (.e (.nilchk (.r p21)))⟩, [], false⟩, ⟨2, ⟨(some p23), none, (.e (.ld (.r p22)))⟩, [], false⟩, ⟨3, ⟨(some p24), none, (.e (.mv (.r p0)))⟩, [], false⟩, ⟨4, ⟨(some p25), none, (.e (.nilchk (.r p24)))⟩, [], false⟩, ⟨5, ⟨(some p26), none, (.e (.ld (.r p25)))⟩, [], false⟩, ⟨6, ⟨(some p27), none, (.e (.bin .shl (.r p26) (.c (.int .u64 (.ofNat 17)))))⟩, [], false⟩, ⟨7, ⟨(some p28), none, (.e (.bin .xor (.r p23) (.r p27)))⟩, [], false⟩, ⟨8, ⟨(some p29), none, (.e (.nilchk (.r p21)))⟩, [], false⟩, ⟨9, ⟨none, none, (.w (.st 1 (.r p29) (.r p28)))⟩, [], false⟩]) (.seq (.reg [⟨(some p30), none, (.e (.mv (.r p0)))⟩, ⟨(some p31), none, (.e (.nilchk (.r p30)))⟩, ⟨(some p32), none, (.e (.ld (.r p31)))⟩, ⟨(some p2), none, (.e (.mv (.r p32)))⟩]) .ret)))))
theorem I232_0 (E : Env) : Is E C232_0 (retK3 R232) (fun σ h => J232_0 E (σ p0) h) :=
  fun σ h => by kernel_rfl
def D232 : DF := ⟨1, 33, C232_0, R232⟩
noncomputable def S232 (E : Env) : Fun := fun args h => aS args fun r0 args => a0 args (J232_0 E r0 h)
theorem S232_eq (E : Env) (args : List DV) (h : H) : runFn E D232 args h = S232 E args h :=
  Is.fn1 (d := D232) (I232_0 E) rfl (fun r0 h => J232_0 E r0 h) (fun r0 h => by kernel_rfl) args h
/- slices.medianAdjacentCmpFunc[hurdle/api.Place] -/
def R233 : List RV := [(.r p8)]
noncomputable def J233_0 (E : Env) (r0 r1 r2 r3 : DV) (h : H) : Ans :=
  vK (v_sub r1 (.int .i64 (.ofNat 1))) fun x1 =>
  vK (v_add r1 (.int .i64 (.ofNat 1))) fun x2 =>
  wK (callK E 234 [r0, x1, r1, x2, r2, r3] h) fun x3 h4 =>
  some (x3, h4)
def C233_0 : DC := (.seq (.reg [⟨(some p8), none, (.e (.mv (.c (.int .i64 (.ofNat 0)))))⟩]) (.seq (.reg [⟨(some p9), none, (.e (.mv (.r p0)))⟩, ⟨(some p10), none, (.e (.mv (.r p1)))⟩, ⟨(some p11), none, (.e (.bin .sub (.r p10) (.c (.int .i64 (.ofNat 1)))))⟩, ⟨(some p12), none, (.e (.mv (.r p1)))⟩, ⟨(some p13), none, (.e (.mv (.r p1)))⟩, ⟨(some p14), none, (.e (.bin .add (.r p13) (.c (.int .i64 (.ofNat 1)))))⟩, ⟨(some p15), none, (.e (.mv (.r p2)))⟩, ⟨(some p16), none, (.e (.mv (.r p3)))⟩, ⟨(some p17), none, (.c (.f 234 [(.r p9), (.r p11), (.r p12), (.r p14), (.r p15), (.r p16)]))⟩, ⟨(some p8), none, (.e (.mv (.r p17)))⟩]) .ret))
theorem I233_0 (E : Env) : Is E C233_0 (retK3 R233) (fun σ h => J233_0 E (σ p0) (σ p1) (σ p2) (σ p3) h) :=
  fun σ h => by kernel_rfl
def D233 : DF := ⟨4, 18, C233_0, R233⟩
noncomputable def S233 (E : Env) : Fun := fun args h => aS args fun r0 args => aS args fun r1 args => aS args fun r2 args => aS args fun r3 args => a0 args (J233_0 E r0 r1 r2 r3 h)
theorem S233_eq (E : Env) (args : List DV) (h : H) : runFn E D233 args h = S233 E args h :=
  Is.fn4 (d := D233) (I233_0 E) rfl (fun r0 r1 r2 r3 h => J233_0 E r0 r1 r2 r3 h) (fun r0 r1 r2 r3 h => by kernel_rfl) args h
/- slices.medianCmpFunc[hurdle/api.Place] -/
def R234 : List RV := [(.r p12)]
noncomputable def J234_0 (E : Env) (r0 r1 r2 r3 r4 r5 : DV) (h : H) : Ans :=
  wK (callK E 241 [r0, r1, r2, r4, r5] h) fun x1 h2 =>
  vK (v_ext 0 x1) fun x3 =>
  vK (v_ext 1 x1) fun x4 =>
  wK (callK E 241 [r0, x4, r3, r4, r5] h2) fun x5 h6 =>
  vK (v_ext 0 x5) fun x7 =>
  vK (v_ext 1 x5) fun x8 =>
  wK (callK E 241 [r0, x3, x7, r4, r5] h6) fun x9 h10 =>
  vK (v_ext 0 x9) fun x11 =>
  vK (v_ext 1 x9) fun x12 =>
  some (x12, h10)
def C234_0 : DC := (.seq (.reg [⟨(some p12), none, (.e (.mv (.c (.int .i64 (.ofNat 0)))))⟩]) (.seq (.reg [⟨(some p14), none, (.e (.mv (.r p0)))⟩, ⟨(some p15), none, (.e (.mv (.r p1)))⟩, ⟨(some p16), none, (.e (.mv (.r p2)))⟩, ⟨(some p17), none, (.e (.mv (.r p4)))⟩, ⟨(some p18), none, (.e (.mv (.r p5)))⟩, ⟨(some p19), none, (.c (.f 241 [(.r p14), (.r p15), (.r p16), (.r p17), (.r p18)]))⟩, ⟨(some p13), none, (.e (.mv (.r p19)))⟩, ⟨(some p20), none, (.e (.ext 0 (.r p13)))⟩, ⟨(some p21), none, (.e (.ext 1 (.r p13)))⟩, ⟨(some p1), none, (.e (.mv (.r p20)))⟩, ⟨(some p2), none, (.e (.mv (.r p21)))⟩]) (.seq (.reg [⟨(some p23), none, (.e (.mv (.r p0)))⟩, ⟨(some p24), none, (.e (.mv (.r p2)))⟩, ⟨(some p25), none, (.e (.mv (.r p3)))⟩, ⟨(some p26), none, (.e (.mv (.r p4)))⟩, ⟨(some p27), none, (.e (.mv (.r p5)))⟩, ⟨(some p28), none, (.c (.f 241 [(.r p23), (.r p24), (.r p25), (.r p26), (.r p27)]))⟩, ⟨(some p22), none, (.e (.mv (.r p28)))⟩, ⟨(some p29), none, (.e (.ext 0 (.r p22)))⟩, ⟨(some p30), none, (.e (.ext 1 (.r p22)))⟩, ⟨(some p2), none, (.e (.mv (.r p29)))⟩, ⟨(some p3), none, (.e (.mv (.r p30)))⟩]) (.seq (.reg [⟨(some p32), none, (.e (.mv (.r p0)))⟩, ⟨(some p33), none, (.e (.mv (.r p1)))⟩, ⟨(some p34), none, (.e (.mv (.r p2)))⟩, ⟨(some p35), none, (.e (.mv (.r p4)))⟩, ⟨(some p36), none, (.e (.mv (.r p5)))⟩, ⟨(some p37), none, (.c (.f 241 [(.r p32), (.r p33), (.r p34), (.r p35), (.r p36)]))⟩, ⟨(some p31), none, (.e (.mv (.r p37)))⟩, ⟨(some p38), none, (.e (.ext 0 (.r p31)))⟩, ⟨(some p39), none, (.e (.ext 1 (.r p31)))⟩, ⟨(some p1), none, (.e (.mv (.r p38)))⟩, ⟨(some p2), none, (.e (.mv (.r p39)))⟩]) (.seq (.reg [⟨(some p40), none, (.e (.mv (.r p2)))⟩, ⟨(some p12), none, (.e (.mv (.r p40)))⟩]) .ret)))))
theorem I234_0 (E : Env) : Is E C234_0 (retK3 R234) (fun σ h => J234_0 E (σ p0) (σ p1) (σ p2) (σ p3) (σ p4) (σ p5) h) :=
  fun σ h => by kernel_rfl
def D234 : DF := ⟨6, 41, C234_0, R234⟩
noncomputable def S234 (E : Env) : Fun := fun args h => aS args fun r0 args => aS args fun r1 args => aS args fun r2 args => aS args fun r3 args => aS args fun r4 args => aS args fun r5 args => a0 args (J234_0 E r0 r1 r2 r3 r4 r5 h)
theorem S234_eq (E : Env) (args : List DV) (h : H) : runFn E D234 args h = S234 E args h :=
  Is.fn6 (d := D234) (I234_0 E) rfl (fun r0 r1 r2 r3 r4 r5 h => J234_0 E r0 r1 r2 r3 r4 r5 h) (fun r0 r1 r2 r3 r4 r5 h => by kernel_rfl) args h
/- errors.is -/
def R236 : List RV := [(.r p6)]
noncomputable def J236_2 (E : Env) (h : H) : Ans :=
  some ((.bool false), h)
def C236_2 : DC := (.seq (.reg [⟨(some p6), none, (.e (.mv (.c (.bool false))))⟩]) .ret)
noncomputable def B236_3 (E : Env) (r1 r2 r43 r44 : DV) (i3 : DV → H → Ans) (r45 : DV) (h : H) : Ans :=
  vK (v_lss r45 r44) fun x1 =>
  bK x1
  (vK (v_iaS 1 r43 r45) fun x2 =>
  vK (v_ld h.get x2) fun x3 =>
  wK (callK E 236 [x3, r1, r2] h) fun x4 h5 =>
  bK x4
  (some ((.bool true), h5))
  (vK (v_add r45 (.int .i64 (.ofNat 1))) fun x6 =>
  i3 x6 h5))
  (J236_2 E h)
noncomputable def L236_3 (E : Env) (r1 r2 r43 r44 : DV) (n : Nat) : DV → H → Ans := Nat.rec (motive := fun _ => DV → H → Ans) (fun _ _ => none) (fun _ i => B236_3 E r1 r2 r43 r44 i) n
def C236_3 : DC := (.loop (.seq (.reg [⟨(some p46), none, (.e (.bin .lss (.r p45) (.r p44)))⟩]) (.seq (.cond (.r p46) .skip (.exit 3)) (.seq (.block 4 (.seq (.reg [⟨(some p47), none, (.e (.iaS 1 (.r p43) (.r p45)))⟩, ⟨(some p48), none, (.e (.ld (.r p47)))⟩, ⟨(some p12), none, (.e (.mv (.r p48)))⟩]) (.seq (.reg [⟨(some p49), none, (.e (.mv (.r p12)))⟩, ⟨(some p50), none, (.e (.mv (.r p1)))⟩, ⟨(some p51), none, (.e (.mv (.r p2)))⟩, ⟨(some p52), none, (.c (.f 236 [(.r p49), (.r p50), (.r p51)]))⟩]) (.cond (.r p52) (.seq (.reg [⟨(some p6), none, (.e (.mv (.c (.bool true))))⟩]) .ret) .skip)))) (.reg [⟨(some p53), none, (.e (.bin .add (.r p45) (.c (.int .i64 (.ofNat 1)))))⟩, ⟨(some p45), none, (.e (.mv (.r p53)))⟩])))))
noncomputable def B236_1 (E : Env) (r1 r2 : DV) (i1 : DV → H → Ans) (r0 : DV) (h : H) : Ans :=
  gdK r2 true (fun kk => kk r0 h) h fun x1 h2 =>
  gdK r2 true (fun kk => kk r1 h2) h2 fun x3 h4 =>
  gdK r2 true (fun kk => vK (v_eqv .nilD false h4.get x1 x3) fun v => kk v h4) h4 fun x5 h6 =>
  vK (v_pick r2 x5 (.bool false)) fun x7 =>
  bK x7
  (some ((.bool true), h6))
  (none)
noncomputable def L236_1 (E : Env) (r1 r2 : DV) (n : Nat) : DV → H → Ans := Nat.rec (motive := fun _ => DV → H → Ans) (fun _ _ => none) (fun _ i => B236_1 E r1 r2 i) n
def C236_1 : DC := (.loop (.block 1 (.seq (.seq (.reg [⟨(some p14), none, (.e (.mv (.r p2)))⟩, ⟨(some p15), none, (.e (.mv (.r p14)))⟩, ⟨(some p16), (some (p15, true)), (.e (.mv (.r p0)))⟩, ⟨(some p17), (some (p15, true)), (.e (.mv (.r p1)))⟩, ⟨(some p18), (some (p15, true)), (.e (.eqv .nilD false (.r p16) (.r p17)))⟩, ⟨(some p19), none, (.e (.pick (.r p15) (.r p18) (.c (.bool false))))⟩]) (.cond (.r p19) (.seq (.reg [⟨(some p6), none, (.e (.mv (.c (.bool true))))⟩]) .ret) .skip)) (.seq (.seq (.reg [⟨(some p21), none, (.e (.mv (.r p0)))⟩, ⟨(some p22), none, (.e .bad)⟩, ⟨(some p20), none, (.e (.mv (.r p22)))⟩, ⟨(some p23), none, (.e (.ext 0 (.r p20)))⟩, ⟨(some p24), none, (.e (.ext 1 (.r p20)))⟩, ⟨(some p7), none, (.e (.mv (.r p23)))⟩, ⟨(some p8), none, (.e (.mv (.r p24)))⟩]) (.seq (.reg [⟨(some p25), none, (.e (.mv (.r p8)))⟩, ⟨(some p26), none, (.e (.mv (.r p25)))⟩, ⟨(some p27), (some (p26, true)), (.e (.mv (.r p7)))⟩, ⟨(some p28), (some (p26, true)), (.e (.mv (.r p1)))⟩, ⟨(some p29), (some (p26, true)), (.c (.m [(297, 268)] (.r p27) [(.r p28)]))⟩, ⟨(some p30), none, (.e (.pick (.r p26) (.r p29) (.c (.bool false))))⟩]) (.cond (.r p30) (.seq (.reg [⟨(some p6), none, (.e (.mv (.c (.bool true))))⟩]) .ret) .skip))) (.seq (.reg [⟨(some p31), none, (.e (.mv (.r p0)))⟩]) (.block 2 (.seq (.reg [⟨(some p32), none, (.e .bad)⟩, ⟨(some p33), none, (.e (.ext 1 (.r p32)))⟩, ⟨(some p34), none, (.e (.ext 0 (.r p32)))⟩]) (.cond (.r p33) (.seq (.reg [⟨(some p9), none, (.e (.mv (.r p34)))⟩]) (.seq (.reg [⟨(some p35), none, (.e (.mv (.r p9)))⟩, ⟨(some p36), none, (.c (.m [] (.r p35) []))⟩, ⟨(some p0), none, (.e (.mv (.r p36)))⟩]) (.seq (.reg [⟨(some p37), none, (.e (.mv (.r p0)))⟩, ⟨(some p38), none, (.e (.eqv .nilI false (.r p37) (.c .nili)))⟩]) (.cond (.r p38) (.seq (.reg [⟨(some p6), none, (.e (.mv (.c (.bool false))))⟩]) .ret) .skip)))) (.seq (.reg [⟨(some p39), none, (.e .bad)⟩, ⟨(some p40), none, (.e (.ext 1 (.r p39)))⟩, ⟨(some p41), none, (.e (.ext 0 (.r p39)))⟩]) (.cond (.r p40) (.seq (.reg [⟨(some p10), none, (.e (.mv (.r p41)))⟩]) (.seq (.seq (.reg [⟨(some p42), none, (.e (.mv (.r p10)))⟩, ⟨(some p43), none, (.c (.m [] (.r p42) []))⟩, ⟨(some p44), none, (.e (.lenL (.r p43)))⟩, ⟨(some p45), none, (.e (.mv (.c (.int .i64 (.ofNat 0)))))⟩]) (.block 3 C236_3)) C236_2)) (.seq (.reg [⟨(some p13), none, (.e (.mv (.r p31)))⟩]) (.seq (.reg [⟨(some p6), none, (.e (.mv (.c (.bool false))))⟩]) .ret))))))))))))
noncomputable def J236_0 (E : Env) (r0 r1 r2 : DV) (h : H) : Ans :=
  L236_1 E r1 r2 FUEL r0 h
def C236_0 : DC := (.seq (.reg [⟨(some p6), none, (.e (.mv (.c (.bool false))))⟩]) (.block 0 C236_1))
noncomputable abbrev K236_4 (E : Env) (n1 : Nat) : KT2 (DV × H) := (thenK3 (fun σ h => (L236_1 E (σ p1) (σ p2) n1) (σ p0) h) (blockK3 0 (retK3 R236)))
theorem I236_2 (E : Env) (n1 : Nat) : Is E C236_2 (blockK3 2 (blockK3 1 (K236_4 E n1))) (fun σ h => J236_2 E h) :=
  fun σ h => by kernel_rfl
noncomputable abbrev K236_5 (E : Env) (n1 : Nat) : KT2 (DV × H) := (thenK3 (fun σ h => J236_2 E h) (blockK3 2 (blockK3 1 (K236_4 E n1))))
theorem I236_3 (E : Env) (n1 : Nat) : Is E C236_3 (blockK3 3 (K236_5 E n1)) (fun σ h => L236_3 E (σ p1) (σ p2) (σ p43) (σ p44) FUEL (σ p45) h) :=
  Is.loop (fun n3 σ h => L236_3 E (σ p1) (σ p2) (σ p43) (σ p44) n3 (σ p45) h) (by kernel_rfl) fun n3 => Is.as (Is.leaf _) fun σ h => by kernel_rfl
theorem I236_1 (E : Env) : Is E C236_1 (blockK3 0 (retK3 R236)) (fun σ h => L236_1 E (σ p1) (σ p2) FUEL (σ p0) h) :=
  Is.loop (fun n1 σ h => L236_1 E (σ p1) (σ p2) n1 (σ p0) h) (by kernel_rfl) fun n1 => Is.as (Is.block (Is.seq (Is.seq (Is.seq (Is.block (Is.seq (Is.cond (Is.leaf _) (Is.seq (Is.cond (Is.seq (Is.seq (I236_2 E n1) (Is.seq (Is.block (I236_3 E n1)) (Is.leaf _))) (Is.leaf _)) (Is.leaf _)) (Is.leaf _))) (Is.leaf _))) (Is.leaf _)) (Is.leaf _)) (Is.leaf _))) fun σ h => by kernel_rfl
theorem I236_0 (E : Env) : Is E C236_0 (retK3 R236) (fun σ h => J236_0 E (σ p0) (σ p1) (σ p2) h) :=
  Is.as (Is.seq (Is.block (I236_1 E)) (Is.leaf _)) fun σ h => by kernel_rfl
def D236 : DF := ⟨3, 54, C236_0, R236⟩
noncomputable def S236 (E : Env) : Fun := fun args h => aS args fun r0 args => aS args fun r1 args => aS args fun r2 args => a0 args (J236_0 E r0 r1 r2 h)
theorem S236_eq (E : Env) (args : List DV) (h : H) : runFn E D236 args h = S236 E args h :=
  Is.fn3 (d := D236) (I236_0 E) rfl (fun r0 r1 r2 h => J236_0 E r0 r1 r2 h) (fun r0 r1 r2 h => by kernel_rfl) args h
/- slices.rotateRight[hurdle/api.Use] -/
def R238 : List RV := []
noncomputable def J238_0 (E : Env) (r0 r1 : DV) (h : H) : Ans :=
  vK (v_lenL r0) fun x1 =>
  vK (v_sub x1 r1) fun x2 =>
  wK (callK E 242 [r0, x2] h) fun x3 h4 =>
  some ((.tup []), h4)
def C238_0 : DC := (.reg [⟨(some p4), none, (.e (.mv (.r p0)))⟩, ⟨(some p5), none, (.e (.mv (.r p0)))⟩, ⟨(some p6), none, (.e (.lenL (.r p5)))⟩, ⟨(some p7), none, (.e (.mv (.r p1)))⟩, ⟨(some p8), none, (.e (.bin .sub (.r p6) (.r p7)))⟩, ⟨(some p9), none, (.c (.f 242 [(.r p4), (.r p8)]))⟩])
theorem I238_0 (E : Env) : Is E C238_0 (retK3 R238) (fun σ h => J238_0 E (σ p0) (σ p1) h) :=
  fun σ h => by kernel_rfl
def D238 : DF := ⟨2, 10, C238_0, R238⟩
noncomputable def S238 (E : Env) : Fun := fun args h => aS args fun r0 args => aS args fun r1 args => a0 args (J238_0 E r0 r1 h)
theorem S238_eq (E : Env) (args : List DV) (h : H) : runFn E D238 args h = S238 E args h :=
  Is.fn2 (d := D238) (I238_0 E) rfl (fun r0 r1 h => J238_0 E r0 r1 h) (fun r0 r1 h => by kernel_rfl) args h
/- slices.order2CmpFunc[hurdle/api.Place] -/
def R241 : List RV := [(.r p10), (.r p11)]
noncomputable def J241_0 (E : Env) (r0 r1 r2 r3 r4 : DV) (h : H) : Ans :=
  vK (v_iaS 2 r0 r2) fun x1 =>
  vK (v_ldN 2 h.get x1) fun x2 =>
  vK (v_iaS 2 r0 r1) fun x3 =>
  vK (v_ldN 2 h.get x3) fun x4 =>
  wK (c_val E r4 [x2, x4] h) fun x5 h6 =>
  vK (v_lss x5 (.int .i64 (.ofNat 0))) fun x7 =>
  bK x7
  (vK (v_nilchk r3) fun x8 =>
  vK (v_ld h6.get x8) fun x9 =>
  vK (v_add x9 (.int .i64 (.ofNat 1))) fun x10 =>
  vK (v_nilchk r3) fun x11 =>
  wK (dStF 1 x11 x10 h6) fun x12 h13 =>
  some ((.tup [r2, r1]), h13))
  (some ((.tup [r1, r2]), h6))
def C241_0 : DC := (.seq (.reg [⟨(some p10), none, (.e (.mv (.c (.int .i64 (.ofNat 0)))))⟩, ⟨(some p11), none, (.e (.mv (.c (.int .i64 (.ofNat 0)))))⟩]) (.seq (.seq (.drg [⟨0, ⟨(some p12), none, (.e (.mv (.r p4)))⟩, [], false⟩, ⟨1, ⟨(some p13), none, (.e (.mv (.r p0)))⟩, [], false⟩, ⟨2, ⟨(some p14), none, (.e (.mv (.r p2)))⟩, [], false⟩, ⟨3, ⟨(some p15), none, (.e (.iaS 2 (.r p13) (.r p14)))⟩, [], false⟩, ⟨4, ⟨(some p16), none, (.e (.ldN 2 (.r p15)))⟩, [], false⟩, ⟨5, ⟨(some p17), none, (.e (.mv (.r p0)))⟩, [], false⟩, ⟨6, ⟨(some p18), none, (.e (.mv (.r p1)))⟩, [], false⟩, ⟨7, ⟨(some p19), none, (.e (.iaS 2 (.r p17) (.r p18)))⟩, [], false⟩, ⟨8, ⟨(some p20), none, (.e (.ldN 2 (.r p19)))⟩, [], false⟩, ⟨9, ⟨(some p21), none, (.c (.v (.r p12) [(.r p16), (.r p20)]))⟩, [], false⟩, ⟨10, ⟨(some p22), none, (.e (.bin .lss (.r p21) (.c (.int .i64 (.ofNat 0)))))⟩, [], false⟩]) (.cond (.r p22) (.seq (.reg [⟨(some p23), none, (.e (.mv (.r p3)))⟩, ⟨(some p24), none, (.e (.nilchk (.r p23)))⟩, ⟨(some p25), none, (.e (.ld (.r p24)))⟩, ⟨(some p26), none, (.e (.bin .add (.r p25) (.c (.int .i64 (.ofNat 1)))))⟩, ⟨(some p27), none, (.e (.nilchk (.r p23)))⟩, ⟨none, none, (.w (.st 1 (.r p27) (.r p26)))⟩]) (.seq (.reg [⟨(some p28), none, (.e (.mv (.r p2)))⟩, ⟨(some p29), none, (.e (.mv (.r p1)))⟩, ⟨(some p10), none, (.e (.mv (.r p28)))⟩, ⟨(some p11), none, (.e (.mv (.r p29)))⟩]) .ret)) .skip)) (.seq (.reg [⟨(some p30), none, (.e (.mv (.r p1)))⟩, ⟨(some p31), none, (.e (.mv (.r p2)))⟩, ⟨(some p10), none, (.e (.mv (.r p30)))⟩, ⟨(some p11), none, (.e (.mv (.r p31)))⟩]) .ret)))
theorem I241_0 (E : Env) : Is E C241_0 (retK3 R241) (fun σ h => J241_0 E (σ p0) (σ p1) (σ p2) (σ p3) (σ p4) h) :=
  fun σ h => by kernel_rfl
def D241 : DF := ⟨5, 32, C241_0, R241⟩
noncomputable def S241 (E : Env) : Fun := fun args h => aS args fun r0 args => aS args fun r1 args => aS args fun r2 args => aS args fun r3 args => aS args fun r4 args => a0 args (J241_0 E r0 r1 r2 r3 r4 h)
theorem S241_eq (E : Env) (args : List DV) (h : H) : runFn E D241 args h = S241 E args h :=
  Is.fn5 (d := D241) (I241_0 E) rfl (fun r0 r1 r2 r3 r4 h => J241_0 E r0 r1 r2 r3 r4 h) (fun r0 r1 r2 r3 r4 h => by kernel_rfl) args h
/- slices.rotateLeft[hurdle/api.Use] -/
def R242 : List RV := []
noncomputable def J242_0 (E : Env) (r0 r1 : DV) (h : H) : Ans :=
  vK (v_slL 4 r0 none (some r1)) fun x1 =>
  wK (callK E 243 [x1] h) fun x2 h3 =>
  vK (v_slL 4 r0 (some r1) none) fun x4 =>
  wK (callK E 243 [x4] h3) fun x5 h6 =>
  wK (callK E 243 [r0] h6) fun x7 h8 =>
  some ((.tup []), h8)
def C242_0 : DC := (.seq (.reg [⟨(some p4), none, (.e (.mv (.r p0)))⟩, ⟨(some p5), none, (.e (.mv (.r p1)))⟩, ⟨(some p6), none, (.e (.slL 4 (.r p4) none (some (.r p5))))⟩, ⟨(some p7), none, (.c (.f 243 [(.r p6)]))⟩]) (.seq (.reg [⟨(some p8), none, (.e (.mv (.r p0)))⟩, ⟨(some p9), none, (.e (.mv (.r p1)))⟩, ⟨(some p10), none, (.e (.slL 4 (.r p8) (some (.r p9)) none))⟩, ⟨(some p11), none, (.c (.f 243 [(.r p10)]))⟩]) (.reg [⟨(some p12), none, (.e (.mv (.r p0)))⟩, ⟨(some p13), none, (.c (.f 243 [(.r p12)]))⟩])))
theorem I242_0 (E : Env) : Is E C242_0 (retK3 R242) (fun σ h => J242_0 E (σ p0) (σ p1) h) :=
  fun σ h => by kernel_rfl
def D242 : DF := ⟨2, 14, C242_0, R242⟩
noncomputable def S242 (E : Env) : Fun := fun args h => aS args fun r0 args => aS args fun r1 args => a0 args (J242_0 E r0 r1 h)
theorem S242_eq (E : Env) (args : List DV) (h : H) : runFn E D242 args h = S242 E args h :=
  Is.fn2 (d := D242) (I242_0 E) rfl (fun r0 r1 h => J242_0 E r0 r1 h) (fun r0 r1 h => by kernel_rfl) args h
/- slices.Reverse[[]hurdle/api.Use,hurdle/api.Use] -/
def R243 : List RV := []
noncomputable def B243_1 (E : Env) (r0 : DV) (i1 : DV → DV → H → Ans) (r2 r3 : DV) (h : H) : Ans :=
  vK (v_lss r2 r3) fun x1 =>
  bK x1
  (vK (v_iaS 4 r0 r3) fun x2 =>
  vK (v_ldN 4 h.get x2) fun x3 =>
  vK (v_iaS 4 r0 r2) fun x4 =>
  vK (v_ldN 4 h.get x4) fun x5 =>
  vK (v_iaS 4 r0 r2) fun x6 =>
  wK (dStF 4 x6 x3 h) fun x7 h8 =>
  vK (v_iaS 4 r0 r3) fun x9 =>
  wK (dStF 4 x9 x5 h8) fun x10 h11 =>
  vK (v_add r2 (.int .i64 (.ofNat 1))) fun x12 =>
  vK (v_sub r3 (.int .i64 (.ofNat 1))) fun x13 =>
  i1 x12 x13 h11)
  (some ((.tup []), h))
noncomputable def L243_1 (E : Env) (r0 : DV) (n : Nat) : DV → DV → H → Ans := Nat.rec (motive := fun _ => DV → DV → H → Ans) (fun _ _ _ => none) (fun _ i => B243_1 E r0 i) n
def C243_1 : DC := (.loop (.seq (.seq (.reg [⟨(some p7), none, (.e (.mv (.r p2)))⟩, ⟨(some p8), none, (.e (.mv (.r p3)))⟩, ⟨(some p9), none, (.e (.bin .lss (.r p7) (.r p8)))⟩]) (.cond (.r p9) .skip (.exit 0))) (.seq (.block 1 (.drg [⟨0, ⟨(some p14), none, (.e (.mv (.r p0)))⟩, [], false⟩, ⟨1, ⟨(some p15), none, (.e (.mv (.r p2)))⟩, [], false⟩, ⟨2, ⟨(some p16), none, (.e (.mv (.r p0)))⟩, [], false⟩, ⟨3, ⟨(some p17), none, (.e (.mv (.r p3)))⟩, [], false⟩, ⟨4, ⟨(some p18), none, (.e (.mv (.r p0)))⟩, [], false⟩, ⟨5, ⟨(some p19), none, (.e (.mv (.r p3)))⟩, [], false⟩, ⟨6, ⟨(some p20), none, (.e (.iaS 4 (.r p18) (.r p19)))⟩, [], false⟩, ⟨7, ⟨(some p21), none, (.e (.ldN 4 (.r p20)))⟩, [], false⟩, ⟨8, ⟨(some p22), none, (.e (.mv (.r p0)))⟩, [], false⟩, ⟨9, ⟨(some p23), none, (.e (.mv (.r p2)))⟩, [], false⟩, ⟨10, ⟨(some p24), none, (.e (.iaS 4 (.r p22) (.r p23)))⟩, [], false⟩, ⟨11, ⟨(some p25), none, (.e (.ldN 4 (.r p24)))⟩, [], false⟩, ⟨12, ⟨(some p26), none, (.e (.iaS 4 (.r p14) (.r p15)))⟩, [], false⟩, ⟨13, ⟨none, none, (.w (.st 4 (.r p26) (.r p21)))⟩, [], false⟩, ⟨14, ⟨(some p27), none, (.e (.iaS 4 (.r p16) (.r p17)))⟩, [], false⟩, ⟨15, ⟨none, none, (.w (.st 4 (.r p27) (.r p25)))⟩, [], false⟩])) (.reg [⟨(some p10), none, (.e (.mv (.r p2)))⟩, ⟨(some p11), none, (.e (.bin .add (.r p10) (.c (.int .i64 (.ofNat 1)))))⟩, ⟨(some p12), none, (.e (.mv (.r p3)))⟩, ⟨(some p13), none, (.e (.bin .sub (.r p12) (.c (.int .i64 (.ofNat 1)))))⟩, ⟨(some p2), none, (.e (.mv (.r p11)))⟩, ⟨(some p3), none, (.e (.mv (.r p13)))⟩]))))
noncomputable def J243_0 (E : Env) (r0 : DV) (h : H) : Ans :=
  vK (v_lenL r0) fun x1 =>
  vK (v_sub x1 (.int .i64 (.ofNat 1))) fun x2 =>
  L243_1 E r0 FUEL (.int .i64 (.ofNat 0)) x2 h
def C243_0 : DC := (.seq (.reg [⟨(some p4), none, (.e (.mv (.r p0)))⟩, ⟨(some p5), none, (.e (.lenL (.r p4)))⟩, ⟨(some p6), none, (.e (.bin .sub (.r p5) (.c (.int .i64 (.ofNat 1)))))⟩, ⟨(some p2), none, (.e (.mv (.c (.int .i64 (.ofNat 0)))))⟩, ⟨(some p3), none, (.e (.mv (.r p6)))⟩]) (.block 0 C243_1))
theorem I243_1 (E : Env) : Is E C243_1 (blockK3 0 (retK3 R243)) (fun σ h => L243_1 E (σ p0) FUEL (σ p2) (σ p3) h) :=
  Is.loop (fun n1 σ h => L243_1 E (σ p0) n1 (σ p2) (σ p3) h) (by kernel_rfl) fun n1 => Is.as (Is.leaf _) fun σ h => by kernel_rfl
theorem I243_0 (E : Env) : Is E C243_0 (retK3 R243) (fun σ h => J243_0 E (σ p0) h) :=
  Is.as (Is.seq (Is.block (I243_1 E)) (Is.leaf _)) fun σ h => by kernel_rfl
def D243 : DF := ⟨1, 28, C243_0, R243⟩
noncomputable def S243 (E : Env) : Fun := fun args h => aS args fun r0 args => a0 args (J243_0 E r0 h)
theorem S243_eq (E : Env) (args : List DV) (h : H) : runFn E D243 args h = S243 E args h :=
  Is.fn1 (d := D243) (I243_0 E) rfl (fun r0 h => J243_0 E r0 h) (fun r0 h => by kernel_rfl) args h
noncomputable def fs2 : List FD := [⟨179, D179, S179⟩, ⟨180, D180, S180⟩, ⟨181, D181, S181⟩, ⟨182, D182, S182⟩, ⟨183, D183, S183⟩, ⟨184, D184, S184⟩, ⟨185, D185, S185⟩, ⟨186, D186, S186⟩, ⟨187, D187, S187⟩, ⟨188, D188, S188⟩, ⟨189, D189, S189⟩, ⟨190, D190, S190⟩, ⟨191, D191, S191⟩, ⟨192, D192, S192⟩, ⟨193, D193, S193⟩, ⟨194, D194, S194⟩, ⟨205, D205, S205⟩, ⟨206, D206, S206⟩, ⟨207, D207, S207⟩, ⟨208, D208, S208⟩, ⟨209, D209, S209⟩, ⟨210, D210, S210⟩, ⟨211, D211, S211⟩, ⟨212, D212, S212⟩, ⟨213, D213, S213⟩, ⟨214, D214, S214⟩, ⟨215, D215, S215⟩, ⟨216, D216, S216⟩, ⟨217, D217, S217⟩, ⟨218, D218, S218⟩, ⟨219, D219, S219⟩, ⟨220, D220, S220⟩, ⟨221, D221, S221⟩, ⟨222, D222, S222⟩, ⟨223, D223, S223⟩, ⟨229, D229, S229⟩, ⟨230, D230, S230⟩, ⟨231, D231, S231⟩, ⟨232, D232, S232⟩, ⟨233, D233, S233⟩, ⟨234, D234, S234⟩, ⟨236, D236, S236⟩, ⟨238, D238, S238⟩, ⟨241, D241, S241⟩, ⟨242, D242, S242⟩, ⟨243, D243, S243⟩]
theorem fs2_eq : AllEq fs2 := ⟨S179_eq, ⟨S180_eq, ⟨S181_eq, ⟨S182_eq, ⟨S183_eq, ⟨S184_eq, ⟨S185_eq, ⟨S186_eq, ⟨S187_eq, ⟨S188_eq, ⟨S189_eq, ⟨S190_eq, ⟨S191_eq, ⟨S192_eq, ⟨S193_eq, ⟨S194_eq, ⟨S205_eq, ⟨S206_eq, ⟨S207_eq, ⟨S208_eq, ⟨S209_eq, ⟨S210_eq, ⟨S211_eq, ⟨S212_eq, ⟨S213_eq, ⟨S214_eq, ⟨S215_eq, ⟨S216_eq, ⟨S217_eq, ⟨S218_eq, ⟨S219_eq, ⟨S220_eq, ⟨S221_eq, ⟨S222_eq, ⟨S223_eq, ⟨S229_eq, ⟨S230_eq, ⟨S231_eq, ⟨S232_eq, ⟨S233_eq, ⟨S234_eq, ⟨S236_eq, ⟨S238_eq, ⟨S241_eq, ⟨S242_eq, ⟨S243_eq, trivial⟩⟩⟩⟩⟩⟩⟩⟩⟩⟩⟩⟩⟩⟩⟩⟩⟩⟩⟩⟩⟩⟩⟩⟩⟩⟩⟩⟩⟩⟩⟩⟩⟩⟩⟩⟩⟩⟩⟩⟩⟩⟩⟩⟩⟩⟩
end Go.Proofs.YtjofbahcdfjklaaGreat

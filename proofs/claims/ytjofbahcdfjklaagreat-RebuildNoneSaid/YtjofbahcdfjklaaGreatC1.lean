/- More of the program's functions. No condition. -/
import Derived.Test.YtjofbahcdfjklaaGreatC0
set_option linter.unusedVariables false
namespace Go.Proofs.YtjofbahcdfjklaaGreat
open Go.DI
/- (*hurdle/codec.Reader).Done -/
def R75 : List RV := [(.r p2)]
noncomputable def J75_0 (E : Env) (r0 : DV) (h : H) : Ans :=
  vK (v_eqv .ptr false h.get r0 .nilp) fun x1 =>
  bK x1
  (some ((.int .i64 (.ofNat 1)), h))
  (vK (v_nilchk r0) fun x2 =>
  vK (v_fa 1 x2) fun x3 =>
  vK (v_ld h.get x3) fun x4 =>
  gdK x4 false (fun kk => kk r0 h) h fun x5 h6 =>
  gdK x4 false (fun kk => vK (v_nilchk x5) fun v => kk v h6) h6 fun x7 h8 =>
  gdK x4 false (fun kk => vK (v_fa 0 x7) fun v => kk v h8) h8 fun x9 h10 =>
  gdK x4 false (fun kk => vK (v_ld h10.get x9) fun v => kk v h10) h10 fun x11 h12 =>
  gdK x4 false (fun kk => vK (v_neq x11 (.str [])) fun v => kk v h12) h12 fun x13 h14 =>
  vK (v_pick x4 (.bool true) x13) fun x15 =>
  bK x15
  (some ((.int .i64 (.ofNat 3)), h14))
  (some ((.int .i64 (.ofNat 0)), h14)))
def C75_0 : DC := (.seq (.reg [⟨(some p2), none, (.e (.mv (.c (.int .i64 (.ofNat 0)))))⟩]) (.seq (.block 0 (.seq (.reg [⟨(some p4), none, (.e (.mv (.r p0)))⟩, ⟨(some p5), none, (.e (.eqv .ptr false (.r p4) (.c .nilp)))⟩, ⟨(some p3), none, (.e (.mv (.r p5)))⟩]) (.cond (.r p3) (.seq (.reg [⟨(some p2), none, (.e (.mv (.c (.int .i64 (.ofNat 1)))))⟩]) .ret) (.seq (.reg [⟨(some p7), none, (.e (.mv (.r p0)))⟩, ⟨(some p8), none, (.e (.nilchk (.r p7)))⟩, ⟨(some p9), none, (.e (.fa 1 (.r p8)))⟩, ⟨(some p10), none, (.e (.ld (.r p9)))⟩, ⟨(some p11), none, (.e (.mv (.r p10)))⟩, ⟨(some p12), (some (p11, false)), (.e (.mv (.r p0)))⟩, ⟨(some p13), (some (p11, false)), (.e (.nilchk (.r p12)))⟩, ⟨(some p14), (some (p11, false)), (.e (.fa 0 (.r p13)))⟩, ⟨(some p15), (some (p11, false)), (.e (.ld (.r p14)))⟩, ⟨(some p16), (some (p11, false)), (.e (.bin .neq (.r p15) (.c (.str []))))⟩, ⟨(some p17), none, (.e (.pick (.r p11) (.c (.bool true)) (.r p16)))⟩, ⟨(some p6), none, (.e (.mv (.r p17)))⟩]) (.cond (.r p6) (.seq (.reg [⟨(some p2), none, (.e (.mv (.c (.int .i64 (.ofNat 3)))))⟩]) .ret) .skip))))) (.seq (.reg [⟨(some p2), none, (.e (.mv (.c (.int .i64 (.ofNat 0)))))⟩]) .ret)))
theorem I75_0 (E : Env) : Is E C75_0 (retK3 R75) (fun σ h => J75_0 E (σ p0) h) :=
  fun σ h => by kernel_rfl
def D75 : DF := ⟨1, 18, C75_0, R75⟩
noncomputable def S75 (E : Env) : Fun := fun args h => aS args fun r0 args => a0 args (J75_0 E r0 h)
theorem S75_eq (E : Env) (args : List DV) (h : H) : runFn E D75 args h = S75 E args h :=
  Is.fn1 (d := D75) (I75_0 E) rfl (fun r0 h => J75_0 E r0 h) (fun r0 h => by kernel_rfl) args h
/- hurdle/manager.answer -/
def R76 : List RV := [(.r p4)]
noncomputable def J76_1 (E : Env) (r0 r1 : DV) (h : H) : Ans :=
  wK (callK E 68 [(.int .i64 (.ofNat 65536))] h) fun x1 h2 =>
  wK (callK E 115 [x1, r1] h2) fun x3 h4 =>
  wK (callK E 116 [x1, r0] h4) fun x5 h6 =>
  wK (callK E 71 [x1] h6) fun x7 h8 =>
  vK (v_ext 0 x7) fun x9 =>
  vK (v_ext 1 x7) fun x10 =>
  some (x9, h8)
def C76_1 : DC := (.seq (.reg [⟨(some p10), none, (.c (.f 68 [(.c (.int .i64 (.ofNat 65536)))]))⟩, ⟨(some p5), none, (.e (.mv (.r p10)))⟩]) (.seq (.reg [⟨(some p11), none, (.e (.mv (.r p5)))⟩, ⟨(some p12), none, (.e (.mv (.r p1)))⟩, ⟨(some p13), none, (.c (.f 115 [(.r p11), (.r p12)]))⟩]) (.seq (.reg [⟨(some p14), none, (.e (.mv (.r p5)))⟩, ⟨(some p15), none, (.e (.mv (.r p0)))⟩, ⟨(some p16), none, (.c (.f 116 [(.r p14), (.r p15)]))⟩]) (.seq (.reg [⟨(some p18), none, (.e (.mv (.r p5)))⟩, ⟨(some p19), none, (.c (.f 71 [(.r p18)]))⟩, ⟨(some p17), none, (.e (.mv (.r p19)))⟩, ⟨(some p20), none, (.e (.ext 0 (.r p17)))⟩, ⟨(some p21), none, (.e (.ext 1 (.r p17)))⟩, ⟨(some p6), none, (.e (.mv (.r p20)))⟩, ⟨(some p7), none, (.e (.mv (.r p21)))⟩]) (.seq (.reg [⟨(some p22), none, (.e (.mv (.r p6)))⟩, ⟨(some p4), none, (.e (.mv (.r p22)))⟩]) .ret)))))
noncomputable def J76_0 (E : Env) (r0 r1 : DV) (h : H) : Ans :=
  vK (v_neq r1 (.int .i64 (.ofNat 0))) fun x1 =>
  bK x1
  (J76_1 E .nils r1 h)
  (J76_1 E r0 r1 h)
def C76_0 : DC := (.seq (.reg [⟨(some p4), none, (.e (.mv (.c (.str []))))⟩]) (.seq (.seq (.reg [⟨(some p8), none, (.e (.mv (.r p1)))⟩, ⟨(some p9), none, (.e (.bin .neq (.r p8) (.c (.int .i64 (.ofNat 0)))))⟩]) (.cond (.r p9) (.reg [⟨(some p0), none, (.e (.mv (.c .nils)))⟩]) .skip)) C76_1))
theorem I76_1 (E : Env) : Is E C76_1 (retK3 R76) (fun σ h => J76_1 E (σ p0) (σ p1) h) :=
  fun σ h => by kernel_rfl
theorem I76_0 (E : Env) : Is E C76_0 (retK3 R76) (fun σ h => J76_0 E (σ p0) (σ p1) h) :=
  Is.as (Is.seq (Is.seq (I76_1 E) (Is.leaf _)) (Is.leaf _)) fun σ h => by kernel_rfl
def D76 : DF := ⟨2, 23, C76_0, R76⟩
noncomputable def S76 (E : Env) : Fun := fun args h => aS args fun r0 args => aS args fun r1 args => a0 args (J76_0 E r0 r1 h)
theorem S76_eq (E : Env) (args : List DV) (h : H) : runFn E D76 args h = S76 E args h :=
  Is.fn2 (d := D76) (I76_0 E) rfl (fun r0 r1 h => J76_0 E r0 r1 h) (fun r0 r1 h => by kernel_rfl) args h
/- hurdle/manager.Decode -/
def R77 : List RV := [(.cells p2 8), (.r p3)]
noncomputable def J77_1 (E : Env) (r2 r4 r5 : DV) (h : H) : Ans :=
  vK (v_ldN 8 h.get r5) fun x1 =>
  wK (callK E 42 [x1] h) fun x2 h3 =>
  vK (v_ext 0 x2) fun x4 =>
  vK (v_ext 1 x2) fun x5 =>
  vK (v_neq x5 (.int .i64 (.ofNat 0))) fun x6 =>
  gdK x6 false (fun kk => kk r4 h3) h3 fun x7 h8 =>
  gdK x6 false (fun kk => wK (callK E 75 [x7] h8) kk) h8 fun x9 h10 =>
  gdK x6 false (fun kk => vK (v_neq x9 (.int .i64 (.ofNat 0))) fun v => kk v h10) h10 fun x11 h12 =>
  vK (v_pick x6 (.bool true) x11) fun x13 =>
  bK x13
  (vK (v_bld [(.int .i64 (.ofNat 0)), (.int .i64 (.ofNat 0)), (.int .i64 (.ofNat 0)), (.int .i64 (.ofNat 0)), (.int .i64 (.ofNat 0)), (.int .i64 (.ofNat 0)), (.int .i64 (.ofNat 0)), (.int .i64 (.ofNat 0))] []) fun x14 =>
  wK (dStF 8 r2 x14 h12) fun x15 h16 =>
  vK (v_ldN 8 h16.get r2) fun x17 =>
  some ((.tup [x17, (.int .i64 (.ofNat 3))]), h16))
  (vK (v_ldN 8 h12.get r5) fun x18 =>
  wK (dStF 8 r2 x18 h12) fun x19 h20 =>
  vK (v_ldN 8 h20.get r2) fun x21 =>
  some ((.tup [x21, (.int .i64 (.ofNat 0))]), h20))
def C77_1 : DC := (.seq (.seq (.reg [⟨(some p25), none, (.e (.ldN 8 (.r p5)))⟩, ⟨(some p26), none, (.c (.f 42 [(.r p25)]))⟩, ⟨(some p24), none, (.e (.mv (.r p26)))⟩, ⟨(some p27), none, (.e (.ext 0 (.r p24)))⟩, ⟨(some p28), none, (.e (.ext 1 (.r p24)))⟩, ⟨(some p8), none, (.e (.mv (.r p27)))⟩, ⟨(some p9), none, (.e (.mv (.r p28)))⟩]) (.seq (.reg [⟨(some p29), none, (.e (.mv (.r p9)))⟩, ⟨(some p30), none, (.e (.bin .neq (.r p29) (.c (.int .i64 (.ofNat 0)))))⟩, ⟨(some p31), none, (.e (.mv (.r p30)))⟩, ⟨(some p32), (some (p31, false)), (.e (.mv (.r p4)))⟩, ⟨(some p33), (some (p31, false)), (.c (.f 75 [(.r p32)]))⟩, ⟨(some p34), (some (p31, false)), (.e (.bin .neq (.r p33) (.c (.int .i64 (.ofNat 0)))))⟩, ⟨(some p35), none, (.e (.pick (.r p31) (.c (.bool true)) (.r p34)))⟩]) (.cond (.r p35) (.seq (.reg [⟨(some p36), none, (.e (.bld [(.int .i64 (.ofNat 0)), (.int .i64 (.ofNat 0)), (.int .i64 (.ofNat 0)), (.int .i64 (.ofNat 0)), (.int .i64 (.ofNat 0)), (.int .i64 (.ofNat 0)), (.int .i64 (.ofNat 0)), (.int .i64 (.ofNat 0))] []))⟩, ⟨none, none, (.w (.st 8 (.r p2) (.r p36)))⟩, ⟨(some p3), none, (.e (.mv (.c (.int .i64 (.ofNat 3)))))⟩]) .ret) .skip))) (.seq (.reg [⟨(some p37), none, (.e (.ldN 8 (.r p5)))⟩, ⟨none, none, (.w (.st 8 (.r p2) (.r p37)))⟩, ⟨(some p3), none, (.e (.mv (.c (.int .i64 (.ofNat 0)))))⟩]) .ret))
noncomputable def B77_2 (E : Env) (r2 r4 r5 r13 r14 : DV) (i2 : DV → H → Ans) (r15 : DV) (h : H) : Ans :=
  vK (v_lss r15 r14) fun x1 =>
  bK x1
  (vK (v_iaS 1 r13 r15) fun x2 =>
  vK (v_ld h.get x2) fun x3 =>
  wK (callK E 113 [r4] h) fun x4 h5 =>
  vK (v_nilchk x3) fun x6 =>
  wK (dStF 1 x6 x4 h5) fun x7 h8 =>
  vK (v_add r15 (.int .i64 (.ofNat 1))) fun x9 =>
  i2 x9 h8)
  (J77_1 E r2 r4 r5 h)
noncomputable def L77_2 (E : Env) (r2 r4 r5 r13 r14 : DV) (n : Nat) : DV → H → Ans := Nat.rec (motive := fun _ => DV → H → Ans) (fun _ _ => none) (fun _ i => B77_2 E r2 r4 r5 r13 r14 i) n
def C77_2 : DC := (.loop (.seq (.reg [⟨(some p16), none, (.e (.bin .lss (.r p15) (.r p14)))⟩]) (.seq (.cond (.r p16) .skip (.exit 0)) (.seq (.block 1 (.seq (.reg [⟨(some p17), none, (.e (.iaS 1 (.r p13) (.r p15)))⟩, ⟨(some p18), none, (.e (.ld (.r p17)))⟩, ⟨(some p7), none, (.e (.mv (.r p18)))⟩]) (.reg [⟨(some p19), none, (.e (.mv (.r p7)))⟩, ⟨(some p20), none, (.e (.mv (.r p4)))⟩, ⟨(some p21), none, (.c (.f 113 [(.r p20)]))⟩, ⟨(some p22), none, (.e (.nilchk (.r p19)))⟩, ⟨none, none, (.w (.st 1 (.r p22) (.r p21)))⟩]))) (.reg [⟨(some p23), none, (.e (.bin .add (.r p15) (.c (.int .i64 (.ofNat 1)))))⟩, ⟨(some p15), none, (.e (.mv (.r p23)))⟩])))))
noncomputable def J77_0 (E : Env) (r0 : DV) (h : H) : Ans :=
  n_alc 8 8 (.list [(.int .i64 (.ofNat 0)), (.int .i64 (.ofNat 0)), (.int .i64 (.ofNat 0)), (.int .i64 (.ofNat 0)), (.int .i64 (.ofNat 0)), (.int .i64 (.ofNat 0)), (.int .i64 (.ofNat 0)), (.int .i64 (.ofNat 0))]) h fun x1 h2 =>
  wK (callK E 72 [r0] h2) fun x3 h4 =>
  vK (v_bld [(.int .i64 (.ofNat 0)), (.int .i64 (.ofNat 0)), (.int .i64 (.ofNat 0)), (.int .i64 (.ofNat 0)), (.int .i64 (.ofNat 0)), (.int .i64 (.ofNat 0)), (.int .i64 (.ofNat 0)), (.int .i64 (.ofNat 0))] []) fun x5 =>
  n_alc 8 8 (.list [(.int .i64 (.ofNat 0)), (.int .i64 (.ofNat 0)), (.int .i64 (.ofNat 0)), (.int .i64 (.ofNat 0)), (.int .i64 (.ofNat 0)), (.int .i64 (.ofNat 0)), (.int .i64 (.ofNat 0)), (.int .i64 (.ofNat 0))]) h4 fun x6 h7 =>
  wK (dStF 8 x6 x5 h7) fun x8 h9 =>
  wK (callK E 69 [x6] h9) fun x10 h11 =>
  vK (v_lenL x10) fun x12 =>
  L77_2 E x1 x3 x6 x10 x12 FUEL (.int .i64 (.ofNat 0)) h11
def C77_0 : DC := (.seq (.reg [⟨(some p2), none, (.e (.alc 8 8 (.list [(.int .i64 (.ofNat 0)), (.int .i64 (.ofNat 0)), (.int .i64 (.ofNat 0)), (.int .i64 (.ofNat 0)), (.int .i64 (.ofNat 0)), (.int .i64 (.ofNat 0)), (.int .i64 (.ofNat 0)), (.int .i64 (.ofNat 0))])))⟩, ⟨(some p3), none, (.e (.mv (.c (.int .i64 (.ofNat 0)))))⟩]) (.seq (.reg [⟨(some p10), none, (.e (.mv (.r p0)))⟩, ⟨(some p11), none, (.c (.f 72 [(.r p10)]))⟩, ⟨(some p12), none, (.e (.bld [(.int .i64 (.ofNat 0)), (.int .i64 (.ofNat 0)), (.int .i64 (.ofNat 0)), (.int .i64 (.ofNat 0)), (.int .i64 (.ofNat 0)), (.int .i64 (.ofNat 0)), (.int .i64 (.ofNat 0)), (.int .i64 (.ofNat 0))] []))⟩, ⟨(some p5), none, (.e (.alc 8 8 (.list [(.int .i64 (.ofNat 0)), (.int .i64 (.ofNat 0)), (.int .i64 (.ofNat 0)), (.int .i64 (.ofNat 0)), (.int .i64 (.ofNat 0)), (.int .i64 (.ofNat 0)), (.int .i64 (.ofNat 0)), (.int .i64 (.ofNat 0))])))⟩, ⟨(some p4), none, (.e (.mv (.r p11)))⟩, ⟨none, none, (.w (.st 8 (.r p5) (.r p12)))⟩]) (.seq (.seq (.reg [⟨(some p13), none, (.c (.f 69 [(.r p5)]))⟩, ⟨(some p14), none, (.e (.lenL (.r p13)))⟩, ⟨(some p15), none, (.e (.mv (.c (.int .i64 (.ofNat 0)))))⟩]) (.block 0 C77_2)) C77_1)))
theorem I77_1 (E : Env) : Is E C77_1 (retK3 R77) (fun σ h => J77_1 E (σ p2) (σ p4) (σ p5) h) :=
  fun σ h => by kernel_rfl
noncomputable abbrev K77_3 (E : Env) : KT2 (DV × H) := (thenK3 (fun σ h => J77_1 E (σ p2) (σ p4) (σ p5) h) (retK3 R77))
theorem I77_2 (E : Env) : Is E C77_2 (blockK3 0 (K77_3 E)) (fun σ h => L77_2 E (σ p2) (σ p4) (σ p5) (σ p13) (σ p14) FUEL (σ p15) h) :=
  Is.loop (fun n2 σ h => L77_2 E (σ p2) (σ p4) (σ p5) (σ p13) (σ p14) n2 (σ p15) h) (by kernel_rfl) fun n2 => Is.as (Is.leaf _) fun σ h => by kernel_rfl
theorem I77_0 (E : Env) : Is E C77_0 (retK3 R77) (fun σ h => J77_0 E (σ p0) h) :=
  Is.as (Is.seq (Is.seq (Is.seq (I77_1 E) (Is.seq (Is.block (I77_2 E)) (Is.leaf _))) (Is.leaf _)) (Is.leaf _)) fun σ h => by kernel_rfl
def D77 : DF := ⟨1, 38, C77_0, R77⟩
noncomputable def S77 (E : Env) : Fun := fun args h => aS args fun r0 args => a0 args (J77_0 E r0 h)
theorem S77_eq (E : Env) (args : List DV) (h : H) : runFn E D77 args h = S77 E args h :=
  Is.fn1 (d := D77) (I77_0 E) rfl (fun r0 h => J77_0 E r0 h) (fun r0 h => by kernel_rfl) args h
/- (*hurdle/replies.Replies).Take -/
def R78 : List RV := [(.r p6), (.r p7)]
noncomputable def J78_0 (E : Env) (r0 r1 r2 : DV) (h : H) : Ans :=
  vK (v_eqv .ptr false h.get r0 .nilp) fun x1 =>
  gdK x1 false (fun kk => kk r1 h) h fun x2 h3 =>
  gdK x1 false (fun kk => kk r2 h3) h3 fun x4 h5 =>
  gdK x1 false (fun kk => wK (callK E 117 [x2, x4] h5) kk) h5 fun x6 h7 =>
  gdK x1 false (fun kk => vK (v_not x6) fun v => kk v h7) h7 fun x8 h9 =>
  vK (v_pick x1 (.bool true) x8) fun x10 =>
  bK x10
  (some ((.tup [(.int .i64 (.ofNat 0)), (.str [])]), h9))
  (wK (callK E 118 [r0, r1, r2] h9) fun x11 h12 =>
  vK (v_ext 0 x11) fun x13 =>
  vK (v_ext 1 x11) fun x14 =>
  vK (v_nilchk r0) fun x15 =>
  vK (v_fa 1 x15) fun x16 =>
  vK (v_ld h12.get x16) fun x17 =>
  vK (v_lkp .int .nils false h12.get x17 r1) fun x18 =>
  gdK x14 true (fun kk => kk x18 h12) h12 fun x19 h20 =>
  gdK x14 true (fun kk => kk x13 h20) h20 fun x21 h22 =>
  gdK x14 true (fun kk => vK (v_iaS 3 x19 x21) fun v => kk v h22) h22 fun x23 h24 =>
  gdK x14 true (fun kk => vK (v_fa 1 x23) fun v => kk v h24) h24 fun x25 h26 =>
  gdK x14 true (fun kk => vK (v_ld h26.get x25) fun v => kk v h26) h26 fun x27 h28 =>
  vK (v_pick x14 x27 (.bool false)) fun x29 =>
  bK x29
  (some ((.tup [(.int .i64 (.ofNat 3)), (.str [])]), h28))
  (bK x14
  (vK (v_iaS 3 x18 x13) fun x30 =>
  vK (v_fa 2 x30) fun x31 =>
  vK (v_ld h28.get x31) fun x32 =>
  some ((.tup [(.int .i64 (.ofNat 2)), x32]), h28))
  (vK (v_lenL x18) fun x33 =>
  vK (v_nilchk r0) fun x34 =>
  vK (v_fa 0 x34) fun x35 =>
  vK (v_ld h28.get x35) fun x36 =>
  vK (v_eql x33 x36) fun x37 =>
  gdK x37 true (fun kk => kk x13 h28) h28 fun x38 h39 =>
  gdK x37 true (fun kk => vK (v_eql x38 (.int .i64 (.ofNat 0))) fun v => kk v h39) h39 fun x40 h41 =>
  vK (v_pick x37 x40 (.bool false)) fun x42 =>
  bK x42
  (some ((.tup [(.int .i64 (.ofNat 4)), (.str [])]), h41))
  (vK (v_bld [(.int .i64 (.ofNat 0)), (.bool false), (.str [])] [(0, 1, r2), (1, 1, (.bool true))]) fun x43 =>
  n_bsl 1 3 [(.int .i64 (.ofNat 0)), (.bool false), (.str [])] [(0, 3, x43)] h41 fun x44 h45 =>
  wK (callK E 119 [x18, x13, x44] h45) fun x46 h47 =>
  vK (v_nilchk r0) fun x48 =>
  vK (v_fa 1 x48) fun x49 =>
  vK (v_ld h47.get x49) fun x50 =>
  vK (v_lenL x46) fun x51 =>
  vK (v_nilchk r0) fun x52 =>
  vK (v_fa 0 x52) fun x53 =>
  vK (v_ld h47.get x53) fun x54 =>
  vK (v_sub x51 x54) fun x55 =>
  vK (v_mx x55 (.int .i64 (.ofNat 0))) fun x56 =>
  vK (v_slL 3 x46 (some x56) none) fun x57 =>
  wK (dMup .int x50 r1 x57 h47) fun x58 h59 =>
  some ((.tup [(.int .i64 (.ofNat 1)), (.str [])]), h59)))))
def C78_0 : DC := (.seq (.reg [⟨(some p6), none, (.e (.mv (.c (.int .i64 (.ofNat 0)))))⟩, ⟨(some p7), none, (.e (.mv (.c (.str []))))⟩]) (.seq (.seq (.reg [⟨(some p11), none, (.e (.mv (.r p0)))⟩, ⟨(some p12), none, (.e (.eqv .ptr false (.r p11) (.c .nilp)))⟩, ⟨(some p13), none, (.e (.mv (.r p12)))⟩, ⟨(some p14), (some (p13, false)), (.e (.mv (.r p1)))⟩, ⟨(some p15), (some (p13, false)), (.e (.mv (.r p2)))⟩, ⟨(some p16), (some (p13, false)), (.c (.f 117 [(.r p14), (.r p15)]))⟩, ⟨(some p17), (some (p13, false)), (.e (.not (.r p16)))⟩, ⟨(some p18), none, (.e (.pick (.r p13) (.c (.bool true)) (.r p17)))⟩]) (.cond (.r p18) (.seq (.reg [⟨(some p6), none, (.e (.mv (.c (.int .i64 (.ofNat 0)))))⟩, ⟨(some p7), none, (.e (.mv (.c (.str []))))⟩]) .ret) .skip)) (.seq (.reg [⟨(some p20), none, (.e (.mv (.r p0)))⟩, ⟨(some p21), none, (.e (.mv (.r p1)))⟩, ⟨(some p22), none, (.e (.mv (.r p2)))⟩, ⟨(some p23), none, (.c (.f 118 [(.r p20), (.r p21), (.r p22)]))⟩, ⟨(some p19), none, (.e (.mv (.r p23)))⟩, ⟨(some p24), none, (.e (.ext 0 (.r p19)))⟩, ⟨(some p25), none, (.e (.ext 1 (.r p19)))⟩, ⟨(some p8), none, (.e (.mv (.r p24)))⟩, ⟨(some p9), none, (.e (.mv (.r p25)))⟩]) (.seq (.reg [⟨(some p26), none, (.e (.mv (.r p0)))⟩, ⟨(some p27), none, (.e (.nilchk (.r p26)))⟩, ⟨(some p28), none, (.e (.fa 1 (.r p27)))⟩, ⟨(some p29), none, (.e (.ld (.r p28)))⟩, ⟨(some p30), none, (.e (.mv (.r p1)))⟩, ⟨(some p31), none, (.e (.lkp .int .nils false (.r p29) (.r p30)))⟩, ⟨(some p10), none, (.e (.mv (.r p31)))⟩]) (.seq (.block 0 (.seq (.reg [⟨(some p33), none, (.e (.mv (.r p9)))⟩, ⟨(some p34), none, (.e (.mv (.r p33)))⟩, ⟨(some p35), (some (p34, true)), (.e (.mv (.r p10)))⟩, ⟨(some p36), (some (p34, true)), (.e (.mv (.r p8)))⟩, ⟨(some p37), (some (p34, true)), (.e (.iaS 3 (.r p35) (.r p36)))⟩, ⟨(some p38), (some (p34, true)), (.e (.fa 1 (.r p37)))⟩, ⟨(some p39), (some (p34, true)), (.e (.ld (.r p38)))⟩, ⟨(some p40), none, (.e (.pick (.r p34) (.r p39) (.c (.bool false))))⟩, ⟨(some p32), none, (.e (.mv (.r p40)))⟩]) (.cond (.r p32) (.seq (.reg [⟨(some p6), none, (.e (.mv (.c (.int .i64 (.ofNat 3)))))⟩, ⟨(some p7), none, (.e (.mv (.c (.str []))))⟩]) .ret) (.seq (.reg [⟨(some p42), none, (.e (.mv (.r p9)))⟩, ⟨(some p41), none, (.e (.mv (.r p42)))⟩]) (.cond (.r p41) (.seq (.drg [⟨0, ⟨(some p43), none, (.e (.mv (.r p10)))⟩, [], false⟩, ⟨1, ⟨(some p44), none, (.e (.mv (.r p8)))⟩, [], false⟩, ⟨2, ⟨(some p45), none, (.e (.iaS 3 (.r p43) (.r p44)))⟩, [], false⟩, ⟨3, ⟨(some p46), none, (.e (.fa 2 (.r p45)))⟩, [], false⟩, ⟨4, ⟨(some p47), none, (.e (.ld (.r p46)))⟩, [], false⟩, ⟨5, ⟨(some p6), none, (.e (.mv (.c (.int .i64 (.ofNat 2)))))⟩, [], false⟩, ⟨6, ⟨(some p7), none, (.e (.mv (.r p47)))⟩, [], false⟩]) .ret) (.seq (.reg [⟨(some p49), none, (.e (.mv (.r p10)))⟩, ⟨(some p50), none, (.e (.lenL (.r p49)))⟩, ⟨(some p51), none, (.e (.mv (.r p0)))⟩, ⟨(some p52), none, (.e (.nilchk (.r p51)))⟩, ⟨(some p53), none, (.e (.fa 0 (.r p52)))⟩, ⟨(some p54), none, (.e (.ld (.r p53)))⟩, ⟨(some p55), none, (.e (.bin .eql (.r p50) (.r p54)))⟩, ⟨(some p56), none, (.e (.mv (.r p55)))⟩, ⟨(some p57), (some (p56, true)), (.e (.mv (.r p8)))⟩, ⟨(some p58), (some (p56, true)), (.e (.bin .eql (.r p57) (.c (.int .i64 (.ofNat 0)))))⟩, ⟨(some p59), none, (.e (.pick (.r p56) (.r p58) (.c (.bool false))))⟩, ⟨(some p48), none, (.e (.mv (.r p59)))⟩]) (.cond (.r p48) (.seq (.reg [⟨(some p6), none, (.e (.mv (.c (.int .i64 (.ofNat 4)))))⟩, ⟨(some p7), none, (.e (.mv (.c (.str []))))⟩]) .ret) .skip))))))) (.seq (.reg [⟨(some p60), none, (.e (.mv (.r p10)))⟩, ⟨(some p61), none, (.e (.mv (.r p8)))⟩, ⟨(some p62), none, (.e (.mv (.r p2)))⟩, ⟨(some p63), none, (.e (.bld [(.int .i64 (.ofNat 0)), (.bool false), (.str [])] [(0, 1, (.r p62)), (1, 1, (.c (.bool true)))]))⟩, ⟨(some p64), none, (.e (.bsl 1 3 [(.int .i64 (.ofNat 0)), (.bool false), (.str [])] [(0, 3, (.r p63))]))⟩, ⟨(some p65), none, (.c (.f 119 [(.r p60), (.r p61), (.r p64)]))⟩, ⟨(some p10), none, (.e (.mv (.r p65)))⟩]) (.seq (.drg [⟨0, ⟨(some p66), none, (.e (.mv (.r p0)))⟩, [], false⟩, ⟨1, ⟨(some p67), none, (.e (.nilchk (.r p66)))⟩, [], false⟩, ⟨2, ⟨(some p68), none, (.e (.fa 1 (.r p67)))⟩, [], false⟩, ⟨3, ⟨(some p69), none, (.e (.ld (.r p68)))⟩, [], false⟩, ⟨4, ⟨(some p70), none, (.e (.mv (.r p1)))⟩, [], false⟩, ⟨5, ⟨(some p71), none, (.e (.mv (.r p10)))⟩, [], false⟩, ⟨6, ⟨(some p72), none, (.e (.mv (.r p10)))⟩, [], false⟩, ⟨7, ⟨(some p73), none, (.e (.lenL (.r p72)))⟩, [], false⟩, ⟨8, ⟨(some p74), none, (.e (.mv (.r p0)))⟩, [], false⟩, ⟨9, ⟨(some p75), none, (.e (.nilchk (.r p74)))⟩, [], false⟩, ⟨10, ⟨(some p76), none, (.e (.fa 0 (.r p75)))⟩, [], false⟩, ⟨11, ⟨(some p77), none, (.e (.ld (.r p76)))⟩, [], false⟩, ⟨12, ⟨(some p78), none, (.e (.bin .sub (.r p73) (.r p77)))⟩, [], false⟩, ⟨13, ⟨(some p79), none, (.e (.mx (.r p78) (.c (.int .i64 (.ofNat 0)))))⟩, [], false⟩, ⟨14, ⟨(some p80), none, (.e (.slL 3 (.r p71) (some (.r p79)) none))⟩, [], false⟩, ⟨15, ⟨none, none, (.w (.mup .int (.r p69) (.r p70) (.r p80)))⟩, [], false⟩]) (.seq (.reg [⟨(some p6), none, (.e (.mv (.c (.int .i64 (.ofNat 1)))))⟩, ⟨(some p7), none, (.e (.mv (.c (.str []))))⟩]) .ret))))))))
theorem I78_0 (E : Env) : Is E C78_0 (retK3 R78) (fun σ h => J78_0 E (σ p0) (σ p1) (σ p2) h) :=
  fun σ h => by kernel_rfl
def D78 : DF := ⟨3, 81, C78_0, R78⟩
noncomputable def S78 (E : Env) : Fun := fun args h => aS args fun r0 args => aS args fun r1 args => aS args fun r2 args => a0 args (J78_0 E r0 r1 r2 h)
theorem S78_eq (E : Env) (args : List DV) (h : H) : runFn E D78 args h = S78 E args h :=
  Is.fn3 (d := D78) (I78_0 E) rfl (fun r0 r1 r2 h => J78_0 E r0 r1 r2 h) (fun r0 r1 r2 h => by kernel_rfl) args h
/- hurdle/manager.does -/
def R79 : List RV := [(.r p2)]
noncomputable def J79_0 (E : Env) (r0 : DV) (h : H) : Ans :=
  vK (v_eql r0 (.int .i64 (.ofNat 1))) fun x1 =>
  bK x1
  (some ((.fn (.func 120) [] []), h))
  (vK (v_eql r0 (.int .i64 (.ofNat 2))) fun x2 =>
  bK x2
  (some ((.fn (.func 121) [] []), h))
  (vK (v_eql r0 (.int .i64 (.ofNat 3))) fun x3 =>
  bK x3
  (some ((.fn (.func 122) [] []), h))
  (vK (v_eql r0 (.int .i64 (.ofNat 4))) fun x4 =>
  bK x4
  (some ((.fn (.func 123) [] []), h))
  (vK (v_eql r0 (.int .i64 (.ofNat 5))) fun x5 =>
  bK x5
  (some ((.fn (.func 124) [] []), h))
  (vK (v_eql r0 (.int .i64 (.ofNat 6))) fun x6 =>
  bK x6
  (some ((.fn (.func 125) [] []), h))
  (vK (v_eql r0 (.int .i64 (.ofNat 7))) fun x7 =>
  bK x7
  (some ((.fn (.func 126) [] []), h))
  (vK (v_eql r0 (.int .i64 (.ofNat 8))) fun x8 =>
  bK x8
  (some ((.fn (.func 127) [] []), h))
  (some ((.fn (.func 128) [] []), h)))))))))
def C79_0 : DC := (.seq (.reg [⟨(some p2), none, (.e (.mv (.c .nilf)))⟩]) (.seq (.seq (.reg [⟨(some p3), none, (.e (.mv (.r p0)))⟩]) (.block 0 (.seq (.reg [⟨(some p5), none, (.e (.bin .eql (.r p3) (.c (.int .i64 (.ofNat 1)))))⟩, ⟨(some p4), none, (.e (.mv (.r p5)))⟩]) (.cond (.r p4) (.seq (.reg [⟨(some p2), none, (.e (.mv (.c (.fn (.func 120) [] []))))⟩]) .ret) (.seq (.reg [⟨(some p7), none, (.e (.bin .eql (.r p3) (.c (.int .i64 (.ofNat 2)))))⟩, ⟨(some p6), none, (.e (.mv (.r p7)))⟩]) (.cond (.r p6) (.seq (.reg [⟨(some p2), none, (.e (.mv (.c (.fn (.func 121) [] []))))⟩]) .ret) (.seq (.reg [⟨(some p9), none, (.e (.bin .eql (.r p3) (.c (.int .i64 (.ofNat 3)))))⟩, ⟨(some p8), none, (.e (.mv (.r p9)))⟩]) (.cond (.r p8) (.seq (.reg [⟨(some p2), none, (.e (.mv (.c (.fn (.func 122) [] []))))⟩]) .ret) (.seq (.reg [⟨(some p11), none, (.e (.bin .eql (.r p3) (.c (.int .i64 (.ofNat 4)))))⟩, ⟨(some p10), none, (.e (.mv (.r p11)))⟩]) (.cond (.r p10) (.seq (.reg [⟨(some p2), none, (.e (.mv (.c (.fn (.func 123) [] []))))⟩]) .ret) (.seq (.reg [⟨(some p13), none, (.e (.bin .eql (.r p3) (.c (.int .i64 (.ofNat 5)))))⟩, ⟨(some p12), none, (.e (.mv (.r p13)))⟩]) (.cond (.r p12) (.seq (.reg [⟨(some p2), none, (.e (.mv (.c (.fn (.func 124) [] []))))⟩]) .ret) (.seq (.reg [⟨(some p15), none, (.e (.bin .eql (.r p3) (.c (.int .i64 (.ofNat 6)))))⟩, ⟨(some p14), none, (.e (.mv (.r p15)))⟩]) (.cond (.r p14) (.seq (.reg [⟨(some p2), none, (.e (.mv (.c (.fn (.func 125) [] []))))⟩]) .ret) (.seq (.reg [⟨(some p17), none, (.e (.bin .eql (.r p3) (.c (.int .i64 (.ofNat 7)))))⟩, ⟨(some p16), none, (.e (.mv (.r p17)))⟩]) (.cond (.r p16) (.seq (.reg [⟨(some p2), none, (.e (.mv (.c (.fn (.func 126) [] []))))⟩]) .ret) (.seq (.reg [⟨(some p19), none, (.e (.bin .eql (.r p3) (.c (.int .i64 (.ofNat 8)))))⟩, ⟨(some p18), none, (.e (.mv (.r p19)))⟩]) (.cond (.r p18) (.seq (.reg [⟨(some p2), none, (.e (.mv (.c (.fn (.func 127) [] []))))⟩]) .ret) .skip)))))))))))))))))) (.seq (.reg [⟨(some p2), none, (.e (.mv (.c (.fn (.func 128) [] []))))⟩]) .ret)))
theorem I79_0 (E : Env) : Is E C79_0 (retK3 R79) (fun σ h => J79_0 E (σ p0) h) :=
  fun σ h => by kernel_rfl
def D79 : DF := ⟨1, 20, C79_0, R79⟩
noncomputable def S79 (E : Env) : Fun := fun args h => aS args fun r0 args => a0 args (J79_0 E r0 h)
theorem S79_eq (E : Env) (args : List DV) (h : H) : runFn E D79 args h = S79 E args h :=
  Is.fn1 (d := D79) (I79_0 E) rfl (fun r0 h => J79_0 E r0 h) (fun r0 h => by kernel_rfl) args h
/- (*hurdle/replies.Replies).Put -/
def R80 : List RV := [(.r p8)]
noncomputable def J80_0 (E : Env) (r0 r1 r2 r3 : DV) (h : H) : Ans :=
  vK (v_eqv .ptr false h.get r0 .nilp) fun x1 =>
  gdK x1 false (fun kk => kk r1 h) h fun x2 h3 =>
  gdK x1 false (fun kk => kk r2 h3) h3 fun x4 h5 =>
  gdK x1 false (fun kk => wK (callK E 117 [x2, x4] h5) kk) h5 fun x6 h7 =>
  gdK x1 false (fun kk => vK (v_not x6) fun v => kk v h7) h7 fun x8 h9 =>
  vK (v_pick x1 (.bool true) x8) fun x10 =>
  gdK x10 false (fun kk => kk r3 h9) h9 fun x11 h12 =>
  gdK x10 false (fun kk => vK (v_lenS x11) fun v => kk v h12) h12 fun x13 h14 =>
  gdK x10 false (fun kk => vK (v_gtr x13 (.int .i64 (.ofNat 4096))) fun v => kk v h14) h14 fun x15 h16 =>
  vK (v_pick x10 (.bool true) x15) fun x17 =>
  bK x17
  (some ((.bool false), h16))
  (wK (callK E 118 [r0, r1, r2] h16) fun x18 h19 =>
  vK (v_ext 0 x18) fun x20 =>
  vK (v_ext 1 x18) fun x21 =>
  vK (v_not x21) fun x22 =>
  gdK x22 false (fun kk => kk r0 h19) h19 fun x23 h24 =>
  gdK x22 false (fun kk => vK (v_nilchk x23) fun v => kk v h24) h24 fun x25 h26 =>
  gdK x22 false (fun kk => vK (v_fa 1 x25) fun v => kk v h26) h26 fun x27 h28 =>
  gdK x22 false (fun kk => vK (v_ld h28.get x27) fun v => kk v h28) h28 fun x29 h30 =>
  gdK x22 false (fun kk => kk r1 h30) h30 fun x31 h32 =>
  gdK x22 false (fun kk => vK (v_lkp .int .nils false h32.get x29 x31) fun v => kk v h32) h32 fun x33 h34 =>
  gdK x22 false (fun kk => kk x20 h34) h34 fun x35 h36 =>
  gdK x22 false (fun kk => vK (v_iaS 3 x33 x35) fun v => kk v h36) h36 fun x37 h38 =>
  gdK x22 false (fun kk => vK (v_fa 1 x37) fun v => kk v h38) h38 fun x39 h40 =>
  gdK x22 false (fun kk => vK (v_ld h40.get x39) fun v => kk v h40) h40 fun x41 h42 =>
  gdK x22 false (fun kk => vK (v_not x41) fun v => kk v h42) h42 fun x43 h44 =>
  vK (v_pick x22 (.bool true) x43) fun x45 =>
  bK x45
  (some ((.bool false), h44))
  (vK (v_nilchk r0) fun x46 =>
  vK (v_fa 1 x46) fun x47 =>
  vK (v_ld h44.get x47) fun x48 =>
  vK (v_lkp .int .nils false h44.get x48 r1) fun x49 =>
  vK (v_bld [(.int .i64 (.ofNat 0)), (.bool false), (.str [])] [(0, 1, r2), (2, 1, r3)]) fun x50 =>
  vK (v_iaS 3 x49 x20) fun x51 =>
  wK (dStF 3 x51 x50 h44) fun x52 h53 =>
  some ((.bool true), h53)))
def C80_0 : DC := (.seq (.reg [⟨(some p8), none, (.e (.mv (.c (.bool false))))⟩]) (.seq (.seq (.reg [⟨(some p11), none, (.e (.mv (.r p0)))⟩, ⟨(some p12), none, (.e (.eqv .ptr false (.r p11) (.c .nilp)))⟩, ⟨(some p13), none, (.e (.mv (.r p12)))⟩, ⟨(some p14), (some (p13, false)), (.e (.mv (.r p1)))⟩, ⟨(some p15), (some (p13, false)), (.e (.mv (.r p2)))⟩, ⟨(some p16), (some (p13, false)), (.c (.f 117 [(.r p14), (.r p15)]))⟩, ⟨(some p17), (some (p13, false)), (.e (.not (.r p16)))⟩, ⟨(some p18), none, (.e (.pick (.r p13) (.c (.bool true)) (.r p17)))⟩, ⟨(some p19), none, (.e (.mv (.r p18)))⟩, ⟨(some p20), (some (p19, false)), (.e (.mv (.r p3)))⟩, ⟨(some p21), (some (p19, false)), (.e (.lenS (.r p20)))⟩, ⟨(some p22), (some (p19, false)), (.e (.bin .gtr (.r p21) (.c (.int .i64 (.ofNat 4096)))))⟩, ⟨(some p23), none, (.e (.pick (.r p19) (.c (.bool true)) (.r p22)))⟩]) (.cond (.r p23) (.seq (.reg [⟨(some p8), none, (.e (.mv (.c (.bool false))))⟩]) .ret) .skip)) (.seq (.reg [⟨(some p25), none, (.e (.mv (.r p0)))⟩, ⟨(some p26), none, (.e (.mv (.r p1)))⟩, ⟨(some p27), none, (.e (.mv (.r p2)))⟩, ⟨(some p28), none, (.c (.f 118 [(.r p25), (.r p26), (.r p27)]))⟩, ⟨(some p24), none, (.e (.mv (.r p28)))⟩, ⟨(some p29), none, (.e (.ext 0 (.r p24)))⟩, ⟨(some p30), none, (.e (.ext 1 (.r p24)))⟩, ⟨(some p9), none, (.e (.mv (.r p29)))⟩, ⟨(some p10), none, (.e (.mv (.r p30)))⟩]) (.seq (.seq (.reg [⟨(some p31), none, (.e (.mv (.r p10)))⟩, ⟨(some p32), none, (.e (.not (.r p31)))⟩, ⟨(some p33), none, (.e (.mv (.r p32)))⟩, ⟨(some p34), (some (p33, false)), (.e (.mv (.r p0)))⟩, ⟨(some p35), (some (p33, false)), (.e (.nilchk (.r p34)))⟩, ⟨(some p36), (some (p33, false)), (.e (.fa 1 (.r p35)))⟩, ⟨(some p37), (some (p33, false)), (.e (.ld (.r p36)))⟩, ⟨(some p38), (some (p33, false)), (.e (.mv (.r p1)))⟩, ⟨(some p39), (some (p33, false)), (.e (.lkp .int .nils false (.r p37) (.r p38)))⟩, ⟨(some p40), (some (p33, false)), (.e (.mv (.r p9)))⟩, ⟨(some p41), (some (p33, false)), (.e (.iaS 3 (.r p39) (.r p40)))⟩, ⟨(some p42), (some (p33, false)), (.e (.fa 1 (.r p41)))⟩, ⟨(some p43), (some (p33, false)), (.e (.ld (.r p42)))⟩, ⟨(some p44), (some (p33, false)), (.e (.not (.r p43)))⟩, ⟨(some p45), none, (.e (.pick (.r p33) (.c (.bool true)) (.r p44)))⟩]) (.cond (.r p45) (.seq (.reg [⟨(some p8), none, (.e (.mv (.c (.bool false))))⟩]) .ret) .skip)) (.seq (.reg [⟨(some p46), none, (.e (.mv (.r p0)))⟩, ⟨(some p47), none, (.e (.nilchk (.r p46)))⟩, ⟨(some p48), none, (.e (.fa 1 (.r p47)))⟩, ⟨(some p49), none, (.e (.ld (.r p48)))⟩, ⟨(some p50), none, (.e (.mv (.r p1)))⟩, ⟨(some p51), none, (.e (.lkp .int .nils false (.r p49) (.r p50)))⟩, ⟨(some p52), none, (.e (.mv (.r p9)))⟩, ⟨(some p53), none, (.e (.mv (.r p2)))⟩, ⟨(some p54), none, (.e (.mv (.r p3)))⟩, ⟨(some p55), none, (.e (.bld [(.int .i64 (.ofNat 0)), (.bool false), (.str [])] [(0, 1, (.r p53)), (2, 1, (.r p54))]))⟩, ⟨(some p56), none, (.e (.iaS 3 (.r p51) (.r p52)))⟩, ⟨none, none, (.w (.st 3 (.r p56) (.r p55)))⟩]) (.seq (.reg [⟨(some p8), none, (.e (.mv (.c (.bool true))))⟩]) .ret))))))
theorem I80_0 (E : Env) : Is E C80_0 (retK3 R80) (fun σ h => J80_0 E (σ p0) (σ p1) (σ p2) (σ p3) h) :=
  fun σ h => by kernel_rfl
def D80 : DF := ⟨4, 57, C80_0, R80⟩
noncomputable def S80 (E : Env) : Fun := fun args h => aS args fun r0 args => aS args fun r1 args => aS args fun r2 args => aS args fun r3 args => a0 args (J80_0 E r0 r1 r2 r3 h)
theorem S80_eq (E : Env) (args : List DV) (h : H) : runFn E D80 args h = S80 E args h :=
  Is.fn4 (d := D80) (I80_0 E) rfl (fun r0 r1 r2 r3 h => J80_0 E r0 r1 r2 r3 h) (fun r0 r1 r2 r3 h => by kernel_rfl) args h
/- hurdle/bytes.Cut -/
def R81 : List RV := [(.r p4), (.r p5)]
noncomputable def J81_3 (E : Env) (r6 : DV) (h : H) : Ans :=
  some ((.tup [r6, (.int .i64 (.ofNat 0))]), h)
def C81_3 : DC := (.seq (.reg [⟨(some p38), none, (.e (.mv (.r p6)))⟩, ⟨(some p4), none, (.e (.mv (.r p38)))⟩, ⟨(some p5), none, (.e (.mv (.c (.int .i64 (.ofNat 0)))))⟩]) .ret)
noncomputable def J81_1 (E : Env) (r0 r1 r6 : DV) (h : H) : Ans :=
  vK (v_neq r0 (.str [])) fun x1 =>
  bK x1
  (vK (v_lenS r0) fun x2 =>
  vK (v_sub r1 x2) fun x3 =>
  wK (callK E 129 [x3] h) fun x4 h5 =>
  vK (v_add r0 x4) fun x6 =>
  n_bsl 1 1 [(.str [])] [(0, 1, x6)] h5 fun x7 h8 =>
  wK (dAppendF 1 16 r6 x7 h8) fun x9 h10 =>
  J81_3 E x9 h10)
  (J81_3 E r6 h)
def C81_1 : DC := (.seq (.seq (.reg [⟨(some p26), none, (.e (.mv (.r p0)))⟩, ⟨(some p27), none, (.e (.bin .neq (.r p26) (.c (.str []))))⟩]) (.cond (.r p27) (.reg [⟨(some p28), none, (.e (.mv (.r p6)))⟩, ⟨(some p29), none, (.e (.mv (.r p0)))⟩, ⟨(some p30), none, (.e (.mv (.r p1)))⟩, ⟨(some p31), none, (.e (.mv (.r p0)))⟩, ⟨(some p32), none, (.e (.lenS (.r p31)))⟩, ⟨(some p33), none, (.e (.bin .sub (.r p30) (.r p32)))⟩, ⟨(some p34), none, (.c (.f 129 [(.r p33)]))⟩, ⟨(some p35), none, (.e (.bin .add (.r p29) (.r p34)))⟩, ⟨(some p36), none, (.e (.bsl 1 1 [(.str [])] [(0, 1, (.r p35))]))⟩, ⟨(some p37), none, (.w (.app 1 16 (.r p28) (.r p36)))⟩, ⟨(some p6), none, (.e (.mv (.r p37)))⟩]) .skip)) C81_3)
noncomputable def B81_2 (E : Env) (r1 : DV) (i2 : DV → DV → H → Ans) (r0 r6 : DV) (h : H) : Ans :=
  vK (v_lenS r0) fun x1 =>
  vK (v_gtr x1 r1) fun x2 =>
  bK x2
  (vK (v_slS r0 none (some r1)) fun x3 =>
  n_bsl 1 1 [(.str [])] [(0, 1, x3)] h fun x4 h5 =>
  wK (dAppendF 1 16 r6 x4 h5) fun x6 h7 =>
  vK (v_slS r0 (some r1) none) fun x8 =>
  i2 x8 x6 h7)
  (J81_1 E r0 r1 r6 h)
noncomputable def L81_2 (E : Env) (r1 : DV) (n : Nat) : DV → DV → H → Ans := Nat.rec (motive := fun _ => DV → DV → H → Ans) (fun _ _ _ => none) (fun _ i => B81_2 E r1 i) n
def C81_2 : DC := (.loop (.seq (.seq (.reg [⟨(some p13), none, (.e (.mv (.r p0)))⟩, ⟨(some p14), none, (.e (.lenS (.r p13)))⟩, ⟨(some p15), none, (.e (.mv (.r p1)))⟩, ⟨(some p16), none, (.e (.bin .gtr (.r p14) (.r p15)))⟩]) (.cond (.r p16) .skip (.exit 0))) (.seq (.block 1 (.reg [⟨(some p20), none, (.e (.mv (.r p6)))⟩, ⟨(some p21), none, (.e (.mv (.r p0)))⟩, ⟨(some p22), none, (.e (.mv (.r p1)))⟩, ⟨(some p23), none, (.e (.slS (.r p21) none (some (.r p22))))⟩, ⟨(some p24), none, (.e (.bsl 1 1 [(.str [])] [(0, 1, (.r p23))]))⟩, ⟨(some p25), none, (.w (.app 1 16 (.r p20) (.r p24)))⟩, ⟨(some p6), none, (.e (.mv (.r p25)))⟩])) (.reg [⟨(some p17), none, (.e (.mv (.r p0)))⟩, ⟨(some p18), none, (.e (.mv (.r p1)))⟩, ⟨(some p19), none, (.e (.slS (.r p17) (some (.r p18)) none))⟩, ⟨(some p0), none, (.e (.mv (.r p19)))⟩]))))
noncomputable def J81_0 (E : Env) (r0 r1 : DV) (h : H) : Ans :=
  vK (v_lss r1 (.int .i64 (.ofNat 1))) fun x1 =>
  gdK x1 false (fun kk => kk r1 h) h fun x2 h3 =>
  gdK x1 false (fun kk => vK (v_gtr x2 (.int .i64 (.ofNat 65536))) fun v => kk v h3) h3 fun x4 h5 =>
  vK (v_pick x1 (.bool true) x4) fun x6 =>
  bK x6
  (some ((.tup [.nils, (.int .i64 (.ofNat 1))]), h5))
  (L81_2 E r1 FUEL r0 .nils h5)
def C81_0 : DC := (.seq (.reg [⟨(some p4), none, (.e (.mv (.c .nils)))⟩, ⟨(some p5), none, (.e (.mv (.c (.int .i64 (.ofNat 0)))))⟩]) (.seq (.seq (.reg [⟨(some p7), none, (.e (.mv (.r p1)))⟩, ⟨(some p8), none, (.e (.bin .lss (.r p7) (.c (.int .i64 (.ofNat 1)))))⟩, ⟨(some p9), none, (.e (.mv (.r p8)))⟩, ⟨(some p10), (some (p9, false)), (.e (.mv (.r p1)))⟩, ⟨(some p11), (some (p9, false)), (.e (.bin .gtr (.r p10) (.c (.int .i64 (.ofNat 65536)))))⟩, ⟨(some p12), none, (.e (.pick (.r p9) (.c (.bool true)) (.r p11)))⟩]) (.cond (.r p12) (.seq (.reg [⟨(some p4), none, (.e (.mv (.c .nils)))⟩, ⟨(some p5), none, (.e (.mv (.c (.int .i64 (.ofNat 1)))))⟩]) .ret) .skip)) (.seq (.reg [⟨(some p6), none, (.e (.mv (.c .nils)))⟩]) (.seq (.block 0 C81_2) C81_1))))
theorem I81_3 (E : Env) : Is E C81_3 (retK3 R81) (fun σ h => J81_3 E (σ p6) h) :=
  fun σ h => by kernel_rfl
theorem I81_1 (E : Env) : Is E C81_1 (retK3 R81) (fun σ h => J81_1 E (σ p0) (σ p1) (σ p6) h) :=
  Is.as (Is.seq (I81_3 E) (Is.leaf _)) fun σ h => by kernel_rfl
noncomputable abbrev K81_4 (E : Env) : KT2 (DV × H) := (thenK3 (fun σ h => J81_1 E (σ p0) (σ p1) (σ p6) h) (retK3 R81))
theorem I81_2 (E : Env) : Is E C81_2 (blockK3 0 (K81_4 E)) (fun σ h => L81_2 E (σ p1) FUEL (σ p0) (σ p6) h) :=
  Is.loop (fun n2 σ h => L81_2 E (σ p1) n2 (σ p0) (σ p6) h) (by kernel_rfl) fun n2 => Is.as (Is.leaf _) fun σ h => by kernel_rfl
theorem I81_0 (E : Env) : Is E C81_0 (retK3 R81) (fun σ h => J81_0 E (σ p0) (σ p1) h) :=
  Is.as (Is.seq (Is.seq (Is.seq (Is.seq (I81_1 E) (Is.block (I81_2 E))) (Is.leaf _)) (Is.leaf _)) (Is.leaf _)) fun σ h => by kernel_rfl
def D81 : DF := ⟨2, 39, C81_0, R81⟩
noncomputable def S81 (E : Env) : Fun := fun args h => aS args fun r0 args => aS args fun r1 args => a0 args (J81_0 E r0 r1 h)
theorem S81_eq (E : Env) (args : List DV) (h : H) : runFn E D81 args h = S81 E args h :=
  Is.fn2 (d := D81) (I81_0 E) rfl (fun r0 r1 h => J81_0 E r0 r1 h) (fun r0 r1 h => by kernel_rfl) args h
/- hurdle/bytes.Pad -/
def R82 : List RV := [(.r p4), (.r p5)]
noncomputable def J82_0 (E : Env) (r0 r1 : DV) (h : H) : Ans :=
  vK (v_lss r1 (.int .i64 (.ofNat 0))) fun x1 =>
  gdK x1 false (fun kk => kk r1 h) h fun x2 h3 =>
  gdK x1 false (fun kk => vK (v_gtr x2 (.int .i64 (.ofNat 65536))) fun v => kk v h3) h3 fun x4 h5 =>
  vK (v_pick x1 (.bool true) x4) fun x6 =>
  bK x6
  (some ((.tup [(.str []), (.int .i64 (.ofNat 1))]), h5))
  (vK (v_lenS r0) fun x7 =>
  vK (v_gtr x7 r1) fun x8 =>
  bK x8
  (some ((.tup [(.str []), (.int .i64 (.ofNat 2))]), h5))
  (vK (v_lenS r0) fun x9 =>
  vK (v_sub r1 x9) fun x10 =>
  wK (callK E 129 [x10] h5) fun x11 h12 =>
  vK (v_add r0 x11) fun x13 =>
  some ((.tup [x13, (.int .i64 (.ofNat 0))]), h12)))
def C82_0 : DC := (.seq (.reg [⟨(some p4), none, (.e (.mv (.c (.str []))))⟩, ⟨(some p5), none, (.e (.mv (.c (.int .i64 (.ofNat 0)))))⟩]) (.seq (.block 0 (.seq (.reg [⟨(some p7), none, (.e (.mv (.r p1)))⟩, ⟨(some p8), none, (.e (.bin .lss (.r p7) (.c (.int .i64 (.ofNat 0)))))⟩, ⟨(some p9), none, (.e (.mv (.r p8)))⟩, ⟨(some p10), (some (p9, false)), (.e (.mv (.r p1)))⟩, ⟨(some p11), (some (p9, false)), (.e (.bin .gtr (.r p10) (.c (.int .i64 (.ofNat 65536)))))⟩, ⟨(some p12), none, (.e (.pick (.r p9) (.c (.bool true)) (.r p11)))⟩, ⟨(some p6), none, (.e (.mv (.r p12)))⟩]) (.cond (.r p6) (.seq (.reg [⟨(some p4), none, (.e (.mv (.c (.str []))))⟩, ⟨(some p5), none, (.e (.mv (.c (.int .i64 (.ofNat 1)))))⟩]) .ret) (.seq (.reg [⟨(some p14), none, (.e (.mv (.r p0)))⟩, ⟨(some p15), none, (.e (.lenS (.r p14)))⟩, ⟨(some p16), none, (.e (.mv (.r p1)))⟩, ⟨(some p17), none, (.e (.bin .gtr (.r p15) (.r p16)))⟩, ⟨(some p13), none, (.e (.mv (.r p17)))⟩]) (.cond (.r p13) (.seq (.reg [⟨(some p4), none, (.e (.mv (.c (.str []))))⟩, ⟨(some p5), none, (.e (.mv (.c (.int .i64 (.ofNat 2)))))⟩]) .ret) .skip))))) (.seq (.reg [⟨(some p18), none, (.e (.mv (.r p0)))⟩, ⟨(some p19), none, (.e (.mv (.r p1)))⟩, ⟨(some p20), none, (.e (.mv (.r p0)))⟩, ⟨(some p21), none, (.e (.lenS (.r p20)))⟩, ⟨(some p22), none, (.e (.bin .sub (.r p19) (.r p21)))⟩, ⟨(some p23), none, (.c (.f 129 [(.r p22)]))⟩, ⟨(some p24), none, (.e (.bin .add (.r p18) (.r p23)))⟩, ⟨(some p4), none, (.e (.mv (.r p24)))⟩, ⟨(some p5), none, (.e (.mv (.c (.int .i64 (.ofNat 0)))))⟩]) .ret)))
theorem I82_0 (E : Env) : Is E C82_0 (retK3 R82) (fun σ h => J82_0 E (σ p0) (σ p1) h) :=
  fun σ h => by kernel_rfl
def D82 : DF := ⟨2, 25, C82_0, R82⟩
noncomputable def S82 (E : Env) : Fun := fun args h => aS args fun r0 args => aS args fun r1 args => a0 args (J82_0 E r0 r1 h)
theorem S82_eq (E : Env) (args : List DV) (h : H) : runFn E D82 args h = S82 E args h :=
  Is.fn2 (d := D82) (I82_0 E) rfl (fun r0 r1 h => J82_0 E r0 r1 h) (fun r0 r1 h => by kernel_rfl) args h
/- (*hurdle/parity.sum).text -/
def R83 : List RV := [(.r p2)]
noncomputable def J83_0 (E : Env) (r0 : DV) (h : H) : Ans :=
  vK (v_nilchk r0) fun x1 =>
  vK (v_fa 0 x1) fun x2 =>
  vK (v_nilchk r0) fun x3 =>
  vK (v_fa 512 x3) fun x4 =>
  vK (v_ld h.get x4) fun x5 =>
  vK (v_slA 512 1 x2 none (some x5)) fun x6 =>
  vK (v_b2s h.get x6) fun x7 =>
  some (x7, h)
def C83_0 : DC := (.seq (.reg [⟨(some p2), none, (.e (.mv (.c (.str []))))⟩]) (.seq (.drg [⟨0, ⟨(some p3), none, (.e (.mv (.r p0)))⟩, [], false⟩, ⟨1, ⟨(some p4), none, (.e (.nilchk (.r p3)))⟩, [], false⟩, ⟨2, ⟨(some p5), none, (.e (.fa 0 (.r p4)))⟩, [], false⟩, ⟨3, ⟨(some p6), none, (.e (.mv (.r p0)))⟩, [], false⟩, ⟨4, ⟨(some p7), none, (.e (.nilchk (.r p6)))⟩, [], false⟩, ⟨5, ⟨(some p8), none, (.e (.fa 512 (.r p7)))⟩, [], false⟩, ⟨6, ⟨(some p9), none, (.e (.ld (.r p8)))⟩, [], false⟩, ⟨7, ⟨(some p10), none, (.e (.slA 512 1 (.r p5) none (some (.r p9))))⟩, [], false⟩, ⟨8, ⟨(some p11), none, (.e (.b2s (.r p10)))⟩, [], false⟩, ⟨9, ⟨(some p2), none, (.e (.mv (.r p11)))⟩, [], false⟩]) .ret))
theorem I83_0 (E : Env) : Is E C83_0 (retK3 R83) (fun σ h => J83_0 E (σ p0) h) :=
  fun σ h => by kernel_rfl
def D83 : DF := ⟨1, 12, C83_0, R83⟩
noncomputable def S83 (E : Env) : Fun := fun args h => aS args fun r0 args => a0 args (J83_0 E r0 h)
theorem S83_eq (E : Env) (args : List DV) (h : H) : runFn E D83 args h = S83 E args h :=
  Is.fn1 (d := D83) (I83_0 E) rfl (fun r0 h => J83_0 E r0 h) (fun r0 h => by kernel_rfl) args h
/- hurdle/layout.Server -/
def R84 : List RV := [(.r p6), (.r p7)]
noncomputable def J84_0 (E : Env) (r0 r1 r2 : DV) (h : H) : Ans :=
  wK (callK E 105 [r0, r1] h) fun x1 h2 =>
  vK (v_ext 0 x1) fun x3 =>
  vK (v_ext 1 x1) fun x4 =>
  vK (v_neq x4 (.int .i64 (.ofNat 0))) fun x5 =>
  gdK x5 false (fun kk => kk r2 h2) h2 fun x6 h7 =>
  gdK x5 false (fun kk => vK (v_lss x6 (.int .i64 (.ofNat 0))) fun v => kk v h7) h7 fun x8 h9 =>
  vK (v_pick x5 (.bool true) x8) fun x10 =>
  gdK x10 false (fun kk => kk r2 h9) h9 fun x11 h12 =>
  gdK x10 false (fun kk => kk x3 h12) h12 fun x13 h14 =>
  gdK x10 false (fun kk => vK (v_lenL x13) fun v => kk v h14) h14 fun x15 h16 =>
  gdK x10 false (fun kk => vK (v_geq x11 x15) fun v => kk v h16) h16 fun x17 h18 =>
  vK (v_pick x10 (.bool true) x17) fun x19 =>
  bK x19
  (some ((.tup [(.int .i64 (.ofNat 0)), (.int .i64 (.ofNat 1))]), h18))
  (vK (v_iaS 1 x3 r2) fun x20 =>
  vK (v_ld h18.get x20) fun x21 =>
  some ((.tup [x21, (.int .i64 (.ofNat 0))]), h18))
def C84_0 : DC := (.seq (.reg [⟨(some p6), none, (.e (.mv (.c (.int .i64 (.ofNat 0)))))⟩, ⟨(some p7), none, (.e (.mv (.c (.int .i64 (.ofNat 0)))))⟩]) (.seq (.reg [⟨(some p11), none, (.e (.mv (.r p0)))⟩, ⟨(some p12), none, (.e (.mv (.r p1)))⟩, ⟨(some p13), none, (.c (.f 105 [(.r p11), (.r p12)]))⟩, ⟨(some p10), none, (.e (.mv (.r p13)))⟩, ⟨(some p14), none, (.e (.ext 0 (.r p10)))⟩, ⟨(some p15), none, (.e (.ext 1 (.r p10)))⟩, ⟨(some p8), none, (.e (.mv (.r p14)))⟩, ⟨(some p9), none, (.e (.mv (.r p15)))⟩]) (.seq (.seq (.reg [⟨(some p16), none, (.e (.mv (.r p9)))⟩, ⟨(some p17), none, (.e (.bin .neq (.r p16) (.c (.int .i64 (.ofNat 0)))))⟩, ⟨(some p18), none, (.e (.mv (.r p17)))⟩, ⟨(some p19), (some (p18, false)), (.e (.mv (.r p2)))⟩, ⟨(some p20), (some (p18, false)), (.e (.bin .lss (.r p19) (.c (.int .i64 (.ofNat 0)))))⟩, ⟨(some p21), none, (.e (.pick (.r p18) (.c (.bool true)) (.r p20)))⟩, ⟨(some p22), none, (.e (.mv (.r p21)))⟩, ⟨(some p23), (some (p22, false)), (.e (.mv (.r p2)))⟩, ⟨(some p24), (some (p22, false)), (.e (.mv (.r p8)))⟩, ⟨(some p25), (some (p22, false)), (.e (.lenL (.r p24)))⟩, ⟨(some p26), (some (p22, false)), (.e (.bin .geq (.r p23) (.r p25)))⟩, ⟨(some p27), none, (.e (.pick (.r p22) (.c (.bool true)) (.r p26)))⟩]) (.cond (.r p27) (.seq (.reg [⟨(some p6), none, (.e (.mv (.c (.int .i64 (.ofNat 0)))))⟩, ⟨(some p7), none, (.e (.mv (.c (.int .i64 (.ofNat 1)))))⟩]) .ret) .skip)) (.seq (.reg [⟨(some p28), none, (.e (.mv (.r p8)))⟩, ⟨(some p29), none, (.e (.mv (.r p2)))⟩, ⟨(some p30), none, (.e (.iaS 1 (.r p28) (.r p29)))⟩, ⟨(some p31), none, (.e (.ld (.r p30)))⟩, ⟨(some p6), none, (.e (.mv (.r p31)))⟩, ⟨(some p7), none, (.e (.mv (.c (.int .i64 (.ofNat 0)))))⟩]) .ret))))
theorem I84_0 (E : Env) : Is E C84_0 (retK3 R84) (fun σ h => J84_0 E (σ p0) (σ p1) (σ p2) h) :=
  fun σ h => by kernel_rfl
def D84 : DF := ⟨3, 32, C84_0, R84⟩
noncomputable def S84 (E : Env) : Fun := fun args h => aS args fun r0 args => aS args fun r1 args => aS args fun r2 args => a0 args (J84_0 E r0 r1 r2 h)
theorem S84_eq (E : Env) (args : List DV) (h : H) : runFn E D84 args h = S84 E args h :=
  Is.fn3 (d := D84) (I84_0 E) rfl (fun r0 r1 r2 h => J84_0 E r0 r1 r2 h) (fun r0 r1 r2 h => by kernel_rfl) args h
/- (*hurdle/servers.Servers).Get$1 -/
def R85 : List RV := []
noncomputable def J85_0 (E : Env) (h : H) : Ans :=
  none
def C85_0 : DC := (.seq (.reg [⟨(some p3), none, (.e .bad)⟩, ⟨(some p2), none, (.e (.mv (.r p3)))⟩]) (.seq (.reg [⟨(some p4), none, (.e (.mv (.r p2)))⟩, ⟨(some p5), none, (.e (.eqv .nilI true (.r p4) (.c .nili)))⟩]) (.cond (.r p5) (.reg [⟨(some p6), none, (.e (.mv (.r p2)))⟩, ⟨(some p7), none, (.c (.f 86 [(.r p6)]))⟩, ⟨none, none, (.w (.st 1 (.r p0) (.c (.str []))))⟩, ⟨none, none, (.w (.st 1 (.r p1) (.r p7)))⟩]) .skip)))
theorem I85_0 (E : Env) : Is E C85_0 (retK3 R85) (fun σ h => J85_0 E h) :=
  fun σ h => by kernel_rfl
def D85 : DF := ⟨2, 8, C85_0, R85⟩
noncomputable def S85 (E : Env) : Fun := fun args h => aS args fun r0 args => aS args fun r1 args => a0 args (J85_0 E h)
theorem S85_eq (E : Env) (args : List DV) (h : H) : runFn E D85 args h = S85 E args h :=
  Is.fn2 (d := D85) (I85_0 E) rfl (fun r0 r1 h => J85_0 E h) (fun r0 r1 h => by kernel_rfl) args h
/- (*hurdle/servers.Servers).store -/
def R87 : List RV := [(.r p4)]
noncomputable def J87_2 (E : Env) (r5 : DV) (h : H) : Ans :=
  vK (v_nilchk r5) fun x1 =>
  vK (v_fa 1 x1) fun x2 =>
  vK (v_ld h.get x2) fun x3 =>
  some (x3, h)
def C87_2 : DC := (.seq (.reg [⟨(some p23), none, (.e (.mv (.r p5)))⟩, ⟨(some p24), none, (.e (.nilchk (.r p23)))⟩, ⟨(some p25), none, (.e (.fa 1 (.r p24)))⟩, ⟨(some p26), none, (.e (.ld (.r p25)))⟩, ⟨(some p4), none, (.e (.mv (.r p26)))⟩]) .ret)
noncomputable def J87_1 (E : Env) (r5 : DV) (h : H) : Ans :=
  vK (v_nilchk r5) fun x1 =>
  vK (v_fa 2 x1) fun x2 =>
  vK (v_ld h.get x2) fun x3 =>
  gdK x3 false (fun kk => kk r5 h) h fun x4 h5 =>
  gdK x3 false (fun kk => vK (v_nilchk x4) fun v => kk v h5) h5 fun x6 h7 =>
  gdK x3 false (fun kk => vK (v_fa 3 x6) fun v => kk v h7) h7 fun x8 h9 =>
  gdK x3 false (fun kk => vK (v_ld h9.get x8) fun v => kk v h9) h9 fun x10 h11 =>
  vK (v_pick x3 (.bool true) x10) fun x12 =>
  bK x12
  (none)
  (J87_2 E r5 h11)
def C87_1 : DC := (.seq (.seq (.reg [⟨(some p12), none, (.e (.mv (.r p5)))⟩, ⟨(some p13), none, (.e (.nilchk (.r p12)))⟩, ⟨(some p14), none, (.e (.fa 2 (.r p13)))⟩, ⟨(some p15), none, (.e (.ld (.r p14)))⟩, ⟨(some p16), none, (.e (.mv (.r p15)))⟩, ⟨(some p17), (some (p16, false)), (.e (.mv (.r p5)))⟩, ⟨(some p18), (some (p16, false)), (.e (.nilchk (.r p17)))⟩, ⟨(some p19), (some (p16, false)), (.e (.fa 3 (.r p18)))⟩, ⟨(some p20), (some (p16, false)), (.e (.ld (.r p19)))⟩, ⟨(some p21), none, (.e (.pick (.r p16) (.c (.bool true)) (.r p20)))⟩]) (.cond (.r p21) (.reg [⟨(some p22), none, (.e (.mkI 24 (.c (.int .i64 (.ofNat 8)))))⟩, ⟨none, none, (.e .bad)⟩]) .skip)) C87_2)
noncomputable def J87_0 (E : Env) (r0 r1 : DV) (h : H) : Ans :=
  wK (callK E 63 [r0, r1] h) fun x1 h2 =>
  vK (v_eqv .ptr false h2.get x1 .nilp) fun x3 =>
  bK x3
  (none)
  (J87_1 E x1 h2)
def C87_0 : DC := (.seq (.reg [⟨(some p4), none, (.e (.mv (.c .nilp)))⟩]) (.seq (.reg [⟨(some p6), none, (.e (.mv (.r p0)))⟩, ⟨(some p7), none, (.e (.mv (.r p1)))⟩, ⟨(some p8), none, (.c (.f 63 [(.r p6), (.r p7)]))⟩, ⟨(some p5), none, (.e (.mv (.r p8)))⟩]) (.seq (.seq (.reg [⟨(some p9), none, (.e (.mv (.r p5)))⟩, ⟨(some p10), none, (.e (.eqv .ptr false (.r p9) (.c .nilp)))⟩]) (.cond (.r p10) (.reg [⟨(some p11), none, (.e (.mkI 24 (.c (.int .i64 (.ofNat 1)))))⟩, ⟨none, none, (.e .bad)⟩]) .skip)) C87_1)))
theorem I87_2 (E : Env) : Is E C87_2 (retK3 R87) (fun σ h => J87_2 E (σ p5) h) :=
  fun σ h => by kernel_rfl
theorem I87_1 (E : Env) : Is E C87_1 (retK3 R87) (fun σ h => J87_1 E (σ p5) h) :=
  Is.as (Is.seq (I87_2 E) (Is.leaf _)) fun σ h => by kernel_rfl
theorem I87_0 (E : Env) : Is E C87_0 (retK3 R87) (fun σ h => J87_0 E (σ p0) (σ p1) h) :=
  Is.as (Is.seq (Is.seq (Is.seq (I87_1 E) (Is.leaf _)) (Is.leaf _)) (Is.leaf _)) fun σ h => by kernel_rfl
def D87 : DF := ⟨2, 27, C87_0, R87⟩
noncomputable def S87 (E : Env) : Fun := fun args h => aS args fun r0 args => aS args fun r1 args => a0 args (J87_0 E r0 r1 h)
theorem S87_eq (E : Env) (args : List DV) (h : H) : runFn E D87 args h = S87 E args h :=
  Is.fn2 (d := D87) (I87_0 E) rfl (fun r0 r1 h => J87_0 E r0 r1 h) (fun r0 r1 h => by kernel_rfl) args h
/- (*hurdle/frags.Frags).Get -/
def R88 : List RV := [(.r p4), (.r p5)]
noncomputable def J88_0 (E : Env) (r0 r1 : DV) (h : H) : Ans :=
  n_box r1 h fun x1 h2 =>
  vK (v_eqv .ptr false h2.get r0 .nilp) fun x3 =>
  bK x3
  (some ((.tup [(.str []), (.int .i64 (.ofNat 1))]), h2))
  (vK (v_ldN 2 h2.get x1) fun x4 =>
  wK (callK E 130 [r0, x4] h2) fun x5 h6 =>
  vK (v_lss x5 (.int .i64 (.ofNat 0))) fun x7 =>
  bK x7
  (some ((.tup [(.str []), (.int .i64 (.ofNat 7))]), h6))
  (vK (v_nilchk r0) fun x8 =>
  vK (v_fa 2 x8) fun x9 =>
  vK (v_ld h6.get x9) fun x10 =>
  bK x10
  (some ((.tup [(.str []), (.int .i64 (.ofNat 16))]), h6))
  (vK (v_nilchk r0) fun x11 =>
  vK (v_fa 0 x11) fun x12 =>
  vK (v_ld h6.get x12) fun x13 =>
  vK (v_mul x5 (.int .i64 (.ofNat 9))) fun x14 =>
  vK (v_add x14 (.int .i64 (.ofNat 1))) fun x15 =>
  wK (callK E 131 [x13, x15, (.int .i64 (.ofNat 8))] h6) fun x16 h17 =>
  vK (v_ext 0 x16) fun x18 =>
  vK (v_ext 1 x16) fun x19 =>
  vK (v_neq x19 (.int .i64 (.ofNat 0))) fun x20 =>
  bK x20
  (some ((.tup [(.str []), x19]), h17))
  (vK (v_nilchk r0) fun x21 =>
  vK (v_fa 1 x21) fun x22 =>
  vK (v_ld h17.get x22) fun x23 =>
  vK (v_iaS 4 x23 x5) fun x24 =>
  vK (v_fa 3 x24) fun x25 =>
  vK (v_ld h17.get x25) fun x26 =>
  vK (v_slS x18 none (some x26)) fun x27 =>
  some ((.tup [x27, (.int .i64 (.ofNat 0))]), h17)))))
def C88_0 : DC := (.seq (.reg [⟨(some p3), none, (.e (.box (.r p1)))⟩, ⟨(some p4), none, (.e (.mv (.c (.str []))))⟩, ⟨(some p5), none, (.e (.mv (.c (.int .i64 (.ofNat 0)))))⟩]) (.seq (.seq (.reg [⟨(some p9), none, (.e (.mv (.r p0)))⟩, ⟨(some p10), none, (.e (.eqv .ptr false (.r p9) (.c .nilp)))⟩]) (.cond (.r p10) (.seq (.reg [⟨(some p4), none, (.e (.mv (.c (.str []))))⟩, ⟨(some p5), none, (.e (.mv (.c (.int .i64 (.ofNat 1)))))⟩]) .ret) .skip)) (.seq (.reg [⟨(some p11), none, (.e (.mv (.r p0)))⟩, ⟨(some p12), none, (.e (.ldN 2 (.r p3)))⟩, ⟨(some p13), none, (.c (.f 130 [(.r p11), (.r p12)]))⟩, ⟨(some p6), none, (.e (.mv (.r p13)))⟩]) (.seq (.block 0 (.seq (.reg [⟨(some p15), none, (.e (.mv (.r p6)))⟩, ⟨(some p16), none, (.e (.bin .lss (.r p15) (.c (.int .i64 (.ofNat 0)))))⟩, ⟨(some p14), none, (.e (.mv (.r p16)))⟩]) (.cond (.r p14) (.seq (.reg [⟨(some p4), none, (.e (.mv (.c (.str []))))⟩, ⟨(some p5), none, (.e (.mv (.c (.int .i64 (.ofNat 7)))))⟩]) .ret) (.seq (.reg [⟨(some p18), none, (.e (.mv (.r p0)))⟩, ⟨(some p19), none, (.e (.nilchk (.r p18)))⟩, ⟨(some p20), none, (.e (.fa 2 (.r p19)))⟩, ⟨(some p21), none, (.e (.ld (.r p20)))⟩, ⟨(some p17), none, (.e (.mv (.r p21)))⟩]) (.cond (.r p17) (.seq (.reg [⟨(some p4), none, (.e (.mv (.c (.str []))))⟩, ⟨(some p5), none, (.e (.mv (.c (.int .i64 (.ofNat 16)))))⟩]) .ret) .skip))))) (.seq (.reg [⟨(some p23), none, (.e (.mv (.r p0)))⟩, ⟨(some p24), none, (.e (.nilchk (.r p23)))⟩, ⟨(some p25), none, (.e (.fa 0 (.r p24)))⟩, ⟨(some p26), none, (.e (.ld (.r p25)))⟩, ⟨(some p27), none, (.e (.mv (.r p6)))⟩, ⟨(some p28), none, (.e (.bin .mul (.r p27) (.c (.int .i64 (.ofNat 9)))))⟩, ⟨(some p29), none, (.e (.bin .add (.r p28) (.c (.int .i64 (.ofNat 1)))))⟩, ⟨(some p30), none, (.c (.f 131 [(.r p26), (.r p29), (.c (.int .i64 (.ofNat 8)))]))⟩, ⟨(some p22), none, (.e (.mv (.r p30)))⟩, ⟨(some p31), none, (.e (.ext 0 (.r p22)))⟩, ⟨(some p32), none, (.e (.ext 1 (.r p22)))⟩, ⟨(some p7), none, (.e (.mv (.r p31)))⟩, ⟨(some p8), none, (.e (.mv (.r p32)))⟩]) (.seq (.seq (.reg [⟨(some p33), none, (.e (.mv (.r p8)))⟩, ⟨(some p34), none, (.e (.bin .neq (.r p33) (.c (.int .i64 (.ofNat 0)))))⟩]) (.cond (.r p34) (.seq (.reg [⟨(some p35), none, (.e (.mv (.r p8)))⟩, ⟨(some p4), none, (.e (.mv (.c (.str []))))⟩, ⟨(some p5), none, (.e (.mv (.r p35)))⟩]) .ret) .skip)) (.seq (.reg [⟨(some p36), none, (.e (.mv (.r p7)))⟩, ⟨(some p37), none, (.e (.mv (.r p0)))⟩, ⟨(some p38), none, (.e (.nilchk (.r p37)))⟩, ⟨(some p39), none, (.e (.fa 1 (.r p38)))⟩, ⟨(some p40), none, (.e (.ld (.r p39)))⟩, ⟨(some p41), none, (.e (.mv (.r p6)))⟩, ⟨(some p42), none, (.e (.iaS 4 (.r p40) (.r p41)))⟩, ⟨(some p43), none, (.e (.fa 3 (.r p42)))⟩, ⟨(some p44), none, (.e (.ld (.r p43)))⟩, ⟨(some p45), none, (.e (.slS (.r p36) none (some (.r p44))))⟩, ⟨(some p4), none, (.e (.mv (.r p45)))⟩, ⟨(some p5), none, (.e (.mv (.c (.int .i64 (.ofNat 0)))))⟩]) .ret)))))))
theorem I88_0 (E : Env) : Is E C88_0 (retK3 R88) (fun σ h => J88_0 E (σ p0) (σ p1) h) :=
  fun σ h => by kernel_rfl
def D88 : DF := ⟨2, 46, C88_0, R88⟩
noncomputable def S88 (E : Env) : Fun := fun args h => aS args fun r0 args => aS args fun r1 args => a0 args (J88_0 E r0 r1 h)
theorem S88_eq (E : Env) (args : List DV) (h : H) : runFn E D88 args h = S88 E args h :=
  Is.fn2 (d := D88) (I88_0 E) rfl (fun r0 r1 h => J88_0 E r0 r1 h) (fun r0 r1 h => by kernel_rfl) args h
/- (*hurdle/servers.Servers).Put$1 -/
def R89 : List RV := []
noncomputable def J89_0 (E : Env) (h : H) : Ans :=
  none
def C89_0 : DC := (.seq (.reg [⟨(some p2), none, (.e .bad)⟩, ⟨(some p1), none, (.e (.mv (.r p2)))⟩]) (.seq (.reg [⟨(some p3), none, (.e (.mv (.r p1)))⟩, ⟨(some p4), none, (.e (.eqv .nilI true (.r p3) (.c .nili)))⟩]) (.cond (.r p4) (.reg [⟨(some p5), none, (.e (.mv (.r p1)))⟩, ⟨(some p6), none, (.c (.f 86 [(.r p5)]))⟩, ⟨none, none, (.w (.st 1 (.r p0) (.r p6)))⟩]) .skip)))
theorem I89_0 (E : Env) : Is E C89_0 (retK3 R89) (fun σ h => J89_0 E h) :=
  fun σ h => by kernel_rfl
def D89 : DF := ⟨1, 7, C89_0, R89⟩
noncomputable def S89 (E : Env) : Fun := fun args h => aS args fun r0 args => a0 args (J89_0 E h)
theorem S89_eq (E : Env) (args : List DV) (h : H) : runFn E D89 args h = S89 E args h :=
  Is.fn1 (d := D89) (I89_0 E) rfl (fun r0 h => J89_0 E h) (fun r0 h => by kernel_rfl) args h
/- (*hurdle/frags.Frags).Put -/
def R90 : List RV := [(.r p8)]
noncomputable def J90_1 (E : Env) (r12 : DV) (h : H) : Ans :=
  some (r12, h)
def C90_1 : DC := (.seq (.reg [⟨(some p79), none, (.e (.mv (.r p12)))⟩, ⟨(some p8), none, (.e (.mv (.r p79)))⟩]) .ret)
noncomputable def J90_0 (E : Env) (r0 r1 r2 r3 : DV) (h : H) : Ans :=
  n_box r1 h fun x1 h2 =>
  vK (v_eqv .ptr false h2.get r0 .nilp) fun x3 =>
  gdK x3 false (fun kk => vK (v_ldN 2 h2.get x1) fun v => kk v h2) h2 fun x4 h5 =>
  gdK x3 false (fun kk => wK (callK E 132 [x4] h5) kk) h5 fun x6 h7 =>
  gdK x3 false (fun kk => vK (v_not x6) fun v => kk v h7) h7 fun x8 h9 =>
  vK (v_pick x3 (.bool true) x8) fun x10 =>
  bK x10
  (some ((.int .i64 (.ofNat 1)), h9))
  (vK (v_lenS r2) fun x11 =>
  vK (v_gtr x11 (.int .i64 (.ofNat 512))) fun x12 =>
  bK x12
  (some ((.int .i64 (.ofNat 2)), h9))
  (wK (callK E 133 [r0] h9) fun x13 h14 =>
  vK (v_lss x13 (.int .i64 (.ofNat 0))) fun x15 =>
  bK x15
  (some ((.int .i64 (.ofNat 5)), h14))
  (vK (v_ldN 2 h14.get x1) fun x16 =>
  wK (callK E 130 [r0, x16] h14) fun x17 h18 =>
  vK (v_geq x17 (.int .i64 (.ofNat 0))) fun x19 =>
  bK x19
  (some ((.int .i64 (.ofNat 6)), h18))
  (vK (v_nilchk r0) fun x20 =>
  vK (v_fa 2 x20) fun x21 =>
  vK (v_ld h18.get x21) fun x22 =>
  bK x22
  (some ((.int .i64 (.ofNat 16)), h18))
  (wK (callK E 133 [r0] h18) fun x23 h24 =>
  wK (callK E 82 [r2, (.int .i64 (.ofNat 512))] h24) fun x25 h26 =>
  vK (v_ext 0 x25) fun x27 =>
  vK (v_ext 1 x25) fun x28 =>
  vK (v_mul x23 (.int .i64 (.ofNat 9))) fun x29 =>
  vK (v_add x29 (.int .i64 (.ofNat 1))) fun x30 =>
  vK (v_mul x23 (.int .i64 (.ofNat 9))) fun x31 =>
  vK (v_ldN 2 h26.get x1) fun x32 =>
  wK (callK E 135 [r0, x30, x27] h26) fun x33 h34 =>
  rK (rcK (v_ldN 2 h34.get x1) x32) <|
  wK (callK E 137 [x32, r2] h34) fun x35 h36 =>
  wK (callK E 135 [r0, x31, x35] h36) fun x37 h38 =>
  n_bsl 4 1 [.nilf] [(0, 1, x33), (1, 1, (.fn (.func 136) [r0] [])), (2, 1, x37), (3, 1, (.fn (.func 136) [r0] []))] h38 fun x39 h40 =>
  wK (callK E 134 [r0, r3, x39] h40) fun x41 h42 =>
  vK (v_eql x41 (.int .i64 (.ofNat 0))) fun x43 =>
  bK x43
  (vK (v_nilchk r0) fun x44 =>
  vK (v_fa 1 x44) fun x45 =>
  vK (v_ld h42.get x45) fun x46 =>
  vK (v_ldN 2 h42.get x1) fun x47 =>
  vK (v_lenS r2) fun x48 =>
  vK (v_bld [(.bool false), (.int .i64 (.ofNat 0)), (.int .i64 (.ofNat 0)), (.int .i64 (.ofNat 0))] [(0, 1, (.bool true)), (1, 2, x47), (3, 1, x48)]) fun x49 =>
  vK (v_iaS 4 x46 x23) fun x50 =>
  wK (dStF 4 x50 x49 h42) fun x51 h52 =>
  J90_1 E x41 h52)
  (J90_1 E x41 h42))))))
def C90_0 : DC := (.seq (.reg [⟨(some p5), none, (.e (.box (.r p1)))⟩, ⟨(some p8), none, (.e (.mv (.c (.int .i64 (.ofNat 0)))))⟩]) (.seq (.block 0 (.seq (.reg [⟨(some p14), none, (.e (.mv (.r p0)))⟩, ⟨(some p15), none, (.e (.eqv .ptr false (.r p14) (.c .nilp)))⟩, ⟨(some p16), none, (.e (.mv (.r p15)))⟩, ⟨(some p17), (some (p16, false)), (.e (.ldN 2 (.r p5)))⟩, ⟨(some p18), (some (p16, false)), (.c (.f 132 [(.r p17)]))⟩, ⟨(some p19), (some (p16, false)), (.e (.not (.r p18)))⟩, ⟨(some p20), none, (.e (.pick (.r p16) (.c (.bool true)) (.r p19)))⟩, ⟨(some p13), none, (.e (.mv (.r p20)))⟩]) (.cond (.r p13) (.seq (.reg [⟨(some p8), none, (.e (.mv (.c (.int .i64 (.ofNat 1)))))⟩]) .ret) (.seq (.reg [⟨(some p22), none, (.e (.mv (.r p2)))⟩, ⟨(some p23), none, (.e (.lenS (.r p22)))⟩, ⟨(some p24), none, (.e (.bin .gtr (.r p23) (.c (.int .i64 (.ofNat 512)))))⟩, ⟨(some p21), none, (.e (.mv (.r p24)))⟩]) (.cond (.r p21) (.seq (.reg [⟨(some p8), none, (.e (.mv (.c (.int .i64 (.ofNat 2)))))⟩]) .ret) (.seq (.reg [⟨(some p26), none, (.e (.mv (.r p0)))⟩, ⟨(some p27), none, (.c (.f 133 [(.r p26)]))⟩, ⟨(some p28), none, (.e (.bin .lss (.r p27) (.c (.int .i64 (.ofNat 0)))))⟩, ⟨(some p25), none, (.e (.mv (.r p28)))⟩]) (.cond (.r p25) (.seq (.reg [⟨(some p8), none, (.e (.mv (.c (.int .i64 (.ofNat 5)))))⟩]) .ret) (.seq (.reg [⟨(some p30), none, (.e (.mv (.r p0)))⟩, ⟨(some p31), none, (.e (.ldN 2 (.r p5)))⟩, ⟨(some p32), none, (.c (.f 130 [(.r p30), (.r p31)]))⟩, ⟨(some p33), none, (.e (.bin .geq (.r p32) (.c (.int .i64 (.ofNat 0)))))⟩, ⟨(some p29), none, (.e (.mv (.r p33)))⟩]) (.cond (.r p29) (.seq (.reg [⟨(some p8), none, (.e (.mv (.c (.int .i64 (.ofNat 6)))))⟩]) .ret) (.seq (.reg [⟨(some p35), none, (.e (.mv (.r p0)))⟩, ⟨(some p36), none, (.e (.nilchk (.r p35)))⟩, ⟨(some p37), none, (.e (.fa 2 (.r p36)))⟩, ⟨(some p38), none, (.e (.ld (.r p37)))⟩, ⟨(some p34), none, (.e (.mv (.r p38)))⟩]) (.cond (.r p34) (.seq (.reg [⟨(some p8), none, (.e (.mv (.c (.int .i64 (.ofNat 16)))))⟩]) .ret) .skip))))))))))) (.seq (.reg [⟨(some p39), none, (.e (.mv (.r p0)))⟩, ⟨(some p40), none, (.c (.f 133 [(.r p39)]))⟩, ⟨(some p9), none, (.e (.mv (.r p40)))⟩]) (.seq (.reg [⟨(some p42), none, (.e (.mv (.r p2)))⟩, ⟨(some p43), none, (.c (.f 82 [(.r p42), (.c (.int .i64 (.ofNat 512)))]))⟩, ⟨(some p41), none, (.e (.mv (.r p43)))⟩, ⟨(some p44), none, (.e (.ext 0 (.r p41)))⟩, ⟨(some p45), none, (.e (.ext 1 (.r p41)))⟩, ⟨(some p10), none, (.e (.mv (.r p44)))⟩, ⟨(some p11), none, (.e (.mv (.r p45)))⟩]) (.seq (.drg [⟨0, ⟨(some p46), none, (.e (.mv (.r p0)))⟩, [], false⟩, ⟨1, ⟨(some p47), none, (.e (.mv (.r p3)))⟩, [], false⟩, ⟨2, ⟨(some p48), none, (.e (.mv (.r p0)))⟩, [], false⟩, ⟨3, ⟨(some p49), none, (.e (.mv (.r p9)))⟩, [], false⟩, ⟨4, ⟨(some p50), none, (.e (.bin .mul (.r p49) (.c (.int .i64 (.ofNat 9)))))⟩, [], false⟩, ⟨5, ⟨(some p51), none, (.e (.bin .add (.r p50) (.c (.int .i64 (.ofNat 1)))))⟩, [], false⟩, ⟨6, ⟨(some p52), none, (.e (.mv (.r p10)))⟩, [], false⟩, ⟨8, ⟨(some p54), none, (.e (.mv (.r p0)))⟩, [], false⟩, ⟨9, ⟨(some p55), none, (.e (.mkF (.func 136) [(.r p54)] []))⟩, [], false⟩, ⟨10, ⟨(some p56), none, (.e (.mv (.r p0)))⟩, [], false⟩, ⟨11, ⟨(some p57), none, (.e (.mv (.r p9)))⟩, [], false⟩, ⟨12, ⟨(some p58), none, (.e (.bin .mul (.r p57) (.c (.int .i64 (.ofNat 9)))))⟩, [], false⟩, ⟨13, ⟨(some p59), none, (.e (.ldN 2 (.r p5)))⟩, [], false⟩, ⟨14, ⟨(some p60), none, (.e (.mv (.r p2)))⟩, [], false⟩, ⟨17, ⟨(some p63), none, (.e (.mv (.r p0)))⟩, [], false⟩, ⟨18, ⟨(some p64), none, (.e (.mkF (.func 136) [(.r p63)] []))⟩, [], false⟩, ⟨7, ⟨(some p53), none, (.c (.f 135 [(.r p48), (.r p51), (.r p52)]))⟩, [13], false⟩, ⟨15, ⟨(some p61), none, (.c (.f 137 [(.r p59), (.r p60)]))⟩, [], false⟩, ⟨16, ⟨(some p62), none, (.c (.f 135 [(.r p56), (.r p58), (.r p61)]))⟩, [], false⟩, ⟨19, ⟨(some p65), none, (.e (.bsl 4 1 [.nilf] [(0, 1, (.r p53)), (1, 1, (.r p55)), (2, 1, (.r p62)), (3, 1, (.r p64))]))⟩, [], false⟩, ⟨20, ⟨(some p66), none, (.c (.f 134 [(.r p46), (.r p47), (.r p65)]))⟩, [], false⟩, ⟨21, ⟨(some p12), none, (.e (.mv (.r p66)))⟩, [], false⟩]) (.seq (.seq (.reg [⟨(some p67), none, (.e (.mv (.r p12)))⟩, ⟨(some p68), none, (.e (.bin .eql (.r p67) (.c (.int .i64 (.ofNat 0)))))⟩]) (.cond (.r p68) (.drg [⟨0, ⟨(some p69), none, (.e (.mv (.r p0)))⟩, [], false⟩, ⟨1, ⟨(some p70), none, (.e (.nilchk (.r p69)))⟩, [], false⟩, ⟨2, ⟨(some p71), none, (.e (.fa 1 (.r p70)))⟩, [], false⟩, ⟨3, ⟨(some p72), none, (.e (.ld (.r p71)))⟩, [], false⟩, ⟨4, ⟨(some p73), none, (.e (.mv (.r p9)))⟩, [], false⟩, ⟨5, ⟨(some p74), none, (.e (.ldN 2 (.r p5)))⟩, [], false⟩, ⟨6, ⟨(some p75), none, (.e (.mv (.r p2)))⟩, [], false⟩, ⟨7, ⟨(some p76), none, (.e (.lenS (.r p75)))⟩, [], false⟩, ⟨8, ⟨(some p77), none, (.e (.bld [(.bool false), (.int .i64 (.ofNat 0)), (.int .i64 (.ofNat 0)), (.int .i64 (.ofNat 0))] [(0, 1, (.c (.bool true))), (1, 2, (.r p74)), (3, 1, (.r p76))]))⟩, [], false⟩, ⟨9, ⟨(some p78), none, (.e (.iaS 4 (.r p72) (.r p73)))⟩, [], false⟩, ⟨10, ⟨none, none, (.w (.st 4 (.r p78) (.r p77)))⟩, [], false⟩]) .skip)) C90_1))))))
theorem I90_1 (E : Env) : Is E C90_1 (retK3 R90) (fun σ h => J90_1 E (σ p12) h) :=
  fun σ h => by kernel_rfl
theorem I90_0 (E : Env) : Is E C90_0 (retK3 R90) (fun σ h => J90_0 E (σ p0) (σ p1) (σ p2) (σ p3) h) :=
  Is.as (Is.seq (Is.seq (Is.seq (Is.seq (Is.seq (Is.seq (I90_1 E) (Is.leaf _)) (Is.leaf _)) (Is.leaf _)) (Is.leaf _)) (Is.leaf _)) (Is.leaf _)) fun σ h => by kernel_rfl
def D90 : DF := ⟨4, 80, C90_0, R90⟩
noncomputable def S90 (E : Env) : Fun := fun args h => aS args fun r0 args => aS args fun r1 args => aS args fun r2 args => aS args fun r3 args => a0 args (J90_0 E r0 r1 r2 r3 h)
theorem S90_eq (E : Env) (args : List DV) (h : H) : runFn E D90 args h = S90 E args h :=
  Is.fn4 (d := D90) (I90_0 E) rfl (fun r0 r1 r2 r3 h => J90_0 E r0 r1 r2 r3 h) (fun r0 r1 r2 r3 h => by kernel_rfl) args h
/- (*hurdle/smap.Map).Get -/
def R94 : List RV := [(.cells p4 6), (.r p5)]
noncomputable def J94_0 (E : Env) (r0 r1 : DV) (h : H) : Ans :=
  n_alc 6 6 (.list [(.int .i64 (.ofNat 0)), (.int .i64 (.ofNat 0)), (.int .i64 (.ofNat 0)), (.int .i64 (.ofNat 0)), (.int .i64 (.ofNat 0)), .nils]) h fun x1 h2 =>
  wK (callK E 142 [r0, r1] h2) fun x3 h4 =>
  vK (v_eqv .ptr false h4.get x3 .nilp) fun x5 =>
  bK x5
  (vK (v_bld [(.int .i64 (.ofNat 0)), (.int .i64 (.ofNat 0)), (.int .i64 (.ofNat 0)), (.int .i64 (.ofNat 0)), (.int .i64 (.ofNat 0)), .nils] []) fun x6 =>
  wK (dStF 6 x1 x6 h4) fun x7 h8 =>
  vK (v_ldN 6 h8.get x1) fun x9 =>
  some ((.tup [x9, (.bool false)]), h8))
  (vK (v_nilchk x3) fun x10 =>
  vK (v_ldN 6 h4.get x10) fun x11 =>
  n_alc 6 6 (.list [(.int .i64 (.ofNat 0)), (.int .i64 (.ofNat 0)), (.int .i64 (.ofNat 0)), (.int .i64 (.ofNat 0)), (.int .i64 (.ofNat 0)), .nils]) h4 fun x12 h13 =>
  wK (dStF 6 x12 x11 h13) fun x14 h15 =>
  vK (v_fa 5 x12) fun x16 =>
  vK (v_ld h15.get x16) fun x17 =>
  wK (callK E 143 [x17] h15) fun x18 h19 =>
  vK (v_fa 5 x12) fun x20 =>
  wK (dStF 1 x20 x18 h19) fun x21 h22 =>
  vK (v_ldN 6 h22.get x12) fun x23 =>
  wK (dStF 6 x1 x23 h22) fun x24 h25 =>
  vK (v_ldN 6 h25.get x1) fun x26 =>
  some ((.tup [x26, (.bool true)]), h25))
def C94_0 : DC := (.seq (.reg [⟨(some p4), none, (.e (.alc 6 6 (.list [(.int .i64 (.ofNat 0)), (.int .i64 (.ofNat 0)), (.int .i64 (.ofNat 0)), (.int .i64 (.ofNat 0)), (.int .i64 (.ofNat 0)), .nils])))⟩, ⟨(some p5), none, (.e (.mv (.c (.bool false))))⟩]) (.seq (.reg [⟨(some p8), none, (.e (.mv (.r p0)))⟩, ⟨(some p9), none, (.e (.mv (.r p1)))⟩, ⟨(some p10), none, (.c (.f 142 [(.r p8), (.r p9)]))⟩, ⟨(some p6), none, (.e (.mv (.r p10)))⟩]) (.seq (.seq (.reg [⟨(some p11), none, (.e (.mv (.r p6)))⟩, ⟨(some p12), none, (.e (.eqv .ptr false (.r p11) (.c .nilp)))⟩]) (.cond (.r p12) (.seq (.reg [⟨(some p13), none, (.e (.bld [(.int .i64 (.ofNat 0)), (.int .i64 (.ofNat 0)), (.int .i64 (.ofNat 0)), (.int .i64 (.ofNat 0)), (.int .i64 (.ofNat 0)), .nils] []))⟩, ⟨none, none, (.w (.st 6 (.r p4) (.r p13)))⟩, ⟨(some p5), none, (.e (.mv (.c (.bool false))))⟩]) .ret) .skip)) (.seq (.reg [⟨(some p14), none, (.e (.mv (.r p6)))⟩, ⟨(some p15), none, (.e (.nilchk (.r p14)))⟩, ⟨(some p16), none, (.e (.ldN 6 (.r p15)))⟩, ⟨(some p7), none, (.e (.alc 6 6 (.list [(.int .i64 (.ofNat 0)), (.int .i64 (.ofNat 0)), (.int .i64 (.ofNat 0)), (.int .i64 (.ofNat 0)), (.int .i64 (.ofNat 0)), .nils])))⟩, ⟨none, none, (.w (.st 6 (.r p7) (.r p16)))⟩]) (.seq (.reg [⟨(some p17), none, (.e (.fa 5 (.r p7)))⟩, ⟨(some p18), none, (.e (.ld (.r p17)))⟩, ⟨(some p19), none, (.c (.f 143 [(.r p18)]))⟩, ⟨(some p20), none, (.e (.fa 5 (.r p7)))⟩, ⟨none, none, (.w (.st 1 (.r p20) (.r p19)))⟩]) (.seq (.reg [⟨(some p21), none, (.e (.ldN 6 (.r p7)))⟩, ⟨none, none, (.w (.st 6 (.r p4) (.r p21)))⟩, ⟨(some p5), none, (.e (.mv (.c (.bool true))))⟩]) .ret))))))
theorem I94_0 (E : Env) : Is E C94_0 (retK3 R94) (fun σ h => J94_0 E (σ p0) (σ p1) h) :=
  fun σ h => by kernel_rfl
def D94 : DF := ⟨2, 22, C94_0, R94⟩
noncomputable def S94 (E : Env) : Fun := fun args h => aS args fun r0 args => aS args fun r1 args => a0 args (J94_0 E r0 r1 h)
theorem S94_eq (E : Env) (args : List DV) (h : H) : runFn E D94 args h = S94 E args h :=
  Is.fn2 (d := D94) (I94_0 E) rfl (fun r0 r1 h => J94_0 E r0 r1 h) (fun r0 r1 h => by kernel_rfl) args h
/- (*hurdle/parity.sum).add -/
def R95 : List RV := [(.r p6)]
noncomputable def J95_1 (E : Env) (h : H) : Ans :=
  some ((.bool true), h)
def C95_1 : DC := (.seq (.reg [⟨(some p6), none, (.e (.mv (.c (.bool true))))⟩]) .ret)
noncomputable def B95_2 (E : Env) (r0 r1 r32 : DV) (i2 : DV → H → Ans) (r33 : DV) (h : H) : Ans :=
  vK (v_lss r33 r32) fun x1 =>
  bK x1
  (vK (v_nilchk r0) fun x2 =>
  vK (v_fa 0 x2) fun x3 =>
  vK (v_iaA 512 1 x3 r33) fun x4 =>
  vK (v_ld h.get x4) fun x5 =>
  vK (v_ixS r1 r33) fun x6 =>
  vK (v_xor x5 x6) fun x7 =>
  vK (v_nilchk r0) fun x8 =>
  vK (v_fa 0 x8) fun x9 =>
  vK (v_iaA 512 1 x9 r33) fun x10 =>
  wK (dStF 1 x10 x7 h) fun x11 h12 =>
  vK (v_add r33 (.int .i64 (.ofNat 1))) fun x13 =>
  i2 x13 h12)
  (J95_1 E h)
noncomputable def L95_2 (E : Env) (r0 r1 r32 : DV) (n : Nat) : DV → H → Ans := Nat.rec (motive := fun _ => DV → H → Ans) (fun _ _ => none) (fun _ i => B95_2 E r0 r1 r32 i) n
def C95_2 : DC := (.loop (.seq (.reg [⟨(some p34), none, (.e (.bin .lss (.r p33) (.r p32)))⟩]) (.seq (.cond (.r p34) .skip (.exit 0)) (.seq (.block 1 (.seq (.reg [⟨(some p35), none, (.e (.mv (.r p33)))⟩, ⟨(some p7), none, (.e (.mv (.r p35)))⟩]) (.drg [⟨0, ⟨(some p36), none, (.e (.mv (.r p0)))⟩, [], false⟩, ⟨1, ⟨(some p37), none, (.e (.mv (.r p7)))⟩, [], false⟩, ⟨2, ⟨(some p38), none, (.e (.nilchk (.r p36)))⟩, [], false⟩, ⟨3, ⟨(some p39), none, (.e (.fa 0 (.r p38)))⟩, [], false⟩, ⟨4, ⟨(some p40), none, (.e (.iaA 512 1 (.r p39) (.r p37)))⟩, [], false⟩, ⟨5, ⟨(some p41), none, (.e (.ld (.r p40)))⟩, [], false⟩, ⟨6, ⟨(some p42), none, (.e (.mv (.r p1)))⟩, [], false⟩, ⟨7, ⟨(some p43), none, (.e (.mv (.r p7)))⟩, [], false⟩, ⟨8, ⟨(some p44), none, (.e (.ixS (.r p42) (.r p43)))⟩, [], false⟩, ⟨9, ⟨(some p45), none, (.e (.bin .xor (.r p41) (.r p44)))⟩, [], false⟩, ⟨10, ⟨(some p46), none, (.e (.nilchk (.r p36)))⟩, [], false⟩, ⟨11, ⟨(some p47), none, (.e (.fa 0 (.r p46)))⟩, [], false⟩, ⟨12, ⟨(some p48), none, (.e (.iaA 512 1 (.r p47) (.r p37)))⟩, [], false⟩, ⟨13, ⟨none, none, (.w (.st 1 (.r p48) (.r p45)))⟩, [], false⟩]))) (.reg [⟨(some p49), none, (.e (.bin .add (.r p33) (.c (.int .i64 (.ofNat 1)))))⟩, ⟨(some p33), none, (.e (.mv (.r p49)))⟩])))))
noncomputable def J95_0 (E : Env) (r0 r1 r2 : DV) (h : H) : Ans :=
  vK (v_lenS r1) fun x1 =>
  vK (v_gtr x1 (.int .i64 (.ofNat 512))) fun x2 =>
  gdK x2 false (fun kk => kk r2 h) h fun x3 h4 =>
  gdK x2 false (fun kk => vK (v_not x3) fun v => kk v h4) h4 fun x5 h6 =>
  gdK x2 false (fun kk => kk x5 h6) h6 fun x7 h8 =>
  gdK x7 true (fun kk => kk r1 h8) h8 fun x9 h10 =>
  gdK x7 true (fun kk => vK (v_lenS x9) fun v => kk v h10) h10 fun x11 h12 =>
  gdK x7 true (fun kk => kk r0 h12) h12 fun x13 h14 =>
  gdK x7 true (fun kk => vK (v_nilchk x13) fun v => kk v h14) h14 fun x15 h16 =>
  gdK x7 true (fun kk => vK (v_fa 512 x15) fun v => kk v h16) h16 fun x17 h18 =>
  gdK x7 true (fun kk => vK (v_ld h18.get x17) fun v => kk v h18) h18 fun x19 h20 =>
  gdK x7 true (fun kk => vK (v_neq x11 x19) fun v => kk v h20) h20 fun x21 h22 =>
  gdK x2 false (fun kk => vK (v_pick x7 x21 (.bool false)) fun v => kk v h22) h22 fun x23 h24 =>
  vK (v_pick x2 (.bool true) x23) fun x25 =>
  bK x25
  (some ((.bool false), h24))
  (vK (v_lenS r1) fun x26 =>
  vK (v_nilchk r0) fun x27 =>
  vK (v_fa 512 x27) fun x28 =>
  wK (dStF 1 x28 x26 h24) fun x29 h30 =>
  vK (v_nilchk r0) fun x31 =>
  vK (v_fa 512 x31) fun x32 =>
  vK (v_ld h30.get x32) fun x33 =>
  L95_2 E r0 r1 x33 FUEL (.int .i64 (.ofNat 0)) h30)
def C95_0 : DC := (.seq (.reg [⟨(some p6), none, (.e (.mv (.c (.bool false))))⟩]) (.seq (.seq (.reg [⟨(some p8), none, (.e (.mv (.r p1)))⟩, ⟨(some p9), none, (.e (.lenS (.r p8)))⟩, ⟨(some p10), none, (.e (.bin .gtr (.r p9) (.c (.int .i64 (.ofNat 512)))))⟩, ⟨(some p11), none, (.e (.mv (.r p10)))⟩, ⟨(some p12), (some (p11, false)), (.e (.mv (.r p2)))⟩, ⟨(some p13), (some (p11, false)), (.e (.not (.r p12)))⟩, ⟨(some p14), (some (p11, false)), (.e (.mv (.r p13)))⟩, ⟨(some p15), (some (p14, true)), (.e (.mv (.r p1)))⟩, ⟨(some p16), (some (p14, true)), (.e (.lenS (.r p15)))⟩, ⟨(some p17), (some (p14, true)), (.e (.mv (.r p0)))⟩, ⟨(some p18), (some (p14, true)), (.e (.nilchk (.r p17)))⟩, ⟨(some p19), (some (p14, true)), (.e (.fa 512 (.r p18)))⟩, ⟨(some p20), (some (p14, true)), (.e (.ld (.r p19)))⟩, ⟨(some p21), (some (p14, true)), (.e (.bin .neq (.r p16) (.r p20)))⟩, ⟨(some p22), (some (p11, false)), (.e (.pick (.r p14) (.r p21) (.c (.bool false))))⟩, ⟨(some p23), none, (.e (.pick (.r p11) (.c (.bool true)) (.r p22)))⟩]) (.cond (.r p23) (.seq (.reg [⟨(some p6), none, (.e (.mv (.c (.bool false))))⟩]) .ret) .skip)) (.seq (.reg [⟨(some p24), none, (.e (.mv (.r p0)))⟩, ⟨(some p25), none, (.e (.mv (.r p1)))⟩, ⟨(some p26), none, (.e (.lenS (.r p25)))⟩, ⟨(some p27), none, (.e (.nilchk (.r p24)))⟩, ⟨(some p28), none, (.e (.fa 512 (.r p27)))⟩, ⟨none, none, (.w (.st 1 (.r p28) (.r p26)))⟩]) (.seq (.seq (.reg [⟨(some p29), none, (.e (.mv (.r p0)))⟩, ⟨(some p30), none, (.e (.nilchk (.r p29)))⟩, ⟨(some p31), none, (.e (.fa 512 (.r p30)))⟩, ⟨(some p32), none, (.e (.ld (.r p31)))⟩, ⟨(some p33), none, (.e (.mv (.c (.int .i64 (.ofNat 0)))))⟩]) (.block 0 C95_2)) C95_1))))
theorem I95_1 (E : Env) : Is E C95_1 (retK3 R95) (fun σ h => J95_1 E h) :=
  fun σ h => by kernel_rfl
noncomputable abbrev K95_3 (E : Env) : KT2 (DV × H) := (blockK3 0 (thenK3 (fun σ h => J95_1 E h) (retK3 R95)))
theorem I95_2 (E : Env) : Is E C95_2 (K95_3 E) (fun σ h => L95_2 E (σ p0) (σ p1) (σ p32) FUEL (σ p33) h) :=
  Is.loop (fun n2 σ h => L95_2 E (σ p0) (σ p1) (σ p32) n2 (σ p33) h) (by kernel_rfl) fun n2 => Is.as (Is.leaf _) fun σ h => by kernel_rfl
theorem I95_0 (E : Env) : Is E C95_0 (retK3 R95) (fun σ h => J95_0 E (σ p0) (σ p1) (σ p2) h) :=
  Is.as (Is.seq (Is.seq (Is.seq (Is.seq (I95_1 E) (Is.seq (Is.block (I95_2 E)) (Is.leaf _))) (Is.leaf _)) (Is.leaf _)) (Is.leaf _)) fun σ h => by kernel_rfl
def D95 : DF := ⟨3, 50, C95_0, R95⟩
noncomputable def S95 (E : Env) : Fun := fun args h => aS args fun r0 args => aS args fun r1 args => aS args fun r2 args => a0 args (J95_0 E r0 r1 r2 h)
theorem S95_eq (E : Env) (args : List DV) (h : H) : runFn E D95 args h = S95 E args h :=
  Is.fn3 (d := D95) (I95_0 E) rfl (fun r0 r1 r2 h => J95_0 E r0 r1 r2 h) (fun r0 r1 r2 h => by kernel_rfl) args h
/- hurdle/sector.New -/
def R96 : List RV := [(.r p2)]
noncomputable def J96_1 (E : Env) (r3 : DV) (h : H) : Ans :=
  some (r3, h)
def C96_1 : DC := (.seq (.reg [⟨(some p31), none, (.e (.mv (.r p3)))⟩, ⟨(some p2), none, (.e (.mv (.r p31)))⟩]) .ret)
noncomputable def B96_2 (E : Env) (r3 r4 r19 : DV) (i2 : DV → H → Ans) (r20 : DV) (h : H) : Ans :=
  vK (v_lss r20 r19) fun x1 =>
  bK x1
  (vK (v_nilchk r3) fun x2 =>
  vK (v_fa 0 x2) fun x3 =>
  vK (v_ld h.get x3) fun x4 =>
  vK (v_iaS 1 x4 r20) fun x5 =>
  wK (dStF 1 x5 r4 h) fun x6 h7 =>
  vK (v_add r20 (.int .i64 (.ofNat 1))) fun x8 =>
  i2 x8 h7)
  (J96_1 E r3 h)
noncomputable def L96_2 (E : Env) (r3 r4 r19 : DV) (n : Nat) : DV → H → Ans := Nat.rec (motive := fun _ => DV → H → Ans) (fun _ _ => none) (fun _ i => B96_2 E r3 r4 r19 i) n
def C96_2 : DC := (.loop (.seq (.reg [⟨(some p21), none, (.e (.bin .lss (.r p20) (.r p19)))⟩]) (.seq (.cond (.r p21) .skip (.exit 0)) (.seq (.block 1 (.seq (.reg [⟨(some p22), none, (.e (.mv (.r p20)))⟩, ⟨(some p5), none, (.e (.mv (.r p22)))⟩]) (.reg [⟨(some p23), none, (.e (.mv (.r p3)))⟩, ⟨(some p24), none, (.e (.nilchk (.r p23)))⟩, ⟨(some p25), none, (.e (.fa 0 (.r p24)))⟩, ⟨(some p26), none, (.e (.ld (.r p25)))⟩, ⟨(some p27), none, (.e (.mv (.r p5)))⟩, ⟨(some p28), none, (.e (.mv (.r p4)))⟩, ⟨(some p29), none, (.e (.iaS 1 (.r p26) (.r p27)))⟩, ⟨none, none, (.w (.st 1 (.r p29) (.r p28)))⟩]))) (.reg [⟨(some p30), none, (.e (.bin .add (.r p20) (.c (.int .i64 (.ofNat 1)))))⟩, ⟨(some p20), none, (.e (.mv (.r p30)))⟩])))))
noncomputable def J96_0 (E : Env) (r0 : DV) (h : H) : Ans :=
  n_mkm h fun x1 h2 =>
  vK (v_mx r0 (.int .i64 (.ofNat 1))) fun x3 =>
  vK (v_mn x3 (.int .i64 (.ofNat 4096))) fun x4 =>
  n_mks 1 16 (.str []) x4 x4 h2 fun x5 h6 =>
  vK (v_bld [.nils, .nilm, (.bool false)] [(1, 1, x1), (0, 1, x5)]) fun x7 =>
  n_box x7 h6 fun x8 h9 =>
  n_mks 1 1 (.int .u8 (.ofNat 0)) (.int .i64 (.ofNat 64)) (.int .i64 (.ofNat 64)) h9 fun x10 h11 =>
  vK (v_b2s h11.get x10) fun x12 =>
  vK (v_nilchk x8) fun x13 =>
  vK (v_fa 0 x13) fun x14 =>
  vK (v_ld h11.get x14) fun x15 =>
  vK (v_lenL x15) fun x16 =>
  L96_2 E x8 x12 x16 FUEL (.int .i64 (.ofNat 0)) h11
def C96_0 : DC := (.seq (.reg [⟨(some p2), none, (.e (.mv (.c .nilp)))⟩]) (.seq (.reg [⟨(some p6), none, (.e .mkm)⟩, ⟨(some p7), none, (.e (.mv (.r p0)))⟩, ⟨(some p8), none, (.e (.mx (.r p7) (.c (.int .i64 (.ofNat 1)))))⟩, ⟨(some p9), none, (.e (.mn (.r p8) (.c (.int .i64 (.ofNat 4096)))))⟩, ⟨(some p10), none, (.e (.mks 1 16 (.str []) (.r p9) (.r p9)))⟩, ⟨(some p11), none, (.e (.bld [.nils, .nilm, (.bool false)] [(1, 1, (.r p6)), (0, 1, (.r p10))]))⟩, ⟨(some p12), none, (.e (.box (.r p11)))⟩, ⟨(some p3), none, (.e (.mv (.r p12)))⟩]) (.seq (.reg [⟨(some p13), none, (.e (.mks 1 1 (.int .u8 (.ofNat 0)) (.c (.int .i64 (.ofNat 64))) (.c (.int .i64 (.ofNat 64)))))⟩, ⟨(some p14), none, (.e (.b2s (.r p13)))⟩, ⟨(some p4), none, (.e (.mv (.r p14)))⟩]) (.seq (.seq (.reg [⟨(some p15), none, (.e (.mv (.r p3)))⟩, ⟨(some p16), none, (.e (.nilchk (.r p15)))⟩, ⟨(some p17), none, (.e (.fa 0 (.r p16)))⟩, ⟨(some p18), none, (.e (.ld (.r p17)))⟩, ⟨(some p19), none, (.e (.lenL (.r p18)))⟩, ⟨(some p20), none, (.e (.mv (.c (.int .i64 (.ofNat 0)))))⟩]) (.block 0 C96_2)) C96_1))))
theorem I96_1 (E : Env) : Is E C96_1 (retK3 R96) (fun σ h => J96_1 E (σ p3) h) :=
  fun σ h => by kernel_rfl
noncomputable abbrev K96_3 (E : Env) : KT2 (DV × H) := (thenK3 (fun σ h => J96_1 E (σ p3) h) (retK3 R96))
theorem I96_2 (E : Env) : Is E C96_2 (blockK3 0 (K96_3 E)) (fun σ h => L96_2 E (σ p3) (σ p4) (σ p19) FUEL (σ p20) h) :=
  Is.loop (fun n2 σ h => L96_2 E (σ p3) (σ p4) (σ p19) n2 (σ p20) h) (by kernel_rfl) fun n2 => Is.as (Is.leaf _) fun σ h => by kernel_rfl
theorem I96_0 (E : Env) : Is E C96_0 (retK3 R96) (fun σ h => J96_0 E (σ p0) h) :=
  Is.as (Is.seq (Is.seq (Is.seq (Is.seq (I96_1 E) (Is.seq (Is.block (I96_2 E)) (Is.leaf _))) (Is.leaf _)) (Is.leaf _)) (Is.leaf _)) fun σ h => by kernel_rfl
def D96 : DF := ⟨1, 32, C96_0, R96⟩
noncomputable def S96 (E : Env) : Fun := fun args h => aS args fun r0 args => a0 args (J96_0 E r0 h)
theorem S96_eq (E : Env) (args : List DV) (h : H) : runFn E D96 args h = S96 E args h :=
  Is.fn1 (d := D96) (I96_0 E) rfl (fun r0 h => J96_0 E r0 h) (fun r0 h => by kernel_rfl) args h
/- hurdle/frags.Open -/
def R97 : List RV := [(.r p2), (.r p3)]
noncomputable def J97_1 (E : Env) (r6 : DV) (h : H) : Ans :=
  some ((.tup [r6, (.int .i64 (.ofNat 0))]), h)
def C97_1 : DC := (.seq (.reg [⟨(some p63), none, (.e (.mv (.r p6)))⟩, ⟨(some p2), none, (.e (.mv (.r p63)))⟩, ⟨(some p3), none, (.e (.mv (.c (.int .i64 (.ofNat 0)))))⟩]) .ret)
noncomputable def J97_3 (E : Env) (i2 : DV → H → Ans) (r24 : DV) (h : H) : Ans :=
  vK (v_add r24 (.int .i64 (.ofNat 1))) fun x1 =>
  i2 x1 h
def C97_3 : DC := (.reg [⟨(some p62), none, (.e (.bin .add (.r p24) (.c (.int .i64 (.ofNat 1)))))⟩, ⟨(some p24), none, (.e (.mv (.r p62)))⟩])
noncomputable def J97_4 (E : Env) (i2 : DV → H → Ans) (r6 r10 r24 : DV) (h : H) : Ans :=
  vK (v_nilchk r6) fun x1 =>
  vK (v_fa 1 x1) fun x2 =>
  vK (v_ld h.get x2) fun x3 =>
  vK (v_ldN 4 h.get r10) fun x4 =>
  n_bsl 1 4 [(.bool false), (.int .i64 (.ofNat 0)), (.int .i64 (.ofNat 0)), (.int .i64 (.ofNat 0))] [(0, 4, x4)] h fun x5 h6 =>
  wK (dAppendF 4 32 x3 x5 h6) fun x7 h8 =>
  vK (v_nilchk r6) fun x9 =>
  vK (v_fa 1 x9) fun x10 =>
  wK (dStF 1 x10 x7 h8) fun x11 h12 =>
  J97_3 E i2 r24 h12
def C97_4 : DC := (.drg [⟨0, ⟨(some p52), none, (.e (.mv (.r p6)))⟩, [], false⟩, ⟨1, ⟨(some p53), none, (.e (.mv (.r p6)))⟩, [], false⟩, ⟨2, ⟨(some p54), none, (.e (.nilchk (.r p53)))⟩, [], false⟩, ⟨3, ⟨(some p55), none, (.e (.fa 1 (.r p54)))⟩, [], false⟩, ⟨4, ⟨(some p56), none, (.e (.ld (.r p55)))⟩, [], false⟩, ⟨5, ⟨(some p57), none, (.e (.ldN 4 (.r p10)))⟩, [], false⟩, ⟨6, ⟨(some p58), none, (.e (.bsl 1 4 [(.bool false), (.int .i64 (.ofNat 0)), (.int .i64 (.ofNat 0)), (.int .i64 (.ofNat 0))] [(0, 4, (.r p57))]))⟩, [], false⟩, ⟨7, ⟨(some p59), none, (.w (.app 4 32 (.r p56) (.r p58)))⟩, [], false⟩, ⟨8, ⟨(some p60), none, (.e (.nilchk (.r p52)))⟩, [], false⟩, ⟨9, ⟨(some p61), none, (.e (.fa 1 (.r p60)))⟩, [], false⟩, ⟨10, ⟨none, none, (.w (.st 1 (.r p61) (.r p59)))⟩, [], false⟩])
noncomputable def B97_2 (E : Env) (r0 r6 : DV) (i2 : DV → H → Ans) (r24 : DV) (h : H) : Ans :=
  vK (v_lss r24 (.int .i64 (.ofNat 256))) fun x1 =>
  bK x1
  (vK (v_mul r24 (.int .i64 (.ofNat 9))) fun x2 =>
  wK (callK E 131 [r0, x2, (.int .i64 (.ofNat 9))] h) fun x3 h4 =>
  vK (v_ext 0 x3) fun x5 =>
  vK (v_ext 1 x3) fun x6 =>
  vK (v_eql x6 (.int .i64 (.ofNat 0))) fun x7 =>
  bK x7
  (wK (callK E 144 [x5] h4) fun x8 h9 =>
  n_alc 4 4 (.list [(.bool false), (.int .i64 (.ofNat 0)), (.int .i64 (.ofNat 0)), (.int .i64 (.ofNat 0))]) h9 fun x10 h11 =>
  wK (dStF 4 x10 x8 h11) fun x12 h13 =>
  vK (v_fa 0 x10) fun x14 =>
  vK (v_ld h13.get x14) fun x15 =>
  gdK x15 true (fun kk => kk r6 h13) h13 fun x16 h17 =>
  gdK x15 true (fun kk => vK (v_fa 1 x10) fun v => kk v h17) h17 fun x18 h19 =>
  gdK x15 true (fun kk => vK (v_ldN 2 h19.get x18) fun v => kk v h19) h19 fun x20 h21 =>
  gdK x15 true (fun kk => wK (callK E 130 [x16, x20] h21) kk) h21 fun x22 h23 =>
  gdK x15 true (fun kk => vK (v_geq x22 (.int .i64 (.ofNat 0))) fun v => kk v h23) h23 fun x24 h25 =>
  vK (v_pick x15 x24 (.bool false)) fun x26 =>
  bK x26
  (vK (v_bld [(.bool false), (.int .i64 (.ofNat 0)), (.int .i64 (.ofNat 0)), (.int .i64 (.ofNat 0))] []) fun x27 =>
  wK (dStF 4 x10 x27 h25) fun x28 h29 =>
  J97_4 E i2 r6 x10 r24 h29)
  (J97_4 E i2 r6 x10 r24 h25))
  (vK (v_eql x6 (.int .i64 (.ofNat 5))) fun x30 =>
  bK x30
  (J97_1 E r6 h4)
  (some ((.tup [.nilp, x6]), h4))))
  (J97_1 E r6 h)
noncomputable def L97_2 (E : Env) (r0 r6 : DV) (n : Nat) : DV → H → Ans := Nat.rec (motive := fun _ => DV → H → Ans) (fun _ _ => none) (fun _ i => B97_2 E r0 r6 i) n
def C97_2 : DC := (.loop (.seq (.reg [⟨(some p25), none, (.e (.bin .lss (.r p24) (.c (.int .i64 (.ofNat 256)))))⟩]) (.seq (.cond (.r p25) .skip (.exit 0)) (.seq (.block 1 (.seq (.reg [⟨(some p26), none, (.e (.mv (.r p24)))⟩, ⟨(some p7), none, (.e (.mv (.r p26)))⟩]) (.seq (.reg [⟨(some p28), none, (.e (.mv (.r p0)))⟩, ⟨(some p29), none, (.e (.mv (.r p7)))⟩, ⟨(some p30), none, (.e (.bin .mul (.r p29) (.c (.int .i64 (.ofNat 9)))))⟩, ⟨(some p31), none, (.c (.f 131 [(.r p28), (.r p30), (.c (.int .i64 (.ofNat 9)))]))⟩, ⟨(some p27), none, (.e (.mv (.r p31)))⟩, ⟨(some p32), none, (.e (.ext 0 (.r p27)))⟩, ⟨(some p33), none, (.e (.ext 1 (.r p27)))⟩, ⟨(some p8), none, (.e (.mv (.r p32)))⟩, ⟨(some p9), none, (.e (.mv (.r p33)))⟩]) (.seq (.seq (.reg [⟨(some p34), none, (.e (.mv (.r p9)))⟩]) (.block 2 (.seq (.reg [⟨(some p37), none, (.e (.bin .eql (.r p34) (.c (.int .i64 (.ofNat 0)))))⟩, ⟨(some p36), none, (.e (.mv (.r p37)))⟩]) (.cond (.r p36) .skip (.seq (.reg [⟨(some p39), none, (.e (.bin .eql (.r p34) (.c (.int .i64 (.ofNat 5)))))⟩, ⟨(some p38), none, (.e (.mv (.r p39)))⟩]) (.cond (.r p38) (.exit 0) (.seq (.reg [⟨(some p35), none, (.e (.mv (.r p9)))⟩, ⟨(some p2), none, (.e (.mv (.c .nilp)))⟩, ⟨(some p3), none, (.e (.mv (.r p35)))⟩]) .ret))))))) (.seq (.reg [⟨(some p40), none, (.e (.mv (.r p8)))⟩, ⟨(some p41), none, (.c (.f 144 [(.r p40)]))⟩, ⟨(some p10), none, (.e (.alc 4 4 (.list [(.bool false), (.int .i64 (.ofNat 0)), (.int .i64 (.ofNat 0)), (.int .i64 (.ofNat 0))])))⟩, ⟨none, none, (.w (.st 4 (.r p10) (.r p41)))⟩]) (.seq (.seq (.reg [⟨(some p42), none, (.e (.fa 0 (.r p10)))⟩, ⟨(some p43), none, (.e (.ld (.r p42)))⟩, ⟨(some p44), none, (.e (.mv (.r p43)))⟩, ⟨(some p45), (some (p44, true)), (.e (.mv (.r p6)))⟩, ⟨(some p46), (some (p44, true)), (.e (.fa 1 (.r p10)))⟩, ⟨(some p47), (some (p44, true)), (.e (.ldN 2 (.r p46)))⟩, ⟨(some p48), (some (p44, true)), (.c (.f 130 [(.r p45), (.r p47)]))⟩, ⟨(some p49), (some (p44, true)), (.e (.bin .geq (.r p48) (.c (.int .i64 (.ofNat 0)))))⟩, ⟨(some p50), none, (.e (.pick (.r p44) (.r p49) (.c (.bool false))))⟩]) (.cond (.r p50) (.reg [⟨(some p51), none, (.e (.bld [(.bool false), (.int .i64 (.ofNat 0)), (.int .i64 (.ofNat 0)), (.int .i64 (.ofNat 0))] []))⟩, ⟨none, none, (.w (.st 4 (.r p10) (.r p51)))⟩]) .skip)) C97_4)))))) C97_3))))
noncomputable def J97_0 (E : Env) (r0 : DV) (h : H) : Ans :=
  vK (v_eqv .ptr false h.get r0 .nilp) fun x1 =>
  bK x1
  (some ((.tup [.nilp, (.int .i64 (.ofNat 1))]), h))
  (wK (callK E 131 [r0, (.int .i64 (.ofNat 0)), (.int .i64 (.ofNat 1))] h) fun x2 h3 =>
  vK (v_ext 0 x2) fun x4 =>
  vK (v_ext 1 x2) fun x5 =>
  vK (v_neq x5 (.int .i64 (.ofNat 0))) fun x6 =>
  bK x6
  (some ((.tup [.nilp, x5]), h3))
  (vK (v_bld [.nilp, .nils, (.bool false)] [(0, 1, r0)]) fun x7 =>
  n_box x7 h3 fun x8 h9 =>
  L97_2 E r0 x8 FUEL (.int .i64 (.ofNat 0)) h9))
def C97_0 : DC := (.seq (.reg [⟨(some p2), none, (.e (.mv (.c .nilp)))⟩, ⟨(some p3), none, (.e (.mv (.c (.int .i64 (.ofNat 0)))))⟩]) (.scope (.seq (.seq (.reg [⟨(some p11), none, (.e (.mv (.r p0)))⟩, ⟨(some p12), none, (.e (.eqv .ptr false (.r p11) (.c .nilp)))⟩]) (.cond (.r p12) (.seq (.reg [⟨(some p2), none, (.e (.mv (.c .nilp)))⟩, ⟨(some p3), none, (.e (.mv (.c (.int .i64 (.ofNat 1)))))⟩]) .ret) .skip)) (.seq (.seq (.reg [⟨(some p14), none, (.e (.mv (.r p0)))⟩, ⟨(some p15), none, (.c (.f 131 [(.r p14), (.c (.int .i64 (.ofNat 0))), (.c (.int .i64 (.ofNat 1)))]))⟩, ⟨(some p13), none, (.e (.mv (.r p15)))⟩, ⟨(some p16), none, (.e (.ext 0 (.r p13)))⟩, ⟨(some p17), none, (.e (.ext 1 (.r p13)))⟩, ⟨(some p4), none, (.e (.mv (.r p16)))⟩, ⟨(some p5), none, (.e (.mv (.r p17)))⟩]) (.seq (.reg [⟨(some p18), none, (.e (.mv (.r p5)))⟩, ⟨(some p19), none, (.e (.bin .neq (.r p18) (.c (.int .i64 (.ofNat 0)))))⟩]) (.cond (.r p19) (.seq (.reg [⟨(some p20), none, (.e (.mv (.r p5)))⟩, ⟨(some p2), none, (.e (.mv (.c .nilp)))⟩, ⟨(some p3), none, (.e (.mv (.r p20)))⟩]) .ret) .skip))) (.seq (.reg [⟨(some p21), none, (.e (.mv (.r p0)))⟩, ⟨(some p22), none, (.e (.bld [.nilp, .nils, (.bool false)] [(0, 1, (.r p21))]))⟩, ⟨(some p23), none, (.e (.box (.r p22)))⟩, ⟨(some p6), none, (.e (.mv (.r p23)))⟩]) (.seq .skip (.seq (.seq (.reg [⟨(some p24), none, (.e (.mv (.c (.int .i64 (.ofNat 0)))))⟩]) (.block 0 C97_2)) C97_1)))))))
theorem I97_1 (E : Env) : Is E C97_1 (scopeK3 (retK3 R97)) (fun σ h => J97_1 E (σ p6) h) :=
  fun σ h => by kernel_rfl
noncomputable abbrev K97_5 (E : Env) : KT2 (DV × H) := (thenK3 (fun σ h => J97_1 E (σ p6) h) (scopeK3 (retK3 R97)))
noncomputable abbrev K97_6 (E : Env) (n2 : Nat) : KT2 (DV × H) := (thenK3 (fun σ h => (L97_2 E (σ p0) (σ p6) n2) (σ p24) h) (blockK3 0 (K97_5 E)))
theorem I97_3 (E : Env) (n2 : Nat) : Is E C97_3 (K97_6 E n2) (fun σ h => J97_3 E (L97_2 E (σ p0) (σ p6) n2) (σ p24) h) :=
  fun σ h => by kernel_rfl
noncomputable abbrev K97_7 (E : Env) (n2 : Nat) : KT2 (DV × H) := (thenK3 (fun σ h => J97_3 E (L97_2 E (σ p0) (σ p6) n2) (σ p24) h) (K97_6 E n2))
theorem I97_4 (E : Env) (n2 : Nat) : Is E C97_4 (blockK3 1 (K97_7 E n2)) (fun σ h => J97_4 E (L97_2 E (σ p0) (σ p6) n2) (σ p6) (σ p10) (σ p24) h) :=
  fun σ h => by kernel_rfl
theorem I97_2 (E : Env) : Is E C97_2 (blockK3 0 (K97_5 E)) (fun σ h => L97_2 E (σ p0) (σ p6) FUEL (σ p24) h) :=
  Is.loop (fun n2 σ h => L97_2 E (σ p0) (σ p6) n2 (σ p24) h) (by kernel_rfl) fun n2 => Is.as (Is.seq (Is.seq (Is.seq (I97_3 E n2) (Is.block (Is.seq (Is.seq (Is.seq (Is.seq (Is.seq (I97_4 E n2) (Is.leaf _)) (Is.leaf _)) (Is.leaf _)) (Is.leaf _)) (Is.leaf _)))) (Is.leaf _)) (Is.leaf _)) fun σ h => by kernel_rfl
theorem I97_0 (E : Env) : Is E C97_0 (retK3 R97) (fun σ h => J97_0 E (σ p0) h) :=
  Is.as (Is.seq (Is.scope (Is.seq (Is.seq (Is.seq (Is.seq (Is.seq (I97_1 E) (Is.seq (Is.block (I97_2 E)) (Is.leaf _))) (Is.leaf _)) (Is.leaf _)) (Is.leaf _)) (Is.leaf _))) (Is.leaf _)) fun σ h => by kernel_rfl
def D97 : DF := ⟨1, 64, C97_0, R97⟩
noncomputable def S97 (E : Env) : Fun := fun args h => aS args fun r0 args => a0 args (J97_0 E r0 h)
theorem S97_eq (E : Env) (args : List DV) (h : H) : runFn E D97 args h = S97 E args h :=
  Is.fn1 (d := D97) (I97_0 E) rfl (fun r0 h => J97_0 E r0 h) (fun r0 h => by kernel_rfl) args h
/- hurdle/members.New -/
def R98 : List RV := [(.r p4)]
noncomputable def J98_0 (E : Env) (r0 r1 : DV) (h : H) : Ans :=
  wK (callK E 145 [r0, r1] h) fun x1 h2 =>
  vK (v_not x1) fun x3 =>
  bK x3
  (some (.nilp, h2))
  (wK (callK E 146 [r0] h2) fun x4 h5 =>
  wK (callK E 146 [r1] h5) fun x6 h7 =>
  vK (v_bld [.nils, .nils, (.int .i64 (.ofNat 0)), (.int .i64 (.ofNat 0)), (.bool false), (.int .i64 (.ofNat 0))] [(0, 1, x4), (1, 1, x6), (2, 1, (.int .i64 (.ofNat 1))), (3, 1, (.int .i64 (.negSucc 0))), (5, 1, (.int .i64 (.negSucc 0)))]) fun x8 =>
  n_box x8 h7 fun x9 h10 =>
  some (x9, h10))
def C98_0 : DC := (.seq (.reg [⟨(some p4), none, (.e (.mv (.c .nilp)))⟩]) (.seq (.seq (.reg [⟨(some p5), none, (.e (.mv (.r p0)))⟩, ⟨(some p6), none, (.e (.mv (.r p1)))⟩, ⟨(some p7), none, (.c (.f 145 [(.r p5), (.r p6)]))⟩, ⟨(some p8), none, (.e (.not (.r p7)))⟩]) (.cond (.r p8) (.seq (.reg [⟨(some p4), none, (.e (.mv (.c .nilp)))⟩]) .ret) .skip)) (.seq (.reg [⟨(some p9), none, (.e (.mv (.r p0)))⟩, ⟨(some p10), none, (.c (.f 146 [(.r p9)]))⟩, ⟨(some p11), none, (.e (.mv (.r p1)))⟩, ⟨(some p12), none, (.c (.f 146 [(.r p11)]))⟩, ⟨(some p13), none, (.e (.bld [.nils, .nils, (.int .i64 (.ofNat 0)), (.int .i64 (.ofNat 0)), (.bool false), (.int .i64 (.ofNat 0))] [(0, 1, (.r p10)), (1, 1, (.r p12)), (2, 1, (.c (.int .i64 (.ofNat 1)))), (3, 1, (.c (.int .i64 (.negSucc 0)))), (5, 1, (.c (.int .i64 (.negSucc 0))))]))⟩, ⟨(some p14), none, (.e (.box (.r p13)))⟩, ⟨(some p4), none, (.e (.mv (.r p14)))⟩]) .ret)))
theorem I98_0 (E : Env) : Is E C98_0 (retK3 R98) (fun σ h => J98_0 E (σ p0) (σ p1) h) :=
  fun σ h => by kernel_rfl
def D98 : DF := ⟨2, 15, C98_0, R98⟩
noncomputable def S98 (E : Env) : Fun := fun args h => aS args fun r0 args => aS args fun r1 args => a0 args (J98_0 E r0 r1 h)
theorem S98_eq (E : Env) (args : List DV) (h : H) : runFn E D98 args h = S98 E args h :=
  Is.fn2 (d := D98) (I98_0 E) rfl (fun r0 r1 h => J98_0 E r0 r1 h) (fun r0 r1 h => by kernel_rfl) args h
/- hurdle/smap.New -/
def R99 : List RV := [(.r p0)]
noncomputable def J99_0 (E : Env) (h : H) : Ans :=
  vK (v_bld [.nils, (.int .i64 (.ofNat 0))] []) fun x1 =>
  n_box x1 h fun x2 h3 =>
  some (x2, h3)
def C99_0 : DC := (.seq (.reg [⟨(some p0), none, (.e (.mv (.c .nilp)))⟩]) (.seq (.reg [⟨(some p1), none, (.e (.bld [.nils, (.int .i64 (.ofNat 0))] []))⟩, ⟨(some p2), none, (.e (.box (.r p1)))⟩, ⟨(some p0), none, (.e (.mv (.r p2)))⟩]) .ret))
theorem I99_0 (E : Env) : Is E C99_0 (retK3 R99) (fun σ h => J99_0 E h) :=
  fun σ h => by kernel_rfl
def D99 : DF := ⟨0, 3, C99_0, R99⟩
noncomputable def S99 (E : Env) : Fun := fun args h => a0 args (J99_0 E h)
theorem S99_eq (E : Env) (args : List DV) (h : H) : runFn E D99 args h = S99 E args h :=
  Is.fn0 (d := D99) (I99_0 E) rfl (fun h => J99_0 E h) (fun h => by kernel_rfl) args h
/- hurdle/imap.New -/
def R100 : List RV := [(.r p0)]
noncomputable def J100_0 (E : Env) (h : H) : Ans :=
  vK (v_bld [(.int .i64 (.ofNat 0)), (.int .i64 (.ofNat 0)), (.int .i64 (.ofNat 0)), (.int .i64 (.ofNat 0)), (.int .i64 (.ofNat 0)), (.int .i64 (.ofNat 0)), (.int .i64 (.ofNat 0)), (.int .i64 (.ofNat 0)), (.int .i64 (.ofNat 0)), (.int .i64 (.ofNat 0)), (.int .i64 (.ofNat 0)), (.int .i64 (.ofNat 0)), (.int .i64 (.ofNat 0)), (.int .i64 (.ofNat 0)), (.int .i64 (.ofNat 0)), (.int .i64 (.ofNat 0)), (.int .i64 (.ofNat 0)), (.int .i64 (.ofNat 0)), (.int .i64 (.ofNat 0)), (.int .i64 (.ofNat 0)), (.int .i64 (.ofNat 0)), (.int .i64 (.ofNat 0)), (.int .i64 (.ofNat 0)), (.int .i64 (.ofNat 0)), (.int .i64 (.ofNat 0)), (.int .i64 (.ofNat 0)), (.int .i64 (.ofNat 0)), (.int .i64 (.ofNat 0)), (.int .i64 (.ofNat 0)), (.int .i64 (.ofNat 0)), (.int .i64 (.ofNat 0)), (.int .i64 (.ofNat 0)), (.int .i64 (.ofNat 0)), (.int .i64 (.ofNat 0)), (.int .i64 (.ofNat 0)), (.int .i64 (.ofNat 0)), (.int .i64 (.ofNat 0)), (.int .i64 (.ofNat 0)), (.int .i64 (.ofNat 0)), (.int .i64 (.ofNat 0)), (.int .i64 (.ofNat 0)), (.int .i64 (.ofNat 0)), (.int .i64 (.ofNat 0)), (.int .i64 (.ofNat 0)), (.int .i64 (.ofNat 0)), (.int .i64 (.ofNat 0)), (.int .i64 (.ofNat 0)), (.int .i64 (.ofNat 0)), (.int .i64 (.ofNat 0)), (.int .i64 (.ofNat 0)), (.int .i64 (.ofNat 0)), (.int .i64 (.ofNat 0)), (.int .i64 (.ofNat 0)), (.int .i64 (.ofNat 0)), (.int .i64 (.ofNat 0)), (.int .i64 (.ofNat 0)), (.int .i64 (.ofNat 0)), (.int .i64 (.ofNat 0)), (.int .i64 (.ofNat 0)), (.int .i64 (.ofNat 0)), (.int .i64 (.ofNat 0)), (.int .i64 (.ofNat 0)), (.int .i64 (.ofNat 0)), (.int .i64 (.ofNat 0)), (.int .i64 (.ofNat 0)), (.int .i64 (.ofNat 0)), (.int .i64 (.ofNat 0)), (.int .i64 (.ofNat 0)), (.int .i64 (.ofNat 0)), (.int .i64 (.ofNat 0)), (.int .i64 (.ofNat 0)), (.int .i64 (.ofNat 0)), (.int .i64 (.ofNat 0)), (.int .i64 (.ofNat 0)), (.int .i64 (.ofNat 0)), (.int .i64 (.ofNat 0)), (.int .i64 (.ofNat 0)), (.int .i64 (.ofNat 0)), (.int .i64 (.ofNat 0)), (.int .i64 (.ofNat 0)), (.int .i64 (.ofNat 0)), (.int .i64 (.ofNat 0)), (.int .i64 (.ofNat 0)), (.int .i64 (.ofNat 0)), (.int .i64 (.ofNat 0)), (.int .i64 (.ofNat 0)), (.int .i64 (.ofNat 0)), (.int .i64 (.ofNat 0)), (.int .i64 (.ofNat 0)), (.int .i64 (.ofNat 0)), (.int .i64 (.ofNat 0)), (.int .i64 (.ofNat 0)), (.int .i64 (.ofNat 0)), (.int .i64 (.ofNat 0)), (.int .i64 (.ofNat 0)), (.int .i64 (.ofNat 0)), (.int .i64 (.ofNat 0)), (.int .i64 (.ofNat 0)), (.int .i64 (.ofNat 0)), (.int .i64 (.ofNat 0)), (.int .i64 (.ofNat 0)), (.int .i64 (.ofNat 0)), (.int .i64 (.ofNat 0)), (.int .i64 (.ofNat 0)), (.int .i64 (.ofNat 0)), (.int .i64 (.ofNat 0)), (.int .i64 (.ofNat 0)), (.int .i64 (.ofNat 0)), (.int .i64 (.ofNat 0)), (.int .i64 (.ofNat 0)), (.int .i64 (.ofNat 0)), (.int .i64 (.ofNat 0)), (.int .i64 (.ofNat 0)), (.int .i64 (.ofNat 0)), (.int .i64 (.ofNat 0)), (.int .i64 (.ofNat 0)), (.int .i64 (.ofNat 0)), (.int .i64 (.ofNat 0)), (.int .i64 (.ofNat 0)), (.int .i64 (.ofNat 0)), (.int .i64 (.ofNat 0)), (.int .i64 (.ofNat 0)), (.int .i64 (.ofNat 0)), (.int .i64 (.ofNat 0)), (.int .i64 (.ofNat 0)), (.int .i64 (.ofNat 0)), (.int .i64 (.ofNat 0)), (.int .i64 (.ofNat 0)), (.int .i64 (.ofNat 0)), (.int .i64 (.ofNat 0)), (.int .i64 (.ofNat 0)), (.int .i64 (.ofNat 0)), (.int .i64 (.ofNat 0)), (.int .i64 (.ofNat 0)), (.int .i64 (.ofNat 0)), (.int .i64 (.ofNat 0)), (.int .i64 (.ofNat 0)), (.int .i64 (.ofNat 0)), (.int .i64 (.ofNat 0)), (.int .i64 (.ofNat 0)), (.int .i64 (.ofNat 0)), (.int .i64 (.ofNat 0)), (.int .i64 (.ofNat 0)), (.int .i64 (.ofNat 0)), (.int .i64 (.ofNat 0)), (.int .i64 (.ofNat 0)), (.int .i64 (.ofNat 0)), (.int .i64 (.ofNat 0)), (.int .i64 (.ofNat 0)), (.int .i64 (.ofNat 0)), (.int .i64 (.ofNat 0)), (.int .i64 (.ofNat 0)), (.int .i64 (.ofNat 0)), (.int .i64 (.ofNat 0)), (.int .i64 (.ofNat 0)), (.int .i64 (.ofNat 0)), (.int .i64 (.ofNat 0)), (.int .i64 (.ofNat 0)), (.int .i64 (.ofNat 0)), (.int .i64 (.ofNat 0)), (.int .i64 (.ofNat 0)), (.int .i64 (.ofNat 0)), (.int .i64 (.ofNat 0)), (.int .i64 (.ofNat 0)), (.int .i64 (.ofNat 0)), (.int .i64 (.ofNat 0)), (.int .i64 (.ofNat 0)), (.int .i64 (.ofNat 0)), (.int .i64 (.ofNat 0)), (.int .i64 (.ofNat 0)), (.int .i64 (.ofNat 0)), (.int .i64 (.ofNat 0)), (.int .i64 (.ofNat 0)), (.int .i64 (.ofNat 0)), (.int .i64 (.ofNat 0)), (.int .i64 (.ofNat 0)), (.int .i64 (.ofNat 0)), (.int .i64 (.ofNat 0)), (.int .i64 (.ofNat 0)), (.int .i64 (.ofNat 0)), (.int .i64 (.ofNat 0)), (.int .i64 (.ofNat 0)), (.int .i64 (.ofNat 0)), (.int .i64 (.ofNat 0)), (.int .i64 (.ofNat 0)), (.int .i64 (.ofNat 0)), (.int .i64 (.ofNat 0)), (.int .i64 (.ofNat 0)), (.int .i64 (.ofNat 0)), (.int .i64 (.ofNat 0)), (.int .i64 (.ofNat 0)), (.int .i64 (.ofNat 0)), (.int .i64 (.ofNat 0)), (.int .i64 (.ofNat 0)), (.int .i64 (.ofNat 0)), (.int .i64 (.ofNat 0)), (.int .i64 (.ofNat 0)), (.int .i64 (.ofNat 0)), (.int .i64 (.ofNat 0)), (.int .i64 (.ofNat 0)), (.int .i64 (.ofNat 0)), (.int .i64 (.ofNat 0)), (.int .i64 (.ofNat 0)), (.int .i64 (.ofNat 0)), (.int .i64 (.ofNat 0)), (.int .i64 (.ofNat 0)), (.int .i64 (.ofNat 0)), (.int .i64 (.ofNat 0)), (.int .i64 (.ofNat 0)), (.int .i64 (.ofNat 0)), (.int .i64 (.ofNat 0)), (.int .i64 (.ofNat 0)), (.int .i64 (.ofNat 0)), (.int .i64 (.ofNat 0)), (.int .i64 (.ofNat 0)), (.int .i64 (.ofNat 0)), (.int .i64 (.ofNat 0)), (.int .i64 (.ofNat 0)), (.int .i64 (.ofNat 0)), (.int .i64 (.ofNat 0)), (.int .i64 (.ofNat 0)), (.int .i64 (.ofNat 0)), (.int .i64 (.ofNat 0)), (.int .i64 (.ofNat 0)), (.int .i64 (.ofNat 0)), (.int .i64 (.ofNat 0)), (.int .i64 (.ofNat 0)), (.int .i64 (.ofNat 0)), (.int .i64 (.ofNat 0)), (.int .i64 (.ofNat 0)), (.int .i64 (.ofNat 0)), (.int .i64 (.ofNat 0)), (.int .i64 (.ofNat 0)), (.int .i64 (.ofNat 0)), (.int .i64 (.ofNat 0)), (.int .i64 (.ofNat 0)), (.int .i64 (.ofNat 0)), (.int .i64 (.ofNat 0)), (.int .i64 (.ofNat 0)), (.int .i64 (.ofNat 0)), (.int .i64 (.ofNat 0)), (.int .i64 (.ofNat 0)), (.int .i64 (.ofNat 0)), (.int .i64 (.ofNat 0)), (.int .i64 (.ofNat 0)), (.int .i64 (.ofNat 0)), (.int .i64 (.ofNat 0)), (.int .i64 (.ofNat 0)), (.int .i64 (.ofNat 0)), (.int .i64 (.ofNat 0)), (.int .i64 (.ofNat 0)), (.int .i64 (.ofNat 0)), (.int .i64 (.ofNat 0)), (.int .i64 (.ofNat 0)), (.int .i64 (.ofNat 0)), (.int .i64 (.ofNat 0)), (.int .i64 (.ofNat 0)), (.int .i64 (.ofNat 0)), (.int .i64 (.ofNat 0)), (.int .i64 (.ofNat 0)), (.int .i64 (.ofNat 0)), (.int .i64 (.ofNat 0)), (.int .i64 (.ofNat 0)), (.int .i64 (.ofNat 0)), (.int .i64 (.ofNat 0)), (.int .i64 (.ofNat 0)), (.int .i64 (.ofNat 0)), (.int .i64 (.ofNat 0)), (.int .i64 (.ofNat 0)), (.int .i64 (.ofNat 0)), (.int .i64 (.ofNat 0)), (.int .i64 (.ofNat 0)), (.int .i64 (.ofNat 0)), (.int .i64 (.ofNat 0)), (.int .i64 (.ofNat 0)), (.int .i64 (.ofNat 0)), (.int .i64 (.ofNat 0)), (.int .i64 (.ofNat 0)), (.int .i64 (.ofNat 0)), (.int .i64 (.ofNat 0)), (.int .i64 (.ofNat 0)), (.int .i64 (.ofNat 0)), (.int .i64 (.ofNat 0)), (.int .i64 (.ofNat 0)), (.int .i64 (.ofNat 0)), (.int .i64 (.ofNat 0)), (.int .i64 (.ofNat 0)), (.int .i64 (.ofNat 0)), (.int .i64 (.ofNat 0)), (.int .i64 (.ofNat 0)), (.int .i64 (.ofNat 0)), (.int .i64 (.ofNat 0)), (.int .i64 (.ofNat 0)), (.int .i64 (.ofNat 0)), (.int .i64 (.ofNat 0)), (.int .i64 (.ofNat 0)), (.int .i64 (.ofNat 0)), (.int .i64 (.ofNat 0)), (.int .i64 (.ofNat 0)), (.int .i64 (.ofNat 0)), (.int .i64 (.ofNat 0)), (.int .i64 (.ofNat 0)), (.int .i64 (.ofNat 0)), (.int .i64 (.ofNat 0)), (.int .i64 (.ofNat 0)), (.int .i64 (.ofNat 0)), (.int .i64 (.ofNat 0)), (.int .i64 (.ofNat 0)), (.int .i64 (.ofNat 0)), (.int .i64 (.ofNat 0)), (.int .i64 (.ofNat 0)), (.int .i64 (.ofNat 0)), (.int .i64 (.ofNat 0)), (.int .i64 (.ofNat 0)), (.int .i64 (.ofNat 0)), (.int .i64 (.ofNat 0)), (.int .i64 (.ofNat 0)), (.int .i64 (.ofNat 0)), (.int .i64 (.ofNat 0)), (.int .i64 (.ofNat 0)), (.int .i64 (.ofNat 0)), (.int .i64 (.ofNat 0)), (.int .i64 (.ofNat 0)), (.int .i64 (.ofNat 0)), (.int .i64 (.ofNat 0)), (.int .i64 (.ofNat 0)), (.int .i64 (.ofNat 0)), (.int .i64 (.ofNat 0)), (.int .i64 (.ofNat 0)), (.int .i64 (.ofNat 0)), (.int .i64 (.ofNat 0)), (.int .i64 (.ofNat 0)), (.int .i64 (.ofNat 0)), (.int .i64 (.ofNat 0)), (.int .i64 (.ofNat 0)), (.int .i64 (.ofNat 0)), (.int .i64 (.ofNat 0)), (.int .i64 (.ofNat 0)), (.int .i64 (.ofNat 0)), (.int .i64 (.ofNat 0)), (.int .i64 (.ofNat 0)), (.int .i64 (.ofNat 0)), (.int .i64 (.ofNat 0)), (.int .i64 (.ofNat 0)), (.int .i64 (.ofNat 0)), (.int .i64 (.ofNat 0)), (.int .i64 (.ofNat 0)), (.int .i64 (.ofNat 0)), (.int .i64 (.ofNat 0)), (.int .i64 (.ofNat 0)), (.int .i64 (.ofNat 0)), (.int .i64 (.ofNat 0)), (.int .i64 (.ofNat 0)), (.int .i64 (.ofNat 0)), (.int .i64 (.ofNat 0)), (.int .i64 (.ofNat 0)), (.int .i64 (.ofNat 0)), (.int .i64 (.ofNat 0)), (.int .i64 (.ofNat 0)), (.int .i64 (.ofNat 0)), (.int .i64 (.ofNat 0)), (.int .i64 (.ofNat 0)), (.int .i64 (.ofNat 0)), (.int .i64 (.ofNat 0)), (.int .i64 (.ofNat 0)), (.int .i64 (.ofNat 0)), (.int .i64 (.ofNat 0)), (.int .i64 (.ofNat 0)), (.int .i64 (.ofNat 0)), (.int .i64 (.ofNat 0)), (.int .i64 (.ofNat 0)), (.int .i64 (.ofNat 0)), (.int .i64 (.ofNat 0)), (.int .i64 (.ofNat 0)), (.int .i64 (.ofNat 0)), (.int .i64 (.ofNat 0)), (.int .i64 (.ofNat 0)), (.int .i64 (.ofNat 0)), (.int .i64 (.ofNat 0)), (.int .i64 (.ofNat 0)), (.int .i64 (.ofNat 0)), (.int .i64 (.ofNat 0)), (.int .i64 (.ofNat 0)), (.int .i64 (.ofNat 0)), (.int .i64 (.ofNat 0)), (.int .i64 (.ofNat 0)), (.int .i64 (.ofNat 0)), (.int .i64 (.ofNat 0)), (.int .i64 (.ofNat 0)), (.int .i64 (.ofNat 0)), (.int .i64 (.ofNat 0)), (.int .i64 (.ofNat 0)), (.int .i64 (.ofNat 0)), (.int .i64 (.ofNat 0)), (.int .i64 (.ofNat 0)), (.int .i64 (.ofNat 0)), (.int .i64 (.ofNat 0)), (.int .i64 (.ofNat 0)), (.int .i64 (.ofNat 0)), (.int .i64 (.ofNat 0)), (.int .i64 (.ofNat 0)), (.int .i64 (.ofNat 0)), (.int .i64 (.ofNat 0)), (.int .i64 (.ofNat 0)), (.int .i64 (.ofNat 0)), (.int .i64 (.ofNat 0)), (.int .i64 (.ofNat 0)), (.int .i64 (.ofNat 0)), (.int .i64 (.ofNat 0)), (.int .i64 (.ofNat 0)), (.int .i64 (.ofNat 0)), (.int .i64 (.ofNat 0)), (.int .i64 (.ofNat 0)), (.int .i64 (.ofNat 0)), (.int .i64 (.ofNat 0)), (.int .i64 (.ofNat 0)), (.int .i64 (.ofNat 0)), (.int .i64 (.ofNat 0)), (.int .i64 (.ofNat 0)), (.int .i64 (.ofNat 0)), (.int .i64 (.ofNat 0)), (.int .i64 (.ofNat 0)), (.int .i64 (.ofNat 0)), (.int .i64 (.ofNat 0)), (.int .i64 (.ofNat 0)), (.int .i64 (.ofNat 0)), (.int .i64 (.ofNat 0)), (.int .i64 (.ofNat 0)), (.int .i64 (.ofNat 0)), (.int .i64 (.ofNat 0)), (.int .i64 (.ofNat 0)), (.int .i64 (.ofNat 0)), (.int .i64 (.ofNat 0)), (.int .i64 (.ofNat 0)), (.int .i64 (.ofNat 0)), (.int .i64 (.ofNat 0)), (.int .i64 (.ofNat 0)), (.int .i64 (.ofNat 0)), (.int .i64 (.ofNat 0)), (.int .i64 (.ofNat 0)), (.int .i64 (.ofNat 0)), (.int .i64 (.ofNat 0)), (.int .i64 (.ofNat 0)), (.int .i64 (.ofNat 0)), (.int .i64 (.ofNat 0)), (.int .i64 (.ofNat 0)), (.int .i64 (.ofNat 0)), (.int .i64 (.ofNat 0)), (.int .i64 (.ofNat 0)), (.int .i64 (.ofNat 0)), (.int .i64 (.ofNat 0)), (.int .i64 (.ofNat 0)), (.int .i64 (.ofNat 0)), (.int .i64 (.ofNat 0)), (.int .i64 (.ofNat 0)), (.int .i64 (.ofNat 0)), (.int .i64 (.ofNat 0)), (.int .i64 (.ofNat 0)), (.int .i64 (.ofNat 0)), (.int .i64 (.ofNat 0)), (.int .i64 (.ofNat 0)), (.int .i64 (.ofNat 0)), (.int .i64 (.ofNat 0)), (.int .i64 (.ofNat 0)), (.int .i64 (.ofNat 0)), (.int .i64 (.ofNat 0)), (.int .i64 (.ofNat 0)), (.int .i64 (.ofNat 0)), (.int .i64 (.ofNat 0)), (.int .i64 (.ofNat 0)), (.int .i64 (.ofNat 0)), (.int .i64 (.ofNat 0)), (.int .i64 (.ofNat 0)), (.int .i64 (.ofNat 0)), (.int .i64 (.ofNat 0)), (.int .i64 (.ofNat 0)), (.int .i64 (.ofNat 0)), (.int .i64 (.ofNat 0)), (.int .i64 (.ofNat 0)), (.int .i64 (.ofNat 0)), (.int .i64 (.ofNat 0)), (.int .i64 (.ofNat 0)), (.int .i64 (.ofNat 0)), (.int .i64 (.ofNat 0)), (.int .i64 (.ofNat 0)), (.int .i64 (.ofNat 0)), (.int .i64 (.ofNat 0)), (.int .i64 (.ofNat 0)), (.int .i64 (.ofNat 0)), (.int .i64 (.ofNat 0)), (.int .i64 (.ofNat 0)), (.int .i64 (.ofNat 0)), (.int .i64 (.ofNat 0)), (.int .i64 (.ofNat 0)), (.int .i64 (.ofNat 0)), (.int .i64 (.ofNat 0)), (.int .i64 (.ofNat 0)), (.int .i64 (.ofNat 0)), (.int .i64 (.ofNat 0)), (.int .i64 (.ofNat 0)), (.int .i64 (.ofNat 0)), (.int .i64 (.ofNat 0)), (.int .i64 (.ofNat 0)), (.int .i64 (.ofNat 0)), (.int .i64 (.ofNat 0)), (.int .i64 (.ofNat 0)), (.int .i64 (.ofNat 0)), (.int .i64 (.ofNat 0)), (.int .i64 (.ofNat 0)), (.int .i64 (.ofNat 0)), (.int .i64 (.ofNat 0)), (.int .i64 (.ofNat 0)), (.int .i64 (.ofNat 0)), (.int .i64 (.ofNat 0)), (.int .i64 (.ofNat 0)), (.int .i64 (.ofNat 0)), (.int .i64 (.ofNat 0)), (.int .i64 (.ofNat 0)), (.int .i64 (.ofNat 0)), (.int .i64 (.ofNat 0)), (.int .i64 (.ofNat 0)), (.int .i64 (.ofNat 0)), (.int .i64 (.ofNat 0)), (.int .i64 (.ofNat 0)), (.int .i64 (.ofNat 0)), (.int .i64 (.ofNat 0)), (.int .i64 (.ofNat 0)), (.int .i64 (.ofNat 0)), (.int .i64 (.ofNat 0)), (.int .i64 (.ofNat 0)), (.int .i64 (.ofNat 0)), (.int .i64 (.ofNat 0)), (.int .i64 (.ofNat 0)), (.int .i64 (.ofNat 0)), (.int .i64 (.ofNat 0)), (.int .i64 (.ofNat 0)), (.int .i64 (.ofNat 0)), (.int .i64 (.ofNat 0)), (.int .i64 (.ofNat 0)), (.int .i64 (.ofNat 0)), (.int .i64 (.ofNat 0)), (.int .i64 (.ofNat 0)), (.int .i64 (.ofNat 0)), (.int .i64 (.ofNat 0)), (.int .i64 (.ofNat 0)), (.int .i64 (.ofNat 0)), (.int .i64 (.ofNat 0)), (.int .i64 (.ofNat 0)), (.int .i64 (.ofNat 0)), (.int .i64 (.ofNat 0)), (.int .i64 (.ofNat 0)), (.int .i64 (.ofNat 0)), (.int .i64 (.ofNat 0)), (.int .i64 (.ofNat 0)), (.int .i64 (.ofNat 0)), (.int .i64 (.ofNat 0)), (.int .i64 (.ofNat 0)), (.int .i64 (.ofNat 0)), (.int .i64 (.ofNat 0)), (.int .i64 (.ofNat 0)), (.int .i64 (.ofNat 0)), (.int .i64 (.ofNat 0)), (.int .i64 (.ofNat 0)), (.int .i64 (.ofNat 0)), (.int .i64 (.ofNat 0)), (.int .i64 (.ofNat 0)), (.int .i64 (.ofNat 0)), (.int .i64 (.ofNat 0)), (.int .i64 (.ofNat 0)), (.int .i64 (.ofNat 0)), (.int .i64 (.ofNat 0)), (.int .i64 (.ofNat 0)), (.int .i64 (.ofNat 0)), (.int .i64 (.ofNat 0)), (.int .i64 (.ofNat 0)), (.int .i64 (.ofNat 0)), (.int .i64 (.ofNat 0)), (.int .i64 (.ofNat 0)), (.int .i64 (.ofNat 0)), (.int .i64 (.ofNat 0)), (.int .i64 (.ofNat 0)), (.int .i64 (.ofNat 0)), (.int .i64 (.ofNat 0)), (.int .i64 (.ofNat 0)), (.int .i64 (.ofNat 0)), (.int .i64 (.ofNat 0)), (.int .i64 (.ofNat 0)), (.int .i64 (.ofNat 0)), (.int .i64 (.ofNat 0)), (.int .i64 (.ofNat 0)), (.int .i64 (.ofNat 0)), (.int .i64 (.ofNat 0)), (.int .i64 (.ofNat 0)), (.int .i64 (.ofNat 0)), (.int .i64 (.ofNat 0)), (.int .i64 (.ofNat 0)), (.int .i64 (.ofNat 0)), (.int .i64 (.ofNat 0)), (.int .i64 (.ofNat 0)), (.int .i64 (.ofNat 0)), (.int .i64 (.ofNat 0)), (.int .i64 (.ofNat 0)), (.int .i64 (.ofNat 0)), (.int .i64 (.ofNat 0)), (.int .i64 (.ofNat 0)), (.int .i64 (.ofNat 0)), (.int .i64 (.ofNat 0)), (.int .i64 (.ofNat 0)), (.int .i64 (.ofNat 0)), (.int .i64 (.ofNat 0)), (.int .i64 (.ofNat 0)), (.int .i64 (.ofNat 0)), (.int .i64 (.ofNat 0)), (.int .i64 (.ofNat 0)), (.int .i64 (.ofNat 0)), (.int .i64 (.ofNat 0)), (.int .i64 (.ofNat 0)), (.int .i64 (.ofNat 0)), (.int .i64 (.ofNat 0)), (.int .i64 (.ofNat 0)), (.int .i64 (.ofNat 0)), (.int .i64 (.ofNat 0)), (.int .i64 (.ofNat 0)), (.int .i64 (.ofNat 0)), (.int .i64 (.ofNat 0)), (.int .i64 (.ofNat 0)), (.int .i64 (.ofNat 0)), (.int .i64 (.ofNat 0)), (.int .i64 (.ofNat 0)), (.int .i64 (.ofNat 0)), (.int .i64 (.ofNat 0)), (.int .i64 (.ofNat 0)), (.int .i64 (.ofNat 0)), (.int .i64 (.ofNat 0)), (.int .i64 (.ofNat 0)), (.int .i64 (.ofNat 0)), (.int .i64 (.ofNat 0)), (.int .i64 (.ofNat 0)), (.int .i64 (.ofNat 0)), (.int .i64 (.ofNat 0)), (.int .i64 (.ofNat 0)), (.int .i64 (.ofNat 0)), (.int .i64 (.ofNat 0)), (.int .i64 (.ofNat 0)), (.int .i64 (.ofNat 0)), (.int .i64 (.ofNat 0)), (.int .i64 (.ofNat 0)), (.int .i64 (.ofNat 0)), (.int .i64 (.ofNat 0)), (.int .i64 (.ofNat 0)), (.int .i64 (.ofNat 0)), (.int .i64 (.ofNat 0)), (.int .i64 (.ofNat 0)), (.int .i64 (.ofNat 0)), (.int .i64 (.ofNat 0)), (.int .i64 (.ofNat 0)), (.int .i64 (.ofNat 0)), (.int .i64 (.ofNat 0)), (.int .i64 (.ofNat 0)), (.int .i64 (.ofNat 0)), (.int .i64 (.ofNat 0)), (.int .i64 (.ofNat 0)), (.int .i64 (.ofNat 0)), (.int .i64 (.ofNat 0)), (.int .i64 (.ofNat 0)), (.int .i64 (.ofNat 0)), (.int .i64 (.ofNat 0)), (.int .i64 (.ofNat 0)), (.int .i64 (.ofNat 0)), (.int .i64 (.ofNat 0)), (.int .i64 (.ofNat 0)), (.int .i64 (.ofNat 0)), (.int .i64 (.ofNat 0)), (.int .i64 (.ofNat 0)), (.int .i64 (.ofNat 0)), (.int .i64 (.ofNat 0)), (.int .i64 (.ofNat 0)), (.int .i64 (.ofNat 0)), (.int .i64 (.ofNat 0)), (.int .i64 (.ofNat 0)), (.int .i64 (.ofNat 0)), (.int .i64 (.ofNat 0)), (.int .i64 (.ofNat 0)), (.int .i64 (.ofNat 0)), (.int .i64 (.ofNat 0)), (.int .i64 (.ofNat 0)), (.int .i64 (.ofNat 0)), (.int .i64 (.ofNat 0)), (.int .i64 (.ofNat 0)), (.int .i64 (.ofNat 0)), (.int .i64 (.ofNat 0)), (.int .i64 (.ofNat 0)), (.int .i64 (.ofNat 0)), (.int .i64 (.ofNat 0)), (.int .i64 (.ofNat 0)), (.int .i64 (.ofNat 0)), (.int .i64 (.ofNat 0)), (.int .i64 (.ofNat 0)), (.int .i64 (.ofNat 0)), (.int .i64 (.ofNat 0)), (.int .i64 (.ofNat 0)), (.int .i64 (.ofNat 0)), (.int .i64 (.ofNat 0)), (.int .i64 (.ofNat 0)), (.int .i64 (.ofNat 0)), (.int .i64 (.ofNat 0)), (.int .i64 (.ofNat 0)), (.int .i64 (.ofNat 0)), (.int .i64 (.ofNat 0)), (.int .i64 (.ofNat 0)), (.int .i64 (.ofNat 0)), (.int .i64 (.ofNat 0)), (.int .i64 (.ofNat 0)), (.int .i64 (.ofNat 0)), (.int .i64 (.ofNat 0)), (.int .i64 (.ofNat 0)), (.int .i64 (.ofNat 0)), (.int .i64 (.ofNat 0)), (.int .i64 (.ofNat 0)), (.int .i64 (.ofNat 0)), (.int .i64 (.ofNat 0)), (.int .i64 (.ofNat 0)), (.int .i64 (.ofNat 0)), (.int .i64 (.ofNat 0)), (.int .i64 (.ofNat 0)), (.int .i64 (.ofNat 0)), (.int .i64 (.ofNat 0)), (.int .i64 (.ofNat 0)), (.int .i64 (.ofNat 0)), (.int .i64 (.ofNat 0)), (.int .i64 (.ofNat 0)), (.int .i64 (.ofNat 0)), (.int .i64 (.ofNat 0)), (.int .i64 (.ofNat 0)), (.int .i64 (.ofNat 0)), (.int .i64 (.ofNat 0)), (.int .i64 (.ofNat 0)), (.int .i64 (.ofNat 0)), (.int .i64 (.ofNat 0)), (.int .i64 (.ofNat 0)), (.int .i64 (.ofNat 0)), (.int .i64 (.ofNat 0)), (.int .i64 (.ofNat 0)), (.int .i64 (.ofNat 0)), (.int .i64 (.ofNat 0)), (.int .i64 (.ofNat 0)), (.int .i64 (.ofNat 0)), (.int .i64 (.ofNat 0)), (.int .i64 (.ofNat 0)), (.int .i64 (.ofNat 0)), (.int .i64 (.ofNat 0)), (.int .i64 (.ofNat 0)), (.int .i64 (.ofNat 0)), (.int .i64 (.ofNat 0)), (.int .i64 (.ofNat 0)), (.int .i64 (.ofNat 0)), (.int .i64 (.ofNat 0)), (.int .i64 (.ofNat 0)), (.int .i64 (.ofNat 0)), (.int .i64 (.ofNat 0)), (.int .i64 (.ofNat 0)), (.int .i64 (.ofNat 0)), (.int .i64 (.ofNat 0)), (.int .i64 (.ofNat 0)), (.int .i64 (.ofNat 0)), (.int .i64 (.ofNat 0)), (.int .i64 (.ofNat 0)), (.int .i64 (.ofNat 0)), (.int .i64 (.ofNat 0)), (.int .i64 (.ofNat 0)), (.int .i64 (.ofNat 0)), (.int .i64 (.ofNat 0)), (.int .i64 (.ofNat 0)), (.int .i64 (.ofNat 0)), (.int .i64 (.ofNat 0)), (.int .i64 (.ofNat 0)), (.int .i64 (.ofNat 0)), (.int .i64 (.ofNat 0)), (.int .i64 (.ofNat 0)), (.int .i64 (.ofNat 0)), (.int .i64 (.ofNat 0)), (.int .i64 (.ofNat 0)), (.int .i64 (.ofNat 0)), (.int .i64 (.ofNat 0)), (.int .i64 (.ofNat 0)), (.int .i64 (.ofNat 0)), (.int .i64 (.ofNat 0)), (.int .i64 (.ofNat 0)), (.int .i64 (.ofNat 0)), (.int .i64 (.ofNat 0)), (.int .i64 (.ofNat 0)), (.int .i64 (.ofNat 0)), (.int .i64 (.ofNat 0)), (.int .i64 (.ofNat 0)), (.int .i64 (.ofNat 0)), (.int .i64 (.ofNat 0)), (.int .i64 (.ofNat 0)), (.int .i64 (.ofNat 0)), (.int .i64 (.ofNat 0)), (.int .i64 (.ofNat 0)), (.int .i64 (.ofNat 0)), (.int .i64 (.ofNat 0)), (.int .i64 (.ofNat 0)), (.int .i64 (.ofNat 0)), (.int .i64 (.ofNat 0)), (.int .i64 (.ofNat 0)), (.int .i64 (.ofNat 0)), (.int .i64 (.ofNat 0)), (.int .i64 (.ofNat 0)), (.int .i64 (.ofNat 0)), (.int .i64 (.ofNat 0)), (.int .i64 (.ofNat 0)), (.int .i64 (.ofNat 0)), (.int .i64 (.ofNat 0)), (.int .i64 (.ofNat 0)), (.int .i64 (.ofNat 0)), (.int .i64 (.ofNat 0)), (.int .i64 (.ofNat 0)), (.int .i64 (.ofNat 0)), (.int .i64 (.ofNat 0)), (.int .i64 (.ofNat 0)), (.int .i64 (.ofNat 0)), (.int .i64 (.ofNat 0)), (.int .i64 (.ofNat 0)), (.int .i64 (.ofNat 0)), (.int .i64 (.ofNat 0)), (.int .i64 (.ofNat 0)), (.int .i64 (.ofNat 0)), (.int .i64 (.ofNat 0)), (.int .i64 (.ofNat 0)), (.int .i64 (.ofNat 0)), (.int .i64 (.ofNat 0)), (.int .i64 (.ofNat 0)), (.int .i64 (.ofNat 0)), (.int .i64 (.ofNat 0)), (.int .i64 (.ofNat 0)), (.int .i64 (.ofNat 0)), (.int .i64 (.ofNat 0)), (.int .i64 (.ofNat 0)), (.int .i64 (.ofNat 0)), (.int .i64 (.ofNat 0)), (.int .i64 (.ofNat 0)), (.int .i64 (.ofNat 0)), (.int .i64 (.ofNat 0)), (.int .i64 (.ofNat 0)), (.int .i64 (.ofNat 0)), (.int .i64 (.ofNat 0)), (.int .i64 (.ofNat 0)), (.int .i64 (.ofNat 0)), (.int .i64 (.ofNat 0)), (.int .i64 (.ofNat 0)), (.int .i64 (.ofNat 0)), (.int .i64 (.ofNat 0)), (.int .i64 (.ofNat 0)), (.int .i64 (.ofNat 0)), (.int .i64 (.ofNat 0)), (.int .i64 (.ofNat 0)), (.int .i64 (.ofNat 0)), (.int .i64 (.ofNat 0)), (.int .i64 (.ofNat 0)), (.int .i64 (.ofNat 0)), (.int .i64 (.ofNat 0)), (.int .i64 (.ofNat 0)), (.int .i64 (.ofNat 0)), (.int .i64 (.ofNat 0)), (.int .i64 (.ofNat 0)), (.int .i64 (.ofNat 0)), (.int .i64 (.ofNat 0)), (.int .i64 (.ofNat 0)), (.int .i64 (.ofNat 0)), (.int .i64 (.ofNat 0)), (.int .i64 (.ofNat 0)), (.int .i64 (.ofNat 0)), (.int .i64 (.ofNat 0)), (.int .i64 (.ofNat 0)), (.int .i64 (.ofNat 0)), (.int .i64 (.ofNat 0)), (.int .i64 (.ofNat 0)), (.int .i64 (.ofNat 0)), (.int .i64 (.ofNat 0)), (.int .i64 (.ofNat 0)), (.int .i64 (.ofNat 0)), (.int .i64 (.ofNat 0)), (.int .i64 (.ofNat 0)), (.int .i64 (.ofNat 0)), (.int .i64 (.ofNat 0)), (.int .i64 (.ofNat 0)), (.int .i64 (.ofNat 0)), (.int .i64 (.ofNat 0)), (.int .i64 (.ofNat 0)), (.int .i64 (.ofNat 0)), (.int .i64 (.ofNat 0)), (.int .i64 (.ofNat 0)), (.int .i64 (.ofNat 0)), (.int .i64 (.ofNat 0)), (.int .i64 (.ofNat 0)), (.int .i64 (.ofNat 0)), (.int .i64 (.ofNat 0)), (.int .i64 (.ofNat 0)), (.int .i64 (.ofNat 0)), (.int .i64 (.ofNat 0)), (.int .i64 (.ofNat 0)), (.int .i64 (.ofNat 0)), (.int .i64 (.ofNat 0)), (.int .i64 (.ofNat 0)), (.int .i64 (.ofNat 0)), (.int .i64 (.ofNat 0)), (.int .i64 (.ofNat 0)), (.int .i64 (.ofNat 0)), (.int .i64 (.ofNat 0)), (.int .i64 (.ofNat 0)), (.int .i64 (.ofNat 0)), (.int .i64 (.ofNat 0)), (.int .i64 (.ofNat 0)), (.int .i64 (.ofNat 0)), (.int .i64 (.ofNat 0)), (.int .i64 (.ofNat 0)), (.int .i64 (.ofNat 0)), (.int .i64 (.ofNat 0)), (.int .i64 (.ofNat 0)), (.int .i64 (.ofNat 0)), (.int .i64 (.ofNat 0)), (.int .i64 (.ofNat 0)), (.int .i64 (.ofNat 0)), (.int .i64 (.ofNat 0)), (.int .i64 (.ofNat 0)), (.int .i64 (.ofNat 0)), (.int .i64 (.ofNat 0)), (.int .i64 (.ofNat 0)), (.int .i64 (.ofNat 0)), (.int .i64 (.ofNat 0)), (.int .i64 (.ofNat 0)), (.int .i64 (.ofNat 0)), (.int .i64 (.ofNat 0)), (.int .i64 (.ofNat 0)), (.int .i64 (.ofNat 0)), (.int .i64 (.ofNat 0)), (.int .i64 (.ofNat 0)), (.int .i64 (.ofNat 0)), (.int .i64 (.ofNat 0)), (.int .i64 (.ofNat 0)), (.int .i64 (.ofNat 0)), (.int .i64 (.ofNat 0)), (.int .i64 (.ofNat 0)), (.int .i64 (.ofNat 0)), (.int .i64 (.ofNat 0)), (.int .i64 (.ofNat 0)), (.int .i64 (.ofNat 0)), (.int .i64 (.ofNat 0)), (.int .i64 (.ofNat 0)), (.int .i64 (.ofNat 0)), (.int .i64 (.ofNat 0)), (.int .i64 (.ofNat 0)), (.int .i64 (.ofNat 0)), (.int .i64 (.ofNat 0)), (.int .i64 (.ofNat 0)), (.int .i64 (.ofNat 0)), (.int .i64 (.ofNat 0)), (.int .i64 (.ofNat 0)), (.int .i64 (.ofNat 0)), (.int .i64 (.ofNat 0)), (.int .i64 (.ofNat 0)), (.int .i64 (.ofNat 0)), (.int .i64 (.ofNat 0)), (.int .i64 (.ofNat 0)), (.int .i64 (.ofNat 0)), (.int .i64 (.ofNat 0)), (.int .i64 (.ofNat 0)), (.int .i64 (.ofNat 0)), (.int .i64 (.ofNat 0)), (.int .i64 (.ofNat 0)), (.int .i64 (.ofNat 0)), (.int .i64 (.ofNat 0)), (.int .i64 (.ofNat 0)), (.int .i64 (.ofNat 0)), (.int .i64 (.ofNat 0)), (.int .i64 (.ofNat 0)), (.int .i64 (.ofNat 0)), (.int .i64 (.ofNat 0)), (.int .i64 (.ofNat 0)), (.int .i64 (.ofNat 0)), (.int .i64 (.ofNat 0)), (.int .i64 (.ofNat 0)), (.int .i64 (.ofNat 0)), (.int .i64 (.ofNat 0)), (.int .i64 (.ofNat 0)), (.int .i64 (.ofNat 0)), (.int .i64 (.ofNat 0)), (.int .i64 (.ofNat 0)), (.int .i64 (.ofNat 0)), (.int .i64 (.ofNat 0)), (.int .i64 (.ofNat 0)), (.int .i64 (.ofNat 0)), (.int .i64 (.ofNat 0)), (.int .i64 (.ofNat 0)), (.int .i64 (.ofNat 0)), (.int .i64 (.ofNat 0)), (.int .i64 (.ofNat 0)), (.int .i64 (.ofNat 0)), (.int .i64 (.ofNat 0)), (.int .i64 (.ofNat 0)), (.int .i64 (.ofNat 0)), (.int .i64 (.ofNat 0)), (.int .i64 (.ofNat 0)), (.int .i64 (.ofNat 0)), (.int .i64 (.ofNat 0)), (.int .i64 (.ofNat 0)), (.int .i64 (.ofNat 0)), (.int .i64 (.ofNat 0)), (.int .i64 (.ofNat 0)), (.int .i64 (.ofNat 0)), (.int .i64 (.ofNat 0)), (.int .i64 (.ofNat 0)), (.int .i64 (.ofNat 0)), (.int .i64 (.ofNat 0)), (.int .i64 (.ofNat 0)), (.int .i64 (.ofNat 0)), (.int .i64 (.ofNat 0)), (.int .i64 (.ofNat 0)), (.int .i64 (.ofNat 0)), (.int .i64 (.ofNat 0)), (.int .i64 (.ofNat 0)), (.int .i64 (.ofNat 0)), (.int .i64 (.ofNat 0))] []) fun x1 =>
  n_box x1 h fun x2 h3 =>
  some (x2, h3)
def C100_0 : DC := (.seq (.reg [⟨(some p0), none, (.e (.mv (.c .nilp)))⟩]) (.seq (.reg [⟨(some p1), none, (.e (.bld [(.int .i64 (.ofNat 0)), (.int .i64 (.ofNat 0)), (.int .i64 (.ofNat 0)), (.int .i64 (.ofNat 0)), (.int .i64 (.ofNat 0)), (.int .i64 (.ofNat 0)), (.int .i64 (.ofNat 0)), (.int .i64 (.ofNat 0)), (.int .i64 (.ofNat 0)), (.int .i64 (.ofNat 0)), (.int .i64 (.ofNat 0)), (.int .i64 (.ofNat 0)), (.int .i64 (.ofNat 0)), (.int .i64 (.ofNat 0)), (.int .i64 (.ofNat 0)), (.int .i64 (.ofNat 0)), (.int .i64 (.ofNat 0)), (.int .i64 (.ofNat 0)), (.int .i64 (.ofNat 0)), (.int .i64 (.ofNat 0)), (.int .i64 (.ofNat 0)), (.int .i64 (.ofNat 0)), (.int .i64 (.ofNat 0)), (.int .i64 (.ofNat 0)), (.int .i64 (.ofNat 0)), (.int .i64 (.ofNat 0)), (.int .i64 (.ofNat 0)), (.int .i64 (.ofNat 0)), (.int .i64 (.ofNat 0)), (.int .i64 (.ofNat 0)), (.int .i64 (.ofNat 0)), (.int .i64 (.ofNat 0)), (.int .i64 (.ofNat 0)), (.int .i64 (.ofNat 0)), (.int .i64 (.ofNat 0)), (.int .i64 (.ofNat 0)), (.int .i64 (.ofNat 0)), (.int .i64 (.ofNat 0)), (.int .i64 (.ofNat 0)), (.int .i64 (.ofNat 0)), (.int .i64 (.ofNat 0)), (.int .i64 (.ofNat 0)), (.int .i64 (.ofNat 0)), (.int .i64 (.ofNat 0)), (.int .i64 (.ofNat 0)), (.int .i64 (.ofNat 0)), (.int .i64 (.ofNat 0)), (.int .i64 (.ofNat 0)), (.int .i64 (.ofNat 0)), (.int .i64 (.ofNat 0)), (.int .i64 (.ofNat 0)), (.int .i64 (.ofNat 0)), (.int .i64 (.ofNat 0)), (.int .i64 (.ofNat 0)), (.int .i64 (.ofNat 0)), (.int .i64 (.ofNat 0)), (.int .i64 (.ofNat 0)), (.int .i64 (.ofNat 0)), (.int .i64 (.ofNat 0)), (.int .i64 (.ofNat 0)), (.int .i64 (.ofNat 0)), (.int .i64 (.ofNat 0)), (.int .i64 (.ofNat 0)), (.int .i64 (.ofNat 0)), (.int .i64 (.ofNat 0)), (.int .i64 (.ofNat 0)), (.int .i64 (.ofNat 0)), (.int .i64 (.ofNat 0)), (.int .i64 (.ofNat 0)), (.int .i64 (.ofNat 0)), (.int .i64 (.ofNat 0)), (.int .i64 (.ofNat 0)), (.int .i64 (.ofNat 0)), (.int .i64 (.ofNat 0)), (.int .i64 (.ofNat 0)), (.int .i64 (.ofNat 0)), (.int .i64 (.ofNat 0)), (.int .i64 (.ofNat 0)), (.int .i64 (.ofNat 0)), (.int .i64 (.ofNat 0)), (.int .i64 (.ofNat 0)), (.int .i64 (.ofNat 0)), (.int .i64 (.ofNat 0)), (.int .i64 (.ofNat 0)), (.int .i64 (.ofNat 0)), (.int .i64 (.ofNat 0)), (.int .i64 (.ofNat 0)), (.int .i64 (.ofNat 0)), (.int .i64 (.ofNat 0)), (.int .i64 (.ofNat 0)), (.int .i64 (.ofNat 0)), (.int .i64 (.ofNat 0)), (.int .i64 (.ofNat 0)), (.int .i64 (.ofNat 0)), (.int .i64 (.ofNat 0)), (.int .i64 (.ofNat 0)), (.int .i64 (.ofNat 0)), (.int .i64 (.ofNat 0)), (.int .i64 (.ofNat 0)), (.int .i64 (.ofNat 0)), (.int .i64 (.ofNat 0)), (.int .i64 (.ofNat 0)), (.int .i64 (.ofNat 0)), (.int .i64 (.ofNat 0)), (.int .i64 (.ofNat 0)), (.int .i64 (.ofNat 0)), (.int .i64 (.ofNat 0)), (.int .i64 (.ofNat 0)), (.int .i64 (.ofNat 0)), (.int .i64 (.ofNat 0)), (.int .i64 (.ofNat 0)), (.int .i64 (.ofNat 0)), (.int .i64 (.ofNat 0)), (.int .i64 (.ofNat 0)), (.int .i64 (.ofNat 0)), (.int .i64 (.ofNat 0)), (.int .i64 (.ofNat 0)), (.int .i64 (.ofNat 0)), (.int .i64 (.ofNat 0)), (.int .i64 (.ofNat 0)), (.int .i64 (.ofNat 0)), (.int .i64 (.ofNat 0)), (.int .i64 (.ofNat 0)), (.int .i64 (.ofNat 0)), (.int .i64 (.ofNat 0)), (.int .i64 (.ofNat 0)), (.int .i64 (.ofNat 0)), (.int .i64 (.ofNat 0)), (.int .i64 (.ofNat 0)), (.int .i64 (.ofNat 0)), (.int .i64 (.ofNat 0)), (.int .i64 (.ofNat 0)), (.int .i64 (.ofNat 0)), (.int .i64 (.ofNat 0)), (.int .i64 (.ofNat 0)), (.int .i64 (.ofNat 0)), (.int .i64 (.ofNat 0)), (.int .i64 (.ofNat 0)), (.int .i64 (.ofNat 0)), (.int .i64 (.ofNat 0)), (.int .i64 (.ofNat 0)), (.int .i64 (.ofNat 0)), (.int .i64 (.ofNat 0)), (.int .i64 (.ofNat 0)), (.int .i64 (.ofNat 0)), (.int .i64 (.ofNat 0)), (.int .i64 (.ofNat 0)), (.int .i64 (.ofNat 0)), (.int .i64 (.ofNat 0)), (.int .i64 (.ofNat 0)), (.int .i64 (.ofNat 0)), (.int .i64 (.ofNat 0)), (.int .i64 (.ofNat 0)), (.int .i64 (.ofNat 0)), (.int .i64 (.ofNat 0)), (.int .i64 (.ofNat 0)), (.int .i64 (.ofNat 0)), (.int .i64 (.ofNat 0)), (.int .i64 (.ofNat 0)), (.int .i64 (.ofNat 0)), (.int .i64 (.ofNat 0)), (.int .i64 (.ofNat 0)), (.int .i64 (.ofNat 0)), (.int .i64 (.ofNat 0)), (.int .i64 (.ofNat 0)), (.int .i64 (.ofNat 0)), (.int .i64 (.ofNat 0)), (.int .i64 (.ofNat 0)), (.int .i64 (.ofNat 0)), (.int .i64 (.ofNat 0)), (.int .i64 (.ofNat 0)), (.int .i64 (.ofNat 0)), (.int .i64 (.ofNat 0)), (.int .i64 (.ofNat 0)), (.int .i64 (.ofNat 0)), (.int .i64 (.ofNat 0)), (.int .i64 (.ofNat 0)), (.int .i64 (.ofNat 0)), (.int .i64 (.ofNat 0)), (.int .i64 (.ofNat 0)), (.int .i64 (.ofNat 0)), (.int .i64 (.ofNat 0)), (.int .i64 (.ofNat 0)), (.int .i64 (.ofNat 0)), (.int .i64 (.ofNat 0)), (.int .i64 (.ofNat 0)), (.int .i64 (.ofNat 0)), (.int .i64 (.ofNat 0)), (.int .i64 (.ofNat 0)), (.int .i64 (.ofNat 0)), (.int .i64 (.ofNat 0)), (.int .i64 (.ofNat 0)), (.int .i64 (.ofNat 0)), (.int .i64 (.ofNat 0)), (.int .i64 (.ofNat 0)), (.int .i64 (.ofNat 0)), (.int .i64 (.ofNat 0)), (.int .i64 (.ofNat 0)), (.int .i64 (.ofNat 0)), (.int .i64 (.ofNat 0)), (.int .i64 (.ofNat 0)), (.int .i64 (.ofNat 0)), (.int .i64 (.ofNat 0)), (.int .i64 (.ofNat 0)), (.int .i64 (.ofNat 0)), (.int .i64 (.ofNat 0)), (.int .i64 (.ofNat 0)), (.int .i64 (.ofNat 0)), (.int .i64 (.ofNat 0)), (.int .i64 (.ofNat 0)), (.int .i64 (.ofNat 0)), (.int .i64 (.ofNat 0)), (.int .i64 (.ofNat 0)), (.int .i64 (.ofNat 0)), (.int .i64 (.ofNat 0)), (.int .i64 (.ofNat 0)), (.int .i64 (.ofNat 0)), (.int .i64 (.ofNat 0)), (.int .i64 (.ofNat 0)), (.int .i64 (.ofNat 0)), (.int .i64 (.ofNat 0)), (.int .i64 (.ofNat 0)), (.int .i64 (.ofNat 0)), (.int .i64 (.ofNat 0)), (.int .i64 (.ofNat 0)), (.int .i64 (.ofNat 0)), (.int .i64 (.ofNat 0)), (.int .i64 (.ofNat 0)), (.int .i64 (.ofNat 0)), (.int .i64 (.ofNat 0)), (.int .i64 (.ofNat 0)), (.int .i64 (.ofNat 0)), (.int .i64 (.ofNat 0)), (.int .i64 (.ofNat 0)), (.int .i64 (.ofNat 0)), (.int .i64 (.ofNat 0)), (.int .i64 (.ofNat 0)), (.int .i64 (.ofNat 0)), (.int .i64 (.ofNat 0)), (.int .i64 (.ofNat 0)), (.int .i64 (.ofNat 0)), (.int .i64 (.ofNat 0)), (.int .i64 (.ofNat 0)), (.int .i64 (.ofNat 0)), (.int .i64 (.ofNat 0)), (.int .i64 (.ofNat 0)), (.int .i64 (.ofNat 0)), (.int .i64 (.ofNat 0)), (.int .i64 (.ofNat 0)), (.int .i64 (.ofNat 0)), (.int .i64 (.ofNat 0)), (.int .i64 (.ofNat 0)), (.int .i64 (.ofNat 0)), (.int .i64 (.ofNat 0)), (.int .i64 (.ofNat 0)), (.int .i64 (.ofNat 0)), (.int .i64 (.ofNat 0)), (.int .i64 (.ofNat 0)), (.int .i64 (.ofNat 0)), (.int .i64 (.ofNat 0)), (.int .i64 (.ofNat 0)), (.int .i64 (.ofNat 0)), (.int .i64 (.ofNat 0)), (.int .i64 (.ofNat 0)), (.int .i64 (.ofNat 0)), (.int .i64 (.ofNat 0)), (.int .i64 (.ofNat 0)), (.int .i64 (.ofNat 0)), (.int .i64 (.ofNat 0)), (.int .i64 (.ofNat 0)), (.int .i64 (.ofNat 0)), (.int .i64 (.ofNat 0)), (.int .i64 (.ofNat 0)), (.int .i64 (.ofNat 0)), (.int .i64 (.ofNat 0)), (.int .i64 (.ofNat 0)), (.int .i64 (.ofNat 0)), (.int .i64 (.ofNat 0)), (.int .i64 (.ofNat 0)), (.int .i64 (.ofNat 0)), (.int .i64 (.ofNat 0)), (.int .i64 (.ofNat 0)), (.int .i64 (.ofNat 0)), (.int .i64 (.ofNat 0)), (.int .i64 (.ofNat 0)), (.int .i64 (.ofNat 0)), (.int .i64 (.ofNat 0)), (.int .i64 (.ofNat 0)), (.int .i64 (.ofNat 0)), (.int .i64 (.ofNat 0)), (.int .i64 (.ofNat 0)), (.int .i64 (.ofNat 0)), (.int .i64 (.ofNat 0)), (.int .i64 (.ofNat 0)), (.int .i64 (.ofNat 0)), (.int .i64 (.ofNat 0)), (.int .i64 (.ofNat 0)), (.int .i64 (.ofNat 0)), (.int .i64 (.ofNat 0)), (.int .i64 (.ofNat 0)), (.int .i64 (.ofNat 0)), (.int .i64 (.ofNat 0)), (.int .i64 (.ofNat 0)), (.int .i64 (.ofNat 0)), (.int .i64 (.ofNat 0)), (.int .i64 (.ofNat 0)), (.int .i64 (.ofNat 0)), (.int .i64 (.ofNat 0)), (.int .i64 (.ofNat 0)), (.int .i64 (.ofNat 0)), (.int .i64 (.ofNat 0)), (.int .i64 (.ofNat 0)), (.int .i64 (.ofNat 0)), (.int .i64 (.ofNat 0)), (.int .i64 (.ofNat 0)), (.int .i64 (.ofNat 0)), (.int .i64 (.ofNat 0)), (.int .i64 (.ofNat 0)), (.int .i64 (.ofNat 0)), (.int .i64 (.ofNat 0)), (.int .i64 (.ofNat 0)), (.int .i64 (.ofNat 0)), (.int .i64 (.ofNat 0)), (.int .i64 (.ofNat 0)), (.int .i64 (.ofNat 0)), (.int .i64 (.ofNat 0)), (.int .i64 (.ofNat 0)), (.int .i64 (.ofNat 0)), (.int .i64 (.ofNat 0)), (.int .i64 (.ofNat 0)), (.int .i64 (.ofNat 0)), (.int .i64 (.ofNat 0)), (.int .i64 (.ofNat 0)), (.int .i64 (.ofNat 0)), (.int .i64 (.ofNat 0)), (.int .i64 (.ofNat 0)), (.int .i64 (.ofNat 0)), (.int .i64 (.ofNat 0)), (.int .i64 (.ofNat 0)), (.int .i64 (.ofNat 0)), (.int .i64 (.ofNat 0)), (.int .i64 (.ofNat 0)), (.int .i64 (.ofNat 0)), (.int .i64 (.ofNat 0)), (.int .i64 (.ofNat 0)), (.int .i64 (.ofNat 0)), (.int .i64 (.ofNat 0)), (.int .i64 (.ofNat 0)), (.int .i64 (.ofNat 0)), (.int .i64 (.ofNat 0)), (.int .i64 (.ofNat 0)), (.int .i64 (.ofNat 0)), (.int .i64 (.ofNat 0)), (.int .i64 (.ofNat 0)), (.int .i64 (.ofNat 0)), (.int .i64 (.ofNat 0)), (.int .i64 (.ofNat 0)), (.int .i64 (.ofNat 0)), (.int .i64 (.ofNat 0)), (.int .i64 (.ofNat 0)), (.int .i64 (.ofNat 0)), (.int .i64 (.ofNat 0)), (.int .i64 (.ofNat 0)), (.int .i64 (.ofNat 0)), (.int .i64 (.ofNat 0)), (.int .i64 (.ofNat 0)), (.int .i64 (.ofNat 0)), (.int .i64 (.ofNat 0)), (.int .i64 (.ofNat 0)), (.int .i64 (.ofNat 0)), (.int .i64 (.ofNat 0)), (.int .i64 (.ofNat 0)), (.int .i64 (.ofNat 0)), (.int .i64 (.ofNat 0)), (.int .i64 (.ofNat 0)), (.int .i64 (.ofNat 0)), (.int .i64 (.ofNat 0)), (.int .i64 (.ofNat 0)), (.int .i64 (.ofNat 0)), (.int .i64 (.ofNat 0)), (.int .i64 (.ofNat 0)), (.int .i64 (.ofNat 0)), (.int .i64 (.ofNat 0)), (.int .i64 (.ofNat 0)), (.int .i64 (.ofNat 0)), (.int .i64 (.ofNat 0)), (.int .i64 (.ofNat 0)), (.int .i64 (.ofNat 0)), (.int .i64 (.ofNat 0)), (.int .i64 (.ofNat 0)), (.int .i64 (.ofNat 0)), (.int .i64 (.ofNat 0)), (.int .i64 (.ofNat 0)), (.int .i64 (.ofNat 0)), (.int .i64 (.ofNat 0)), (.int .i64 (.ofNat 0)), (.int .i64 (.ofNat 0)), (.int .i64 (.ofNat 0)), (.int .i64 (.ofNat 0)), (.int .i64 (.ofNat 0)), (.int .i64 (.ofNat 0)), (.int .i64 (.ofNat 0)), (.int .i64 (.ofNat 0)), (.int .i64 (.ofNat 0)), (.int .i64 (.ofNat 0)), (.int .i64 (.ofNat 0)), (.int .i64 (.ofNat 0)), (.int .i64 (.ofNat 0)), (.int .i64 (.ofNat 0)), (.int .i64 (.ofNat 0)), (.int .i64 (.ofNat 0)), (.int .i64 (.ofNat 0)), (.int .i64 (.ofNat 0)), (.int .i64 (.ofNat 0)), (.int .i64 (.ofNat 0)), (.int .i64 (.ofNat 0)), (.int .i64 (.ofNat 0)), (.int .i64 (.ofNat 0)), (.int .i64 (.ofNat 0)), (.int .i64 (.ofNat 0)), (.int .i64 (.ofNat 0)), (.int .i64 (.ofNat 0)), (.int .i64 (.ofNat 0)), (.int .i64 (.ofNat 0)), (.int .i64 (.ofNat 0)), (.int .i64 (.ofNat 0)), (.int .i64 (.ofNat 0)), (.int .i64 (.ofNat 0)), (.int .i64 (.ofNat 0)), (.int .i64 (.ofNat 0)), (.int .i64 (.ofNat 0)), (.int .i64 (.ofNat 0)), (.int .i64 (.ofNat 0)), (.int .i64 (.ofNat 0)), (.int .i64 (.ofNat 0)), (.int .i64 (.ofNat 0)), (.int .i64 (.ofNat 0)), (.int .i64 (.ofNat 0)), (.int .i64 (.ofNat 0)), (.int .i64 (.ofNat 0)), (.int .i64 (.ofNat 0)), (.int .i64 (.ofNat 0)), (.int .i64 (.ofNat 0)), (.int .i64 (.ofNat 0)), (.int .i64 (.ofNat 0)), (.int .i64 (.ofNat 0)), (.int .i64 (.ofNat 0)), (.int .i64 (.ofNat 0)), (.int .i64 (.ofNat 0)), (.int .i64 (.ofNat 0)), (.int .i64 (.ofNat 0)), (.int .i64 (.ofNat 0)), (.int .i64 (.ofNat 0)), (.int .i64 (.ofNat 0)), (.int .i64 (.ofNat 0)), (.int .i64 (.ofNat 0)), (.int .i64 (.ofNat 0)), (.int .i64 (.ofNat 0)), (.int .i64 (.ofNat 0)), (.int .i64 (.ofNat 0)), (.int .i64 (.ofNat 0)), (.int .i64 (.ofNat 0)), (.int .i64 (.ofNat 0)), (.int .i64 (.ofNat 0)), (.int .i64 (.ofNat 0)), (.int .i64 (.ofNat 0)), (.int .i64 (.ofNat 0)), (.int .i64 (.ofNat 0)), (.int .i64 (.ofNat 0)), (.int .i64 (.ofNat 0)), (.int .i64 (.ofNat 0)), (.int .i64 (.ofNat 0)), (.int .i64 (.ofNat 0)), (.int .i64 (.ofNat 0)), (.int .i64 (.ofNat 0)), (.int .i64 (.ofNat 0)), (.int .i64 (.ofNat 0)), (.int .i64 (.ofNat 0)), (.int .i64 (.ofNat 0)), (.int .i64 (.ofNat 0)), (.int .i64 (.ofNat 0)), (.int .i64 (.ofNat 0)), (.int .i64 (.ofNat 0)), (.int .i64 (.ofNat 0)), (.int .i64 (.ofNat 0)), (.int .i64 (.ofNat 0)), (.int .i64 (.ofNat 0)), (.int .i64 (.ofNat 0)), (.int .i64 (.ofNat 0)), (.int .i64 (.ofNat 0)), (.int .i64 (.ofNat 0)), (.int .i64 (.ofNat 0)), (.int .i64 (.ofNat 0)), (.int .i64 (.ofNat 0)), (.int .i64 (.ofNat 0)), (.int .i64 (.ofNat 0)), (.int .i64 (.ofNat 0)), (.int .i64 (.ofNat 0)), (.int .i64 (.ofNat 0)), (.int .i64 (.ofNat 0)), (.int .i64 (.ofNat 0)), (.int .i64 (.ofNat 0)), (.int .i64 (.ofNat 0)), (.int .i64 (.ofNat 0)), (.int .i64 (.ofNat 0)), (.int .i64 (.ofNat 0)), (.int .i64 (.ofNat 0)), (.int .i64 (.ofNat 0)), (.int .i64 (.ofNat 0)), (.int .i64 (.ofNat 0)), (.int .i64 (.ofNat 0)), (.int .i64 (.ofNat 0)), (.int .i64 (.ofNat 0)), (.int .i64 (.ofNat 0)), (.int .i64 (.ofNat 0)), (.int .i64 (.ofNat 0)), (.int .i64 (.ofNat 0)), (.int .i64 (.ofNat 0)), (.int .i64 (.ofNat 0)), (.int .i64 (.ofNat 0)), (.int .i64 (.ofNat 0)), (.int .i64 (.ofNat 0)), (.int .i64 (.ofNat 0)), (.int .i64 (.ofNat 0)), (.int .i64 (.ofNat 0)), (.int .i64 (.ofNat 0)), (.int .i64 (.ofNat 0)), (.int .i64 (.ofNat 0)), (.int .i64 (.ofNat 0)), (.int .i64 (.ofNat 0)), (.int .i64 (.ofNat 0)), (.int .i64 (.ofNat 0)), (.int .i64 (.ofNat 0)), (.int .i64 (.ofNat 0)), (.int .i64 (.ofNat 0)), (.int .i64 (.ofNat 0)), (.int .i64 (.ofNat 0)), (.int .i64 (.ofNat 0)), (.int .i64 (.ofNat 0)), (.int .i64 (.ofNat 0)), (.int .i64 (.ofNat 0)), (.int .i64 (.ofNat 0)), (.int .i64 (.ofNat 0)), (.int .i64 (.ofNat 0)), (.int .i64 (.ofNat 0)), (.int .i64 (.ofNat 0)), (.int .i64 (.ofNat 0)), (.int .i64 (.ofNat 0)), (.int .i64 (.ofNat 0)), (.int .i64 (.ofNat 0)), (.int .i64 (.ofNat 0)), (.int .i64 (.ofNat 0)), (.int .i64 (.ofNat 0)), (.int .i64 (.ofNat 0)), (.int .i64 (.ofNat 0)), (.int .i64 (.ofNat 0)), (.int .i64 (.ofNat 0)), (.int .i64 (.ofNat 0)), (.int .i64 (.ofNat 0)), (.int .i64 (.ofNat 0)), (.int .i64 (.ofNat 0)), (.int .i64 (.ofNat 0)), (.int .i64 (.ofNat 0)), (.int .i64 (.ofNat 0)), (.int .i64 (.ofNat 0)), (.int .i64 (.ofNat 0)), (.int .i64 (.ofNat 0)), (.int .i64 (.ofNat 0)), (.int .i64 (.ofNat 0)), (.int .i64 (.ofNat 0)), (.int .i64 (.ofNat 0)), (.int .i64 (.ofNat 0)), (.int .i64 (.ofNat 0)), (.int .i64 (.ofNat 0)), (.int .i64 (.ofNat 0)), (.int .i64 (.ofNat 0)), (.int .i64 (.ofNat 0)), (.int .i64 (.ofNat 0)), (.int .i64 (.ofNat 0)), (.int .i64 (.ofNat 0)), (.int .i64 (.ofNat 0)), (.int .i64 (.ofNat 0)), (.int .i64 (.ofNat 0)), (.int .i64 (.ofNat 0)), (.int .i64 (.ofNat 0)), (.int .i64 (.ofNat 0)), (.int .i64 (.ofNat 0)), (.int .i64 (.ofNat 0)), (.int .i64 (.ofNat 0)), (.int .i64 (.ofNat 0)), (.int .i64 (.ofNat 0)), (.int .i64 (.ofNat 0)), (.int .i64 (.ofNat 0)), (.int .i64 (.ofNat 0)), (.int .i64 (.ofNat 0)), (.int .i64 (.ofNat 0)), (.int .i64 (.ofNat 0)), (.int .i64 (.ofNat 0)), (.int .i64 (.ofNat 0)), (.int .i64 (.ofNat 0)), (.int .i64 (.ofNat 0)), (.int .i64 (.ofNat 0)), (.int .i64 (.ofNat 0)), (.int .i64 (.ofNat 0)), (.int .i64 (.ofNat 0)), (.int .i64 (.ofNat 0)), (.int .i64 (.ofNat 0)), (.int .i64 (.ofNat 0)), (.int .i64 (.ofNat 0)), (.int .i64 (.ofNat 0)), (.int .i64 (.ofNat 0)), (.int .i64 (.ofNat 0)), (.int .i64 (.ofNat 0)), (.int .i64 (.ofNat 0)), (.int .i64 (.ofNat 0)), (.int .i64 (.ofNat 0)), (.int .i64 (.ofNat 0)), (.int .i64 (.ofNat 0)), (.int .i64 (.ofNat 0)), (.int .i64 (.ofNat 0)), (.int .i64 (.ofNat 0)), (.int .i64 (.ofNat 0)), (.int .i64 (.ofNat 0)), (.int .i64 (.ofNat 0)), (.int .i64 (.ofNat 0)), (.int .i64 (.ofNat 0)), (.int .i64 (.ofNat 0)), (.int .i64 (.ofNat 0)), (.int .i64 (.ofNat 0)), (.int .i64 (.ofNat 0)), (.int .i64 (.ofNat 0)), (.int .i64 (.ofNat 0)), (.int .i64 (.ofNat 0)), (.int .i64 (.ofNat 0)), (.int .i64 (.ofNat 0)), (.int .i64 (.ofNat 0)), (.int .i64 (.ofNat 0)), (.int .i64 (.ofNat 0)), (.int .i64 (.ofNat 0)), (.int .i64 (.ofNat 0)), (.int .i64 (.ofNat 0)), (.int .i64 (.ofNat 0)), (.int .i64 (.ofNat 0)), (.int .i64 (.ofNat 0)), (.int .i64 (.ofNat 0)), (.int .i64 (.ofNat 0)), (.int .i64 (.ofNat 0)), (.int .i64 (.ofNat 0)), (.int .i64 (.ofNat 0)), (.int .i64 (.ofNat 0)), (.int .i64 (.ofNat 0)), (.int .i64 (.ofNat 0)), (.int .i64 (.ofNat 0)), (.int .i64 (.ofNat 0)), (.int .i64 (.ofNat 0)), (.int .i64 (.ofNat 0)), (.int .i64 (.ofNat 0)), (.int .i64 (.ofNat 0)), (.int .i64 (.ofNat 0)), (.int .i64 (.ofNat 0)), (.int .i64 (.ofNat 0)), (.int .i64 (.ofNat 0)), (.int .i64 (.ofNat 0)), (.int .i64 (.ofNat 0)), (.int .i64 (.ofNat 0)), (.int .i64 (.ofNat 0)), (.int .i64 (.ofNat 0)), (.int .i64 (.ofNat 0)), (.int .i64 (.ofNat 0)), (.int .i64 (.ofNat 0)), (.int .i64 (.ofNat 0)), (.int .i64 (.ofNat 0)), (.int .i64 (.ofNat 0)), (.int .i64 (.ofNat 0)), (.int .i64 (.ofNat 0)), (.int .i64 (.ofNat 0)), (.int .i64 (.ofNat 0)), (.int .i64 (.ofNat 0)), (.int .i64 (.ofNat 0)), (.int .i64 (.ofNat 0)), (.int .i64 (.ofNat 0)), (.int .i64 (.ofNat 0)), (.int .i64 (.ofNat 0)), (.int .i64 (.ofNat 0)), (.int .i64 (.ofNat 0)), (.int .i64 (.ofNat 0)), (.int .i64 (.ofNat 0)), (.int .i64 (.ofNat 0)), (.int .i64 (.ofNat 0)), (.int .i64 (.ofNat 0)), (.int .i64 (.ofNat 0)), (.int .i64 (.ofNat 0)), (.int .i64 (.ofNat 0)), (.int .i64 (.ofNat 0)), (.int .i64 (.ofNat 0)), (.int .i64 (.ofNat 0)), (.int .i64 (.ofNat 0)), (.int .i64 (.ofNat 0)), (.int .i64 (.ofNat 0)), (.int .i64 (.ofNat 0)), (.int .i64 (.ofNat 0)), (.int .i64 (.ofNat 0)), (.int .i64 (.ofNat 0)), (.int .i64 (.ofNat 0)), (.int .i64 (.ofNat 0)), (.int .i64 (.ofNat 0)), (.int .i64 (.ofNat 0)), (.int .i64 (.ofNat 0)), (.int .i64 (.ofNat 0)), (.int .i64 (.ofNat 0)), (.int .i64 (.ofNat 0)), (.int .i64 (.ofNat 0)), (.int .i64 (.ofNat 0)), (.int .i64 (.ofNat 0)), (.int .i64 (.ofNat 0)), (.int .i64 (.ofNat 0)), (.int .i64 (.ofNat 0)), (.int .i64 (.ofNat 0)), (.int .i64 (.ofNat 0)), (.int .i64 (.ofNat 0)), (.int .i64 (.ofNat 0)), (.int .i64 (.ofNat 0)), (.int .i64 (.ofNat 0)), (.int .i64 (.ofNat 0)), (.int .i64 (.ofNat 0)), (.int .i64 (.ofNat 0)), (.int .i64 (.ofNat 0)), (.int .i64 (.ofNat 0)), (.int .i64 (.ofNat 0)), (.int .i64 (.ofNat 0)), (.int .i64 (.ofNat 0)), (.int .i64 (.ofNat 0)), (.int .i64 (.ofNat 0)), (.int .i64 (.ofNat 0)), (.int .i64 (.ofNat 0)), (.int .i64 (.ofNat 0)), (.int .i64 (.ofNat 0)), (.int .i64 (.ofNat 0)), (.int .i64 (.ofNat 0)), (.int .i64 (.ofNat 0)), (.int .i64 (.ofNat 0)), (.int .i64 (.ofNat 0)), (.int .i64 (.ofNat 0)), (.int .i64 (.ofNat 0)), (.int .i64 (.ofNat 0)), (.int .i64 (.ofNat 0)), (.int .i64 (.ofNat 0)), (.int .i64 (.ofNat 0)), (.int .i64 (.ofNat 0)), (.int .i64 (.ofNat 0)), (.int .i64 (.ofNat 0)), (.int .i64 (.ofNat 0)), (.int .i64 (.ofNat 0)), (.int .i64 (.ofNat 0)), (.int .i64 (.ofNat 0)), (.int .i64 (.ofNat 0)), (.int .i64 (.ofNat 0)), (.int .i64 (.ofNat 0)), (.int .i64 (.ofNat 0)), (.int .i64 (.ofNat 0)), (.int .i64 (.ofNat 0)), (.int .i64 (.ofNat 0)), (.int .i64 (.ofNat 0)), (.int .i64 (.ofNat 0)), (.int .i64 (.ofNat 0)), (.int .i64 (.ofNat 0)), (.int .i64 (.ofNat 0)), (.int .i64 (.ofNat 0)), (.int .i64 (.ofNat 0)), (.int .i64 (.ofNat 0)), (.int .i64 (.ofNat 0)), (.int .i64 (.ofNat 0)), (.int .i64 (.ofNat 0)), (.int .i64 (.ofNat 0)), (.int .i64 (.ofNat 0)), (.int .i64 (.ofNat 0)), (.int .i64 (.ofNat 0)), (.int .i64 (.ofNat 0)), (.int .i64 (.ofNat 0)), (.int .i64 (.ofNat 0)), (.int .i64 (.ofNat 0)), (.int .i64 (.ofNat 0)), (.int .i64 (.ofNat 0)), (.int .i64 (.ofNat 0)), (.int .i64 (.ofNat 0)), (.int .i64 (.ofNat 0)), (.int .i64 (.ofNat 0)), (.int .i64 (.ofNat 0)), (.int .i64 (.ofNat 0)), (.int .i64 (.ofNat 0)), (.int .i64 (.ofNat 0)), (.int .i64 (.ofNat 0)), (.int .i64 (.ofNat 0)), (.int .i64 (.ofNat 0)), (.int .i64 (.ofNat 0)), (.int .i64 (.ofNat 0)), (.int .i64 (.ofNat 0)), (.int .i64 (.ofNat 0)), (.int .i64 (.ofNat 0)), (.int .i64 (.ofNat 0)), (.int .i64 (.ofNat 0)), (.int .i64 (.ofNat 0)), (.int .i64 (.ofNat 0)), (.int .i64 (.ofNat 0)), (.int .i64 (.ofNat 0)), (.int .i64 (.ofNat 0)), (.int .i64 (.ofNat 0)), (.int .i64 (.ofNat 0)), (.int .i64 (.ofNat 0)), (.int .i64 (.ofNat 0)), (.int .i64 (.ofNat 0)), (.int .i64 (.ofNat 0)), (.int .i64 (.ofNat 0)), (.int .i64 (.ofNat 0)), (.int .i64 (.ofNat 0)), (.int .i64 (.ofNat 0)), (.int .i64 (.ofNat 0)), (.int .i64 (.ofNat 0)), (.int .i64 (.ofNat 0)), (.int .i64 (.ofNat 0)), (.int .i64 (.ofNat 0)), (.int .i64 (.ofNat 0)), (.int .i64 (.ofNat 0)), (.int .i64 (.ofNat 0)), (.int .i64 (.ofNat 0)), (.int .i64 (.ofNat 0)), (.int .i64 (.ofNat 0)), (.int .i64 (.ofNat 0)), (.int .i64 (.ofNat 0)), (.int .i64 (.ofNat 0)), (.int .i64 (.ofNat 0)), (.int .i64 (.ofNat 0)), (.int .i64 (.ofNat 0)), (.int .i64 (.ofNat 0)), (.int .i64 (.ofNat 0)), (.int .i64 (.ofNat 0)), (.int .i64 (.ofNat 0)), (.int .i64 (.ofNat 0)), (.int .i64 (.ofNat 0)), (.int .i64 (.ofNat 0)), (.int .i64 (.ofNat 0)), (.int .i64 (.ofNat 0)), (.int .i64 (.ofNat 0)), (.int .i64 (.ofNat 0)), (.int .i64 (.ofNat 0)), (.int .i64 (.ofNat 0)), (.int .i64 (.ofNat 0)), (.int .i64 (.ofNat 0)), (.int .i64 (.ofNat 0)), (.int .i64 (.ofNat 0)), (.int .i64 (.ofNat 0)), (.int .i64 (.ofNat 0)), (.int .i64 (.ofNat 0)), (.int .i64 (.ofNat 0)), (.int .i64 (.ofNat 0)), (.int .i64 (.ofNat 0)), (.int .i64 (.ofNat 0)), (.int .i64 (.ofNat 0)), (.int .i64 (.ofNat 0)), (.int .i64 (.ofNat 0)), (.int .i64 (.ofNat 0)), (.int .i64 (.ofNat 0)), (.int .i64 (.ofNat 0)), (.int .i64 (.ofNat 0)), (.int .i64 (.ofNat 0)), (.int .i64 (.ofNat 0)), (.int .i64 (.ofNat 0)), (.int .i64 (.ofNat 0)), (.int .i64 (.ofNat 0)), (.int .i64 (.ofNat 0)), (.int .i64 (.ofNat 0)), (.int .i64 (.ofNat 0)), (.int .i64 (.ofNat 0)), (.int .i64 (.ofNat 0)), (.int .i64 (.ofNat 0)), (.int .i64 (.ofNat 0)), (.int .i64 (.ofNat 0)), (.int .i64 (.ofNat 0)), (.int .i64 (.ofNat 0)), (.int .i64 (.ofNat 0)), (.int .i64 (.ofNat 0)), (.int .i64 (.ofNat 0)), (.int .i64 (.ofNat 0)), (.int .i64 (.ofNat 0)), (.int .i64 (.ofNat 0)), (.int .i64 (.ofNat 0)), (.int .i64 (.ofNat 0)), (.int .i64 (.ofNat 0)), (.int .i64 (.ofNat 0)), (.int .i64 (.ofNat 0)), (.int .i64 (.ofNat 0)), (.int .i64 (.ofNat 0)), (.int .i64 (.ofNat 0)), (.int .i64 (.ofNat 0)), (.int .i64 (.ofNat 0)), (.int .i64 (.ofNat 0)), (.int .i64 (.ofNat 0)), (.int .i64 (.ofNat 0)), (.int .i64 (.ofNat 0)), (.int .i64 (.ofNat 0)), (.int .i64 (.ofNat 0)), (.int .i64 (.ofNat 0)), (.int .i64 (.ofNat 0)), (.int .i64 (.ofNat 0)), (.int .i64 (.ofNat 0)), (.int .i64 (.ofNat 0)), (.int .i64 (.ofNat 0)), (.int .i64 (.ofNat 0)), (.int .i64 (.ofNat 0)), (.int .i64 (.ofNat 0)), (.int .i64 (.ofNat 0)), (.int .i64 (.ofNat 0)), (.int .i64 (.ofNat 0)), (.int .i64 (.ofNat 0)), (.int .i64 (.ofNat 0)), (.int .i64 (.ofNat 0)), (.int .i64 (.ofNat 0)), (.int .i64 (.ofNat 0)), (.int .i64 (.ofNat 0)), (.int .i64 (.ofNat 0)), (.int .i64 (.ofNat 0)), (.int .i64 (.ofNat 0)), (.int .i64 (.ofNat 0)), (.int .i64 (.ofNat 0)), (.int .i64 (.ofNat 0)), (.int .i64 (.ofNat 0)), (.int .i64 (.ofNat 0)), (.int .i64 (.ofNat 0)), (.int .i64 (.ofNat 0)), (.int .i64 (.ofNat 0)), (.int .i64 (.ofNat 0)), (.int .i64 (.ofNat 0)), (.int .i64 (.ofNat 0)), (.int .i64 (.ofNat 0)), (.int .i64 (.ofNat 0)), (.int .i64 (.ofNat 0)), (.int .i64 (.ofNat 0)), (.int .i64 (.ofNat 0)), (.int .i64 (.ofNat 0)), (.int .i64 (.ofNat 0)), (.int .i64 (.ofNat 0)), (.int .i64 (.ofNat 0)), (.int .i64 (.ofNat 0)), (.int .i64 (.ofNat 0)), (.int .i64 (.ofNat 0)), (.int .i64 (.ofNat 0)), (.int .i64 (.ofNat 0)), (.int .i64 (.ofNat 0)), (.int .i64 (.ofNat 0)), (.int .i64 (.ofNat 0)), (.int .i64 (.ofNat 0)), (.int .i64 (.ofNat 0)), (.int .i64 (.ofNat 0)), (.int .i64 (.ofNat 0)), (.int .i64 (.ofNat 0)), (.int .i64 (.ofNat 0)), (.int .i64 (.ofNat 0)), (.int .i64 (.ofNat 0)), (.int .i64 (.ofNat 0)), (.int .i64 (.ofNat 0)), (.int .i64 (.ofNat 0)), (.int .i64 (.ofNat 0)), (.int .i64 (.ofNat 0)), (.int .i64 (.ofNat 0)), (.int .i64 (.ofNat 0)), (.int .i64 (.ofNat 0)), (.int .i64 (.ofNat 0)), (.int .i64 (.ofNat 0)), (.int .i64 (.ofNat 0)), (.int .i64 (.ofNat 0)), (.int .i64 (.ofNat 0)), (.int .i64 (.ofNat 0)), (.int .i64 (.ofNat 0)), (.int .i64 (.ofNat 0)), (.int .i64 (.ofNat 0)), (.int .i64 (.ofNat 0)), (.int .i64 (.ofNat 0)), (.int .i64 (.ofNat 0)), (.int .i64 (.ofNat 0)), (.int .i64 (.ofNat 0)), (.int .i64 (.ofNat 0)), (.int .i64 (.ofNat 0)), (.int .i64 (.ofNat 0)), (.int .i64 (.ofNat 0)), (.int .i64 (.ofNat 0)), (.int .i64 (.ofNat 0)), (.int .i64 (.ofNat 0)), (.int .i64 (.ofNat 0)), (.int .i64 (.ofNat 0)), (.int .i64 (.ofNat 0)), (.int .i64 (.ofNat 0)), (.int .i64 (.ofNat 0)), (.int .i64 (.ofNat 0)), (.int .i64 (.ofNat 0)), (.int .i64 (.ofNat 0)), (.int .i64 (.ofNat 0)), (.int .i64 (.ofNat 0)), (.int .i64 (.ofNat 0)), (.int .i64 (.ofNat 0)), (.int .i64 (.ofNat 0)), (.int .i64 (.ofNat 0)), (.int .i64 (.ofNat 0)), (.int .i64 (.ofNat 0)), (.int .i64 (.ofNat 0)), (.int .i64 (.ofNat 0)), (.int .i64 (.ofNat 0)), (.int .i64 (.ofNat 0)), (.int .i64 (.ofNat 0)), (.int .i64 (.ofNat 0)), (.int .i64 (.ofNat 0)), (.int .i64 (.ofNat 0)), (.int .i64 (.ofNat 0)), (.int .i64 (.ofNat 0)), (.int .i64 (.ofNat 0)), (.int .i64 (.ofNat 0)), (.int .i64 (.ofNat 0)), (.int .i64 (.ofNat 0)), (.int .i64 (.ofNat 0)), (.int .i64 (.ofNat 0)), (.int .i64 (.ofNat 0)), (.int .i64 (.ofNat 0)), (.int .i64 (.ofNat 0)), (.int .i64 (.ofNat 0)), (.int .i64 (.ofNat 0))] []))⟩, ⟨(some p2), none, (.e (.box (.r p1)))⟩, ⟨(some p0), none, (.e (.mv (.r p2)))⟩]) .ret))
theorem I100_0 (E : Env) : Is E C100_0 (retK3 R100) (fun σ h => J100_0 E h) :=
  fun σ h => by kernel_rfl
def D100 : DF := ⟨0, 3, C100_0, R100⟩
noncomputable def S100 (E : Env) : Fun := fun args h => a0 args (J100_0 E h)
theorem S100_eq (E : Env) (args : List DV) (h : H) : runFn E D100 args h = S100 E args h :=
  Is.fn0 (d := D100) (I100_0 E) rfl (fun h => J100_0 E h) (fun h => by kernel_rfl) args h
/- hurdle/usage.New -/
def R101 : List RV := [(.r p0)]
noncomputable def J101_0 (E : Env) (h : H) : Ans :=
  vK (v_bld [.nils] []) fun x1 =>
  n_box x1 h fun x2 h3 =>
  some (x2, h3)
def C101_0 : DC := (.seq (.reg [⟨(some p0), none, (.e (.mv (.c .nilp)))⟩]) (.seq (.reg [⟨(some p1), none, (.e (.bld [.nils] []))⟩, ⟨(some p2), none, (.e (.box (.r p1)))⟩, ⟨(some p0), none, (.e (.mv (.r p2)))⟩]) .ret))
theorem I101_0 (E : Env) : Is E C101_0 (retK3 R101) (fun σ h => J101_0 E h) :=
  fun σ h => by kernel_rfl
def D101 : DF := ⟨0, 3, C101_0, R101⟩
noncomputable def S101 (E : Env) : Fun := fun args h => a0 args (J101_0 E h)
theorem S101_eq (E : Env) (args : List DV) (h : H) : runFn E D101 args h = S101 E args h :=
  Is.fn0 (d := D101) (I101_0 E) rfl (fun h => J101_0 E h) (fun h => by kernel_rfl) args h
/- hurdle/lease.New -/
def R102 : List RV := [(.r p0)]
noncomputable def J102_0 (E : Env) (h : H) : Ans :=
  n_mkm h fun x1 h2 =>
  vK (v_bld [.nilm, (.int .i64 (.ofNat 0))] [(0, 1, x1)]) fun x3 =>
  n_box x3 h2 fun x4 h5 =>
  some (x4, h5)
def C102_0 : DC := (.seq (.reg [⟨(some p0), none, (.e (.mv (.c .nilp)))⟩]) (.seq (.reg [⟨(some p1), none, (.e .mkm)⟩, ⟨(some p2), none, (.e (.bld [.nilm, (.int .i64 (.ofNat 0))] [(0, 1, (.r p1))]))⟩, ⟨(some p3), none, (.e (.box (.r p2)))⟩, ⟨(some p0), none, (.e (.mv (.r p3)))⟩]) .ret))
theorem I102_0 (E : Env) : Is E C102_0 (retK3 R102) (fun σ h => J102_0 E h) :=
  fun σ h => by kernel_rfl
def D102 : DF := ⟨0, 4, C102_0, R102⟩
noncomputable def S102 (E : Env) : Fun := fun args h => a0 args (J102_0 E h)
theorem S102_eq (E : Env) (args : List DV) (h : H) : runFn E D102 args h = S102 E args h :=
  Is.fn0 (d := D102) (I102_0 E) rfl (fun h => J102_0 E h) (fun h => by kernel_rfl) args h
/- hurdle/replies.New -/
def R103 : List RV := [(.r p2)]
noncomputable def J103_0 (E : Env) (r0 : DV) (h : H) : Ans :=
  vK (v_mx r0 (.int .i64 (.ofNat 1))) fun x1 =>
  vK (v_mn x1 (.int .i64 (.ofNat 16))) fun x2 =>
  n_mkm h fun x3 h4 =>
  vK (v_bld [(.int .i64 (.ofNat 0)), .nilm] [(0, 1, x2), (1, 1, x3)]) fun x5 =>
  n_box x5 h4 fun x6 h7 =>
  some (x6, h7)
def C103_0 : DC := (.seq (.reg [⟨(some p2), none, (.e (.mv (.c .nilp)))⟩]) (.seq (.reg [⟨(some p3), none, (.e (.mv (.r p0)))⟩, ⟨(some p4), none, (.e (.mx (.r p3) (.c (.int .i64 (.ofNat 1)))))⟩, ⟨(some p5), none, (.e (.mn (.r p4) (.c (.int .i64 (.ofNat 16)))))⟩, ⟨(some p6), none, (.e .mkm)⟩, ⟨(some p7), none, (.e (.bld [(.int .i64 (.ofNat 0)), .nilm] [(0, 1, (.r p5)), (1, 1, (.r p6))]))⟩, ⟨(some p8), none, (.e (.box (.r p7)))⟩, ⟨(some p2), none, (.e (.mv (.r p8)))⟩]) .ret))
theorem I103_0 (E : Env) : Is E C103_0 (retK3 R103) (fun σ h => J103_0 E (σ p0) h) :=
  fun σ h => by kernel_rfl
def D103 : DF := ⟨1, 9, C103_0, R103⟩
noncomputable def S103 (E : Env) : Fun := fun args h => aS args fun r0 args => a0 args (J103_0 E r0 h)
theorem S103_eq (E : Env) (args : List DV) (h : H) : runFn E D103 args h = S103 E args h :=
  Is.fn1 (d := D103) (I103_0 E) rfl (fun r0 h => J103_0 E r0 h) (fun r0 h => by kernel_rfl) args h
/- (*hurdle/members.Members).Epoch -/
def R104 : List RV := [(.r p2)]
noncomputable def J104_0 (E : Env) (r0 : DV) (h : H) : Ans :=
  vK (v_eqv .ptr false h.get r0 .nilp) fun x1 =>
  bK x1
  (some ((.int .i64 (.ofNat 0)), h))
  (vK (v_nilchk r0) fun x2 =>
  vK (v_fa 2 x2) fun x3 =>
  vK (v_ld h.get x3) fun x4 =>
  some (x4, h))
def C104_0 : DC := (.seq (.reg [⟨(some p2), none, (.e (.mv (.c (.int .i64 (.ofNat 0)))))⟩]) (.seq (.seq (.reg [⟨(some p3), none, (.e (.mv (.r p0)))⟩, ⟨(some p4), none, (.e (.eqv .ptr false (.r p3) (.c .nilp)))⟩]) (.cond (.r p4) (.seq (.reg [⟨(some p2), none, (.e (.mv (.c (.int .i64 (.ofNat 0)))))⟩]) .ret) .skip)) (.seq (.reg [⟨(some p5), none, (.e (.mv (.r p0)))⟩, ⟨(some p6), none, (.e (.nilchk (.r p5)))⟩, ⟨(some p7), none, (.e (.fa 2 (.r p6)))⟩, ⟨(some p8), none, (.e (.ld (.r p7)))⟩, ⟨(some p2), none, (.e (.mv (.r p8)))⟩]) .ret)))
theorem I104_0 (E : Env) : Is E C104_0 (retK3 R104) (fun σ h => J104_0 E (σ p0) h) :=
  fun σ h => by kernel_rfl
def D104 : DF := ⟨1, 9, C104_0, R104⟩
noncomputable def S104 (E : Env) : Fun := fun args h => aS args fun r0 args => a0 args (J104_0 E r0 h)
theorem S104_eq (E : Env) (args : List DV) (h : H) : runFn E D104 args h = S104 E args h :=
  Is.fn1 (d := D104) (I104_0 E) rfl (fun r0 h => J104_0 E r0 h) (fun r0 h => by kernel_rfl) args h
/- hurdle/layout.All -/
def R105 : List RV := [(.r p4), (.r p5)]
noncomputable def J105_1 (E : Env) (r6 : DV) (h : H) : Ans :=
  some ((.tup [r6, (.int .i64 (.ofNat 0))]), h)
def C105_1 : DC := (.seq (.reg [⟨(some p38), none, (.e (.mv (.r p6)))⟩, ⟨(some p4), none, (.e (.mv (.r p38)))⟩, ⟨(some p5), none, (.e (.mv (.c (.int .i64 (.ofNat 0)))))⟩]) .ret)
noncomputable def B105_2 (E : Env) (r0 r1 r6 r23 : DV) (i2 : DV → H → Ans) (r24 : DV) (h : H) : Ans :=
  vK (v_lss r24 r23) fun x1 =>
  bK x1
  (wK (callK E 148 [r0, r1, r24] h) fun x2 h3 =>
  vK (v_iaS 1 r0 x2) fun x4 =>
  vK (v_ld h3.get x4) fun x5 =>
  vK (v_iaS 1 r6 r24) fun x6 =>
  wK (dStF 1 x6 x5 h3) fun x7 h8 =>
  vK (v_add r24 (.int .i64 (.ofNat 1))) fun x9 =>
  i2 x9 h8)
  (J105_1 E r6 h)
noncomputable def L105_2 (E : Env) (r0 r1 r6 r23 : DV) (n : Nat) : DV → H → Ans := Nat.rec (motive := fun _ => DV → H → Ans) (fun _ _ => none) (fun _ i => B105_2 E r0 r1 r6 r23 i) n
def C105_2 : DC := (.loop (.seq (.reg [⟨(some p25), none, (.e (.bin .lss (.r p24) (.r p23)))⟩]) (.seq (.cond (.r p25) .skip (.exit 0)) (.seq (.block 1 (.seq (.reg [⟨(some p26), none, (.e (.mv (.r p24)))⟩, ⟨(some p7), none, (.e (.mv (.r p26)))⟩]) (.reg [⟨(some p27), none, (.e (.mv (.r p6)))⟩, ⟨(some p28), none, (.e (.mv (.r p7)))⟩, ⟨(some p29), none, (.e (.mv (.r p0)))⟩, ⟨(some p30), none, (.e (.mv (.r p0)))⟩, ⟨(some p31), none, (.e (.mv (.r p1)))⟩, ⟨(some p32), none, (.e (.mv (.r p7)))⟩, ⟨(some p33), none, (.c (.f 148 [(.r p30), (.r p31), (.r p32)]))⟩, ⟨(some p34), none, (.e (.iaS 1 (.r p29) (.r p33)))⟩, ⟨(some p35), none, (.e (.ld (.r p34)))⟩, ⟨(some p36), none, (.e (.iaS 1 (.r p27) (.r p28)))⟩, ⟨none, none, (.w (.st 1 (.r p36) (.r p35)))⟩]))) (.reg [⟨(some p37), none, (.e (.bin .add (.r p24) (.c (.int .i64 (.ofNat 1)))))⟩, ⟨(some p24), none, (.e (.mv (.r p37)))⟩])))))
noncomputable def J105_0 (E : Env) (r0 r1 : DV) (h : H) : Ans :=
  wK (callK E 147 [r0] h) fun x1 h2 =>
  vK (v_not x1) fun x3 =>
  gdK x3 false (fun kk => kk r1 h2) h2 fun x4 h5 =>
  gdK x3 false (fun kk => vK (v_lss x4 (.int .i64 (.ofNat 0))) fun v => kk v h5) h5 fun x6 h7 =>
  vK (v_pick x3 (.bool true) x6) fun x8 =>
  gdK x8 false (fun kk => kk r1 h7) h7 fun x9 h10 =>
  gdK x8 false (fun kk => vK (v_geq x9 (.int .i64 (.ofNat 4096))) fun v => kk v h10) h10 fun x11 h12 =>
  vK (v_pick x8 (.bool true) x11) fun x13 =>
  bK x13
  (some ((.tup [.nils, (.int .i64 (.ofNat 1))]), h12))
  (vK (v_lenL r0) fun x14 =>
  n_mks 1 8 (.int .i64 (.ofNat 0)) x14 x14 h12 fun x15 h16 =>
  vK (v_lenL r0) fun x17 =>
  L105_2 E r0 r1 x15 x17 FUEL (.int .i64 (.ofNat 0)) h16)
def C105_0 : DC := (.seq (.reg [⟨(some p4), none, (.e (.mv (.c .nils)))⟩, ⟨(some p5), none, (.e (.mv (.c (.int .i64 (.ofNat 0)))))⟩]) (.seq (.seq (.reg [⟨(some p8), none, (.e (.mv (.r p0)))⟩, ⟨(some p9), none, (.c (.f 147 [(.r p8)]))⟩, ⟨(some p10), none, (.e (.not (.r p9)))⟩, ⟨(some p11), none, (.e (.mv (.r p10)))⟩, ⟨(some p12), (some (p11, false)), (.e (.mv (.r p1)))⟩, ⟨(some p13), (some (p11, false)), (.e (.bin .lss (.r p12) (.c (.int .i64 (.ofNat 0)))))⟩, ⟨(some p14), none, (.e (.pick (.r p11) (.c (.bool true)) (.r p13)))⟩, ⟨(some p15), none, (.e (.mv (.r p14)))⟩, ⟨(some p16), (some (p15, false)), (.e (.mv (.r p1)))⟩, ⟨(some p17), (some (p15, false)), (.e (.bin .geq (.r p16) (.c (.int .i64 (.ofNat 4096)))))⟩, ⟨(some p18), none, (.e (.pick (.r p15) (.c (.bool true)) (.r p17)))⟩]) (.cond (.r p18) (.seq (.reg [⟨(some p4), none, (.e (.mv (.c .nils)))⟩, ⟨(some p5), none, (.e (.mv (.c (.int .i64 (.ofNat 1)))))⟩]) .ret) .skip)) (.seq (.reg [⟨(some p19), none, (.e (.mv (.r p0)))⟩, ⟨(some p20), none, (.e (.lenL (.r p19)))⟩, ⟨(some p21), none, (.e (.mks 1 8 (.int .i64 (.ofNat 0)) (.r p20) (.r p20)))⟩, ⟨(some p6), none, (.e (.mv (.r p21)))⟩]) (.seq (.seq (.reg [⟨(some p22), none, (.e (.mv (.r p0)))⟩, ⟨(some p23), none, (.e (.lenL (.r p22)))⟩, ⟨(some p24), none, (.e (.mv (.c (.int .i64 (.ofNat 0)))))⟩]) (.block 0 C105_2)) C105_1))))
theorem I105_1 (E : Env) : Is E C105_1 (retK3 R105) (fun σ h => J105_1 E (σ p6) h) :=
  fun σ h => by kernel_rfl
noncomputable abbrev K105_3 (E : Env) : KT2 (DV × H) := (thenK3 (fun σ h => J105_1 E (σ p6) h) (retK3 R105))
theorem I105_2 (E : Env) : Is E C105_2 (blockK3 0 (K105_3 E)) (fun σ h => L105_2 E (σ p0) (σ p1) (σ p6) (σ p23) FUEL (σ p24) h) :=
  Is.loop (fun n2 σ h => L105_2 E (σ p0) (σ p1) (σ p6) (σ p23) n2 (σ p24) h) (by kernel_rfl) fun n2 => Is.as (Is.leaf _) fun σ h => by kernel_rfl
theorem I105_0 (E : Env) : Is E C105_0 (retK3 R105) (fun σ h => J105_0 E (σ p0) (σ p1) h) :=
  Is.as (Is.seq (Is.seq (Is.seq (Is.seq (I105_1 E) (Is.seq (Is.block (I105_2 E)) (Is.leaf _))) (Is.leaf _)) (Is.leaf _)) (Is.leaf _)) fun σ h => by kernel_rfl
def D105 : DF := ⟨2, 39, C105_0, R105⟩
noncomputable def S105 (E : Env) : Fun := fun args h => aS args fun r0 args => aS args fun r1 args => a0 args (J105_0 E r0 r1 h)
theorem S105_eq (E : Env) (args : List DV) (h : H) : runFn E D105 args h = S105 E args h :=
  Is.fn2 (d := D105) (I105_0 E) rfl (fun r0 r1 h => J105_0 E r0 r1 h) (fun r0 r1 h => by kernel_rfl) args h
/- slices.Index[[]int,int] -/
def R106 : List RV := [(.r p4)]
noncomputable def J106_1 (E : Env) (h : H) : Ans :=
  some ((.int .i64 (.negSucc 0)), h)
def C106_1 : DC := (.seq (.reg [⟨(some p4), none, (.e (.mv (.c (.int .i64 (.negSucc 0)))))⟩]) .ret)
noncomputable def B106_2 (E : Env) (r0 r1 r7 : DV) (i2 : DV → H → Ans) (r8 : DV) (h : H) : Ans :=
  vK (v_lss r8 r7) fun x1 =>
  bK x1
  (vK (v_iaS 1 r0 r8) fun x2 =>
  vK (v_ld h.get x2) fun x3 =>
  vK (v_eql r1 x3) fun x4 =>
  bK x4
  (some (r8, h))
  (vK (v_add r8 (.int .i64 (.ofNat 1))) fun x5 =>
  i2 x5 h))
  (J106_1 E h)
noncomputable def L106_2 (E : Env) (r0 r1 r7 : DV) (n : Nat) : DV → H → Ans := Nat.rec (motive := fun _ => DV → H → Ans) (fun _ _ => none) (fun _ i => B106_2 E r0 r1 r7 i) n
def C106_2 : DC := (.loop (.seq (.reg [⟨(some p9), none, (.e (.bin .lss (.r p8) (.r p7)))⟩]) (.seq (.cond (.r p9) .skip (.exit 0)) (.seq (.block 1 (.seq (.reg [⟨(some p10), none, (.e (.mv (.r p8)))⟩, ⟨(some p5), none, (.e (.mv (.r p10)))⟩]) (.seq (.reg [⟨(some p11), none, (.e (.mv (.r p1)))⟩, ⟨(some p12), none, (.e (.mv (.r p0)))⟩, ⟨(some p13), none, (.e (.mv (.r p5)))⟩, ⟨(some p14), none, (.e (.iaS 1 (.r p12) (.r p13)))⟩, ⟨(some p15), none, (.e (.ld (.r p14)))⟩, ⟨(some p16), none, (.e (.bin .eql (.r p11) (.r p15)))⟩]) (.cond (.r p16) (.seq (.reg [⟨(some p17), none, (.e (.mv (.r p5)))⟩, ⟨(some p4), none, (.e (.mv (.r p17)))⟩]) .ret) .skip)))) (.reg [⟨(some p18), none, (.e (.bin .add (.r p8) (.c (.int .i64 (.ofNat 1)))))⟩, ⟨(some p8), none, (.e (.mv (.r p18)))⟩])))))
noncomputable def J106_0 (E : Env) (r0 r1 : DV) (h : H) : Ans :=
  vK (v_lenL r0) fun x1 =>
  L106_2 E r0 r1 x1 FUEL (.int .i64 (.ofNat 0)) h
def C106_0 : DC := (.seq (.reg [⟨(some p4), none, (.e (.mv (.c (.int .i64 (.ofNat 0)))))⟩]) (.seq (.seq (.reg [⟨(some p6), none, (.e (.mv (.r p0)))⟩, ⟨(some p7), none, (.e (.lenL (.r p6)))⟩, ⟨(some p8), none, (.e (.mv (.c (.int .i64 (.ofNat 0)))))⟩]) (.block 0 C106_2)) C106_1))
theorem I106_1 (E : Env) : Is E C106_1 (retK3 R106) (fun σ h => J106_1 E h) :=
  fun σ h => by kernel_rfl
noncomputable abbrev K106_3 (E : Env) : KT2 (DV × H) := (blockK3 0 (thenK3 (fun σ h => J106_1 E h) (retK3 R106)))
theorem I106_2 (E : Env) : Is E C106_2 (K106_3 E) (fun σ h => L106_2 E (σ p0) (σ p1) (σ p7) FUEL (σ p8) h) :=
  Is.loop (fun n2 σ h => L106_2 E (σ p0) (σ p1) (σ p7) n2 (σ p8) h) (by kernel_rfl) fun n2 => Is.as (Is.leaf _) fun σ h => by kernel_rfl
theorem I106_0 (E : Env) : Is E C106_0 (retK3 R106) (fun σ h => J106_0 E (σ p0) (σ p1) h) :=
  Is.as (Is.seq (Is.seq (I106_1 E) (Is.seq (Is.block (I106_2 E)) (Is.leaf _))) (Is.leaf _)) fun σ h => by kernel_rfl
def D106 : DF := ⟨2, 19, C106_0, R106⟩
noncomputable def S106 (E : Env) : Fun := fun args h => aS args fun r0 args => aS args fun r1 args => a0 args (J106_0 E r0 r1 h)
theorem S106_eq (E : Env) (args : List DV) (h : H) : runFn E D106 args h = S106 E args h :=
  Is.fn2 (d := D106) (I106_0 E) rfl (fun r0 r1 h => J106_0 E r0 r1 h) (fun r0 r1 h => by kernel_rfl) args h
/- (*hurdle/smap.Map).which -/
def R107 : List RV := [(.r p4)]
noncomputable def J107_1 (E : Env) (r5 : DV) (h : H) : Ans :=
  some (r5, h)
def C107_1 : DC := (.seq (.reg [⟨(some p28), none, (.e (.mv (.r p5)))⟩, ⟨(some p4), none, (.e (.mv (.r p28)))⟩]) .ret)
noncomputable def J107_3 (E : Env) (i2 : DV → DV → H → Ans) (r5 r15 : DV) (h : H) : Ans :=
  vK (v_add r15 (.int .i64 (.ofNat 1))) fun x1 =>
  i2 r5 x1 h
def C107_3 : DC := (.reg [⟨(some p27), none, (.e (.bin .add (.r p15) (.c (.int .i64 (.ofNat 1)))))⟩, ⟨(some p15), none, (.e (.mv (.r p27)))⟩])
noncomputable def B107_2 (E : Env) (r1 r13 r14 : DV) (i2 : DV → DV → H → Ans) (r5 r15 : DV) (h : H) : Ans :=
  vK (v_lss r15 r14) fun x1 =>
  bK x1
  (vK (v_iaS 6 r13 r15) fun x2 =>
  vK (v_ldN 6 h.get x2) fun x3 =>
  n_alc 6 6 (.list [(.int .i64 (.ofNat 0)), (.int .i64 (.ofNat 0)), (.int .i64 (.ofNat 0)), (.int .i64 (.ofNat 0)), (.int .i64 (.ofNat 0)), .nils]) h fun x4 h5 =>
  wK (dStF 6 x4 x3 h5) fun x6 h7 =>
  vK (v_ldN 6 h7.get x4) fun x8 =>
  wK (c_val E r1 [x8] h7) fun x9 h10 =>
  bK x9
  (vK (v_fa 0 x4) fun x11 =>
  vK (v_ld h10.get x11) fun x12 =>
  n_bsl 1 1 [(.int .i64 (.ofNat 0))] [(0, 1, x12)] h10 fun x13 h14 =>
  wK (dAppendF 1 8 r5 x13 h14) fun x15 h16 =>
  J107_3 E i2 x15 r15 h16)
  (J107_3 E i2 r5 r15 h10))
  (J107_1 E r5 h)
noncomputable def L107_2 (E : Env) (r1 r13 r14 : DV) (n : Nat) : DV → DV → H → Ans := Nat.rec (motive := fun _ => DV → DV → H → Ans) (fun _ _ _ => none) (fun _ i => B107_2 E r1 r13 r14 i) n
def C107_2 : DC := (.loop (.seq (.reg [⟨(some p16), none, (.e (.bin .lss (.r p15) (.r p14)))⟩]) (.seq (.cond (.r p16) .skip (.exit 0)) (.seq (.block 1 (.seq (.reg [⟨(some p17), none, (.e (.iaS 6 (.r p13) (.r p15)))⟩, ⟨(some p18), none, (.e (.ldN 6 (.r p17)))⟩, ⟨(some p7), none, (.e (.alc 6 6 (.list [(.int .i64 (.ofNat 0)), (.int .i64 (.ofNat 0)), (.int .i64 (.ofNat 0)), (.int .i64 (.ofNat 0)), (.int .i64 (.ofNat 0)), .nils])))⟩, ⟨none, none, (.w (.st 6 (.r p7) (.r p18)))⟩]) (.seq (.reg [⟨(some p19), none, (.e (.mv (.r p1)))⟩, ⟨(some p20), none, (.e (.ldN 6 (.r p7)))⟩, ⟨(some p21), none, (.c (.v (.r p19) [(.r p20)]))⟩]) (.cond (.r p21) (.reg [⟨(some p22), none, (.e (.mv (.r p5)))⟩, ⟨(some p23), none, (.e (.fa 0 (.r p7)))⟩, ⟨(some p24), none, (.e (.ld (.r p23)))⟩, ⟨(some p25), none, (.e (.bsl 1 1 [(.int .i64 (.ofNat 0))] [(0, 1, (.r p24))]))⟩, ⟨(some p26), none, (.w (.app 1 8 (.r p22) (.r p25)))⟩, ⟨(some p5), none, (.e (.mv (.r p26)))⟩]) .skip)))) C107_3))))
noncomputable def J107_0 (E : Env) (r0 r1 : DV) (h : H) : Ans :=
  vK (v_eqv .ptr true h.get r0 .nilp) fun x1 =>
  bK x1
  (vK (v_nilchk r0) fun x2 =>
  vK (v_fa 0 x2) fun x3 =>
  vK (v_ld h.get x3) fun x4 =>
  vK (v_lenL x4) fun x5 =>
  L107_2 E r1 x4 x5 FUEL .nils (.int .i64 (.ofNat 0)) h)
  (J107_1 E .nils h)
def C107_0 : DC := (.seq (.reg [⟨(some p4), none, (.e (.mv (.c .nils)))⟩]) (.seq (.reg [⟨(some p5), none, (.e (.mv (.c .nils)))⟩]) (.seq (.seq (.reg [⟨(some p8), none, (.e (.mv (.r p0)))⟩, ⟨(some p9), none, (.e (.eqv .ptr true (.r p8) (.c .nilp)))⟩]) (.cond (.r p9) (.seq (.reg [⟨(some p10), none, (.e (.mv (.r p0)))⟩, ⟨(some p11), none, (.e (.nilchk (.r p10)))⟩, ⟨(some p12), none, (.e (.fa 0 (.r p11)))⟩, ⟨(some p13), none, (.e (.ld (.r p12)))⟩, ⟨(some p14), none, (.e (.lenL (.r p13)))⟩, ⟨(some p15), none, (.e (.mv (.c (.int .i64 (.ofNat 0)))))⟩]) (.block 0 C107_2)) .skip)) C107_1)))
theorem I107_1 (E : Env) : Is E C107_1 (retK3 R107) (fun σ h => J107_1 E (σ p5) h) :=
  fun σ h => by kernel_rfl
noncomputable abbrev K107_4 (E : Env) : KT2 (DV × H) := (thenK3 (fun σ h => J107_1 E (σ p5) h) (retK3 R107))
noncomputable abbrev K107_5 (E : Env) (n2 : Nat) : KT2 (DV × H) := (thenK3 (fun σ h => (L107_2 E (σ p1) (σ p13) (σ p14) n2) (σ p5) (σ p15) h) (blockK3 0 (K107_4 E)))
theorem I107_3 (E : Env) (n2 : Nat) : Is E C107_3 (K107_5 E n2) (fun σ h => J107_3 E (L107_2 E (σ p1) (σ p13) (σ p14) n2) (σ p5) (σ p15) h) :=
  fun σ h => by kernel_rfl
theorem I107_2 (E : Env) : Is E C107_2 (blockK3 0 (K107_4 E)) (fun σ h => L107_2 E (σ p1) (σ p13) (σ p14) FUEL (σ p5) (σ p15) h) :=
  Is.loop (fun n2 σ h => L107_2 E (σ p1) (σ p13) (σ p14) n2 (σ p5) (σ p15) h) (by kernel_rfl) fun n2 => Is.as (Is.seq (Is.seq (Is.seq (I107_3 E n2) (Is.leaf _)) (Is.leaf _)) (Is.leaf _)) fun σ h => by kernel_rfl
theorem I107_0 (E : Env) : Is E C107_0 (retK3 R107) (fun σ h => J107_0 E (σ p0) (σ p1) h) :=
  Is.as (Is.seq (Is.seq (Is.seq (I107_1 E) (Is.seq (Is.cond (Is.seq (Is.block (I107_2 E)) (Is.leaf _)) (Is.leaf _)) (Is.leaf _))) (Is.leaf _)) (Is.leaf _)) fun σ h => by kernel_rfl
def D107 : DF := ⟨2, 29, C107_0, R107⟩
noncomputable def S107 (E : Env) : Fun := fun args h => aS args fun r0 args => aS args fun r1 args => a0 args (J107_0 E r0 r1 h)
theorem S107_eq (E : Env) (args : List DV) (h : H) : runFn E D107 args h = S107 E args h :=
  Is.fn2 (d := D107) (I107_0 E) rfl (fun r0 r1 h => J107_0 E r0 r1 h) (fun r0 r1 h => by kernel_rfl) args h
/- (*hurdle/smap.Map).List$1 -/
def R108 : List RV := [(.r p3)]
noncomputable def J108_0 (E : Env) (r0 r1 : DV) (h : H) : Ans :=
  n_box r0 h fun x1 h2 =>
  vK (v_fa 1 x1) fun x3 =>
  vK (v_ld h2.get x3) fun x4 =>
  vK (v_ld h2.get r1) fun x5 =>
  vK (v_eql x4 x5) fun x6 =>
  some (x6, h2)
def C108_0 : DC := (.seq (.reg [⟨(some p2), none, (.e (.box (.r p0)))⟩, ⟨(some p3), none, (.e (.mv (.c (.bool false))))⟩]) (.seq (.reg [⟨(some p4), none, (.e (.fa 1 (.r p2)))⟩, ⟨(some p5), none, (.e (.ld (.r p4)))⟩, ⟨(some p6), none, (.e (.ld (.r p1)))⟩, ⟨(some p7), none, (.e (.bin .eql (.r p5) (.r p6)))⟩, ⟨(some p3), none, (.e (.mv (.r p7)))⟩]) .ret))
theorem I108_0 (E : Env) : Is E C108_0 (retK3 R108) (fun σ h => J108_0 E (σ p0) (σ p1) h) :=
  fun σ h => by kernel_rfl
def D108 : DF := ⟨2, 8, C108_0, R108⟩
noncomputable def S108 (E : Env) : Fun := fun args h => aS args fun r0 args => aS args fun r1 args => a0 args (J108_0 E r0 r1 h)
theorem S108_eq (E : Env) (args : List DV) (h : H) : runFn E D108 args h = S108 E args h :=
  Is.fn2 (d := D108) (I108_0 E) rfl (fun r0 r1 h => J108_0 E r0 r1 h) (fun r0 r1 h => by kernel_rfl) args h
/- (*hurdle/codec.Writer).lay -/
def R109 : List RV := []
noncomputable def J109_0 (E : Env) (r0 r1 : DV) (h : H) : Ans :=
  vK (v_eqv .ptr false h.get r0 .nilp) fun x1 =>
  gdK x1 false (fun kk => kk r0 h) h fun x2 h3 =>
  gdK x1 false (fun kk => vK (v_nilchk x2) fun v => kk v h3) h3 fun x4 h5 =>
  gdK x1 false (fun kk => vK (v_fa 2 x4) fun v => kk v h5) h5 fun x6 h7 =>
  gdK x1 false (fun kk => vK (v_ld h7.get x6) fun v => kk v h7) h7 fun x8 h9 =>
  gdK x1 false (fun kk => vK (v_neq x8 (.int .i64 (.ofNat 0))) fun v => kk v h9) h9 fun x10 h11 =>
  vK (v_pick x1 (.bool true) x10) fun x12 =>
  bK x12
  (some ((.tup []), h11))
  (vK (v_nilchk r0) fun x13 =>
  vK (v_fa 1 x13) fun x14 =>
  vK (v_ld h11.get x14) fun x15 =>
  vK (v_nilchk r0) fun x16 =>
  vK (v_fa 1 x16) fun x17 =>
  vK (v_ld h11.get x17) fun x18 =>
  vK (v_lenL x18) fun x19 =>
  vK (v_nilchk r0) fun x20 =>
  vK (v_fa 1 x20) fun x21 =>
  vK (v_ld h11.get x21) fun x22 =>
  vK (v_lenL x22) fun x23 =>
  vK (v_slM 1 x15 none x19 x23) fun x24 =>
  wK (c_val E r1 [x24] h11) fun x25 h26 =>
  vK (v_lenL x25) fun x27 =>
  vK (v_nilchk r0) fun x28 =>
  vK (v_fa 0 x28) fun x29 =>
  vK (v_ld h26.get x29) fun x30 =>
  vK (v_gtr x27 x30) fun x31 =>
  bK x31
  (vK (v_nilchk r0) fun x32 =>
  vK (v_fa 2 x32) fun x33 =>
  wK (dStF 1 x33 (.int .i64 (.ofNat 2)) h26) fun x34 h35 =>
  some ((.tup []), h35))
  (vK (v_nilchk r0) fun x36 =>
  vK (v_fa 1 x36) fun x37 =>
  wK (dStF 1 x37 x25 h26) fun x38 h39 =>
  some ((.tup []), h39)))
def C109_0 : DC := (.seq (.seq (.reg [⟨(some p5), none, (.e (.mv (.r p0)))⟩, ⟨(some p6), none, (.e (.eqv .ptr false (.r p5) (.c .nilp)))⟩, ⟨(some p7), none, (.e (.mv (.r p6)))⟩, ⟨(some p8), (some (p7, false)), (.e (.mv (.r p0)))⟩, ⟨(some p9), (some (p7, false)), (.e (.nilchk (.r p8)))⟩, ⟨(some p10), (some (p7, false)), (.e (.fa 2 (.r p9)))⟩, ⟨(some p11), (some (p7, false)), (.e (.ld (.r p10)))⟩, ⟨(some p12), (some (p7, false)), (.e (.bin .neq (.r p11) (.c (.int .i64 (.ofNat 0)))))⟩, ⟨(some p13), none, (.e (.pick (.r p7) (.c (.bool true)) (.r p12)))⟩]) (.cond (.r p13) .ret .skip)) (.seq (.drg [⟨0, ⟨(some p14), none, (.e (.mv (.r p1)))⟩, [], false⟩, ⟨1, ⟨(some p15), none, (.e (.mv (.r p0)))⟩, [], false⟩, ⟨2, ⟨(some p16), none, (.e (.nilchk (.r p15)))⟩, [], false⟩, ⟨3, ⟨(some p17), none, (.e (.fa 1 (.r p16)))⟩, [], false⟩, ⟨4, ⟨(some p18), none, (.e (.ld (.r p17)))⟩, [], false⟩, ⟨5, ⟨(some p19), none, (.e (.mv (.r p0)))⟩, [], false⟩, ⟨6, ⟨(some p20), none, (.e (.nilchk (.r p19)))⟩, [], false⟩, ⟨7, ⟨(some p21), none, (.e (.fa 1 (.r p20)))⟩, [], false⟩, ⟨8, ⟨(some p22), none, (.e (.ld (.r p21)))⟩, [], false⟩, ⟨9, ⟨(some p23), none, (.e (.lenL (.r p22)))⟩, [], false⟩, ⟨10, ⟨(some p24), none, (.e (.mv (.r p0)))⟩, [], false⟩, ⟨11, ⟨(some p25), none, (.e (.nilchk (.r p24)))⟩, [], false⟩, ⟨12, ⟨(some p26), none, (.e (.fa 1 (.r p25)))⟩, [], false⟩, ⟨13, ⟨(some p27), none, (.e (.ld (.r p26)))⟩, [], false⟩, ⟨14, ⟨(some p28), none, (.e (.lenL (.r p27)))⟩, [], false⟩, ⟨15, ⟨(some p29), none, (.e (.slM 1 (.r p18) none (.r p23) (.r p28)))⟩, [], false⟩, ⟨16, ⟨(some p30), none, (.c (.v (.r p14) [(.r p29)]))⟩, [], false⟩, ⟨17, ⟨(some p4), none, (.e (.mv (.r p30)))⟩, [], false⟩]) (.seq (.seq (.reg [⟨(some p31), none, (.e (.mv (.r p4)))⟩, ⟨(some p32), none, (.e (.lenL (.r p31)))⟩, ⟨(some p33), none, (.e (.mv (.r p0)))⟩, ⟨(some p34), none, (.e (.nilchk (.r p33)))⟩, ⟨(some p35), none, (.e (.fa 0 (.r p34)))⟩, ⟨(some p36), none, (.e (.ld (.r p35)))⟩, ⟨(some p37), none, (.e (.bin .gtr (.r p32) (.r p36)))⟩]) (.cond (.r p37) (.seq (.reg [⟨(some p38), none, (.e (.mv (.r p0)))⟩, ⟨(some p39), none, (.e (.nilchk (.r p38)))⟩, ⟨(some p40), none, (.e (.fa 2 (.r p39)))⟩, ⟨none, none, (.w (.st 1 (.r p40) (.c (.int .i64 (.ofNat 2)))))⟩]) .ret) .skip)) (.reg [⟨(some p41), none, (.e (.mv (.r p0)))⟩, ⟨(some p42), none, (.e (.mv (.r p4)))⟩, ⟨(some p43), none, (.e (.nilchk (.r p41)))⟩, ⟨(some p44), none, (.e (.fa 1 (.r p43)))⟩, ⟨none, none, (.w (.st 1 (.r p44) (.r p42)))⟩]))))
theorem I109_0 (E : Env) : Is E C109_0 (retK3 R109) (fun σ h => J109_0 E (σ p0) (σ p1) h) :=
  fun σ h => by kernel_rfl
def D109 : DF := ⟨2, 45, C109_0, R109⟩
noncomputable def S109 (E : Env) : Fun := fun args h => aS args fun r0 args => aS args fun r1 args => a0 args (J109_0 E r0 r1 h)
theorem S109_eq (E : Env) (args : List DV) (h : H) : runFn E D109 args h = S109 E args h :=
  Is.fn2 (d := D109) (I109_0 E) rfl (fun r0 r1 h => J109_0 E r0 r1 h) (fun r0 r1 h => by kernel_rfl) args h
/- (*hurdle/codec.Writer).Int$1 -/
def R110 : List RV := [(.r p3)]
noncomputable def J110_0 (E : Env) (r0 r1 : DV) (h : H) : Ans :=
  vK (v_ld h.get r1) fun x1 =>
  wK (callK E 111 [r0, x1] h) fun x2 h3 =>
  some (x2, h3)
def C110_0 : DC := (.seq (.reg [⟨(some p3), none, (.e (.mv (.c .nils)))⟩]) (.seq (.reg [⟨(some p4), none, (.e (.mv (.r p0)))⟩, ⟨(some p5), none, (.e (.ld (.r p1)))⟩, ⟨(some p6), none, (.c (.f 111 [(.r p4), (.r p5)]))⟩, ⟨(some p3), none, (.e (.mv (.r p6)))⟩]) .ret))
theorem I110_0 (E : Env) : Is E C110_0 (retK3 R110) (fun σ h => J110_0 E (σ p0) (σ p1) h) :=
  fun σ h => by kernel_rfl
def D110 : DF := ⟨2, 7, C110_0, R110⟩
noncomputable def S110 (E : Env) : Fun := fun args h => aS args fun r0 args => aS args fun r1 args => a0 args (J110_0 E r0 r1 h)
theorem S110_eq (E : Env) (args : List DV) (h : H) : runFn E D110 args h = S110 E args h :=
  Is.fn2 (d := D110) (I110_0 E) rfl (fun r0 r1 h => J110_0 E r0 r1 h) (fun r0 r1 h => by kernel_rfl) args h
/- hurdle/codec.number -/
def R111 : List RV := [(.r p4)]
noncomputable def J111_1 (E : Env) (r0 r5 : DV) (h : H) : Ans :=
  vK (v_conv .u8 r5) fun x1 =>
  n_bsl 1 1 [(.int .u8 (.ofNat 0))] [(0, 1, x1)] h fun x2 h3 =>
  wK (dAppendF 1 1 r0 x2 h3) fun x4 h5 =>
  some (x4, h5)
def C111_1 : DC := (.seq (.reg [⟨(some p23), none, (.e (.mv (.r p0)))⟩, ⟨(some p24), none, (.e (.mv (.r p5)))⟩, ⟨(some p25), none, (.e (.conv .u8 (.r p24)))⟩, ⟨(some p26), none, (.e (.bsl 1 1 [(.int .u8 (.ofNat 0))] [(0, 1, (.r p25))]))⟩, ⟨(some p27), none, (.w (.app 1 1 (.r p23) (.r p26)))⟩, ⟨(some p4), none, (.e (.mv (.r p27)))⟩]) .ret)
noncomputable def B111_2 (E : Env) (i2 : DV → DV → H → Ans) (r0 r5 : DV) (h : H) : Ans :=
  vK (v_geq r5 (.int .u64 (.ofNat 128))) fun x1 =>
  bK x1
  (vK (v_conv .u8 r5) fun x2 =>
  vK (v_or x2 (.int .u8 (.ofNat 128))) fun x3 =>
  n_bsl 1 1 [(.int .u8 (.ofNat 0))] [(0, 1, x3)] h fun x4 h5 =>
  wK (dAppendF 1 1 r0 x4 h5) fun x6 h7 =>
  vK (v_shr r5 (.int .u64 (.ofNat 7))) fun x8 =>
  i2 x6 x8 h7)
  (J111_1 E r0 r5 h)
noncomputable def L111_2 (E : Env) (n : Nat) : DV → DV → H → Ans := Nat.rec (motive := fun _ => DV → DV → H → Ans) (fun _ _ _ => none) (fun _ i => B111_2 E i) n
def C111_2 : DC := (.loop (.seq (.seq (.reg [⟨(some p13), none, (.e (.mv (.r p5)))⟩, ⟨(some p14), none, (.e (.bin .geq (.r p13) (.c (.int .u64 (.ofNat 128)))))⟩]) (.cond (.r p14) .skip (.exit 0))) (.seq (.block 1 (.reg [⟨(some p17), none, (.e (.mv (.r p0)))⟩, ⟨(some p18), none, (.e (.mv (.r p5)))⟩, ⟨(some p19), none, (.e (.conv .u8 (.r p18)))⟩, ⟨(some p20), none, (.e (.bin .or (.r p19) (.c (.int .u8 (.ofNat 128)))))⟩, ⟨(some p21), none, (.e (.bsl 1 1 [(.int .u8 (.ofNat 0))] [(0, 1, (.r p20))]))⟩, ⟨(some p22), none, (.w (.app 1 1 (.r p17) (.r p21)))⟩, ⟨(some p0), none, (.e (.mv (.r p22)))⟩])) (.reg [⟨(some p15), none, (.e (.mv (.r p5)))⟩, ⟨(some p16), none, (.e (.bin .shr (.r p15) (.c (.int .u64 (.ofNat 7)))))⟩, ⟨(some p5), none, (.e (.mv (.r p16)))⟩]))))
noncomputable def J111_0 (E : Env) (r0 r1 : DV) (h : H) : Ans :=
  vK (v_conv .u64 r1) fun x1 =>
  vK (v_shl x1 (.int .u64 (.ofNat 1))) fun x2 =>
  vK (v_shr r1 (.int .u64 (.ofNat 63))) fun x3 =>
  vK (v_conv .u64 x3) fun x4 =>
  vK (v_xor x2 x4) fun x5 =>
  L111_2 E FUEL r0 x5 h
def C111_0 : DC := (.seq (.reg [⟨(some p4), none, (.e (.mv (.c .nils)))⟩]) (.seq (.reg [⟨(some p6), none, (.e (.mv (.r p1)))⟩, ⟨(some p7), none, (.e (.conv .u64 (.r p6)))⟩, ⟨(some p8), none, (.e (.bin .shl (.r p7) (.c (.int .u64 (.ofNat 1)))))⟩, ⟨(some p9), none, (.e (.mv (.r p1)))⟩, ⟨(some p10), none, (.e (.bin .shr (.r p9) (.c (.int .u64 (.ofNat 63)))))⟩, ⟨(some p11), none, (.e (.conv .u64 (.r p10)))⟩, ⟨(some p12), none, (.e (.bin .xor (.r p8) (.r p11)))⟩, ⟨(some p5), none, (.e (.mv (.r p12)))⟩]) (.seq (.block 0 C111_2) C111_1)))
theorem I111_1 (E : Env) : Is E C111_1 (retK3 R111) (fun σ h => J111_1 E (σ p0) (σ p5) h) :=
  fun σ h => by kernel_rfl
noncomputable abbrev K111_3 (E : Env) : KT2 (DV × H) := (thenK3 (fun σ h => J111_1 E (σ p0) (σ p5) h) (retK3 R111))
theorem I111_2 (E : Env) : Is E C111_2 (blockK3 0 (K111_3 E)) (fun σ h => L111_2 E FUEL (σ p0) (σ p5) h) :=
  Is.loop (fun n2 σ h => L111_2 E n2 (σ p0) (σ p5) h) (by kernel_rfl) fun n2 => Is.as (Is.leaf _) fun σ h => by kernel_rfl
theorem I111_0 (E : Env) : Is E C111_0 (retK3 R111) (fun σ h => J111_0 E (σ p0) (σ p1) h) :=
  Is.as (Is.seq (Is.seq (Is.seq (I111_1 E) (Is.block (I111_2 E))) (Is.leaf _)) (Is.leaf _)) fun σ h => by kernel_rfl
def D111 : DF := ⟨2, 28, C111_0, R111⟩
noncomputable def S111 (E : Env) : Fun := fun args h => aS args fun r0 args => aS args fun r1 args => a0 args (J111_0 E r0 r1 h)
theorem S111_eq (E : Env) (args : List DV) (h : H) : runFn E D111 args h = S111 E args h :=
  Is.fn2 (d := D111) (I111_0 E) rfl (fun r0 r1 h => J111_0 E r0 r1 h) (fun r0 r1 h => by kernel_rfl) args h
/- (*hurdle/codec.Reader).take -/
def R112 : List RV := [(.r p4), (.r p5)]
noncomputable def J112_0 (E : Env) (r0 r1 : DV) (h : H) : Ans :=
  vK (v_eqv .ptr false h.get r0 .nilp) fun x1 =>
  gdK x1 false (fun kk => kk r0 h) h fun x2 h3 =>
  gdK x1 false (fun kk => vK (v_nilchk x2) fun v => kk v h3) h3 fun x4 h5 =>
  gdK x1 false (fun kk => vK (v_fa 1 x4) fun v => kk v h5) h5 fun x6 h7 =>
  gdK x1 false (fun kk => vK (v_ld h7.get x6) fun v => kk v h7) h7 fun x8 h9 =>
  vK (v_pick x1 (.bool true) x8) fun x10 =>
  gdK x10 false (fun kk => kk r1 h9) h9 fun x11 h12 =>
  gdK x10 false (fun kk => vK (v_lss x11 (.int .i64 (.ofNat 0))) fun v => kk v h12) h12 fun x13 h14 =>
  vK (v_pick x10 (.bool true) x13) fun x15 =>
  gdK x15 false (fun kk => kk r1 h14) h14 fun x16 h17 =>
  gdK x15 false (fun kk => kk r0 h17) h17 fun x18 h19 =>
  gdK x15 false (fun kk => vK (v_nilchk x18) fun v => kk v h19) h19 fun x20 h21 =>
  gdK x15 false (fun kk => vK (v_fa 0 x20) fun v => kk v h21) h21 fun x22 h23 =>
  gdK x15 false (fun kk => vK (v_ld h23.get x22) fun v => kk v h23) h23 fun x24 h25 =>
  gdK x15 false (fun kk => vK (v_lenS x24) fun v => kk v h25) h25 fun x26 h27 =>
  gdK x15 false (fun kk => vK (v_gtr x16 x26) fun v => kk v h27) h27 fun x28 h29 =>
  vK (v_pick x15 (.bool true) x28) fun x30 =>
  bK x30
  (wK (callK E 149 [r0] h29) fun x31 h32 =>
  some ((.tup [(.str []), (.bool false)]), h32))
  (vK (v_nilchk r0) fun x33 =>
  vK (v_fa 0 x33) fun x34 =>
  vK (v_ld h29.get x34) fun x35 =>
  vK (v_slS x35 none (some r1)) fun x36 =>
  vK (v_nilchk r0) fun x37 =>
  vK (v_fa 0 x37) fun x38 =>
  vK (v_ld h29.get x38) fun x39 =>
  vK (v_slS x39 (some r1) none) fun x40 =>
  vK (v_nilchk r0) fun x41 =>
  vK (v_fa 0 x41) fun x42 =>
  wK (dStF 1 x42 x40 h29) fun x43 h44 =>
  some ((.tup [x36, (.bool true)]), h44))
def C112_0 : DC := (.seq (.reg [⟨(some p4), none, (.e (.mv (.c (.str []))))⟩, ⟨(some p5), none, (.e (.mv (.c (.bool false))))⟩]) (.seq (.seq (.reg [⟨(some p7), none, (.e (.mv (.r p0)))⟩, ⟨(some p8), none, (.e (.eqv .ptr false (.r p7) (.c .nilp)))⟩, ⟨(some p9), none, (.e (.mv (.r p8)))⟩, ⟨(some p10), (some (p9, false)), (.e (.mv (.r p0)))⟩, ⟨(some p11), (some (p9, false)), (.e (.nilchk (.r p10)))⟩, ⟨(some p12), (some (p9, false)), (.e (.fa 1 (.r p11)))⟩, ⟨(some p13), (some (p9, false)), (.e (.ld (.r p12)))⟩, ⟨(some p14), none, (.e (.pick (.r p9) (.c (.bool true)) (.r p13)))⟩, ⟨(some p15), none, (.e (.mv (.r p14)))⟩, ⟨(some p16), (some (p15, false)), (.e (.mv (.r p1)))⟩, ⟨(some p17), (some (p15, false)), (.e (.bin .lss (.r p16) (.c (.int .i64 (.ofNat 0)))))⟩, ⟨(some p18), none, (.e (.pick (.r p15) (.c (.bool true)) (.r p17)))⟩, ⟨(some p19), none, (.e (.mv (.r p18)))⟩, ⟨(some p20), (some (p19, false)), (.e (.mv (.r p1)))⟩, ⟨(some p21), (some (p19, false)), (.e (.mv (.r p0)))⟩, ⟨(some p22), (some (p19, false)), (.e (.nilchk (.r p21)))⟩, ⟨(some p23), (some (p19, false)), (.e (.fa 0 (.r p22)))⟩, ⟨(some p24), (some (p19, false)), (.e (.ld (.r p23)))⟩, ⟨(some p25), (some (p19, false)), (.e (.lenS (.r p24)))⟩, ⟨(some p26), (some (p19, false)), (.e (.bin .gtr (.r p20) (.r p25)))⟩, ⟨(some p27), none, (.e (.pick (.r p19) (.c (.bool true)) (.r p26)))⟩]) (.cond (.r p27) (.seq (.reg [⟨(some p28), none, (.e (.mv (.r p0)))⟩, ⟨(some p29), none, (.c (.f 149 [(.r p28)]))⟩]) (.seq (.reg [⟨(some p4), none, (.e (.mv (.c (.str []))))⟩, ⟨(some p5), none, (.e (.mv (.c (.bool false))))⟩]) .ret)) .skip)) (.seq (.reg [⟨(some p30), none, (.e (.mv (.r p0)))⟩, ⟨(some p31), none, (.e (.nilchk (.r p30)))⟩, ⟨(some p32), none, (.e (.fa 0 (.r p31)))⟩, ⟨(some p33), none, (.e (.ld (.r p32)))⟩, ⟨(some p34), none, (.e (.mv (.r p1)))⟩, ⟨(some p35), none, (.e (.slS (.r p33) none (some (.r p34))))⟩, ⟨(some p6), none, (.e (.mv (.r p35)))⟩]) (.seq (.reg [⟨(some p36), none, (.e (.mv (.r p0)))⟩, ⟨(some p37), none, (.e (.mv (.r p0)))⟩, ⟨(some p38), none, (.e (.nilchk (.r p37)))⟩, ⟨(some p39), none, (.e (.fa 0 (.r p38)))⟩, ⟨(some p40), none, (.e (.ld (.r p39)))⟩, ⟨(some p41), none, (.e (.mv (.r p1)))⟩, ⟨(some p42), none, (.e (.slS (.r p40) (some (.r p41)) none))⟩, ⟨(some p43), none, (.e (.nilchk (.r p36)))⟩, ⟨(some p44), none, (.e (.fa 0 (.r p43)))⟩, ⟨none, none, (.w (.st 1 (.r p44) (.r p42)))⟩]) (.seq (.reg [⟨(some p45), none, (.e (.mv (.r p6)))⟩, ⟨(some p4), none, (.e (.mv (.r p45)))⟩, ⟨(some p5), none, (.e (.mv (.c (.bool true))))⟩]) .ret)))))
theorem I112_0 (E : Env) : Is E C112_0 (retK3 R112) (fun σ h => J112_0 E (σ p0) (σ p1) h) :=
  fun σ h => by kernel_rfl
def D112 : DF := ⟨2, 46, C112_0, R112⟩
noncomputable def S112 (E : Env) : Fun := fun args h => aS args fun r0 args => aS args fun r1 args => a0 args (J112_0 E r0 r1 h)
theorem S112_eq (E : Env) (args : List DV) (h : H) : runFn E D112 args h = S112 E args h :=
  Is.fn2 (d := D112) (I112_0 E) rfl (fun r0 r1 h => J112_0 E r0 r1 h) (fun r0 r1 h => by kernel_rfl) args h
/- (*hurdle/codec.Reader).Int -/
def R113 : List RV := [(.r p2)]
noncomputable def J113_0 (E : Env) (r0 : DV) (h : H) : Ans :=
  vK (v_eqv .ptr false h.get r0 .nilp) fun x1 =>
  bK x1
  (some ((.int .i64 (.ofNat 0)), h))
  (vK (v_nilchk r0) fun x2 =>
  vK (v_fa 0 x2) fun x3 =>
  vK (v_ld h.get x3) fun x4 =>
  wK (callK E 150 [x4] h) fun x5 h6 =>
  vK (v_ext 0 x5) fun x7 =>
  vK (v_ext 1 x5) fun x8 =>
  vK (v_eql x8 (.int .i64 (.ofNat 0))) fun x9 =>
  bK x9
  (wK (callK E 149 [r0] h6) fun x10 h11 =>
  some ((.int .i64 (.ofNat 0)), h11))
  (wK (callK E 112 [r0, x8] h6) fun x12 h13 =>
  vK (v_shr x7 (.int .u64 (.ofNat 1))) fun x14 =>
  vK (v_conv .i64 x14) fun x15 =>
  vK (v_and x7 (.int .u64 (.ofNat 1))) fun x16 =>
  vK (v_conv .i64 x16) fun x17 =>
  vK (v_neg x17) fun x18 =>
  vK (v_xor x15 x18) fun x19 =>
  some (x19, h13)))
def C113_0 : DC := (.seq (.reg [⟨(some p2), none, (.e (.mv (.c (.int .i64 (.ofNat 0)))))⟩]) (.seq (.seq (.reg [⟨(some p5), none, (.e (.mv (.r p0)))⟩, ⟨(some p6), none, (.e (.eqv .ptr false (.r p5) (.c .nilp)))⟩]) (.cond (.r p6) (.seq (.reg [⟨(some p2), none, (.e (.mv (.c (.int .i64 (.ofNat 0)))))⟩]) .ret) .skip)) (.seq (.reg [⟨(some p8), none, (.e (.mv (.r p0)))⟩, ⟨(some p9), none, (.e (.nilchk (.r p8)))⟩, ⟨(some p10), none, (.e (.fa 0 (.r p9)))⟩, ⟨(some p11), none, (.e (.ld (.r p10)))⟩, ⟨(some p12), none, (.c (.f 150 [(.r p11)]))⟩, ⟨(some p7), none, (.e (.mv (.r p12)))⟩, ⟨(some p13), none, (.e (.ext 0 (.r p7)))⟩, ⟨(some p14), none, (.e (.ext 1 (.r p7)))⟩, ⟨(some p3), none, (.e (.mv (.r p13)))⟩, ⟨(some p4), none, (.e (.mv (.r p14)))⟩]) (.seq (.seq (.reg [⟨(some p15), none, (.e (.mv (.r p4)))⟩, ⟨(some p16), none, (.e (.bin .eql (.r p15) (.c (.int .i64 (.ofNat 0)))))⟩]) (.cond (.r p16) (.seq (.reg [⟨(some p17), none, (.e (.mv (.r p0)))⟩, ⟨(some p18), none, (.c (.f 149 [(.r p17)]))⟩]) (.seq (.reg [⟨(some p2), none, (.e (.mv (.c (.int .i64 (.ofNat 0)))))⟩]) .ret)) .skip)) (.seq (.reg [⟨(some p19), none, (.e (.mv (.r p0)))⟩, ⟨(some p20), none, (.e (.mv (.r p4)))⟩, ⟨(some p21), none, (.c (.f 112 [(.r p19), (.r p20)]))⟩]) (.seq (.reg [⟨(some p22), none, (.e (.mv (.r p3)))⟩, ⟨(some p23), none, (.e (.bin .shr (.r p22) (.c (.int .u64 (.ofNat 1)))))⟩, ⟨(some p24), none, (.e (.conv .i64 (.r p23)))⟩, ⟨(some p25), none, (.e (.mv (.r p3)))⟩, ⟨(some p26), none, (.e (.bin .and (.r p25) (.c (.int .u64 (.ofNat 1)))))⟩, ⟨(some p27), none, (.e (.conv .i64 (.r p26)))⟩, ⟨(some p28), none, (.e (.neg (.r p27)))⟩, ⟨(some p29), none, (.e (.bin .xor (.r p24) (.r p28)))⟩, ⟨(some p2), none, (.e (.mv (.r p29)))⟩]) .ret))))))
theorem I113_0 (E : Env) : Is E C113_0 (retK3 R113) (fun σ h => J113_0 E (σ p0) h) :=
  fun σ h => by kernel_rfl
def D113 : DF := ⟨1, 30, C113_0, R113⟩
noncomputable def S113 (E : Env) : Fun := fun args h => aS args fun r0 args => a0 args (J113_0 E r0 h)
theorem S113_eq (E : Env) (args : List DV) (h : H) : runFn E D113 args h = S113 E args h :=
  Is.fn1 (d := D113) (I113_0 E) rfl (fun r0 h => J113_0 E r0 h) (fun r0 h => by kernel_rfl) args h
/- hurdle/codec.list[int] -/
def R114 : List RV := [(.r p4)]
noncomputable def J114_1 (E : Env) (r6 : DV) (h : H) : Ans :=
  some (r6, h)
def C114_1 : DC := (.seq (.reg [⟨(some p39), none, (.e (.mv (.r p6)))⟩, ⟨(some p4), none, (.e (.mv (.r p39)))⟩]) .ret)
noncomputable def B114_2 (E : Env) (r0 r1 r26 : DV) (i2 : DV → DV → H → Ans) (r6 r27 : DV) (h : H) : Ans :=
  vK (v_lss r27 r26) fun x1 =>
  bK x1
  (wK (c_val E r1 [] h) fun x2 h3 =>
  n_bsl 1 1 [(.int .i64 (.ofNat 0))] [(0, 1, x2)] h3 fun x4 h5 =>
  wK (dAppendF 1 8 r6 x4 h5) fun x6 h7 =>
  vK (v_nilchk r0) fun x8 =>
  vK (v_fa 1 x8) fun x9 =>
  vK (v_ld h7.get x9) fun x10 =>
  bK x10
  (some (.nils, h7))
  (vK (v_add r27 (.int .i64 (.ofNat 1))) fun x11 =>
  i2 x6 x11 h7))
  (J114_1 E r6 h)
noncomputable def L114_2 (E : Env) (r0 r1 r26 : DV) (n : Nat) : DV → DV → H → Ans := Nat.rec (motive := fun _ => DV → DV → H → Ans) (fun _ _ _ => none) (fun _ i => B114_2 E r0 r1 r26 i) n
def C114_2 : DC := (.loop (.seq (.reg [⟨(some p28), none, (.e (.bin .lss (.r p27) (.r p26)))⟩]) (.seq (.cond (.r p28) .skip (.exit 0)) (.seq (.block 1 (.seq (.reg [⟨(some p29), none, (.e (.mv (.r p6)))⟩, ⟨(some p30), none, (.e (.mv (.r p1)))⟩, ⟨(some p31), none, (.c (.v (.r p30) []))⟩, ⟨(some p32), none, (.e (.bsl 1 1 [(.int .i64 (.ofNat 0))] [(0, 1, (.r p31))]))⟩, ⟨(some p33), none, (.w (.app 1 8 (.r p29) (.r p32)))⟩, ⟨(some p6), none, (.e (.mv (.r p33)))⟩]) (.seq (.reg [⟨(some p34), none, (.e (.mv (.r p0)))⟩, ⟨(some p35), none, (.e (.nilchk (.r p34)))⟩, ⟨(some p36), none, (.e (.fa 1 (.r p35)))⟩, ⟨(some p37), none, (.e (.ld (.r p36)))⟩]) (.cond (.r p37) (.seq (.reg [⟨(some p4), none, (.e (.mv (.c .nils)))⟩]) .ret) .skip)))) (.reg [⟨(some p38), none, (.e (.bin .add (.r p27) (.c (.int .i64 (.ofNat 1)))))⟩, ⟨(some p27), none, (.e (.mv (.r p38)))⟩])))))
noncomputable def J114_0 (E : Env) (r0 r1 : DV) (h : H) : Ans :=
  wK (callK E 113 [r0] h) fun x1 h2 =>
  vK (v_eqv .ptr false h2.get r0 .nilp) fun x3 =>
  gdK x3 false (fun kk => kk x1 h2) h2 fun x4 h5 =>
  gdK x3 false (fun kk => vK (v_lss x4 (.int .i64 (.ofNat 0))) fun v => kk v h5) h5 fun x6 h7 =>
  vK (v_pick x3 (.bool true) x6) fun x8 =>
  gdK x8 false (fun kk => kk x1 h7) h7 fun x9 h10 =>
  gdK x8 false (fun kk => kk r0 h10) h10 fun x11 h12 =>
  gdK x8 false (fun kk => vK (v_nilchk x11) fun v => kk v h12) h12 fun x13 h14 =>
  gdK x8 false (fun kk => vK (v_fa 0 x13) fun v => kk v h14) h14 fun x15 h16 =>
  gdK x8 false (fun kk => vK (v_ld h16.get x15) fun v => kk v h16) h16 fun x17 h18 =>
  gdK x8 false (fun kk => vK (v_lenS x17) fun v => kk v h18) h18 fun x19 h20 =>
  gdK x8 false (fun kk => vK (v_gtr x9 x19) fun v => kk v h20) h20 fun x21 h22 =>
  vK (v_pick x8 (.bool true) x21) fun x23 =>
  bK x23
  (wK (callK E 149 [r0] h22) fun x24 h25 =>
  some (.nils, h25))
  (L114_2 E r0 r1 x1 FUEL .nils (.int .i64 (.ofNat 0)) h22)
def C114_0 : DC := (.seq (.reg [⟨(some p4), none, (.e (.mv (.c .nils)))⟩]) (.seq (.reg [⟨(some p7), none, (.e (.mv (.r p0)))⟩, ⟨(some p8), none, (.c (.f 113 [(.r p7)]))⟩, ⟨(some p5), none, (.e (.mv (.r p8)))⟩]) (.seq (.seq (.reg [⟨(some p9), none, (.e (.mv (.r p0)))⟩, ⟨(some p10), none, (.e (.eqv .ptr false (.r p9) (.c .nilp)))⟩, ⟨(some p11), none, (.e (.mv (.r p10)))⟩, ⟨(some p12), (some (p11, false)), (.e (.mv (.r p5)))⟩, ⟨(some p13), (some (p11, false)), (.e (.bin .lss (.r p12) (.c (.int .i64 (.ofNat 0)))))⟩, ⟨(some p14), none, (.e (.pick (.r p11) (.c (.bool true)) (.r p13)))⟩, ⟨(some p15), none, (.e (.mv (.r p14)))⟩, ⟨(some p16), (some (p15, false)), (.e (.mv (.r p5)))⟩, ⟨(some p17), (some (p15, false)), (.e (.mv (.r p0)))⟩, ⟨(some p18), (some (p15, false)), (.e (.nilchk (.r p17)))⟩, ⟨(some p19), (some (p15, false)), (.e (.fa 0 (.r p18)))⟩, ⟨(some p20), (some (p15, false)), (.e (.ld (.r p19)))⟩, ⟨(some p21), (some (p15, false)), (.e (.lenS (.r p20)))⟩, ⟨(some p22), (some (p15, false)), (.e (.bin .gtr (.r p16) (.r p21)))⟩, ⟨(some p23), none, (.e (.pick (.r p15) (.c (.bool true)) (.r p22)))⟩]) (.cond (.r p23) (.seq (.reg [⟨(some p24), none, (.e (.mv (.r p0)))⟩, ⟨(some p25), none, (.c (.f 149 [(.r p24)]))⟩]) (.seq (.reg [⟨(some p4), none, (.e (.mv (.c .nils)))⟩]) .ret)) .skip)) (.seq (.reg [⟨(some p6), none, (.e (.mv (.c .nils)))⟩]) (.seq (.seq (.reg [⟨(some p26), none, (.e (.mv (.r p5)))⟩, ⟨(some p27), none, (.e (.mv (.c (.int .i64 (.ofNat 0)))))⟩]) (.block 0 C114_2)) C114_1)))))
theorem I114_1 (E : Env) : Is E C114_1 (retK3 R114) (fun σ h => J114_1 E (σ p6) h) :=
  fun σ h => by kernel_rfl
noncomputable abbrev K114_3 (E : Env) : KT2 (DV × H) := (thenK3 (fun σ h => J114_1 E (σ p6) h) (retK3 R114))
theorem I114_2 (E : Env) : Is E C114_2 (blockK3 0 (K114_3 E)) (fun σ h => L114_2 E (σ p0) (σ p1) (σ p26) FUEL (σ p6) (σ p27) h) :=
  Is.loop (fun n2 σ h => L114_2 E (σ p0) (σ p1) (σ p26) n2 (σ p6) (σ p27) h) (by kernel_rfl) fun n2 => Is.as (Is.leaf _) fun σ h => by kernel_rfl
theorem I114_0 (E : Env) : Is E C114_0 (retK3 R114) (fun σ h => J114_0 E (σ p0) (σ p1) h) :=
  Is.as (Is.seq (Is.seq (Is.seq (Is.seq (Is.seq (I114_1 E) (Is.seq (Is.block (I114_2 E)) (Is.leaf _))) (Is.leaf _)) (Is.leaf _)) (Is.leaf _)) (Is.leaf _)) fun σ h => by kernel_rfl
def D114 : DF := ⟨2, 40, C114_0, R114⟩
noncomputable def S114 (E : Env) : Fun := fun args h => aS args fun r0 args => aS args fun r1 args => a0 args (J114_0 E r0 r1 h)
theorem S114_eq (E : Env) (args : List DV) (h : H) : runFn E D114 args h = S114 E args h :=
  Is.fn2 (d := D114) (I114_0 E) rfl (fun r0 r1 h => J114_0 E r0 r1 h) (fun r0 r1 h => by kernel_rfl) args h
/- (*hurdle/codec.Writer).Byte -/
def R115 : List RV := []
noncomputable def J115_1 (E : Env) (r0 r3 : DV) (h : H) : Ans :=
  wK (callK E 109 [r0, (.fn (.func 151) [] [r3])] h) fun x1 h2 =>
  some ((.tup []), h2)
def C115_1 : DC := (.reg [⟨(some p24), none, (.e (.mv (.r p0)))⟩, ⟨(some p25), none, (.e (.mkF (.func 151) [] [(.r p3)]))⟩, ⟨(some p26), none, (.c (.f 109 [(.r p24), (.r p25)]))⟩])
noncomputable def J115_0 (E : Env) (r0 r1 : DV) (h : H) : Ans :=
  n_box r1 h fun x1 h2 =>
  vK (v_eqv .ptr true h2.get r0 .nilp) fun x3 =>
  gdK x3 true (fun kk => kk r0 h2) h2 fun x4 h5 =>
  gdK x3 true (fun kk => vK (v_nilchk x4) fun v => kk v h5) h5 fun x6 h7 =>
  gdK x3 true (fun kk => vK (v_fa 2 x6) fun v => kk v h7) h7 fun x8 h9 =>
  gdK x3 true (fun kk => vK (v_ld h9.get x8) fun v => kk v h9) h9 fun x10 h11 =>
  gdK x3 true (fun kk => vK (v_eql x10 (.int .i64 (.ofNat 0))) fun v => kk v h11) h11 fun x12 h13 =>
  vK (v_pick x3 x12 (.bool false)) fun x14 =>
  gdK x14 true (fun kk => vK (v_ld h13.get x1) fun v => kk v h13) h13 fun x15 h16 =>
  gdK x14 true (fun kk => vK (v_lss x15 (.int .i64 (.ofNat 0))) fun v => kk v h16) h16 fun x17 h18 =>
  gdK x14 true (fun kk => kk x17 h18) h18 fun x19 h20 =>
  gdK x19 false (fun kk => vK (v_ld h20.get x1) fun v => kk v h20) h20 fun x21 h22 =>
  gdK x19 false (fun kk => vK (v_gtr x21 (.int .i64 (.ofNat 255))) fun v => kk v h22) h22 fun x23 h24 =>
  gdK x14 true (fun kk => vK (v_pick x19 (.bool true) x23) fun v => kk v h24) h24 fun x25 h26 =>
  vK (v_pick x14 x25 (.bool false)) fun x27 =>
  bK x27
  (vK (v_nilchk r0) fun x28 =>
  vK (v_fa 2 x28) fun x29 =>
  wK (dStF 1 x29 (.int .i64 (.ofNat 1)) h26) fun x30 h31 =>
  J115_1 E r0 x1 h31)
  (J115_1 E r0 x1 h26)
def C115_0 : DC := (.seq (.reg [⟨(some p3), none, (.e (.box (.r p1)))⟩]) (.seq (.seq (.reg [⟨(some p4), none, (.e (.mv (.r p0)))⟩, ⟨(some p5), none, (.e (.eqv .ptr true (.r p4) (.c .nilp)))⟩, ⟨(some p6), none, (.e (.mv (.r p5)))⟩, ⟨(some p7), (some (p6, true)), (.e (.mv (.r p0)))⟩, ⟨(some p8), (some (p6, true)), (.e (.nilchk (.r p7)))⟩, ⟨(some p9), (some (p6, true)), (.e (.fa 2 (.r p8)))⟩, ⟨(some p10), (some (p6, true)), (.e (.ld (.r p9)))⟩, ⟨(some p11), (some (p6, true)), (.e (.bin .eql (.r p10) (.c (.int .i64 (.ofNat 0)))))⟩, ⟨(some p12), none, (.e (.pick (.r p6) (.r p11) (.c (.bool false))))⟩, ⟨(some p13), none, (.e (.mv (.r p12)))⟩, ⟨(some p14), (some (p13, true)), (.e (.ld (.r p3)))⟩, ⟨(some p15), (some (p13, true)), (.e (.bin .lss (.r p14) (.c (.int .i64 (.ofNat 0)))))⟩, ⟨(some p16), (some (p13, true)), (.e (.mv (.r p15)))⟩, ⟨(some p17), (some (p16, false)), (.e (.ld (.r p3)))⟩, ⟨(some p18), (some (p16, false)), (.e (.bin .gtr (.r p17) (.c (.int .i64 (.ofNat 255)))))⟩, ⟨(some p19), (some (p13, true)), (.e (.pick (.r p16) (.c (.bool true)) (.r p18)))⟩, ⟨(some p20), none, (.e (.pick (.r p13) (.r p19) (.c (.bool false))))⟩]) (.cond (.r p20) (.reg [⟨(some p21), none, (.e (.mv (.r p0)))⟩, ⟨(some p22), none, (.e (.nilchk (.r p21)))⟩, ⟨(some p23), none, (.e (.fa 2 (.r p22)))⟩, ⟨none, none, (.w (.st 1 (.r p23) (.c (.int .i64 (.ofNat 1)))))⟩]) .skip)) C115_1))
theorem I115_1 (E : Env) : Is E C115_1 (retK3 R115) (fun σ h => J115_1 E (σ p0) (σ p3) h) :=
  fun σ h => by kernel_rfl
theorem I115_0 (E : Env) : Is E C115_0 (retK3 R115) (fun σ h => J115_0 E (σ p0) (σ p1) h) :=
  Is.as (Is.seq (Is.seq (I115_1 E) (Is.leaf _)) (Is.leaf _)) fun σ h => by kernel_rfl
def D115 : DF := ⟨2, 27, C115_0, R115⟩
noncomputable def S115 (E : Env) : Fun := fun args h => aS args fun r0 args => aS args fun r1 args => a0 args (J115_0 E r0 r1 h)
theorem S115_eq (E : Env) (args : List DV) (h : H) : runFn E D115 args h = S115 E args h :=
  Is.fn2 (d := D115) (I115_0 E) rfl (fun r0 r1 h => J115_0 E r0 r1 h) (fun r0 r1 h => by kernel_rfl) args h
/- (*hurdle/codec.Writer).Ints -/
def R116 : List RV := []
noncomputable def J116_0 (E : Env) (r0 r1 : DV) (h : H) : Ans :=
  n_box r1 h fun x1 h2 =>
  wK (callK E 109 [r0, (.fn (.func 152) [] [x1])] h2) fun x3 h4 =>
  some ((.tup []), h4)
def C116_0 : DC := (.seq (.reg [⟨(some p3), none, (.e (.box (.r p1)))⟩]) (.reg [⟨(some p4), none, (.e (.mv (.r p0)))⟩, ⟨(some p5), none, (.e (.mkF (.func 152) [] [(.r p3)]))⟩, ⟨(some p6), none, (.c (.f 109 [(.r p4), (.r p5)]))⟩]))
theorem I116_0 (E : Env) : Is E C116_0 (retK3 R116) (fun σ h => J116_0 E (σ p0) (σ p1) h) :=
  fun σ h => by kernel_rfl
def D116 : DF := ⟨2, 7, C116_0, R116⟩
noncomputable def S116 (E : Env) : Fun := fun args h => aS args fun r0 args => aS args fun r1 args => a0 args (J116_0 E r0 r1 h)
theorem S116_eq (E : Env) (args : List DV) (h : H) : runFn E D116 args h = S116 E args h :=
  Is.fn2 (d := D116) (I116_0 E) rfl (fun r0 r1 h => J116_0 E r0 r1 h) (fun r0 r1 h => by kernel_rfl) args h
/- hurdle/replies.may -/
def R117 : List RV := [(.r p4)]
noncomputable def J117_0 (E : Env) (r0 r1 : DV) (h : H) : Ans :=
  vK (v_geq r0 (.int .i64 (.ofNat 0))) fun x1 =>
  gdK x1 true (fun kk => kk r0 h) h fun x2 h3 =>
  gdK x1 true (fun kk => vK (v_lss x2 (.int .i64 (.ofNat 64))) fun v => kk v h3) h3 fun x4 h5 =>
  vK (v_pick x1 x4 (.bool false)) fun x6 =>
  gdK x6 true (fun kk => kk r1 h5) h5 fun x7 h8 =>
  gdK x6 true (fun kk => vK (v_geq x7 (.int .i64 (.ofNat 0))) fun v => kk v h8) h8 fun x9 h10 =>
  vK (v_pick x6 x9 (.bool false)) fun x11 =>
  gdK x11 true (fun kk => kk r1 h10) h10 fun x12 h13 =>
  gdK x11 true (fun kk => vK (v_lss x12 (.int .i64 (.ofNat 2147483648))) fun v => kk v h13) h13 fun x14 h15 =>
  vK (v_pick x11 x14 (.bool false)) fun x16 =>
  some (x16, h15)
def C117_0 : DC := (.seq (.reg [⟨(some p4), none, (.e (.mv (.c (.bool false))))⟩]) (.seq (.reg [⟨(some p5), none, (.e (.mv (.r p0)))⟩, ⟨(some p6), none, (.e (.bin .geq (.r p5) (.c (.int .i64 (.ofNat 0)))))⟩, ⟨(some p7), none, (.e (.mv (.r p6)))⟩, ⟨(some p8), (some (p7, true)), (.e (.mv (.r p0)))⟩, ⟨(some p9), (some (p7, true)), (.e (.bin .lss (.r p8) (.c (.int .i64 (.ofNat 64)))))⟩, ⟨(some p10), none, (.e (.pick (.r p7) (.r p9) (.c (.bool false))))⟩, ⟨(some p11), none, (.e (.mv (.r p10)))⟩, ⟨(some p12), (some (p11, true)), (.e (.mv (.r p1)))⟩, ⟨(some p13), (some (p11, true)), (.e (.bin .geq (.r p12) (.c (.int .i64 (.ofNat 0)))))⟩, ⟨(some p14), none, (.e (.pick (.r p11) (.r p13) (.c (.bool false))))⟩, ⟨(some p15), none, (.e (.mv (.r p14)))⟩, ⟨(some p16), (some (p15, true)), (.e (.mv (.r p1)))⟩, ⟨(some p17), (some (p15, true)), (.e (.bin .lss (.r p16) (.c (.int .i64 (.ofNat 2147483648)))))⟩, ⟨(some p18), none, (.e (.pick (.r p15) (.r p17) (.c (.bool false))))⟩, ⟨(some p4), none, (.e (.mv (.r p18)))⟩]) .ret))
theorem I117_0 (E : Env) : Is E C117_0 (retK3 R117) (fun σ h => J117_0 E (σ p0) (σ p1) h) :=
  fun σ h => by kernel_rfl
def D117 : DF := ⟨2, 19, C117_0, R117⟩
noncomputable def S117 (E : Env) : Fun := fun args h => aS args fun r0 args => aS args fun r1 args => a0 args (J117_0 E r0 r1 h)
theorem S117_eq (E : Env) (args : List DV) (h : H) : runFn E D117 args h = S117 E args h :=
  Is.fn2 (d := D117) (I117_0 E) rfl (fun r0 r1 h => J117_0 E r0 r1 h) (fun r0 r1 h => by kernel_rfl) args h
/- (*hurdle/replies.Replies).find -/
def R118 : List RV := [(.r p6), (.r p7)]
noncomputable def J118_0 (E : Env) (r0 r1 r2 : DV) (h : H) : Ans :=
  vK (v_nilchk r0) fun x1 =>
  vK (v_fa 1 x1) fun x2 =>
  vK (v_ld h.get x2) fun x3 =>
  vK (v_lkp .int .nils false h.get x3 r1) fun x4 =>
  wK (callK E 153 [x4, r2, (.fn (.func 154) [] [])] h) fun x5 h6 =>
  vK (v_ext 0 x5) fun x7 =>
  vK (v_ext 1 x5) fun x8 =>
  some ((.tup [x7, x8]), h6)
def C118_0 : DC := (.seq (.reg [⟨(some p6), none, (.e (.mv (.c (.int .i64 (.ofNat 0)))))⟩, ⟨(some p7), none, (.e (.mv (.c (.bool false))))⟩]) (.seq (.reg [⟨(some p8), none, (.e (.mv (.r p0)))⟩, ⟨(some p9), none, (.e (.nilchk (.r p8)))⟩, ⟨(some p10), none, (.e (.fa 1 (.r p9)))⟩, ⟨(some p11), none, (.e (.ld (.r p10)))⟩, ⟨(some p12), none, (.e (.mv (.r p1)))⟩, ⟨(some p13), none, (.e (.lkp .int .nils false (.r p11) (.r p12)))⟩, ⟨(some p14), none, (.e (.mv (.r p2)))⟩, ⟨(some p15), none, (.c (.f 153 [(.r p13), (.r p14), (.c (.fn (.func 154) [] []))]))⟩, ⟨(some p16), none, (.e (.ext 0 (.r p15)))⟩, ⟨(some p17), none, (.e (.ext 1 (.r p15)))⟩, ⟨(some p6), none, (.e (.mv (.r p16)))⟩, ⟨(some p7), none, (.e (.mv (.r p17)))⟩]) .ret))
theorem I118_0 (E : Env) : Is E C118_0 (retK3 R118) (fun σ h => J118_0 E (σ p0) (σ p1) (σ p2) h) :=
  fun σ h => by kernel_rfl
def D118 : DF := ⟨3, 18, C118_0, R118⟩
noncomputable def S118 (E : Env) : Fun := fun args h => aS args fun r0 args => aS args fun r1 args => aS args fun r2 args => a0 args (J118_0 E r0 r1 r2 h)
theorem S118_eq (E : Env) (args : List DV) (h : H) : runFn E D118 args h = S118 E args h :=
  Is.fn3 (d := D118) (I118_0 E) rfl (fun r0 r1 r2 h => J118_0 E r0 r1 r2 h) (fun r0 r1 r2 h => by kernel_rfl) args h
/- slices.Insert[[]hurdle/replies.entry,hurdle/replies.entry] -/
def R119 : List RV := [(.r p6)]
noncomputable def J119_0 (E : Env) (r0 r1 r2 : DV) (h : H) : Ans :=
  vK (v_slL 3 r0 (some r1) none) fun x1 =>
  vK (v_lenL r2) fun x2 =>
  vK (v_eql x2 (.int .i64 (.ofNat 0))) fun x3 =>
  bK x3
  (some (r0, h))
  (vK (v_lenL r0) fun x4 =>
  vK (v_eql r1 x4) fun x5 =>
  bK x5
  (wK (dAppendF 3 32 r0 r2 h) fun x6 h7 =>
  some (x6, h7))
  (vK (v_add x4 x2) fun x8 =>
  none))
def C119_0 : DC := (.seq (.reg [⟨(some p6), none, (.e (.mv (.c .nils)))⟩]) (.seq (.reg [⟨(some p10), none, (.e (.mv (.r p0)))⟩, ⟨(some p11), none, (.e (.mv (.r p1)))⟩, ⟨(some p12), none, (.e (.slL 3 (.r p10) (some (.r p11)) none))⟩]) (.seq (.reg [⟨(some p13), none, (.e (.mv (.r p2)))⟩, ⟨(some p14), none, (.e (.lenL (.r p13)))⟩, ⟨(some p7), none, (.e (.mv (.r p14)))⟩]) (.seq (.seq (.reg [⟨(some p15), none, (.e (.mv (.r p7)))⟩, ⟨(some p16), none, (.e (.bin .eql (.r p15) (.c (.int .i64 (.ofNat 0)))))⟩]) (.cond (.r p16) (.seq (.reg [⟨(some p17), none, (.e (.mv (.r p0)))⟩, ⟨(some p6), none, (.e (.mv (.r p17)))⟩]) .ret) .skip)) (.seq (.reg [⟨(some p18), none, (.e (.mv (.r p0)))⟩, ⟨(some p19), none, (.e (.lenL (.r p18)))⟩, ⟨(some p8), none, (.e (.mv (.r p19)))⟩]) (.seq (.seq (.reg [⟨(some p20), none, (.e (.mv (.r p1)))⟩, ⟨(some p21), none, (.e (.mv (.r p8)))⟩, ⟨(some p22), none, (.e (.bin .eql (.r p20) (.r p21)))⟩]) (.cond (.r p22) (.seq (.reg [⟨(some p23), none, (.e (.mv (.r p0)))⟩, ⟨(some p24), none, (.e (.mv (.r p2)))⟩, ⟨(some p25), none, (.w (.app 3 32 (.r p23) (.r p24)))⟩, ⟨(some p6), none, (.e (.mv (.r p25)))⟩]) .ret) .skip)) (.seq (.seq (.reg [⟨(some p26), none, (.e (.mv (.r p8)))⟩, ⟨(some p27), none, (.e (.mv (.r p7)))⟩, ⟨(some p28), none, (.e (.bin .add (.r p26) (.r p27)))⟩, ⟨(some p29), none, (.e (.mv (.r p0)))⟩, ⟨(some p30), none, (.e .bad)⟩, ⟨(some p31), none, (.e (.bin .gtr (.r p28) (.r p30)))⟩]) (.cond (.r p31) (.seq (.reg [⟨(some p32), none, (.e (.mv (.r p0)))⟩, ⟨(some p33), none, (.e (.mv (.r p1)))⟩, ⟨(some p34), none, (.e (.slL 3 (.r p32) none (some (.r p33))))⟩, ⟨(some p35), none, (.e (.mv (.r p8)))⟩, ⟨(some p36), none, (.e (.mv (.r p7)))⟩, ⟨(some p37), none, (.e (.bin .add (.r p35) (.r p36)))⟩, ⟨(some p38), none, (.e (.mv (.r p1)))⟩, ⟨(some p39), none, (.e (.bin .sub (.r p37) (.r p38)))⟩, ⟨(some p40), none, (.e .bad)⟩, ⟨(some p9), none, (.e (.mv (.r p40)))⟩]) (.seq (.reg [⟨(some p41), none, (.e (.mv (.r p9)))⟩, ⟨(some p42), none, (.e (.mv (.r p1)))⟩, ⟨(some p43), none, (.e (.slL 3 (.r p41) (some (.r p42)) none))⟩, ⟨(some p44), none, (.e (.mv (.r p2)))⟩, ⟨(some p45), none, (.w (.cpy 3 (.r p43) (.r p44)))⟩]) (.seq (.drg [⟨0, ⟨(some p46), none, (.e (.mv (.r p9)))⟩, [], false⟩, ⟨1, ⟨(some p47), none, (.e (.mv (.r p1)))⟩, [], false⟩, ⟨2, ⟨(some p48), none, (.e (.mv (.r p7)))⟩, [], false⟩, ⟨3, ⟨(some p49), none, (.e (.bin .add (.r p47) (.r p48)))⟩, [], false⟩, ⟨4, ⟨(some p50), none, (.e (.slL 3 (.r p46) (some (.r p49)) none))⟩, [], false⟩, ⟨5, ⟨(some p51), none, (.e (.mv (.r p0)))⟩, [], false⟩, ⟨6, ⟨(some p52), none, (.e (.mv (.r p1)))⟩, [], false⟩, ⟨7, ⟨(some p53), none, (.e (.slL 3 (.r p51) (some (.r p52)) none))⟩, [], false⟩, ⟨8, ⟨(some p54), none, (.w (.cpy 3 (.r p50) (.r p53)))⟩, [], false⟩]) (.seq (.reg [⟨(some p55), none, (.e (.mv (.r p9)))⟩, ⟨(some p6), none, (.e (.mv (.r p55)))⟩]) .ret)))) .skip)) (.seq (.reg [⟨(some p56), none, (.e (.mv (.r p0)))⟩, ⟨(some p57), none, (.e (.mv (.r p8)))⟩, ⟨(some p58), none, (.e (.mv (.r p7)))⟩, ⟨(some p59), none, (.e (.bin .add (.r p57) (.r p58)))⟩, ⟨(some p60), none, (.e (.slL 3 (.r p56) none (some (.r p59))))⟩, ⟨(some p0), none, (.e (.mv (.r p60)))⟩]) (.seq (.seq (.reg [⟨(some p61), none, (.e (.mv (.r p2)))⟩, ⟨(some p62), none, (.e (.mv (.r p0)))⟩, ⟨(some p63), none, (.e (.mv (.r p1)))⟩, ⟨(some p64), none, (.e (.mv (.r p7)))⟩, ⟨(some p65), none, (.e (.bin .add (.r p63) (.r p64)))⟩, ⟨(some p66), none, (.e (.slL 3 (.r p62) (some (.r p65)) none))⟩, ⟨(some p67), none, (.c (.f 155 [(.r p61), (.r p66)]))⟩, ⟨(some p68), none, (.e (.not (.r p67)))⟩]) (.cond (.r p68) (.seq (.drg [⟨0, ⟨(some p69), none, (.e (.mv (.r p0)))⟩, [], false⟩, ⟨1, ⟨(some p70), none, (.e (.mv (.r p1)))⟩, [], false⟩, ⟨2, ⟨(some p71), none, (.e (.mv (.r p7)))⟩, [], false⟩, ⟨3, ⟨(some p72), none, (.e (.bin .add (.r p70) (.r p71)))⟩, [], false⟩, ⟨4, ⟨(some p73), none, (.e (.slL 3 (.r p69) (some (.r p72)) none))⟩, [], false⟩, ⟨5, ⟨(some p74), none, (.e (.mv (.r p0)))⟩, [], false⟩, ⟨6, ⟨(some p75), none, (.e (.mv (.r p1)))⟩, [], false⟩, ⟨7, ⟨(some p76), none, (.e (.slL 3 (.r p74) (some (.r p75)) none))⟩, [], false⟩, ⟨8, ⟨(some p77), none, (.w (.cpy 3 (.r p73) (.r p76)))⟩, [], false⟩]) (.seq (.reg [⟨(some p78), none, (.e (.mv (.r p0)))⟩, ⟨(some p79), none, (.e (.mv (.r p1)))⟩, ⟨(some p80), none, (.e (.slL 3 (.r p78) (some (.r p79)) none))⟩, ⟨(some p81), none, (.e (.mv (.r p2)))⟩, ⟨(some p82), none, (.w (.cpy 3 (.r p80) (.r p81)))⟩]) (.seq (.reg [⟨(some p83), none, (.e (.mv (.r p0)))⟩, ⟨(some p6), none, (.e (.mv (.r p83)))⟩]) .ret))) .skip)) (.seq (.reg [⟨(some p84), none, (.e (.mv (.r p0)))⟩, ⟨(some p85), none, (.e (.mv (.r p8)))⟩, ⟨(some p86), none, (.e (.slL 3 (.r p84) (some (.r p85)) none))⟩, ⟨(some p87), none, (.e (.mv (.r p2)))⟩, ⟨(some p88), none, (.w (.cpy 3 (.r p86) (.r p87)))⟩]) (.seq (.reg [⟨(some p89), none, (.e (.mv (.r p0)))⟩, ⟨(some p90), none, (.e (.mv (.r p1)))⟩, ⟨(some p91), none, (.e (.slL 3 (.r p89) (some (.r p90)) none))⟩, ⟨(some p92), none, (.e (.mv (.r p7)))⟩, ⟨(some p93), none, (.c (.f 156 [(.r p91), (.r p92)]))⟩]) (.seq (.reg [⟨(some p94), none, (.e (.mv (.r p0)))⟩, ⟨(some p6), none, (.e (.mv (.r p94)))⟩]) .ret))))))))))))
theorem I119_0 (E : Env) : Is E C119_0 (retK3 R119) (fun σ h => J119_0 E (σ p0) (σ p1) (σ p2) h) :=
  fun σ h => by kernel_rfl
def D119 : DF := ⟨3, 95, C119_0, R119⟩
noncomputable def S119 (E : Env) : Fun := fun args h => aS args fun r0 args => aS args fun r1 args => aS args fun r2 args => a0 args (J119_0 E r0 r1 r2 h)
theorem S119_eq (E : Env) (args : List DV) (h : H) : runFn E D119 args h = S119 E args h :=
  Is.fn3 (d := D119) (I119_0 E) rfl (fun r0 r1 r2 h => J119_0 E r0 r1 r2 h) (fun r0 r1 r2 h => by kernel_rfl) args h
/- (*hurdle/manager.Manager).begin -/
def R120 : List RV := [(.r p4), (.r p5)]
noncomputable def J120_0 (E : Env) (r0 r1 : DV) (h : H) : Ans :=
  n_box r1 h fun x1 h2 =>
  vK (v_nilchk r0) fun x3 =>
  vK (v_fa 1 x3) fun x4 =>
  vK (v_ld h2.get x4) fun x5 =>
  vK (v_fa 0 x1) fun x6 =>
  vK (v_ld h2.get x6) fun x7 =>
  vK (v_nilchk r0) fun x8 =>
  vK (v_fa 0 x8) fun x9 =>
  vK (v_ld h2.get x9) fun x10 =>
  vK (v_fa 3 x1) fun x11 =>
  vK (v_ld h2.get x11) fun x12 =>
  vK (v_nilchk r0) fun x13 =>
  vK (v_fa 0 x13) fun x14 =>
  vK (v_ld h2.get x14) fun x15 =>
  wK (callK E 104 [x10] h2) fun x16 h17 =>
  rK (rcK (v_ld h17.get x14) x15) <|
  rK (rcK (v_ld h17.get x11) x12) <|
  rK (rcK (v_ld h17.get x6) x7) <|
  rK (rcK (v_ld h17.get x4) x5) <|
  wK (callK E 158 [x15] h17) fun x18 h19 =>
  rK (rcK (v_ld h19.get x11) x12) <|
  rK (rcK (v_ld h19.get x6) x7) <|
  rK (rcK (v_ld h19.get x4) x5) <|
  wK (callK E 157 [x5, x7, x16, x12, x18] h19) fun x20 h21 =>
  vK (v_ext 0 x20) fun x22 =>
  vK (v_ext 1 x20) fun x23 =>
  vK (v_nilchk r0) fun x24 =>
  vK (v_fa 0 x24) fun x25 =>
  vK (v_ld h21.get x25) fun x26 =>
  wK (callK E 104 [x26] h21) fun x27 h28 =>
  n_bsl 2 1 [(.int .i64 (.ofNat 0))] [(0, 1, x22), (1, 1, x27)] h28 fun x29 h30 =>
  some ((.tup [x29, x23]), h30)
def C120_0 : DC := (.seq (.reg [⟨(some p3), none, (.e (.box (.r p1)))⟩, ⟨(some p4), none, (.e (.mv (.c .nils)))⟩, ⟨(some p5), none, (.e (.mv (.c (.int .i64 (.ofNat 0)))))⟩]) (.seq (.drg [⟨0, ⟨(some p9), none, (.e (.mv (.r p0)))⟩, [], false⟩, ⟨1, ⟨(some p10), none, (.e (.nilchk (.r p9)))⟩, [], false⟩, ⟨2, ⟨(some p11), none, (.e (.fa 1 (.r p10)))⟩, [], false⟩, ⟨3, ⟨(some p12), none, (.e (.ld (.r p11)))⟩, [], false⟩, ⟨4, ⟨(some p13), none, (.e (.fa 0 (.r p3)))⟩, [], false⟩, ⟨5, ⟨(some p14), none, (.e (.ld (.r p13)))⟩, [], false⟩, ⟨6, ⟨(some p15), none, (.e (.mv (.r p0)))⟩, [], false⟩, ⟨7, ⟨(some p16), none, (.e (.nilchk (.r p15)))⟩, [], false⟩, ⟨8, ⟨(some p17), none, (.e (.fa 0 (.r p16)))⟩, [], false⟩, ⟨9, ⟨(some p18), none, (.e (.ld (.r p17)))⟩, [], false⟩, ⟨11, ⟨(some p20), none, (.e (.fa 3 (.r p3)))⟩, [], false⟩, ⟨12, ⟨(some p21), none, (.e (.ld (.r p20)))⟩, [], false⟩, ⟨13, ⟨(some p22), none, (.e (.mv (.r p0)))⟩, [], false⟩, ⟨14, ⟨(some p23), none, (.e (.nilchk (.r p22)))⟩, [], false⟩, ⟨15, ⟨(some p24), none, (.e (.fa 0 (.r p23)))⟩, [], false⟩, ⟨16, ⟨(some p25), none, (.e (.ld (.r p24)))⟩, [], false⟩, ⟨10, ⟨(some p19), none, (.c (.f 104 [(.r p18)]))⟩, [16, 12, 5, 3], false⟩, ⟨17, ⟨(some p26), none, (.c (.f 158 [(.r p25)]))⟩, [12, 5, 3], false⟩, ⟨18, ⟨(some p27), none, (.c (.f 157 [(.r p12), (.r p14), (.r p19), (.r p21), (.r p26)]))⟩, [], false⟩, ⟨19, ⟨(some p8), none, (.e (.mv (.r p27)))⟩, [], false⟩, ⟨20, ⟨(some p28), none, (.e (.ext 0 (.r p8)))⟩, [], false⟩, ⟨21, ⟨(some p29), none, (.e (.ext 1 (.r p8)))⟩, [], false⟩, ⟨22, ⟨(some p6), none, (.e (.mv (.r p28)))⟩, [], false⟩, ⟨23, ⟨(some p7), none, (.e (.mv (.r p29)))⟩, [], false⟩]) (.seq (.reg [⟨(some p30), none, (.e (.mv (.r p6)))⟩, ⟨(some p31), none, (.e (.mv (.r p0)))⟩, ⟨(some p32), none, (.e (.nilchk (.r p31)))⟩, ⟨(some p33), none, (.e (.fa 0 (.r p32)))⟩, ⟨(some p34), none, (.e (.ld (.r p33)))⟩, ⟨(some p35), none, (.c (.f 104 [(.r p34)]))⟩, ⟨(some p36), none, (.e (.bsl 2 1 [(.int .i64 (.ofNat 0))] [(0, 1, (.r p30)), (1, 1, (.r p35))]))⟩, ⟨(some p37), none, (.e (.mv (.r p7)))⟩, ⟨(some p4), none, (.e (.mv (.r p36)))⟩, ⟨(some p5), none, (.e (.mv (.r p37)))⟩]) .ret)))
theorem I120_0 (E : Env) : Is E C120_0 (retK3 R120) (fun σ h => J120_0 E (σ p0) (σ p1) h) :=
  fun σ h => by kernel_rfl
def D120 : DF := ⟨2, 38, C120_0, R120⟩
noncomputable def S120 (E : Env) : Fun := fun args h => aS args fun r0 args => aS args fun r1 args => a0 args (J120_0 E r0 r1 h)
theorem S120_eq (E : Env) (args : List DV) (h : H) : runFn E D120 args h = S120 E args h :=
  Is.fn2 (d := D120) (I120_0 E) rfl (fun r0 r1 h => J120_0 E r0 r1 h) (fun r0 r1 h => by kernel_rfl) args h
/- (*hurdle/manager.Manager).commit -/
def R121 : List RV := [(.r p4), (.r p5)]
noncomputable def J121_1 (E : Env) (r8 : DV) (h : H) : Ans :=
  some ((.tup [.nils, r8]), h)
def C121_1 : DC := (.seq (.reg [⟨(some p69), none, (.e (.mv (.r p8)))⟩, ⟨(some p4), none, (.e (.mv (.c .nils)))⟩, ⟨(some p5), none, (.e (.mv (.r p69)))⟩]) .ret)
noncomputable def J121_0 (E : Env) (r0 r1 : DV) (h : H) : Ans :=
  n_box r1 h fun x1 h2 =>
  vK (v_nilchk r0) fun x3 =>
  vK (v_fa 1 x3) fun x4 =>
  vK (v_ld h2.get x4) fun x5 =>
  vK (v_fa 3 x1) fun x6 =>
  vK (v_ld h2.get x6) fun x7 =>
  n_alc 6 6 (.list [(.int .i64 (.ofNat 0)), (.int .i64 (.ofNat 0)), (.int .i64 (.ofNat 0)), (.int .i64 (.ofNat 0)), (.int .i64 (.ofNat 0)), .nils]) h2 fun x8 h9 =>
  wK (callK E 94 [x5, x7] h9) fun x10 h11 =>
  vK (v_ext 0 x10) fun x12 =>
  vK (v_ext 1 x10) fun x13 =>
  wK (dStF 6 x8 x12 h11) fun x14 h15 =>
  gdK x13 true (fun kk => vK (v_fa 1 x8) fun v => kk v h15) h15 fun x16 h17 =>
  gdK x13 true (fun kk => vK (v_ld h17.get x16) fun v => kk v h17) h17 fun x18 h19 =>
  gdK x13 true (fun kk => vK (v_eql x18 (.int .i64 (.ofNat 1))) fun v => kk v h19) h19 fun x20 h21 =>
  vK (v_pick x13 x20 (.bool false)) fun x22 =>
  gdK x22 true (fun kk => vK (v_fa 2 x8) fun v => kk v h21) h21 fun x23 h24 =>
  gdK x22 true (fun kk => vK (v_ld h24.get x23) fun v => kk v h24) h24 fun x25 h26 =>
  gdK x22 true (fun kk => vK (v_fa 0 x1) fun v => kk v h26) h26 fun x27 h28 =>
  gdK x22 true (fun kk => vK (v_ld h28.get x27) fun v => kk v h28) h28 fun x29 h30 =>
  gdK x22 true (fun kk => vK (v_eql x25 x29) fun v => kk v h30) h30 fun x31 h32 =>
  vK (v_pick x22 x31 (.bool false)) fun x33 =>
  gdK x33 true (fun kk => vK (v_fa 3 x8) fun v => kk v h32) h32 fun x34 h35 =>
  gdK x33 true (fun kk => vK (v_ld h35.get x34) fun v => kk v h35) h35 fun x36 h37 =>
  gdK x33 true (fun kk => kk r0 h37) h37 fun x38 h39 =>
  gdK x33 true (fun kk => vK (v_nilchk x38) fun v => kk v h39) h39 fun x40 h41 =>
  gdK x33 true (fun kk => vK (v_fa 0 x40) fun v => kk v h41) h41 fun x42 h43 =>
  gdK x33 true (fun kk => vK (v_ld h43.get x42) fun v => kk v h43) h43 fun x44 h45 =>
  gdK x33 true (fun kk => wK (callK E 104 [x44] h45) kk) h45 fun x46 h47 =>
  rK (gB x33 true (rcK (v_ld h47.get x34) x36)) <|
  gdK x33 true (fun kk => vK (v_neq x36 x46) fun v => kk v h47) h47 fun x48 h49 =>
  vK (v_pick x33 x48 (.bool false)) fun x50 =>
  bK x50
  (some ((.tup [.nils, (.int .i64 (.ofNat 10))]), h49))
  (vK (v_nilchk r0) fun x51 =>
  vK (v_fa 1 x51) fun x52 =>
  vK (v_ld h49.get x52) fun x53 =>
  vK (v_fa 3 x1) fun x54 =>
  vK (v_ld h49.get x54) fun x55 =>
  vK (v_fa 0 x1) fun x56 =>
  vK (v_ld h49.get x56) fun x57 =>
  wK (callK E 159 [x53, x55, x57] h49) fun x58 h59 =>
  vK (v_eql x58 (.int .i64 (.ofNat 0))) fun x60 =>
  gdK x60 true (fun kk => vK (v_fa 4 x8) fun v => kk v h59) h59 fun x61 h62 =>
  gdK x60 true (fun kk => vK (v_ld h62.get x61) fun v => kk v h62) h62 fun x63 h64 =>
  gdK x60 true (fun kk => vK (v_gtr x63 (.int .i64 (.ofNat 0))) fun v => kk v h64) h64 fun x65 h66 =>
  vK (v_pick x60 x65 (.bool false)) fun x67 =>
  bK x67
  (vK (v_nilchk r0) fun x68 =>
  vK (v_fa 3 x68) fun x69 =>
  vK (v_ld h66.get x69) fun x70 =>
  vK (v_fa 3 x1) fun x71 =>
  vK (v_ld h66.get x71) fun x72 =>
  vK (v_fa 4 x8) fun x73 =>
  vK (v_ld h66.get x73) fun x74 =>
  vK (v_fa 4 x8) fun x75 =>
  vK (v_ld h66.get x75) fun x76 =>
  wK (callK E 160 [x70, x72, x74, x76, (.int .i64 (.ofNat 0))] h66) fun x77 h78 =>
  J121_1 E x58 h78)
  (J121_1 E x58 h66))
def C121_0 : DC := (.seq (.reg [⟨(some p3), none, (.e (.box (.r p1)))⟩, ⟨(some p4), none, (.e (.mv (.c .nils)))⟩, ⟨(some p5), none, (.e (.mv (.c (.int .i64 (.ofNat 0)))))⟩]) (.seq (.drg [⟨0, ⟨(some p10), none, (.e (.mv (.r p0)))⟩, [], false⟩, ⟨1, ⟨(some p11), none, (.e (.nilchk (.r p10)))⟩, [], false⟩, ⟨2, ⟨(some p12), none, (.e (.fa 1 (.r p11)))⟩, [], false⟩, ⟨3, ⟨(some p13), none, (.e (.ld (.r p12)))⟩, [], false⟩, ⟨4, ⟨(some p14), none, (.e (.fa 3 (.r p3)))⟩, [], false⟩, ⟨5, ⟨(some p15), none, (.e (.ld (.r p14)))⟩, [], false⟩, ⟨10, ⟨(some p6), none, (.e (.alc 6 6 (.list [(.int .i64 (.ofNat 0)), (.int .i64 (.ofNat 0)), (.int .i64 (.ofNat 0)), (.int .i64 (.ofNat 0)), (.int .i64 (.ofNat 0)), .nils])))⟩, [], false⟩, ⟨6, ⟨(some p16), none, (.c (.f 94 [(.r p13), (.r p15)]))⟩, [], false⟩, ⟨7, ⟨(some p9), none, (.e (.mv (.r p16)))⟩, [], false⟩, ⟨8, ⟨(some p17), none, (.e (.ext 0 (.r p9)))⟩, [], false⟩, ⟨9, ⟨(some p18), none, (.e (.ext 1 (.r p9)))⟩, [], false⟩, ⟨11, ⟨none, none, (.w (.st 6 (.r p6) (.r p17)))⟩, [], false⟩, ⟨12, ⟨(some p7), none, (.e (.mv (.r p18)))⟩, [], false⟩]) (.seq (.seq (.drg [⟨0, ⟨(some p19), none, (.e (.mv (.r p7)))⟩, [], false⟩, ⟨1, ⟨(some p20), none, (.e (.mv (.r p19)))⟩, [], false⟩, ⟨2, ⟨(some p21), (some (p20, true)), (.e (.fa 1 (.r p6)))⟩, [], false⟩, ⟨3, ⟨(some p22), (some (p20, true)), (.e (.ld (.r p21)))⟩, [], false⟩, ⟨4, ⟨(some p23), (some (p20, true)), (.e (.bin .eql (.r p22) (.c (.int .i64 (.ofNat 1)))))⟩, [], false⟩, ⟨5, ⟨(some p24), none, (.e (.pick (.r p20) (.r p23) (.c (.bool false))))⟩, [], false⟩, ⟨6, ⟨(some p25), none, (.e (.mv (.r p24)))⟩, [], false⟩, ⟨7, ⟨(some p26), (some (p25, true)), (.e (.fa 2 (.r p6)))⟩, [], false⟩, ⟨8, ⟨(some p27), (some (p25, true)), (.e (.ld (.r p26)))⟩, [], false⟩, ⟨9, ⟨(some p28), (some (p25, true)), (.e (.fa 0 (.r p3)))⟩, [], false⟩, ⟨10, ⟨(some p29), (some (p25, true)), (.e (.ld (.r p28)))⟩, [], false⟩, ⟨11, ⟨(some p30), (some (p25, true)), (.e (.bin .eql (.r p27) (.r p29)))⟩, [], false⟩, ⟨12, ⟨(some p31), none, (.e (.pick (.r p25) (.r p30) (.c (.bool false))))⟩, [], false⟩, ⟨13, ⟨(some p32), none, (.e (.mv (.r p31)))⟩, [], false⟩, ⟨14, ⟨(some p33), (some (p32, true)), (.e (.fa 3 (.r p6)))⟩, [], false⟩, ⟨15, ⟨(some p34), (some (p32, true)), (.e (.ld (.r p33)))⟩, [], false⟩, ⟨16, ⟨(some p35), (some (p32, true)), (.e (.mv (.r p0)))⟩, [], false⟩, ⟨17, ⟨(some p36), (some (p32, true)), (.e (.nilchk (.r p35)))⟩, [], false⟩, ⟨18, ⟨(some p37), (some (p32, true)), (.e (.fa 0 (.r p36)))⟩, [], false⟩, ⟨19, ⟨(some p38), (some (p32, true)), (.e (.ld (.r p37)))⟩, [], false⟩, ⟨20, ⟨(some p39), (some (p32, true)), (.c (.f 104 [(.r p38)]))⟩, [15], false⟩, ⟨21, ⟨(some p40), (some (p32, true)), (.e (.bin .neq (.r p34) (.r p39)))⟩, [], false⟩, ⟨22, ⟨(some p41), none, (.e (.pick (.r p32) (.r p40) (.c (.bool false))))⟩, [], false⟩]) (.cond (.r p41) (.seq (.reg [⟨(some p4), none, (.e (.mv (.c .nils)))⟩, ⟨(some p5), none, (.e (.mv (.c (.int .i64 (.ofNat 10)))))⟩]) .ret) .skip)) (.seq (.drg [⟨0, ⟨(some p42), none, (.e (.mv (.r p0)))⟩, [], false⟩, ⟨1, ⟨(some p43), none, (.e (.nilchk (.r p42)))⟩, [], false⟩, ⟨2, ⟨(some p44), none, (.e (.fa 1 (.r p43)))⟩, [], false⟩, ⟨3, ⟨(some p45), none, (.e (.ld (.r p44)))⟩, [], false⟩, ⟨4, ⟨(some p46), none, (.e (.fa 3 (.r p3)))⟩, [], false⟩, ⟨5, ⟨(some p47), none, (.e (.ld (.r p46)))⟩, [], false⟩, ⟨6, ⟨(some p48), none, (.e (.fa 0 (.r p3)))⟩, [], false⟩, ⟨7, ⟨(some p49), none, (.e (.ld (.r p48)))⟩, [], false⟩, ⟨8, ⟨(some p50), none, (.c (.f 159 [(.r p45), (.r p47), (.r p49)]))⟩, [], false⟩, ⟨9, ⟨(some p8), none, (.e (.mv (.r p50)))⟩, [], false⟩]) (.seq (.seq (.reg [⟨(some p51), none, (.e (.mv (.r p8)))⟩, ⟨(some p52), none, (.e (.bin .eql (.r p51) (.c (.int .i64 (.ofNat 0)))))⟩, ⟨(some p53), none, (.e (.mv (.r p52)))⟩, ⟨(some p54), (some (p53, true)), (.e (.fa 4 (.r p6)))⟩, ⟨(some p55), (some (p53, true)), (.e (.ld (.r p54)))⟩, ⟨(some p56), (some (p53, true)), (.e (.bin .gtr (.r p55) (.c (.int .i64 (.ofNat 0)))))⟩, ⟨(some p57), none, (.e (.pick (.r p53) (.r p56) (.c (.bool false))))⟩]) (.cond (.r p57) (.drg [⟨0, ⟨(some p58), none, (.e (.mv (.r p0)))⟩, [], false⟩, ⟨1, ⟨(some p59), none, (.e (.nilchk (.r p58)))⟩, [], false⟩, ⟨2, ⟨(some p60), none, (.e (.fa 3 (.r p59)))⟩, [], false⟩, ⟨3, ⟨(some p61), none, (.e (.ld (.r p60)))⟩, [], false⟩, ⟨4, ⟨(some p62), none, (.e (.fa 3 (.r p3)))⟩, [], false⟩, ⟨5, ⟨(some p63), none, (.e (.ld (.r p62)))⟩, [], false⟩, ⟨6, ⟨(some p64), none, (.e (.fa 4 (.r p6)))⟩, [], false⟩, ⟨7, ⟨(some p65), none, (.e (.ld (.r p64)))⟩, [], false⟩, ⟨8, ⟨(some p66), none, (.e (.fa 4 (.r p6)))⟩, [], false⟩, ⟨9, ⟨(some p67), none, (.e (.ld (.r p66)))⟩, [], false⟩, ⟨10, ⟨(some p68), none, (.c (.f 160 [(.r p61), (.r p63), (.r p65), (.r p67), (.c (.int .i64 (.ofNat 0)))]))⟩, [], false⟩]) .skip)) C121_1)))))
theorem I121_1 (E : Env) : Is E C121_1 (retK3 R121) (fun σ h => J121_1 E (σ p8) h) :=
  fun σ h => by kernel_rfl
theorem I121_0 (E : Env) : Is E C121_0 (retK3 R121) (fun σ h => J121_0 E (σ p0) (σ p1) h) :=
  Is.as (Is.seq (Is.seq (Is.seq (Is.seq (Is.seq (I121_1 E) (Is.leaf _)) (Is.leaf _)) (Is.leaf _)) (Is.leaf _)) (Is.leaf _)) fun σ h => by kernel_rfl
def D121 : DF := ⟨2, 70, C121_0, R121⟩
noncomputable def S121 (E : Env) : Fun := fun args h => aS args fun r0 args => aS args fun r1 args => a0 args (J121_0 E r0 r1 h)
theorem S121_eq (E : Env) (args : List DV) (h : H) : runFn E D121 args h = S121 E args h :=
  Is.fn2 (d := D121) (I121_0 E) rfl (fun r0 r1 h => J121_0 E r0 r1 h) (fun r0 r1 h => by kernel_rfl) args h
/- (*hurdle/manager.Manager).fail -/
def R124 : List RV := [(.r p4), (.r p5)]
noncomputable def J124_1 (E : Env) (r0 r6 : DV) (h : H) : Ans :=
  vK (v_nilchk r0) fun x1 =>
  vK (v_fa 0 x1) fun x2 =>
  vK (v_ld h.get x2) fun x3 =>
  wK (callK E 104 [x3] h) fun x4 h5 =>
  n_bsl 1 1 [(.int .i64 (.ofNat 0))] [(0, 1, x4)] h5 fun x6 h7 =>
  some ((.tup [x6, r6]), h7)
def C124_1 : DC := (.seq (.reg [⟨(some p23), none, (.e (.mv (.r p0)))⟩, ⟨(some p24), none, (.e (.nilchk (.r p23)))⟩, ⟨(some p25), none, (.e (.fa 0 (.r p24)))⟩, ⟨(some p26), none, (.e (.ld (.r p25)))⟩, ⟨(some p27), none, (.c (.f 104 [(.r p26)]))⟩, ⟨(some p28), none, (.e (.bsl 1 1 [(.int .i64 (.ofNat 0))] [(0, 1, (.r p27))]))⟩, ⟨(some p29), none, (.e (.mv (.r p6)))⟩, ⟨(some p4), none, (.e (.mv (.r p28)))⟩, ⟨(some p5), none, (.e (.mv (.r p29)))⟩]) .ret)
noncomputable def J124_0 (E : Env) (r0 r1 : DV) (h : H) : Ans :=
  n_box r1 h fun x1 h2 =>
  vK (v_nilchk r0) fun x3 =>
  vK (v_fa 0 x3) fun x4 =>
  vK (v_ld h2.get x4) fun x5 =>
  vK (v_fa 3 x1) fun x6 =>
  vK (v_ld h2.get x6) fun x7 =>
  vK (v_fa 4 x1) fun x8 =>
  vK (v_ld h2.get x8) fun x9 =>
  wK (callK E 166 [x5, x7, x9] h2) fun x10 h11 =>
  vK (v_eql x10 (.int .i64 (.ofNat 0))) fun x12 =>
  bK x12
  (vK (v_fa 3 x1) fun x13 =>
  vK (v_ld h11.get x13) fun x14 =>
  vK (v_nilchk r0) fun x15 =>
  vK (v_fa 6 x15) fun x16 =>
  wK (dStF 1 x16 x14 h11) fun x17 h18 =>
  J124_1 E r0 x10 h18)
  (J124_1 E r0 x10 h11)
def C124_0 : DC := (.seq (.reg [⟨(some p3), none, (.e (.box (.r p1)))⟩, ⟨(some p4), none, (.e (.mv (.c .nils)))⟩, ⟨(some p5), none, (.e (.mv (.c (.int .i64 (.ofNat 0)))))⟩]) (.seq (.drg [⟨0, ⟨(some p7), none, (.e (.mv (.r p0)))⟩, [], false⟩, ⟨1, ⟨(some p8), none, (.e (.nilchk (.r p7)))⟩, [], false⟩, ⟨2, ⟨(some p9), none, (.e (.fa 0 (.r p8)))⟩, [], false⟩, ⟨3, ⟨(some p10), none, (.e (.ld (.r p9)))⟩, [], false⟩, ⟨4, ⟨(some p11), none, (.e (.fa 3 (.r p3)))⟩, [], false⟩, ⟨5, ⟨(some p12), none, (.e (.ld (.r p11)))⟩, [], false⟩, ⟨6, ⟨(some p13), none, (.e (.fa 4 (.r p3)))⟩, [], false⟩, ⟨7, ⟨(some p14), none, (.e (.ld (.r p13)))⟩, [], false⟩, ⟨8, ⟨(some p15), none, (.c (.f 166 [(.r p10), (.r p12), (.r p14)]))⟩, [], false⟩, ⟨9, ⟨(some p6), none, (.e (.mv (.r p15)))⟩, [], false⟩]) (.seq (.seq (.reg [⟨(some p16), none, (.e (.mv (.r p6)))⟩, ⟨(some p17), none, (.e (.bin .eql (.r p16) (.c (.int .i64 (.ofNat 0)))))⟩]) (.cond (.r p17) (.reg [⟨(some p18), none, (.e (.mv (.r p0)))⟩, ⟨(some p19), none, (.e (.fa 3 (.r p3)))⟩, ⟨(some p20), none, (.e (.ld (.r p19)))⟩, ⟨(some p21), none, (.e (.nilchk (.r p18)))⟩, ⟨(some p22), none, (.e (.fa 6 (.r p21)))⟩, ⟨none, none, (.w (.st 1 (.r p22) (.r p20)))⟩]) .skip)) C124_1)))
theorem I124_1 (E : Env) : Is E C124_1 (retK3 R124) (fun σ h => J124_1 E (σ p0) (σ p6) h) :=
  fun σ h => by kernel_rfl
theorem I124_0 (E : Env) : Is E C124_0 (retK3 R124) (fun σ h => J124_0 E (σ p0) (σ p1) h) :=
  Is.as (Is.seq (Is.seq (Is.seq (I124_1 E) (Is.leaf _)) (Is.leaf _)) (Is.leaf _)) fun σ h => by kernel_rfl
def D124 : DF := ⟨2, 30, C124_0, R124⟩
noncomputable def S124 (E : Env) : Fun := fun args h => aS args fun r0 args => aS args fun r1 args => a0 args (J124_0 E r0 r1 h)
theorem S124_eq (E : Env) (args : List DV) (h : H) : runFn E D124 args h = S124 E args h :=
  Is.fn2 (d := D124) (I124_0 E) rfl (fun r0 r1 h => J124_0 E r0 r1 h) (fun r0 r1 h => by kernel_rfl) args h
/- (*hurdle/manager.Manager).swap -/
def R125 : List RV := [(.r p4), (.r p5)]
noncomputable def J125_1 (E : Env) (r0 r6 : DV) (h : H) : Ans :=
  vK (v_nilchk r0) fun x1 =>
  vK (v_fa 0 x1) fun x2 =>
  vK (v_ld h.get x2) fun x3 =>
  wK (callK E 104 [x3] h) fun x4 h5 =>
  n_bsl 2 1 [(.int .i64 (.ofNat 0))] [(0, 1, r6), (1, 1, x4)] h5 fun x6 h7 =>
  some ((.tup [x6, (.int .i64 (.ofNat 0))]), h7)
def C125_1 : DC := (.seq (.reg [⟨(some p63), none, (.e (.mv (.r p6)))⟩, ⟨(some p64), none, (.e (.mv (.r p0)))⟩, ⟨(some p65), none, (.e (.nilchk (.r p64)))⟩, ⟨(some p66), none, (.e (.fa 0 (.r p65)))⟩, ⟨(some p67), none, (.e (.ld (.r p66)))⟩, ⟨(some p68), none, (.c (.f 104 [(.r p67)]))⟩, ⟨(some p69), none, (.e (.bsl 2 1 [(.int .i64 (.ofNat 0))] [(0, 1, (.r p63)), (1, 1, (.r p68))]))⟩, ⟨(some p4), none, (.e (.mv (.r p69)))⟩, ⟨(some p5), none, (.e (.mv (.c (.int .i64 (.ofNat 0)))))⟩]) .ret)
noncomputable def B125_2 (E : Env) (r0 r6 r33 r34 : DV) (i2 : DV → H → Ans) (r35 : DV) (h : H) : Ans :=
  vK (v_lss r35 r34) fun x1 =>
  bK x1
  (vK (v_iaS 1 r33 r35) fun x2 =>
  vK (v_ld h.get x2) fun x3 =>
  vK (v_nilchk r0) fun x4 =>
  vK (v_fa 1 x4) fun x5 =>
  vK (v_ld h.get x5) fun x6 =>
  wK (callK E 94 [x6, x3] h) fun x7 h8 =>
  vK (v_ext 0 x7) fun x9 =>
  vK (v_ext 1 x7) fun x10 =>
  n_alc 6 6 (.list [(.int .i64 (.ofNat 0)), (.int .i64 (.ofNat 0)), (.int .i64 (.ofNat 0)), (.int .i64 (.ofNat 0)), (.int .i64 (.ofNat 0)), .nils]) h8 fun x11 h12 =>
  wK (dStF 6 x11 x9 h12) fun x13 h14 =>
  vK (v_nilchk r0) fun x15 =>
  vK (v_fa 1 x15) fun x16 =>
  vK (v_ld h14.get x16) fun x17 =>
  vK (v_fa 5 x11) fun x18 =>
  vK (v_ld h14.get x18) fun x19 =>
  vK (v_nilchk r0) fun x20 =>
  vK (v_fa 6 x20) fun x21 =>
  vK (v_ld h14.get x21) fun x22 =>
  wK (callK E 106 [x19, x22] h14) fun x23 h24 =>
  rK (rcK (v_ld h24.get x16) x17) <|
  wK (callK E 169 [x17, x3, x23, r6] h24) fun x25 h26 =>
  vK (v_add r35 (.int .i64 (.ofNat 1))) fun x27 =>
  i2 x27 h26)
  (J125_1 E r0 r6 h)
noncomputable def L125_2 (E : Env) (r0 r6 r33 r34 : DV) (n : Nat) : DV → H → Ans := Nat.rec (motive := fun _ => DV → H → Ans) (fun _ _ => none) (fun _ i => B125_2 E r0 r6 r33 r34 i) n
def C125_2 : DC := (.loop (.seq (.reg [⟨(some p36), none, (.e (.bin .lss (.r p35) (.r p34)))⟩]) (.seq (.cond (.r p36) .skip (.exit 0)) (.seq (.block 1 (.seq (.reg [⟨(some p37), none, (.e (.iaS 1 (.r p33) (.r p35)))⟩, ⟨(some p38), none, (.e (.ld (.r p37)))⟩, ⟨(some p9), none, (.e (.mv (.r p38)))⟩]) (.seq (.reg [⟨(some p40), none, (.e (.mv (.r p0)))⟩, ⟨(some p41), none, (.e (.nilchk (.r p40)))⟩, ⟨(some p42), none, (.e (.fa 1 (.r p41)))⟩, ⟨(some p43), none, (.e (.ld (.r p42)))⟩, ⟨(some p44), none, (.e (.mv (.r p9)))⟩, ⟨(some p45), none, (.c (.f 94 [(.r p43), (.r p44)]))⟩, ⟨(some p39), none, (.e (.mv (.r p45)))⟩, ⟨(some p46), none, (.e (.ext 0 (.r p39)))⟩, ⟨(some p47), none, (.e (.ext 1 (.r p39)))⟩, ⟨(some p10), none, (.e (.alc 6 6 (.list [(.int .i64 (.ofNat 0)), (.int .i64 (.ofNat 0)), (.int .i64 (.ofNat 0)), (.int .i64 (.ofNat 0)), (.int .i64 (.ofNat 0)), .nils])))⟩, ⟨none, none, (.w (.st 6 (.r p10) (.r p46)))⟩, ⟨(some p11), none, (.e (.mv (.r p47)))⟩]) (.drg [⟨0, ⟨(some p48), none, (.e (.mv (.r p0)))⟩, [], false⟩, ⟨1, ⟨(some p49), none, (.e (.nilchk (.r p48)))⟩, [], false⟩, ⟨2, ⟨(some p50), none, (.e (.fa 1 (.r p49)))⟩, [], false⟩, ⟨3, ⟨(some p51), none, (.e (.ld (.r p50)))⟩, [], false⟩, ⟨4, ⟨(some p52), none, (.e (.mv (.r p9)))⟩, [], false⟩, ⟨5, ⟨(some p53), none, (.e (.fa 5 (.r p10)))⟩, [], false⟩, ⟨6, ⟨(some p54), none, (.e (.ld (.r p53)))⟩, [], false⟩, ⟨7, ⟨(some p55), none, (.e (.mv (.r p0)))⟩, [], false⟩, ⟨8, ⟨(some p56), none, (.e (.nilchk (.r p55)))⟩, [], false⟩, ⟨9, ⟨(some p57), none, (.e (.fa 6 (.r p56)))⟩, [], false⟩, ⟨10, ⟨(some p58), none, (.e (.ld (.r p57)))⟩, [], false⟩, ⟨12, ⟨(some p60), none, (.e (.mv (.r p6)))⟩, [], false⟩, ⟨11, ⟨(some p59), none, (.c (.f 106 [(.r p54), (.r p58)]))⟩, [3], false⟩, ⟨13, ⟨(some p61), none, (.c (.f 169 [(.r p51), (.r p52), (.r p59), (.r p60)]))⟩, [], false⟩])))) (.reg [⟨(some p62), none, (.e (.bin .add (.r p35) (.c (.int .i64 (.ofNat 1)))))⟩, ⟨(some p35), none, (.e (.mv (.r p62)))⟩])))))
noncomputable def J125_0 (E : Env) (r0 r1 : DV) (h : H) : Ans :=
  n_box r1 h fun x1 h2 =>
  vK (v_nilchk r0) fun x3 =>
  vK (v_fa 0 x3) fun x4 =>
  vK (v_ld h2.get x4) fun x5 =>
  vK (v_fa 3 x1) fun x6 =>
  vK (v_ld h2.get x6) fun x7 =>
  wK (callK E 167 [x5, x7] h2) fun x8 h9 =>
  vK (v_ext 0 x8) fun x10 =>
  vK (v_ext 1 x8) fun x11 =>
  vK (v_neq x11 (.int .i64 (.ofNat 0))) fun x12 =>
  bK x12
  (some ((.tup [.nils, x11]), h9))
  (vK (v_nilchk r0) fun x13 =>
  vK (v_fa 1 x13) fun x14 =>
  vK (v_ld h9.get x14) fun x15 =>
  vK (v_nilchk r0) fun x16 =>
  vK (v_fa 6 x16) fun x17 =>
  vK (v_ld h9.get x17) fun x18 =>
  wK (callK E 168 [x15, x18] h9) fun x19 h20 =>
  vK (v_lenL x19) fun x21 =>
  L125_2 E r0 x10 x19 x21 FUEL (.int .i64 (.ofNat 0)) h20)
def C125_0 : DC := (.seq (.reg [⟨(some p3), none, (.e (.box (.r p1)))⟩, ⟨(some p4), none, (.e (.mv (.c .nils)))⟩, ⟨(some p5), none, (.e (.mv (.c (.int .i64 (.ofNat 0)))))⟩]) (.seq (.drg [⟨0, ⟨(some p13), none, (.e (.mv (.r p0)))⟩, [], false⟩, ⟨1, ⟨(some p14), none, (.e (.nilchk (.r p13)))⟩, [], false⟩, ⟨2, ⟨(some p15), none, (.e (.fa 0 (.r p14)))⟩, [], false⟩, ⟨3, ⟨(some p16), none, (.e (.ld (.r p15)))⟩, [], false⟩, ⟨4, ⟨(some p17), none, (.e (.fa 3 (.r p3)))⟩, [], false⟩, ⟨5, ⟨(some p18), none, (.e (.ld (.r p17)))⟩, [], false⟩, ⟨6, ⟨(some p19), none, (.c (.f 167 [(.r p16), (.r p18)]))⟩, [], false⟩, ⟨7, ⟨(some p12), none, (.e (.mv (.r p19)))⟩, [], false⟩, ⟨8, ⟨(some p20), none, (.e (.ext 0 (.r p12)))⟩, [], false⟩, ⟨9, ⟨(some p21), none, (.e (.ext 1 (.r p12)))⟩, [], false⟩, ⟨10, ⟨(some p6), none, (.e (.mv (.r p20)))⟩, [], false⟩, ⟨11, ⟨(some p7), none, (.e (.mv (.r p21)))⟩, [], false⟩]) (.seq (.seq (.reg [⟨(some p22), none, (.e (.mv (.r p7)))⟩, ⟨(some p23), none, (.e (.bin .neq (.r p22) (.c (.int .i64 (.ofNat 0)))))⟩]) (.cond (.r p23) (.seq (.reg [⟨(some p24), none, (.e (.mv (.r p7)))⟩, ⟨(some p4), none, (.e (.mv (.c .nils)))⟩, ⟨(some p5), none, (.e (.mv (.r p24)))⟩]) .ret) .skip)) (.seq (.seq (.drg [⟨0, ⟨(some p25), none, (.e (.mv (.r p0)))⟩, [], false⟩, ⟨1, ⟨(some p26), none, (.e (.nilchk (.r p25)))⟩, [], false⟩, ⟨2, ⟨(some p27), none, (.e (.fa 1 (.r p26)))⟩, [], false⟩, ⟨3, ⟨(some p28), none, (.e (.ld (.r p27)))⟩, [], false⟩, ⟨4, ⟨(some p29), none, (.e (.mv (.r p0)))⟩, [], false⟩, ⟨5, ⟨(some p30), none, (.e (.nilchk (.r p29)))⟩, [], false⟩, ⟨6, ⟨(some p31), none, (.e (.fa 6 (.r p30)))⟩, [], false⟩, ⟨7, ⟨(some p32), none, (.e (.ld (.r p31)))⟩, [], false⟩, ⟨10, ⟨(some p35), none, (.e (.mv (.c (.int .i64 (.ofNat 0)))))⟩, [], false⟩, ⟨8, ⟨(some p33), none, (.c (.f 168 [(.r p28), (.r p32)]))⟩, [], false⟩, ⟨9, ⟨(some p34), none, (.e (.lenL (.r p33)))⟩, [], false⟩]) (.block 0 C125_2)) C125_1))))
theorem I125_1 (E : Env) : Is E C125_1 (retK3 R125) (fun σ h => J125_1 E (σ p0) (σ p6) h) :=
  fun σ h => by kernel_rfl
noncomputable abbrev K125_3 (E : Env) : KT2 (DV × H) := (thenK3 (fun σ h => J125_1 E (σ p0) (σ p6) h) (retK3 R125))
theorem I125_2 (E : Env) : Is E C125_2 (blockK3 0 (K125_3 E)) (fun σ h => L125_2 E (σ p0) (σ p6) (σ p33) (σ p34) FUEL (σ p35) h) :=
  Is.loop (fun n2 σ h => L125_2 E (σ p0) (σ p6) (σ p33) (σ p34) n2 (σ p35) h) (by kernel_rfl) fun n2 => Is.as (Is.leaf _) fun σ h => by kernel_rfl
theorem I125_0 (E : Env) : Is E C125_0 (retK3 R125) (fun σ h => J125_0 E (σ p0) (σ p1) h) :=
  Is.as (Is.seq (Is.seq (Is.seq (Is.seq (I125_1 E) (Is.seq (Is.block (I125_2 E)) (Is.leaf _))) (Is.leaf _)) (Is.leaf _)) (Is.leaf _)) fun σ h => by kernel_rfl
def D125 : DF := ⟨2, 70, C125_0, R125⟩
noncomputable def S125 (E : Env) : Fun := fun args h => aS args fun r0 args => aS args fun r1 args => a0 args (J125_0 E r0 r1 h)
theorem S125_eq (E : Env) (args : List DV) (h : H) : runFn E D125 args h = S125 E args h :=
  Is.fn2 (d := D125) (I125_0 E) rfl (fun r0 r1 h => J125_0 E r0 r1 h) (fun r0 r1 h => by kernel_rfl) args h
/- (*hurdle/manager.Manager).close -/
def R126 : List RV := [(.r p4), (.r p5)]
noncomputable def J126_0 (E : Env) (r0 r1 : DV) (h : H) : Ans :=
  n_box r1 h fun x1 h2 =>
  vK (v_nilchk r0) fun x3 =>
  vK (v_fa 0 x3) fun x4 =>
  vK (v_ld h2.get x4) fun x5 =>
  vK (v_fa 3 x1) fun x6 =>
  vK (v_ld h2.get x6) fun x7 =>
  wK (callK E 170 [x5, x7] h2) fun x8 h9 =>
  vK (v_nilchk r0) fun x10 =>
  vK (v_fa 0 x10) fun x11 =>
  vK (v_ld h9.get x11) fun x12 =>
  wK (callK E 104 [x12] h9) fun x13 h14 =>
  n_bsl 1 1 [(.int .i64 (.ofNat 0))] [(0, 1, x13)] h14 fun x15 h16 =>
  some ((.tup [x15, x8]), h16)
def C126_0 : DC := (.seq (.reg [⟨(some p3), none, (.e (.box (.r p1)))⟩, ⟨(some p4), none, (.e (.mv (.c .nils)))⟩, ⟨(some p5), none, (.e (.mv (.c (.int .i64 (.ofNat 0)))))⟩]) (.seq (.drg [⟨0, ⟨(some p7), none, (.e (.mv (.r p0)))⟩, [], false⟩, ⟨1, ⟨(some p8), none, (.e (.nilchk (.r p7)))⟩, [], false⟩, ⟨2, ⟨(some p9), none, (.e (.fa 0 (.r p8)))⟩, [], false⟩, ⟨3, ⟨(some p10), none, (.e (.ld (.r p9)))⟩, [], false⟩, ⟨4, ⟨(some p11), none, (.e (.fa 3 (.r p3)))⟩, [], false⟩, ⟨5, ⟨(some p12), none, (.e (.ld (.r p11)))⟩, [], false⟩, ⟨6, ⟨(some p13), none, (.c (.f 170 [(.r p10), (.r p12)]))⟩, [], false⟩, ⟨7, ⟨(some p6), none, (.e (.mv (.r p13)))⟩, [], false⟩]) (.seq (.reg [⟨(some p14), none, (.e (.mv (.r p0)))⟩, ⟨(some p15), none, (.e (.nilchk (.r p14)))⟩, ⟨(some p16), none, (.e (.fa 0 (.r p15)))⟩, ⟨(some p17), none, (.e (.ld (.r p16)))⟩, ⟨(some p18), none, (.c (.f 104 [(.r p17)]))⟩, ⟨(some p19), none, (.e (.bsl 1 1 [(.int .i64 (.ofNat 0))] [(0, 1, (.r p18))]))⟩, ⟨(some p20), none, (.e (.mv (.r p6)))⟩, ⟨(some p4), none, (.e (.mv (.r p19)))⟩, ⟨(some p5), none, (.e (.mv (.r p20)))⟩]) .ret)))
theorem I126_0 (E : Env) : Is E C126_0 (retK3 R126) (fun σ h => J126_0 E (σ p0) (σ p1) h) :=
  fun σ h => by kernel_rfl
def D126 : DF := ⟨2, 21, C126_0, R126⟩
noncomputable def S126 (E : Env) : Fun := fun args h => aS args fun r0 args => aS args fun r1 args => a0 args (J126_0 E r0 r1 h)
theorem S126_eq (E : Env) (args : List DV) (h : H) : runFn E D126 args h = S126 E args h :=
  Is.fn2 (d := D126) (I126_0 E) rfl (fun r0 r1 h => J126_0 E r0 r1 h) (fun r0 r1 h => by kernel_rfl) args h
/- hurdle/bytes.zeros -/
def R129 : List RV := [(.r p2)]
noncomputable def J129_0 (E : Env) (r0 : DV) (h : H) : Ans :=
  wK (callK E 173 [(.str [0]), r0] h) fun x1 h2 =>
  some (x1, h2)
def C129_0 : DC := (.seq (.reg [⟨(some p2), none, (.e (.mv (.c (.str []))))⟩]) (.seq (.reg [⟨(some p3), none, (.e (.mv (.r p0)))⟩, ⟨(some p4), none, (.c (.f 173 [(.c (.str [0])), (.r p3)]))⟩, ⟨(some p2), none, (.e (.mv (.r p4)))⟩]) .ret))
theorem I129_0 (E : Env) : Is E C129_0 (retK3 R129) (fun σ h => J129_0 E (σ p0) h) :=
  fun σ h => by kernel_rfl
def D129 : DF := ⟨1, 5, C129_0, R129⟩
noncomputable def S129 (E : Env) : Fun := fun args h => aS args fun r0 args => a0 args (J129_0 E r0 h)
theorem S129_eq (E : Env) (args : List DV) (h : H) : runFn E D129 args h = S129 E args h :=
  Is.fn1 (d := D129) (I129_0 E) rfl (fun r0 h => J129_0 E r0 h) (fun r0 h => by kernel_rfl) args h
/- (*hurdle/frags.Frags).find -/
def R130 : List RV := [(.r p4)]
noncomputable def J130_0 (E : Env) (r0 r1 : DV) (h : H) : Ans :=
  n_box r1 h fun x1 h2 =>
  vK (v_nilchk r0) fun x3 =>
  vK (v_fa 1 x3) fun x4 =>
  vK (v_ld h2.get x4) fun x5 =>
  wK (callK E 174 [x5, (.fn (.func 175) [] [x1])] h2) fun x6 h7 =>
  some (x6, h7)
def C130_0 : DC := (.seq (.reg [⟨(some p3), none, (.e (.box (.r p1)))⟩, ⟨(some p4), none, (.e (.mv (.c (.int .i64 (.ofNat 0)))))⟩]) (.seq (.reg [⟨(some p5), none, (.e (.mv (.r p0)))⟩, ⟨(some p6), none, (.e (.nilchk (.r p5)))⟩, ⟨(some p7), none, (.e (.fa 1 (.r p6)))⟩, ⟨(some p8), none, (.e (.ld (.r p7)))⟩, ⟨(some p9), none, (.e (.mkF (.func 175) [] [(.r p3)]))⟩, ⟨(some p10), none, (.c (.f 174 [(.r p8), (.r p9)]))⟩, ⟨(some p4), none, (.e (.mv (.r p10)))⟩]) .ret))
theorem I130_0 (E : Env) : Is E C130_0 (retK3 R130) (fun σ h => J130_0 E (σ p0) (σ p1) h) :=
  fun σ h => by kernel_rfl
def D130 : DF := ⟨2, 11, C130_0, R130⟩
noncomputable def S130 (E : Env) : Fun := fun args h => aS args fun r0 args => aS args fun r1 args => a0 args (J130_0 E r0 r1 h)
theorem S130_eq (E : Env) (args : List DV) (h : H) : runFn E D130 args h = S130 E args h :=
  Is.fn2 (d := D130) (I130_0 E) rfl (fun r0 r1 h => J130_0 E r0 r1 h) (fun r0 r1 h => by kernel_rfl) args h
/- (*hurdle/sector.Device).Read -/
def R131 : List RV := [(.r p6), (.r p7)]
noncomputable def J131_1 (E : Env) (r9 : DV) (h : H) : Ans :=
  vK (v_b2s h.get r9) fun x1 =>
  some ((.tup [x1, (.int .i64 (.ofNat 0))]), h)
def C131_1 : DC := (.seq (.reg [⟨(some p40), none, (.e (.mv (.r p9)))⟩, ⟨(some p41), none, (.e (.b2s (.r p40)))⟩, ⟨(some p6), none, (.e (.mv (.r p41)))⟩, ⟨(some p7), none, (.e (.mv (.c (.int .i64 (.ofNat 0)))))⟩]) .ret)
noncomputable def B131_2 (E : Env) (r30 r31 : DV) (i2 : DV → DV → H → Ans) (r9 r32 : DV) (h : H) : Ans :=
  vK (v_lss r32 r31) fun x1 =>
  bK x1
  (vK (v_iaS 1 r30 r32) fun x2 =>
  vK (v_ld h.get x2) fun x3 =>
  wK (dAppendF 1 1 r9 x3 h) fun x4 h5 =>
  vK (v_add r32 (.int .i64 (.ofNat 1))) fun x6 =>
  i2 x4 x6 h5)
  (J131_1 E r9 h)
noncomputable def L131_2 (E : Env) (r30 r31 : DV) (n : Nat) : DV → DV → H → Ans := Nat.rec (motive := fun _ => DV → DV → H → Ans) (fun _ _ _ => none) (fun _ i => B131_2 E r30 r31 i) n
def C131_2 : DC := (.loop (.seq (.reg [⟨(some p33), none, (.e (.bin .lss (.r p32) (.r p31)))⟩]) (.seq (.cond (.r p33) .skip (.exit 0)) (.seq (.block 1 (.seq (.reg [⟨(some p34), none, (.e (.iaS 1 (.r p30) (.r p32)))⟩, ⟨(some p35), none, (.e (.ld (.r p34)))⟩, ⟨(some p11), none, (.e (.mv (.r p35)))⟩]) (.reg [⟨(some p36), none, (.e (.mv (.r p9)))⟩, ⟨(some p37), none, (.e (.mv (.r p11)))⟩, ⟨(some p38), none, (.w (.app 1 1 (.r p36) (.r p37)))⟩, ⟨(some p9), none, (.e (.mv (.r p38)))⟩]))) (.reg [⟨(some p39), none, (.e (.bin .add (.r p32) (.c (.int .i64 (.ofNat 1)))))⟩, ⟨(some p32), none, (.e (.mv (.r p39)))⟩])))))
noncomputable def J131_0 (E : Env) (r0 r1 r2 : DV) (h : H) : Ans :=
  wK (callK E 176 [r0, r1, r2, (.bool true)] h) fun x1 h2 =>
  vK (v_neq x1 (.int .i64 (.ofNat 0))) fun x3 =>
  bK x3
  (some ((.tup [(.str []), x1]), h2))
  (vK (v_mul r2 (.int .i64 (.ofNat 64))) fun x4 =>
  n_mks 1 1 (.int .u8 (.ofNat 0)) (.int .i64 (.ofNat 0)) x4 h2 fun x5 h6 =>
  vK (v_nilchk r0) fun x7 =>
  vK (v_fa 0 x7) fun x8 =>
  vK (v_ld h6.get x8) fun x9 =>
  vK (v_add r1 r2) fun x10 =>
  vK (v_slL 1 x9 (some r1) (some x10)) fun x11 =>
  vK (v_lenL x11) fun x12 =>
  L131_2 E x11 x12 FUEL x5 (.int .i64 (.ofNat 0)) h6)
def C131_0 : DC := (.seq (.reg [⟨(some p6), none, (.e (.mv (.c (.str []))))⟩, ⟨(some p7), none, (.e (.mv (.c (.int .i64 (.ofNat 0)))))⟩]) (.seq (.seq (.reg [⟨(some p12), none, (.e (.mv (.r p0)))⟩, ⟨(some p13), none, (.e (.mv (.r p1)))⟩, ⟨(some p14), none, (.e (.mv (.r p2)))⟩, ⟨(some p15), none, (.c (.f 176 [(.r p12), (.r p13), (.r p14), (.c (.bool true))]))⟩, ⟨(some p8), none, (.e (.mv (.r p15)))⟩]) (.seq (.reg [⟨(some p16), none, (.e (.mv (.r p8)))⟩, ⟨(some p17), none, (.e (.bin .neq (.r p16) (.c (.int .i64 (.ofNat 0)))))⟩]) (.cond (.r p17) (.seq (.reg [⟨(some p18), none, (.e (.mv (.r p8)))⟩, ⟨(some p6), none, (.e (.mv (.c (.str []))))⟩, ⟨(some p7), none, (.e (.mv (.r p18)))⟩]) .ret) .skip))) (.seq (.reg [⟨(some p19), none, (.e (.mv (.r p2)))⟩, ⟨(some p20), none, (.e (.bin .mul (.r p19) (.c (.int .i64 (.ofNat 64)))))⟩, ⟨(some p21), none, (.e (.mks 1 1 (.int .u8 (.ofNat 0)) (.c (.int .i64 (.ofNat 0))) (.r p20)))⟩, ⟨(some p9), none, (.e (.mv (.r p21)))⟩]) (.seq (.seq (.reg [⟨(some p22), none, (.e (.mv (.r p0)))⟩, ⟨(some p23), none, (.e (.nilchk (.r p22)))⟩, ⟨(some p24), none, (.e (.fa 0 (.r p23)))⟩, ⟨(some p25), none, (.e (.ld (.r p24)))⟩, ⟨(some p26), none, (.e (.mv (.r p1)))⟩, ⟨(some p27), none, (.e (.mv (.r p1)))⟩, ⟨(some p28), none, (.e (.mv (.r p2)))⟩, ⟨(some p29), none, (.e (.bin .add (.r p27) (.r p28)))⟩, ⟨(some p30), none, (.e (.slL 1 (.r p25) (some (.r p26)) (some (.r p29))))⟩, ⟨(some p31), none, (.e (.lenL (.r p30)))⟩, ⟨(some p32), none, (.e (.mv (.c (.int .i64 (.ofNat 0)))))⟩]) (.block 0 C131_2)) C131_1))))
theorem I131_1 (E : Env) : Is E C131_1 (retK3 R131) (fun σ h => J131_1 E (σ p9) h) :=
  fun σ h => by kernel_rfl
noncomputable abbrev K131_3 (E : Env) : KT2 (DV × H) := (thenK3 (fun σ h => J131_1 E (σ p9) h) (retK3 R131))
theorem I131_2 (E : Env) : Is E C131_2 (blockK3 0 (K131_3 E)) (fun σ h => L131_2 E (σ p30) (σ p31) FUEL (σ p9) (σ p32) h) :=
  Is.loop (fun n2 σ h => L131_2 E (σ p30) (σ p31) n2 (σ p9) (σ p32) h) (by kernel_rfl) fun n2 => Is.as (Is.leaf _) fun σ h => by kernel_rfl
theorem I131_0 (E : Env) : Is E C131_0 (retK3 R131) (fun σ h => J131_0 E (σ p0) (σ p1) (σ p2) h) :=
  Is.as (Is.seq (Is.seq (Is.seq (Is.seq (I131_1 E) (Is.seq (Is.block (I131_2 E)) (Is.leaf _))) (Is.leaf _)) (Is.leaf _)) (Is.leaf _)) fun σ h => by kernel_rfl
def D131 : DF := ⟨3, 42, C131_0, R131⟩
noncomputable def S131 (E : Env) : Fun := fun args h => aS args fun r0 args => aS args fun r1 args => aS args fun r2 args => a0 args (J131_0 E r0 r1 r2 h)
theorem S131_eq (E : Env) (args : List DV) (h : H) : runFn E D131 args h = S131 E args h :=
  Is.fn3 (d := D131) (I131_0 E) rfl (fun r0 r1 r2 h => J131_0 E r0 r1 r2 h) (fun r0 r1 r2 h => by kernel_rfl) args h
/- hurdle/frags.may -/
def R132 : List RV := [(.r p2)]
noncomputable def J132_0 (E : Env) (r0 : DV) (h : H) : Ans :=
  n_box r0 h fun x1 h2 =>
  vK (v_fa 0 x1) fun x3 =>
  vK (v_ld h2.get x3) fun x4 =>
  vK (v_geq x4 (.int .i64 (.ofNat 0))) fun x5 =>
  gdK x5 true (fun kk => vK (v_fa 0 x1) fun v => kk v h2) h2 fun x6 h7 =>
  gdK x5 true (fun kk => vK (v_ld h7.get x6) fun v => kk v h7) h7 fun x8 h9 =>
  gdK x5 true (fun kk => vK (v_lss x8 (.int .i64 (.ofNat 2147483648))) fun v => kk v h9) h9 fun x10 h11 =>
  vK (v_pick x5 x10 (.bool false)) fun x12 =>
  gdK x12 true (fun kk => vK (v_fa 1 x1) fun v => kk v h11) h11 fun x13 h14 =>
  gdK x12 true (fun kk => vK (v_ld h14.get x13) fun v => kk v h14) h14 fun x15 h16 =>
  gdK x12 true (fun kk => vK (v_geq x15 (.int .i64 (.ofNat 0))) fun v => kk v h16) h16 fun x17 h18 =>
  vK (v_pick x12 x17 (.bool false)) fun x19 =>
  gdK x19 true (fun kk => vK (v_fa 1 x1) fun v => kk v h18) h18 fun x20 h21 =>
  gdK x19 true (fun kk => vK (v_ld h21.get x20) fun v => kk v h21) h21 fun x22 h23 =>
  gdK x19 true (fun kk => vK (v_lss x22 (.int .i64 (.ofNat 8))) fun v => kk v h23) h23 fun x24 h25 =>
  vK (v_pick x19 x24 (.bool false)) fun x26 =>
  some (x26, h25)
def C132_0 : DC := (.seq (.reg [⟨(some p1), none, (.e (.box (.r p0)))⟩, ⟨(some p2), none, (.e (.mv (.c (.bool false))))⟩]) (.seq (.reg [⟨(some p3), none, (.e (.fa 0 (.r p1)))⟩, ⟨(some p4), none, (.e (.ld (.r p3)))⟩, ⟨(some p5), none, (.e (.bin .geq (.r p4) (.c (.int .i64 (.ofNat 0)))))⟩, ⟨(some p6), none, (.e (.mv (.r p5)))⟩, ⟨(some p7), (some (p6, true)), (.e (.fa 0 (.r p1)))⟩, ⟨(some p8), (some (p6, true)), (.e (.ld (.r p7)))⟩, ⟨(some p9), (some (p6, true)), (.e (.bin .lss (.r p8) (.c (.int .i64 (.ofNat 2147483648)))))⟩, ⟨(some p10), none, (.e (.pick (.r p6) (.r p9) (.c (.bool false))))⟩, ⟨(some p11), none, (.e (.mv (.r p10)))⟩, ⟨(some p12), (some (p11, true)), (.e (.fa 1 (.r p1)))⟩, ⟨(some p13), (some (p11, true)), (.e (.ld (.r p12)))⟩, ⟨(some p14), (some (p11, true)), (.e (.bin .geq (.r p13) (.c (.int .i64 (.ofNat 0)))))⟩, ⟨(some p15), none, (.e (.pick (.r p11) (.r p14) (.c (.bool false))))⟩, ⟨(some p16), none, (.e (.mv (.r p15)))⟩, ⟨(some p17), (some (p16, true)), (.e (.fa 1 (.r p1)))⟩, ⟨(some p18), (some (p16, true)), (.e (.ld (.r p17)))⟩, ⟨(some p19), (some (p16, true)), (.e (.bin .lss (.r p18) (.c (.int .i64 (.ofNat 8)))))⟩, ⟨(some p20), none, (.e (.pick (.r p16) (.r p19) (.c (.bool false))))⟩, ⟨(some p2), none, (.e (.mv (.r p20)))⟩]) .ret))
theorem I132_0 (E : Env) : Is E C132_0 (retK3 R132) (fun σ h => J132_0 E (σ p0) h) :=
  fun σ h => by kernel_rfl
def D132 : DF := ⟨1, 21, C132_0, R132⟩
noncomputable def S132 (E : Env) : Fun := fun args h => aS args fun r0 args => a0 args (J132_0 E r0 h)
theorem S132_eq (E : Env) (args : List DV) (h : H) : runFn E D132 args h = S132 E args h :=
  Is.fn1 (d := D132) (I132_0 E) rfl (fun r0 h => J132_0 E r0 h) (fun r0 h => by kernel_rfl) args h
/- (*hurdle/frags.Frags).free -/
def R133 : List RV := [(.r p2)]
noncomputable def J133_0 (E : Env) (r0 : DV) (h : H) : Ans :=
  vK (v_nilchk r0) fun x1 =>
  vK (v_fa 1 x1) fun x2 =>
  vK (v_ld h.get x2) fun x3 =>
  wK (callK E 174 [x3, (.fn (.func 177) [] [])] h) fun x4 h5 =>
  some (x4, h5)
def C133_0 : DC := (.seq (.reg [⟨(some p2), none, (.e (.mv (.c (.int .i64 (.ofNat 0)))))⟩]) (.seq (.reg [⟨(some p3), none, (.e (.mv (.r p0)))⟩, ⟨(some p4), none, (.e (.nilchk (.r p3)))⟩, ⟨(some p5), none, (.e (.fa 1 (.r p4)))⟩, ⟨(some p6), none, (.e (.ld (.r p5)))⟩, ⟨(some p7), none, (.c (.f 174 [(.r p6), (.c (.fn (.func 177) [] []))]))⟩, ⟨(some p2), none, (.e (.mv (.r p7)))⟩]) .ret))
theorem I133_0 (E : Env) : Is E C133_0 (retK3 R133) (fun σ h => J133_0 E (σ p0) h) :=
  fun σ h => by kernel_rfl
def D133 : DF := ⟨1, 8, C133_0, R133⟩
noncomputable def S133 (E : Env) : Fun := fun args h => aS args fun r0 args => a0 args (J133_0 E r0 h)
theorem S133_eq (E : Env) (args : List DV) (h : H) : runFn E D133 args h = S133 E args h :=
  Is.fn1 (d := D133) (I133_0 E) rfl (fun r0 h => J133_0 E r0 h) (fun r0 h => by kernel_rfl) args h
/- (*hurdle/frags.Frags).steps -/
def R134 : List RV := [(.r p6)]
noncomputable def J134_1 (E : Env) (h : H) : Ans :=
  some ((.int .i64 (.ofNat 0)), h)
def C134_1 : DC := (.seq (.reg [⟨(some p6), none, (.e (.mv (.c (.int .i64 (.ofNat 0)))))⟩]) .ret)
noncomputable def J134_3 (E : Env) (i2 : DV → H → Ans) (r12 : DV) (h : H) : Ans :=
  vK (v_add r12 (.int .i64 (.ofNat 1))) fun x1 =>
  i2 x1 h
def C134_3 : DC := (.reg [⟨(some p32), none, (.e (.bin .add (.r p12) (.c (.int .i64 (.ofNat 1)))))⟩, ⟨(some p12), none, (.e (.mv (.r p32)))⟩])
noncomputable def J134_4 (E : Env) (i2 : DV → H → Ans) (r0 r9 r12 : DV) (h : H) : Ans :=
  vK (v_neq r9 (.int .i64 (.ofNat 0))) fun x1 =>
  bK x1
  (vK (v_nilchk r0) fun x2 =>
  vK (v_fa 2 x2) fun x3 =>
  wK (dStF 1 x3 (.bool true) h) fun x4 h5 =>
  some (r9, h5))
  (J134_3 E i2 r12 h)
def C134_4 : DC := (.seq (.reg [⟨(some p26), none, (.e (.mv (.r p9)))⟩, ⟨(some p27), none, (.e (.bin .neq (.r p26) (.c (.int .i64 (.ofNat 0)))))⟩]) (.cond (.r p27) (.seq (.reg [⟨(some p28), none, (.e (.mv (.r p0)))⟩, ⟨(some p29), none, (.e (.nilchk (.r p28)))⟩, ⟨(some p30), none, (.e (.fa 2 (.r p29)))⟩, ⟨none, none, (.w (.st 1 (.r p30) (.c (.bool true))))⟩]) (.seq (.reg [⟨(some p31), none, (.e (.mv (.r p9)))⟩, ⟨(some p6), none, (.e (.mv (.r p31)))⟩]) .ret)) .skip))
noncomputable def B134_2 (E : Env) (r0 r1 r10 r11 : DV) (i2 : DV → H → Ans) (r12 : DV) (h : H) : Ans :=
  vK (v_lss r12 r11) fun x1 =>
  bK x1
  (vK (v_iaS 1 r10 r12) fun x2 =>
  vK (v_ld h.get x2) fun x3 =>
  vK (v_lss r1 (.int .i64 (.ofNat 0))) fun x4 =>
  gdK x4 false (fun kk => kk r12 h) h fun x5 h6 =>
  gdK x4 false (fun kk => kk r1 h6) h6 fun x7 h8 =>
  gdK x4 false (fun kk => vK (v_lss x5 x7) fun v => kk v h8) h8 fun x9 h10 =>
  vK (v_pick x4 (.bool true) x9) fun x11 =>
  bK x11
  (wK (c_val E x3 [] h10) fun x12 h13 =>
  J134_4 E i2 r0 x12 r12 h13)
  (J134_4 E i2 r0 (.int .i64 (.ofNat 16)) r12 h10))
  (J134_1 E h)
noncomputable def L134_2 (E : Env) (r0 r1 r10 r11 : DV) (n : Nat) : DV → H → Ans := Nat.rec (motive := fun _ => DV → H → Ans) (fun _ _ => none) (fun _ i => B134_2 E r0 r1 r10 r11 i) n
def C134_2 : DC := (.loop (.seq (.reg [⟨(some p13), none, (.e (.bin .lss (.r p12) (.r p11)))⟩]) (.seq (.cond (.r p13) .skip (.exit 0)) (.seq (.block 1 (.seq (.reg [⟨(some p14), none, (.e (.mv (.r p12)))⟩, ⟨(some p15), none, (.e (.iaS 1 (.r p10) (.r p12)))⟩, ⟨(some p16), none, (.e (.ld (.r p15)))⟩, ⟨(some p7), none, (.e (.mv (.r p14)))⟩, ⟨(some p8), none, (.e (.mv (.r p16)))⟩]) (.seq (.reg [⟨(some p9), none, (.e (.mv (.c (.int .i64 (.ofNat 16)))))⟩]) (.seq (.seq (.reg [⟨(some p17), none, (.e (.mv (.r p1)))⟩, ⟨(some p18), none, (.e (.bin .lss (.r p17) (.c (.int .i64 (.ofNat 0)))))⟩, ⟨(some p19), none, (.e (.mv (.r p18)))⟩, ⟨(some p20), (some (p19, false)), (.e (.mv (.r p7)))⟩, ⟨(some p21), (some (p19, false)), (.e (.mv (.r p1)))⟩, ⟨(some p22), (some (p19, false)), (.e (.bin .lss (.r p20) (.r p21)))⟩, ⟨(some p23), none, (.e (.pick (.r p19) (.c (.bool true)) (.r p22)))⟩]) (.cond (.r p23) (.reg [⟨(some p24), none, (.e (.mv (.r p8)))⟩, ⟨(some p25), none, (.c (.v (.r p24) []))⟩, ⟨(some p9), none, (.e (.mv (.r p25)))⟩]) .skip)) C134_4)))) C134_3))))
noncomputable def J134_0 (E : Env) (r0 r1 r2 : DV) (h : H) : Ans :=
  vK (v_lenL r2) fun x1 =>
  L134_2 E r0 r1 r2 x1 FUEL (.int .i64 (.ofNat 0)) h
def C134_0 : DC := (.seq (.reg [⟨(some p6), none, (.e (.mv (.c (.int .i64 (.ofNat 0)))))⟩]) (.seq (.seq (.reg [⟨(some p10), none, (.e (.mv (.r p2)))⟩, ⟨(some p11), none, (.e (.lenL (.r p10)))⟩, ⟨(some p12), none, (.e (.mv (.c (.int .i64 (.ofNat 0)))))⟩]) (.block 0 C134_2)) C134_1))
theorem I134_1 (E : Env) : Is E C134_1 (retK3 R134) (fun σ h => J134_1 E h) :=
  fun σ h => by kernel_rfl
noncomputable abbrev K134_5 (E : Env) : KT2 (DV × H) := (blockK3 0 (thenK3 (fun σ h => J134_1 E h) (retK3 R134)))
noncomputable abbrev K134_6 (E : Env) (n2 : Nat) : KT2 (DV × H) := (thenK3 (fun σ h => (L134_2 E (σ p0) (σ p1) (σ p10) (σ p11) n2) (σ p12) h) (K134_5 E))
theorem I134_3 (E : Env) (n2 : Nat) : Is E C134_3 (K134_6 E n2) (fun σ h => J134_3 E (L134_2 E (σ p0) (σ p1) (σ p10) (σ p11) n2) (σ p12) h) :=
  fun σ h => by kernel_rfl
noncomputable abbrev K134_7 (E : Env) (n2 : Nat) : KT2 (DV × H) := (thenK3 (fun σ h => J134_3 E (L134_2 E (σ p0) (σ p1) (σ p10) (σ p11) n2) (σ p12) h) (K134_6 E n2))
theorem I134_4 (E : Env) (n2 : Nat) : Is E C134_4 (blockK3 1 (K134_7 E n2)) (fun σ h => J134_4 E (L134_2 E (σ p0) (σ p1) (σ p10) (σ p11) n2) (σ p0) (σ p9) (σ p12) h) :=
  fun σ h => by kernel_rfl
theorem I134_2 (E : Env) : Is E C134_2 (K134_5 E) (fun σ h => L134_2 E (σ p0) (σ p1) (σ p10) (σ p11) FUEL (σ p12) h) :=
  Is.loop (fun n2 σ h => L134_2 E (σ p0) (σ p1) (σ p10) (σ p11) n2 (σ p12) h) (by kernel_rfl) fun n2 => Is.as (Is.seq (Is.seq (Is.seq (I134_3 E n2) (Is.block (Is.seq (Is.seq (Is.seq (I134_4 E n2) (Is.leaf _)) (Is.leaf _)) (Is.leaf _)))) (Is.leaf _)) (Is.leaf _)) fun σ h => by kernel_rfl
theorem I134_0 (E : Env) : Is E C134_0 (retK3 R134) (fun σ h => J134_0 E (σ p0) (σ p1) (σ p2) h) :=
  Is.as (Is.seq (Is.seq (I134_1 E) (Is.seq (Is.block (I134_2 E)) (Is.leaf _))) (Is.leaf _)) fun σ h => by kernel_rfl
def D134 : DF := ⟨3, 33, C134_0, R134⟩
noncomputable def S134 (E : Env) : Fun := fun args h => aS args fun r0 args => aS args fun r1 args => aS args fun r2 args => a0 args (J134_0 E r0 r1 r2 h)
theorem S134_eq (E : Env) (args : List DV) (h : H) : runFn E D134 args h = S134 E args h :=
  Is.fn3 (d := D134) (I134_0 E) rfl (fun r0 r1 r2 h => J134_0 E r0 r1 r2 h) (fun r0 r1 r2 h => by kernel_rfl) args h
/- (*hurdle/frags.Frags).write -/
def R135 : List RV := [(.r p6)]
noncomputable def J135_0 (E : Env) (r0 r1 r2 : DV) (h : H) : Ans :=
  n_box r0 h fun x1 h2 =>
  n_box r1 h2 fun x3 h4 =>
  n_box r2 h4 fun x5 h6 =>
  some ((.fn (.func 178) [] [x1, x3, x5]), h6)
def C135_0 : DC := (.seq (.reg [⟨(some p3), none, (.e (.box (.r p0)))⟩, ⟨(some p4), none, (.e (.box (.r p1)))⟩, ⟨(some p5), none, (.e (.box (.r p2)))⟩, ⟨(some p6), none, (.e (.mv (.c .nilf)))⟩]) (.seq (.reg [⟨(some p7), none, (.e (.mkF (.func 178) [] [(.r p3), (.r p4), (.r p5)]))⟩, ⟨(some p6), none, (.e (.mv (.r p7)))⟩]) .ret))
theorem I135_0 (E : Env) : Is E C135_0 (retK3 R135) (fun σ h => J135_0 E (σ p0) (σ p1) (σ p2) h) :=
  fun σ h => by kernel_rfl
def D135 : DF := ⟨3, 8, C135_0, R135⟩
noncomputable def S135 (E : Env) : Fun := fun args h => aS args fun r0 args => aS args fun r1 args => aS args fun r2 args => a0 args (J135_0 E r0 r1 r2 h)
theorem S135_eq (E : Env) (args : List DV) (h : H) : runFn E D135 args h = S135 E args h :=
  Is.fn3 (d := D135) (I135_0 E) rfl (fun r0 r1 r2 h => J135_0 E r0 r1 r2 h) (fun r0 r1 r2 h => by kernel_rfl) args h
/- (*hurdle/frags.Frags).flush -/
def R136 : List RV := [(.r p2)]
noncomputable def J136_0 (E : Env) (r0 : DV) (h : H) : Ans :=
  vK (v_nilchk r0) fun x1 =>
  vK (v_fa 0 x1) fun x2 =>
  vK (v_ld h.get x2) fun x3 =>
  wK (callK E 180 [x3] h) fun x4 h5 =>
  some ((.int .i64 (.ofNat 0)), h5)
def C136_0 : DC := (.seq (.reg [⟨(some p2), none, (.e (.mv (.c (.int .i64 (.ofNat 0)))))⟩]) (.seq (.reg [⟨(some p3), none, (.e (.mv (.r p0)))⟩, ⟨(some p4), none, (.e (.nilchk (.r p3)))⟩, ⟨(some p5), none, (.e (.fa 0 (.r p4)))⟩, ⟨(some p6), none, (.e (.ld (.r p5)))⟩, ⟨(some p7), none, (.c (.f 180 [(.r p6)]))⟩]) (.seq (.reg [⟨(some p2), none, (.e (.mv (.c (.int .i64 (.ofNat 0)))))⟩]) .ret)))
theorem I136_0 (E : Env) : Is E C136_0 (retK3 R136) (fun σ h => J136_0 E (σ p0) h) :=
  fun σ h => by kernel_rfl
def D136 : DF := ⟨1, 8, C136_0, R136⟩
noncomputable def S136 (E : Env) : Fun := fun args h => aS args fun r0 args => a0 args (J136_0 E r0 h)
theorem S136_eq (E : Env) (args : List DV) (h : H) : runFn E D136 args h = S136 E args h :=
  Is.fn1 (d := D136) (I136_0 E) rfl (fun r0 h => J136_0 E r0 h) (fun r0 h => by kernel_rfl) args h
/- hurdle/frags.head -/
def R137 : List RV := [(.r p4)]
noncomputable def J137_0 (E : Env) (r0 r1 : DV) (h : H) : Ans :=
  n_box r0 h fun x1 h2 =>
  vK (v_fa 0 x1) fun x3 =>
  vK (v_ld h2.get x3) fun x4 =>
  vK (v_conv .u32 x4) fun x5 =>
  vK (v_fa 1 x1) fun x6 =>
  vK (v_ld h2.get x6) fun x7 =>
  vK (v_conv .u32 x7) fun x8 =>
  vK (v_lenS r1) fun x9 =>
  vK (v_conv .u32 x9) fun x10 =>
  wK (callK E 181 [x5] h2) fun x11 h12 =>
  rK (rcK (v_ld h12.get x6) x7) <|
  vK (v_add (.str [72, 70, 82, 71]) x11) fun x13 =>
  wK (callK E 181 [x8] h12) fun x14 h15 =>
  vK (v_add x13 x14) fun x16 =>
  wK (callK E 181 [x10] h15) fun x17 h18 =>
  vK (v_add x16 x17) fun x19 =>
  wK (callK E 182 [r1] h18) fun x20 h21 =>
  wK (callK E 181 [x20] h21) fun x22 h23 =>
  vK (v_add x19 x22) fun x24 =>
  wK (callK E 82 [x24, (.int .i64 (.ofNat 60))] h23) fun x25 h26 =>
  vK (v_ext 0 x25) fun x27 =>
  vK (v_ext 1 x25) fun x28 =>
  wK (callK E 183 [x27] h26) fun x29 h30 =>
  some (x29, h30)
def C137_0 : DC := (.seq (.reg [⟨(some p2), none, (.e (.box (.r p0)))⟩, ⟨(some p4), none, (.e (.mv (.c (.str []))))⟩]) (.seq (.drg [⟨0, ⟨(some p8), none, (.e (.fa 0 (.r p2)))⟩, [], false⟩, ⟨1, ⟨(some p9), none, (.e (.ld (.r p8)))⟩, [], false⟩, ⟨2, ⟨(some p10), none, (.e (.conv .u32 (.r p9)))⟩, [], false⟩, ⟨5, ⟨(some p13), none, (.e (.fa 1 (.r p2)))⟩, [], false⟩, ⟨6, ⟨(some p14), none, (.e (.ld (.r p13)))⟩, [], false⟩, ⟨7, ⟨(some p15), none, (.e (.conv .u32 (.r p14)))⟩, [], false⟩, ⟨10, ⟨(some p18), none, (.e (.mv (.r p1)))⟩, [], false⟩, ⟨11, ⟨(some p19), none, (.e (.lenS (.r p18)))⟩, [], false⟩, ⟨12, ⟨(some p20), none, (.e (.conv .u32 (.r p19)))⟩, [], false⟩, ⟨15, ⟨(some p23), none, (.e (.mv (.r p1)))⟩, [], false⟩, ⟨3, ⟨(some p11), none, (.c (.f 181 [(.r p10)]))⟩, [6], false⟩, ⟨4, ⟨(some p12), none, (.e (.bin .add (.c (.str [72, 70, 82, 71])) (.r p11)))⟩, [], false⟩, ⟨8, ⟨(some p16), none, (.c (.f 181 [(.r p15)]))⟩, [], false⟩, ⟨9, ⟨(some p17), none, (.e (.bin .add (.r p12) (.r p16)))⟩, [], false⟩, ⟨13, ⟨(some p21), none, (.c (.f 181 [(.r p20)]))⟩, [], false⟩, ⟨14, ⟨(some p22), none, (.e (.bin .add (.r p17) (.r p21)))⟩, [], false⟩, ⟨16, ⟨(some p24), none, (.c (.f 182 [(.r p23)]))⟩, [], false⟩, ⟨17, ⟨(some p25), none, (.c (.f 181 [(.r p24)]))⟩, [], false⟩, ⟨18, ⟨(some p26), none, (.e (.bin .add (.r p22) (.r p25)))⟩, [], false⟩, ⟨19, ⟨(some p27), none, (.c (.f 82 [(.r p26), (.c (.int .i64 (.ofNat 60)))]))⟩, [], false⟩, ⟨20, ⟨(some p7), none, (.e (.mv (.r p27)))⟩, [], false⟩, ⟨21, ⟨(some p28), none, (.e (.ext 0 (.r p7)))⟩, [], false⟩, ⟨22, ⟨(some p29), none, (.e (.ext 1 (.r p7)))⟩, [], false⟩, ⟨23, ⟨(some p5), none, (.e (.mv (.r p28)))⟩, [], false⟩, ⟨24, ⟨(some p6), none, (.e (.mv (.r p29)))⟩, [], false⟩]) (.seq (.reg [⟨(some p30), none, (.e (.mv (.r p5)))⟩, ⟨(some p31), none, (.c (.f 183 [(.r p30)]))⟩, ⟨(some p4), none, (.e (.mv (.r p31)))⟩]) .ret)))
theorem I137_0 (E : Env) : Is E C137_0 (retK3 R137) (fun σ h => J137_0 E (σ p0) (σ p1) h) :=
  fun σ h => by kernel_rfl
def D137 : DF := ⟨2, 32, C137_0, R137⟩
noncomputable def S137 (E : Env) : Fun := fun args h => aS args fun r0 args => aS args fun r1 args => a0 args (J137_0 E r0 r1 h)
theorem S137_eq (E : Env) (args : List DV) (h : H) : runFn E D137 args h = S137 E args h :=
  Is.fn2 (d := D137) (I137_0 E) rfl (fun r0 r1 h => J137_0 E r0 r1 h) (fun r0 r1 h => by kernel_rfl) args h
/- (*hurdle/smap.Map).at -/
def R142 : List RV := [(.r p4)]
noncomputable def J142_0 (E : Env) (r0 r1 : DV) (h : H) : Ans :=
  vK (v_eqv .ptr false h.get r0 .nilp) fun x1 =>
  gdK x1 false (fun kk => kk r1 h) h fun x2 h3 =>
  gdK x1 false (fun kk => vK (v_lss x2 (.int .i64 (.ofNat 0))) fun v => kk v h3) h3 fun x4 h5 =>
  vK (v_pick x1 (.bool true) x4) fun x6 =>
  gdK x6 false (fun kk => kk r1 h5) h5 fun x7 h8 =>
  gdK x6 false (fun kk => kk r0 h8) h8 fun x9 h10 =>
  gdK x6 false (fun kk => vK (v_nilchk x9) fun v => kk v h10) h10 fun x11 h12 =>
  gdK x6 false (fun kk => vK (v_fa 0 x11) fun v => kk v h12) h12 fun x13 h14 =>
  gdK x6 false (fun kk => vK (v_ld h14.get x13) fun v => kk v h14) h14 fun x15 h16 =>
  gdK x6 false (fun kk => vK (v_lenL x15) fun v => kk v h16) h16 fun x17 h18 =>
  gdK x6 false (fun kk => vK (v_geq x7 x17) fun v => kk v h18) h18 fun x19 h20 =>
  vK (v_pick x6 (.bool true) x19) fun x21 =>
  bK x21
  (some (.nilp, h20))
  (vK (v_nilchk r0) fun x22 =>
  vK (v_fa 0 x22) fun x23 =>
  vK (v_ld h20.get x23) fun x24 =>
  vK (v_iaS 6 x24 r1) fun x25 =>
  some (x25, h20))
def C142_0 : DC := (.seq (.reg [⟨(some p4), none, (.e (.mv (.c .nilp)))⟩]) (.seq (.seq (.reg [⟨(some p5), none, (.e (.mv (.r p0)))⟩, ⟨(some p6), none, (.e (.eqv .ptr false (.r p5) (.c .nilp)))⟩, ⟨(some p7), none, (.e (.mv (.r p6)))⟩, ⟨(some p8), (some (p7, false)), (.e (.mv (.r p1)))⟩, ⟨(some p9), (some (p7, false)), (.e (.bin .lss (.r p8) (.c (.int .i64 (.ofNat 0)))))⟩, ⟨(some p10), none, (.e (.pick (.r p7) (.c (.bool true)) (.r p9)))⟩, ⟨(some p11), none, (.e (.mv (.r p10)))⟩, ⟨(some p12), (some (p11, false)), (.e (.mv (.r p1)))⟩, ⟨(some p13), (some (p11, false)), (.e (.mv (.r p0)))⟩, ⟨(some p14), (some (p11, false)), (.e (.nilchk (.r p13)))⟩, ⟨(some p15), (some (p11, false)), (.e (.fa 0 (.r p14)))⟩, ⟨(some p16), (some (p11, false)), (.e (.ld (.r p15)))⟩, ⟨(some p17), (some (p11, false)), (.e (.lenL (.r p16)))⟩, ⟨(some p18), (some (p11, false)), (.e (.bin .geq (.r p12) (.r p17)))⟩, ⟨(some p19), none, (.e (.pick (.r p11) (.c (.bool true)) (.r p18)))⟩]) (.cond (.r p19) (.seq (.reg [⟨(some p4), none, (.e (.mv (.c .nilp)))⟩]) .ret) .skip)) (.seq (.reg [⟨(some p20), none, (.e (.mv (.r p0)))⟩, ⟨(some p21), none, (.e (.nilchk (.r p20)))⟩, ⟨(some p22), none, (.e (.fa 0 (.r p21)))⟩, ⟨(some p23), none, (.e (.ld (.r p22)))⟩, ⟨(some p24), none, (.e (.mv (.r p1)))⟩, ⟨(some p25), none, (.e (.iaS 6 (.r p23) (.r p24)))⟩, ⟨(some p4), none, (.e (.mv (.r p25)))⟩]) .ret)))
theorem I142_0 (E : Env) : Is E C142_0 (retK3 R142) (fun σ h => J142_0 E (σ p0) (σ p1) h) :=
  fun σ h => by kernel_rfl
def D142 : DF := ⟨2, 26, C142_0, R142⟩
noncomputable def S142 (E : Env) : Fun := fun args h => aS args fun r0 args => aS args fun r1 args => a0 args (J142_0 E r0 r1 h)
theorem S142_eq (E : Env) (args : List DV) (h : H) : runFn E D142 args h = S142 E args h :=
  Is.fn2 (d := D142) (I142_0 E) rfl (fun r0 r1 h => J142_0 E r0 r1 h) (fun r0 r1 h => by kernel_rfl) args h
/- slices.Clone[[]int,int] -/
def R143 : List RV := [(.r p2)]
noncomputable def J143_0 (E : Env) (r0 : DV) (h : H) : Ans :=
  vK (v_eqv .nilL false h.get r0 .nils) fun x1 =>
  bK x1
  (some (.nils, h))
  (n_bsl 0 1 [(.int .i64 (.ofNat 0))] [] h fun x2 h3 =>
  wK (dAppendF 1 8 x2 r0 h3) fun x4 h5 =>
  some (x4, h5))
def C143_0 : DC := (.seq (.reg [⟨(some p2), none, (.e (.mv (.c .nils)))⟩]) (.seq (.seq (.reg [⟨(some p3), none, (.e (.mv (.r p0)))⟩, ⟨(some p4), none, (.e (.eqv .nilL false (.r p3) (.c .nils)))⟩]) (.cond (.r p4) (.seq (.reg [⟨(some p2), none, (.e (.mv (.c .nils)))⟩]) .ret) .skip)) (.seq (.reg [⟨(some p5), none, (.e (.bsl 0 1 [(.int .i64 (.ofNat 0))] []))⟩, ⟨(some p6), none, (.e (.mv (.r p0)))⟩, ⟨(some p7), none, (.w (.app 1 8 (.r p5) (.r p6)))⟩, ⟨(some p2), none, (.e (.mv (.r p7)))⟩]) .ret)))
theorem I143_0 (E : Env) : Is E C143_0 (retK3 R143) (fun σ h => J143_0 E (σ p0) h) :=
  fun σ h => by kernel_rfl
def D143 : DF := ⟨1, 8, C143_0, R143⟩
noncomputable def S143 (E : Env) : Fun := fun args h => aS args fun r0 args => a0 args (J143_0 E r0 h)
theorem S143_eq (E : Env) (args : List DV) (h : H) : runFn E D143 args h = S143 E args h :=
  Is.fn1 (d := D143) (I143_0 E) rfl (fun r0 h => J143_0 E r0 h) (fun r0 h => by kernel_rfl) args h
/- hurdle/frags.read -/
def R144 : List RV := [(.cells p2 4)]
noncomputable def J144_0 (E : Env) (r0 : DV) (h : H) : Ans :=
  n_alc 4 4 (.list [(.bool false), (.int .i64 (.ofNat 0)), (.int .i64 (.ofNat 0)), (.int .i64 (.ofNat 0))]) h fun x1 h2 =>
  vK (v_slS r0 none (some (.int .i64 (.ofNat 64)))) fun x3 =>
  vK (v_slS r0 (some (.int .i64 (.ofNat 64))) none) fun x4 =>
  vK (v_slS x3 (some (.int .i64 (.ofNat 4))) none) fun x5 =>
  vK (v_slS x3 (some (.int .i64 (.ofNat 8))) none) fun x6 =>
  vK (v_slS x3 (some (.int .i64 (.ofNat 12))) none) fun x7 =>
  n_alc 4 4 (.list [(.bool false), (.int .i64 (.ofNat 0)), (.int .i64 (.ofNat 0)), (.int .i64 (.ofNat 0))]) h2 fun x8 h9 =>
  wK (callK E 187 [x5] h9) fun x10 h11 =>
  wK (callK E 187 [x6] h11) fun x12 h13 =>
  vK (v_bld [(.int .i64 (.ofNat 0)), (.int .i64 (.ofNat 0))] [(0, 1, x10), (1, 1, x12)]) fun x14 =>
  wK (callK E 187 [x7] h13) fun x15 h16 =>
  vK (v_bld [(.bool false), (.int .i64 (.ofNat 0)), (.int .i64 (.ofNat 0)), (.int .i64 (.ofNat 0))] [(0, 1, (.bool true)), (1, 2, x14), (3, 1, x15)]) fun x17 =>
  wK (dStF 4 x8 x17 h16) fun x18 h19 =>
  vK (v_fa 1 x8) fun x20 =>
  vK (v_ldN 2 h19.get x20) fun x21 =>
  wK (callK E 132 [x21] h19) fun x22 h23 =>
  vK (v_not x22) fun x24 =>
  gdK x24 false (fun kk => vK (v_fa 3 x8) fun v => kk v h23) h23 fun x25 h26 =>
  gdK x24 false (fun kk => vK (v_ld h26.get x25) fun v => kk v h26) h26 fun x27 h28 =>
  gdK x24 false (fun kk => vK (v_gtr x27 (.int .i64 (.ofNat 512))) fun v => kk v h28) h28 fun x29 h30 =>
  vK (v_pick x24 (.bool true) x29) fun x31 =>
  gdK x31 false (fun kk => vK (v_fa 1 x8) fun v => kk v h30) h30 fun x32 h33 =>
  gdK x31 false (fun kk => vK (v_ldN 2 h33.get x32) fun v => kk v h33) h33 fun x34 h35 =>
  gdK x31 false (fun kk => kk x4 h35) h35 fun x36 h37 =>
  gdK x31 false (fun kk => vK (v_fa 3 x8) fun v => kk v h37) h37 fun x38 h39 =>
  gdK x31 false (fun kk => vK (v_ld h39.get x38) fun v => kk v h39) h39 fun x40 h41 =>
  gdK x31 false (fun kk => vK (v_slS x36 none (some x40)) fun v => kk v h41) h41 fun x42 h43 =>
  gdK x31 false (fun kk => kk x3 h43) h43 fun x44 h45 =>
  gdK x31 false (fun kk => wK (callK E 137 [x34, x42] h45) kk) h45 fun x46 h47 =>
  gdK x31 false (fun kk => vK (v_neq x46 x44) fun v => kk v h47) h47 fun x48 h49 =>
  vK (v_pick x31 (.bool true) x48) fun x50 =>
  bK x50
  (vK (v_bld [(.bool false), (.int .i64 (.ofNat 0)), (.int .i64 (.ofNat 0)), (.int .i64 (.ofNat 0))] []) fun x51 =>
  wK (dStF 4 x1 x51 h49) fun x52 h53 =>
  vK (v_ldN 4 h53.get x1) fun x54 =>
  some (x54, h53))
  (vK (v_ldN 4 h49.get x8) fun x55 =>
  wK (dStF 4 x1 x55 h49) fun x56 h57 =>
  vK (v_ldN 4 h57.get x1) fun x58 =>
  some (x58, h57))
def C144_0 : DC := (.seq (.reg [⟨(some p2), none, (.e (.alc 4 4 (.list [(.bool false), (.int .i64 (.ofNat 0)), (.int .i64 (.ofNat 0)), (.int .i64 (.ofNat 0))])))⟩]) (.seq (.drg [⟨0, ⟨(some p6), none, (.e (.mv (.r p0)))⟩, [], false⟩, ⟨1, ⟨(some p7), none, (.e (.slS (.r p6) none (some (.c (.int .i64 (.ofNat 64))))))⟩, [], false⟩, ⟨2, ⟨(some p8), none, (.e (.mv (.r p0)))⟩, [], false⟩, ⟨3, ⟨(some p9), none, (.e (.slS (.r p8) (some (.c (.int .i64 (.ofNat 64)))) none))⟩, [], false⟩, ⟨4, ⟨(some p3), none, (.e (.mv (.r p7)))⟩, [], false⟩, ⟨5, ⟨(some p4), none, (.e (.mv (.r p9)))⟩, [], false⟩]) (.seq (.drg [⟨0, ⟨(some p10), none, (.e (.mv (.r p3)))⟩, [], false⟩, ⟨1, ⟨(some p11), none, (.e (.slS (.r p10) (some (.c (.int .i64 (.ofNat 4)))) none))⟩, [], false⟩, ⟨3, ⟨(some p13), none, (.e (.mv (.r p3)))⟩, [], false⟩, ⟨4, ⟨(some p14), none, (.e (.slS (.r p13) (some (.c (.int .i64 (.ofNat 8)))) none))⟩, [], false⟩, ⟨7, ⟨(some p17), none, (.e (.mv (.r p3)))⟩, [], false⟩, ⟨8, ⟨(some p18), none, (.e (.slS (.r p17) (some (.c (.int .i64 (.ofNat 12)))) none))⟩, [], false⟩, ⟨11, ⟨(some p5), none, (.e (.alc 4 4 (.list [(.bool false), (.int .i64 (.ofNat 0)), (.int .i64 (.ofNat 0)), (.int .i64 (.ofNat 0))])))⟩, [], false⟩, ⟨2, ⟨(some p12), none, (.c (.f 187 [(.r p11)]))⟩, [], false⟩, ⟨5, ⟨(some p15), none, (.c (.f 187 [(.r p14)]))⟩, [], false⟩, ⟨6, ⟨(some p16), none, (.e (.bld [(.int .i64 (.ofNat 0)), (.int .i64 (.ofNat 0))] [(0, 1, (.r p12)), (1, 1, (.r p15))]))⟩, [], false⟩, ⟨9, ⟨(some p19), none, (.c (.f 187 [(.r p18)]))⟩, [], false⟩, ⟨10, ⟨(some p20), none, (.e (.bld [(.bool false), (.int .i64 (.ofNat 0)), (.int .i64 (.ofNat 0)), (.int .i64 (.ofNat 0))] [(0, 1, (.c (.bool true))), (1, 2, (.r p16)), (3, 1, (.r p19))]))⟩, [], false⟩, ⟨12, ⟨none, none, (.w (.st 4 (.r p5) (.r p20)))⟩, [], false⟩]) (.seq (.seq (.drg [⟨0, ⟨(some p21), none, (.e (.fa 1 (.r p5)))⟩, [], false⟩, ⟨1, ⟨(some p22), none, (.e (.ldN 2 (.r p21)))⟩, [], false⟩, ⟨2, ⟨(some p23), none, (.c (.f 132 [(.r p22)]))⟩, [], false⟩, ⟨3, ⟨(some p24), none, (.e (.not (.r p23)))⟩, [], false⟩, ⟨4, ⟨(some p25), none, (.e (.mv (.r p24)))⟩, [], false⟩, ⟨5, ⟨(some p26), (some (p25, false)), (.e (.fa 3 (.r p5)))⟩, [], false⟩, ⟨6, ⟨(some p27), (some (p25, false)), (.e (.ld (.r p26)))⟩, [], false⟩, ⟨7, ⟨(some p28), (some (p25, false)), (.e (.bin .gtr (.r p27) (.c (.int .i64 (.ofNat 512)))))⟩, [], false⟩, ⟨8, ⟨(some p29), none, (.e (.pick (.r p25) (.c (.bool true)) (.r p28)))⟩, [], false⟩, ⟨9, ⟨(some p30), none, (.e (.mv (.r p29)))⟩, [], false⟩, ⟨10, ⟨(some p31), (some (p30, false)), (.e (.fa 1 (.r p5)))⟩, [], false⟩, ⟨11, ⟨(some p32), (some (p30, false)), (.e (.ldN 2 (.r p31)))⟩, [], false⟩, ⟨12, ⟨(some p33), (some (p30, false)), (.e (.mv (.r p4)))⟩, [], false⟩, ⟨13, ⟨(some p34), (some (p30, false)), (.e (.fa 3 (.r p5)))⟩, [], false⟩, ⟨14, ⟨(some p35), (some (p30, false)), (.e (.ld (.r p34)))⟩, [], false⟩, ⟨15, ⟨(some p36), (some (p30, false)), (.e (.slS (.r p33) none (some (.r p35))))⟩, [], false⟩, ⟨17, ⟨(some p38), (some (p30, false)), (.e (.mv (.r p3)))⟩, [], false⟩, ⟨16, ⟨(some p37), (some (p30, false)), (.c (.f 137 [(.r p32), (.r p36)]))⟩, [], false⟩, ⟨18, ⟨(some p39), (some (p30, false)), (.e (.bin .neq (.r p37) (.r p38)))⟩, [], false⟩, ⟨19, ⟨(some p40), none, (.e (.pick (.r p30) (.c (.bool true)) (.r p39)))⟩, [], false⟩]) (.cond (.r p40) (.seq (.reg [⟨(some p41), none, (.e (.bld [(.bool false), (.int .i64 (.ofNat 0)), (.int .i64 (.ofNat 0)), (.int .i64 (.ofNat 0))] []))⟩, ⟨none, none, (.w (.st 4 (.r p2) (.r p41)))⟩]) .ret) .skip)) (.seq (.reg [⟨(some p42), none, (.e (.ldN 4 (.r p5)))⟩, ⟨none, none, (.w (.st 4 (.r p2) (.r p42)))⟩]) .ret)))))
theorem I144_0 (E : Env) : Is E C144_0 (retK3 R144) (fun σ h => J144_0 E (σ p0) h) :=
  fun σ h => by kernel_rfl
def D144 : DF := ⟨1, 43, C144_0, R144⟩
noncomputable def S144 (E : Env) : Fun := fun args h => aS args fun r0 args => a0 args (J144_0 E r0 h)
theorem S144_eq (E : Env) (args : List DV) (h : H) : runFn E D144 args h = S144 E args h :=
  Is.fn1 (d := D144) (I144_0 E) rfl (fun r0 h => J144_0 E r0 h) (fun r0 h => by kernel_rfl) args h
/- hurdle/members.group -/
def R145 : List RV := [(.r p4)]
noncomputable def J145_0 (E : Env) (r0 r1 : DV) (h : H) : Ans :=
  vK (v_lenL r0) fun x1 =>
  vK (v_geq x1 (.int .i64 (.ofNat 2))) fun x2 =>
  gdK x2 true (fun kk => kk r0 h) h fun x3 h4 =>
  gdK x2 true (fun kk => vK (v_lenL x3) fun v => kk v h4) h4 fun x5 h6 =>
  gdK x2 true (fun kk => vK (v_leq x5 (.int .i64 (.ofNat 8))) fun v => kk v h6) h6 fun x7 h8 =>
  vK (v_pick x2 x7 (.bool false)) fun x9 =>
  gdK x9 true (fun kk => kk r0 h8) h8 fun x10 h11 =>
  gdK x9 true (fun kk => kk r1 h11) h11 fun x12 h13 =>
  gdK x9 true (fun kk => n_bsl 2 1 [.nils] [(0, 1, x10), (1, 1, x12)] h13 kk) h13 fun x14 h15 =>
  gdK x9 true (fun kk => wK (callK E 188 [x14] h15) kk) h15 fun x16 h17 =>
  vK (v_pick x9 x16 (.bool false)) fun x18 =>
  some (x18, h17)
def C145_0 : DC := (.seq (.reg [⟨(some p4), none, (.e (.mv (.c (.bool false))))⟩]) (.seq (.reg [⟨(some p5), none, (.e (.mv (.r p0)))⟩, ⟨(some p6), none, (.e (.lenL (.r p5)))⟩, ⟨(some p7), none, (.e (.bin .geq (.r p6) (.c (.int .i64 (.ofNat 2)))))⟩, ⟨(some p8), none, (.e (.mv (.r p7)))⟩, ⟨(some p9), (some (p8, true)), (.e (.mv (.r p0)))⟩, ⟨(some p10), (some (p8, true)), (.e (.lenL (.r p9)))⟩, ⟨(some p11), (some (p8, true)), (.e (.bin .leq (.r p10) (.c (.int .i64 (.ofNat 8)))))⟩, ⟨(some p12), none, (.e (.pick (.r p8) (.r p11) (.c (.bool false))))⟩, ⟨(some p13), none, (.e (.mv (.r p12)))⟩, ⟨(some p14), (some (p13, true)), (.e (.mv (.r p0)))⟩, ⟨(some p15), (some (p13, true)), (.e (.mv (.r p1)))⟩, ⟨(some p16), (some (p13, true)), (.e (.bsl 2 1 [.nils] [(0, 1, (.r p14)), (1, 1, (.r p15))]))⟩, ⟨(some p17), (some (p13, true)), (.c (.f 188 [(.r p16)]))⟩, ⟨(some p18), none, (.e (.pick (.r p13) (.r p17) (.c (.bool false))))⟩, ⟨(some p4), none, (.e (.mv (.r p18)))⟩]) .ret))
theorem I145_0 (E : Env) : Is E C145_0 (retK3 R145) (fun σ h => J145_0 E (σ p0) (σ p1) h) :=
  fun σ h => by kernel_rfl
def D145 : DF := ⟨2, 19, C145_0, R145⟩
noncomputable def S145 (E : Env) : Fun := fun args h => aS args fun r0 args => aS args fun r1 args => a0 args (J145_0 E r0 r1 h)
theorem S145_eq (E : Env) (args : List DV) (h : H) : runFn E D145 args h = S145 E args h :=
  Is.fn2 (d := D145) (I145_0 E) rfl (fun r0 r1 h => J145_0 E r0 r1 h) (fun r0 r1 h => by kernel_rfl) args h
/- hurdle/members.list -/
def R146 : List RV := [(.r p2)]
noncomputable def J146_0 (E : Env) (r0 : DV) (h : H) : Ans :=
  vK (v_lenL r0) fun x1 =>
  n_mks 1 8 (.int .i64 (.ofNat 0)) x1 x1 h fun x2 h3 =>
  wK (dCopyF 1 x2 r0 h3) fun x4 h5 =>
  some (x2, h5)
def C146_0 : DC := (.seq (.reg [⟨(some p2), none, (.e (.mv (.c .nils)))⟩]) (.seq (.reg [⟨(some p4), none, (.e (.mv (.r p0)))⟩, ⟨(some p5), none, (.e (.lenL (.r p4)))⟩, ⟨(some p6), none, (.e (.mks 1 8 (.int .i64 (.ofNat 0)) (.r p5) (.r p5)))⟩, ⟨(some p3), none, (.e (.mv (.r p6)))⟩]) (.seq (.reg [⟨(some p7), none, (.e (.mv (.r p3)))⟩, ⟨(some p8), none, (.e (.mv (.r p0)))⟩, ⟨(some p9), none, (.w (.cpy 1 (.r p7) (.r p8)))⟩]) (.seq (.reg [⟨(some p10), none, (.e (.mv (.r p3)))⟩, ⟨(some p2), none, (.e (.mv (.r p10)))⟩]) .ret))))
theorem I146_0 (E : Env) : Is E C146_0 (retK3 R146) (fun σ h => J146_0 E (σ p0) h) :=
  fun σ h => by kernel_rfl
def D146 : DF := ⟨1, 11, C146_0, R146⟩
noncomputable def S146 (E : Env) : Fun := fun args h => aS args fun r0 args => a0 args (J146_0 E r0 h)
theorem S146_eq (E : Env) (args : List DV) (h : H) : runFn E D146 args h = S146 E args h :=
  Is.fn1 (d := D146) (I146_0 E) rfl (fun r0 h => J146_0 E r0 h) (fun r0 h => by kernel_rfl) args h
/- hurdle/layout.group -/
def R147 : List RV := [(.r p2)]
noncomputable def J147_1 (E : Env) (h : H) : Ans :=
  some ((.bool true), h)
def C147_1 : DC := (.seq (.reg [⟨(some p2), none, (.e (.mv (.c (.bool true))))⟩]) .ret)
noncomputable def B147_2 (E : Env) (r0 r13 r14 : DV) (i2 : DV → H → Ans) (r15 : DV) (h : H) : Ans :=
  vK (v_lss r15 r14) fun x1 =>
  bK x1
  (vK (v_iaS 1 r13 r15) fun x2 =>
  vK (v_ld h.get x2) fun x3 =>
  vK (v_lss x3 (.int .i64 (.ofNat 0))) fun x4 =>
  gdK x4 false (fun kk => kk x3 h) h fun x5 h6 =>
  gdK x4 false (fun kk => vK (v_gtr x5 (.int .i64 (.ofNat 63))) fun v => kk v h6) h6 fun x7 h8 =>
  vK (v_pick x4 (.bool true) x7) fun x9 =>
  gdK x9 false (fun kk => kk r0 h8) h8 fun x10 h11 =>
  gdK x9 false (fun kk => kk r15 h11) h11 fun x12 h13 =>
  gdK x9 false (fun kk => vK (v_slL 1 x10 none (some x12)) fun v => kk v h13) h13 fun x14 h15 =>
  gdK x9 false (fun kk => kk x3 h15) h15 fun x16 h17 =>
  gdK x9 false (fun kk => wK (callK E 66 [x14, x16] h17) kk) h17 fun x18 h19 =>
  vK (v_pick x9 (.bool true) x18) fun x20 =>
  bK x20
  (some ((.bool false), h19))
  (vK (v_add r15 (.int .i64 (.ofNat 1))) fun x21 =>
  i2 x21 h19))
  (J147_1 E h)
noncomputable def L147_2 (E : Env) (r0 r13 r14 : DV) (n : Nat) : DV → H → Ans := Nat.rec (motive := fun _ => DV → H → Ans) (fun _ _ => none) (fun _ i => B147_2 E r0 r13 r14 i) n
def C147_2 : DC := (.loop (.seq (.reg [⟨(some p16), none, (.e (.bin .lss (.r p15) (.r p14)))⟩]) (.seq (.cond (.r p16) .skip (.exit 0)) (.seq (.block 1 (.seq (.reg [⟨(some p17), none, (.e (.mv (.r p15)))⟩, ⟨(some p18), none, (.e (.iaS 1 (.r p13) (.r p15)))⟩, ⟨(some p19), none, (.e (.ld (.r p18)))⟩, ⟨(some p3), none, (.e (.mv (.r p17)))⟩, ⟨(some p4), none, (.e (.mv (.r p19)))⟩]) (.seq (.reg [⟨(some p20), none, (.e (.mv (.r p4)))⟩, ⟨(some p21), none, (.e (.bin .lss (.r p20) (.c (.int .i64 (.ofNat 0)))))⟩, ⟨(some p22), none, (.e (.mv (.r p21)))⟩, ⟨(some p23), (some (p22, false)), (.e (.mv (.r p4)))⟩, ⟨(some p24), (some (p22, false)), (.e (.bin .gtr (.r p23) (.c (.int .i64 (.ofNat 63)))))⟩, ⟨(some p25), none, (.e (.pick (.r p22) (.c (.bool true)) (.r p24)))⟩, ⟨(some p26), none, (.e (.mv (.r p25)))⟩, ⟨(some p27), (some (p26, false)), (.e (.mv (.r p0)))⟩, ⟨(some p28), (some (p26, false)), (.e (.mv (.r p3)))⟩, ⟨(some p29), (some (p26, false)), (.e (.slL 1 (.r p27) none (some (.r p28))))⟩, ⟨(some p30), (some (p26, false)), (.e (.mv (.r p4)))⟩, ⟨(some p31), (some (p26, false)), (.c (.f 66 [(.r p29), (.r p30)]))⟩, ⟨(some p32), none, (.e (.pick (.r p26) (.c (.bool true)) (.r p31)))⟩]) (.cond (.r p32) (.seq (.reg [⟨(some p2), none, (.e (.mv (.c (.bool false))))⟩]) .ret) .skip)))) (.reg [⟨(some p33), none, (.e (.bin .add (.r p15) (.c (.int .i64 (.ofNat 1)))))⟩, ⟨(some p15), none, (.e (.mv (.r p33)))⟩])))))
noncomputable def J147_0 (E : Env) (r0 : DV) (h : H) : Ans :=
  vK (v_lenL r0) fun x1 =>
  vK (v_lss x1 (.int .i64 (.ofNat 2))) fun x2 =>
  gdK x2 false (fun kk => kk r0 h) h fun x3 h4 =>
  gdK x2 false (fun kk => vK (v_lenL x3) fun v => kk v h4) h4 fun x5 h6 =>
  gdK x2 false (fun kk => vK (v_gtr x5 (.int .i64 (.ofNat 8))) fun v => kk v h6) h6 fun x7 h8 =>
  vK (v_pick x2 (.bool true) x7) fun x9 =>
  bK x9
  (some ((.bool false), h8))
  (vK (v_lenL r0) fun x10 =>
  L147_2 E r0 r0 x10 FUEL (.int .i64 (.ofNat 0)) h8)
def C147_0 : DC := (.seq (.reg [⟨(some p2), none, (.e (.mv (.c (.bool false))))⟩]) (.seq (.seq (.reg [⟨(some p5), none, (.e (.mv (.r p0)))⟩, ⟨(some p6), none, (.e (.lenL (.r p5)))⟩, ⟨(some p7), none, (.e (.bin .lss (.r p6) (.c (.int .i64 (.ofNat 2)))))⟩, ⟨(some p8), none, (.e (.mv (.r p7)))⟩, ⟨(some p9), (some (p8, false)), (.e (.mv (.r p0)))⟩, ⟨(some p10), (some (p8, false)), (.e (.lenL (.r p9)))⟩, ⟨(some p11), (some (p8, false)), (.e (.bin .gtr (.r p10) (.c (.int .i64 (.ofNat 8)))))⟩, ⟨(some p12), none, (.e (.pick (.r p8) (.c (.bool true)) (.r p11)))⟩]) (.cond (.r p12) (.seq (.reg [⟨(some p2), none, (.e (.mv (.c (.bool false))))⟩]) .ret) .skip)) (.seq (.seq (.reg [⟨(some p13), none, (.e (.mv (.r p0)))⟩, ⟨(some p14), none, (.e (.lenL (.r p13)))⟩, ⟨(some p15), none, (.e (.mv (.c (.int .i64 (.ofNat 0)))))⟩]) (.block 0 C147_2)) C147_1)))
theorem I147_1 (E : Env) : Is E C147_1 (retK3 R147) (fun σ h => J147_1 E h) :=
  fun σ h => by kernel_rfl
noncomputable abbrev K147_3 (E : Env) : KT2 (DV × H) := (blockK3 0 (thenK3 (fun σ h => J147_1 E h) (retK3 R147)))
theorem I147_2 (E : Env) : Is E C147_2 (K147_3 E) (fun σ h => L147_2 E (σ p0) (σ p13) (σ p14) FUEL (σ p15) h) :=
  Is.loop (fun n2 σ h => L147_2 E (σ p0) (σ p13) (σ p14) n2 (σ p15) h) (by kernel_rfl) fun n2 => Is.as (Is.leaf _) fun σ h => by kernel_rfl
theorem I147_0 (E : Env) : Is E C147_0 (retK3 R147) (fun σ h => J147_0 E (σ p0) h) :=
  Is.as (Is.seq (Is.seq (Is.seq (I147_1 E) (Is.seq (Is.block (I147_2 E)) (Is.leaf _))) (Is.leaf _)) (Is.leaf _)) fun σ h => by kernel_rfl
def D147 : DF := ⟨1, 34, C147_0, R147⟩
noncomputable def S147 (E : Env) : Fun := fun args h => aS args fun r0 args => a0 args (J147_0 E r0 h)
theorem S147_eq (E : Env) (args : List DV) (h : H) : runFn E D147 args h = S147 E args h :=
  Is.fn1 (d := D147) (I147_0 E) rfl (fun r0 h => J147_0 E r0 h) (fun r0 h => by kernel_rfl) args h
noncomputable def fs1 : List FD := [⟨75, D75, S75⟩, ⟨76, D76, S76⟩, ⟨77, D77, S77⟩, ⟨78, D78, S78⟩, ⟨79, D79, S79⟩, ⟨80, D80, S80⟩, ⟨81, D81, S81⟩, ⟨82, D82, S82⟩, ⟨83, D83, S83⟩, ⟨84, D84, S84⟩, ⟨85, D85, S85⟩, ⟨87, D87, S87⟩, ⟨88, D88, S88⟩, ⟨89, D89, S89⟩, ⟨90, D90, S90⟩, ⟨94, D94, S94⟩, ⟨95, D95, S95⟩, ⟨96, D96, S96⟩, ⟨97, D97, S97⟩, ⟨98, D98, S98⟩, ⟨99, D99, S99⟩, ⟨100, D100, S100⟩, ⟨101, D101, S101⟩, ⟨102, D102, S102⟩, ⟨103, D103, S103⟩, ⟨104, D104, S104⟩, ⟨105, D105, S105⟩, ⟨106, D106, S106⟩, ⟨107, D107, S107⟩, ⟨108, D108, S108⟩, ⟨109, D109, S109⟩, ⟨110, D110, S110⟩, ⟨111, D111, S111⟩, ⟨112, D112, S112⟩, ⟨113, D113, S113⟩, ⟨114, D114, S114⟩, ⟨115, D115, S115⟩, ⟨116, D116, S116⟩, ⟨117, D117, S117⟩, ⟨118, D118, S118⟩, ⟨119, D119, S119⟩, ⟨120, D120, S120⟩, ⟨121, D121, S121⟩, ⟨124, D124, S124⟩, ⟨125, D125, S125⟩, ⟨126, D126, S126⟩, ⟨129, D129, S129⟩, ⟨130, D130, S130⟩, ⟨131, D131, S131⟩, ⟨132, D132, S132⟩, ⟨133, D133, S133⟩, ⟨134, D134, S134⟩, ⟨135, D135, S135⟩, ⟨136, D136, S136⟩, ⟨137, D137, S137⟩, ⟨142, D142, S142⟩, ⟨143, D143, S143⟩, ⟨144, D144, S144⟩, ⟨145, D145, S145⟩, ⟨146, D146, S146⟩, ⟨147, D147, S147⟩]
theorem fs1_eq : AllEq fs1 := ⟨S75_eq, ⟨S76_eq, ⟨S77_eq, ⟨S78_eq, ⟨S79_eq, ⟨S80_eq, ⟨S81_eq, ⟨S82_eq, ⟨S83_eq, ⟨S84_eq, ⟨S85_eq, ⟨S87_eq, ⟨S88_eq, ⟨S89_eq, ⟨S90_eq, ⟨S94_eq, ⟨S95_eq, ⟨S96_eq, ⟨S97_eq, ⟨S98_eq, ⟨S99_eq, ⟨S100_eq, ⟨S101_eq, ⟨S102_eq, ⟨S103_eq, ⟨S104_eq, ⟨S105_eq, ⟨S106_eq, ⟨S107_eq, ⟨S108_eq, ⟨S109_eq, ⟨S110_eq, ⟨S111_eq, ⟨S112_eq, ⟨S113_eq, ⟨S114_eq, ⟨S115_eq, ⟨S116_eq, ⟨S117_eq, ⟨S118_eq, ⟨S119_eq, ⟨S120_eq, ⟨S121_eq, ⟨S124_eq, ⟨S125_eq, ⟨S126_eq, ⟨S129_eq, ⟨S130_eq, ⟨S131_eq, ⟨S132_eq, ⟨S133_eq, ⟨S134_eq, ⟨S135_eq, ⟨S136_eq, ⟨S137_eq, ⟨S142_eq, ⟨S143_eq, ⟨S144_eq, ⟨S145_eq, ⟨S146_eq, ⟨S147_eq, trivial⟩⟩⟩⟩⟩⟩⟩⟩⟩⟩⟩⟩⟩⟩⟩⟩⟩⟩⟩⟩⟩⟩⟩⟩⟩⟩⟩⟩⟩⟩⟩⟩⟩⟩⟩⟩⟩⟩⟩⟩⟩⟩⟩⟩⟩⟩⟩⟩⟩⟩⟩⟩⟩⟩⟩⟩⟩⟩⟩⟩⟩
end Go.Proofs.YtjofbahcdfjklaaGreat

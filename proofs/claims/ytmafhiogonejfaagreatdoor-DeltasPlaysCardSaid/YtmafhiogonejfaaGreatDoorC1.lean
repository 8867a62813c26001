/- More of the program's functions. No condition. -/
import Derived.Test.YtmafhiogonejfaaGreatDoorC0
set_option linter.unusedVariables false
noncomputable section
namespace Go.Proofs.YtmafhiogonejfaaGreatDoor
open Go.DI
variable (E : bG)
def aPO := cm 194
def bLJ := cr (cr (cr (cr (cr (cr (cr (cr (cr aPO.body))))))))
def aZb := cl (cl (cr (cr (cr (cr (cr (cr (cr (cr aPO.body)))))))))
def bLI := cr (cl (cr (cl aZb)))
def aPw (E : bG) (h : H) : aV := some ((.int .i64 (.negSucc 0)), h)
def aPv (E : bG) (r0 r1 r5 r7 r8 r10 : DV) (h : H) : aV := vK (bJ r8 (ii 1)) λ x1 => vK (gR r0 x1) λ x2 => vK (bZ x2 r7) λ x3 => bT x3 true (λ kk => kk r0 h) h λ x4 h5 => bT x3 true (λ kk => kk r8 h5) h5 λ x6 h7 => bT x3 true (λ kk => kk r8 h7) h7 λ x8 h9 => bT x3 true (λ kk => kk r5 h9) h9 λ x10 h11 => bT x3 true (λ kk => vK (bJ x8 x10) λ v => kk v h11) h11 λ x12 h13 => bT x3 true (λ kk => vK (gV x4 (some x6) (some x12)) λ v => kk v h13) h13 λ x14 h15 => bT x3 true (λ kk => kk r1 h15) h15 λ x16 h17 => bT x3 true (λ kk => vK (bZ x14 x16) λ v => kk v h17) h17 λ x18 h19 => vK (bF x3 x18 (.bool false)) λ x20 => bK x20 (some (r8, h19)) (vK (bJ r8 (ii 1)) λ x21 => vK (bJ r10 (ii 1)) λ x22 => none)
def bMP (r0 r1 r5 r6 r7 r9 : DV) (i2 : DV → DV → H → aV) (r8 r10 : DV) (h : H) : aV := vK (cW r8 r9) λ x1 => bK x1 (vK (gR r0 r8) λ x2 => vK (dB x2 r6) λ x3 => bK x3 (vK (bJ r8 (ii 1)) λ x4 => vK (gV r0 (some x4) (some r9)) λ x5 => wK (aE E 173 [x5, r6] h) λ x6 h7 => vK (cW x6 (ii 0)) λ x8 => bK x8 (some ((.int .i64 (.negSucc 0)), h7)) (vK (bJ x6 (ii 1)) λ x9 => vK (bJ r8 x9) λ x10 => aPv E r0 r1 r5 r7 x10 r10 h7)) (aPv E r0 r1 r5 r7 r8 r10 h)) (aPw E h)
def aPk (r0 r1 r5 r6 r7 r9 : DV) (n : Nat) : DV → DV → H → aV := Nat.rec (motive := λ _ => DV → DV → H → aV) (λ _ _ _ => none) (λ _ i => bMP E r0 r1 r5 r6 r7 r9 i) n
def aJd (r0 r1 : DV) (h : H) : aV := vK (cA r1) λ x1 => vK (bZ x1 (ii 0)) λ x2 => bT x2 false (λ kk => kk r1 h) h λ x3 h4 => bT x2 false (λ kk => kk r0 h4) h4 λ x5 h6 => bT x2 false (λ kk => vK (bZ x3 x5) λ v => kk v h6) h6 λ x7 h8 => vK (bF x2 (.bool true) x7) λ x9 => bK x9 (some ((ii 0), h8)) (vK (bZ x1 (ii 1)) λ x10 => bK x10 (vK (gR r1 (ii 0)) λ x11 => wK (aE E 173 [r0, x11] h8) λ x12 h13 => some (x12, h13)) (vK (cA r0) λ x14 => vK (oR x1 x14) λ x15 => bK x15 (some ((.int .i64 (.negSucc 0)), h8)) (none)))
theorem bHy : Is E bLJ (bU aPO.res) (λ σ h => aPw E h) := Is.rf
abbrev aYf : iF (DV × H) := (bV 1 (cP (λ σ h => aPw E h) (bU aPO.res)))
abbrev bGA (n2 : Nat) : iF (DV × H) := (cP (λ σ h => (aPk E (σ p0) (σ p1) (σ p5) (σ p6) (σ p7) (σ p9) n2) (σ p8) (σ p10) h) (aYf E))
theorem bHw (n2 : Nat) : Is E bLI (bV 2 (bGA E n2)) (λ σ h => aPv E (σ p0) (σ p1) (σ p5) (σ p7) (σ p8) (σ p10) h) := Is.rf
theorem bHx : Is E aZb (aYf E) (λ σ h => aPk E (σ p0) (σ p1) (σ p5) (σ p6) (σ p7) (σ p9) aT (σ p8) (σ p10) h) := Is.lp (λ n2 σ h => aPk E (σ p0) (σ p1) (σ p5) (σ p6) (σ p7) (σ p9) n2 (σ p8) (σ p10) h) λ n2 => Is.aq (Is.sq (Is.bk (Is.sq (bHw E n2) (Is.leaf _))) (Is.leaf _))
theorem bHz : kV E aPO (aJd E) := Is.aq (Is.sq (Is.sq (Is.sq (Is.sq (Is.sq (Is.sq (Is.sq (Is.sq (Is.sq (bHy E) (Is.bk (bHx E))) (Is.leaf _)) (Is.leaf _)) (Is.leaf _)) (Is.leaf _)) (Is.leaf _)) (Is.leaf _)) (Is.leaf _)) (Is.leaf _))
def aUs : cB := kR (aJd E)
theorem bAN : SQ aPO aUs := kW bHz
def bKD := cm 197
def aYA (E : bG) (r0 : DV) (h : H) : aV := vK (cA r0) λ x1 => vK (cW x1 (ii 1)) λ x2 => bK x2 (some ((.tup [(.int .i32 (.ofNat 65533)), (ii 0)]), h)) (vK (gR r0 (ii 0)) λ x3 => none)
theorem bHv : nT E bKD (aYA E) := Is.rf
def bGf : cB := nO (aYA E)
theorem bAM : SQ bKD bGf := nX bHv
def bKC := cm 199
def aYz (E : bG) (r0 : DV) (h : H) : aV := vK (bJ r0 (ii 16)) λ x1 => vK (aQx x1 (ii 8)) λ x2 => some (x2, h)
theorem bHu : nT E bKC (aYz E) := Is.rf
def bGe : cB := nO (aYz E)
theorem bAL : SQ bKC bGe := nX bHu
def aKr := cm 200
def aQm := cr (cr (cr (cr (cr aKr.body))))
def bLG := cr (cr aQm)
def bLF := cl (cr (cl (cr aQm)))
def bLH := cl (cr (cl (cr (cr (cr (cr aKr.body))))))
def aPt (E : bG) (h : H) : aV := some ((.int .i64 (.negSucc 0)), h)
def bMN (r0 r1 r5 r6 r7 : DV) (i4 : DV → DV → H → aV) (r8 r10 : DV) (h : H) : aV := vK (cA r0) λ x1 => vK (cW r10 x1) λ x2 => bK x2 (vK (aCl r8 (.int .u32 (.ofNat 16777619))) λ x3 => vK (gR r0 r10) λ x4 => vK (fG .u32 x4) λ x5 => vK (bJ x3 x5) λ x6 => vK (fE r10 r7) λ x7 => vK (gR r0 x7) λ x8 => vK (fG .u32 x8) λ x9 => vK (aCl r6 x9) λ x10 => vK (fE x6 x10) λ x11 => vK (bJ r10 (ii 1)) λ x12 => vK (bZ x11 r5) λ x13 => bT x13 true (λ kk => kk r0 h) h λ x14 h15 => bT x13 true (λ kk => kk x12 h15) h15 λ x16 h17 => bT x13 true (λ kk => kk r7 h17) h17 λ x18 h19 => bT x13 true (λ kk => vK (fE x16 x18) λ v => kk v h19) h19 λ x20 h21 => bT x13 true (λ kk => kk x12 h21) h21 λ x22 h23 => bT x13 true (λ kk => vK (gV x14 (some x20) (some x22)) λ v => kk v h23) h23 λ x24 h25 => bT x13 true (λ kk => kk r1 h25) h25 λ x26 h27 => bT x13 true (λ kk => vK (bZ x24 x26) λ v => kk v h27) h27 λ x28 h29 => vK (bF x13 x28 (.bool false)) λ x30 => bK x30 (vK (fE x12 r7) λ x31 => some (x31, h29)) (i4 x11 x12 h29)) (aPt E h)
def aPi (r0 r1 r5 r6 r7 : DV) (n : Nat) : DV → DV → H → aV := Nat.rec (motive := λ _ => DV → DV → H → aV) (λ _ _ _ => none) (λ _ i => bMN E r0 r1 r5 r6 r7 i) n
def aPu (r0 r1 r5 r6 r7 r8 : DV) (h : H) : aV := vK (bZ r8 r5) λ x1 => bT x1 true (λ kk => kk r0 h) h λ x2 h3 => bT x1 true (λ kk => kk r7 h3) h3 λ x4 h5 => bT x1 true (λ kk => vK (gV x2 none (some x4)) λ v => kk v h5) h5 λ x6 h7 => bT x1 true (λ kk => kk r1 h7) h7 λ x8 h9 => bT x1 true (λ kk => vK (bZ x6 x8) λ v => kk v h9) h9 λ x10 h11 => vK (bF x1 x10 (.bool false)) λ x12 => bK x12 (some ((ii 0), h11)) (aPi E r0 r1 r5 r6 r7 aT r8 r7 h11)
def bMO (r0 r1 r5 r6 r7 : DV) (i2 : DV → DV → H → aV) (r8 r9 : DV) (h : H) : aV := vK (cW r9 r7) λ x1 => bK x1 (vK (aCl r8 (.int .u32 (.ofNat 16777619))) λ x2 => vK (gR r0 r9) λ x3 => vK (fG .u32 x3) λ x4 => vK (bJ x2 x4) λ x5 => vK (bJ r9 (ii 1)) λ x6 => i2 x5 x6 h) (aPu E r0 r1 r5 r6 r7 r8 h)
def aPj (r0 r1 r5 r6 r7 : DV) (n : Nat) : DV → DV → H → aV := Nat.rec (motive := λ _ => DV → DV → H → aV) (λ _ _ _ => none) (λ _ i => bMO E r0 r1 r5 r6 r7 i) n
def aYy (r0 r1 : DV) (h : H) : aV := wK (aE E 201 [r1] h) λ x1 h2 => vK (aG 0 x1) λ x3 => vK (aG 1 x1) λ x4 => vK (cA r1) λ x5 => aPj E r0 r1 x3 x4 x5 aT (.int .u32 (.ofNat 0)) (ii 0) h2
theorem bHq : Is E bLG (bU aKr.res) (λ σ h => aPt E h) := Is.rf
abbrev bGz : iF (DV × H) := (bV 2 (cP (λ σ h => aPt E h) (bU aKr.res)))
theorem bHp : Is E bLF (bGz E) (λ σ h => aPi E (σ p0) (σ p1) (σ p5) (σ p6) (σ p7) aT (σ p8) (σ p10) h) := Is.lp (λ n4 σ h => aPi E (σ p0) (σ p1) (σ p5) (σ p6) (σ p7) n4 (σ p8) (σ p10) h) λ n4 => Is.aq (Is.leaf _)
theorem bHs : Is E aQm (bU aKr.res) (λ σ h => aPu E (σ p0) (σ p1) (σ p5) (σ p6) (σ p7) (σ p8) h) := Is.aq (Is.sq (Is.sq (bHq E) (Is.sq (Is.bk (bHp E)) (Is.leaf _))) (Is.leaf _))
abbrev bGy : iF (DV × H) := (cP (λ σ h => aPu E (σ p0) (σ p1) (σ p5) (σ p6) (σ p7) (σ p8) h) (bU aKr.res))
theorem bHr : Is E bLH (bV 0 (bGy E)) (λ σ h => aPj E (σ p0) (σ p1) (σ p5) (σ p6) (σ p7) aT (σ p8) (σ p9) h) := Is.lp (λ n2 σ h => aPj E (σ p0) (σ p1) (σ p5) (σ p6) (σ p7) n2 (σ p8) (σ p9) h) λ n2 => Is.aq (Is.leaf _)
theorem bHt : kV E aKr (aYy E) := Is.aq (Is.sq (Is.sq (Is.sq (Is.sq (Is.sq (bHs E) (Is.sq (Is.bk (bHr E)) (Is.leaf _))) (Is.leaf _)) (Is.leaf _)) (Is.leaf _)) (Is.leaf _))
def bGc : cB := kR (aYy E)
theorem bAK : SQ aKr bGc := kW bHt
def aKq := cm 201
def aQl := cr (cr (cr aKq.body))
def bLD := cr (cr aQl)
def aQk := cl (cr (cl (cr aQl)))
def bLC := cr (cr (cl aQk))
def bLB := cr (cl (cl (cr (cl aQk))))
def bLE := cl (cr (cl (cr (cr aKq.body))))
def aPr (E : bG) (r4 r6 : DV) (h : H) : aV := some ((.tup [r4, r6]), h)
def aPq (E : bG) (i4 : DV → DV → DV → H → aV) (r6 r7 r8 : DV) (h : H) : aV := vK (xT r8 (.int .u64 (.ofNat 1))) λ x1 => i4 r6 r7 x1 h
def aPp (i4 : DV → DV → DV → H → aV) (r6 r7 r8 : DV) (h : H) : aV := vK (aCl r7 r7) λ x1 => aPq E i4 r6 x1 r8 h
def bML (r4 : DV) (i4 : DV → DV → DV → H → aV) (r6 r7 r8 : DV) (h : H) : aV := vK (eF r8 (ii 0)) λ x1 => bK x1 (vK (aDA r8 (ii 1)) λ x2 => vK (dB x2 (ii 0)) λ x3 => bK x3 (vK (aCl r6 r7) λ x4 => aPp E i4 x4 r7 r8 h) (aPp E i4 r6 r7 r8 h)) (aPr E r4 r6 h)
def zD (r4 : DV) (n : Nat) : DV → DV → DV → H → aV := Nat.rec (motive := λ _ => DV → DV → DV → H → aV) (λ _ _ _ _ => none) (λ _ i => bML E r4 i) n
def aPs (r0 r4 : DV) (h : H) : aV := vK (cA r0) λ x1 => zD E r4 aT (.int .u32 (.ofNat 1)) (.int .u32 (.ofNat 16777619)) x1 h
def bMM (r0 : DV) (i2 : DV → DV → H → aV) (r4 r5 : DV) (h : H) : aV := vK (cA r0) λ x1 => vK (cW r5 x1) λ x2 => bK x2 (vK (aCl r4 (.int .u32 (.ofNat 16777619))) λ x3 => vK (gR r0 r5) λ x4 => vK (fG .u32 x4) λ x5 => vK (bJ x3 x5) λ x6 => vK (bJ r5 (ii 1)) λ x7 => i2 x6 x7 h) (aPs E r0 r4 h)
def aPh (r0 : DV) (n : Nat) : DV → DV → H → aV := Nat.rec (motive := λ _ => DV → DV → H → aV) (λ _ _ _ => none) (λ _ i => bMM E r0 i) n
def aYx (r0 : DV) (h : H) : aV := aPh E r0 aT (.int .u32 (.ofNat 0)) (ii 0) h
theorem bHl : Is E bLD (bU aKq.res) (λ σ h => aPr E (σ p4) (σ p6) h) := Is.rf
abbrev aYe : iF (DV × H) := (cP (λ σ h => aPr E (σ p4) (σ p6) h) (bU aKq.res))
abbrev aYd (n4 : Nat) : iF (DV × H) := (cP (λ σ h => (zD E (σ p4) n4) (σ p6) (σ p7) (σ p8) h) (bV 2 (aYe E)))
theorem bHj (n4 : Nat) : Is E bLC (aYd E n4) (λ σ h => aPq E (zD E (σ p4) n4) (σ p6) (σ p7) (σ p8) h) := Is.rf
abbrev bGx (n4 : Nat) : iF (DV × H) := (cP (λ σ h => aPq E (zD E (σ p4) n4) (σ p6) (σ p7) (σ p8) h) (aYd E n4))
theorem bHi (n4 : Nat) : Is E bLB (bV 3 (bGx E n4)) (λ σ h => aPp E (zD E (σ p4) n4) (σ p6) (σ p7) (σ p8) h) := Is.rf
theorem bHk : Is E aQk (bV 2 (aYe E)) (λ σ h => zD E (σ p4) aT (σ p6) (σ p7) (σ p8) h) := Is.lp (λ n4 σ h => zD E (σ p4) n4 (σ p6) (σ p7) (σ p8) h) λ n4 => Is.aq (Is.sq (Is.sq (bHj E n4) (Is.bk (Is.sq (bHi E n4) (Is.leaf _)))) (Is.leaf _))
theorem bHn : Is E aQl (bU aKq.res) (λ σ h => aPs E (σ p0) (σ p4) h) := Is.aq (Is.sq (Is.sq (bHl E) (Is.sq (Is.bk (bHk E)) (Is.leaf _))) (Is.leaf _))
abbrev bCl : iF (DV × H) := (cP (λ σ h => aPs E (σ p0) (σ p4) h) (bU aKq.res))
theorem bHm : Is E bLE (bV 0 (bCl E)) (λ σ h => aPh E (σ p0) aT (σ p4) (σ p5) h) := Is.lp (λ n2 σ h => aPh E (σ p0) n2 (σ p4) (σ p5) h) λ n2 => Is.aq (Is.leaf _)
theorem bHo : nT E aKq (aYx E) := Is.aq (Is.sq (Is.sq (Is.sq (bHn E) (Is.sq (Is.bk (bHm E)) (Is.leaf _))) (Is.leaf _)) (Is.leaf _))
def bGb : cB := nO (aYx E)
theorem bAJ : SQ aKq bGb := nX bHo
def bKA := cm 217
def aJc (E : bG) (r0 : DV) (h : H) : aV := dP r0 h λ x1 h2 => some ((ii 2), h2)
theorem bHh : nT E bKA (aJc E) := Is.rf
def aXe : cB := nO (aJc E)
theorem bAI : SQ bKA aXe := nX bHh
def bKz := cm 218
def aJb (r0 : DV) (h : H) : aV := dP r0 h λ x1 h2 => vK (aH 0 x1) λ x3 => vK (aF h2.get x3) λ x4 => wK (aE E 97 [x4] h2) λ x5 h6 => some (x5, h6)
theorem bHg : nT E bKz (aJb E) := Is.rf
def aXd : cB := nO (aJb E)
theorem bAH : SQ bKz aXd := nX bHg
def bKy := cm 219
def aJa (r0 : DV) (h : H) : aV := dP r0 h λ x1 h2 => vK (aH 0 x1) λ x3 => vK (aF h2.get x3) λ x4 => wK (aE E 220 [x4] h2) λ x5 h6 => some (x5, h6)
theorem bHf : nT E bKy (aJa E) := Is.rf
def aXc : cB := nO (aJa E)
theorem bAG : SQ bKy aXc := nX bHf
def aPN := cm 220
def bLA := cr (cr (cr (cr (cr aPN.body))))
def bLz := cl (cr (cl (cr (cr (cr (cr aPN.body))))))
def aIY (r3 : DV) (h : H) : aV := wK (aE E 52 [r3] h) λ x1 h2 => vK (aG 0 x1) λ x3 => vK (aG 1 x1) λ x4 => some (x3, h2)
def aFo (r3 r21 r22 : DV) (i2 : DV → H → aV) (r23 : DV) (h : H) : aV := vK (cW r23 r22) λ x1 => bK x1 (vK (cC 2 r21 r23) λ x2 => vK (aJ 2 h.get x2) λ x3 => dN 2 2 (.list [(.str []), (ii 0)]) h λ x4 h5 => wK (bS 2 x4 x3 h5) λ x6 h7 => vK (aH 0 x4) λ x8 => vK (aF h7.get x8) λ x9 => wK (aE E 51 [r3, x9] h7) λ x10 h11 => vK (aH 1 x4) λ x12 => vK (aF h11.get x12) λ x13 => wK (aE E 50 [r3, x13] h11) λ x14 h15 => vK (bJ r23 (ii 1)) λ x16 => i2 x16 h15) (aIY E r3 h)
def aBK (r3 r21 r22 : DV) (n : Nat) : DV → H → aV := Nat.rec (motive := λ _ => DV → H → aV) (λ _ _ => none) (λ _ i => aFo E r3 r21 r22 i) n
def aIZ (r0 : DV) (h : H) : aV := vK (eN .ptr false h.get r0 .nilp) λ x1 => bK x1 (some ((.str []), h)) (wK (aE E 48 [(ii 65536)] h) λ x2 h3 => vK (aW r0) λ x4 => vK (aH 0 x4) λ x5 => vK (aF h3.get x5) λ x6 => vK (bX x6) λ x7 => wK (aE E 50 [x2, x7] h3) λ x8 h9 => vK (aW r0) λ x10 => vK (aH 0 x10) λ x11 => vK (aF h9.get x11) λ x12 => vK (bX x12) λ x13 => aBK E x2 x12 x13 aT (ii 0) h9)
theorem bHd : Is E bLA (bU aPN.res) (λ σ h => aIY E (σ p3) h) := Is.rf
abbrev bGw : iF (DV × H) := (cP (λ σ h => aIY E (σ p3) h) (bU aPN.res))
theorem bHc : Is E bLz (bV 0 (bGw E)) (λ σ h => aBK E (σ p3) (σ p21) (σ p22) aT (σ p23) h) := Is.lp (λ n2 σ h => aBK E (σ p3) (σ p21) (σ p22) n2 (σ p23) h) λ n2 => Is.aq (Is.leaf _)
theorem bHe : nT E aPN (aIZ E) := Is.aq (Is.sq (Is.sq (Is.sq (Is.sq (Is.sq (bHd E) (Is.sq (Is.bk (bHc E)) (Is.leaf _))) (Is.leaf _)) (Is.leaf _)) (Is.leaf _)) (Is.leaf _))
def aXb : cB := nO (aIZ E)
theorem bAF : SQ aPN aXb := nX bHe
def bKx := cm 221
def aYv (E : bG) (h : H) : aV := some ((ii 1), h)
theorem bHb : nT E bKx (λ _ h => aYv E h) := Is.rf
def bAE : cB := nO (λ _ h => aYv E h)
theorem bAD : SQ bKx bAE := nX bHb
def bKw := cm 222
def aIX (E : bG) (r0 : DV) (h : H) : aV := vK (aW r0) λ x1 => vK (aH 0 x1) λ x2 => vK (aF h.get x2) λ x3 => vK (cA x3) λ x4 => some (x4, h)
theorem bHa : nT E bKw (aIX E) := Is.rf
def aXa : cB := nO (aIX E)
theorem bAC : SQ bKw aXa := nX bHa
def bKv := cm 223
def aIW (E : bG) (r0 : DV) (h : H) : aV := vK (aW r0) λ x1 => vK (aH 0 x1) λ x2 => vK (aF h.get x2) λ x3 => some (x3, h)
theorem bGZ : nT E bKv (aIW E) := Is.rf
def aWZ : cB := nO (aIW E)
theorem bAB : SQ bKv aWZ := nX bGZ
def fs1 : List FD := [⟨194, aPO, aUs⟩, ⟨197, bKD, bGf⟩, ⟨199, bKC, bGe⟩, ⟨200, aKr, bGc⟩, ⟨201, aKq, bGb⟩, ⟨217, bKA, aXe⟩, ⟨218, bKz, aXd⟩, ⟨219, bKy, aXc⟩, ⟨220, aPN, aXb⟩, ⟨221, bKx, bAE⟩, ⟨222, bKw, aXa⟩, ⟨223, bKv, aWZ⟩]
theorem bEi : wA fs1 := ⟨bAN, ⟨bAM, ⟨bAL, ⟨bAK, ⟨bAJ, ⟨bAI, ⟨bAH, ⟨bAG, ⟨bAF, ⟨bAD, ⟨bAC, ⟨bAB, trivial⟩⟩⟩⟩⟩⟩⟩⟩⟩⟩⟩⟩
end Go.Proofs.YtmafhiogonejfaaGreatDoor
end

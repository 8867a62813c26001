/- More of the program's functions. No condition. -/
import Derived.Test.YtmafhiogonejfaaGreatDoorC0
set_option linter.unusedVariables false
noncomputable section
namespace Go.Proofs.YtmafhiogonejfaaGreatDoor
open Go.DI
variable (E : bJ)
def bBz := cm 185
def bOs := cl (cr bBz.body)
def bPx (E : bJ) (r0 : DV) (i1 : DV → DV → H → aV) (r2 r3 : DV) (h : H) : aV := vK (dA r2 r3) λ x1 => bK x1 (vK (cD 2 r0 r3) λ x2 => vK (aM 2 h.get x2) λ x3 => vK (cD 2 r0 r2) λ x4 => vK (aM 2 h.get x4) λ x5 => vK (cD 2 r0 r2) λ x6 => wK (bY 2 x6 x3 h) λ x7 h8 => vK (cD 2 r0 r3) λ x9 => wK (bY 2 x9 x5 h8) λ x10 h11 => vK (bN r2 (ii 1)) λ x12 => vK (fM r3 (ii 1)) λ x13 => i1 x12 x13 h11) (some ((.tup []), h))
def aRB (r0 : DV) (n : Nat) : DV → DV → H → aV := Nat.rec (motive := λ _ => DV → DV → H → aV) (λ _ _ _ => none) (λ _ i => bPx E r0 i) n
def bBk (r0 : DV) (h : H) : aV := vK (cA r0) λ x1 => vK (fM x1 (ii 1)) λ x2 => aRB E r0 aQ (ii 0) x2 h
theorem bKj : Is E bOs (bV 0 (bX bBz.res)) (λ σ h => aRB E (σ p0) aQ (σ p2) (σ p3) h) := Is.lp (λ n1 σ h => aRB E (σ p0) n1 (σ p2) (σ p3) h) λ n1 => Is.aq (Is.leaf _)
theorem bKk : oT E bBz (bBk E) := Is.aq (Is.sq (Is.bk (bKj E)) (Is.leaf _))
def bIR : cF := nY (bBk E)
theorem bDz : SQ bBz bIR := oZ bKk
def aSc := cm 191
def bOr := cr (cr aSc.body)
def bOq := cl (cr (cl (cr aSc.body)))
def bBi (E : bJ) (r2 : DV) (h : H) : aV := some (r2, h)
def bPw (E : bJ) (i2 : H → aV) (h : H) : aV := none
def bAG (n : Nat) : H → aV := Nat.rec (motive := λ _ => H → aV) (λ _ => none) (λ _ i => bPw E i) n
def bBj (E : bJ) (h : H) : aV := none
theorem bKh : Is E bOr (bX aSc.res) (λ σ h => bBi E (σ p2) h) := Is.rf
abbrev bJg : iY (DV × H) := (cP (λ σ h => bBi E (σ p2) h) (bX aSc.res))
theorem bKg : Is E bOq (bV 0 (bJg E)) (λ σ h => bAG E aQ h) := Is.lp (λ n2 σ h => bAG E n2 h) λ n2 => Is.aq (Is.leaf _)
theorem bKi : oT E aSc (λ _ h => bBj E h) := Is.aq (Is.sq (Is.sq (bKh E) (Is.sq (Is.bk (bKg E)) (Is.leaf _))) (Is.leaf _))
def bIP : cF := nY (λ _ h => bBj E h)
theorem bDy : SQ aSc bIP := oZ bKi
def bNk := cm 192
def bBh (r0 : DV) (h : H) : aV := vK (dC r0 (.str [])) λ x1 => bR x1 true (λ kk => kk r0 h) h λ x2 h3 => bR x1 true (λ kk => vK (gY x2 (ii 0)) λ v => kk v h3) h3 λ x4 h5 => bR x1 true (λ kk => vK (dA x4 (.int .u8 (.ofNat 128))) λ v => kk v h5) h5 λ x6 h7 => vK (bE x1 x6 (.bool false)) λ x8 => bK x8 (vK (gY r0 (ii 0)) λ x9 => vK (fH .i32 x9) λ x10 => some ((.tup [x10, (ii 1)]), h7)) (wK (aE E 197 [r0] h7) λ x11 h12 => vK (aG 0 x11) λ x13 => vK (aG 1 x11) λ x14 => some ((.tup [x13, x14]), h12))
theorem bKf : oT E bNk (bBh E) := Is.rf
def bIO : cF := nY (bBh E)
theorem bDx : SQ bNk bIO := oZ bKf
def aSb := cm 194
def bOp := cr (cr (cr (cr (cr (cr (cr (cr (cr aSb.body))))))))
def bBF := cl (cl (cr (cr (cr (cr (cr (cr (cr (cr aSb.body)))))))))
def bOo := cr (cl (cr (cl bBF)))
def aRL (E : bJ) (h : H) : aV := some ((.int .i64 (.negSucc 0)), h)
def aRK (E : bJ) (r0 r1 r5 r7 r8 r10 : DV) (h : H) : aV := vK (bN r8 (ii 1)) λ x1 => vK (gY r0 x1) λ x2 => vK (cG x2 r7) λ x3 => bR x3 true (λ kk => kk r0 h) h λ x4 h5 => bR x3 true (λ kk => kk r8 h5) h5 λ x6 h7 => bR x3 true (λ kk => kk r8 h7) h7 λ x8 h9 => bR x3 true (λ kk => kk r5 h9) h9 λ x10 h11 => bR x3 true (λ kk => vK (bN x8 x10) λ v => kk v h11) h11 λ x12 h13 => bR x3 true (λ kk => vK (iE x4 (some x6) (some x12)) λ v => kk v h13) h13 λ x14 h15 => bR x3 true (λ kk => kk r1 h15) h15 λ x16 h17 => bR x3 true (λ kk => vK (cG x14 x16) λ v => kk v h17) h17 λ x18 h19 => vK (bE x3 x18 (.bool false)) λ x20 => bK x20 (some (r8, h19)) (vK (bN r8 (ii 1)) λ x21 => vK (bN r10 (ii 1)) λ x22 => none)
def bPv (r0 r1 r5 r6 r7 r9 : DV) (i2 : DV → DV → H → aV) (r8 r10 : DV) (h : H) : aV := vK (dA r8 r9) λ x1 => bK x1 (vK (gY r0 r8) λ x2 => vK (dC x2 r6) λ x3 => bK x3 (vK (bN r8 (ii 1)) λ x4 => vK (iE r0 (some x4) (some r9)) λ x5 => wK (aE E 173 [x5, r6] h) λ x6 h7 => vK (dA x6 (ii 0)) λ x8 => bK x8 (some ((.int .i64 (.negSucc 0)), h7)) (vK (bN x6 (ii 1)) λ x9 => vK (bN r8 x9) λ x10 => aRK E r0 r1 r5 r7 x10 r10 h7)) (aRK E r0 r1 r5 r7 r8 r10 h)) (aRL E h)
def aRA (r0 r1 r5 r6 r7 r9 : DV) (n : Nat) : DV → DV → H → aV := Nat.rec (motive := λ _ => DV → DV → H → aV) (λ _ _ _ => none) (λ _ i => bPv E r0 r1 r5 r6 r7 r9 i) n
def aKG (r0 r1 : DV) (h : H) : aV := vK (cJ r1) λ x1 => vK (cG x1 (ii 0)) λ x2 => bR x2 false (λ kk => kk r1 h) h λ x3 h4 => bR x2 false (λ kk => kk r0 h4) h4 λ x5 h6 => bR x2 false (λ kk => vK (cG x3 x5) λ v => kk v h6) h6 λ x7 h8 => vK (bE x2 (.bool true) x7) λ x9 => bK x9 (some ((ii 0), h8)) (vK (cG x1 (ii 1)) λ x10 => bK x10 (vK (gY r1 (ii 0)) λ x11 => wK (aE E 173 [r0, x11] h8) λ x12 h13 => some (x12, h13)) (vK (cJ r0) λ x14 => vK (oG x1 x14) λ x15 => bK x15 (some ((.int .i64 (.negSucc 0)), h8)) (none)))
theorem bKd : Is E bOp (bX aSb.res) (λ σ h => aRL E h) := Is.rf
abbrev bAJ : iY (DV × H) := (bV 1 (cP (λ σ h => aRL E h) (bX aSb.res)))
abbrev bJf (n2 : Nat) : iY (DV × H) := (cP (λ σ h => (aRA E (σ p0) (σ p1) (σ p5) (σ p6) (σ p7) (σ p9) n2) (σ p8) (σ p10) h) (bAJ E))
theorem bKb (n2 : Nat) : Is E bOo (bV 2 (bJf E n2)) (λ σ h => aRK E (σ p0) (σ p1) (σ p5) (σ p7) (σ p8) (σ p10) h) := Is.rf
theorem bKc : Is E bBF (bAJ E) (λ σ h => aRA E (σ p0) (σ p1) (σ p5) (σ p6) (σ p7) (σ p9) aQ (σ p8) (σ p10) h) := Is.lp (λ n2 σ h => aRA E (σ p0) (σ p1) (σ p5) (σ p6) (σ p7) (σ p9) n2 (σ p8) (σ p10) h) λ n2 => Is.aq (Is.sq (Is.bk (Is.sq (bKb E n2) (Is.leaf _))) (Is.leaf _))
theorem bKe : lP E aSb (aKG E) := Is.aq (Is.sq (Is.sq (Is.sq (Is.sq (Is.sq (Is.sq (Is.sq (Is.sq (Is.sq (bKd E) (Is.bk (bKc E))) (Is.leaf _)) (Is.leaf _)) (Is.leaf _)) (Is.leaf _)) (Is.leaf _)) (Is.leaf _)) (Is.leaf _)) (Is.leaf _))
def aWY : cF := lM (aKG E)
theorem bDw : SQ aSb aWY := lQ bKe
def bNj := cm 197
def bBg (E : bJ) (r0 : DV) (h : H) : aV := vK (cJ r0) λ x1 => vK (dA x1 (ii 1)) λ x2 => bK x2 (some ((.tup [(.int .i32 (.ofNat 65533)), (ii 0)]), h)) (vK (gY r0 (ii 0)) λ x3 => none)
theorem bKa : oT E bNj (bBg E) := Is.rf
def bIN : cF := nY (bBg E)
theorem bDv : SQ bNj bIN := oZ bKa
def bNi := cm 199
def bBf (E : bJ) (r0 : DV) (h : H) : aV := vK (bN r0 (ii 16)) λ x1 => vK (aSJ x1 (ii 8)) λ x2 => some (x2, h)
theorem bJZ : oT E bNi (bBf E) := Is.rf
def bIM : cF := nY (bBf E)
theorem bDu : SQ bNi bIM := oZ bJZ
def aLY := cm 200
def aSz := cr (cr (cr (cr (cr aLY.body))))
def bOm := cr (cr aSz)
def bOl := cl (cr (cl (cr aSz)))
def bOn := cl (cr (cl (cr (cr (cr (cr aLY.body))))))
def aRI (E : bJ) (h : H) : aV := some ((.int .i64 (.negSucc 0)), h)
def bPt (r0 r1 r5 r6 r7 : DV) (i4 : DV → DV → H → aV) (r8 r10 : DV) (h : H) : aV := vK (cJ r0) λ x1 => vK (dA r10 x1) λ x2 => bK x2 (vK (zM r8 (.int .u32 (.ofNat 16777619))) λ x3 => vK (gY r0 r10) λ x4 => vK (fH .u32 x4) λ x5 => vK (bN x3 x5) λ x6 => vK (fM r10 r7) λ x7 => vK (gY r0 x7) λ x8 => vK (fH .u32 x8) λ x9 => vK (zM r6 x9) λ x10 => vK (fM x6 x10) λ x11 => vK (bN r10 (ii 1)) λ x12 => vK (cG x11 r5) λ x13 => bR x13 true (λ kk => kk r0 h) h λ x14 h15 => bR x13 true (λ kk => kk x12 h15) h15 λ x16 h17 => bR x13 true (λ kk => kk r7 h17) h17 λ x18 h19 => bR x13 true (λ kk => vK (fM x16 x18) λ v => kk v h19) h19 λ x20 h21 => bR x13 true (λ kk => kk x12 h21) h21 λ x22 h23 => bR x13 true (λ kk => vK (iE x14 (some x20) (some x22)) λ v => kk v h23) h23 λ x24 h25 => bR x13 true (λ kk => kk r1 h25) h25 λ x26 h27 => bR x13 true (λ kk => vK (cG x24 x26) λ v => kk v h27) h27 λ x28 h29 => vK (bE x13 x28 (.bool false)) λ x30 => bK x30 (vK (fM x12 r7) λ x31 => some (x31, h29)) (i4 x11 x12 h29)) (aRI E h)
def aRy (r0 r1 r5 r6 r7 : DV) (n : Nat) : DV → DV → H → aV := Nat.rec (motive := λ _ => DV → DV → H → aV) (λ _ _ _ => none) (λ _ i => bPt E r0 r1 r5 r6 r7 i) n
def aRJ (r0 r1 r5 r6 r7 r8 : DV) (h : H) : aV := vK (cG r8 r5) λ x1 => bR x1 true (λ kk => kk r0 h) h λ x2 h3 => bR x1 true (λ kk => kk r7 h3) h3 λ x4 h5 => bR x1 true (λ kk => vK (iE x2 none (some x4)) λ v => kk v h5) h5 λ x6 h7 => bR x1 true (λ kk => kk r1 h7) h7 λ x8 h9 => bR x1 true (λ kk => vK (cG x6 x8) λ v => kk v h9) h9 λ x10 h11 => vK (bE x1 x10 (.bool false)) λ x12 => bK x12 (some ((ii 0), h11)) (aRy E r0 r1 r5 r6 r7 aQ r8 r7 h11)
def bPu (r0 r1 r5 r6 r7 : DV) (i2 : DV → DV → H → aV) (r8 r9 : DV) (h : H) : aV := vK (dA r9 r7) λ x1 => bK x1 (vK (zM r8 (.int .u32 (.ofNat 16777619))) λ x2 => vK (gY r0 r9) λ x3 => vK (fH .u32 x3) λ x4 => vK (bN x2 x4) λ x5 => vK (bN r9 (ii 1)) λ x6 => i2 x5 x6 h) (aRJ E r0 r1 r5 r6 r7 r8 h)
def aRz (r0 r1 r5 r6 r7 : DV) (n : Nat) : DV → DV → H → aV := Nat.rec (motive := λ _ => DV → DV → H → aV) (λ _ _ _ => none) (λ _ i => bPu E r0 r1 r5 r6 r7 i) n
def bBe (r0 r1 : DV) (h : H) : aV := wK (aE E 201 [r1] h) λ x1 h2 => vK (aG 0 x1) λ x3 => vK (aG 1 x1) λ x4 => vK (cJ r1) λ x5 => aRz E r0 r1 x3 x4 x5 aQ (.int .u32 (.ofNat 0)) (ii 0) h2
theorem bJV : Is E bOm (bX aLY.res) (λ σ h => aRI E h) := Is.rf
abbrev bJe : iY (DV × H) := (bV 2 (cP (λ σ h => aRI E h) (bX aLY.res)))
theorem bJU : Is E bOl (bJe E) (λ σ h => aRy E (σ p0) (σ p1) (σ p5) (σ p6) (σ p7) aQ (σ p8) (σ p10) h) := Is.lp (λ n4 σ h => aRy E (σ p0) (σ p1) (σ p5) (σ p6) (σ p7) n4 (σ p8) (σ p10) h) λ n4 => Is.aq (Is.leaf _)
theorem bJX : Is E aSz (bX aLY.res) (λ σ h => aRJ E (σ p0) (σ p1) (σ p5) (σ p6) (σ p7) (σ p8) h) := Is.aq (Is.sq (Is.sq (bJV E) (Is.sq (Is.bk (bJU E)) (Is.leaf _))) (Is.leaf _))
abbrev bJd : iY (DV × H) := (cP (λ σ h => aRJ E (σ p0) (σ p1) (σ p5) (σ p6) (σ p7) (σ p8) h) (bX aLY.res))
theorem bJW : Is E bOn (bV 0 (bJd E)) (λ σ h => aRz E (σ p0) (σ p1) (σ p5) (σ p6) (σ p7) aQ (σ p8) (σ p9) h) := Is.lp (λ n2 σ h => aRz E (σ p0) (σ p1) (σ p5) (σ p6) (σ p7) n2 (σ p8) (σ p9) h) λ n2 => Is.aq (Is.leaf _)
theorem bJY : lP E aLY (bBe E) := Is.aq (Is.sq (Is.sq (Is.sq (Is.sq (Is.sq (bJX E) (Is.sq (Is.bk (bJW E)) (Is.leaf _))) (Is.leaf _)) (Is.leaf _)) (Is.leaf _)) (Is.leaf _))
def bIK : cF := lM (bBe E)
theorem bDt : SQ aLY bIK := lQ bJY
def aLX := cm 201
def aSy := cr (cr (cr aLX.body))
def bOj := cr (cr aSy)
def aSx := cl (cr (cl (cr aSy)))
def bOi := cr (cr (cl aSx))
def bOh := cr (cl (cl (cr (cl aSx))))
def bOk := cl (cr (cl (cr (cr aLX.body))))
def aRG (E : bJ) (r4 r6 : DV) (h : H) : aV := some ((.tup [r4, r6]), h)
def aRF (E : bJ) (i4 : DV → DV → DV → H → aV) (r6 r7 r8 : DV) (h : H) : aV := vK (vO r8 (.int .u64 (.ofNat 1))) λ x1 => i4 r6 r7 x1 h
def aRE (i4 : DV → DV → DV → H → aV) (r6 r7 r8 : DV) (h : H) : aV := vK (zM r7 r7) λ x1 => aRF E i4 r6 x1 r8 h
def bPr (r4 : DV) (i4 : DV → DV → DV → H → aV) (r6 r7 r8 : DV) (h : H) : aV := vK (eI r8 (ii 0)) λ x1 => bK x1 (vK (aAQ r8 (ii 1)) λ x2 => vK (dC x2 (ii 0)) λ x3 => bK x3 (vK (zM r6 r7) λ x4 => aRE E i4 x4 r7 r8 h) (aRE E i4 r6 r7 r8 h)) (aRG E r4 r6 h)
def aAC (r4 : DV) (n : Nat) : DV → DV → DV → H → aV := Nat.rec (motive := λ _ => DV → DV → DV → H → aV) (λ _ _ _ _ => none) (λ _ i => bPr E r4 i) n
def aRH (r0 r4 : DV) (h : H) : aV := vK (cJ r0) λ x1 => aAC E r4 aQ (.int .u32 (.ofNat 1)) (.int .u32 (.ofNat 16777619)) x1 h
def bPs (r0 : DV) (i2 : DV → DV → H → aV) (r4 r5 : DV) (h : H) : aV := vK (cJ r0) λ x1 => vK (dA r5 x1) λ x2 => bK x2 (vK (zM r4 (.int .u32 (.ofNat 16777619))) λ x3 => vK (gY r0 r5) λ x4 => vK (fH .u32 x4) λ x5 => vK (bN x3 x5) λ x6 => vK (bN r5 (ii 1)) λ x7 => i2 x6 x7 h) (aRH E r0 r4 h)
def aRx (r0 : DV) (n : Nat) : DV → DV → H → aV := Nat.rec (motive := λ _ => DV → DV → H → aV) (λ _ _ _ => none) (λ _ i => bPs E r0 i) n
def bBd (r0 : DV) (h : H) : aV := aRx E r0 aQ (.int .u32 (.ofNat 0)) (ii 0) h
theorem bJQ : Is E bOj (bX aLX.res) (λ σ h => aRG E (σ p4) (σ p6) h) := Is.rf
abbrev bAI : iY (DV × H) := (cP (λ σ h => aRG E (σ p4) (σ p6) h) (bX aLX.res))
abbrev bAH (n4 : Nat) : iY (DV × H) := (cP (λ σ h => (aAC E (σ p4) n4) (σ p6) (σ p7) (σ p8) h) (bV 2 (bAI E)))
theorem bJO (n4 : Nat) : Is E bOi (bAH E n4) (λ σ h => aRF E (aAC E (σ p4) n4) (σ p6) (σ p7) (σ p8) h) := Is.rf
abbrev bJc (n4 : Nat) : iY (DV × H) := (cP (λ σ h => aRF E (aAC E (σ p4) n4) (σ p6) (σ p7) (σ p8) h) (bAH E n4))
theorem bJN (n4 : Nat) : Is E bOh (bV 3 (bJc E n4)) (λ σ h => aRE E (aAC E (σ p4) n4) (σ p6) (σ p7) (σ p8) h) := Is.rf
theorem bJP : Is E aSx (bV 2 (bAI E)) (λ σ h => aAC E (σ p4) aQ (σ p6) (σ p7) (σ p8) h) := Is.lp (λ n4 σ h => aAC E (σ p4) n4 (σ p6) (σ p7) (σ p8) h) λ n4 => Is.aq (Is.sq (Is.sq (bJO E n4) (Is.bk (Is.sq (bJN E n4) (Is.leaf _)))) (Is.leaf _))
theorem bJS : Is E aSy (bX aLX.res) (λ σ h => aRH E (σ p0) (σ p4) h) := Is.aq (Is.sq (Is.sq (bJQ E) (Is.sq (Is.bk (bJP E)) (Is.leaf _))) (Is.leaf _))
abbrev bEU : iY (DV × H) := (cP (λ σ h => aRH E (σ p0) (σ p4) h) (bX aLX.res))
theorem bJR : Is E bOk (bV 0 (bEU E)) (λ σ h => aRx E (σ p0) aQ (σ p4) (σ p5) h) := Is.lp (λ n2 σ h => aRx E (σ p0) n2 (σ p4) (σ p5) h) λ n2 => Is.aq (Is.leaf _)
theorem bJT : oT E aLX (bBd E) := Is.aq (Is.sq (Is.sq (Is.sq (bJS E) (Is.sq (Is.bk (bJR E)) (Is.leaf _))) (Is.leaf _)) (Is.leaf _))
def bIJ : cF := nY (bBd E)
theorem bDs : SQ aLX bIJ := oZ bJT
def bNg := cm 217
def aKF (E : bJ) (r0 : DV) (h : H) : aV := dV r0 h λ x1 h2 => some ((ii 2), h2)
theorem bJM : oT E bNg (aKF E) := Is.rf
def aZH : cF := nY (aKF E)
theorem bDr : SQ bNg aZH := oZ bJM
def bNf := cm 218
def aKE (r0 : DV) (h : H) : aV := dV r0 h λ x1 h2 => vK (aI 0 x1) λ x3 => vK (aF h2.get x3) λ x4 => wK (aE E 97 [x4] h2) λ x5 h6 => some (x5, h6)
theorem bJL : oT E bNf (aKE E) := Is.rf
def aZG : cF := nY (aKE E)
theorem bDq : SQ bNf aZG := oZ bJL
def bNe := cm 219
def aKD (r0 : DV) (h : H) : aV := dV r0 h λ x1 h2 => vK (aI 0 x1) λ x3 => vK (aF h2.get x3) λ x4 => wK (aE E 220 [x4] h2) λ x5 h6 => some (x5, h6)
theorem bJK : oT E bNe (aKD E) := Is.rf
def aZF : cF := nY (aKD E)
theorem bDp : SQ bNe aZF := oZ bJK
def aSa := cm 220
def bOg := cr (cr (cr (cr (cr aSa.body))))
def bOf := cl (cr (cl (cr (cr (cr (cr aSa.body))))))
def aKB (r3 : DV) (h : H) : aV := wK (aE E 52 [r3] h) λ x1 h2 => vK (aG 0 x1) λ x3 => vK (aG 1 x1) λ x4 => some (x3, h2)
def aGx (r3 r21 r22 : DV) (i2 : DV → H → aV) (r23 : DV) (h : H) : aV := vK (dA r23 r22) λ x1 => bK x1 (vK (cD 2 r21 r23) λ x2 => vK (aM 2 h.get x2) λ x3 => dP 2 2 (.list [(.str []), (ii 0)]) h λ x4 h5 => wK (bY 2 x4 x3 h5) λ x6 h7 => vK (aI 0 x4) λ x8 => vK (aF h7.get x8) λ x9 => wK (aE E 51 [r3, x9] h7) λ x10 h11 => vK (aI 1 x4) λ x12 => vK (aF h11.get x12) λ x13 => wK (aE E 50 [r3, x13] h11) λ x14 h15 => vK (bN r23 (ii 1)) λ x16 => i2 x16 h15) (aKB E r3 h)
def aCO (r3 r21 r22 : DV) (n : Nat) : DV → H → aV := Nat.rec (motive := λ _ => DV → H → aV) (λ _ _ => none) (λ _ i => aGx E r3 r21 r22 i) n
def aKC (r0 : DV) (h : H) : aV := vK (eM .ptr false h.get r0 .nilp) λ x1 => bK x1 (some ((.str []), h)) (wK (aE E 48 [(ii 65536)] h) λ x2 h3 => vK (aW r0) λ x4 => vK (aI 0 x4) λ x5 => vK (aF h3.get x5) λ x6 => vK (cA x6) λ x7 => wK (aE E 50 [x2, x7] h3) λ x8 h9 => vK (aW r0) λ x10 => vK (aI 0 x10) λ x11 => vK (aF h9.get x11) λ x12 => vK (cA x12) λ x13 => aCO E x2 x12 x13 aQ (ii 0) h9)
theorem bJI : Is E bOg (bX aSa.res) (λ σ h => aKB E (σ p3) h) := Is.rf
abbrev bJb : iY (DV × H) := (cP (λ σ h => aKB E (σ p3) h) (bX aSa.res))
theorem bJH : Is E bOf (bV 0 (bJb E)) (λ σ h => aCO E (σ p3) (σ p21) (σ p22) aQ (σ p23) h) := Is.lp (λ n2 σ h => aCO E (σ p3) (σ p21) (σ p22) n2 (σ p23) h) λ n2 => Is.aq (Is.leaf _)
theorem bJJ : oT E aSa (aKC E) := Is.aq (Is.sq (Is.sq (Is.sq (Is.sq (Is.sq (bJI E) (Is.sq (Is.bk (bJH E)) (Is.leaf _))) (Is.leaf _)) (Is.leaf _)) (Is.leaf _)) (Is.leaf _))
def aZE : cF := nY (aKC E)
theorem bDo : SQ aSa aZE := oZ bJJ
def bNd := cm 221
def bBb (E : bJ) (h : H) : aV := some ((ii 1), h)
theorem bJG : oT E bNd (λ _ h => bBb E h) := Is.rf
def bDn : cF := nY (λ _ h => bBb E h)
theorem bDm : SQ bNd bDn := oZ bJG
def bNc := cm 222
def aKA (E : bJ) (r0 : DV) (h : H) : aV := vK (aW r0) λ x1 => vK (aI 0 x1) λ x2 => vK (aF h.get x2) λ x3 => vK (cJ x3) λ x4 => some (x4, h)
theorem bJF : oT E bNc (aKA E) := Is.rf
def aZD : cF := nY (aKA E)
theorem bDl : SQ bNc aZD := oZ bJF
def bNb := cm 223
def aKz (E : bJ) (r0 : DV) (h : H) : aV := vK (aW r0) λ x1 => vK (aI 0 x1) λ x2 => vK (aF h.get x2) λ x3 => some (x3, h)
theorem bJE : oT E bNb (aKz E) := Is.rf
def aZC : cF := nY (aKz E)
theorem bDk : SQ bNb aZC := oZ bJE
def fs1 : List FD := [⟨185, bBz, bIR⟩, ⟨191, aSc, bIP⟩, ⟨192, bNk, bIO⟩, ⟨194, aSb, aWY⟩, ⟨197, bNj, bIN⟩, ⟨199, bNi, bIM⟩, ⟨200, aLY, bIK⟩, ⟨201, aLX, bIJ⟩, ⟨217, bNg, aZH⟩, ⟨218, bNf, aZG⟩, ⟨219, bNe, aZF⟩, ⟨220, aSa, aZE⟩, ⟨221, bNd, bDn⟩, ⟨222, bNc, aZD⟩, ⟨223, bNb, aZC⟩]
theorem bGN : xR fs1 := ⟨bDz, ⟨bDy, ⟨bDx, ⟨bDw, ⟨bDv, ⟨bDu, ⟨bDt, ⟨bDs, ⟨bDr, ⟨bDq, ⟨bDp, ⟨bDo, ⟨bDm, ⟨bDl, ⟨bDk, trivial⟩⟩⟩⟩⟩⟩⟩⟩⟩⟩⟩⟩⟩⟩⟩
end Go.Proofs.YtmafhiogonejfaaGreatDoor
end

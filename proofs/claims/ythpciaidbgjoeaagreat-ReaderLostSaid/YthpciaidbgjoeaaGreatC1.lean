/- More of the program's functions. No condition. -/
import Derived.Test.YthpciaidbgjoeaaGreatC0
set_option linter.unusedVariables false
noncomputable section
namespace Go.Proofs.YthpciaidbgjoeaaGreat
open Go.DI
variable (E : bH)
def aXo := cm 158
def aWA (r0 r1 r2 : DV) (h : H) : aV := vK (dN .ptr false h.get r0 .nilp) λ x1 => bK x1 (some ((ii 1), h)) (wK (aC E 139 [r0, r1] h) λ x2 h3 => vK (dN .ptr false h3.get x2 .nilp) λ x4 => bK x4 (some ((ii 7), h3)) (vK (aD x2) λ x5 => vK (aP 1 x5) λ x6 => vK (aO h3.get x6) λ x7 => vK (dQ x7 (ii 1)) λ x8 => aQ x8 false (λ kk => kk x2 h3) h3 λ x9 h10 => aQ x8 false (λ kk => vK (aD x9) λ v => kk v h10) h10 λ x11 h12 => aQ x8 false (λ kk => vK (aP 2 x11) λ v => kk v h12) h12 λ x13 h14 => aQ x8 false (λ kk => vK (aO h14.get x13) λ v => kk v h14) h14 λ x15 h16 => aQ x8 false (λ kk => kk r2 h16) h16 λ x17 h18 => aQ x8 false (λ kk => vK (dQ x15 x17) λ v => kk v h18) h18 λ x19 h20 => vK (aN x8 (.bool true) x19) λ x21 => bK x21 (some ((ii 16), h20)) (vK (aD x2) λ x22 => vK (aP 1 x22) λ x23 => wK (eK 1 x23 (ii 2) h20) λ x24 h25 => some ((ii 0), h25))))
theorem bGk : iB3 E aXo (aWA E) := Is.rf
def aVo : bQ := fA3 (aWA E)
theorem aOz : SQ aXo aVo := eB3 bGk
def aXn := cm 159
def aWz (r0 r1 r2 r3 r4 : DV) (h : H) : aV := vK (dO [(ii 0), (ii 0), (ii 0), (ii 0)] [(0, 1, r1), (1, 1, r2), (2, 1, r3), (3, 1, r4)]) λ x1 => wK (aC E 187 [r0, x1] h) λ x2 h3 => wK (aC E 186 [x2] h3) λ x4 h5 => some (x4, h5)
theorem bGj : iB5 E aXn (aWz E) := Is.rf
def aVn : bQ := fA5 (aWz E)
theorem aOy : SQ aXn aVn := eB5 bGj
def bIj := cm 178
def aGX (E : bH) (r0 : DV) (h : H) : aV := dJ r0 h λ x1 h2 => vK (aP 0 x1) λ x3 => vK (aO h2.get x3) λ x4 => vK (eT x4) λ x5 => some (x5, h2)
theorem bGi : nE E bIj (aGX E) := Is.rf
def aRy : bQ := mX (aGX E)
theorem bAg : SQ bIj aRy := nK bGi
def bIi := cm 179
def aGW (r0 r1 r2 : DV) (h : H) : aV := vK (aO h.get r0) λ x1 => vK (aD x1) λ x2 => vK (aP 0 x2) λ x3 => vK (aO h.get x3) λ x4 => vK (aO h.get r1) λ x5 => vK (aO h.get r2) λ x6 => wK (aC E 180 [x4, x5, x6] h) λ x7 h8 => some (x7, h8)
theorem bGh : iB3 E bIi (aGW E) := Is.rf
def aLL : bQ := fA3 (aGW E)
theorem bAf : SQ bIi aLL := eB3 bGh
def aME := cm 180
def bIJ := cr (cr (cr (cr aME.body)))
def aMK := cl (cr (cl (cr (cr (cr aME.body)))))
def bII := cr (cr (cr (cl aMK)))
def bIH := cr (cr (cr (cl (cl (cr (cr (cl aMK)))))))
def aMi (E : bH) (h : H) : aV := some ((ii 0), h)
def aGU (E : bH) (i2 : DV → H → aV) (r28 : DV) (h : H) : aV := vK (cF r28 (ii 1)) λ x1 => i2 x1 h
def aGT (i2 : DV → H → aV) (r0 r2 r9 r10 r28 : DV) (h : H) : aV := vK (aD r0) λ x1 => vK (aP 0 x1) λ x2 => vK (aO h.get x2) λ x3 => vK (jM r9 (ii 64)) λ x4 => vK (cF r9 (ii 1)) λ x5 => vK (jM x5 (ii 64)) λ x6 => vK (iM r2 (some x4) (some x6)) λ x7 => vK (cV 1 x3 r10) λ x8 => wK (eK 1 x8 x7 h) λ x9 h10 => aGU E i2 r28 h10
def aDU (r0 r1 r2 r27 : DV) (i2 : DV → H → aV) (r28 : DV) (h : H) : aV := vK (bY r28 r27) λ x1 => bK x1 (vK (cF r1 r28) λ x2 => vK (aD r0) λ x3 => vK (aP 1 x3) λ x4 => vK (aO h.get x4) λ x5 => vK (tX .int (.str []) true h.get x5 x2) λ x6 => vK (aX 0 x6) λ x7 => vK (aX 1 x6) λ x8 => vK (eT x8) λ x9 => bK x9 (vK (aD r0) λ x10 => vK (aP 1 x10) λ x11 => vK (aO h.get x11) λ x12 => vK (aD r0) λ x13 => vK (aP 0 x13) λ x14 => vK (aO h.get x14) λ x15 => vK (cV 1 x15 x2) λ x16 => vK (aO h.get x16) λ x17 => wK (aBE .int x12 x2 x17 h) λ x18 h19 => aGT E i2 r0 r2 r28 x2 r28 h19) (aGT E i2 r0 r2 r28 x2 r28 h)) (aMi E h)
def qJ (r0 r1 r2 r27 : DV) (n : Nat) : DV → H → aV := Nat.rec (motive := λ _ => DV → H → aV) (λ _ _ => none) (λ _ i => aDU E r0 r1 r2 r27 i) n
def aGV (r0 r1 r2 : DV) (h : H) : aV := vK (eQ r2) λ x1 => vK (aCg x1 (ii 64)) λ x2 => vK (eQ r2) λ x3 => vK (aCf x3 (ii 64)) λ x4 => vK (cR x4 (ii 0)) λ x5 => wK (aC E 107 [r0, r1, x2, x5] h) λ x6 h7 => vK (dQ x6 (ii 0)) λ x8 => bK x8 (some (x6, h7)) (qJ E r0 r1 r2 x2 aT (ii 0) h7)
theorem bGf : Is E bIJ (bV aME.res) (λ σ h => aMi E h) := Is.rf
abbrev aVU : iL (DV × H) := (bZ 0 (cK (λ σ h => aMi E h) (bV aME.res)))
abbrev aVT (n2 : Nat) : iL (DV × H) := (cK (λ σ h => (qJ E (σ p0) (σ p1) (σ p2) (σ p27) n2) (σ p28) h) (aVU E))
theorem bGd (n2 : Nat) : Is E bII (aVT E n2) (λ σ h => aGU E (qJ E (σ p0) (σ p1) (σ p2) (σ p27) n2) (σ p28) h) := Is.rf
abbrev bFu (n2 : Nat) : iL (DV × H) := (cK (λ σ h => aGU E (qJ E (σ p0) (σ p1) (σ p2) (σ p27) n2) (σ p28) h) (aVT E n2))
theorem bGc (n2 : Nat) : Is E bIH (bZ 1 (bFu E n2)) (λ σ h => aGT E (qJ E (σ p0) (σ p1) (σ p2) (σ p27) n2) (σ p0) (σ p2) (σ p9) (σ mC) (σ p28) h) := Is.rf
theorem bGe : Is E aMK (aVU E) (λ σ h => qJ E (σ p0) (σ p1) (σ p2) (σ p27) aT (σ p28) h) := Is.lp (λ n2 σ h => qJ E (σ p0) (σ p1) (σ p2) (σ p27) n2 (σ p28) h) λ n2 => Is.aq (Is.sq (Is.sq (Is.sq (bGd E n2) (Is.bk (Is.sq (Is.sq (Is.sq (bGc E n2) (Is.leaf _)) (Is.leaf _)) (Is.leaf _)))) (Is.leaf _)) (Is.leaf _))
theorem bGg : iB3 E aME (aGV E) := Is.aq (Is.sq (Is.sq (Is.sq (Is.sq (bGf E) (Is.sq (Is.bk (bGe E)) (Is.leaf _))) (Is.leaf _)) (Is.leaf _)) (Is.leaf _))
def aVm : bQ := fA3 (aGV E)
theorem bAe : SQ aME aVm := eB3 bGg
def bIh := cm 181
def aGS (E : bH) (r0 : DV) (h : H) : aV := vK (dN .ptr true h.get r0 .nilp) λ x1 => bK x1 (vK (aD r0) λ x2 => vK (aP 1 x2) λ x3 => vK (aO h.get x3) λ x4 => wK (lS x4 h) λ x5 h6 => some ((.tup []), h6)) (some ((.tup []), h))
theorem bGb : nE E bIh (aGS E) := Is.rf
def aJP : bQ := mX (aGS E)
theorem bAd : SQ bIh aJP := nK bGb
def aMD := cm 182
def bIG := cr (cr (cr aMD.body))
def bIF := cl (cr (cl (cr (cr aMD.body))))
def aGQ (E : bH) (r5 : DV) (h : H) : aV := vK (pK (.int .u32 (.ofNat 4294967295)) r5) λ x1 => some (x1, h)
def aDT (r1 r10 : DV) (i2 : DV → DV → H → aV) (r5 r11 : DV) (h : H) : aV := vK (bY r11 r10) λ x1 => bK x1 (vK (oL r1 r11) λ x2 => vK (cS .u32 x2) λ x3 => vK (pK r5 x3) λ x4 => wK (aC E 199 [x4] h) λ x5 h6 => vK (cF r11 (ii 1)) λ x7 => i2 x5 x7 h6) (aGQ E r5 h)
def aAK (r1 r10 : DV) (n : Nat) : DV → DV → H → aV := Nat.rec (motive := λ _ => DV → DV → H → aV) (λ _ _ _ => none) (λ _ i => aDT E r1 r10 i) n
def aGR (r0 r1 : DV) (h : H) : aV := vK (pK (.int .u32 (.ofNat 4294967295)) r0) λ x1 => vK (eQ r1) λ x2 => aAK E r1 x2 aT x1 (ii 0) h
theorem bFZ : Is E bIG (bV aMD.res) (λ σ h => aGQ E (σ p5) h) := Is.rf
abbrev bFt : iL (DV × H) := (cK (λ σ h => aGQ E (σ p5) h) (bV aMD.res))
theorem bFY : Is E bIF (bZ 0 (bFt E)) (λ σ h => aAK E (σ p1) (σ mC) aT (σ p5) (σ tJ) h) := Is.lp (λ n2 σ h => aAK E (σ p1) (σ mC) n2 (σ p5) (σ tJ) h) λ n2 => Is.aq (Is.leaf _)
theorem bGa : mQ E aMD (aGR E) := Is.aq (Is.sq (Is.sq (Is.sq (bFZ E) (Is.sq (Is.bk (bFY E)) (Is.leaf _))) (Is.leaf _)) (Is.leaf _))
def aLK : bQ := mG (aGR E)
theorem bAc : SQ aMD aLK := mZ bGa
def bIg := cm 183
def aWw (E : bH) (r0 : DV) (h : H) : aV := vK (cS .u8 r0) λ x1 => vK (lI r0 (.int .u64 (.ofNat 8))) λ x2 => vK (cS .u8 x2) λ x3 => vK (lI r0 (.int .u64 (.ofNat 16))) λ x4 => vK (cS .u8 x4) λ x5 => vK (lI r0 (.int .u64 (.ofNat 24))) λ x6 => vK (cS .u8 x6) λ x7 => eM 4 1 [(.int .u8 (.ofNat 0))] [(0, 1, x1), (1, 1, x3), (2, 1, x5), (3, 1, x7)] h λ x8 h9 => vK (iT h9.get x8) λ x10 => some (x10, h9)
theorem bFX : nE E bIg (aWw E) := Is.rf
def aJO : bQ := mX (aWw E)
theorem bAb : SQ bIg aJO := nK bFX
def aXm := cm 185
def aGP (r0 : DV) (h : H) : aV := dJ r0 h λ x1 h2 => vK (aP 2 x1) λ x3 => vK (aO h2.get x3) λ x4 => vK (fK x4 (ii 0)) λ x5 => aQ x5 true (λ kk => vK (aP 2 x1) λ v => kk v h2) h2 λ x6 h7 => aQ x5 true (λ kk => vK (aO h7.get x6) λ v => kk v h7) h7 λ x8 h9 => aQ x5 true (λ kk => vK (bY x8 (ii 16)) λ v => kk v h9) h9 λ x10 h11 => vK (aN x5 x10 (.bool false)) λ x12 => aQ x12 true (λ kk => vK (aP 3 x1) λ v => kk v h11) h11 λ x13 h14 => aQ x12 true (λ kk => vK (aO h14.get x13) λ v => kk v h14) h14 λ x15 h16 => aQ x12 true (λ kk => vK (fK x15 (ii 1)) λ v => kk v h16) h16 λ x17 h18 => vK (aN x12 x17 (.bool false)) λ x19 => aQ x19 true (λ kk => vK (aP 4 x1) λ v => kk v h18) h18 λ x20 h21 => aQ x19 true (λ kk => vK (aO h21.get x20) λ v => kk v h21) h21 λ x22 h23 => aQ x19 true (λ kk => vK (fK x22 (ii 0)) λ v => kk v h23) h23 λ x24 h25 => vK (aN x19 x24 (.bool false)) λ x26 => aQ x26 true (λ kk => vK (aP 4 x1) λ v => kk v h25) h25 λ x27 h28 => aQ x26 true (λ kk => vK (aO h28.get x27) λ v => kk v h28) h28 λ x29 h30 => aQ x26 true (λ kk => vK (tY x29 (ii 65536)) λ v => kk v h30) h30 λ x31 h32 => vK (aN x26 x31 (.bool false)) λ x33 => aQ x33 true (λ kk => vK (aP 5 x1) λ v => kk v h32) h32 λ x34 h35 => aQ x33 true (λ kk => vK (aO h35.get x34) λ v => kk v h35) h35 λ x36 h37 => aQ x33 true (λ kk => wK (aC E 201 [x36] h37) kk) h37 λ x38 h39 => vK (aN x33 x38 (.bool false)) λ x40 => some (x40, h39)
theorem bFW : nE E aXm (aGP E) := Is.rf
def aLJ : bQ := mX (aGP E)
theorem aOx : SQ aXm aLJ := nK bFW
def aXl := cm 186
def aWv (r0 : DV) (h : H) : aV := vK (dO [(ii 0)] []) λ x1 => wK (aC E 202 [r0, (.ifc 284 x1)] h) λ x2 h3 => vK (eT x2) λ x4 => bK x4 (some ((ii 0), h3)) (vK (aEt 284 (.agg [(ii 0)]) true r0) λ x5 => vK (aX 0 x5) λ x6 => vK (aX 1 x5) λ x7 => jG 1 1 (.list [(ii 0)]) h3 λ x8 h9 => wK (eK 1 x8 x6 h9) λ x10 h11 => vK (aP 0 x8) λ x12 => vK (aO h11.get x12) λ x13 => some (x13, h11))
theorem bFV : nE E aXl (aWv E) := Is.rf
def aVl : bQ := mX (aWv E)
theorem aOw : SQ aXl aVl := nK bFV
def aXk := cm 187
def aWu (r0 r1 : DV) (h : H) : aV := dJ r1 h λ x1 h2 => vK (dN .ptr false h2.get r0 .nilp) λ x3 => aQ x3 false (λ kk => vK (aP 0 x1) λ v => kk v h2) h2 λ x4 h5 => aQ x3 false (λ kk => vK (aO h5.get x4) λ v => kk v h5) h5 λ x6 h7 => aQ x3 false (λ kk => vK (bY x6 (ii 0)) λ v => kk v h7) h7 λ x8 h9 => vK (aN x3 (.bool true) x8) λ x10 => aQ x10 false (λ kk => vK (aP 0 x1) λ v => kk v h9) h9 λ x11 h12 => aQ x10 false (λ kk => vK (aO h12.get x11) λ v => kk v h12) h12 λ x13 h14 => aQ x10 false (λ kk => vK (fK x13 (ii 4096)) λ v => kk v h14) h14 λ x15 h16 => vK (aN x10 (.bool true) x15) λ x17 => aQ x17 false (λ kk => vK (dD 4 h16.get x1) λ v => kk v h16) h16 λ x18 h19 => aQ x17 false (λ kk => wK (aC E 203 [x18] h19) kk) h19 λ x20 h21 => aQ x17 false (λ kk => vK (eT x20) λ v => kk v h21) h21 λ x22 h23 => vK (aN x17 (.bool true) x22) λ x24 => bK x24 (vK (dO [(ii 0)] [(0, 1, (ii 1))]) λ x25 => some ((.ifc 284 x25), h23)) (vK (aP 0 x1) λ x26 => vK (aO h23.get x26) λ x27 => wK (aC E 188 [r0, x27] h23) λ x28 h29 => vK (aX 0 x28) λ x30 => vK (aX 1 x28) λ x31 => bK x31 (vK (dO [(ii 0)] [(0, 1, (ii 6))]) λ x32 => some ((.ifc 284 x32), h29)) (vK (aD r0) λ x33 => vK (aP 0 x33) λ x34 => vK (aO h29.get x34) λ x35 => vK (dD 4 h29.get x1) λ x36 => eM 1 4 [(ii 0), (ii 0), (ii 0), (ii 0)] [(0, 4, x36)] h29 λ x37 h38 => wK (aC E 204 [x35, x30, x37] h38) λ x39 h40 => vK (aD r0) λ x41 => vK (aP 0 x41) λ x42 => wK (eK 1 x42 x39 h40) λ x43 h44 => some (.nili, h44)))
theorem bFU : mQ E aXk (aWu E) := Is.rf
def aVk : bQ := mG (aWu E)
theorem aOv : SQ aXk aVk := mZ bFU
def aXj := cm 188
def aWt (r0 r1 : DV) (h : H) : aV := vK (aD r0) λ x1 => vK (aP 0 x1) λ x2 => vK (aO h.get x2) λ x3 => wK (aC E 205 [x3, r1, (.fn (.func 206) [] [])] h) λ x4 h5 => vK (aX 0 x4) λ x6 => vK (aX 1 x4) λ x7 => some ((.tup [x6, x7]), h5)
theorem bFT : mQ E aXj (aWt E) := Is.rf
def aVj : bQ := mG (aWt E)
theorem aOu : SQ aXj aVj := mZ bFT
def aXi := cm 199
def bIE := cr aXi.body
def aAQ (E : bH) (i1 : DV → DV → H → aV) (r0 r3 : DV) (h : H) : aV := vK (lI r0 (.int .u64 (.ofNat 1))) λ x1 => vK (qP r0 (.int .u32 (.ofNat 1))) λ x2 => vK (wL x2) λ x3 => vK (qP (.int .u32 (.ofNat 3988292384)) x3) λ x4 => vK (pK x1 x4) λ x5 => vK (jD r3 (ii 1)) λ x6 => vK (dW x6 (ii 0)) λ x7 => bK x7 (i1 x5 x6 h) (some (x5, h))
def aAJ (n : Nat) : DV → DV → H → aV := Nat.rec (motive := λ _ => DV → DV → H → aV) (λ _ _ _ => none) (λ _ i => aAQ E i) n
def aWr (r0 : DV) (h : H) : aV := vK (lI r0 (.int .u64 (.ofNat 1))) λ x1 => vK (qP r0 (.int .u32 (.ofNat 1))) λ x2 => vK (wL x2) λ x3 => vK (qP (.int .u32 (.ofNat 3988292384)) x3) λ x4 => vK (pK x1 x4) λ x5 => vK (jD (ii 8) (ii 1)) λ x6 => vK (dW x6 (ii 0)) λ x7 => bK x7 (aAJ E aT x5 x6 h) (some (x5, h))
def aWs (r0 : DV) (h : H) : aV := aWr E r0 h
theorem bFR : Is E bIE (bV aXi.res) (λ σ h => aWr E (σ p0) h) := Is.aq (Is.jm (g := 4294967296) (λ n1 σ h => aAJ E n1 (σ p0) (σ p3) h) (λ n1 => Is.aq (Is.leaf _)) (Is.leaf _))
theorem bFS : nE E aXi (aWs E) := Is.aq (Is.sq (bFR E) (Is.leaf _))
def aJN : bQ := mX (aWs E)
theorem bAa : SQ aXi aJN := nK bFS
def aHz := cm 201
def bID := cr (cr (cr aHz.body))
def bIC := cl (cr (cl (cr (cr aHz.body))))
def aMh (E : bH) (h : H) : aV := some ((.bool true), h)
def bJl (r0 r13 r14 : DV) (i2 : DV → H → aV) (r15 : DV) (h : H) : aV := vK (bY r15 r14) λ x1 => bK x1 (vK (cV 1 r13 r15) λ x2 => vK (aO h.get x2) λ x3 => vK (bY x3 (ii 0)) λ x4 => aQ x4 false (λ kk => kk x3 h) h λ x5 h6 => aQ x4 false (λ kk => vK (fK x5 (ii 64)) λ v => kk v h6) h6 λ x7 h8 => vK (aN x4 (.bool true) x7) λ x9 => aQ x9 false (λ kk => kk r0 h8) h8 λ x10 h11 => aQ x9 false (λ kk => kk r15 h11) h11 λ x12 h13 => aQ x9 false (λ kk => vK (fF 1 x10 none (some x12)) λ v => kk v h13) h13 λ x14 h15 => aQ x9 false (λ kk => kk x3 h15) h15 λ x16 h17 => aQ x9 false (λ kk => wK (aC E 72 [x14, x16] h17) kk) h17 λ x18 h19 => vK (aN x9 (.bool true) x18) λ x20 => bK x20 (some ((.bool false), h19)) (vK (cF r15 (ii 1)) λ x21 => i2 x21 h19)) (aMh E h)
def aLX (r0 r13 r14 : DV) (n : Nat) : DV → H → aV := Nat.rec (motive := λ _ => DV → H → aV) (λ _ _ => none) (λ _ i => bJl E r0 r13 r14 i) n
def aWq (r0 : DV) (h : H) : aV := vK (bO r0) λ x1 => vK (bY x1 (ii 2)) λ x2 => aQ x2 false (λ kk => kk r0 h) h λ x3 h4 => aQ x2 false (λ kk => vK (bO x3) λ v => kk v h4) h4 λ x5 h6 => aQ x2 false (λ kk => vK (dW x5 (ii 8)) λ v => kk v h6) h6 λ x7 h8 => vK (aN x2 (.bool true) x7) λ x9 => bK x9 (some ((.bool false), h8)) (vK (bO r0) λ x10 => aLX E r0 r0 x10 aT (ii 0) h8)
theorem bFP : Is E bID (bV aHz.res) (λ σ h => aMh E h) := Is.rf
abbrev bFs : iL (DV × H) := (bZ 0 (cK (λ σ h => aMh E h) (bV aHz.res)))
theorem bFO : Is E bIC (bFs E) (λ σ h => aLX E (σ p0) (σ tI) (σ wN) aT (σ p15) h) := Is.lp (λ n2 σ h => aLX E (σ p0) (σ tI) (σ wN) n2 (σ p15) h) λ n2 => Is.aq (Is.leaf _)
theorem bFQ : nE E aHz (aWq E) := Is.aq (Is.sq (Is.sq (Is.sq (bFP E) (Is.sq (Is.bk (bFO E)) (Is.leaf _))) (Is.leaf _)) (Is.leaf _))
def aVi : bQ := mX (aWq E)
theorem aOt : SQ aHz aVi := nK bFQ
def aXh := cm 202
def aWp (r0 r1 : DV) (h : H) : aV := vK (dN .nilI false h.get r0 .nili) λ x1 => aQ x1 false (λ kk => kk r1 h) h λ x2 h3 => aQ x1 false (λ kk => vK (dN .nilI false h3.get x2 .nili) λ v => kk v h3) h3 λ x4 h5 => vK (aN x1 (.bool true) x4) λ x6 => bK x6 (vK (dN .nilD false h5.get r0 r1) λ x7 => some (x7, h5)) (wK (aC E 209 [r1] h5) λ x8 h9 => wK (aJz E [] x8 [] h9) λ x10 h11 => wK (aC E 210 [r0, r1, x10] h11) λ x12 h13 => some (x12, h13))
theorem bFN : mQ E aXh (aWp E) := Is.rf
def aVh : bQ := mG (aWp E)
theorem aOs : SQ aXh aVh := mZ bFN
def aXg := cm 203
def aGO (E : bH) (r0 : DV) (h : H) : aV := dJ r0 h λ x1 h2 => vK (aP 1 x1) λ x3 => vK (aO h2.get x3) λ x4 => vK (fK x4 (ii 1)) λ x5 => aQ x5 true (λ kk => vK (aP 1 x1) λ v => kk v h2) h2 λ x6 h7 => aQ x5 true (λ kk => vK (aO h7.get x6) λ v => kk v h7) h7 λ x8 h9 => aQ x5 true (λ kk => vK (tY x8 (ii 65536)) λ v => kk v h9) h9 λ x10 h11 => vK (aN x5 x10 (.bool false)) λ x12 => aQ x12 true (λ kk => vK (aP 2 x1) λ v => kk v h11) h11 λ x13 h14 => aQ x12 true (λ kk => vK (aO h14.get x13) λ v => kk v h14) h14 λ x15 h16 => aQ x12 true (λ kk => vK (fK x15 (ii 0)) λ v => kk v h16) h16 λ x17 h18 => vK (aN x12 x17 (.bool false)) λ x19 => aQ x19 true (λ kk => vK (aP 2 x1) λ v => kk v h18) h18 λ x20 h21 => aQ x19 true (λ kk => vK (aO h21.get x20) λ v => kk v h21) h21 λ x22 h23 => aQ x19 true (λ kk => vK (aP 1 x1) λ v => kk v h23) h23 λ x24 h25 => aQ x19 true (λ kk => vK (aO h25.get x24) λ v => kk v h25) h25 λ x26 h27 => aQ x19 true (λ kk => vK (tY x22 x26) λ v => kk v h27) h27 λ x28 h29 => vK (aN x19 x28 (.bool false)) λ x30 => aQ x30 true (λ kk => vK (aP 3 x1) λ v => kk v h29) h29 λ x31 h32 => aQ x30 true (λ kk => vK (aO h32.get x31) λ v => kk v h32) h32 λ x33 h34 => aQ x30 true (λ kk => vK (fK x33 (ii 0)) λ v => kk v h34) h34 λ x35 h36 => vK (aN x30 x35 (.bool false)) λ x37 => aQ x37 true (λ kk => vK (aP 3 x1) λ v => kk v h36) h36 λ x38 h39 => aQ x37 true (λ kk => vK (aO h39.get x38) λ v => kk v h39) h39 λ x40 h41 => aQ x37 true (λ kk => vK (tY x40 (ii 1099511627776)) λ v => kk v h41) h41 λ x42 h43 => vK (aN x37 x42 (.bool false)) λ x44 => some (x44, h43)
theorem bFM : nE E aXg (aGO E) := Is.rf
def aLI : bQ := mX (aGO E)
theorem aOr : SQ aXg aLI := nK bFM
def aXf := cm 204
def aWo (r0 r1 r2 : DV) (h : H) : aV := vK (fF 4 r0 (some r1) none) λ x1 => vK (bO r2) λ x2 => vK (cR x2 (ii 0)) λ x3 => bK x3 (some (r0, h)) (vK (bO r0) λ x4 => vK (cR r1 x4) λ x5 => bK x5 (wK (cT 4 32 r0 r2 h) λ x6 h7 => some (x6, h7)) (vK (cF x4 x2) λ x8 => vK (aCh r0) λ x9 => vK (dW x8 x9) λ x10 => bK x10 (vK (fF 4 r0 none (some r1)) λ x11 => vK (cF x4 x2) λ x12 => vK (jD x12 r1) λ x13 => wK (aEn 4 32 [(ii 0), (ii 0), (ii 0), (ii 0)] x11 x13 h) λ x14 h15 => vK (fF 4 x14 (some r1) none) λ x16 => wK (lC 4 x16 r2 h15) λ x17 h18 => vK (cF r1 x2) λ x19 => vK (fF 4 x14 (some x19) none) λ x20 => vK (fF 4 r0 (some r1) none) λ x21 => wK (lC 4 x20 x21 h18) λ x22 h23 => some (x14, h23)) (vK (cF x4 x2) λ x24 => vK (fF 4 r0 none (some x24)) λ x25 => vK (cF r1 x2) λ x26 => vK (fF 4 x25 (some x26) none) λ x27 => vK (aHQ h.get r2 x27) λ x28 => vK (eT x28) λ x29 => bK x29 (vK (cF r1 x2) λ x30 => vK (fF 4 x25 (some x30) none) λ x31 => vK (fF 4 x25 (some r1) none) λ x32 => wK (lC 4 x31 x32 h) λ x33 h34 => vK (fF 4 x25 (some r1) none) λ x35 => wK (lC 4 x35 r2 h34) λ x36 h37 => some (x25, h37)) (vK (fF 4 x25 (some x4) none) λ x38 => wK (lC 4 x38 r2 h) λ x39 h40 => vK (fF 4 x25 (some r1) none) λ x41 => wK (aC E 212 [x41, x2] h40) λ x42 h43 => some (x25, h43)))))
theorem bFL : iB3 E aXf (aWo E) := Is.rf
def aVg : bQ := fA3 (aWo E)
theorem aOq : SQ aXf aVg := eB3 bFL
def aHy := cm 205
def bIB := cr (cr (cr (cr aHy.body)))
def bIA := cl (cl (cr (cr (cr aHy.body))))
def aMg (r0 r1 r2 r8 r9 : DV) (h : H) : aV := vK (bY r9 r8) λ x1 => aQ x1 true (λ kk => kk r2 h) h λ x2 h3 => aQ x1 true (λ kk => kk r0 h3) h3 λ x4 h5 => aQ x1 true (λ kk => kk r9 h5) h5 λ x6 h7 => aQ x1 true (λ kk => vK (cV 4 x4 x6) λ v => kk v h7) h7 λ x8 h9 => aQ x1 true (λ kk => vK (dD 4 h9.get x8) λ v => kk v h9) h9 λ x10 h11 => aQ x1 true (λ kk => kk r1 h11) h11 λ x12 h13 => aQ x1 true (λ kk => wK (lU E x2 [x10, x12] h13) kk) h13 λ x14 h15 => aQ x1 true (λ kk => vK (cR x14 (ii 0)) λ v => kk v h15) h15 λ x16 h17 => vK (aN x1 x16 (.bool false)) λ x18 => some ((.tup [r9, x18]), h17)
def bJk (r0 r1 r2 r8 : DV) (i2 : DV → DV → H → aV) (r9 r10 : DV) (h : H) : aV := vK (bY r9 r10) λ x1 => bK x1 (vK (cF r9 r10) λ x2 => vK (cS .u64 x2) λ x3 => vK (lI x3 (.int .u64 (.ofNat 1))) λ x4 => vK (cS .i64 x4) λ x5 => vK (cV 4 r0 x5) λ x6 => vK (dD 4 h.get x6) λ x7 => wK (lU E r2 [x7, r1] h) λ x8 h9 => vK (bY x8 (ii 0)) λ x10 => bK x10 (vK (cF x5 (ii 1)) λ x11 => i2 x11 r10 h9) (i2 r9 x5 h9)) (aMg E r0 r1 r2 r8 r9 h)
def aLW (r0 r1 r2 r8 : DV) (n : Nat) : DV → DV → H → aV := Nat.rec (motive := λ _ => DV → DV → H → aV) (λ _ _ _ => none) (λ _ i => bJk E r0 r1 r2 r8 i) n
def aWn (r0 r1 r2 : DV) (h : H) : aV := vK (bO r0) λ x1 => aLW E r0 r1 r2 x1 aT (ii 0) x1 h
theorem bFJ : Is E bIB (bV aHy.res) (λ σ h => aMg E (σ p0) (σ p1) (σ p2) (σ p8) (σ p9) h) := Is.rf
abbrev bFr : iL (DV × H) := (cK (λ σ h => aMg E (σ p0) (σ p1) (σ p2) (σ p8) (σ p9) h) (bV aHy.res))
theorem bFI : Is E bIA (bZ 0 (bFr E)) (λ σ h => aLW E (σ p0) (σ p1) (σ p2) (σ p8) aT (σ p9) (σ mC) h) := Is.lp (λ n2 σ h => aLW E (σ p0) (σ p1) (σ p2) (σ p8) n2 (σ p9) (σ mC) h) λ n2 => Is.aq (Is.leaf _)
theorem bFK : iB3 E aHy (aWn E) := Is.aq (Is.sq (Is.sq (Is.sq (Is.sq (bFJ E) (Is.bk (bFI E))) (Is.leaf _)) (Is.leaf _)) (Is.leaf _))
def aVf : bQ := fA3 (aWn E)
theorem aOp : SQ aHy aVf := eB3 bFK
def aXe := cm 206
def aWm (E : bH) (r0 r1 : DV) (h : H) : aV := dJ r0 h λ x1 h2 => vK (aP 0 x1) λ x3 => vK (aO h2.get x3) λ x4 => vK (bY x4 r1) λ x5 => bK x5 (some ((.int .i64 (.negSucc 0)), h2)) (vK (aP 0 x1) λ x6 => vK (aO h2.get x6) λ x7 => vK (dW x7 r1) λ x8 => bK x8 (some ((ii 1), h2)) (some ((ii 0), h2)))
theorem bFH : mQ E aXe (aWm E) := Is.rf
def aVe : bQ := mG (aWm E)
theorem aOo : SQ aXe aVe := mZ bFH
def fs1 : List FD := [⟨158, aXo, aVo⟩, ⟨159, aXn, aVn⟩, ⟨178, bIj, aRy⟩, ⟨179, bIi, aLL⟩, ⟨180, aME, aVm⟩, ⟨181, bIh, aJP⟩, ⟨182, aMD, aLK⟩, ⟨183, bIg, aJO⟩, ⟨185, aXm, aLJ⟩, ⟨186, aXl, aVl⟩, ⟨187, aXk, aVk⟩, ⟨188, aXj, aVj⟩, ⟨199, aXi, aJN⟩, ⟨201, aHz, aVi⟩, ⟨202, aXh, aVh⟩, ⟨203, aXg, aLI⟩, ⟨204, aXf, aVg⟩, ⟨205, aHy, aVf⟩, ⟨206, aXe, aVe⟩]
theorem bDH : rJ fs1 := ⟨aOz, ⟨aOy, ⟨bAg, ⟨bAf, ⟨bAe, ⟨bAd, ⟨bAc, ⟨bAb, ⟨aOx, ⟨aOw, ⟨aOv, ⟨aOu, ⟨bAa, ⟨aOt, ⟨aOs, ⟨aOr, ⟨aOq, ⟨aOp, ⟨aOo, trivial⟩⟩⟩⟩⟩⟩⟩⟩⟩⟩⟩⟩⟩⟩⟩⟩⟩⟩⟩
end Go.Proofs.YthpciaidbgjoeaaGreat
end

/- More of the program's functions. No condition. -/
import Derived.Test.YthpciaidbgjoeaaGreatC0
set_option linter.unusedVariables false
noncomputable section
namespace Go.Proofs.YthpciaidbgjoeaaGreat
open Go.DI
variable (E : aQ)
def aNK := cm 136
def bNo := cr (cr aNK.body)
def aNR := cl (cr (cl (cr aNK.body)))
def bNn := cr (cr (cr (cl aNR)))
def bNm := cr (cr (cr (cl (cl (cr (cr (cl aNR)))))))
def aNp (E : aQ) (h : H) : aL := some ((ii 0), h)
def aHO (E : aQ) (i2 : DV → H → aL) (r12 : DV) (h : H) : aL := vK (bW r12 (ii 1)) λ x1 => i2 x1 h
def aHN (i2 : DV → H → aL) (r0 r9 r12 : DV) (h : H) : aL := vK (cW r9 (ii 0)) λ x1 => bK x1 (vK (aC r0) λ x2 => vK (aG 2 x2) λ x3 => wK (dD 1 x3 (.bool true) h) λ x4 h5 => some (r9, h5)) (aHO E i2 r12 h)
def aEx (r0 r1 r10 r11 : DV) (i2 : DV → H → aL) (r12 : DV) (h : H) : aL := vK (bO r12 r11) λ x1 => bK x1 (vK (bY 1 r10 r12) λ x2 => vK (aF h.get x2) λ x3 => vK (bO r1 (ii 0)) λ x4 => aJ x4 false (λ kk => kk r12 h) h λ x5 h6 => aJ x4 false (λ kk => kk r1 h6) h6 λ x7 h8 => aJ x4 false (λ kk => vK (bO x5 x7) λ v => kk v h8) h8 λ x9 h10 => vK (aH x4 (.bool true) x9) λ x11 => bK x11 (wK (lK E x3 [] h10) λ x12 h13 => aHN E i2 r0 x12 r12 h13) (aHN E i2 r0 (ii 16) r12 h10)) (aNp E h)
def nT (r0 r1 r10 r11 : DV) (n : Nat) : DV → H → aL := Nat.rec (motive := λ _ => DV → H → aL) (λ _ _ => none) (λ _ i => aEx E r0 r1 r10 r11 i) n
def aHP (r0 r1 r2 : DV) (h : H) : aL := vK (aO r2) λ x1 => nT E r0 r1 r2 x1 aK (ii 0) h
theorem bKV : Is E bNo (bB aNK.res) (λ σ h => aNp E h) := Is.rf
abbrev aYv : gS (DV × H) := (bF 0 (bU (λ σ h => aNp E h) (bB aNK.res)))
abbrev aYu (n2 : Nat) : gS (DV × H) := (bU (λ σ h => (nT E (σ p0) (σ p1) (σ nI) (σ p11) n2) (σ nN) h) (aYv E))
theorem bKT (n2 : Nat) : Is E bNn (aYu E n2) (λ σ h => aHO E (nT E (σ p0) (σ p1) (σ nI) (σ p11) n2) (σ nN) h) := Is.rf
abbrev bJw (n2 : Nat) : gS (DV × H) := (bU (λ σ h => aHO E (nT E (σ p0) (σ p1) (σ nI) (σ p11) n2) (σ nN) h) (aYu E n2))
theorem bKS (n2 : Nat) : Is E bNm (bF 1 (bJw E n2)) (λ σ h => aHN E (nT E (σ p0) (σ p1) (σ nI) (σ p11) n2) (σ p0) (σ p9) (σ nN) h) := Is.rf
theorem bKU : Is E aNR (aYv E) (λ σ h => nT E (σ p0) (σ p1) (σ nI) (σ p11) aK (σ nN) h) := Is.lp (λ n2 σ h => nT E (σ p0) (σ p1) (σ nI) (σ p11) n2 (σ nN) h) λ n2 => Is.aq (Is.sq (Is.sq (Is.sq (bKT E n2) (Is.bk (Is.sq (Is.sq (Is.sq (bKS E n2) (Is.leaf _)) (Is.leaf _)) (Is.leaf _)))) (Is.leaf _)) (Is.leaf _))
theorem bKW : iB3 E aNK (aHP E) := Is.aq (Is.sq (Is.sq (bKV E) (Is.sq (Is.bk (bKU E)) (Is.leaf _))) (Is.leaf _))
def aTs : bC := fA3 (aHP E)
theorem bDA : SQ aNK aTs := eB3 bKW
def bMI := cm 137
def aHM (E : aQ) (r0 r1 r2 : DV) (h : H) : aL := cY r0 h λ x1 h2 => cY r1 h2 λ x3 h4 => cY r2 h4 λ x5 h6 => some ((.fn (.func 179) [] [x1, x3, x5]), h6)
theorem bKR : iB3 E bMI (aHM E) := Is.rf
def aTr : bC := fA3 (aHM E)
theorem bDz : SQ bMI aTr := eB3 bKR
def bMH := cm 138
def aHL (r0 : DV) (h : H) : aL := vK (aC r0) λ x1 => vK (aG 0 x1) λ x2 => vK (aF h.get x2) λ x3 => wK (aB E 181 [x3] h) λ x4 h5 => some ((ii 0), h5)
theorem bKQ : lZ E bMH (aHL E) := Is.rf
def aMQ : bC := lY (aHL E)
theorem bDy : SQ bMH aMQ := mD bKQ
def bAh := cm 139
def aZn (E : aQ) (r0 r1 : DV) (h : H) : aL := vK (cM .ptr false h.get r0 .nilp) λ x1 => aJ x1 false (λ kk => kk r1 h) h λ x2 h3 => aJ x1 false (λ kk => vK (bO x2 (ii 0)) λ v => kk v h3) h3 λ x4 h5 => vK (aH x1 (.bool true) x4) λ x6 => aJ x6 false (λ kk => kk r1 h5) h5 λ x7 h8 => aJ x6 false (λ kk => kk r0 h8) h8 λ x9 h10 => aJ x6 false (λ kk => vK (aC x9) λ v => kk v h10) h10 λ x11 h12 => aJ x6 false (λ kk => vK (aG 0 x11) λ v => kk v h12) h12 λ x13 h14 => aJ x6 false (λ kk => vK (aF h14.get x13) λ v => kk v h14) h14 λ x15 h16 => aJ x6 false (λ kk => vK (aO x15) λ v => kk v h16) h16 λ x17 h18 => aJ x6 false (λ kk => vK (eQ x7 x17) λ v => kk v h18) h18 λ x19 h20 => vK (aH x6 (.bool true) x19) λ x21 => bK x21 (some (.nilp, h20)) (vK (aC r0) λ x22 => vK (aG 0 x22) λ x23 => vK (aF h20.get x23) λ x24 => vK (bY 6 x24 r1) λ x25 => some (x25, h20))
theorem bKP : jY E bAh (aZn E) := Is.rf
def aXX : bC := jU (aZn E)
theorem aQi : SQ bAh aXX := kG bKP
def bAg := cm 140
def aZm (E : aQ) (r0 : DV) (h : H) : aL := vK (cM .nilL false h.get r0 .nils) λ x1 => bK x1 (some (.nils, h)) (dI 0 1 [(ii 0)] [] h λ x2 h3 => wK (cJ 1 8 x2 r0 h3) λ x4 h5 => some (x4, h5))
theorem bKO : lZ E bAg (aZm E) := Is.rf
def aXW : bC := lY (aZm E)
theorem aQh : SQ bAg aXW := mD bKO
def bMG := cm 141
def aZl (E : aQ) (h : H) : aL := none
theorem bKN : jY E bMG (λ _ _ h => aZl E h) := Is.rf
def bJg : bC := jU (λ _ _ h => aZl E h)
theorem bDx : SQ bMG bJg := kG bKN
def bMF := cm 142
def aAY (r0 r1 : DV) (h : H) : aL := cY r1 h λ x1 h2 => vK (cM .ptr false h2.get r0 .nilp) λ x3 => bK x3 (some ((.tup [(.str []), (ii 1)]), h2)) (vK (cX 2 h2.get x1) λ x4 => wK (aB E 75 [r0, x4] h2) λ x5 h6 => vK (bO x5 (ii 0)) λ x7 => bK x7 (some ((.tup [(.str []), (ii 7)]), h6)) (vK (aC r0) λ x8 => vK (aG 2 x8) λ x9 => vK (aF h6.get x9) λ x10 => bK x10 (some ((.tup [(.str []), (ii 16)]), h6)) (vK (aC r0) λ x11 => vK (aG 0 x11) λ x12 => vK (aF h6.get x12) λ x13 => vK (mB x5 (ii 9)) λ x14 => vK (bW x14 (ii 1)) λ x15 => wK (aB E 73 [x13, x15, (ii 8)] h6) λ x16 h17 => vK (aN 0 x16) λ x18 => vK (aN 1 x16) λ x19 => vK (cW x19 (ii 0)) λ x20 => bK x20 (some ((.tup [(.str []), x19]), h17)) (vK (aC r0) λ x21 => vK (aG 1 x21) λ x22 => vK (aF h17.get x22) λ x23 => vK (bY 4 x23 x5) λ x24 => vK (aG 3 x24) λ x25 => vK (aF h17.get x25) λ x26 => vK (jH x18 none (some x26)) λ x27 => some ((.tup [x27, (ii 0)]), h17)))))
theorem bKM : jY E bMF (aAY E) := Is.rf
def aXV : bC := jU (aAY E)
theorem bDw : SQ bMF aXV := kG bKM
def aIn := cm 143
def bNl := cr (cr (cr aIn.body))
def bNk := cl (cr (cl (cr (cr aIn.body))))
def aNo (E : aQ) (h : H) : aL := some ((.bool true), h)
def bNN (r0 r13 r14 : DV) (i2 : DV → H → aL) (r15 : DV) (h : H) : aL := vK (bO r15 r14) λ x1 => bK x1 (vK (bY 1 r13 r15) λ x2 => vK (aF h.get x2) λ x3 => vK (bO x3 (ii 0)) λ x4 => aJ x4 false (λ kk => kk x3 h) h λ x5 h6 => aJ x4 false (λ kk => vK (dO x5 (ii 63)) λ v => kk v h6) h6 λ x7 h8 => vK (aH x4 (.bool true) x7) λ x9 => aJ x9 false (λ kk => kk r0 h8) h8 λ x10 h11 => aJ x9 false (λ kk => kk r15 h11) h11 λ x12 h13 => aJ x9 false (λ kk => vK (eV 1 x10 none (some x12)) λ v => kk v h13) h13 λ x14 h15 => aJ x9 false (λ kk => kk x3 h15) h15 λ x16 h17 => aJ x9 false (λ kk => wK (aB E 72 [x14, x16] h17) kk) h17 λ x18 h19 => vK (aH x9 (.bool true) x18) λ x20 => bK x20 (some ((.bool false), h19)) (vK (bW r15 (ii 1)) λ x21 => i2 x21 h19)) (aNo E h)
def aNc (r0 r13 r14 : DV) (n : Nat) : DV → H → aL := Nat.rec (motive := λ _ => DV → H → aL) (λ _ _ => none) (λ _ i => bNN E r0 r13 r14 i) n
def aZk (r0 : DV) (h : H) : aL := vK (aO r0) λ x1 => vK (bO x1 (ii 2)) λ x2 => aJ x2 false (λ kk => kk r0 h) h λ x3 h4 => aJ x2 false (λ kk => vK (aO x3) λ v => kk v h4) h4 λ x5 h6 => aJ x2 false (λ kk => vK (dO x5 (ii 8)) λ v => kk v h6) h6 λ x7 h8 => vK (aH x2 (.bool true) x7) λ x9 => bK x9 (some ((.bool false), h8)) (vK (aO r0) λ x10 => aNc E r0 r0 x10 aK (ii 0) h8)
theorem bKK : Is E bNl (bB aIn.res) (λ σ h => aNo E h) := Is.rf
abbrev bJv : gS (DV × H) := (bF 0 (bU (λ σ h => aNo E h) (bB aIn.res)))
theorem bKJ : Is E bNk (bJv E) (λ σ h => aNc E (σ p0) (σ sU) (σ tW) aK (σ xW) h) := Is.lp (λ n2 σ h => aNc E (σ p0) (σ sU) (σ tW) n2 (σ xW) h) λ n2 => Is.aq (Is.leaf _)
theorem bKL : lZ E aIn (aZk E) := Is.aq (Is.sq (Is.sq (Is.sq (bKK E) (Is.sq (Is.bk (bKJ E)) (Is.leaf _))) (Is.leaf _)) (Is.leaf _))
def aXU : bC := lY (aZk E)
theorem aQg : SQ aIn aXU := mD bKL
def bAf := cm 144
def aZj (E : aQ) (r0 r1 r2 : DV) (h : H) : aL := vK (bW r2 r1) λ x1 => vK (aO r0) λ x2 => vK (aCz x1 x2) λ x3 => some (x3, h)
theorem bKI : iB3 E bAf (aZj E) := Is.rf
def aXT : bC := fA3 (aZj E)
theorem aQf : SQ bAf aXT := eB3 bKI
def bME := cm 145
def aHK (E : aQ) (r0 : DV) (h : H) : aL := vK (cN .u8 r0) λ x1 => vK (lN r0 (.int .u64 (.ofNat 8))) λ x2 => vK (cN .u8 x2) λ x3 => vK (lN r0 (.int .u64 (.ofNat 16))) λ x4 => vK (cN .u8 x4) λ x5 => vK (lN r0 (.int .u64 (.ofNat 24))) λ x6 => vK (cN .u8 x6) λ x7 => dI 4 1 [(.int .u8 (.ofNat 0))] [(0, 1, x1), (1, 1, x3), (2, 1, x5), (3, 1, x7)] h λ x8 h9 => vK (kF h9.get x8) λ x10 => some (x10, h9)
theorem bKH : lZ E bME (aHK E) := Is.rf
def aKF : bC := lY (aHK E)
theorem bDv : SQ bME aKF := mD bKH
def bMD := cm 146
def aHJ (r0 : DV) (h : H) : aL := wK (aB E 182 [(.int .u32 (.ofNat 0)), r0] h) λ x1 h2 => some (x1, h2)
theorem bKG : lZ E bMD (aHJ E) := Is.rf
def aEO : bC := lY (aHJ E)
theorem bDu : SQ bMD aEO := mD bKG
def bMC := cm 147
def aHI (r0 : DV) (h : H) : aL := wK (aB E 146 [r0] h) λ x1 h2 => wK (aB E 183 [x1] h2) λ x3 h4 => vK (bW r0 x3) λ x5 => some (x5, h4)
theorem bKF : lZ E bMC (aHI E) := Is.rf
def aTq : bC := lY (aHI E)
theorem bDt : SQ bMC aTq := mD bKF
def bAe := cm 148
def aHH (E : aQ) (r0 : DV) (h : H) : aL := vK (cM .ptr true h.get r0 .nilp) λ x1 => bK x1 (vK (aC r0) λ x2 => vK (aG 0 x2) λ x3 => wK (dD 1 x3 (.str []) h) λ x4 h5 => vK (aC r0) λ x6 => vK (aG 1 x6) λ x7 => wK (dD 1 x7 (.bool true) h5) λ x8 h9 => some ((.tup []), h9)) (some ((.tup []), h))
theorem bKE : lZ E bAe (aHH E) := Is.rf
def aMP : bC := lY (aHH E)
theorem aQe : SQ bAe aMP := mD bKE
def aIm := cm 149
def bNj := cr (cr (cr aIm.body))
def bNi := cl (cr (cl (cr (cr aIm.body))))
def aEm (E : aQ) (h : H) : aL := some ((.tup [(.int .u64 (.ofNat 0)), (ii 0)]), h)
def aEw (r0 r9 : DV) (i2 : DV → DV → H → aL) (r4 r10 : DV) (h : H) : aL := vK (bO r10 r9) λ x1 => bK x1 (vK (oP r0 r10) λ x2 => vK (cN .u64 x2) λ x3 => vK (qV x3 (.int .u64 (.ofNat 127))) λ x4 => vK (mB (ii 7) r10) λ x5 => vK (uB x4 x5) λ x6 => vK (aED r4 x6) λ x7 => vK (eQ x3 (.int .u64 (.ofNat 128))) λ x8 => bK x8 (vK (bW r10 (ii 1)) λ x9 => i2 x7 x9 h) (vK (dO r10 (ii 0)) λ x10 => aJ x10 true (λ kk => kk x3 h) h λ x11 h12 => aJ x10 true (λ kk => vK (cF x11 (.int .u64 (.ofNat 0))) λ v => kk v h12) h12 λ x13 h14 => vK (aH x10 x13 (.bool false)) λ x15 => aJ x15 false (λ kk => kk r10 h14) h14 λ x16 h17 => aJ x15 false (λ kk => vK (cF x16 (ii 9)) λ v => kk v h17) h17 λ x18 h19 => aJ x15 false (λ kk => kk x18 h19) h19 λ x20 h21 => aJ x20 true (λ kk => kk x3 h21) h21 λ x22 h23 => aJ x20 true (λ kk => vK (dO x22 (.int .u64 (.ofNat 1))) λ v => kk v h23) h23 λ x24 h25 => aJ x15 false (λ kk => vK (aH x20 x24 (.bool false)) λ v => kk v h25) h25 λ x26 h27 => vK (aH x15 (.bool true) x26) λ x28 => bK x28 (some ((.tup [(.int .u64 (.ofNat 0)), (ii 0)]), h27)) (vK (bW r10 (ii 1)) λ x29 => some ((.tup [x7, x29]), h27)))) (aEm E h)
def aAW (r0 r9 : DV) (n : Nat) : DV → DV → H → aL := Nat.rec (motive := λ _ => DV → DV → H → aL) (λ _ _ _ => none) (λ _ i => aEw E r0 r9 i) n
def aHG (r0 : DV) (h : H) : aL := vK (eI r0) λ x1 => vK (xM x1 (ii 10)) λ x2 => aAW E r0 x2 aK (.int .u64 (.ofNat 0)) (ii 0) h
theorem bKC : Is E bNj (bB aIm.res) (λ σ h => aEm E h) := Is.rf
abbrev bJu : gS (DV × H) := (bF 0 (bU (λ σ h => aEm E h) (bB aIm.res)))
theorem bKB : Is E bNi (bJu E) (λ σ h => aAW E (σ p0) (σ p9) aK (σ p4) (σ nI) h) := Is.lp (λ n2 σ h => aAW E (σ p0) (σ p9) n2 (σ p4) (σ nI) h) λ n2 => Is.aq (Is.leaf _)
theorem bKD : lZ E aIm (aHG E) := Is.aq (Is.sq (Is.sq (Is.sq (bKC E) (Is.sq (Is.bk (bKB E)) (Is.leaf _))) (Is.leaf _)) (Is.leaf _))
def aMO : bC := lY (aHG E)
theorem aQd : SQ aIm aMO := mD bKD
def bAd := cm 150
def aZi (E : aQ) (r0 r1 : DV) (h : H) : aL := vK (aF h.get r1) λ x1 => vK (cN .u8 x1) λ x2 => dI 1 1 [(.int .u8 (.ofNat 0))] [(0, 1, x2)] h λ x3 h4 => wK (cJ 1 1 r0 x3 h4) λ x5 h6 => some (x5, h6)
theorem bKA : jY E bAd (aZi E) := Is.rf
def aXS : bC := jU (aZi E)
theorem aQc : SQ bAd aXS := kG bKA
def aIl := cm 151
def bNh := cr (cr (cr aIl.body))
def bNg := cl (cr (cl (cr (cr aIl.body))))
def aNn (E : aQ) (r0 : DV) (h : H) : aL := some (r0, h)
def bNM (r10 r11 : DV) (i2 : DV → DV → H → aL) (r0 r12 : DV) (h : H) : aL := vK (bO r12 r11) λ x1 => bK x1 (vK (bY 1 r10 r12) λ x2 => vK (aF h.get x2) λ x3 => wK (aB E 116 [r0, x3] h) λ x4 h5 => vK (bW r12 (ii 1)) λ x6 => i2 x4 x6 h5) (aNn E r0 h)
def aNb (r10 r11 : DV) (n : Nat) : DV → DV → H → aL := Nat.rec (motive := λ _ => DV → DV → H → aL) (λ _ _ _ => none) (λ _ i => bNM E r10 r11 i) n
def aZh (r0 r1 : DV) (h : H) : aL := vK (aF h.get r1) λ x1 => vK (aO x1) λ x2 => wK (aB E 116 [r0, x2] h) λ x3 h4 => vK (aF h4.get r1) λ x5 => vK (aO x5) λ x6 => aNb E x5 x6 aK x3 (ii 0) h4
theorem bKy : Is E bNh (bB aIl.res) (λ σ h => aNn E (σ p0) h) := Is.rf
abbrev bJt : gS (DV × H) := (bU (λ σ h => aNn E (σ p0) h) (bB aIl.res))
theorem bKx : Is E bNg (bF 0 (bJt E)) (λ σ h => aNb E (σ nI) (σ p11) aK (σ p0) (σ nN) h) := Is.lp (λ n2 σ h => aNb E (σ nI) (σ p11) n2 (σ p0) (σ nN) h) λ n2 => Is.aq (Is.leaf _)
theorem bKz : jY E aIl (aZh E) := Is.aq (Is.sq (Is.sq (Is.sq (bKy E) (Is.sq (Is.bk (bKx E)) (Is.leaf _))) (Is.leaf _)) (Is.leaf _))
def aXR : bC := jU (aZh E)
theorem aQb : SQ aIl aXR := kG bKz
def aIk := cm 152
def bNf := cr (cr (cr (cr aIk.body)))
def bNe := cl (cl (cr (cr (cr aIk.body))))
def aNm (r0 r1 r2 r8 r9 : DV) (h : H) : aL := vK (bO r9 r8) λ x1 => aJ x1 true (λ kk => kk r2 h) h λ x2 h3 => aJ x1 true (λ kk => kk r0 h3) h3 λ x4 h5 => aJ x1 true (λ kk => kk r9 h5) h5 λ x6 h7 => aJ x1 true (λ kk => vK (bY 3 x4 x6) λ v => kk v h7) h7 λ x8 h9 => aJ x1 true (λ kk => vK (cX 3 h9.get x8) λ v => kk v h9) h9 λ x10 h11 => aJ x1 true (λ kk => kk r1 h11) h11 λ x12 h13 => aJ x1 true (λ kk => wK (lK E x2 [x10, x12] h13) kk) h13 λ x14 h15 => aJ x1 true (λ kk => vK (cF x14 (ii 0)) λ v => kk v h15) h15 λ x16 h17 => vK (aH x1 x16 (.bool false)) λ x18 => some ((.tup [r9, x18]), h17)
def bNL (r0 r1 r2 r8 : DV) (i2 : DV → DV → H → aL) (r9 r10 : DV) (h : H) : aL := vK (bO r9 r10) λ x1 => bK x1 (vK (bW r9 r10) λ x2 => vK (cN .u64 x2) λ x3 => vK (lN x3 (.int .u64 (.ofNat 1))) λ x4 => vK (cN .i64 x4) λ x5 => vK (bY 3 r0 x5) λ x6 => vK (cX 3 h.get x6) λ x7 => wK (lK E r2 [x7, r1] h) λ x8 h9 => vK (bO x8 (ii 0)) λ x10 => bK x10 (vK (bW x5 (ii 1)) λ x11 => i2 x11 r10 h9) (i2 r9 x5 h9)) (aNm E r0 r1 r2 r8 r9 h)
def aNa (r0 r1 r2 r8 : DV) (n : Nat) : DV → DV → H → aL := Nat.rec (motive := λ _ => DV → DV → H → aL) (λ _ _ _ => none) (λ _ i => bNL E r0 r1 r2 r8 i) n
def aZg (r0 r1 r2 : DV) (h : H) : aL := vK (aO r0) λ x1 => aNa E r0 r1 r2 x1 aK (ii 0) x1 h
theorem bKv : Is E bNf (bB aIk.res) (λ σ h => aNm E (σ p0) (σ p1) (σ p2) (σ p8) (σ p9) h) := Is.rf
abbrev bJs : gS (DV × H) := (bU (λ σ h => aNm E (σ p0) (σ p1) (σ p2) (σ p8) (σ p9) h) (bB aIk.res))
theorem bKu : Is E bNe (bF 0 (bJs E)) (λ σ h => aNa E (σ p0) (σ p1) (σ p2) (σ p8) aK (σ p9) (σ nI) h) := Is.lp (λ n2 σ h => aNa E (σ p0) (σ p1) (σ p2) (σ p8) n2 (σ p9) (σ nI) h) λ n2 => Is.aq (Is.leaf _)
theorem bKw : iB3 E aIk (aZg E) := Is.aq (Is.sq (Is.sq (Is.sq (Is.sq (bKv E) (Is.bk (bKu E))) (Is.leaf _)) (Is.leaf _)) (Is.leaf _))
def aXQ : bC := fA3 (aZg E)
theorem aQa : SQ aIk aXQ := eB3 bKw
def bAc := cm 153
def aZf (E : aQ) (r0 r1 : DV) (h : H) : aL := cY r0 h λ x1 h2 => vK (aG 0 x1) λ x3 => vK (aF h2.get x3) λ x4 => vK (kI x4 r1) λ x5 => some (x5, h2)
theorem bKt : jY E bAc (aZf E) := Is.rf
def aXP : bC := jU (aZf E)
theorem aPZ : SQ bAc aXP := kG bKt
def bAb := cm 156
def aZe (r0 r1 r2 r3 r4 : DV) (h : H) : aL := wK (aB E 140 [r4] h) λ x1 h2 => vK (dH [(ii 0), (ii 0), (ii 0), (ii 0), (ii 0), .nils] [(1, 1, (ii 1)), (2, 1, r1), (3, 1, r2), (4, 1, r3), (5, 1, x1)]) λ x3 => gR 6 6 (.list [(ii 0), (ii 0), (ii 0), (ii 0), (ii 0), .nils]) h2 λ x4 h5 => wK (dD 6 x4 x3 h5) λ x6 h7 => vK (cM .ptr false h7.get r0 .nilp) λ x8 => aJ x8 false (λ kk => vK (cX 6 h7.get x4) λ v => kk v h7) h7 λ x9 h10 => aJ x8 false (λ kk => wK (aB E 185 [x9] h10) kk) h10 λ x11 h12 => aJ x8 false (λ kk => vK (eN x11) λ v => kk v h12) h12 λ x13 h14 => vK (aH x8 (.bool true) x13) λ x15 => bK x15 (some ((.tup [(ii 0), (ii 1)]), h14)) (vK (aC r0) λ x16 => vK (aG 1 x16) λ x17 => vK (aF h14.get x17) λ x18 => vK (eQ x18 (ii 256)) λ x19 => aJ x19 false (λ kk => kk r0 h14) h14 λ x20 h21 => aJ x19 false (λ kk => vK (aC x20) λ v => kk v h21) h21 λ x22 h23 => aJ x19 false (λ kk => vK (aG 0 x22) λ v => kk v h23) h23 λ x24 h25 => aJ x19 false (λ kk => vK (aF h25.get x24) λ v => kk v h25) h25 λ x26 h27 => aJ x19 false (λ kk => vK (aO x26) λ v => kk v h27) h27 λ x28 h29 => aJ x19 false (λ kk => vK (eQ x28 (ii 4096)) λ v => kk v h29) h29 λ x30 h31 => vK (aH x19 (.bool true) x30) λ x32 => bK x32 (some ((.tup [(ii 0), (ii 5)]), h31)) (vK (aC r0) λ x33 => vK (aG 0 x33) λ x34 => vK (aF h31.get x34) λ x35 => vK (aO x35) λ x36 => vK (aG 0 x4) λ x37 => wK (dD 1 x37 x36 h31) λ x38 h39 => vK (aC r0) λ x40 => vK (aG 0 x40) λ x41 => vK (aF h39.get x41) λ x42 => vK (cX 6 h39.get x4) λ x43 => dI 1 6 [(ii 0), (ii 0), (ii 0), (ii 0), (ii 0), .nils] [(0, 6, x43)] h39 λ x44 h45 => wK (cJ 6 64 x42 x44 h45) λ x46 h47 => vK (aC r0) λ x48 => vK (aG 0 x48) λ x49 => wK (dD 1 x49 x46 h47) λ x50 h51 => vK (aC r0) λ x52 => vK (aG 1 x52) λ x53 => vK (aF h51.get x53) λ x54 => vK (bW x54 (ii 1)) λ x55 => vK (aC r0) λ x56 => vK (aG 1 x56) λ x57 => wK (dD 1 x57 x55 h51) λ x58 h59 => vK (aG 0 x4) λ x60 => vK (aF h59.get x60) λ x61 => some ((.tup [x61, (ii 0)]), h59)))
theorem bKs : iB5 E bAb (aZe E) := Is.rf
def aXO : bC := fA5 (aZe E)
theorem aPY : SQ bAb aXO := eB5 bKs
def bAa := cm 157
def aZd (r0 : DV) (h : H) : aL := vK (cM .ptr false h.get r0 .nilp) λ x1 => bK x1 (some (.nils, h)) (vK (aC r0) λ x2 => vK (aG 0 x2) λ x3 => vK (aF h.get x3) λ x4 => wK (aB E 77 [x4] h) λ x5 h6 => some (x5, h6))
theorem bKr : lZ E bAa (aZd E) := Is.rf
def aXN : bC := lY (aZd E)
theorem aPX : SQ bAa aXN := mD bKr
def aZZ := cm 158
def aZc (r0 r1 r2 : DV) (h : H) : aL := vK (cM .ptr false h.get r0 .nilp) λ x1 => bK x1 (some ((ii 1), h)) (wK (aB E 139 [r0, r1] h) λ x2 h3 => vK (cM .ptr false h3.get x2 .nilp) λ x4 => bK x4 (some ((ii 7), h3)) (vK (aC x2) λ x5 => vK (aG 1 x5) λ x6 => vK (aF h3.get x6) λ x7 => vK (cW x7 (ii 1)) λ x8 => aJ x8 false (λ kk => kk x2 h3) h3 λ x9 h10 => aJ x8 false (λ kk => vK (aC x9) λ v => kk v h10) h10 λ x11 h12 => aJ x8 false (λ kk => vK (aG 2 x11) λ v => kk v h12) h12 λ x13 h14 => aJ x8 false (λ kk => vK (aF h14.get x13) λ v => kk v h14) h14 λ x15 h16 => aJ x8 false (λ kk => kk r2 h16) h16 λ x17 h18 => aJ x8 false (λ kk => vK (cW x15 x17) λ v => kk v h18) h18 λ x19 h20 => vK (aH x8 (.bool true) x19) λ x21 => bK x21 (some ((ii 16), h20)) (vK (aC x2) λ x22 => vK (aG 1 x22) λ x23 => wK (dD 1 x23 (ii 2) h20) λ x24 h25 => some ((ii 0), h25))))
theorem bKq : iB3 E aZZ (aZc E) := Is.rf
def aXM : bC := fA3 (aZc E)
theorem aPW : SQ aZZ aXM := eB3 bKq
def aZY := cm 159
def aZb (r0 r1 r2 r3 r4 : DV) (h : H) : aL := vK (dH [(ii 0), (ii 0), (ii 0), (ii 0)] [(0, 1, r1), (1, 1, r2), (2, 1, r3), (3, 1, r4)]) λ x1 => wK (aB E 187 [r0, x1] h) λ x2 h3 => wK (aB E 186 [x2] h3) λ x4 h5 => some (x4, h5)
theorem bKp : iB5 E aZY (aZb E) := Is.rf
def aXL : bC := fA5 (aZb E)
theorem aPV : SQ aZY aXL := eB5 bKp
def aZX := cm 165
def aZa (r0 r1 r2 : DV) (h : H) : aL := vK (cM .ptr false h.get r0 .nilp) λ x1 => bK x1 (some ((ii 1), h)) (vK (aC r0) λ x2 => vK (aG 0 x2) λ x3 => vK (aF h.get x3) λ x4 => wK (aB E 106 [x4, r1] h) λ x5 h6 => vK (bO x5 (ii 0)) λ x7 => bK x7 (some ((ii 7), h6)) (vK (aC r0) λ x8 => vK (aG 3 x8) λ x9 => vK (aF h6.get x9) λ x10 => vK (cW x10 (.int .i64 (.negSucc 0))) λ x11 => bK x11 (some ((ii 9), h6)) (vK (aC r0) λ x12 => vK (aG 2 x12) λ x13 => vK (aF h6.get x13) λ x14 => vK (cW r2 x14) λ x15 => bK x15 (some ((ii 10), h6)) (vK (aC r0) λ x16 => vK (aG 3 x16) λ x17 => wK (dD 1 x17 x5 h6) λ x18 h19 => vK (aC r0) λ x20 => vK (aG 5 x20) λ x21 => wK (dD 1 x21 r1 h19) λ x22 h23 => vK (aC r0) λ x24 => vK (aG 4 x24) λ x25 => wK (dD 1 x25 (.bool false) h23) λ x26 h27 => vK (aC r0) λ x28 => vK (aG 2 x28) λ x29 => vK (aF h27.get x29) λ x30 => vK (bW x30 (ii 1)) λ x31 => vK (aC r0) λ x32 => vK (aG 2 x32) λ x33 => wK (dD 1 x33 x31 h27) λ x34 h35 => some ((ii 0), h35)))))
theorem bKo : iB3 E aZX (aZa E) := Is.rf
def aXK : bC := fA3 (aZa E)
theorem aPU : SQ aZX aXK := eB3 bKo
def aZW := cm 166
def aYZ (E : aQ) (r0 r1 : DV) (h : H) : aL := vK (cM .ptr false h.get r0 .nilp) λ x1 => bK x1 (some ((.tup [(ii 0), (ii 1)]), h)) (vK (aC r0) λ x2 => vK (aG 1 x2) λ x3 => vK (aF h.get x3) λ x4 => vK (aO x4) λ x5 => vK (cF x5 (ii 0)) λ x6 => bK x6 (some ((.tup [(ii 0), (ii 7)]), h)) (vK (aC r0) λ x7 => vK (aG 2 x7) λ x8 => vK (aF h.get x8) λ x9 => vK (cW r1 x9) λ x10 => bK x10 (some ((.tup [(ii 0), (ii 10)]), h)) (vK (aC r0) λ x11 => vK (aG 3 x11) λ x12 => vK (aF h.get x12) λ x13 => vK (cF x13 (.int .i64 (.negSucc 0))) λ x14 => aJ x14 false (λ kk => kk r0 h) h λ x15 h16 => aJ x14 false (λ kk => vK (aC x15) λ v => kk v h16) h16 λ x17 h18 => aJ x14 false (λ kk => vK (aG 4 x17) λ v => kk v h18) h18 λ x19 h20 => aJ x14 false (λ kk => vK (aF h20.get x19) λ v => kk v h20) h20 λ x21 h22 => vK (aH x14 (.bool true) x21) λ x23 => bK x23 (some ((.tup [(ii 0), (ii 16)]), h22)) (vK (aC r0) λ x24 => vK (aG 1 x24) λ x25 => vK (aF h22.get x25) λ x26 => vK (bY 1 x26 (ii 0)) λ x27 => vK (aF h22.get x27) λ x28 => vK (aC r0) λ x29 => vK (aG 1 x29) λ x30 => vK (aF h22.get x30) λ x31 => vK (eV 1 x31 (some (ii 1)) none) λ x32 => vK (aC r0) λ x33 => vK (aG 1 x33) λ x34 => wK (dD 1 x34 x32 h22) λ x35 h36 => vK (aC r0) λ x37 => vK (aG 0 x37) λ x38 => vK (aF h36.get x38) λ x39 => vK (aC r0) λ x40 => vK (aG 3 x40) λ x41 => vK (aF h36.get x41) λ x42 => vK (bY 1 x39 x42) λ x43 => wK (dD 1 x43 x28 h36) λ x44 h45 => vK (aC r0) λ x46 => vK (aG 4 x46) λ x47 => wK (dD 1 x47 (.bool true) h45) λ x48 h49 => vK (aC r0) λ x50 => vK (aG 2 x50) λ x51 => vK (aF h49.get x51) λ x52 => vK (bW x52 (ii 1)) λ x53 => vK (aC r0) λ x54 => vK (aG 2 x54) λ x55 => wK (dD 1 x55 x53 h49) λ x56 h57 => some ((.tup [x28, (ii 0)]), h57)))))
theorem bKn : jY E aZW (aYZ E) := Is.rf
def aXJ : bC := jU (aYZ E)
theorem aPT : SQ aZW aXJ := kG bKn
def aZV := cm 167
def aYY (r0 r1 : DV) (h : H) : aL := cY r1 h λ x1 h2 => wK (aB E 103 [r0, (.fn (.func 193) [] [x1])] h2) λ x3 h4 => some (x3, h4)
theorem bKm : jY E aZV (aYY E) := Is.rf
def aXI : bC := jU (aYY E)
theorem aPS : SQ aZV aXI := kG bKm
def aNJ := cm 168
def bNd := cr (cr (cr aNJ.body))
def aNl (r0 r2 r3 r9 r10 : DV) (h : H) : aL := vK (cM .ptr false h.get r0 .nilp) λ x1 => aJ x1 false (λ kk => kk r2 h) h λ x2 h3 => aJ x1 false (λ kk => vK (bO x2 (ii 0)) λ v => kk v h3) h3 λ x4 h5 => vK (aH x1 (.bool true) x4) λ x6 => aJ x6 false (λ kk => kk r2 h5) h5 λ x7 h8 => aJ x6 false (λ kk => kk r10 h8) h8 λ x9 h10 => aJ x6 false (λ kk => vK (eQ x7 x9) λ v => kk v h10) h10 λ x11 h12 => vK (aH x6 (.bool true) x11) λ x13 => aJ x13 false (λ kk => kk r3 h12) h12 λ x14 h15 => aJ x13 false (λ kk => vK (bO x14 (ii 0)) λ v => kk v h15) h15 λ x16 h17 => vK (aH x13 (.bool true) x16) λ x18 => aJ x18 false (λ kk => kk r3 h17) h17 λ x19 h20 => aJ x18 false (λ kk => vK (eQ x19 (ii 64)) λ v => kk v h20) h20 λ x21 h22 => vK (aH x18 (.bool true) x21) λ x23 => bK x23 (some ((ii 1), h22)) (vK (cM .ptr false h22.get r9 .nilp) λ x24 => bK x24 (some ((ii 7), h22)) (vK (aC r9) λ x25 => vK (aG 5 x25) λ x26 => vK (aF h22.get x26) λ x27 => wK (aB E 106 [x27, r3] h22) λ x28 h29 => vK (eQ x28 (ii 0)) λ x30 => aJ x30 true (λ kk => kk x28 h29) h29 λ x31 h32 => aJ x30 true (λ kk => kk r2 h32) h32 λ x33 h34 => aJ x30 true (λ kk => vK (cW x31 x33) λ v => kk v h34) h34 λ x35 h36 => vK (aH x30 x35 (.bool false)) λ x37 => bK x37 (some ((ii 6), h36)) (vK (aC r9) λ x38 => vK (aG 1 x38) λ x39 => vK (aF h36.get x39) λ x40 => vK (cF x40 (ii 3)) λ x41 => bK x41 (some ((ii 16), h36)) (vK (aC r9) λ x42 => vK (aG 5 x42) λ x43 => vK (aF h36.get x43) λ x44 => vK (bY 1 x44 r2) λ x45 => wK (dD 1 x45 r3 h36) λ x46 h47 => some ((ii 0), h47)))))
def aYX (r0 r1 r2 r3 : DV) (h : H) : aL := wK (aB E 139 [r0, r1] h) λ x1 h2 => vK (cM .ptr true h2.get x1 .nilp) λ x3 => bK x3 (vK (aC x1) λ x4 => vK (aG 5 x4) λ x5 => vK (aF h2.get x5) λ x6 => vK (aO x6) λ x7 => aNl E r0 r2 r3 x1 x7 h2) (aNl E r0 r2 r3 x1 (ii 8) h2)
theorem bKk : Is E bNd (bB aNJ.res) (λ σ h => aNl E (σ p0) (σ p2) (σ p3) (σ p9) (σ nI) h) := Is.rf
theorem bKl : iB4 E aNJ (aYX E) := Is.aq (Is.sq (Is.sq (Is.sq (bKk E) (Is.leaf _)) (Is.leaf _)) (Is.leaf _))
def aXH : bC := fA4 (aYX E)
theorem aPR : SQ aNJ aXH := eB4 bKl
def aZU := cm 169
def aYW (E : aQ) (r0 r1 : DV) (h : H) : aL := vK (cM .ptr false h.get r0 .nilp) λ x1 => bK x1 (some ((ii 1), h)) (vK (aC r0) λ x2 => vK (aG 2 x2) λ x3 => vK (aF h.get x3) λ x4 => vK (cW r1 x4) λ x5 => bK x5 (some ((ii 10), h)) (vK (aC r0) λ x6 => vK (aG 4 x6) λ x7 => vK (aF h.get x7) λ x8 => vK (eN x8) λ x9 => bK x9 (some ((ii 16), h)) (vK (aC r0) λ x10 => vK (aG 3 x10) λ x11 => wK (dD 1 x11 (.int .i64 (.negSucc 0)) h) λ x12 h13 => vK (aC r0) λ x14 => vK (aG 5 x14) λ x15 => wK (dD 1 x15 (.int .i64 (.negSucc 0)) h13) λ x16 h17 => vK (aC r0) λ x18 => vK (aG 4 x18) λ x19 => wK (dD 1 x19 (.bool false) h17) λ x20 h21 => vK (aC r0) λ x22 => vK (aG 2 x22) λ x23 => vK (aF h21.get x23) λ x24 => vK (bW x24 (ii 1)) λ x25 => vK (aC r0) λ x26 => vK (aG 2 x26) λ x27 => wK (dD 1 x27 x25 h21) λ x28 h29 => some ((ii 0), h29))))
theorem bKj : jY E aZU (aYW E) := Is.rf
def aXG : bC := jU (aYW E)
theorem aPQ : SQ aZU aXG := kG bKj
def bMB := cm 178
def aHF (E : aQ) (r0 : DV) (h : H) : aL := cY r0 h λ x1 h2 => vK (aG 0 x1) λ x3 => vK (aF h2.get x3) λ x4 => vK (eN x4) λ x5 => some (x5, h2)
theorem bKi : lZ E bMB (aHF E) := Is.rf
def aTp : bC := lY (aHF E)
theorem bDs : SQ bMB aTp := mD bKi
def bMA := cm 179
def aHE (r0 r1 r2 : DV) (h : H) : aL := vK (aF h.get r0) λ x1 => vK (aC x1) λ x2 => vK (aG 0 x2) λ x3 => vK (aF h.get x3) λ x4 => vK (aF h.get r1) λ x5 => vK (aF h.get r2) λ x6 => wK (aB E 180 [x4, x5, x6] h) λ x7 h8 => some (x7, h8)
theorem bKh : iB3 E bMA (aHE E) := Is.rf
def aMN : bC := fA3 (aHE E)
theorem bDr : SQ bMA aMN := eB3 bKh
def aNI := cm 180
def bNc := cr (cr (cr (cr aNI.body)))
def aNQ := cl (cr (cl (cr (cr (cr aNI.body)))))
def bNb := cr (cr (cr (cl aNQ)))
def bNa := cr (cr (cr (cl (cl (cr (cr (cl aNQ)))))))
def aNk (E : aQ) (h : H) : aL := some ((ii 0), h)
def aHC (E : aQ) (i2 : DV → H → aL) (r28 : DV) (h : H) : aL := vK (bW r28 (ii 1)) λ x1 => i2 x1 h
def aHB (i2 : DV → H → aL) (r0 r2 r9 r10 r28 : DV) (h : H) : aL := vK (aC r0) λ x1 => vK (aG 0 x1) λ x2 => vK (aF h.get x2) λ x3 => vK (mB r9 (ii 64)) λ x4 => vK (bW r9 (ii 1)) λ x5 => vK (mB x5 (ii 64)) λ x6 => vK (jH r2 (some x4) (some x6)) λ x7 => vK (bY 1 x3 r10) λ x8 => wK (dD 1 x8 x7 h) λ x9 h10 => aHC E i2 r28 h10
def aEv (r0 r1 r2 r27 : DV) (i2 : DV → H → aL) (r28 : DV) (h : H) : aL := vK (bO r28 r27) λ x1 => bK x1 (vK (bW r1 r28) λ x2 => vK (aC r0) λ x3 => vK (aG 1 x3) λ x4 => vK (aF h.get x4) λ x5 => vK (uD .int (.str []) true h.get x5 x2) λ x6 => vK (aN 0 x6) λ x7 => vK (aN 1 x6) λ x8 => vK (eN x8) λ x9 => bK x9 (vK (aC r0) λ x10 => vK (aG 1 x10) λ x11 => vK (aF h.get x11) λ x12 => vK (aC r0) λ x13 => vK (aG 0 x13) λ x14 => vK (aF h.get x14) λ x15 => vK (bY 1 x15 x2) λ x16 => vK (aF h.get x16) λ x17 => wK (aBS .int x12 x2 x17 h) λ x18 h19 => aHB E i2 r0 r2 r28 x2 r28 h19) (aHB E i2 r0 r2 r28 x2 r28 h)) (aNk E h)
def qP (r0 r1 r2 r27 : DV) (n : Nat) : DV → H → aL := Nat.rec (motive := λ _ => DV → H → aL) (λ _ _ => none) (λ _ i => aEv E r0 r1 r2 r27 i) n
def aHD (r0 r1 r2 : DV) (h : H) : aL := vK (eI r2) λ x1 => vK (aID x1 (ii 64)) λ x2 => vK (eI r2) λ x3 => vK (aCz x3 (ii 64)) λ x4 => vK (cF x4 (ii 0)) λ x5 => wK (aB E 107 [r0, r1, x2, x5] h) λ x6 h7 => vK (cW x6 (ii 0)) λ x8 => bK x8 (some (x6, h7)) (qP E r0 r1 r2 x2 aK (ii 0) h7)
theorem bKf : Is E bNc (bB aNI.res) (λ σ h => aNk E h) := Is.rf
abbrev aYt : gS (DV × H) := (bF 0 (bU (λ σ h => aNk E h) (bB aNI.res)))
abbrev aYs (n2 : Nat) : gS (DV × H) := (bU (λ σ h => (qP E (σ p0) (σ p1) (σ p2) (σ p27) n2) (σ p28) h) (aYt E))
theorem bKd (n2 : Nat) : Is E bNb (aYs E n2) (λ σ h => aHC E (qP E (σ p0) (σ p1) (σ p2) (σ p27) n2) (σ p28) h) := Is.rf
abbrev bJr (n2 : Nat) : gS (DV × H) := (bU (λ σ h => aHC E (qP E (σ p0) (σ p1) (σ p2) (σ p27) n2) (σ p28) h) (aYs E n2))
theorem bKc (n2 : Nat) : Is E bNa (bF 1 (bJr E n2)) (λ σ h => aHB E (qP E (σ p0) (σ p1) (σ p2) (σ p27) n2) (σ p0) (σ p2) (σ p9) (σ nI) (σ p28) h) := Is.rf
theorem bKe : Is E aNQ (aYt E) (λ σ h => qP E (σ p0) (σ p1) (σ p2) (σ p27) aK (σ p28) h) := Is.lp (λ n2 σ h => qP E (σ p0) (σ p1) (σ p2) (σ p27) n2 (σ p28) h) λ n2 => Is.aq (Is.sq (Is.sq (Is.sq (bKd E n2) (Is.bk (Is.sq (Is.sq (Is.sq (bKc E n2) (Is.leaf _)) (Is.leaf _)) (Is.leaf _)))) (Is.leaf _)) (Is.leaf _))
theorem bKg : iB3 E aNI (aHD E) := Is.aq (Is.sq (Is.sq (Is.sq (Is.sq (bKf E) (Is.sq (Is.bk (bKe E)) (Is.leaf _))) (Is.leaf _)) (Is.leaf _)) (Is.leaf _))
def aXF : bC := fA3 (aHD E)
theorem bDq : SQ aNI aXF := eB3 bKg
def bMz := cm 181
def aHA (E : aQ) (r0 : DV) (h : H) : aL := vK (cM .ptr true h.get r0 .nilp) λ x1 => bK x1 (vK (aC r0) λ x2 => vK (aG 1 x2) λ x3 => vK (aF h.get x3) λ x4 => wK (lV x4 h) λ x5 h6 => some ((.tup []), h6)) (some ((.tup []), h))
theorem bKb : lZ E bMz (aHA E) := Is.rf
def aKE : bC := lY (aHA E)
theorem bDp : SQ bMz aKE := mD bKb
def aNH := cm 182
def bMZ := cr (cr (cr aNH.body))
def bMY := cl (cr (cl (cr (cr aNH.body))))
def aHy (E : aQ) (r5 : DV) (h : H) : aL := vK (pS (.int .u32 (.ofNat 4294967295)) r5) λ x1 => some (x1, h)
def aEu (r1 r10 : DV) (i2 : DV → DV → H → aL) (r5 r11 : DV) (h : H) : aL := vK (bO r11 r10) λ x1 => bK x1 (vK (oP r1 r11) λ x2 => vK (cN .u32 x2) λ x3 => vK (pS r5 x3) λ x4 => wK (aB E 199 [x4] h) λ x5 h6 => vK (bW r11 (ii 1)) λ x7 => i2 x5 x7 h6) (aHy E r5 h)
def aAV (r1 r10 : DV) (n : Nat) : DV → DV → H → aL := Nat.rec (motive := λ _ => DV → DV → H → aL) (λ _ _ _ => none) (λ _ i => aEu E r1 r10 i) n
def aHz (r0 r1 : DV) (h : H) : aL := vK (pS (.int .u32 (.ofNat 4294967295)) r0) λ x1 => vK (eI r1) λ x2 => aAV E r1 x2 aK x1 (ii 0) h
theorem bJZ : Is E bMZ (bB aNH.res) (λ σ h => aHy E (σ p5) h) := Is.rf
abbrev bJq : gS (DV × H) := (bU (λ σ h => aHy E (σ p5) h) (bB aNH.res))
theorem bJY : Is E bMY (bF 0 (bJq E)) (λ σ h => aAV E (σ p1) (σ nI) aK (σ p5) (σ p11) h) := Is.lp (λ n2 σ h => aAV E (σ p1) (σ nI) n2 (σ p5) (σ p11) h) λ n2 => Is.aq (Is.leaf _)
theorem bKa : jY E aNH (aHz E) := Is.aq (Is.sq (Is.sq (Is.sq (bJZ E) (Is.sq (Is.bk (bJY E)) (Is.leaf _))) (Is.leaf _)) (Is.leaf _))
def aMM : bC := jU (aHz E)
theorem bDo : SQ aNH aMM := kG bKa
def bMy := cm 183
def aYV (E : aQ) (r0 : DV) (h : H) : aL := vK (cN .u8 r0) λ x1 => vK (lN r0 (.int .u64 (.ofNat 8))) λ x2 => vK (cN .u8 x2) λ x3 => vK (lN r0 (.int .u64 (.ofNat 16))) λ x4 => vK (cN .u8 x4) λ x5 => vK (lN r0 (.int .u64 (.ofNat 24))) λ x6 => vK (cN .u8 x6) λ x7 => dI 4 1 [(.int .u8 (.ofNat 0))] [(0, 1, x1), (1, 1, x3), (2, 1, x5), (3, 1, x7)] h λ x8 h9 => vK (kF h9.get x8) λ x10 => some (x10, h9)
theorem bJX : lZ E bMy (aYV E) := Is.rf
def aKD : bC := lY (aYV E)
theorem bDn : SQ bMy aKD := mD bJX
def aZT := cm 185
def aHx (r0 : DV) (h : H) : aL := cY r0 h λ x1 h2 => vK (aG 2 x1) λ x3 => vK (aF h2.get x3) λ x4 => vK (eQ x4 (ii 0)) λ x5 => aJ x5 true (λ kk => vK (aG 2 x1) λ v => kk v h2) h2 λ x6 h7 => aJ x5 true (λ kk => vK (aF h7.get x6) λ v => kk v h7) h7 λ x8 h9 => aJ x5 true (λ kk => vK (bO x8 (ii 16)) λ v => kk v h9) h9 λ x10 h11 => vK (aH x5 x10 (.bool false)) λ x12 => aJ x12 true (λ kk => vK (aG 3 x1) λ v => kk v h11) h11 λ x13 h14 => aJ x12 true (λ kk => vK (aF h14.get x13) λ v => kk v h14) h14 λ x15 h16 => aJ x12 true (λ kk => vK (eQ x15 (ii 1)) λ v => kk v h16) h16 λ x17 h18 => vK (aH x12 x17 (.bool false)) λ x19 => aJ x19 true (λ kk => vK (aG 4 x1) λ v => kk v h18) h18 λ x20 h21 => aJ x19 true (λ kk => vK (aF h21.get x20) λ v => kk v h21) h21 λ x22 h23 => aJ x19 true (λ kk => vK (eQ x22 (ii 0)) λ v => kk v h23) h23 λ x24 h25 => vK (aH x19 x24 (.bool false)) λ x26 => aJ x26 true (λ kk => vK (aG 4 x1) λ v => kk v h25) h25 λ x27 h28 => aJ x26 true (λ kk => vK (aF h28.get x27) λ v => kk v h28) h28 λ x29 h30 => aJ x26 true (λ kk => vK (tM x29 (ii 65536)) λ v => kk v h30) h30 λ x31 h32 => vK (aH x26 x31 (.bool false)) λ x33 => aJ x33 true (λ kk => vK (aG 5 x1) λ v => kk v h32) h32 λ x34 h35 => aJ x33 true (λ kk => vK (aF h35.get x34) λ v => kk v h35) h35 λ x36 h37 => aJ x33 true (λ kk => wK (aB E 201 [x36] h37) kk) h37 λ x38 h39 => vK (aH x33 x38 (.bool false)) λ x40 => some (x40, h39)
theorem bJW : lZ E aZT (aHx E) := Is.rf
def aML : bC := lY (aHx E)
theorem aPP : SQ aZT aML := mD bJW
def aZS := cm 186
def aYU (r0 : DV) (h : H) : aL := vK (dH [(ii 0)] []) λ x1 => wK (aB E 202 [r0, (.ifc 284 x1)] h) λ x2 h3 => vK (eN x2) λ x4 => bK x4 (some ((ii 0), h3)) (vK (aES 284 (.agg [(ii 0)]) true r0) λ x5 => vK (aN 0 x5) λ x6 => vK (aN 1 x5) λ x7 => gR 1 1 (.list [(ii 0)]) h3 λ x8 h9 => wK (dD 1 x8 x6 h9) λ x10 h11 => vK (aG 0 x8) λ x12 => vK (aF h11.get x12) λ x13 => some (x13, h11))
theorem bJV : lZ E aZS (aYU E) := Is.rf
def aXE : bC := lY (aYU E)
theorem aPO : SQ aZS aXE := mD bJV
def aZR := cm 187
def aYT (r0 r1 : DV) (h : H) : aL := cY r1 h λ x1 h2 => vK (cM .ptr false h2.get r0 .nilp) λ x3 => aJ x3 false (λ kk => vK (aG 0 x1) λ v => kk v h2) h2 λ x4 h5 => aJ x3 false (λ kk => vK (aF h5.get x4) λ v => kk v h5) h5 λ x6 h7 => aJ x3 false (λ kk => vK (bO x6 (ii 0)) λ v => kk v h7) h7 λ x8 h9 => vK (aH x3 (.bool true) x8) λ x10 => aJ x10 false (λ kk => vK (aG 0 x1) λ v => kk v h9) h9 λ x11 h12 => aJ x10 false (λ kk => vK (aF h12.get x11) λ v => kk v h12) h12 λ x13 h14 => aJ x10 false (λ kk => vK (eQ x13 (ii 4096)) λ v => kk v h14) h14 λ x15 h16 => vK (aH x10 (.bool true) x15) λ x17 => aJ x17 false (λ kk => vK (cX 4 h16.get x1) λ v => kk v h16) h16 λ x18 h19 => aJ x17 false (λ kk => wK (aB E 203 [x18] h19) kk) h19 λ x20 h21 => aJ x17 false (λ kk => vK (eN x20) λ v => kk v h21) h21 λ x22 h23 => vK (aH x17 (.bool true) x22) λ x24 => bK x24 (vK (dH [(ii 0)] [(0, 1, (ii 1))]) λ x25 => some ((.ifc 284 x25), h23)) (vK (aG 0 x1) λ x26 => vK (aF h23.get x26) λ x27 => wK (aB E 188 [r0, x27] h23) λ x28 h29 => vK (aN 0 x28) λ x30 => vK (aN 1 x28) λ x31 => bK x31 (vK (dH [(ii 0)] [(0, 1, (ii 6))]) λ x32 => some ((.ifc 284 x32), h29)) (vK (aC r0) λ x33 => vK (aG 0 x33) λ x34 => vK (aF h29.get x34) λ x35 => vK (cX 4 h29.get x1) λ x36 => dI 1 4 [(ii 0), (ii 0), (ii 0), (ii 0)] [(0, 4, x36)] h29 λ x37 h38 => wK (aB E 204 [x35, x30, x37] h38) λ x39 h40 => vK (aC r0) λ x41 => vK (aG 0 x41) λ x42 => wK (dD 1 x42 x39 h40) λ x43 h44 => some (.nili, h44)))
theorem bJU : jY E aZR (aYT E) := Is.rf
def aXD : bC := jU (aYT E)
theorem aPN : SQ aZR aXD := kG bJU
def aZQ := cm 188
def aYS (r0 r1 : DV) (h : H) : aL := vK (aC r0) λ x1 => vK (aG 0 x1) λ x2 => vK (aF h.get x2) λ x3 => wK (aB E 205 [x3, r1, (.fn (.func 206) [] [])] h) λ x4 h5 => vK (aN 0 x4) λ x6 => vK (aN 1 x4) λ x7 => some ((.tup [x6, x7]), h5)
theorem bJT : jY E aZQ (aYS E) := Is.rf
def aXC : bC := jU (aYS E)
theorem aPM : SQ aZQ aXC := kG bJT
def aZP := cm 193
def aYR (r0 r1 : DV) (h : H) : aL := cY r0 h λ x1 h2 => vK (aG 1 x1) λ x3 => vK (aF h2.get x3) λ x4 => vK (cW x4 (ii 3)) λ x5 => aJ x5 true (λ kk => vK (aG 5 x1) λ v => kk v h2) h2 λ x6 h7 => aJ x5 true (λ kk => vK (aF h7.get x6) λ v => kk v h7) h7 λ x8 h9 => aJ x5 true (λ kk => vK (aF h9.get r1) λ v => kk v h9) h9 λ x10 h11 => aJ x5 true (λ kk => wK (aB E 72 [x8, x10] h11) kk) h11 λ x12 h13 => vK (aH x5 x12 (.bool false)) λ x14 => some (x14, h13)
theorem bJS : jY E aZP (aYR E) := Is.rf
def aXB : bC := jU (aYR E)
theorem aPL : SQ aZP aXB := kG bJS
def aZO := cm 199
def bMX := cr aZO.body
def aBe (E : aQ) (i1 : DV → DV → H → aL) (r0 r3 : DV) (h : H) : aL := vK (lN r0 (.int .u64 (.ofNat 1))) λ x1 => vK (qV r0 (.int .u32 (.ofNat 1))) λ x2 => vK (wY x2) λ x3 => vK (qV (.int .u32 (.ofNat 3988292384)) x3) λ x4 => vK (pS x1 x4) λ x5 => vK (kI r3 (ii 1)) λ x6 => vK (dO x6 (ii 0)) λ x7 => bK x7 (i1 x5 x6 h) (some (x5, h))
def aAU (n : Nat) : DV → DV → H → aL := Nat.rec (motive := λ _ => DV → DV → H → aL) (λ _ _ _ => none) (λ _ i => aBe E i) n
def aYP (r0 : DV) (h : H) : aL := vK (lN r0 (.int .u64 (.ofNat 1))) λ x1 => vK (qV r0 (.int .u32 (.ofNat 1))) λ x2 => vK (wY x2) λ x3 => vK (qV (.int .u32 (.ofNat 3988292384)) x3) λ x4 => vK (pS x1 x4) λ x5 => vK (kI (ii 8) (ii 1)) λ x6 => vK (dO x6 (ii 0)) λ x7 => bK x7 (aAU E aK x5 x6 h) (some (x5, h))
def aYQ (r0 : DV) (h : H) : aL := aYP E r0 h
theorem bJQ : Is E bMX (bB aZO.res) (λ σ h => aYP E (σ p0) h) := Is.aq (Is.jm (g := 4294967296) (λ n1 σ h => aAU E n1 (σ p0) (σ p3) h) (λ n1 => Is.aq (Is.leaf _)) (Is.leaf _))
theorem bJR : lZ E aZO (aYQ E) := Is.aq (Is.sq (bJQ E) (Is.leaf _))
def aKC : bC := lY (aYQ E)
theorem bDm : SQ aZO aKC := mD bJR
def aIj := cm 201
def bMW := cr (cr (cr aIj.body))
def bMV := cl (cr (cl (cr (cr aIj.body))))
def aNj (E : aQ) (h : H) : aL := some ((.bool true), h)
def bNK (r0 r13 r14 : DV) (i2 : DV → H → aL) (r15 : DV) (h : H) : aL := vK (bO r15 r14) λ x1 => bK x1 (vK (bY 1 r13 r15) λ x2 => vK (aF h.get x2) λ x3 => vK (bO x3 (ii 0)) λ x4 => aJ x4 false (λ kk => kk x3 h) h λ x5 h6 => aJ x4 false (λ kk => vK (eQ x5 (ii 64)) λ v => kk v h6) h6 λ x7 h8 => vK (aH x4 (.bool true) x7) λ x9 => aJ x9 false (λ kk => kk r0 h8) h8 λ x10 h11 => aJ x9 false (λ kk => kk r15 h11) h11 λ x12 h13 => aJ x9 false (λ kk => vK (eV 1 x10 none (some x12)) λ v => kk v h13) h13 λ x14 h15 => aJ x9 false (λ kk => kk x3 h15) h15 λ x16 h17 => aJ x9 false (λ kk => wK (aB E 72 [x14, x16] h17) kk) h17 λ x18 h19 => vK (aH x9 (.bool true) x18) λ x20 => bK x20 (some ((.bool false), h19)) (vK (bW r15 (ii 1)) λ x21 => i2 x21 h19)) (aNj E h)
def aMZ (r0 r13 r14 : DV) (n : Nat) : DV → H → aL := Nat.rec (motive := λ _ => DV → H → aL) (λ _ _ => none) (λ _ i => bNK E r0 r13 r14 i) n
def aYO (r0 : DV) (h : H) : aL := vK (aO r0) λ x1 => vK (bO x1 (ii 2)) λ x2 => aJ x2 false (λ kk => kk r0 h) h λ x3 h4 => aJ x2 false (λ kk => vK (aO x3) λ v => kk v h4) h4 λ x5 h6 => aJ x2 false (λ kk => vK (dO x5 (ii 8)) λ v => kk v h6) h6 λ x7 h8 => vK (aH x2 (.bool true) x7) λ x9 => bK x9 (some ((.bool false), h8)) (vK (aO r0) λ x10 => aMZ E r0 r0 x10 aK (ii 0) h8)
theorem bJO : Is E bMW (bB aIj.res) (λ σ h => aNj E h) := Is.rf
abbrev bJp : gS (DV × H) := (bF 0 (bU (λ σ h => aNj E h) (bB aIj.res)))
theorem bJN : Is E bMV (bJp E) (λ σ h => aMZ E (σ p0) (σ sU) (σ tW) aK (σ xW) h) := Is.lp (λ n2 σ h => aMZ E (σ p0) (σ sU) (σ tW) n2 (σ xW) h) λ n2 => Is.aq (Is.leaf _)
theorem bJP : lZ E aIj (aYO E) := Is.aq (Is.sq (Is.sq (Is.sq (bJO E) (Is.sq (Is.bk (bJN E)) (Is.leaf _))) (Is.leaf _)) (Is.leaf _))
def aXA : bC := lY (aYO E)
theorem aPK : SQ aIj aXA := mD bJP
def aZN := cm 202
def aYN (r0 r1 : DV) (h : H) : aL := vK (cM .nilI false h.get r0 .nili) λ x1 => aJ x1 false (λ kk => kk r1 h) h λ x2 h3 => aJ x1 false (λ kk => vK (cM .nilI false h3.get x2 .nili) λ v => kk v h3) h3 λ x4 h5 => vK (aH x1 (.bool true) x4) λ x6 => bK x6 (vK (cM .nilD false h5.get r0 r1) λ x7 => some (x7, h5)) (wK (aB E 209 [r1] h5) λ x8 h9 => wK (aKo E [] x8 [] h9) λ x10 h11 => wK (aB E 210 [r0, r1, x10] h11) λ x12 h13 => some (x12, h13))
theorem bJM : jY E aZN (aYN E) := Is.rf
def aXz : bC := jU (aYN E)
theorem aPJ : SQ aZN aXz := kG bJM
def aZM := cm 203
def aHw (E : aQ) (r0 : DV) (h : H) : aL := cY r0 h λ x1 h2 => vK (aG 1 x1) λ x3 => vK (aF h2.get x3) λ x4 => vK (eQ x4 (ii 1)) λ x5 => aJ x5 true (λ kk => vK (aG 1 x1) λ v => kk v h2) h2 λ x6 h7 => aJ x5 true (λ kk => vK (aF h7.get x6) λ v => kk v h7) h7 λ x8 h9 => aJ x5 true (λ kk => vK (tM x8 (ii 65536)) λ v => kk v h9) h9 λ x10 h11 => vK (aH x5 x10 (.bool false)) λ x12 => aJ x12 true (λ kk => vK (aG 2 x1) λ v => kk v h11) h11 λ x13 h14 => aJ x12 true (λ kk => vK (aF h14.get x13) λ v => kk v h14) h14 λ x15 h16 => aJ x12 true (λ kk => vK (eQ x15 (ii 0)) λ v => kk v h16) h16 λ x17 h18 => vK (aH x12 x17 (.bool false)) λ x19 => aJ x19 true (λ kk => vK (aG 2 x1) λ v => kk v h18) h18 λ x20 h21 => aJ x19 true (λ kk => vK (aF h21.get x20) λ v => kk v h21) h21 λ x22 h23 => aJ x19 true (λ kk => vK (aG 1 x1) λ v => kk v h23) h23 λ x24 h25 => aJ x19 true (λ kk => vK (aF h25.get x24) λ v => kk v h25) h25 λ x26 h27 => aJ x19 true (λ kk => vK (tM x22 x26) λ v => kk v h27) h27 λ x28 h29 => vK (aH x19 x28 (.bool false)) λ x30 => aJ x30 true (λ kk => vK (aG 3 x1) λ v => kk v h29) h29 λ x31 h32 => aJ x30 true (λ kk => vK (aF h32.get x31) λ v => kk v h32) h32 λ x33 h34 => aJ x30 true (λ kk => vK (eQ x33 (ii 0)) λ v => kk v h34) h34 λ x35 h36 => vK (aH x30 x35 (.bool false)) λ x37 => aJ x37 true (λ kk => vK (aG 3 x1) λ v => kk v h36) h36 λ x38 h39 => aJ x37 true (λ kk => vK (aF h39.get x38) λ v => kk v h39) h39 λ x40 h41 => aJ x37 true (λ kk => vK (tM x40 (ii 1099511627776)) λ v => kk v h41) h41 λ x42 h43 => vK (aH x37 x42 (.bool false)) λ x44 => some (x44, h43)
theorem bJL : lZ E aZM (aHw E) := Is.rf
def aMK : bC := lY (aHw E)
theorem aPI : SQ aZM aMK := mD bJL
def aZL := cm 204
def aYM (r0 r1 r2 : DV) (h : H) : aL := vK (eV 4 r0 (some r1) none) λ x1 => vK (aO r2) λ x2 => vK (cF x2 (ii 0)) λ x3 => bK x3 (some (r0, h)) (vK (aO r0) λ x4 => vK (cF r1 x4) λ x5 => bK x5 (wK (cJ 4 32 r0 r2 h) λ x6 h7 => some (x6, h7)) (vK (bW x4 x2) λ x8 => vK (aCA r0) λ x9 => vK (dO x8 x9) λ x10 => bK x10 (vK (eV 4 r0 none (some r1)) λ x11 => vK (bW x4 x2) λ x12 => vK (kI x12 r1) λ x13 => wK (aEM 4 32 [(ii 0), (ii 0), (ii 0), (ii 0)] x11 x13 h) λ x14 h15 => vK (eV 4 x14 (some r1) none) λ x16 => wK (lE 4 x16 r2 h15) λ x17 h18 => vK (bW r1 x2) λ x19 => vK (eV 4 x14 (some x19) none) λ x20 => vK (eV 4 r0 (some r1) none) λ x21 => wK (lE 4 x20 x21 h18) λ x22 h23 => some (x14, h23)) (vK (bW x4 x2) λ x24 => vK (eV 4 r0 none (some x24)) λ x25 => vK (bW r1 x2) λ x26 => vK (eV 4 x25 (some x26) none) λ x27 => vK (aIE h.get r2 x27) λ x28 => vK (eN x28) λ x29 => bK x29 (vK (bW r1 x2) λ x30 => vK (eV 4 x25 (some x30) none) λ x31 => vK (eV 4 x25 (some r1) none) λ x32 => wK (lE 4 x31 x32 h) λ x33 h34 => vK (eV 4 x25 (some r1) none) λ x35 => wK (lE 4 x35 r2 h34) λ x36 h37 => some (x25, h37)) (vK (eV 4 x25 (some x4) none) λ x38 => wK (lE 4 x38 r2 h) λ x39 h40 => vK (eV 4 x25 (some r1) none) λ x41 => wK (aB E 212 [x41, x2] h40) λ x42 h43 => some (x25, h43)))))
theorem bJK : iB3 E aZL (aYM E) := Is.rf
def aXy : bC := fA3 (aYM E)
theorem aPH : SQ aZL aXy := eB3 bJK
def aIi := cm 205
def bMU := cr (cr (cr (cr aIi.body)))
def bMT := cl (cl (cr (cr (cr aIi.body))))
def aNi (r0 r1 r2 r8 r9 : DV) (h : H) : aL := vK (bO r9 r8) λ x1 => aJ x1 true (λ kk => kk r2 h) h λ x2 h3 => aJ x1 true (λ kk => kk r0 h3) h3 λ x4 h5 => aJ x1 true (λ kk => kk r9 h5) h5 λ x6 h7 => aJ x1 true (λ kk => vK (bY 4 x4 x6) λ v => kk v h7) h7 λ x8 h9 => aJ x1 true (λ kk => vK (cX 4 h9.get x8) λ v => kk v h9) h9 λ x10 h11 => aJ x1 true (λ kk => kk r1 h11) h11 λ x12 h13 => aJ x1 true (λ kk => wK (lK E x2 [x10, x12] h13) kk) h13 λ x14 h15 => aJ x1 true (λ kk => vK (cF x14 (ii 0)) λ v => kk v h15) h15 λ x16 h17 => vK (aH x1 x16 (.bool false)) λ x18 => some ((.tup [r9, x18]), h17)
def bNJ (r0 r1 r2 r8 : DV) (i2 : DV → DV → H → aL) (r9 r10 : DV) (h : H) : aL := vK (bO r9 r10) λ x1 => bK x1 (vK (bW r9 r10) λ x2 => vK (cN .u64 x2) λ x3 => vK (lN x3 (.int .u64 (.ofNat 1))) λ x4 => vK (cN .i64 x4) λ x5 => vK (bY 4 r0 x5) λ x6 => vK (cX 4 h.get x6) λ x7 => wK (lK E r2 [x7, r1] h) λ x8 h9 => vK (bO x8 (ii 0)) λ x10 => bK x10 (vK (bW x5 (ii 1)) λ x11 => i2 x11 r10 h9) (i2 r9 x5 h9)) (aNi E r0 r1 r2 r8 r9 h)
def aMY (r0 r1 r2 r8 : DV) (n : Nat) : DV → DV → H → aL := Nat.rec (motive := λ _ => DV → DV → H → aL) (λ _ _ _ => none) (λ _ i => bNJ E r0 r1 r2 r8 i) n
def aYL (r0 r1 r2 : DV) (h : H) : aL := vK (aO r0) λ x1 => aMY E r0 r1 r2 x1 aK (ii 0) x1 h
theorem bJI : Is E bMU (bB aIi.res) (λ σ h => aNi E (σ p0) (σ p1) (σ p2) (σ p8) (σ p9) h) := Is.rf
abbrev bJo : gS (DV × H) := (bU (λ σ h => aNi E (σ p0) (σ p1) (σ p2) (σ p8) (σ p9) h) (bB aIi.res))
theorem bJH : Is E bMT (bF 0 (bJo E)) (λ σ h => aMY E (σ p0) (σ p1) (σ p2) (σ p8) aK (σ p9) (σ nI) h) := Is.lp (λ n2 σ h => aMY E (σ p0) (σ p1) (σ p2) (σ p8) n2 (σ p9) (σ nI) h) λ n2 => Is.aq (Is.leaf _)
theorem bJJ : iB3 E aIi (aYL E) := Is.aq (Is.sq (Is.sq (Is.sq (Is.sq (bJI E) (Is.bk (bJH E))) (Is.leaf _)) (Is.leaf _)) (Is.leaf _))
def aXx : bC := fA3 (aYL E)
theorem aPG : SQ aIi aXx := eB3 bJJ
def aZK := cm 206
def aYK (E : aQ) (r0 r1 : DV) (h : H) : aL := cY r0 h λ x1 h2 => vK (aG 0 x1) λ x3 => vK (aF h2.get x3) λ x4 => vK (bO x4 r1) λ x5 => bK x5 (some ((.int .i64 (.negSucc 0)), h2)) (vK (aG 0 x1) λ x6 => vK (aF h2.get x6) λ x7 => vK (dO x7 r1) λ x8 => bK x8 (some ((ii 1), h2)) (some ((ii 0), h2)))
theorem bJG : jY E aZK (aYK E) := Is.rf
def aXw : bC := jU (aYK E)
theorem aPF : SQ aZK aXw := kG bJG
def fs1 : List FD := [⟨136, aNK, aTs⟩, ⟨137, bMI, aTr⟩, ⟨138, bMH, aMQ⟩, ⟨139, bAh, aXX⟩, ⟨140, bAg, aXW⟩, ⟨141, bMG, bJg⟩, ⟨142, bMF, aXV⟩, ⟨143, aIn, aXU⟩, ⟨144, bAf, aXT⟩, ⟨145, bME, aKF⟩, ⟨146, bMD, aEO⟩, ⟨147, bMC, aTq⟩, ⟨148, bAe, aMP⟩, ⟨149, aIm, aMO⟩, ⟨150, bAd, aXS⟩, ⟨151, aIl, aXR⟩, ⟨152, aIk, aXQ⟩, ⟨153, bAc, aXP⟩, ⟨156, bAb, aXO⟩, ⟨157, bAa, aXN⟩, ⟨158, aZZ, aXM⟩, ⟨159, aZY, aXL⟩, ⟨165, aZX, aXK⟩, ⟨166, aZW, aXJ⟩, ⟨167, aZV, aXI⟩, ⟨168, aNJ, aXH⟩, ⟨169, aZU, aXG⟩, ⟨178, bMB, aTp⟩, ⟨179, bMA, aMN⟩, ⟨180, aNI, aXF⟩, ⟨181, bMz, aKE⟩, ⟨182, aNH, aMM⟩, ⟨183, bMy, aKD⟩, ⟨185, aZT, aML⟩, ⟨186, aZS, aXE⟩, ⟨187, aZR, aXD⟩, ⟨188, aZQ, aXC⟩, ⟨193, aZP, aXB⟩, ⟨199, aZO, aKC⟩, ⟨201, aIj, aXA⟩, ⟨202, aZN, aXz⟩, ⟨203, aZM, aMK⟩, ⟨204, aZL, aXy⟩, ⟨205, aIi, aXx⟩, ⟨206, aZK, aXw⟩]
theorem bHo : rR fs1 := ⟨bDA, ⟨bDz, ⟨bDy, ⟨aQi, ⟨aQh, ⟨bDx, ⟨bDw, ⟨aQg, ⟨aQf, ⟨bDv, ⟨bDu, ⟨bDt, ⟨aQe, ⟨aQd, ⟨aQc, ⟨aQb, ⟨aQa, ⟨aPZ, ⟨aPY, ⟨aPX, ⟨aPW, ⟨aPV, ⟨aPU, ⟨aPT, ⟨aPS, ⟨aPR, ⟨aPQ, ⟨bDs, ⟨bDr, ⟨bDq, ⟨bDp, ⟨bDo, ⟨bDn, ⟨aPP, ⟨aPO, ⟨aPN, ⟨aPM, ⟨aPL, ⟨bDm, ⟨aPK, ⟨aPJ, ⟨aPI, ⟨aPH, ⟨aPG, ⟨aPF, trivial⟩⟩⟩⟩⟩⟩⟩⟩⟩⟩⟩⟩⟩⟩⟩⟩⟩⟩⟩⟩⟩⟩⟩⟩⟩⟩⟩⟩⟩⟩⟩⟩⟩⟩⟩⟩⟩⟩⟩⟩⟩⟩⟩⟩⟩
end Go.Proofs.YthpciaidbgjoeaaGreat
end

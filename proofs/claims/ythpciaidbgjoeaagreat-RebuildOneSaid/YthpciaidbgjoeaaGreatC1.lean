/- More of the program's functions. No condition. -/
import Derived.Test.YthpciaidbgjoeaaGreatC0
set_option linter.unusedVariables false
noncomputable section
namespace Go.Proofs.YthpciaidbgjoeaaGreat
open Go.DI
variable (E : aX)
def bFw := cm 145
def aDG (E : aX) (r0 : DV) (h : H) : aQ := vK (cO .u8 r0) λ x1 => vK (jP r0 (.int .u64 (.ofNat 8))) λ x2 => vK (cO .u8 x2) λ x3 => vK (jP r0 (.int .u64 (.ofNat 16))) λ x4 => vK (cO .u8 x4) λ x5 => vK (jP r0 (.int .u64 (.ofNat 24))) λ x6 => vK (cO .u8 x6) λ x7 => dB 4 1 [(.int .u8 (.ofNat 0))] [(0, 1, x1), (1, 1, x3), (2, 1, x5), (3, 1, x7)] h λ x8 h9 => vK (jY h9.get x8) λ x10 => some (x10, h9)
theorem bDy : jX E bFw (aDG E) := Is.rf
def aHB : bB := jW (aDG E)
theorem aWu : SQ bFw aHB := kC bDy
def bFv := cm 146
def aDF (r0 : DV) (h : H) : aQ := wK (aB E 182 [(.int .u32 (.ofNat 0)), r0] h) λ x1 h2 => some (x1, h2)
theorem bDx : jX E bFv (aDF E) := Is.rf
def aGb : bB := jW (aDF E)
theorem aWt : SQ bFv aGb := kC bDx
def bFu := cm 147
def aDE (r0 : DV) (h : H) : aQ := wK (aB E 146 [r0] h) λ x1 h2 => wK (aB E 183 [x1] h2) λ x3 h4 => vK (bL r0 x3) λ x5 => some (x5, h4)
theorem bDw : jX E bFu (aDE E) := Is.rf
def aQP : bB := jW (aDE E)
theorem aWs : SQ bFu aQP := kC bDw
def aTF := cm 148
def aDD (E : aX) (r0 : DV) (h : H) : aQ := vK (bY .ptr true h.get r0 .nilp) λ x1 => bK x1 (vK (aA r0) λ x2 => vK (aG 0 x2) λ x3 => wK (cQ 1 x3 (.str []) h) λ x4 h5 => vK (aA r0) λ x6 => vK (aG 1 x6) λ x7 => wK (cQ 1 x7 (.bool true) h5) λ x8 h9 => some ((.tup []), h9)) (some ((.tup []), h))
theorem bDv : jX E aTF (aDD E) := Is.rf
def aHA : bB := jW (aDD E)
theorem aKG : SQ aTF aHA := kC bDv
def aEc := cm 149
def bGb := cr (cr (cr aEc.body))
def bGa := cl (cr (cl (cr (cr aEc.body))))
def aAZ (E : aX) (h : H) : aQ := some ((.tup [(.int .u64 (.ofNat 0)), (ii 0)]), h)
def aBf (r0 r9 : DV) (i2 : DV → DV → H → aQ) (r4 r10 : DV) (h : H) : aQ := vK (bF r10 r9) λ x1 => bK x1 (vK (lU r0 r10) λ x2 => vK (cO .u64 x2) λ x3 => vK (nR x3 (.int .u64 (.ofNat 127))) λ x4 => vK (mR (ii 7) r10) λ x5 => vK (pM x4 x5) λ x6 => vK (aBm r4 x6) λ x7 => vK (dZ x3 (.int .u64 (.ofNat 128))) λ x8 => bK x8 (vK (bL r10 (ii 1)) λ x9 => i2 x7 x9 h) (vK (dA r10 (ii 0)) λ x10 => aP x10 true (λ kk => kk x3 h) h λ x11 h12 => aP x10 true (λ kk => vK (bV x11 (.int .u64 (.ofNat 0))) λ v => kk v h12) h12 λ x13 h14 => vK (aK x10 x13 (.bool false)) λ x15 => aP x15 false (λ kk => kk r10 h14) h14 λ x16 h17 => aP x15 false (λ kk => vK (bV x16 (ii 9)) λ v => kk v h17) h17 λ x18 h19 => aP x15 false (λ kk => kk x18 h19) h19 λ x20 h21 => aP x20 true (λ kk => kk x3 h21) h21 λ x22 h23 => aP x20 true (λ kk => vK (dA x22 (.int .u64 (.ofNat 1))) λ v => kk v h23) h23 λ x24 h25 => aP x15 false (λ kk => vK (aK x20 x24 (.bool false)) λ v => kk v h25) h25 λ x26 h27 => vK (aK x15 (.bool true) x26) λ x28 => bK x28 (some ((.tup [(.int .u64 (.ofNat 0)), (ii 0)]), h27)) (vK (bL r10 (ii 1)) λ x29 => some ((.tup [x7, x29]), h27)))) (aAZ E h)
def wS (r0 r9 : DV) (n : Nat) : DV → DV → H → aQ := Nat.rec (motive := λ _ => DV → DV → H → aQ) (λ _ _ _ => none) (λ _ i => aBf E r0 r9 i) n
def aDC (r0 : DV) (h : H) : aQ := vK (dT r0) λ x1 => vK (vR x1 (ii 10)) λ x2 => wS E r0 x2 aY (.int .u64 (.ofNat 0)) (ii 0) h
theorem bDt : Is E bGb (aZ aEc.res) (λ σ h => aAZ E h) := Is.rf
abbrev bCj : fR (DV × H) := (bH 0 (bP (λ σ h => aAZ E h) (aZ aEc.res)))
theorem bDs : Is E bGa (bCj E) (λ σ h => wS E (σ p0) (σ p9) aY (σ p4) (σ lT) h) := Is.lp (λ n2 σ h => wS E (σ p0) (σ p9) n2 (σ p4) (σ lT) h) λ n2 => Is.aq (Is.leaf _)
theorem bDu : jX E aEc (aDC E) := Is.aq (Is.sq (Is.sq (Is.sq (bDt E) (Is.sq (Is.bk (bDs E)) (Is.leaf _))) (Is.leaf _)) (Is.leaf _))
def aHz : bB := jW (aDC E)
theorem aKF : SQ aEc aHz := kC bDu
def aTE := cm 150
def aSB (E : aX) (r0 r1 : DV) (h : H) : aQ := vK (aF h.get r1) λ x1 => vK (cO .u8 x1) λ x2 => dB 1 1 [(.int .u8 (.ofNat 0))] [(0, 1, x2)] h λ x3 h4 => wK (cG 1 1 r0 x3 h4) λ x5 h6 => some (x5, h6)
theorem bDr : iS E aTE (aSB E) := Is.rf
def aQO : bB := iN (aSB E)
theorem aKE : SQ aTE aQO := iV bDr
def aEb := cm 151
def bFZ := cr (cr (cr aEb.body))
def bFY := cl (cr (cl (cr (cr aEb.body))))
def aId (E : aX) (r0 : DV) (h : H) : aQ := some (r0, h)
def bGF (r10 r11 : DV) (i2 : DV → DV → H → aQ) (r0 r12 : DV) (h : H) : aQ := vK (bF r12 r11) λ x1 => bK x1 (vK (cH 1 r10 r12) λ x2 => vK (aF h.get x2) λ x3 => wK (aB E 116 [r0, x3] h) λ x4 h5 => vK (bL r12 (ii 1)) λ x6 => i2 x4 x6 h5) (aId E r0 h)
def aHO (r10 r11 : DV) (n : Nat) : DV → DV → H → aQ := Nat.rec (motive := λ _ => DV → DV → H → aQ) (λ _ _ _ => none) (λ _ i => bGF E r10 r11 i) n
def aSA (r0 r1 : DV) (h : H) : aQ := vK (aF h.get r1) λ x1 => vK (aW x1) λ x2 => wK (aB E 116 [r0, x2] h) λ x3 h4 => vK (aF h4.get r1) λ x5 => vK (aW x5) λ x6 => aHO E x5 x6 aY x3 (ii 0) h4
theorem bDp : Is E bFZ (aZ aEb.res) (λ σ h => aId E (σ p0) h) := Is.rf
abbrev bCi : fR (DV × H) := (bP (λ σ h => aId E (σ p0) h) (aZ aEb.res))
theorem bDo : Is E bFY (bH 0 (bCi E)) (λ σ h => aHO E (σ lT) (σ p11) aY (σ p0) (σ rU) h) := Is.lp (λ n2 σ h => aHO E (σ lT) (σ p11) n2 (σ p0) (σ rU) h) λ n2 => Is.aq (Is.leaf _)
theorem bDq : iS E aEb (aSA E) := Is.aq (Is.sq (Is.sq (Is.sq (bDp E) (Is.sq (Is.bk (bDo E)) (Is.leaf _))) (Is.leaf _)) (Is.leaf _))
def aQN : bB := iN (aSA E)
theorem aKD : SQ aEb aQN := iV bDq
def aEa := cm 152
def bFX := cr (cr (cr (cr aEa.body)))
def bFW := cl (cl (cr (cr (cr aEa.body))))
def aIc (r0 r1 r2 r8 r9 : DV) (h : H) : aQ := vK (bF r9 r8) λ x1 => aP x1 true (λ kk => kk r2 h) h λ x2 h3 => aP x1 true (λ kk => kk r0 h3) h3 λ x4 h5 => aP x1 true (λ kk => kk r9 h5) h5 λ x6 h7 => aP x1 true (λ kk => vK (cH 3 x4 x6) λ v => kk v h7) h7 λ x8 h9 => aP x1 true (λ kk => vK (cR 3 h9.get x8) λ v => kk v h9) h9 λ x10 h11 => aP x1 true (λ kk => kk r1 h11) h11 λ x12 h13 => aP x1 true (λ kk => wK (mJ E x2 [x10, x12] h13) kk) h13 λ x14 h15 => aP x1 true (λ kk => vK (bV x14 (ii 0)) λ v => kk v h15) h15 λ x16 h17 => vK (aK x1 x16 (.bool false)) λ x18 => some ((.tup [r9, x18]), h17)
def bGE (r0 r1 r2 r8 : DV) (i2 : DV → DV → H → aQ) (r9 r10 : DV) (h : H) : aQ := vK (bF r9 r10) λ x1 => bK x1 (vK (bL r9 r10) λ x2 => vK (cO .u64 x2) λ x3 => vK (jP x3 (.int .u64 (.ofNat 1))) λ x4 => vK (cO .i64 x4) λ x5 => vK (cH 3 r0 x5) λ x6 => vK (cR 3 h.get x6) λ x7 => wK (mJ E r2 [x7, r1] h) λ x8 h9 => vK (bF x8 (ii 0)) λ x10 => bK x10 (vK (bL x5 (ii 1)) λ x11 => i2 x11 r10 h9) (i2 r9 x5 h9)) (aIc E r0 r1 r2 r8 r9 h)
def aHN (r0 r1 r2 r8 : DV) (n : Nat) : DV → DV → H → aQ := Nat.rec (motive := λ _ => DV → DV → H → aQ) (λ _ _ _ => none) (λ _ i => bGE E r0 r1 r2 r8 i) n
def aSz (r0 r1 r2 : DV) (h : H) : aQ := vK (aW r0) λ x1 => aHN E r0 r1 r2 x1 aY (ii 0) x1 h
theorem bDm : Is E bFX (aZ aEa.res) (λ σ h => aIc E (σ p0) (σ p1) (σ p2) (σ p8) (σ p9) h) := Is.rf
abbrev bCh : fR (DV × H) := (bP (λ σ h => aIc E (σ p0) (σ p1) (σ p2) (σ p8) (σ p9) h) (aZ aEa.res))
theorem bDl : Is E bFW (bH 0 (bCh E)) (λ σ h => aHN E (σ p0) (σ p1) (σ p2) (σ p8) aY (σ p9) (σ lT) h) := Is.lp (λ n2 σ h => aHN E (σ p0) (σ p1) (σ p2) (σ p8) n2 (σ p9) (σ lT) h) λ n2 => Is.aq (Is.leaf _)
theorem bDn : iB3 E aEa (aSz E) := Is.aq (Is.sq (Is.sq (Is.sq (Is.sq (bDm E) (Is.bk (bDl E))) (Is.leaf _)) (Is.leaf _)) (Is.leaf _))
def aQM : bB := fA3 (aSz E)
theorem aKC : SQ aEa aQM := eB3 bDn
def aTD := cm 153
def aSy (E : aX) (r0 r1 : DV) (h : H) : aQ := cL r0 h λ x1 h2 => vK (aG 0 x1) λ x3 => vK (aF h2.get x3) λ x4 => vK (jO x4 r1) λ x5 => some (x5, h2)
theorem bDk : iS E aTD (aSy E) := Is.rf
def aQL : bB := iN (aSy E)
theorem aKB : SQ aTD aQL := iV bDk
def aTC := cm 156
def aSx (r0 r1 r2 r3 r4 : DV) (h : H) : aQ := wK (aB E 140 [r4] h) λ x1 h2 => vK (dF [(ii 0), (ii 0), (ii 0), (ii 0), (ii 0), .nils] [(1, 1, (ii 1)), (2, 1, r1), (3, 1, r2), (4, 1, r3), (5, 1, x1)]) λ x3 => fC 6 6 (.list [(ii 0), (ii 0), (ii 0), (ii 0), (ii 0), .nils]) h2 λ x4 h5 => wK (cQ 6 x4 x3 h5) λ x6 h7 => vK (bY .ptr false h7.get r0 .nilp) λ x8 => aP x8 false (λ kk => vK (cR 6 h7.get x4) λ v => kk v h7) h7 λ x9 h10 => aP x8 false (λ kk => wK (aB E 185 [x9] h10) kk) h10 λ x11 h12 => aP x8 false (λ kk => vK (dY x11) λ v => kk v h12) h12 λ x13 h14 => vK (aK x8 (.bool true) x13) λ x15 => bK x15 (some ((.tup [(ii 0), (ii 1)]), h14)) (vK (aA r0) λ x16 => vK (aG 1 x16) λ x17 => vK (aF h14.get x17) λ x18 => vK (dZ x18 (ii 256)) λ x19 => aP x19 false (λ kk => kk r0 h14) h14 λ x20 h21 => aP x19 false (λ kk => vK (aA x20) λ v => kk v h21) h21 λ x22 h23 => aP x19 false (λ kk => vK (aG 0 x22) λ v => kk v h23) h23 λ x24 h25 => aP x19 false (λ kk => vK (aF h25.get x24) λ v => kk v h25) h25 λ x26 h27 => aP x19 false (λ kk => vK (aW x26) λ v => kk v h27) h27 λ x28 h29 => aP x19 false (λ kk => vK (dZ x28 (ii 4096)) λ v => kk v h29) h29 λ x30 h31 => vK (aK x19 (.bool true) x30) λ x32 => bK x32 (some ((.tup [(ii 0), (ii 5)]), h31)) (vK (aA r0) λ x33 => vK (aG 0 x33) λ x34 => vK (aF h31.get x34) λ x35 => vK (aW x35) λ x36 => vK (aG 0 x4) λ x37 => wK (cQ 1 x37 x36 h31) λ x38 h39 => vK (aA r0) λ x40 => vK (aG 0 x40) λ x41 => vK (aF h39.get x41) λ x42 => vK (cR 6 h39.get x4) λ x43 => dB 1 6 [(ii 0), (ii 0), (ii 0), (ii 0), (ii 0), .nils] [(0, 6, x43)] h39 λ x44 h45 => wK (cG 6 64 x42 x44 h45) λ x46 h47 => vK (aA r0) λ x48 => vK (aG 0 x48) λ x49 => wK (cQ 1 x49 x46 h47) λ x50 h51 => vK (aA r0) λ x52 => vK (aG 1 x52) λ x53 => vK (aF h51.get x53) λ x54 => vK (bL x54 (ii 1)) λ x55 => vK (aA r0) λ x56 => vK (aG 1 x56) λ x57 => wK (cQ 1 x57 x55 h51) λ x58 h59 => vK (aG 0 x4) λ x60 => vK (aF h59.get x60) λ x61 => some ((.tup [x61, (ii 0)]), h59)))
theorem bDj : iB5 E aTC (aSx E) := Is.rf
def aQK : bB := fA5 (aSx E)
theorem aKA : SQ aTC aQK := eB5 bDj
def aTB := cm 157
def aSw (r0 : DV) (h : H) : aQ := vK (bY .ptr false h.get r0 .nilp) λ x1 => bK x1 (some (.nils, h)) (vK (aA r0) λ x2 => vK (aG 0 x2) λ x3 => vK (aF h.get x3) λ x4 => wK (aB E 77 [x4] h) λ x5 h6 => some (x5, h6))
theorem bDi : jX E aTB (aSw E) := Is.rf
def aQJ : bB := jW (aSw E)
theorem aKz : SQ aTB aQJ := kC bDi
def aTA := cm 158
def aSv (r0 r1 r2 : DV) (h : H) : aQ := vK (bY .ptr false h.get r0 .nilp) λ x1 => bK x1 (some ((ii 1), h)) (wK (aB E 139 [r0, r1] h) λ x2 h3 => vK (bY .ptr false h3.get x2 .nilp) λ x4 => bK x4 (some ((ii 7), h3)) (vK (aA x2) λ x5 => vK (aG 1 x5) λ x6 => vK (aF h3.get x6) λ x7 => vK (cW x7 (ii 1)) λ x8 => aP x8 false (λ kk => kk x2 h3) h3 λ x9 h10 => aP x8 false (λ kk => vK (aA x9) λ v => kk v h10) h10 λ x11 h12 => aP x8 false (λ kk => vK (aG 2 x11) λ v => kk v h12) h12 λ x13 h14 => aP x8 false (λ kk => vK (aF h14.get x13) λ v => kk v h14) h14 λ x15 h16 => aP x8 false (λ kk => kk r2 h16) h16 λ x17 h18 => aP x8 false (λ kk => vK (cW x15 x17) λ v => kk v h18) h18 λ x19 h20 => vK (aK x8 (.bool true) x19) λ x21 => bK x21 (some ((ii 16), h20)) (vK (aA x2) λ x22 => vK (aG 1 x22) λ x23 => wK (cQ 1 x23 (ii 2) h20) λ x24 h25 => some ((ii 0), h25))))
theorem bDh : iB3 E aTA (aSv E) := Is.rf
def aQI : bB := fA3 (aSv E)
theorem aKy : SQ aTA aQI := eB3 bDh
def aTz := cm 159
def aSu (r0 r1 r2 r3 r4 : DV) (h : H) : aQ := vK (dF [(ii 0), (ii 0), (ii 0), (ii 0)] [(0, 1, r1), (1, 1, r2), (2, 1, r3), (3, 1, r4)]) λ x1 => wK (aB E 187 [r0, x1] h) λ x2 h3 => wK (aB E 186 [x2] h3) λ x4 h5 => some (x4, h5)
theorem bDg : iB5 E aTz (aSu E) := Is.rf
def aQH : bB := fA5 (aSu E)
theorem aKx : SQ aTz aQH := eB5 bDg
def aTy := cm 165
def wV (r0 r1 r2 : DV) (h : H) : aQ := vK (bY .ptr false h.get r0 .nilp) λ x1 => bK x1 (some ((ii 1), h)) (vK (aA r0) λ x2 => vK (aG 0 x2) λ x3 => vK (aF h.get x3) λ x4 => wK (aB E 106 [x4, r1] h) λ x5 h6 => vK (bF x5 (ii 0)) λ x7 => bK x7 (some ((ii 7), h6)) (vK (aA r0) λ x8 => vK (aG 3 x8) λ x9 => vK (aF h6.get x9) λ x10 => vK (cW x10 (.int .i64 (.negSucc 0))) λ x11 => bK x11 (some ((ii 9), h6)) (vK (aA r0) λ x12 => vK (aG 2 x12) λ x13 => vK (aF h6.get x13) λ x14 => vK (cW r2 x14) λ x15 => bK x15 (some ((ii 10), h6)) (vK (aA r0) λ x16 => vK (aG 3 x16) λ x17 => wK (cQ 1 x17 x5 h6) λ x18 h19 => vK (aA r0) λ x20 => vK (aG 5 x20) λ x21 => wK (cQ 1 x21 r1 h19) λ x22 h23 => vK (aA r0) λ x24 => vK (aG 4 x24) λ x25 => wK (cQ 1 x25 (.bool false) h23) λ x26 h27 => vK (aA r0) λ x28 => vK (aG 2 x28) λ x29 => vK (aF h27.get x29) λ x30 => vK (bL x30 (ii 1)) λ x31 => vK (aA r0) λ x32 => vK (aG 2 x32) λ x33 => wK (cQ 1 x33 x31 h27) λ x34 h35 => some ((ii 0), h35)))))
theorem bDf : iB3 E aTy (wV E) := Is.rf
def aGa : bB := fA3 (wV E)
theorem aKw : SQ aTy aGa := eB3 bDf
def aTx := cm 166
def aSt (E : aX) (r0 r1 : DV) (h : H) : aQ := vK (bY .ptr false h.get r0 .nilp) λ x1 => bK x1 (some ((.tup [(ii 0), (ii 1)]), h)) (vK (aA r0) λ x2 => vK (aG 1 x2) λ x3 => vK (aF h.get x3) λ x4 => vK (aW x4) λ x5 => vK (bV x5 (ii 0)) λ x6 => bK x6 (some ((.tup [(ii 0), (ii 7)]), h)) (vK (aA r0) λ x7 => vK (aG 2 x7) λ x8 => vK (aF h.get x8) λ x9 => vK (cW r1 x9) λ x10 => bK x10 (some ((.tup [(ii 0), (ii 10)]), h)) (vK (aA r0) λ x11 => vK (aG 3 x11) λ x12 => vK (aF h.get x12) λ x13 => vK (bV x13 (.int .i64 (.negSucc 0))) λ x14 => aP x14 false (λ kk => kk r0 h) h λ x15 h16 => aP x14 false (λ kk => vK (aA x15) λ v => kk v h16) h16 λ x17 h18 => aP x14 false (λ kk => vK (aG 4 x17) λ v => kk v h18) h18 λ x19 h20 => aP x14 false (λ kk => vK (aF h20.get x19) λ v => kk v h20) h20 λ x21 h22 => vK (aK x14 (.bool true) x21) λ x23 => bK x23 (some ((.tup [(ii 0), (ii 16)]), h22)) (vK (aA r0) λ x24 => vK (aG 1 x24) λ x25 => vK (aF h22.get x25) λ x26 => vK (cH 1 x26 (ii 0)) λ x27 => vK (aF h22.get x27) λ x28 => vK (aA r0) λ x29 => vK (aG 1 x29) λ x30 => vK (aF h22.get x30) λ x31 => vK (eF 1 x31 (some (ii 1)) none) λ x32 => vK (aA r0) λ x33 => vK (aG 1 x33) λ x34 => wK (cQ 1 x34 x32 h22) λ x35 h36 => vK (aA r0) λ x37 => vK (aG 0 x37) λ x38 => vK (aF h36.get x38) λ x39 => vK (aA r0) λ x40 => vK (aG 3 x40) λ x41 => vK (aF h36.get x41) λ x42 => vK (cH 1 x39 x42) λ x43 => wK (cQ 1 x43 x28 h36) λ x44 h45 => vK (aA r0) λ x46 => vK (aG 4 x46) λ x47 => wK (cQ 1 x47 (.bool true) h45) λ x48 h49 => vK (aA r0) λ x50 => vK (aG 2 x50) λ x51 => vK (aF h49.get x51) λ x52 => vK (bL x52 (ii 1)) λ x53 => vK (aA r0) λ x54 => vK (aG 2 x54) λ x55 => wK (cQ 1 x55 x53 h49) λ x56 h57 => some ((.tup [x28, (ii 0)]), h57)))))
theorem bDe : iS E aTx (aSt E) := Is.rf
def aQG : bB := iN (aSt E)
theorem aKv : SQ aTx aQG := iV bDe
def aTw := cm 167
def aSs (r0 r1 : DV) (h : H) : aQ := cL r1 h λ x1 h2 => wK (aB E 103 [r0, (.fn (.func 193) [] [x1])] h2) λ x3 h4 => some (x3, h4)
theorem bDd : iS E aTw (aSs E) := Is.rf
def aQF : bB := iN (aSs E)
theorem aKu : SQ aTw aQF := iV bDd
def aIB := cm 168
def bFV := cr (cr (cr aIB.body))
def aIb (r0 r2 r3 r9 r10 : DV) (h : H) : aQ := vK (bY .ptr false h.get r0 .nilp) λ x1 => aP x1 false (λ kk => kk r2 h) h λ x2 h3 => aP x1 false (λ kk => vK (bF x2 (ii 0)) λ v => kk v h3) h3 λ x4 h5 => vK (aK x1 (.bool true) x4) λ x6 => aP x6 false (λ kk => kk r2 h5) h5 λ x7 h8 => aP x6 false (λ kk => kk r10 h8) h8 λ x9 h10 => aP x6 false (λ kk => vK (dZ x7 x9) λ v => kk v h10) h10 λ x11 h12 => vK (aK x6 (.bool true) x11) λ x13 => aP x13 false (λ kk => kk r3 h12) h12 λ x14 h15 => aP x13 false (λ kk => vK (bF x14 (ii 0)) λ v => kk v h15) h15 λ x16 h17 => vK (aK x13 (.bool true) x16) λ x18 => aP x18 false (λ kk => kk r3 h17) h17 λ x19 h20 => aP x18 false (λ kk => vK (dZ x19 (ii 64)) λ v => kk v h20) h20 λ x21 h22 => vK (aK x18 (.bool true) x21) λ x23 => bK x23 (some ((ii 1), h22)) (vK (bY .ptr false h22.get r9 .nilp) λ x24 => bK x24 (some ((ii 7), h22)) (vK (aA r9) λ x25 => vK (aG 5 x25) λ x26 => vK (aF h22.get x26) λ x27 => wK (aB E 106 [x27, r3] h22) λ x28 h29 => vK (dZ x28 (ii 0)) λ x30 => aP x30 true (λ kk => kk x28 h29) h29 λ x31 h32 => aP x30 true (λ kk => kk r2 h32) h32 λ x33 h34 => aP x30 true (λ kk => vK (cW x31 x33) λ v => kk v h34) h34 λ x35 h36 => vK (aK x30 x35 (.bool false)) λ x37 => bK x37 (some ((ii 6), h36)) (vK (aA r9) λ x38 => vK (aG 1 x38) λ x39 => vK (aF h36.get x39) λ x40 => vK (bV x40 (ii 3)) λ x41 => bK x41 (some ((ii 16), h36)) (vK (aA r9) λ x42 => vK (aG 5 x42) λ x43 => vK (aF h36.get x43) λ x44 => vK (cH 1 x44 r2) λ x45 => wK (cQ 1 x45 r3 h36) λ x46 h47 => some ((ii 0), h47)))))
def aSr (r0 r1 r2 r3 : DV) (h : H) : aQ := wK (aB E 139 [r0, r1] h) λ x1 h2 => vK (bY .ptr true h2.get x1 .nilp) λ x3 => bK x3 (vK (aA x1) λ x4 => vK (aG 5 x4) λ x5 => vK (aF h2.get x5) λ x6 => vK (aW x6) λ x7 => aIb E r0 r2 r3 x1 x7 h2) (aIb E r0 r2 r3 x1 (ii 8) h2)
theorem bDb : Is E bFV (aZ aIB.res) (λ σ h => aIb E (σ p0) (σ p2) (σ p3) (σ p9) (σ lT) h) := Is.rf
theorem bDc : iB4 E aIB (aSr E) := Is.aq (Is.sq (Is.sq (Is.sq (bDb E) (Is.leaf _)) (Is.leaf _)) (Is.leaf _))
def aQE : bB := fA4 (aSr E)
theorem aKt : SQ aIB aQE := eB4 bDc
def aTv := cm 169
def aSq (E : aX) (r0 r1 : DV) (h : H) : aQ := vK (bY .ptr false h.get r0 .nilp) λ x1 => bK x1 (some ((ii 1), h)) (vK (aA r0) λ x2 => vK (aG 2 x2) λ x3 => vK (aF h.get x3) λ x4 => vK (cW r1 x4) λ x5 => bK x5 (some ((ii 10), h)) (vK (aA r0) λ x6 => vK (aG 4 x6) λ x7 => vK (aF h.get x7) λ x8 => vK (dY x8) λ x9 => bK x9 (some ((ii 16), h)) (vK (aA r0) λ x10 => vK (aG 3 x10) λ x11 => wK (cQ 1 x11 (.int .i64 (.negSucc 0)) h) λ x12 h13 => vK (aA r0) λ x14 => vK (aG 5 x14) λ x15 => wK (cQ 1 x15 (.int .i64 (.negSucc 0)) h13) λ x16 h17 => vK (aA r0) λ x18 => vK (aG 4 x18) λ x19 => wK (cQ 1 x19 (.bool false) h17) λ x20 h21 => vK (aA r0) λ x22 => vK (aG 2 x22) λ x23 => vK (aF h21.get x23) λ x24 => vK (bL x24 (ii 1)) λ x25 => vK (aA r0) λ x26 => vK (aG 2 x26) λ x27 => wK (cQ 1 x27 x25 h21) λ x28 h29 => some ((ii 0), h29))))
theorem bDa : iS E aTv (aSq E) := Is.rf
def aQD : bB := iN (aSq E)
theorem aKs : SQ aTv aQD := iV bDa
def bFt := cm 178
def aSp (E : aX) (r0 : DV) (h : H) : aQ := cL r0 h λ x1 h2 => vK (aG 0 x1) λ x3 => vK (aF h2.get x3) λ x4 => vK (dY x4) λ x5 => some (x5, h2)
theorem bCZ : jX E bFt (aSp E) := Is.rf
def bBM : bB := jW (aSp E)
theorem aWr : SQ bFt bBM := kC bCZ
def bFs := cm 179
def aSo (r0 r1 r2 : DV) (h : H) : aQ := vK (aF h.get r0) λ x1 => vK (aA x1) λ x2 => vK (aG 0 x2) λ x3 => vK (aF h.get x3) λ x4 => vK (aF h.get r1) λ x5 => vK (aF h.get r2) λ x6 => wK (aB E 180 [x4, x5, x6] h) λ x7 h8 => some (x7, h8)
theorem bCY : iB3 E bFs (aSo E) := Is.rf
def bBL : bB := fA3 (aSo E)
theorem aWq : SQ bFs bBL := eB3 bCY
def aIA := cm 180
def bFU := cr (cr (cr (cr aIA.body)))
def aII := cl (cr (cl (cr (cr (cr aIA.body)))))
def bFT := cr (cr (cr (cl aII)))
def bFS := cr (cr (cr (cl (cl (cr (cr (cl aII)))))))
def aIa (E : aX) (h : H) : aQ := some ((ii 0), h)
def aHZ (E : aX) (i2 : DV → H → aQ) (r28 : DV) (h : H) : aQ := vK (bL r28 (ii 1)) λ x1 => i2 x1 h
def aHY (i2 : DV → H → aQ) (r0 r2 r9 r10 r28 : DV) (h : H) : aQ := vK (aA r0) λ x1 => vK (aG 0 x1) λ x2 => vK (aF h.get x2) λ x3 => vK (mR r9 (ii 64)) λ x4 => vK (bL r9 (ii 1)) λ x5 => vK (mR x5 (ii 64)) λ x6 => vK (jM r2 (some x4) (some x6)) λ x7 => vK (cH 1 x3 r10) λ x8 => wK (cQ 1 x8 x7 h) λ x9 h10 => aHZ E i2 r28 h10
def bGD (r0 r1 r2 r27 : DV) (i2 : DV → H → aQ) (r28 : DV) (h : H) : aQ := vK (bF r28 r27) λ x1 => bK x1 (vK (bL r1 r28) λ x2 => vK (aA r0) λ x3 => vK (aG 1 x3) λ x4 => vK (aF h.get x4) λ x5 => vK (tY .int (.str []) true h.get x5 x2) λ x6 => vK (aT 0 x6) λ x7 => vK (aT 1 x6) λ x8 => vK (dY x8) λ x9 => bK x9 (vK (aA r0) λ x10 => vK (aG 1 x10) λ x11 => vK (aF h.get x11) λ x12 => vK (aA r0) λ x13 => vK (aG 0 x13) λ x14 => vK (aF h.get x14) λ x15 => vK (cH 1 x15 x2) λ x16 => vK (aF h.get x16) λ x17 => wK (aBu .int x12 x2 x17 h) λ x18 h19 => aHY E i2 r0 r2 r28 x2 r28 h19) (aHY E i2 r0 r2 r28 x2 r28 h)) (aIa E h)
def tP (r0 r1 r2 r27 : DV) (n : Nat) : DV → H → aQ := Nat.rec (motive := λ _ => DV → H → aQ) (λ _ _ => none) (λ _ i => bGD E r0 r1 r2 r27 i) n
def aSn (r0 r1 r2 : DV) (h : H) : aQ := vK (dT r2) λ x1 => vK (aNf x1 (ii 64)) λ x2 => vK (dT r2) λ x3 => vK (aNe x3 (ii 64)) λ x4 => vK (bV x4 (ii 0)) λ x5 => wK (aB E 107 [r0, r1, x2, x5] h) λ x6 h7 => vK (cW x6 (ii 0)) λ x8 => bK x8 (some (x6, h7)) (tP E r0 r1 r2 x2 aY (ii 0) h7)
theorem bCW : Is E bFU (aZ aIA.res) (λ σ h => aIa E h) := Is.rf
abbrev aRy : fR (DV × H) := (bH 0 (bP (λ σ h => aIa E h) (aZ aIA.res)))
abbrev aRx (n2 : Nat) : fR (DV × H) := (bP (λ σ h => (tP E (σ p0) (σ p1) (σ p2) (σ p27) n2) (σ p28) h) (aRy E))
theorem bCU (n2 : Nat) : Is E bFT (aRx E n2) (λ σ h => aHZ E (tP E (σ p0) (σ p1) (σ p2) (σ p27) n2) (σ p28) h) := Is.rf
abbrev bCg (n2 : Nat) : fR (DV × H) := (bP (λ σ h => aHZ E (tP E (σ p0) (σ p1) (σ p2) (σ p27) n2) (σ p28) h) (aRx E n2))
theorem bCT (n2 : Nat) : Is E bFS (bH 1 (bCg E n2)) (λ σ h => aHY E (tP E (σ p0) (σ p1) (σ p2) (σ p27) n2) (σ p0) (σ p2) (σ p9) (σ lT) (σ p28) h) := Is.rf
theorem bCV : Is E aII (aRy E) (λ σ h => tP E (σ p0) (σ p1) (σ p2) (σ p27) aY (σ p28) h) := Is.lp (λ n2 σ h => tP E (σ p0) (σ p1) (σ p2) (σ p27) n2 (σ p28) h) λ n2 => Is.aq (Is.sq (Is.sq (Is.sq (bCU E n2) (Is.bk (Is.sq (Is.sq (Is.sq (bCT E n2) (Is.leaf _)) (Is.leaf _)) (Is.leaf _)))) (Is.leaf _)) (Is.leaf _))
theorem bCX : iB3 E aIA (aSn E) := Is.aq (Is.sq (Is.sq (Is.sq (Is.sq (bCW E) (Is.sq (Is.bk (bCV E)) (Is.leaf _))) (Is.leaf _)) (Is.leaf _)) (Is.leaf _))
def bBI : bB := fA3 (aSn E)
theorem aWp : SQ aIA bBI := eB3 bCX
def bFr := cm 181
def aSm (E : aX) (r0 : DV) (h : H) : aQ := vK (bY .ptr true h.get r0 .nilp) λ x1 => bK x1 (vK (aA r0) λ x2 => vK (aG 1 x2) λ x3 => vK (aF h.get x3) λ x4 => wK (lL x4 h) λ x5 h6 => some ((.tup []), h6)) (some ((.tup []), h))
theorem bCS : jX E bFr (aSm E) := Is.rf
def bBH : bB := jW (aSm E)
theorem aWo : SQ bFr bBH := kC bCS
def aIz := cm 182
def bFR := cr (cr (cr aIz.body))
def bFQ := cl (cr (cl (cr (cr aIz.body))))
def aDA (E : aX) (r5 : DV) (h : H) : aQ := vK (nM (.int .u32 (.ofNat 4294967295)) r5) λ x1 => some (x1, h)
def aBe (r1 r10 : DV) (i2 : DV → DV → H → aQ) (r5 r11 : DV) (h : H) : aQ := vK (bF r11 r10) λ x1 => bK x1 (vK (lU r1 r11) λ x2 => vK (cO .u32 x2) λ x3 => vK (nM r5 x3) λ x4 => wK (aB E 199 [x4] h) λ x5 h6 => vK (bL r11 (ii 1)) λ x7 => i2 x5 x7 h6) (aDA E r5 h)
def wR (r1 r10 : DV) (n : Nat) : DV → DV → H → aQ := Nat.rec (motive := λ _ => DV → DV → H → aQ) (λ _ _ _ => none) (λ _ i => aBe E r1 r10 i) n
def aDB (r0 r1 : DV) (h : H) : aQ := vK (nM (.int .u32 (.ofNat 4294967295)) r0) λ x1 => vK (dT r1) λ x2 => wR E r1 x2 aY x1 (ii 0) h
theorem bCQ : Is E bFR (aZ aIz.res) (λ σ h => aDA E (σ p5) h) := Is.rf
abbrev bCf : fR (DV × H) := (bP (λ σ h => aDA E (σ p5) h) (aZ aIz.res))
theorem bCP : Is E bFQ (bH 0 (bCf E)) (λ σ h => wR E (σ p1) (σ lT) aY (σ p5) (σ p11) h) := Is.lp (λ n2 σ h => wR E (σ p1) (σ lT) n2 (σ p5) (σ p11) h) λ n2 => Is.aq (Is.leaf _)
theorem bCR : iS E aIz (aDB E) := Is.aq (Is.sq (Is.sq (Is.sq (bCQ E) (Is.sq (Is.bk (bCP E)) (Is.leaf _))) (Is.leaf _)) (Is.leaf _))
def aHy : bB := iN (aDB E)
theorem aWn : SQ aIz aHy := iV bCR
def bFq := cm 183
def aSl (E : aX) (r0 : DV) (h : H) : aQ := vK (cO .u8 r0) λ x1 => vK (jP r0 (.int .u64 (.ofNat 8))) λ x2 => vK (cO .u8 x2) λ x3 => vK (jP r0 (.int .u64 (.ofNat 16))) λ x4 => vK (cO .u8 x4) λ x5 => vK (jP r0 (.int .u64 (.ofNat 24))) λ x6 => vK (cO .u8 x6) λ x7 => dB 4 1 [(.int .u8 (.ofNat 0))] [(0, 1, x1), (1, 1, x3), (2, 1, x5), (3, 1, x7)] h λ x8 h9 => vK (jY h9.get x8) λ x10 => some (x10, h9)
theorem bCO : jX E bFq (aSl E) := Is.rf
def aHx : bB := jW (aSl E)
theorem aWm : SQ bFq aHx := kC bCO
def aTu := cm 185
def aSk (r0 : DV) (h : H) : aQ := cL r0 h λ x1 h2 => vK (aG 2 x1) λ x3 => vK (aF h2.get x3) λ x4 => vK (dZ x4 (ii 0)) λ x5 => aP x5 true (λ kk => vK (aG 2 x1) λ v => kk v h2) h2 λ x6 h7 => aP x5 true (λ kk => vK (aF h7.get x6) λ v => kk v h7) h7 λ x8 h9 => aP x5 true (λ kk => vK (bF x8 (ii 16)) λ v => kk v h9) h9 λ x10 h11 => vK (aK x5 x10 (.bool false)) λ x12 => aP x12 true (λ kk => vK (aG 3 x1) λ v => kk v h11) h11 λ x13 h14 => aP x12 true (λ kk => vK (aF h14.get x13) λ v => kk v h14) h14 λ x15 h16 => aP x12 true (λ kk => vK (dZ x15 (ii 1)) λ v => kk v h16) h16 λ x17 h18 => vK (aK x12 x17 (.bool false)) λ x19 => aP x19 true (λ kk => vK (aG 4 x1) λ v => kk v h18) h18 λ x20 h21 => aP x19 true (λ kk => vK (aF h21.get x20) λ v => kk v h21) h21 λ x22 h23 => aP x19 true (λ kk => vK (dZ x22 (ii 0)) λ v => kk v h23) h23 λ x24 h25 => vK (aK x19 x24 (.bool false)) λ x26 => aP x26 true (λ kk => vK (aG 4 x1) λ v => kk v h25) h25 λ x27 h28 => aP x26 true (λ kk => vK (aF h28.get x27) λ v => kk v h28) h28 λ x29 h30 => aP x26 true (λ kk => vK (rT x29 (ii 65536)) λ v => kk v h30) h30 λ x31 h32 => vK (aK x26 x31 (.bool false)) λ x33 => aP x33 true (λ kk => vK (aG 5 x1) λ v => kk v h32) h32 λ x34 h35 => aP x33 true (λ kk => vK (aF h35.get x34) λ v => kk v h35) h35 λ x36 h37 => aP x33 true (λ kk => wK (aB E 201 [x36] h37) kk) h37 λ x38 h39 => vK (aK x33 x38 (.bool false)) λ x40 => some (x40, h39)
theorem bCN : jX E aTu (aSk E) := Is.rf
def aQC : bB := jW (aSk E)
theorem aKr : SQ aTu aQC := kC bCN
def aTt := cm 186
def aSj (r0 : DV) (h : H) : aQ := vK (dF [(ii 0)] []) λ x1 => wK (aB E 202 [r0, (.ifc 284 x1)] h) λ x2 h3 => vK (dY x2) λ x4 => bK x4 (some ((ii 0), h3)) (vK (aBB 284 (.agg [(ii 0)]) true r0) λ x5 => vK (aT 0 x5) λ x6 => vK (aT 1 x5) λ x7 => fC 1 1 (.list [(ii 0)]) h3 λ x8 h9 => wK (cQ 1 x8 x6 h9) λ x10 h11 => vK (aG 0 x8) λ x12 => vK (aF h11.get x12) λ x13 => some (x13, h11))
theorem bCM : jX E aTt (aSj E) := Is.rf
def aQB : bB := jW (aSj E)
theorem aKq : SQ aTt aQB := kC bCM
def aTs := cm 187
def aSi (r0 r1 : DV) (h : H) : aQ := cL r1 h λ x1 h2 => vK (bY .ptr false h2.get r0 .nilp) λ x3 => aP x3 false (λ kk => vK (aG 0 x1) λ v => kk v h2) h2 λ x4 h5 => aP x3 false (λ kk => vK (aF h5.get x4) λ v => kk v h5) h5 λ x6 h7 => aP x3 false (λ kk => vK (bF x6 (ii 0)) λ v => kk v h7) h7 λ x8 h9 => vK (aK x3 (.bool true) x8) λ x10 => aP x10 false (λ kk => vK (aG 0 x1) λ v => kk v h9) h9 λ x11 h12 => aP x10 false (λ kk => vK (aF h12.get x11) λ v => kk v h12) h12 λ x13 h14 => aP x10 false (λ kk => vK (dZ x13 (ii 4096)) λ v => kk v h14) h14 λ x15 h16 => vK (aK x10 (.bool true) x15) λ x17 => aP x17 false (λ kk => vK (cR 4 h16.get x1) λ v => kk v h16) h16 λ x18 h19 => aP x17 false (λ kk => wK (aB E 203 [x18] h19) kk) h19 λ x20 h21 => aP x17 false (λ kk => vK (dY x20) λ v => kk v h21) h21 λ x22 h23 => vK (aK x17 (.bool true) x22) λ x24 => bK x24 (vK (dF [(ii 0)] [(0, 1, (ii 1))]) λ x25 => some ((.ifc 284 x25), h23)) (vK (aG 0 x1) λ x26 => vK (aF h23.get x26) λ x27 => wK (aB E 188 [r0, x27] h23) λ x28 h29 => vK (aT 0 x28) λ x30 => vK (aT 1 x28) λ x31 => bK x31 (vK (dF [(ii 0)] [(0, 1, (ii 6))]) λ x32 => some ((.ifc 284 x32), h29)) (vK (aA r0) λ x33 => vK (aG 0 x33) λ x34 => vK (aF h29.get x34) λ x35 => vK (cR 4 h29.get x1) λ x36 => dB 1 4 [(ii 0), (ii 0), (ii 0), (ii 0)] [(0, 4, x36)] h29 λ x37 h38 => wK (aB E 204 [x35, x30, x37] h38) λ x39 h40 => vK (aA r0) λ x41 => vK (aG 0 x41) λ x42 => wK (cQ 1 x42 x39 h40) λ x43 h44 => some (.nili, h44)))
theorem bCL : iS E aTs (aSi E) := Is.rf
def aQA : bB := iN (aSi E)
theorem aKp : SQ aTs aQA := iV bCL
def aTr := cm 188
def aSh (r0 r1 : DV) (h : H) : aQ := vK (aA r0) λ x1 => vK (aG 0 x1) λ x2 => vK (aF h.get x2) λ x3 => wK (aB E 205 [x3, r1, (.fn (.func 206) [] [])] h) λ x4 h5 => vK (aT 0 x4) λ x6 => vK (aT 1 x4) λ x7 => some ((.tup [x6, x7]), h5)
theorem bCK : iS E aTr (aSh E) := Is.rf
def aQz : bB := iN (aSh E)
theorem aKo : SQ aTr aQz := iV bCK
def aTq := cm 193
def aSg (r0 r1 : DV) (h : H) : aQ := cL r0 h λ x1 h2 => vK (aG 1 x1) λ x3 => vK (aF h2.get x3) λ x4 => vK (cW x4 (ii 3)) λ x5 => aP x5 true (λ kk => vK (aG 5 x1) λ v => kk v h2) h2 λ x6 h7 => aP x5 true (λ kk => vK (aF h7.get x6) λ v => kk v h7) h7 λ x8 h9 => aP x5 true (λ kk => vK (aF h9.get r1) λ v => kk v h9) h9 λ x10 h11 => aP x5 true (λ kk => wK (aB E 72 [x8, x10] h11) kk) h11 λ x12 h13 => vK (aK x5 x12 (.bool false)) λ x14 => some (x14, h13)
theorem bCJ : iS E aTq (aSg E) := Is.rf
def aQy : bB := iN (aSg E)
theorem aKn : SQ aTq aQy := iV bCJ
def aTp := cm 199
def bFP := cr aTp.body
def wX (E : aX) (i1 : DV → DV → H → aQ) (r0 r3 : DV) (h : H) : aQ := vK (jP r0 (.int .u64 (.ofNat 1))) λ x1 => vK (nR r0 (.int .u32 (.ofNat 1))) λ x2 => vK (rS x2) λ x3 => vK (nR (.int .u32 (.ofNat 3988292384)) x3) λ x4 => vK (nM x1 x4) λ x5 => vK (jO r3 (ii 1)) λ x6 => vK (dA x6 (ii 0)) λ x7 => bK x7 (i1 x5 x6 h) (some (x5, h))
def wQ (n : Nat) : DV → DV → H → aQ := Nat.rec (motive := λ _ => DV → DV → H → aQ) (λ _ _ _ => none) (λ _ i => wX E i) n
def aSe (r0 : DV) (h : H) : aQ := vK (jP r0 (.int .u64 (.ofNat 1))) λ x1 => vK (nR r0 (.int .u32 (.ofNat 1))) λ x2 => vK (rS x2) λ x3 => vK (nR (.int .u32 (.ofNat 3988292384)) x3) λ x4 => vK (nM x1 x4) λ x5 => vK (jO (ii 8) (ii 1)) λ x6 => vK (dA x6 (ii 0)) λ x7 => bK x7 (wQ E aY x5 x6 h) (some (x5, h))
def aSf (r0 : DV) (h : H) : aQ := aSe E r0 h
theorem bCH : Is E bFP (aZ aTp.res) (λ σ h => aSe E (σ p0) h) := Is.aq (Is.jm (g := 4294967296) (λ n1 σ h => wQ E n1 (σ p0) (σ p3) h) (λ n1 => Is.aq (Is.leaf _)) (Is.leaf _))
theorem bCI : jX E aTp (aSf E) := Is.aq (Is.sq (bCH E) (Is.leaf _))
def aFZ : bB := jW (aSf E)
theorem aWl : SQ aTp aFZ := kC bCI
def aDZ := cm 201
def bFO := cr (cr (cr aDZ.body))
def bFN := cl (cr (cl (cr (cr aDZ.body))))
def aHX (E : aX) (h : H) : aQ := some ((.bool true), h)
def bGC (r0 r13 r14 : DV) (i2 : DV → H → aQ) (r15 : DV) (h : H) : aQ := vK (bF r15 r14) λ x1 => bK x1 (vK (cH 1 r13 r15) λ x2 => vK (aF h.get x2) λ x3 => vK (bF x3 (ii 0)) λ x4 => aP x4 false (λ kk => kk x3 h) h λ x5 h6 => aP x4 false (λ kk => vK (dZ x5 (ii 64)) λ v => kk v h6) h6 λ x7 h8 => vK (aK x4 (.bool true) x7) λ x9 => aP x9 false (λ kk => kk r0 h8) h8 λ x10 h11 => aP x9 false (λ kk => kk r15 h11) h11 λ x12 h13 => aP x9 false (λ kk => vK (eF 1 x10 none (some x12)) λ v => kk v h13) h13 λ x14 h15 => aP x9 false (λ kk => kk x3 h15) h15 λ x16 h17 => aP x9 false (λ kk => wK (aB E 72 [x14, x16] h17) kk) h17 λ x18 h19 => vK (aK x9 (.bool true) x18) λ x20 => bK x20 (some ((.bool false), h19)) (vK (bL r15 (ii 1)) λ x21 => i2 x21 h19)) (aHX E h)
def aHM (r0 r13 r14 : DV) (n : Nat) : DV → H → aQ := Nat.rec (motive := λ _ => DV → H → aQ) (λ _ _ => none) (λ _ i => bGC E r0 r13 r14 i) n
def aSd (r0 : DV) (h : H) : aQ := vK (aW r0) λ x1 => vK (bF x1 (ii 2)) λ x2 => aP x2 false (λ kk => kk r0 h) h λ x3 h4 => aP x2 false (λ kk => vK (aW x3) λ v => kk v h4) h4 λ x5 h6 => aP x2 false (λ kk => vK (dA x5 (ii 8)) λ v => kk v h6) h6 λ x7 h8 => vK (aK x2 (.bool true) x7) λ x9 => bK x9 (some ((.bool false), h8)) (vK (aW r0) λ x10 => aHM E r0 r0 x10 aY (ii 0) h8)
theorem bCF : Is E bFO (aZ aDZ.res) (λ σ h => aHX E h) := Is.rf
abbrev bCe : fR (DV × H) := (bH 0 (bP (λ σ h => aHX E h) (aZ aDZ.res)))
theorem bCE : Is E bFN (bCe E) (λ σ h => aHM E (σ p0) (σ pU) (σ qU) aY (σ p15) h) := Is.lp (λ n2 σ h => aHM E (σ p0) (σ pU) (σ qU) n2 (σ p15) h) λ n2 => Is.aq (Is.leaf _)
theorem bCG : jX E aDZ (aSd E) := Is.aq (Is.sq (Is.sq (Is.sq (bCF E) (Is.sq (Is.bk (bCE E)) (Is.leaf _))) (Is.leaf _)) (Is.leaf _))
def aQx : bB := jW (aSd E)
theorem aKm : SQ aDZ aQx := kC bCG
def aTo := cm 202
def aSc (r0 r1 : DV) (h : H) : aQ := vK (bY .nilI false h.get r0 .nili) λ x1 => aP x1 false (λ kk => kk r1 h) h λ x2 h3 => aP x1 false (λ kk => vK (bY .nilI false h3.get x2 .nili) λ v => kk v h3) h3 λ x4 h5 => vK (aK x1 (.bool true) x4) λ x6 => bK x6 (vK (bY .nilD false h5.get r0 r1) λ x7 => some (x7, h5)) (wK (aB E 209 [r1] h5) λ x8 h9 => wK (aFO E [] x8 [] h9) λ x10 h11 => wK (aB E 210 [r0, r1, x10] h11) λ x12 h13 => some (x12, h13))
theorem bCD : iS E aTo (aSc E) := Is.rf
def aQw : bB := iN (aSc E)
theorem aKl : SQ aTo aQw := iV bCD
def aTn := cm 203
def aSb (E : aX) (r0 : DV) (h : H) : aQ := cL r0 h λ x1 h2 => vK (aG 1 x1) λ x3 => vK (aF h2.get x3) λ x4 => vK (dZ x4 (ii 1)) λ x5 => aP x5 true (λ kk => vK (aG 1 x1) λ v => kk v h2) h2 λ x6 h7 => aP x5 true (λ kk => vK (aF h7.get x6) λ v => kk v h7) h7 λ x8 h9 => aP x5 true (λ kk => vK (rT x8 (ii 65536)) λ v => kk v h9) h9 λ x10 h11 => vK (aK x5 x10 (.bool false)) λ x12 => aP x12 true (λ kk => vK (aG 2 x1) λ v => kk v h11) h11 λ x13 h14 => aP x12 true (λ kk => vK (aF h14.get x13) λ v => kk v h14) h14 λ x15 h16 => aP x12 true (λ kk => vK (dZ x15 (ii 0)) λ v => kk v h16) h16 λ x17 h18 => vK (aK x12 x17 (.bool false)) λ x19 => aP x19 true (λ kk => vK (aG 2 x1) λ v => kk v h18) h18 λ x20 h21 => aP x19 true (λ kk => vK (aF h21.get x20) λ v => kk v h21) h21 λ x22 h23 => aP x19 true (λ kk => vK (aG 1 x1) λ v => kk v h23) h23 λ x24 h25 => aP x19 true (λ kk => vK (aF h25.get x24) λ v => kk v h25) h25 λ x26 h27 => aP x19 true (λ kk => vK (rT x22 x26) λ v => kk v h27) h27 λ x28 h29 => vK (aK x19 x28 (.bool false)) λ x30 => aP x30 true (λ kk => vK (aG 3 x1) λ v => kk v h29) h29 λ x31 h32 => aP x30 true (λ kk => vK (aF h32.get x31) λ v => kk v h32) h32 λ x33 h34 => aP x30 true (λ kk => vK (dZ x33 (ii 0)) λ v => kk v h34) h34 λ x35 h36 => vK (aK x30 x35 (.bool false)) λ x37 => aP x37 true (λ kk => vK (aG 3 x1) λ v => kk v h36) h36 λ x38 h39 => aP x37 true (λ kk => vK (aF h39.get x38) λ v => kk v h39) h39 λ x40 h41 => aP x37 true (λ kk => vK (rT x40 (ii 1099511627776)) λ v => kk v h41) h41 λ x42 h43 => vK (aK x37 x42 (.bool false)) λ x44 => some (x44, h43)
theorem bCC : jX E aTn (aSb E) := Is.rf
def aQv : bB := jW (aSb E)
theorem aKk : SQ aTn aQv := kC bCC
def aTm := cm 204
def aSa (r0 r1 r2 : DV) (h : H) : aQ := vK (eF 4 r0 (some r1) none) λ x1 => vK (aW r2) λ x2 => vK (bV x2 (ii 0)) λ x3 => bK x3 (some (r0, h)) (vK (aW r0) λ x4 => vK (bV r1 x4) λ x5 => bK x5 (wK (cG 4 32 r0 r2 h) λ x6 h7 => some (x6, h7)) (vK (bL x4 x2) λ x8 => vK (yZ r0) λ x9 => vK (dA x8 x9) λ x10 => bK x10 (vK (eF 4 r0 none (some r1)) λ x11 => vK (bL x4 x2) λ x12 => vK (jO x12 r1) λ x13 => wK (aBv 4 32 [(ii 0), (ii 0), (ii 0), (ii 0)] x11 x13 h) λ x14 h15 => vK (eF 4 x14 (some r1) none) λ x16 => wK (jK 4 x16 r2 h15) λ x17 h18 => vK (bL r1 x2) λ x19 => vK (eF 4 x14 (some x19) none) λ x20 => vK (eF 4 r0 (some r1) none) λ x21 => wK (jK 4 x20 x21 h18) λ x22 h23 => some (x14, h23)) (vK (bL x4 x2) λ x24 => vK (eF 4 r0 none (some x24)) λ x25 => vK (bL r1 x2) λ x26 => vK (eF 4 x25 (some x26) none) λ x27 => vK (aEt h.get r2 x27) λ x28 => vK (dY x28) λ x29 => bK x29 (vK (bL r1 x2) λ x30 => vK (eF 4 x25 (some x30) none) λ x31 => vK (eF 4 x25 (some r1) none) λ x32 => wK (jK 4 x31 x32 h) λ x33 h34 => vK (eF 4 x25 (some r1) none) λ x35 => wK (jK 4 x35 r2 h34) λ x36 h37 => some (x25, h37)) (vK (eF 4 x25 (some x4) none) λ x38 => wK (jK 4 x38 r2 h) λ x39 h40 => vK (eF 4 x25 (some r1) none) λ x41 => wK (aB E 212 [x41, x2] h40) λ x42 h43 => some (x25, h43)))))
theorem bCB : iB3 E aTm (aSa E) := Is.rf
def aQu : bB := fA3 (aSa E)
theorem aKj : SQ aTm aQu := eB3 bCB
def aDY := cm 205
def bFM := cr (cr (cr (cr aDY.body)))
def bFL := cl (cl (cr (cr (cr aDY.body))))
def aHW (r0 r1 r2 r8 r9 : DV) (h : H) : aQ := vK (bF r9 r8) λ x1 => aP x1 true (λ kk => kk r2 h) h λ x2 h3 => aP x1 true (λ kk => kk r0 h3) h3 λ x4 h5 => aP x1 true (λ kk => kk r9 h5) h5 λ x6 h7 => aP x1 true (λ kk => vK (cH 4 x4 x6) λ v => kk v h7) h7 λ x8 h9 => aP x1 true (λ kk => vK (cR 4 h9.get x8) λ v => kk v h9) h9 λ x10 h11 => aP x1 true (λ kk => kk r1 h11) h11 λ x12 h13 => aP x1 true (λ kk => wK (mJ E x2 [x10, x12] h13) kk) h13 λ x14 h15 => aP x1 true (λ kk => vK (bV x14 (ii 0)) λ v => kk v h15) h15 λ x16 h17 => vK (aK x1 x16 (.bool false)) λ x18 => some ((.tup [r9, x18]), h17)
def bGB (r0 r1 r2 r8 : DV) (i2 : DV → DV → H → aQ) (r9 r10 : DV) (h : H) : aQ := vK (bF r9 r10) λ x1 => bK x1 (vK (bL r9 r10) λ x2 => vK (cO .u64 x2) λ x3 => vK (jP x3 (.int .u64 (.ofNat 1))) λ x4 => vK (cO .i64 x4) λ x5 => vK (cH 4 r0 x5) λ x6 => vK (cR 4 h.get x6) λ x7 => wK (mJ E r2 [x7, r1] h) λ x8 h9 => vK (bF x8 (ii 0)) λ x10 => bK x10 (vK (bL x5 (ii 1)) λ x11 => i2 x11 r10 h9) (i2 r9 x5 h9)) (aHW E r0 r1 r2 r8 r9 h)
def aHL (r0 r1 r2 r8 : DV) (n : Nat) : DV → DV → H → aQ := Nat.rec (motive := λ _ => DV → DV → H → aQ) (λ _ _ _ => none) (λ _ i => bGB E r0 r1 r2 r8 i) n
def aRZ (r0 r1 r2 : DV) (h : H) : aQ := vK (aW r0) λ x1 => aHL E r0 r1 r2 x1 aY (ii 0) x1 h
theorem bCz : Is E bFM (aZ aDY.res) (λ σ h => aHW E (σ p0) (σ p1) (σ p2) (σ p8) (σ p9) h) := Is.rf
abbrev bCd : fR (DV × H) := (bP (λ σ h => aHW E (σ p0) (σ p1) (σ p2) (σ p8) (σ p9) h) (aZ aDY.res))
theorem bCy : Is E bFL (bH 0 (bCd E)) (λ σ h => aHL E (σ p0) (σ p1) (σ p2) (σ p8) aY (σ p9) (σ lT) h) := Is.lp (λ n2 σ h => aHL E (σ p0) (σ p1) (σ p2) (σ p8) n2 (σ p9) (σ lT) h) λ n2 => Is.aq (Is.leaf _)
theorem bCA : iB3 E aDY (aRZ E) := Is.aq (Is.sq (Is.sq (Is.sq (Is.sq (bCz E) (Is.bk (bCy E))) (Is.leaf _)) (Is.leaf _)) (Is.leaf _))
def aQt : bB := fA3 (aRZ E)
theorem aKi : SQ aDY aQt := eB3 bCA
def aTl := cm 206
def aRY (E : aX) (r0 r1 : DV) (h : H) : aQ := cL r0 h λ x1 h2 => vK (aG 0 x1) λ x3 => vK (aF h2.get x3) λ x4 => vK (bF x4 r1) λ x5 => bK x5 (some ((.int .i64 (.negSucc 0)), h2)) (vK (aG 0 x1) λ x6 => vK (aF h2.get x6) λ x7 => vK (dA x7 r1) λ x8 => bK x8 (some ((ii 1), h2)) (some ((ii 0), h2)))
theorem bCx : iS E aTl (aRY E) := Is.rf
def aQs : bB := iN (aRY E)
theorem aKh : SQ aTl aQs := iV bCx
def fs1 : List FD := [⟨145, bFw, aHB⟩, ⟨146, bFv, aGb⟩, ⟨147, bFu, aQP⟩, ⟨148, aTF, aHA⟩, ⟨149, aEc, aHz⟩, ⟨150, aTE, aQO⟩, ⟨151, aEb, aQN⟩, ⟨152, aEa, aQM⟩, ⟨153, aTD, aQL⟩, ⟨156, aTC, aQK⟩, ⟨157, aTB, aQJ⟩, ⟨158, aTA, aQI⟩, ⟨159, aTz, aQH⟩, ⟨165, aTy, aGa⟩, ⟨166, aTx, aQG⟩, ⟨167, aTw, aQF⟩, ⟨168, aIB, aQE⟩, ⟨169, aTv, aQD⟩, ⟨178, bFt, bBM⟩, ⟨179, bFs, bBL⟩, ⟨180, aIA, bBI⟩, ⟨181, bFr, bBH⟩, ⟨182, aIz, aHy⟩, ⟨183, bFq, aHx⟩, ⟨185, aTu, aQC⟩, ⟨186, aTt, aQB⟩, ⟨187, aTs, aQA⟩, ⟨188, aTr, aQz⟩, ⟨193, aTq, aQy⟩, ⟨199, aTp, aFZ⟩, ⟨201, aDZ, aQx⟩, ⟨202, aTo, aQw⟩, ⟨203, aTn, aQv⟩, ⟨204, aTm, aQu⟩, ⟨205, aDY, aQt⟩, ⟨206, aTl, aQs⟩]
theorem bAa : oK fs1 := ⟨aWu, ⟨aWt, ⟨aWs, ⟨aKG, ⟨aKF, ⟨aKE, ⟨aKD, ⟨aKC, ⟨aKB, ⟨aKA, ⟨aKz, ⟨aKy, ⟨aKx, ⟨aKw, ⟨aKv, ⟨aKu, ⟨aKt, ⟨aKs, ⟨aWr, ⟨aWq, ⟨aWp, ⟨aWo, ⟨aWn, ⟨aWm, ⟨aKr, ⟨aKq, ⟨aKp, ⟨aKo, ⟨aKn, ⟨aWl, ⟨aKm, ⟨aKl, ⟨aKk, ⟨aKj, ⟨aKi, ⟨aKh, trivial⟩⟩⟩⟩⟩⟩⟩⟩⟩⟩⟩⟩⟩⟩⟩⟩⟩⟩⟩⟩⟩⟩⟩⟩⟩⟩⟩⟩⟩⟩⟩⟩⟩⟩⟩⟩
end Go.Proofs.YthpciaidbgjoeaaGreat
end

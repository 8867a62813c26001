/- More of the program's functions. No condition. -/
import Derived.Test.YthpciaidbgjoeaaGreatC0
set_option linter.unusedVariables false
noncomputable section
namespace Go.Proofs.YthpciaidbgjoeaaGreat
open Go.DI
variable (E : bF)
def aYe := cm 156
def aXq (r0 r1 r2 r3 r4 : DV) (h : H) : aV := wK (aC E 140 [r4] h) λ x1 h2 => vK (dT [(ii 0), (ii 0), (ii 0), (ii 0), (ii 0), .nils] [(1, 1, (ii 1)), (2, 1, r1), (3, 1, r2), (4, 1, r3), (5, 1, x1)]) λ x3 => jJ 6 6 (.list [(ii 0), (ii 0), (ii 0), (ii 0), (ii 0), .nils]) h2 λ x4 h5 => wK (eU 6 x4 x3 h5) λ x6 h7 => vK (dM .ptr false h7.get r0 .nilp) λ x8 => aQ x8 false (λ kk => vK (dE 6 h7.get x4) λ v => kk v h7) h7 λ x9 h10 => aQ x8 false (λ kk => wK (aC E 185 [x9] h10) kk) h10 λ x11 h12 => aQ x8 false (λ kk => vK (fH x11) λ v => kk v h12) h12 λ x13 h14 => vK (aN x8 (.bool true) x13) λ x15 => bK x15 (some ((.tup [(ii 0), (ii 1)]), h14)) (vK (aH r0) λ x16 => vK (aP 1 x16) λ x17 => vK (aO h14.get x17) λ x18 => vK (fV x18 (ii 256)) λ x19 => aQ x19 false (λ kk => kk r0 h14) h14 λ x20 h21 => aQ x19 false (λ kk => vK (aH x20) λ v => kk v h21) h21 λ x22 h23 => aQ x19 false (λ kk => vK (aP 0 x22) λ v => kk v h23) h23 λ x24 h25 => aQ x19 false (λ kk => vK (aO h25.get x24) λ v => kk v h25) h25 λ x26 h27 => aQ x19 false (λ kk => vK (bH x26) λ v => kk v h27) h27 λ x28 h29 => aQ x19 false (λ kk => vK (fV x28 (ii 4096)) λ v => kk v h29) h29 λ x30 h31 => vK (aN x19 (.bool true) x30) λ x32 => bK x32 (some ((.tup [(ii 0), (ii 5)]), h31)) (vK (aH r0) λ x33 => vK (aP 0 x33) λ x34 => vK (aO h31.get x34) λ x35 => vK (bH x35) λ x36 => vK (aP 0 x4) λ x37 => wK (eU 1 x37 x36 h31) λ x38 h39 => vK (aH r0) λ x40 => vK (aP 0 x40) λ x41 => vK (aO h39.get x41) λ x42 => vK (dE 6 h39.get x4) λ x43 => eX 1 6 [(ii 0), (ii 0), (ii 0), (ii 0), (ii 0), .nils] [(0, 6, x43)] h39 λ x44 h45 => wK (cT 6 64 x42 x44 h45) λ x46 h47 => vK (aH r0) λ x48 => vK (aP 0 x48) λ x49 => wK (eU 1 x49 x46 h47) λ x50 h51 => vK (aH r0) λ x52 => vK (aP 1 x52) λ x53 => vK (aO h51.get x53) λ x54 => vK (cG x54 (ii 1)) λ x55 => vK (aH r0) λ x56 => vK (aP 1 x56) λ x57 => wK (eU 1 x57 x55 h51) λ x58 h59 => vK (aP 0 x4) λ x60 => vK (aO h59.get x60) λ x61 => some ((.tup [x61, (ii 0)]), h59)))
theorem bGT : iB5 E aYe (aXq E) := Is.rf
def aWg : bU := fA5 (aXq E)
theorem aPl : SQ aYe aWg := eB5 bGT
def aYd := cm 157
def aXp (r0 : DV) (h : H) : aV := vK (dM .ptr false h.get r0 .nilp) λ x1 => bK x1 (some (.nils, h)) (vK (aH r0) λ x2 => vK (aP 0 x2) λ x3 => vK (aO h.get x3) λ x4 => wK (aC E 77 [x4] h) λ x5 h6 => some (x5, h6))
theorem bGS : nN E aYd (aXp E) := Is.rf
def aWf : bU := nG (aXp E)
theorem aPk : SQ aYd aWf := nR bGS
def aYc := cm 158
def aXo (r0 r1 r2 : DV) (h : H) : aV := vK (dM .ptr false h.get r0 .nilp) λ x1 => bK x1 (some ((ii 1), h)) (wK (aC E 139 [r0, r1] h) λ x2 h3 => vK (dM .ptr false h3.get x2 .nilp) λ x4 => bK x4 (some ((ii 7), h3)) (vK (aH x2) λ x5 => vK (aP 1 x5) λ x6 => vK (aO h3.get x6) λ x7 => vK (dR x7 (ii 1)) λ x8 => aQ x8 false (λ kk => kk x2 h3) h3 λ x9 h10 => aQ x8 false (λ kk => vK (aH x9) λ v => kk v h10) h10 λ x11 h12 => aQ x8 false (λ kk => vK (aP 2 x11) λ v => kk v h12) h12 λ x13 h14 => aQ x8 false (λ kk => vK (aO h14.get x13) λ v => kk v h14) h14 λ x15 h16 => aQ x8 false (λ kk => kk r2 h16) h16 λ x17 h18 => aQ x8 false (λ kk => vK (dR x15 x17) λ v => kk v h18) h18 λ x19 h20 => vK (aN x8 (.bool true) x19) λ x21 => bK x21 (some ((ii 16), h20)) (vK (aH x2) λ x22 => vK (aP 1 x22) λ x23 => wK (eU 1 x23 (ii 2) h20) λ x24 h25 => some ((ii 0), h25))))
theorem bGR : iB3 E aYc (aXo E) := Is.rf
def aWe : bU := fA3 (aXo E)
theorem aPj : SQ aYc aWe := eB3 bGR
def aYb := cm 159
def aXn (r0 r1 r2 r3 r4 : DV) (h : H) : aV := vK (dT [(ii 0), (ii 0), (ii 0), (ii 0)] [(0, 1, r1), (1, 1, r2), (2, 1, r3), (3, 1, r4)]) λ x1 => wK (aC E 187 [r0, x1] h) λ x2 h3 => wK (aC E 186 [x2] h3) λ x4 h5 => some (x4, h5)
theorem bGQ : iB5 E aYb (aXn E) := Is.rf
def aWd : bU := fA5 (aXn E)
theorem aPi : SQ aYb aWd := eB5 bGQ
def bIQ := cm 178
def aHq (E : bF) (r0 : DV) (h : H) : aV := dN r0 h λ x1 h2 => vK (aP 0 x1) λ x3 => vK (aO h2.get x3) λ x4 => vK (fH x4) λ x5 => some (x5, h2)
theorem bGP : nN E bIQ (aHq E) := Is.rf
def aSn : bU := nG (aHq E)
theorem bAM : SQ bIQ aSn := nR bGP
def bIP := cm 179
def aHp (r0 r1 r2 : DV) (h : H) : aV := vK (aO h.get r0) λ x1 => vK (aH x1) λ x2 => vK (aP 0 x2) λ x3 => vK (aO h.get x3) λ x4 => vK (aO h.get r1) λ x5 => vK (aO h.get r2) λ x6 => wK (aC E 180 [x4, x5, x6] h) λ x7 h8 => some (x7, h8)
theorem bGO : iB3 E bIP (aHp E) := Is.rf
def aMs : bU := fA3 (aHp E)
theorem bAL : SQ bIP aMs := eB3 bGO
def aNl := cm 180
def bJr := cr (cr (cr (cr aNl.body)))
def aNr := cl (cr (cl (cr (cr (cr aNl.body)))))
def bJq := cr (cr (cr (cl aNr)))
def bJp := cr (cr (cr (cl (cl (cr (cr (cl aNr)))))))
def aMP (E : bF) (h : H) : aV := some ((ii 0), h)
def aHn (E : bF) (i2 : DV → H → aV) (r28 : DV) (h : H) : aV := vK (cG r28 (ii 1)) λ x1 => i2 x1 h
def aHm (i2 : DV → H → aV) (r0 r2 r9 r10 r28 : DV) (h : H) : aV := vK (aH r0) λ x1 => vK (aP 0 x1) λ x2 => vK (aO h.get x2) λ x3 => vK (jP r9 (ii 64)) λ x4 => vK (cG r9 (ii 1)) λ x5 => vK (jP x5 (ii 64)) λ x6 => vK (iP r2 (some x4) (some x6)) λ x7 => vK (cW 1 x3 r10) λ x8 => wK (eU 1 x8 x7 h) λ x9 h10 => aHn E i2 r28 h10
def aEn (r0 r1 r2 r27 : DV) (i2 : DV → H → aV) (r28 : DV) (h : H) : aV := vK (bV r28 r27) λ x1 => bK x1 (vK (cG r1 r28) λ x2 => vK (aH r0) λ x3 => vK (aP 1 x3) λ x4 => vK (aO h.get x4) λ x5 => vK (uI .int (.str []) true h.get x5 x2) λ x6 => vK (aX 0 x6) λ x7 => vK (aX 1 x6) λ x8 => vK (fH x8) λ x9 => bK x9 (vK (aH r0) λ x10 => vK (aP 1 x10) λ x11 => vK (aO h.get x11) λ x12 => vK (aH r0) λ x13 => vK (aP 0 x13) λ x14 => vK (aO h.get x14) λ x15 => vK (cW 1 x15 x2) λ x16 => vK (aO h.get x16) λ x17 => wK (aBV .int x12 x2 x17 h) λ x18 h19 => aHm E i2 r0 r2 r28 x2 r28 h19) (aHm E i2 r0 r2 r28 x2 r28 h)) (aMP E h)
def qS (r0 r1 r2 r27 : DV) (n : Nat) : DV → H → aV := Nat.rec (motive := λ _ => DV → H → aV) (λ _ _ => none) (λ _ i => aEn E r0 r1 r2 r27 i) n
def aHo (r0 r1 r2 : DV) (h : H) : aV := vK (eO r2) λ x1 => vK (aBi x1 (ii 64)) λ x2 => vK (eO r2) λ x3 => vK (aNv x3 (ii 64)) λ x4 => vK (cU x4 (ii 0)) λ x5 => wK (aC E 107 [r0, r1, x2, x5] h) λ x6 h7 => vK (dR x6 (ii 0)) λ x8 => bK x8 (some (x6, h7)) (qS E r0 r1 r2 x2 aT (ii 0) h7)
theorem bGM : Is E bJr (bQ aNl.res) (λ σ h => aMP E h) := Is.rf
abbrev aWJ : iL (DV × H) := (cE 0 (cJ (λ σ h => aMP E h) (bQ aNl.res)))
abbrev aWI (n2 : Nat) : iL (DV × H) := (cJ (λ σ h => (qS E (σ p0) (σ p1) (σ p2) (σ p27) n2) (σ p28) h) (aWJ E))
theorem bGK (n2 : Nat) : Is E bJq (aWI E n2) (λ σ h => aHn E (qS E (σ p0) (σ p1) (σ p2) (σ p27) n2) (σ p28) h) := Is.rf
abbrev bGb (n2 : Nat) : iL (DV × H) := (cJ (λ σ h => aHn E (qS E (σ p0) (σ p1) (σ p2) (σ p27) n2) (σ p28) h) (aWI E n2))
theorem bGJ (n2 : Nat) : Is E bJp (cE 1 (bGb E n2)) (λ σ h => aHm E (qS E (σ p0) (σ p1) (σ p2) (σ p27) n2) (σ p0) (σ p2) (σ p9) (σ mJ) (σ p28) h) := Is.rf
theorem bGL : Is E aNr (aWJ E) (λ σ h => qS E (σ p0) (σ p1) (σ p2) (σ p27) aT (σ p28) h) := Is.lp (λ n2 σ h => qS E (σ p0) (σ p1) (σ p2) (σ p27) n2 (σ p28) h) λ n2 => Is.aq (Is.sq (Is.sq (Is.sq (bGK E n2) (Is.bk (Is.sq (Is.sq (Is.sq (bGJ E n2) (Is.leaf _)) (Is.leaf _)) (Is.leaf _)))) (Is.leaf _)) (Is.leaf _))
theorem bGN : iB3 E aNl (aHo E) := Is.aq (Is.sq (Is.sq (Is.sq (Is.sq (bGM E) (Is.sq (Is.bk (bGL E)) (Is.leaf _))) (Is.leaf _)) (Is.leaf _)) (Is.leaf _))
def aWc : bU := fA3 (aHo E)
theorem bAK : SQ aNl aWc := eB3 bGN
def bIO := cm 181
def aHl (E : bF) (r0 : DV) (h : H) : aV := vK (dM .ptr true h.get r0 .nilp) λ x1 => bK x1 (vK (aH r0) λ x2 => vK (aP 1 x2) λ x3 => vK (aO h.get x3) λ x4 => wK (lW x4 h) λ x5 h6 => some ((.tup []), h6)) (some ((.tup []), h))
theorem bGI : nN E bIO (aHl E) := Is.rf
def aKr : bU := nG (aHl E)
theorem bAJ : SQ bIO aKr := nR bGI
def aNk := cm 182
def bJo := cr (cr (cr aNk.body))
def bJn := cl (cr (cl (cr (cr aNk.body))))
def aHj (E : bF) (r5 : DV) (h : H) : aV := vK (pT (.int .u32 (.ofNat 4294967295)) r5) λ x1 => some (x1, h)
def aEm (r1 r10 : DV) (i2 : DV → DV → H → aV) (r5 r11 : DV) (h : H) : aV := vK (bV r11 r10) λ x1 => bK x1 (vK (oV r1 r11) λ x2 => vK (dF .u32 x2) λ x3 => vK (pT r5 x3) λ x4 => wK (aC E 199 [x4] h) λ x5 h6 => vK (cG r11 (ii 1)) λ x7 => i2 x5 x7 h6) (aHj E r5 h)
def aAY (r1 r10 : DV) (n : Nat) : DV → DV → H → aV := Nat.rec (motive := λ _ => DV → DV → H → aV) (λ _ _ _ => none) (λ _ i => aEm E r1 r10 i) n
def aHk (r0 r1 : DV) (h : H) : aV := vK (pT (.int .u32 (.ofNat 4294967295)) r0) λ x1 => vK (eO r1) λ x2 => aAY E r1 x2 aT x1 (ii 0) h
theorem bGG : Is E bJo (bQ aNk.res) (λ σ h => aHj E (σ p5) h) := Is.rf
abbrev bGa : iL (DV × H) := (cJ (λ σ h => aHj E (σ p5) h) (bQ aNk.res))
theorem bGF : Is E bJn (cE 0 (bGa E)) (λ σ h => aAY E (σ p1) (σ mJ) aT (σ p5) (σ tW) h) := Is.lp (λ n2 σ h => aAY E (σ p1) (σ mJ) n2 (σ p5) (σ tW) h) λ n2 => Is.aq (Is.leaf _)
theorem bGH : mO E aNk (aHk E) := Is.aq (Is.sq (Is.sq (Is.sq (bGG E) (Is.sq (Is.bk (bGF E)) (Is.leaf _))) (Is.leaf _)) (Is.leaf _))
def aMr : bU := mD (aHk E)
theorem bAI : SQ aNk aMr := mZ bGH
def bIN := cm 183
def aXl (E : bF) (r0 : DV) (h : H) : aV := vK (dF .u8 r0) λ x1 => vK (lL r0 (.int .u64 (.ofNat 8))) λ x2 => vK (dF .u8 x2) λ x3 => vK (lL r0 (.int .u64 (.ofNat 16))) λ x4 => vK (dF .u8 x4) λ x5 => vK (lL r0 (.int .u64 (.ofNat 24))) λ x6 => vK (dF .u8 x6) λ x7 => eX 4 1 [(.int .u8 (.ofNat 0))] [(0, 1, x1), (1, 1, x3), (2, 1, x5), (3, 1, x7)] h λ x8 h9 => vK (iQ h9.get x8) λ x10 => some (x10, h9)
theorem bGE : nN E bIN (aXl E) := Is.rf
def aKq : bU := nG (aXl E)
theorem bAH : SQ bIN aKq := nR bGE
def aYa := cm 185
def aHi (r0 : DV) (h : H) : aV := dN r0 h λ x1 h2 => vK (aP 2 x1) λ x3 => vK (aO h2.get x3) λ x4 => vK (fV x4 (ii 0)) λ x5 => aQ x5 true (λ kk => vK (aP 2 x1) λ v => kk v h2) h2 λ x6 h7 => aQ x5 true (λ kk => vK (aO h7.get x6) λ v => kk v h7) h7 λ x8 h9 => aQ x5 true (λ kk => vK (bV x8 (ii 16)) λ v => kk v h9) h9 λ x10 h11 => vK (aN x5 x10 (.bool false)) λ x12 => aQ x12 true (λ kk => vK (aP 3 x1) λ v => kk v h11) h11 λ x13 h14 => aQ x12 true (λ kk => vK (aO h14.get x13) λ v => kk v h14) h14 λ x15 h16 => aQ x12 true (λ kk => vK (fV x15 (ii 1)) λ v => kk v h16) h16 λ x17 h18 => vK (aN x12 x17 (.bool false)) λ x19 => aQ x19 true (λ kk => vK (aP 4 x1) λ v => kk v h18) h18 λ x20 h21 => aQ x19 true (λ kk => vK (aO h21.get x20) λ v => kk v h21) h21 λ x22 h23 => aQ x19 true (λ kk => vK (fV x22 (ii 0)) λ v => kk v h23) h23 λ x24 h25 => vK (aN x19 x24 (.bool false)) λ x26 => aQ x26 true (λ kk => vK (aP 4 x1) λ v => kk v h25) h25 λ x27 h28 => aQ x26 true (λ kk => vK (aO h28.get x27) λ v => kk v h28) h28 λ x29 h30 => aQ x26 true (λ kk => vK (uJ x29 (ii 65536)) λ v => kk v h30) h30 λ x31 h32 => vK (aN x26 x31 (.bool false)) λ x33 => aQ x33 true (λ kk => vK (aP 5 x1) λ v => kk v h32) h32 λ x34 h35 => aQ x33 true (λ kk => vK (aO h35.get x34) λ v => kk v h35) h35 λ x36 h37 => aQ x33 true (λ kk => wK (aC E 201 [x36] h37) kk) h37 λ x38 h39 => vK (aN x33 x38 (.bool false)) λ x40 => some (x40, h39)
theorem bGD : nN E aYa (aHi E) := Is.rf
def aMq : bU := nG (aHi E)
theorem aPh : SQ aYa aMq := nR bGD
def aXZ := cm 186
def aXk (r0 : DV) (h : H) : aV := vK (dT [(ii 0)] []) λ x1 => wK (aC E 202 [r0, (.ifc 284 x1)] h) λ x2 h3 => vK (fH x2) λ x4 => bK x4 (some ((ii 0), h3)) (vK (aEL 284 (.agg [(ii 0)]) true r0) λ x5 => vK (aX 0 x5) λ x6 => vK (aX 1 x5) λ x7 => jJ 1 1 (.list [(ii 0)]) h3 λ x8 h9 => wK (eU 1 x8 x6 h9) λ x10 h11 => vK (aP 0 x8) λ x12 => vK (aO h11.get x12) λ x13 => some (x13, h11))
theorem bGC : nN E aXZ (aXk E) := Is.rf
def aWb : bU := nG (aXk E)
theorem aPg : SQ aXZ aWb := nR bGC
def aXY := cm 187
def aXj (r0 r1 : DV) (h : H) : aV := dN r1 h λ x1 h2 => vK (dM .ptr false h2.get r0 .nilp) λ x3 => aQ x3 false (λ kk => vK (aP 0 x1) λ v => kk v h2) h2 λ x4 h5 => aQ x3 false (λ kk => vK (aO h5.get x4) λ v => kk v h5) h5 λ x6 h7 => aQ x3 false (λ kk => vK (bV x6 (ii 0)) λ v => kk v h7) h7 λ x8 h9 => vK (aN x3 (.bool true) x8) λ x10 => aQ x10 false (λ kk => vK (aP 0 x1) λ v => kk v h9) h9 λ x11 h12 => aQ x10 false (λ kk => vK (aO h12.get x11) λ v => kk v h12) h12 λ x13 h14 => aQ x10 false (λ kk => vK (fV x13 (ii 4096)) λ v => kk v h14) h14 λ x15 h16 => vK (aN x10 (.bool true) x15) λ x17 => aQ x17 false (λ kk => vK (dE 4 h16.get x1) λ v => kk v h16) h16 λ x18 h19 => aQ x17 false (λ kk => wK (aC E 203 [x18] h19) kk) h19 λ x20 h21 => aQ x17 false (λ kk => vK (fH x20) λ v => kk v h21) h21 λ x22 h23 => vK (aN x17 (.bool true) x22) λ x24 => bK x24 (vK (dT [(ii 0)] [(0, 1, (ii 1))]) λ x25 => some ((.ifc 284 x25), h23)) (vK (aP 0 x1) λ x26 => vK (aO h23.get x26) λ x27 => wK (aC E 188 [r0, x27] h23) λ x28 h29 => vK (aX 0 x28) λ x30 => vK (aX 1 x28) λ x31 => bK x31 (vK (dT [(ii 0)] [(0, 1, (ii 6))]) λ x32 => some ((.ifc 284 x32), h29)) (vK (aH r0) λ x33 => vK (aP 0 x33) λ x34 => vK (aO h29.get x34) λ x35 => vK (dE 4 h29.get x1) λ x36 => eX 1 4 [(ii 0), (ii 0), (ii 0), (ii 0)] [(0, 4, x36)] h29 λ x37 h38 => wK (aC E 204 [x35, x30, x37] h38) λ x39 h40 => vK (aH r0) λ x41 => vK (aP 0 x41) λ x42 => wK (eU 1 x42 x39 h40) λ x43 h44 => some (.nili, h44)))
theorem bGB : mO E aXY (aXj E) := Is.rf
def aWa : bU := mD (aXj E)
theorem aPf : SQ aXY aWa := mZ bGB
def aXX := cm 188
def aXi (r0 r1 : DV) (h : H) : aV := vK (aH r0) λ x1 => vK (aP 0 x1) λ x2 => vK (aO h.get x2) λ x3 => wK (aC E 205 [x3, r1, (.fn (.func 206) [] [])] h) λ x4 h5 => vK (aX 0 x4) λ x6 => vK (aX 1 x4) λ x7 => some ((.tup [x6, x7]), h5)
theorem bGA : mO E aXX (aXi E) := Is.rf
def aVZ : bU := mD (aXi E)
theorem aPe : SQ aXX aVZ := mZ bGA
def aXW := cm 199
def bJm := cr aXW.body
def aBe (E : bF) (i1 : DV → DV → H → aV) (r0 r3 : DV) (h : H) : aV := vK (lL r0 (.int .u64 (.ofNat 1))) λ x1 => vK (nX r0 (.int .u32 (.ofNat 1))) λ x2 => vK (xA x2) λ x3 => vK (nX (.int .u32 (.ofNat 3988292384)) x3) λ x4 => vK (pT x1 x4) λ x5 => vK (iX r3 (ii 1)) λ x6 => vK (dS x6 (ii 0)) λ x7 => bK x7 (i1 x5 x6 h) (some (x5, h))
def aAX (n : Nat) : DV → DV → H → aV := Nat.rec (motive := λ _ => DV → DV → H → aV) (λ _ _ _ => none) (λ _ i => aBe E i) n
def aXg (r0 : DV) (h : H) : aV := vK (lL r0 (.int .u64 (.ofNat 1))) λ x1 => vK (nX r0 (.int .u32 (.ofNat 1))) λ x2 => vK (xA x2) λ x3 => vK (nX (.int .u32 (.ofNat 3988292384)) x3) λ x4 => vK (pT x1 x4) λ x5 => vK (iX (ii 8) (ii 1)) λ x6 => vK (dS x6 (ii 0)) λ x7 => bK x7 (aAX E aT x5 x6 h) (some (x5, h))
def aXh (r0 : DV) (h : H) : aV := aXg E r0 h
theorem bGy : Is E bJm (bQ aXW.res) (λ σ h => aXg E (σ p0) h) := Is.aq (Is.jm (g := 4294967296) (λ n1 σ h => aAX E n1 (σ p0) (σ p3) h) (λ n1 => Is.aq (Is.leaf _)) (Is.leaf _))
theorem bGz : nN E aXW (aXh E) := Is.aq (Is.sq (bGy E) (Is.leaf _))
def aKp : bU := nG (aXh E)
theorem bAG : SQ aXW aKp := nR bGz
def aHS := cm 201
def bJl := cr (cr (cr aHS.body))
def bJk := cl (cr (cl (cr (cr aHS.body))))
def aMO (E : bF) (h : H) : aV := some ((.bool true), h)
def bJT (r0 r13 r14 : DV) (i2 : DV → H → aV) (r15 : DV) (h : H) : aV := vK (bV r15 r14) λ x1 => bK x1 (vK (cW 1 r13 r15) λ x2 => vK (aO h.get x2) λ x3 => vK (bV x3 (ii 0)) λ x4 => aQ x4 false (λ kk => kk x3 h) h λ x5 h6 => aQ x4 false (λ kk => vK (fV x5 (ii 64)) λ v => kk v h6) h6 λ x7 h8 => vK (aN x4 (.bool true) x7) λ x9 => aQ x9 false (λ kk => kk r0 h8) h8 λ x10 h11 => aQ x9 false (λ kk => kk r15 h11) h11 λ x12 h13 => aQ x9 false (λ kk => vK (fQ 1 x10 none (some x12)) λ v => kk v h13) h13 λ x14 h15 => aQ x9 false (λ kk => kk x3 h15) h15 λ x16 h17 => aQ x9 false (λ kk => wK (aC E 72 [x14, x16] h17) kk) h17 λ x18 h19 => vK (aN x9 (.bool true) x18) λ x20 => bK x20 (some ((.bool false), h19)) (vK (cG r15 (ii 1)) λ x21 => i2 x21 h19)) (aMO E h)
def aME (r0 r13 r14 : DV) (n : Nat) : DV → H → aV := Nat.rec (motive := λ _ => DV → H → aV) (λ _ _ => none) (λ _ i => bJT E r0 r13 r14 i) n
def aXf (r0 : DV) (h : H) : aV := vK (bH r0) λ x1 => vK (bV x1 (ii 2)) λ x2 => aQ x2 false (λ kk => kk r0 h) h λ x3 h4 => aQ x2 false (λ kk => vK (bH x3) λ v => kk v h4) h4 λ x5 h6 => aQ x2 false (λ kk => vK (dS x5 (ii 8)) λ v => kk v h6) h6 λ x7 h8 => vK (aN x2 (.bool true) x7) λ x9 => bK x9 (some ((.bool false), h8)) (vK (bH r0) λ x10 => aME E r0 r0 x10 aT (ii 0) h8)
theorem bGw : Is E bJl (bQ aHS.res) (λ σ h => aMO E h) := Is.rf
abbrev bFZ : iL (DV × H) := (cE 0 (cJ (λ σ h => aMO E h) (bQ aHS.res)))
theorem bGv : Is E bJk (bFZ E) (λ σ h => aME E (σ p0) (σ tV) (σ xC) aT (σ p15) h) := Is.lp (λ n2 σ h => aME E (σ p0) (σ tV) (σ xC) n2 (σ p15) h) λ n2 => Is.aq (Is.leaf _)
theorem bGx : nN E aHS (aXf E) := Is.aq (Is.sq (Is.sq (Is.sq (bGw E) (Is.sq (Is.bk (bGv E)) (Is.leaf _))) (Is.leaf _)) (Is.leaf _))
def aVY : bU := nG (aXf E)
theorem aPd : SQ aHS aVY := nR bGx
def aXV := cm 202
def aXe (r0 r1 : DV) (h : H) : aV := vK (dM .nilI false h.get r0 .nili) λ x1 => aQ x1 false (λ kk => kk r1 h) h λ x2 h3 => aQ x1 false (λ kk => vK (dM .nilI false h3.get x2 .nili) λ v => kk v h3) h3 λ x4 h5 => vK (aN x1 (.bool true) x4) λ x6 => bK x6 (vK (dM .nilD false h5.get r0 r1) λ x7 => some (x7, h5)) (wK (aC E 209 [r1] h5) λ x8 h9 => wK (aKa E [] x8 [] h9) λ x10 h11 => wK (aC E 210 [r0, r1, x10] h11) λ x12 h13 => some (x12, h13))
theorem bGu : mO E aXV (aXe E) := Is.rf
def aVX : bU := mD (aXe E)
theorem aPc : SQ aXV aVX := mZ bGu
def aXU := cm 203
def aHh (E : bF) (r0 : DV) (h : H) : aV := dN r0 h λ x1 h2 => vK (aP 1 x1) λ x3 => vK (aO h2.get x3) λ x4 => vK (fV x4 (ii 1)) λ x5 => aQ x5 true (λ kk => vK (aP 1 x1) λ v => kk v h2) h2 λ x6 h7 => aQ x5 true (λ kk => vK (aO h7.get x6) λ v => kk v h7) h7 λ x8 h9 => aQ x5 true (λ kk => vK (uJ x8 (ii 65536)) λ v => kk v h9) h9 λ x10 h11 => vK (aN x5 x10 (.bool false)) λ x12 => aQ x12 true (λ kk => vK (aP 2 x1) λ v => kk v h11) h11 λ x13 h14 => aQ x12 true (λ kk => vK (aO h14.get x13) λ v => kk v h14) h14 λ x15 h16 => aQ x12 true (λ kk => vK (fV x15 (ii 0)) λ v => kk v h16) h16 λ x17 h18 => vK (aN x12 x17 (.bool false)) λ x19 => aQ x19 true (λ kk => vK (aP 2 x1) λ v => kk v h18) h18 λ x20 h21 => aQ x19 true (λ kk => vK (aO h21.get x20) λ v => kk v h21) h21 λ x22 h23 => aQ x19 true (λ kk => vK (aP 1 x1) λ v => kk v h23) h23 λ x24 h25 => aQ x19 true (λ kk => vK (aO h25.get x24) λ v => kk v h25) h25 λ x26 h27 => aQ x19 true (λ kk => vK (uJ x22 x26) λ v => kk v h27) h27 λ x28 h29 => vK (aN x19 x28 (.bool false)) λ x30 => aQ x30 true (λ kk => vK (aP 3 x1) λ v => kk v h29) h29 λ x31 h32 => aQ x30 true (λ kk => vK (aO h32.get x31) λ v => kk v h32) h32 λ x33 h34 => aQ x30 true (λ kk => vK (fV x33 (ii 0)) λ v => kk v h34) h34 λ x35 h36 => vK (aN x30 x35 (.bool false)) λ x37 => aQ x37 true (λ kk => vK (aP 3 x1) λ v => kk v h36) h36 λ x38 h39 => aQ x37 true (λ kk => vK (aO h39.get x38) λ v => kk v h39) h39 λ x40 h41 => aQ x37 true (λ kk => vK (uJ x40 (ii 1099511627776)) λ v => kk v h41) h41 λ x42 h43 => vK (aN x37 x42 (.bool false)) λ x44 => some (x44, h43)
theorem bGt : nN E aXU (aHh E) := Is.rf
def aMp : bU := nG (aHh E)
theorem aPb : SQ aXU aMp := nR bGt
def aXT := cm 204
def aXd (r0 r1 r2 : DV) (h : H) : aV := vK (fQ 4 r0 (some r1) none) λ x1 => vK (bH r2) λ x2 => vK (cU x2 (ii 0)) λ x3 => bK x3 (some (r0, h)) (vK (bH r0) λ x4 => vK (cU r1 x4) λ x5 => bK x5 (wK (cT 4 32 r0 r2 h) λ x6 h7 => some (x6, h7)) (vK (cG x4 x2) λ x8 => vK (aCz r0) λ x9 => vK (dS x8 x9) λ x10 => bK x10 (vK (fQ 4 r0 none (some r1)) λ x11 => vK (cG x4 x2) λ x12 => vK (iX x12 r1) λ x13 => wK (aEF 4 32 [(ii 0), (ii 0), (ii 0), (ii 0)] x11 x13 h) λ x14 h15 => vK (fQ 4 x14 (some r1) none) λ x16 => wK (lF 4 x16 r2 h15) λ x17 h18 => vK (cG r1 x2) λ x19 => vK (fQ 4 x14 (some x19) none) λ x20 => vK (fQ 4 r0 (some r1) none) λ x21 => wK (lF 4 x20 x21 h18) λ x22 h23 => some (x14, h23)) (vK (cG x4 x2) λ x24 => vK (fQ 4 r0 none (some x24)) λ x25 => vK (cG r1 x2) λ x26 => vK (fQ 4 x25 (some x26) none) λ x27 => vK (aIk h.get r2 x27) λ x28 => vK (fH x28) λ x29 => bK x29 (vK (cG r1 x2) λ x30 => vK (fQ 4 x25 (some x30) none) λ x31 => vK (fQ 4 x25 (some r1) none) λ x32 => wK (lF 4 x31 x32 h) λ x33 h34 => vK (fQ 4 x25 (some r1) none) λ x35 => wK (lF 4 x35 r2 h34) λ x36 h37 => some (x25, h37)) (vK (fQ 4 x25 (some x4) none) λ x38 => wK (lF 4 x38 r2 h) λ x39 h40 => vK (fQ 4 x25 (some r1) none) λ x41 => wK (aC E 212 [x41, x2] h40) λ x42 h43 => some (x25, h43)))))
theorem bGs : iB3 E aXT (aXd E) := Is.rf
def aVW : bU := fA3 (aXd E)
theorem aPa : SQ aXT aVW := eB3 bGs
def aHR := cm 205
def bJj := cr (cr (cr (cr aHR.body)))
def bJi := cl (cl (cr (cr (cr aHR.body))))
def aMN (r0 r1 r2 r8 r9 : DV) (h : H) : aV := vK (bV r9 r8) λ x1 => aQ x1 true (λ kk => kk r2 h) h λ x2 h3 => aQ x1 true (λ kk => kk r0 h3) h3 λ x4 h5 => aQ x1 true (λ kk => kk r9 h5) h5 λ x6 h7 => aQ x1 true (λ kk => vK (cW 4 x4 x6) λ v => kk v h7) h7 λ x8 h9 => aQ x1 true (λ kk => vK (dE 4 h9.get x8) λ v => kk v h9) h9 λ x10 h11 => aQ x1 true (λ kk => kk r1 h11) h11 λ x12 h13 => aQ x1 true (λ kk => wK (lY E x2 [x10, x12] h13) kk) h13 λ x14 h15 => aQ x1 true (λ kk => vK (cU x14 (ii 0)) λ v => kk v h15) h15 λ x16 h17 => vK (aN x1 x16 (.bool false)) λ x18 => some ((.tup [r9, x18]), h17)
def bJS (r0 r1 r2 r8 : DV) (i2 : DV → DV → H → aV) (r9 r10 : DV) (h : H) : aV := vK (bV r9 r10) λ x1 => bK x1 (vK (cG r9 r10) λ x2 => vK (dF .u64 x2) λ x3 => vK (lL x3 (.int .u64 (.ofNat 1))) λ x4 => vK (dF .i64 x4) λ x5 => vK (cW 4 r0 x5) λ x6 => vK (dE 4 h.get x6) λ x7 => wK (lY E r2 [x7, r1] h) λ x8 h9 => vK (bV x8 (ii 0)) λ x10 => bK x10 (vK (cG x5 (ii 1)) λ x11 => i2 x11 r10 h9) (i2 r9 x5 h9)) (aMN E r0 r1 r2 r8 r9 h)
def aMD (r0 r1 r2 r8 : DV) (n : Nat) : DV → DV → H → aV := Nat.rec (motive := λ _ => DV → DV → H → aV) (λ _ _ _ => none) (λ _ i => bJS E r0 r1 r2 r8 i) n
def aXc (r0 r1 r2 : DV) (h : H) : aV := vK (bH r0) λ x1 => aMD E r0 r1 r2 x1 aT (ii 0) x1 h
theorem bGq : Is E bJj (bQ aHR.res) (λ σ h => aMN E (σ p0) (σ p1) (σ p2) (σ p8) (σ p9) h) := Is.rf
abbrev bFY : iL (DV × H) := (cJ (λ σ h => aMN E (σ p0) (σ p1) (σ p2) (σ p8) (σ p9) h) (bQ aHR.res))
theorem bGp : Is E bJi (cE 0 (bFY E)) (λ σ h => aMD E (σ p0) (σ p1) (σ p2) (σ p8) aT (σ p9) (σ mJ) h) := Is.lp (λ n2 σ h => aMD E (σ p0) (σ p1) (σ p2) (σ p8) n2 (σ p9) (σ mJ) h) λ n2 => Is.aq (Is.leaf _)
theorem bGr : iB3 E aHR (aXc E) := Is.aq (Is.sq (Is.sq (Is.sq (Is.sq (bGq E) (Is.bk (bGp E))) (Is.leaf _)) (Is.leaf _)) (Is.leaf _))
def aVV : bU := fA3 (aXc E)
theorem aOZ : SQ aHR aVV := eB3 bGr
def aXS := cm 206
def aXb (E : bF) (r0 r1 : DV) (h : H) : aV := dN r0 h λ x1 h2 => vK (aP 0 x1) λ x3 => vK (aO h2.get x3) λ x4 => vK (bV x4 r1) λ x5 => bK x5 (some ((.int .i64 (.negSucc 0)), h2)) (vK (aP 0 x1) λ x6 => vK (aO h2.get x6) λ x7 => vK (dS x7 r1) λ x8 => bK x8 (some ((ii 1), h2)) (some ((ii 0), h2)))
theorem bGo : mO E aXS (aXb E) := Is.rf
def aVU : bU := mD (aXb E)
theorem aOY : SQ aXS aVU := mZ bGo
def fs1 : List FD := [⟨156, aYe, aWg⟩, ⟨157, aYd, aWf⟩, ⟨158, aYc, aWe⟩, ⟨159, aYb, aWd⟩, ⟨178, bIQ, aSn⟩, ⟨179, bIP, aMs⟩, ⟨180, aNl, aWc⟩, ⟨181, bIO, aKr⟩, ⟨182, aNk, aMr⟩, ⟨183, bIN, aKq⟩, ⟨185, aYa, aMq⟩, ⟨186, aXZ, aWb⟩, ⟨187, aXY, aWa⟩, ⟨188, aXX, aVZ⟩, ⟨199, aXW, aKp⟩, ⟨201, aHS, aVY⟩, ⟨202, aXV, aVX⟩, ⟨203, aXU, aMp⟩, ⟨204, aXT, aVW⟩, ⟨205, aHR, aVV⟩, ⟨206, aXS, aVU⟩]
theorem bEk : rS fs1 := ⟨aPl, ⟨aPk, ⟨aPj, ⟨aPi, ⟨bAM, ⟨bAL, ⟨bAK, ⟨bAJ, ⟨bAI, ⟨bAH, ⟨aPh, ⟨aPg, ⟨aPf, ⟨aPe, ⟨bAG, ⟨aPd, ⟨aPc, ⟨aPb, ⟨aPa, ⟨aOZ, ⟨aOY, trivial⟩⟩⟩⟩⟩⟩⟩⟩⟩⟩⟩⟩⟩⟩⟩⟩⟩⟩⟩⟩⟩
end Go.Proofs.YthpciaidbgjoeaaGreat
end
